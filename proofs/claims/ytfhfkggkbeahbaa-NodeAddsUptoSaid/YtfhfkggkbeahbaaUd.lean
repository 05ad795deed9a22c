/-
  Walks of package utf's Feeder: formOf, may, take, Feed, End, Check.
-/
import Derived.Test.YtfhfkggkbeahbaaProg
import Derived.Test.YtfhfkggkbeahbaaDn
import Derived.WalkKit
import Derived.Deep.QuietTactic
import Derived.BigQuiet
import Derived.Deep.RegionHeld3
import Derived.Deep.DeepCutAuto
import Derived.BigRegion
import Derived.Lib.Hide
import Derived.Outline
namespace Go.Proofs.Ytfhfkggkbeahbaa
open Go.RowKit
namespace Utf

/-- what a first byte says: how wide, from where, up to where the second may go -/
def form (c : Int) : Int × Int × Int :=
  if c < 128 then (1, 0, 0) else if c < 194 then (0, 0, 0) else if c < 224 then (2, 128, 191) else if c = 224 then (3, 160, 191)
  else if c = 237 then (3, 128, 159) else if c < 240 then (3, 128, 191) else if c = 240 then (4, 144, 191) else if c < 244 then (4, 128, 191)
  else if c = 244 then (4, 128, 143) else (0, 0, 0)
theorem form_bd (c : Int) : 0 ≤ (form c).1 ∧ (form c).1 ≤ 4 ∧ 0 ≤ (form c).2.1 ∧ (form c).2.1 ≤ 255 ∧ 0 ≤ (form c).2.2 ∧ (form c).2.2 ≤ 255 := by
  unfold form
  repeat' split
  all_goals decide
def mayB (lo hi i c : Int) : Bool := if i = 1 then decide (lo ≤ c) && decide (c ≤ hi) else decide (128 ≤ c) && decide (c ≤ 191)
end Utf
open Utf Mem

set_option maxHeartbeats 1000000 in
theorem formOf_any (c : Int) (h0 : 0 ≤ c) (h1 : c ≤ 255) (w : World) :
    Calls Try.prog 76 #[.int .u8 c] w fun e w' => e = .returned (.agg #[.int .i64 (form c).1, .int .u8 (form c).2.1, .int .u8 (form c).2.2]) ∧ BelowD w.heap.size w w' := by
  go_enter Try.func76, Try.ntmps76
  go_wp2
  all_goals
    refine bodyPost_ret (v := .agg #[.int .i64 (form c).1, .int .u8 (form c).2.1, .int .u8 (form c).2.2]) ?_ rfl ⟨rfl, (BelowD.refl _ _).alloc (Nat.le_refl _) _⟩
    simp [results, Try.results76, go_sem]
    try simp only [beq_iff_eq, beq_eq_false_iff_ne, ne_eq] at *
    unfold form
    repeat' split
    all_goals first | (exfalso; omega) | simp

set_option maxHeartbeats 1000000 in
theorem may_any (wd lo hi i c : Int) (w : World) :
    Calls Try.prog 77 #[.agg #[.int .i64 wd, .int .u8 lo, .int .u8 hi], .int .i64 i, .int .u8 c] w
      fun e w' => e = .returned (.bool (mayB lo hi i c)) ∧ BelowD w.heap.size w w' := by
  by_cases h1 : i = 1
  · subst h1
    by_cases h2 : lo ≤ c <;> by_cases h3 : c ≤ hi
    all_goals
      go_enter Try.func77, Try.ntmps77
      go_wp2
      go_ret
      exact ⟨by simp [mayB, *], (BelowD.refl _ _).alloc (Nat.le_refl _) _⟩
  · have e1 : (i == 1) = false := by simpa using h1
    by_cases h2 : 128 ≤ c <;> by_cases h3 : c ≤ 191
    all_goals
      go_enter Try.func77, Try.ntmps77
      go_wp2
      go_ret
      exact ⟨by simp [mayB, *], (BelowD.refl _ _).alloc (Nat.le_refl _) _⟩

namespace Utf
/-- a Feeder's block -/
def IsFeed (w : World) (g : Nat) (p h0 h1 h2 h3 m : Int) (b : Bool) : Prop :=
  Blk w g 148 #[.int .i64 p, .int .u8 h0, .int .u8 h1, .int .u8 h2, .int .u8 h3, .int .i64 m, .bool b]
section
variable {w : World} {g : Nat} {p h0 h1 h2 h3 m : Int} {b : Bool}
theorem IsFeed.cells (h : IsFeed w g p h0 h1 h2 h3 m b) : w.cell? ⟨g, 0, none⟩ = some (.int .i64 p) ∧ w.cell? ⟨g, 1, none⟩ = some (.int .u8 h0) ∧ w.cell? ⟨g, 2, none⟩ = some (.int .u8 h1) ∧
    w.cell? ⟨g, 3, none⟩ = some (.int .u8 h2) ∧ w.cell? ⟨g, 4, none⟩ = some (.int .u8 h3) ∧ w.cell? ⟨g, 5, none⟩ = some (.int .i64 m) ∧ w.cell? ⟨g, 6, none⟩ = some (.bool b) :=
  ⟨Blk.cell h 0, Blk.cell h 1, Blk.cell h 2, Blk.cell h 3, Blk.cell h 4, Blk.cell h 5, Blk.cell h 6⟩
theorem IsFeed.frozen (h : IsFeed w g p h0 h1 h2 h3 m b) : w.frozen? ⟨g, 0, none⟩ = false ∧ w.frozen? ⟨g, 1, none⟩ = false ∧ w.frozen? ⟨g, 2, none⟩ = false ∧
    w.frozen? ⟨g, 3, none⟩ = false ∧ w.frozen? ⟨g, 4, none⟩ = false ∧ w.frozen? ⟨g, 5, none⟩ = false ∧ w.frozen? ⟨g, 6, none⟩ = false :=
  ⟨Blk.frozen h 0, Blk.frozen h 1, Blk.frozen h 2, Blk.frozen h 3, Blk.frozen h 4, Blk.frozen h 5, Blk.frozen h 6⟩
end
end Utf

set_option maxHeartbeats 1000000 in
theorem take_bad (g : Nat) (p h0 h1 h2 h3 c : Int) (b : Bool) (w : World) (hF : IsFeed w g p h0 h1 h2 h3 0 b) (hc0 : 0 ≤ c) (hc1 : c ≤ 255) (hw : (form c).1 ≤ 0) :
    Calls Try.prog 61 #[.pointer (some ⟨g, 0, none⟩), .int .u8 c] w
      fun e w' => e = .returned (.bool false) ∧ IsFeed w' g p h0 h1 h2 h3 0 b ∧ GrownD w w' (some g) := by
  have hlt := hF.lt
  obtain ⟨k0, k1, k2, k3, k4, k5, k6⟩ := IsFeed.cells hF
  obtain ⟨f0, f1, f2, f3, f4, f5, f6⟩ := IsFeed.frozen hF
  have hbd := form_bd c
  go_enter Try.func61, Try.ntmps61
  go_wp2_with fail
  refine (formOf_any c hc0 hc1 _).mono ?_
  rintro e w1 ⟨rfl, hb⟩
  obtain ⟨hc, hf⟩ := old hb.toBelow
  have hz : g < w1.heap.size := Nat.lt_of_lt_of_le hlt hb.size
  go_wp2
  go_ret
  exact ⟨rfl, (Blk.below hF hb.toBelow hlt).alloc _, grownD_alloc (grownD_of_below hb _) _⟩

set_option maxHeartbeats 1000000 in
theorem take_one (g : Nat) (p h0 h1 h2 h3 c : Int) (b : Bool) (w : World) (hF : IsFeed w g p h0 h1 h2 h3 0 b) (hc0 : 0 ≤ c) (hc1 : c ≤ 255) (hw : (form c).1 ≤ 1) (hw2 : 1 ≤ (form c).1) :
    Calls Try.prog 61 #[.pointer (some ⟨g, 0, none⟩), .int .u8 c] w
      fun e w' => e = .returned (.bool true) ∧ IsFeed w' g p h0 h1 h2 h3 0 b ∧ GrownD w w' (some g) := by
  have hlt := hF.lt
  obtain ⟨k0, k1, k2, k3, k4, k5, k6⟩ := IsFeed.cells hF
  obtain ⟨f0, f1, f2, f3, f4, f5, f6⟩ := IsFeed.frozen hF
  have hbd := form_bd c
  go_enter Try.func61, Try.ntmps61
  go_wp2_with fail
  refine (formOf_any c hc0 hc1 _).mono ?_
  rintro e w1 ⟨rfl, hb⟩
  obtain ⟨hc, hf⟩ := old hb.toBelow
  have hz : g < w1.heap.size := Nat.lt_of_lt_of_le hlt hb.size
  go_wp2
  go_ret
  exact ⟨rfl, (Blk.below hF hb.toBelow hlt).alloc _, grownD_alloc (grownD_of_below hb _) _⟩

set_option maxHeartbeats 1000000 in
theorem take_more (g : Nat) (p h0 h1 h2 h3 c : Int) (b : Bool) (w : World) (hF : IsFeed w g p h0 h1 h2 h3 0 b) (hc0 : 0 ≤ c) (hc1 : c ≤ 255) (hw : 1 < (form c).1) :
    Calls Try.prog 61 #[.pointer (some ⟨g, 0, none⟩), .int .u8 c] w
      fun e w' => e = .returned (.bool true) ∧ IsFeed w' g p c h1 h2 h3 1 b ∧ GrownD w w' (some g) := by
  have hlt := hF.lt
  obtain ⟨k0, k1, k2, k3, k4, k5, k6⟩ := IsFeed.cells hF
  obtain ⟨f0, f1, f2, f3, f4, f5, f6⟩ := IsFeed.frozen hF
  have hbd := form_bd c
  go_enter Try.func61, Try.ntmps61
  go_wp2_with fail
  refine (formOf_any c hc0 hc1 _).mono ?_
  rintro e w1 ⟨rfl, hb⟩
  obtain ⟨hc, hf⟩ := old hb.toBelow
  have hz : g < w1.heap.size := Nat.lt_of_lt_of_le hlt hb.size
  go_wp2
  go_ret
  exact ⟨rfl, ((Blk.put (Blk.put (Blk.below hF hb.toBelow hlt) 1 (.int .u8 c)) 5 (.int .i64 1)).alloc _), grownD_alloc (grownD_put (grownD_put (grownD_of_below hb _) 1 _) 5 _) _⟩
end Go.Proofs.Ytfhfkggkbeahbaa
