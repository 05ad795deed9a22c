/-
  Walks of package utf's Feeder: formOf, may, take, Feed, End, Check. Walks of package utf's Feeder: take where a form has begun. Walks of package utf's Feeder: take as one fstep, Feed, End, Check, Right.
-/
import Derived.Test.YtbajkglacfheiaaGreatDoorProg
import Derived.Test.YtbajkglacfheiaaGreatDoorPA3
import Derived.WalkKit
import Derived.Deep.QuietTactic
import Derived.BigQuiet
import Derived.Deep.RegionHeld3
import Derived.Deep.DeepCutAuto
import Derived.BigRegion
import Derived.Lib.Hide
import Derived.Outline
import Derived.LoopTactic
import Derived.Lib.ConvBytes
import Derived.WalkSpells
import Derived.WideLaws
set_option linter.unusedVariables false
set_option linter.unusedSimpArgs false
set_option maxRecDepth 100000
set_option maxHeartbeats 16000000
namespace Go.Proofs.YtbajkglacfheiaaGreatDoor
open Go.RowKit
namespace Utf

def form (c : Int) : Int × Int × Int :=
 if c < 128 then (1, 0, 0) else if c < 194 then (0, 0, 0) else if c < 224 then (2, 128, 191) else if c = 224 then (3, 160, 191)
 else if c = 237 then (3, 128, 159) else if c < 240 then (3, 128, 191) else if c = 240 then (4, 144, 191) else if c < 244 then (4, 128, 191)
 else if c = 244 then (4, 128, 143) else (0, 0, 0)
theorem form_bd (c : Int) : 0 ≤ (form c).1 ∧ (form c).1 ≤ 4 ∧ 0 ≤ (form c).2.1 ∧ (form c).2.1 ≤ 255 ∧ 0 ≤ (form c).2.2 ∧ (form c).2.2 ≤ 255 := by
 unfold form
 repeat' split
 all_goals decide
def mayB (lo hi i c : Int) : Bool := if i = 1 then decide (lo ≤ c) && decide (c ≤ hi) else decide (128 ≤ c) && decide (c ≤ 191)
end Utf
open Utf Mem

theorem formOf_any (c : Int) (h0 : 0 ≤ c) (h1 : c ≤ 255) (w : World) :
  Calls Tryz.prog 159 #[.int .u8 c] w fun e w' => e = .returned (.agg #[.int .i64 (form c).1, .int .u8 (form c).2.1, .int .u8 (form c).2.2]) ∧ BelowD w.heap.size w w' := by
 go_enter Tryz.func159, Tryz.ntmps159
 go_wp2
 all_goals
  refine bodyPost_ret (v := .agg #[.int .i64 (form c).1, .int .u8 (form c).2.1, .int .u8 (form c).2.2]) ?_ rfl ⟨rfl, (BelowD.refl _ _).alloc (Nat.le_refl _) _⟩
  simp [results, Tryz.results159, go_sem]
  try simp only [beq_iff_eq, beq_eq_false_iff_ne, ne_eq] at *
  unfold form
  repeat' split
  all_goals first | (exfalso; omega) | simp

theorem may_any (wd lo hi i c : Int) (w : World) :
  Calls Tryz.prog 160 #[.agg #[.int .i64 wd, .int .u8 lo, .int .u8 hi], .int .i64 i, .int .u8 c] w
   fun e w' => e = .returned (.bool (mayB lo hi i c)) ∧ BelowD w.heap.size w w' := by
 by_cases h1 : i = 1
 ·subst h1
  by_cases h2 : lo ≤ c <;> by_cases h3 : c ≤ hi
  all_goals
   go_enter Tryz.func160, Tryz.ntmps160
   go_wp2
   go_ret
   exact ⟨by simp [mayB, *], (BelowD.refl _ _).alloc (Nat.le_refl _) _⟩
 ·have e1 : (i == 1) = false := by simpa using h1
  by_cases h2 : 128 ≤ c <;> by_cases h3 : c ≤ 191
  all_goals
   go_enter Tryz.func160, Tryz.ntmps160
   go_wp2
   go_ret
   exact ⟨by simp [mayB, *], (BelowD.refl _ _).alloc (Nat.le_refl _) _⟩

namespace Utf
def IsFeed (w : World) (g : Nat) (p h0 h1 h2 h3 m : Int) (b : Bool) : Prop :=
 Blk w g 298 #[.int .i64 p, .int .u8 h0, .int .u8 h1, .int .u8 h2, .int .u8 h3, .int .i64 m, .bool b]
section
variable {w : World} {g : Nat} {p h0 h1 h2 h3 m : Int} {b : Bool}
theorem IsFeed.cells (h : IsFeed w g p h0 h1 h2 h3 m b) : w.cell? ⟨g, 0, none⟩ = some (.int .i64 p) ∧ w.cell? ⟨g, 1, none⟩ = some (.int .u8 h0) ∧ w.cell? ⟨g, 2, none⟩ = some (.int .u8 h1) ∧
  w.cell? ⟨g, 3, none⟩ = some (.int .u8 h2) ∧ w.cell? ⟨g, 4, none⟩ = some (.int .u8 h3) ∧ w.cell? ⟨g, 5, none⟩ = some (.int .i64 m) ∧ w.cell? ⟨g, 6, none⟩ = some (.bool b) :=
 ⟨Blk.cell h 0, Blk.cell h 1, Blk.cell h 2, Blk.cell h 3, Blk.cell h 4, Blk.cell h 5, Blk.cell h 6⟩
theorem IsFeed.frozen (h : IsFeed w g p h0 h1 h2 h3 m b) : w.frozen? ⟨g, 0, none⟩ = false ∧ w.frozen? ⟨g, 1, none⟩ = false ∧ w.frozen? ⟨g, 2, none⟩ = false ∧
  w.frozen? ⟨g, 3, none⟩ = false ∧ w.frozen? ⟨g, 4, none⟩ = false ∧ w.frozen? ⟨g, 5, none⟩ = false ∧ w.frozen? ⟨g, 6, none⟩ = false :=
 ⟨Blk.frozen h 0, Blk.frozen h 1, Blk.frozen h 2, Blk.frozen h 3, Blk.frozen h 4, Blk.frozen h 5, Blk.frozen h 6⟩
end
end Utf

theorem take_bad (g : Nat) (p h0 h1 h2 h3 c : Int) (b : Bool) (w : World) (hF : IsFeed w g p h0 h1 h2 h3 0 b) (hc0 : 0 ≤ c) (hc1 : c ≤ 255) (hw : (form c).1 ≤ 0) :
  Calls Tryz.prog 131 #[.pointer (some ⟨g, 0, none⟩), .int .u8 c] w
   fun e w' => e = .returned (.bool false) ∧ IsFeed w' g p h0 h1 h2 h3 0 b ∧ GrownD w w' (some g) := by
 have hlt := hF.lt
 obtain ⟨k0, k1, k2, k3, k4, k5, k6⟩ := IsFeed.cells hF
 obtain ⟨f0, f1, f2, f3, f4, f5, f6⟩ := IsFeed.frozen hF
 have hbd := form_bd c
 go_enter Tryz.func131, Tryz.ntmps131
 go_wp2_with fail
 refine (formOf_any c hc0 hc1 _).mono ?_
 rintro e w1 ⟨rfl, hb⟩
 obtain ⟨hc, hf⟩ := old hb.toBelow
 have hz : g < w1.heap.size := Nat.lt_of_lt_of_le hlt hb.size
 go_wp2
 go_ret
 exact ⟨rfl, (Blk.below hF hb.toBelow hlt).alloc _, grownD_alloc (grownD_of_below hb _) _⟩

theorem take_one (g : Nat) (p h0 h1 h2 h3 c : Int) (b : Bool) (w : World) (hF : IsFeed w g p h0 h1 h2 h3 0 b) (hc0 : 0 ≤ c) (hc1 : c ≤ 255) (hw : (form c).1 ≤ 1) (hw2 : 1 ≤ (form c).1) :
  Calls Tryz.prog 131 #[.pointer (some ⟨g, 0, none⟩), .int .u8 c] w
   fun e w' => e = .returned (.bool true) ∧ IsFeed w' g p h0 h1 h2 h3 0 b ∧ GrownD w w' (some g) := by
 have hlt := hF.lt
 obtain ⟨k0, k1, k2, k3, k4, k5, k6⟩ := IsFeed.cells hF
 obtain ⟨f0, f1, f2, f3, f4, f5, f6⟩ := IsFeed.frozen hF
 have hbd := form_bd c
 go_enter Tryz.func131, Tryz.ntmps131
 go_wp2_with fail
 refine (formOf_any c hc0 hc1 _).mono ?_
 rintro e w1 ⟨rfl, hb⟩
 obtain ⟨hc, hf⟩ := old hb.toBelow
 have hz : g < w1.heap.size := Nat.lt_of_lt_of_le hlt hb.size
 go_wp2
 go_ret
 exact ⟨rfl, (Blk.below hF hb.toBelow hlt).alloc _, grownD_alloc (grownD_of_below hb _) _⟩

theorem take_more (g : Nat) (p h0 h1 h2 h3 c : Int) (b : Bool) (w : World) (hF : IsFeed w g p h0 h1 h2 h3 0 b) (hc0 : 0 ≤ c) (hc1 : c ≤ 255) (hw : 1 < (form c).1) :
  Calls Tryz.prog 131 #[.pointer (some ⟨g, 0, none⟩), .int .u8 c] w
   fun e w' => e = .returned (.bool true) ∧ IsFeed w' g p c h1 h2 h3 1 b ∧ GrownD w w' (some g) := by
 have hlt := hF.lt
 obtain ⟨k0, k1, k2, k3, k4, k5, k6⟩ := IsFeed.cells hF
 obtain ⟨f0, f1, f2, f3, f4, f5, f6⟩ := IsFeed.frozen hF
 have hbd := form_bd c
 go_enter Tryz.func131, Tryz.ntmps131
 go_wp2_with fail
 refine (formOf_any c hc0 hc1 _).mono ?_
 rintro e w1 ⟨rfl, hb⟩
 obtain ⟨hc, hf⟩ := old hb.toBelow
 have hz : g < w1.heap.size := Nat.lt_of_lt_of_le hlt hb.size
 go_wp2
 go_ret
 exact ⟨rfl, ((Blk.put (Blk.put (Blk.below hF hb.toBelow hlt) 1 (.int .u8 c)) 5 (.int .i64 1)).alloc _), grownD_alloc (grownD_put (grownD_put (grownD_of_below hb _) 1 _) 5 _) _⟩
end Go.Proofs.YtbajkglacfheiaaGreatDoor
namespace Go.Proofs.YtbajkglacfheiaaGreatDoor
open Go.RowKit Utf Mem

theorem take_not (g : Nat) (p h0 h1 h2 h3 m c : Int) (b : Bool) (w : World) (hF : IsFeed w g p h0 h1 h2 h3 m b) (hc0 : 0 ≤ c) (hc1 : c ≤ 255) (hh0 : 0 ≤ h0) (hh1 : h0 ≤ 255)
  (hm1 : 1 ≤ m) (hm3 : m ≤ 3) (hno : mayB (form h0).2.1 (form h0).2.2 m c = false) :
  Calls Tryz.prog 131 #[.pointer (some ⟨g, 0, none⟩), .int .u8 c] w
   fun e w' => e = .returned (.bool false) ∧ IsFeed w' g p h0 h1 h2 h3 m b ∧ GrownD w w' (some g) := by
 have hlt := hF.lt
 obtain ⟨k0, k1, k2, k3, k4, k5, k6⟩ := IsFeed.cells hF
 obtain ⟨f0, f1, f2, f3, f4, f5, f6⟩ := IsFeed.frozen hF
 have hbd := form_bd h0
 have e0 : ((m : Int) == 0) = false := by simp; omega
 have Hno := Lib.hid hno
 clear hno
 go_enter Tryz.func131, Tryz.ntmps131
 go_wp2_with fail
 refine (formOf_any h0 hh0 hh1 _).mono ?_
 rintro e w1 ⟨rfl, hb⟩
 obtain ⟨hc, hf⟩ := old hb.toBelow
 have hz : g < w1.heap.size := Nat.lt_of_lt_of_le hlt hb.size
 go_wp2_with fail
 have hX : Blk (w1.alloc (.cells #[.int .i64 (form h0).1, .int .u8 (form h0).2.1, .int .u8 (form h0).2.2] 324)) w1.heap.size 324 #[.int .i64 (form h0).1, .int .u8 (form h0).2.1, .int .u8 (form h0).2.2] := Blk.new _ _ _
 have hF2 := (Blk.below hF hb.toBelow hlt).alloc (.cells #[.int .i64 (form h0).1, .int .u8 (form h0).2.1, .int .u8 (form h0).2.2] 324)
 have hg2 := grownD_alloc (grownD_of_below hb (some g)) (.cells #[.int .i64 (form h0).1, .int .u8 (form h0).2.1, .int .u8 (form h0).2.2] 324)
 clear hc hf hz hb k0 k1 k2 k3 k4 k5 k6 f0 f1 f2 f3 f4 f5 f6
 generalize w1.alloc (.cells #[.int .i64 (form h0).1, .int .u8 (form h0).2.1, .int .u8 (form h0).2.2] 324) = W2 at hX hF2 hg2 ⊢
 generalize w1.heap.size = gx at hX ⊢
 obtain ⟨k0, k1, k2, k3, k4, k5, k6⟩ := IsFeed.cells hF2
 have x0 := Blk.cell hX 0
 have x1 := Blk.cell hX 1
 have x2 := Blk.cell hX 2
 have hlt2 := Blk.lt hF2
 have hltx := Blk.lt hX
 go_region_held3 (fun w' => w'.cell? ⟨g, 5, none⟩ = some (.int .i64 m) ∧ w'.cell? ⟨gx, 0, none⟩ = some (.int .i64 (form h0).1) ∧ w'.cell? ⟨gx, 1, none⟩ = some (.int .u8 (form h0).2.1) ∧ w'.cell? ⟨gx, 2, none⟩ = some (.int .u8 (form h0).2.2))
  (first | go_keep | exact ⟨by rw [hb2.cell (by exact hlt2)]; exact k5, by rw [hb2.cell (by exact hltx)]; exact x0, by rw [hb2.cell (by exact hltx)]; exact x1, by rw [hb2.cell (by exact hltx)]; exact x2⟩)
  (first | (go_at_call 160; refine (may_any _ _ _ _ _ _).mono ?_; rintro e w3 ⟨rfl, hb2⟩))
 rw [Hno.out]
 go_wp2
 go_ret
 exact ⟨rfl, Blk.below (Blk.drew hF2) hb2.toBelow hlt2, grownD_below (grownD_drew hg2) hb2⟩

theorem take_last1 (g : Nat) (p h0 h1 h2 h3 c : Int) (b : Bool) (w : World) (hF : IsFeed w g p h0 h1 h2 h3 1 b) (hc0 : 0 ≤ c) (hc1 : c ≤ 255) (hh0 : 0 ≤ h0) (hh1 : h0 ≤ 255)
  (hno : mayB (form h0).2.1 (form h0).2.2 1 c = true) (hw : ((2 : Int) == (form h0).1) = true) :
  Calls Tryz.prog 131 #[.pointer (some ⟨g, 0, none⟩), .int .u8 c] w
   fun e w' => e = .returned (.bool true) ∧ IsFeed w' g p h0 c h2 h3 0 b ∧ GrownD w w' (some g) := by
 have hlt := hF.lt
 obtain ⟨k0, k1, k2, k3, k4, k5, k6⟩ := IsFeed.cells hF
 obtain ⟨f0, f1, f2, f3, f4, f5, f6⟩ := IsFeed.frozen hF
 have hbd := form_bd h0
 have e0 : ((1 : Int) == 0) = false := by decide
 have Hno := Lib.hid hno
 clear hno
 have Hw := Lib.hid hw
 clear hw
 go_enter Tryz.func131, Tryz.ntmps131
 go_wp2_with fail
 refine (formOf_any h0 hh0 hh1 _).mono ?_
 rintro e w1 ⟨rfl, hb⟩
 obtain ⟨hc, hf⟩ := old hb.toBelow
 have hz : g < w1.heap.size := Nat.lt_of_lt_of_le hlt hb.size
 go_wp2_with fail
 have hX : Blk (w1.alloc (.cells #[.int .i64 (form h0).1, .int .u8 (form h0).2.1, .int .u8 (form h0).2.2] 324)) w1.heap.size 324 #[.int .i64 (form h0).1, .int .u8 (form h0).2.1, .int .u8 (form h0).2.2] := Blk.new _ _ _
 have hF2 := (Blk.below hF hb.toBelow hlt).alloc (.cells #[.int .i64 (form h0).1, .int .u8 (form h0).2.1, .int .u8 (form h0).2.2] 324)
 have hg2 := grownD_alloc (grownD_of_below hb (some g)) (.cells #[.int .i64 (form h0).1, .int .u8 (form h0).2.1, .int .u8 (form h0).2.2] 324)
 clear hc hf hz hb k0 k1 k2 k3 k4 k5 k6 f0 f1 f2 f3 f4 f5 f6
 generalize w1.alloc (.cells #[.int .i64 (form h0).1, .int .u8 (form h0).2.1, .int .u8 (form h0).2.2] 324) = W2 at hX hF2 hg2 ⊢
 generalize w1.heap.size = gx at hX ⊢
 obtain ⟨k0, k1, k2, k3, k4, k5, k6⟩ := IsFeed.cells hF2
 have x0 := Blk.cell hX 0
 have x1 := Blk.cell hX 1
 have x2 := Blk.cell hX 2
 have hlt2 := Blk.lt hF2
 have hltx := Blk.lt hX
 go_region_held3 (fun w' => w'.cell? ⟨g, 5, none⟩ = some (.int .i64 1) ∧ w'.cell? ⟨gx, 0, none⟩ = some (.int .i64 (form h0).1) ∧ w'.cell? ⟨gx, 1, none⟩ = some (.int .u8 (form h0).2.1) ∧ w'.cell? ⟨gx, 2, none⟩ = some (.int .u8 (form h0).2.2))
  (first | go_keep | exact ⟨by rw [hb2.cell (by exact hlt2)]; exact k5, by rw [hb2.cell (by exact hltx)]; exact x0, by rw [hb2.cell (by exact hltx)]; exact x1, by rw [hb2.cell (by exact hltx)]; exact x2⟩)
  (first | (go_at_call 160; refine (may_any _ _ _ _ _ _).mono ?_; rintro e w3 ⟨rfl, hb2⟩))
 rw [Hno.out]
 obtain ⟨s5, s0, s1, s2⟩ := ‹_ ∧ _ ∧ _ ∧ _›
 have hF3 := Blk.below (Blk.drew hF2) hb2.toBelow hlt2
 have hg3 := grownD_below (grownD_drew hg2) hb2
 have hlt3 := Blk.lt hF3
 have hx3 : gx < w3.heap.size := Nat.lt_of_lt_of_le hltx hb2.size
 have hne : g ≠ gx := by rintro rfl; have := hX.symm.trans hF2; simp at this
 have hne' : gx ≠ g := fun h => hne h.symm
 clear k0 k1 k2 k3 k4 k5 k6 x0 x1 x2 hb2
 obtain ⟨k0, k1, k2, k3, k4, k5, k6⟩ := IsFeed.cells hF3
 obtain ⟨f0, f1, f2, f3, f4, f5, f6⟩ := IsFeed.frozen hF3
 go_wp2
 go_region
 have hF4 : IsFeed ((w3.setCell ⟨g, 2, none⟩ (.int .u8 c)).setCell ⟨g, 5, none⟩ (.int .i64 2)) g p h0 c h2 h3 2 b := Blk.put (Blk.put hF3 2 (.int .u8 c)) 5 (.int .i64 2)
 have hg4 : GrownD w ((w3.setCell ⟨g, 2, none⟩ (.int .u8 c)).setCell ⟨g, 5, none⟩ (.int .i64 2)) (some g) := grownD_put (grownD_put hg3 2 _) 5 _
 have hx4 : ((w3.setCell ⟨g, 2, none⟩ (.int .u8 c)).setCell ⟨g, 5, none⟩ (.int .i64 2)).cell? ⟨gx, 0, none⟩ = some (.int .i64 (form h0).1) := by
  rw [World.cell?_setCell_other _ _ _ _ (by simp), World.cell?_setCell_other _ _ _ _ (by simp)]
  exact s0
 go_wp2
 clear k0 k1 k2 k3 k4 k5 k6 f0 f1 f2 f3 f4 f5 f6 s5 s0 s1 s2
 have hw := Hw.out
 generalize ((w3.setCell ⟨g, 2, none⟩ (.int .u8 c)).setCell ⟨g, 5, none⟩ (.int .i64 2)) = W4 at hF4 hg4 hx4 ⊢
 obtain ⟨k0, k1, k2, k3, k4, k5, k6⟩ := IsFeed.cells hF4
 obtain ⟨f0, f1, f2, f3, f4, f5, f6⟩ := IsFeed.frozen hF4
 go_quiet (fail)
 go_wp2
 go_ret
 exact ⟨rfl, Blk.put hF4 5 (.int .i64 0), grownD_drewN (grownD_put hg4 5 _) _⟩

theorem take_mid1 (g : Nat) (p h0 h1 h2 h3 c : Int) (b : Bool) (w : World) (hF : IsFeed w g p h0 h1 h2 h3 1 b) (hc0 : 0 ≤ c) (hc1 : c ≤ 255) (hh0 : 0 ≤ h0) (hh1 : h0 ≤ 255)
  (hno : mayB (form h0).2.1 (form h0).2.2 1 c = true) (hw : ((2 : Int) == (form h0).1) = false) :
  Calls Tryz.prog 131 #[.pointer (some ⟨g, 0, none⟩), .int .u8 c] w
   fun e w' => e = .returned (.bool true) ∧ IsFeed w' g p h0 c h2 h3 2 b ∧ GrownD w w' (some g) := by
 have hlt := hF.lt
 obtain ⟨k0, k1, k2, k3, k4, k5, k6⟩ := IsFeed.cells hF
 obtain ⟨f0, f1, f2, f3, f4, f5, f6⟩ := IsFeed.frozen hF
 have hbd := form_bd h0
 have e0 : ((1 : Int) == 0) = false := by decide
 have Hno := Lib.hid hno
 clear hno
 have Hw := Lib.hid hw
 clear hw
 go_enter Tryz.func131, Tryz.ntmps131
 go_wp2_with fail
 refine (formOf_any h0 hh0 hh1 _).mono ?_
 rintro e w1 ⟨rfl, hb⟩
 obtain ⟨hc, hf⟩ := old hb.toBelow
 have hz : g < w1.heap.size := Nat.lt_of_lt_of_le hlt hb.size
 go_wp2_with fail
 have hX : Blk (w1.alloc (.cells #[.int .i64 (form h0).1, .int .u8 (form h0).2.1, .int .u8 (form h0).2.2] 324)) w1.heap.size 324 #[.int .i64 (form h0).1, .int .u8 (form h0).2.1, .int .u8 (form h0).2.2] := Blk.new _ _ _
 have hF2 := (Blk.below hF hb.toBelow hlt).alloc (.cells #[.int .i64 (form h0).1, .int .u8 (form h0).2.1, .int .u8 (form h0).2.2] 324)
 have hg2 := grownD_alloc (grownD_of_below hb (some g)) (.cells #[.int .i64 (form h0).1, .int .u8 (form h0).2.1, .int .u8 (form h0).2.2] 324)
 clear hc hf hz hb k0 k1 k2 k3 k4 k5 k6 f0 f1 f2 f3 f4 f5 f6
 generalize w1.alloc (.cells #[.int .i64 (form h0).1, .int .u8 (form h0).2.1, .int .u8 (form h0).2.2] 324) = W2 at hX hF2 hg2 ⊢
 generalize w1.heap.size = gx at hX ⊢
 obtain ⟨k0, k1, k2, k3, k4, k5, k6⟩ := IsFeed.cells hF2
 have x0 := Blk.cell hX 0
 have x1 := Blk.cell hX 1
 have x2 := Blk.cell hX 2
 have hlt2 := Blk.lt hF2
 have hltx := Blk.lt hX
 go_region_held3 (fun w' => w'.cell? ⟨g, 5, none⟩ = some (.int .i64 1) ∧ w'.cell? ⟨gx, 0, none⟩ = some (.int .i64 (form h0).1) ∧ w'.cell? ⟨gx, 1, none⟩ = some (.int .u8 (form h0).2.1) ∧ w'.cell? ⟨gx, 2, none⟩ = some (.int .u8 (form h0).2.2))
  (first | go_keep | exact ⟨by rw [hb2.cell (by exact hlt2)]; exact k5, by rw [hb2.cell (by exact hltx)]; exact x0, by rw [hb2.cell (by exact hltx)]; exact x1, by rw [hb2.cell (by exact hltx)]; exact x2⟩)
  (first | (go_at_call 160; refine (may_any _ _ _ _ _ _).mono ?_; rintro e w3 ⟨rfl, hb2⟩))
 rw [Hno.out]
 obtain ⟨s5, s0, s1, s2⟩ := ‹_ ∧ _ ∧ _ ∧ _›
 have hF3 := Blk.below (Blk.drew hF2) hb2.toBelow hlt2
 have hg3 := grownD_below (grownD_drew hg2) hb2
 have hlt3 := Blk.lt hF3
 have hx3 : gx < w3.heap.size := Nat.lt_of_lt_of_le hltx hb2.size
 have hne : g ≠ gx := by rintro rfl; have := hX.symm.trans hF2; simp at this
 have hne' : gx ≠ g := fun h => hne h.symm
 clear k0 k1 k2 k3 k4 k5 k6 x0 x1 x2 hb2
 obtain ⟨k0, k1, k2, k3, k4, k5, k6⟩ := IsFeed.cells hF3
 obtain ⟨f0, f1, f2, f3, f4, f5, f6⟩ := IsFeed.frozen hF3
 go_wp2
 go_region
 have hF4 : IsFeed ((w3.setCell ⟨g, 2, none⟩ (.int .u8 c)).setCell ⟨g, 5, none⟩ (.int .i64 2)) g p h0 c h2 h3 2 b := Blk.put (Blk.put hF3 2 (.int .u8 c)) 5 (.int .i64 2)
 have hg4 : GrownD w ((w3.setCell ⟨g, 2, none⟩ (.int .u8 c)).setCell ⟨g, 5, none⟩ (.int .i64 2)) (some g) := grownD_put (grownD_put hg3 2 _) 5 _
 have hx4 : ((w3.setCell ⟨g, 2, none⟩ (.int .u8 c)).setCell ⟨g, 5, none⟩ (.int .i64 2)).cell? ⟨gx, 0, none⟩ = some (.int .i64 (form h0).1) := by
  rw [World.cell?_setCell_other _ _ _ _ (by simp), World.cell?_setCell_other _ _ _ _ (by simp)]
  exact s0
 go_wp2
 clear k0 k1 k2 k3 k4 k5 k6 f0 f1 f2 f3 f4 f5 f6 s5 s0 s1 s2
 have hw := Hw.out
 generalize ((w3.setCell ⟨g, 2, none⟩ (.int .u8 c)).setCell ⟨g, 5, none⟩ (.int .i64 2)) = W4 at hF4 hg4 hx4 ⊢
 obtain ⟨k0, k1, k2, k3, k4, k5, k6⟩ := IsFeed.cells hF4
 obtain ⟨f0, f1, f2, f3, f4, f5, f6⟩ := IsFeed.frozen hF4
 go_quiet (fail)
 go_wp2
 go_ret
 exact ⟨rfl, hF4, grownD_drewN (grownD_drew hg4) _⟩

theorem take_last2 (g : Nat) (p h0 h1 h2 h3 c : Int) (b : Bool) (w : World) (hF : IsFeed w g p h0 h1 h2 h3 2 b) (hc0 : 0 ≤ c) (hc1 : c ≤ 255) (hh0 : 0 ≤ h0) (hh1 : h0 ≤ 255)
  (hno : mayB (form h0).2.1 (form h0).2.2 2 c = true) (hw : ((3 : Int) == (form h0).1) = true) :
  Calls Tryz.prog 131 #[.pointer (some ⟨g, 0, none⟩), .int .u8 c] w
   fun e w' => e = .returned (.bool true) ∧ IsFeed w' g p h0 h1 c h3 0 b ∧ GrownD w w' (some g) := by
 have hlt := hF.lt
 obtain ⟨k0, k1, k2, k3, k4, k5, k6⟩ := IsFeed.cells hF
 obtain ⟨f0, f1, f2, f3, f4, f5, f6⟩ := IsFeed.frozen hF
 have hbd := form_bd h0
 have e0 : ((2 : Int) == 0) = false := by decide
 have Hno := Lib.hid hno
 clear hno
 have Hw := Lib.hid hw
 clear hw
 go_enter Tryz.func131, Tryz.ntmps131
 go_wp2_with fail
 refine (formOf_any h0 hh0 hh1 _).mono ?_
 rintro e w1 ⟨rfl, hb⟩
 obtain ⟨hc, hf⟩ := old hb.toBelow
 have hz : g < w1.heap.size := Nat.lt_of_lt_of_le hlt hb.size
 go_wp2_with fail
 have hX : Blk (w1.alloc (.cells #[.int .i64 (form h0).1, .int .u8 (form h0).2.1, .int .u8 (form h0).2.2] 324)) w1.heap.size 324 #[.int .i64 (form h0).1, .int .u8 (form h0).2.1, .int .u8 (form h0).2.2] := Blk.new _ _ _
 have hF2 := (Blk.below hF hb.toBelow hlt).alloc (.cells #[.int .i64 (form h0).1, .int .u8 (form h0).2.1, .int .u8 (form h0).2.2] 324)
 have hg2 := grownD_alloc (grownD_of_below hb (some g)) (.cells #[.int .i64 (form h0).1, .int .u8 (form h0).2.1, .int .u8 (form h0).2.2] 324)
 clear hc hf hz hb k0 k1 k2 k3 k4 k5 k6 f0 f1 f2 f3 f4 f5 f6
 generalize w1.alloc (.cells #[.int .i64 (form h0).1, .int .u8 (form h0).2.1, .int .u8 (form h0).2.2] 324) = W2 at hX hF2 hg2 ⊢
 generalize w1.heap.size = gx at hX ⊢
 obtain ⟨k0, k1, k2, k3, k4, k5, k6⟩ := IsFeed.cells hF2
 have x0 := Blk.cell hX 0
 have x1 := Blk.cell hX 1
 have x2 := Blk.cell hX 2
 have hlt2 := Blk.lt hF2
 have hltx := Blk.lt hX
 go_region_held3 (fun w' => w'.cell? ⟨g, 5, none⟩ = some (.int .i64 2) ∧ w'.cell? ⟨gx, 0, none⟩ = some (.int .i64 (form h0).1) ∧ w'.cell? ⟨gx, 1, none⟩ = some (.int .u8 (form h0).2.1) ∧ w'.cell? ⟨gx, 2, none⟩ = some (.int .u8 (form h0).2.2))
  (first | go_keep | exact ⟨by rw [hb2.cell (by exact hlt2)]; exact k5, by rw [hb2.cell (by exact hltx)]; exact x0, by rw [hb2.cell (by exact hltx)]; exact x1, by rw [hb2.cell (by exact hltx)]; exact x2⟩)
  (first | (go_at_call 160; refine (may_any _ _ _ _ _ _).mono ?_; rintro e w3 ⟨rfl, hb2⟩))
 rw [Hno.out]
 obtain ⟨s5, s0, s1, s2⟩ := ‹_ ∧ _ ∧ _ ∧ _›
 have hF3 := Blk.below (Blk.drew hF2) hb2.toBelow hlt2
 have hg3 := grownD_below (grownD_drew hg2) hb2
 have hlt3 := Blk.lt hF3
 have hx3 : gx < w3.heap.size := Nat.lt_of_lt_of_le hltx hb2.size
 have hne : g ≠ gx := by rintro rfl; have := hX.symm.trans hF2; simp at this
 have hne' : gx ≠ g := fun h => hne h.symm
 clear k0 k1 k2 k3 k4 k5 k6 x0 x1 x2 hb2
 obtain ⟨k0, k1, k2, k3, k4, k5, k6⟩ := IsFeed.cells hF3
 obtain ⟨f0, f1, f2, f3, f4, f5, f6⟩ := IsFeed.frozen hF3
 go_wp2
 go_region
 have hF4 : IsFeed ((w3.setCell ⟨g, 3, none⟩ (.int .u8 c)).setCell ⟨g, 5, none⟩ (.int .i64 3)) g p h0 h1 c h3 3 b := Blk.put (Blk.put hF3 3 (.int .u8 c)) 5 (.int .i64 3)
 have hg4 : GrownD w ((w3.setCell ⟨g, 3, none⟩ (.int .u8 c)).setCell ⟨g, 5, none⟩ (.int .i64 3)) (some g) := grownD_put (grownD_put hg3 3 _) 5 _
 have hx4 : ((w3.setCell ⟨g, 3, none⟩ (.int .u8 c)).setCell ⟨g, 5, none⟩ (.int .i64 3)).cell? ⟨gx, 0, none⟩ = some (.int .i64 (form h0).1) := by
  rw [World.cell?_setCell_other _ _ _ _ (by simp), World.cell?_setCell_other _ _ _ _ (by simp)]
  exact s0
 go_wp2
 clear k0 k1 k2 k3 k4 k5 k6 f0 f1 f2 f3 f4 f5 f6 s5 s0 s1 s2
 have hw := Hw.out
 generalize ((w3.setCell ⟨g, 3, none⟩ (.int .u8 c)).setCell ⟨g, 5, none⟩ (.int .i64 3)) = W4 at hF4 hg4 hx4 ⊢
 obtain ⟨k0, k1, k2, k3, k4, k5, k6⟩ := IsFeed.cells hF4
 obtain ⟨f0, f1, f2, f3, f4, f5, f6⟩ := IsFeed.frozen hF4
 go_quiet (fail)
 go_wp2
 go_ret
 exact ⟨rfl, Blk.put hF4 5 (.int .i64 0), grownD_drewN (grownD_put hg4 5 _) _⟩

theorem take_mid2 (g : Nat) (p h0 h1 h2 h3 c : Int) (b : Bool) (w : World) (hF : IsFeed w g p h0 h1 h2 h3 2 b) (hc0 : 0 ≤ c) (hc1 : c ≤ 255) (hh0 : 0 ≤ h0) (hh1 : h0 ≤ 255)
  (hno : mayB (form h0).2.1 (form h0).2.2 2 c = true) (hw : ((3 : Int) == (form h0).1) = false) :
  Calls Tryz.prog 131 #[.pointer (some ⟨g, 0, none⟩), .int .u8 c] w
   fun e w' => e = .returned (.bool true) ∧ IsFeed w' g p h0 h1 c h3 3 b ∧ GrownD w w' (some g) := by
 have hlt := hF.lt
 obtain ⟨k0, k1, k2, k3, k4, k5, k6⟩ := IsFeed.cells hF
 obtain ⟨f0, f1, f2, f3, f4, f5, f6⟩ := IsFeed.frozen hF
 have hbd := form_bd h0
 have e0 : ((2 : Int) == 0) = false := by decide
 have Hno := Lib.hid hno
 clear hno
 have Hw := Lib.hid hw
 clear hw
 go_enter Tryz.func131, Tryz.ntmps131
 go_wp2_with fail
 refine (formOf_any h0 hh0 hh1 _).mono ?_
 rintro e w1 ⟨rfl, hb⟩
 obtain ⟨hc, hf⟩ := old hb.toBelow
 have hz : g < w1.heap.size := Nat.lt_of_lt_of_le hlt hb.size
 go_wp2_with fail
 have hX : Blk (w1.alloc (.cells #[.int .i64 (form h0).1, .int .u8 (form h0).2.1, .int .u8 (form h0).2.2] 324)) w1.heap.size 324 #[.int .i64 (form h0).1, .int .u8 (form h0).2.1, .int .u8 (form h0).2.2] := Blk.new _ _ _
 have hF2 := (Blk.below hF hb.toBelow hlt).alloc (.cells #[.int .i64 (form h0).1, .int .u8 (form h0).2.1, .int .u8 (form h0).2.2] 324)
 have hg2 := grownD_alloc (grownD_of_below hb (some g)) (.cells #[.int .i64 (form h0).1, .int .u8 (form h0).2.1, .int .u8 (form h0).2.2] 324)
 clear hc hf hz hb k0 k1 k2 k3 k4 k5 k6 f0 f1 f2 f3 f4 f5 f6
 generalize w1.alloc (.cells #[.int .i64 (form h0).1, .int .u8 (form h0).2.1, .int .u8 (form h0).2.2] 324) = W2 at hX hF2 hg2 ⊢
 generalize w1.heap.size = gx at hX ⊢
 obtain ⟨k0, k1, k2, k3, k4, k5, k6⟩ := IsFeed.cells hF2
 have x0 := Blk.cell hX 0
 have x1 := Blk.cell hX 1
 have x2 := Blk.cell hX 2
 have hlt2 := Blk.lt hF2
 have hltx := Blk.lt hX
 go_region_held3 (fun w' => w'.cell? ⟨g, 5, none⟩ = some (.int .i64 2) ∧ w'.cell? ⟨gx, 0, none⟩ = some (.int .i64 (form h0).1) ∧ w'.cell? ⟨gx, 1, none⟩ = some (.int .u8 (form h0).2.1) ∧ w'.cell? ⟨gx, 2, none⟩ = some (.int .u8 (form h0).2.2))
  (first | go_keep | exact ⟨by rw [hb2.cell (by exact hlt2)]; exact k5, by rw [hb2.cell (by exact hltx)]; exact x0, by rw [hb2.cell (by exact hltx)]; exact x1, by rw [hb2.cell (by exact hltx)]; exact x2⟩)
  (first | (go_at_call 160; refine (may_any _ _ _ _ _ _).mono ?_; rintro e w3 ⟨rfl, hb2⟩))
 rw [Hno.out]
 obtain ⟨s5, s0, s1, s2⟩ := ‹_ ∧ _ ∧ _ ∧ _›
 have hF3 := Blk.below (Blk.drew hF2) hb2.toBelow hlt2
 have hg3 := grownD_below (grownD_drew hg2) hb2
 have hlt3 := Blk.lt hF3
 have hx3 : gx < w3.heap.size := Nat.lt_of_lt_of_le hltx hb2.size
 have hne : g ≠ gx := by rintro rfl; have := hX.symm.trans hF2; simp at this
 have hne' : gx ≠ g := fun h => hne h.symm
 clear k0 k1 k2 k3 k4 k5 k6 x0 x1 x2 hb2
 obtain ⟨k0, k1, k2, k3, k4, k5, k6⟩ := IsFeed.cells hF3
 obtain ⟨f0, f1, f2, f3, f4, f5, f6⟩ := IsFeed.frozen hF3
 go_wp2
 go_region
 have hF4 : IsFeed ((w3.setCell ⟨g, 3, none⟩ (.int .u8 c)).setCell ⟨g, 5, none⟩ (.int .i64 3)) g p h0 h1 c h3 3 b := Blk.put (Blk.put hF3 3 (.int .u8 c)) 5 (.int .i64 3)
 have hg4 : GrownD w ((w3.setCell ⟨g, 3, none⟩ (.int .u8 c)).setCell ⟨g, 5, none⟩ (.int .i64 3)) (some g) := grownD_put (grownD_put hg3 3 _) 5 _
 have hx4 : ((w3.setCell ⟨g, 3, none⟩ (.int .u8 c)).setCell ⟨g, 5, none⟩ (.int .i64 3)).cell? ⟨gx, 0, none⟩ = some (.int .i64 (form h0).1) := by
  rw [World.cell?_setCell_other _ _ _ _ (by simp), World.cell?_setCell_other _ _ _ _ (by simp)]
  exact s0
 go_wp2
 clear k0 k1 k2 k3 k4 k5 k6 f0 f1 f2 f3 f4 f5 f6 s5 s0 s1 s2
 have hw := Hw.out
 generalize ((w3.setCell ⟨g, 3, none⟩ (.int .u8 c)).setCell ⟨g, 5, none⟩ (.int .i64 3)) = W4 at hF4 hg4 hx4 ⊢
 obtain ⟨k0, k1, k2, k3, k4, k5, k6⟩ := IsFeed.cells hF4
 obtain ⟨f0, f1, f2, f3, f4, f5, f6⟩ := IsFeed.frozen hF4
 go_quiet (fail)
 go_wp2
 go_ret
 exact ⟨rfl, hF4, grownD_drewN (grownD_drew hg4) _⟩

theorem take_last3 (g : Nat) (p h0 h1 h2 h3 c : Int) (b : Bool) (w : World) (hF : IsFeed w g p h0 h1 h2 h3 3 b) (hc0 : 0 ≤ c) (hc1 : c ≤ 255) (hh0 : 0 ≤ h0) (hh1 : h0 ≤ 255)
  (hno : mayB (form h0).2.1 (form h0).2.2 3 c = true) (hw : ((4 : Int) == (form h0).1) = true) :
  Calls Tryz.prog 131 #[.pointer (some ⟨g, 0, none⟩), .int .u8 c] w
   fun e w' => e = .returned (.bool true) ∧ IsFeed w' g p h0 h1 h2 c 0 b ∧ GrownD w w' (some g) := by
 have hlt := hF.lt
 obtain ⟨k0, k1, k2, k3, k4, k5, k6⟩ := IsFeed.cells hF
 obtain ⟨f0, f1, f2, f3, f4, f5, f6⟩ := IsFeed.frozen hF
 have hbd := form_bd h0
 have e0 : ((3 : Int) == 0) = false := by decide
 have Hno := Lib.hid hno
 clear hno
 have Hw := Lib.hid hw
 clear hw
 go_enter Tryz.func131, Tryz.ntmps131
 go_wp2_with fail
 refine (formOf_any h0 hh0 hh1 _).mono ?_
 rintro e w1 ⟨rfl, hb⟩
 obtain ⟨hc, hf⟩ := old hb.toBelow
 have hz : g < w1.heap.size := Nat.lt_of_lt_of_le hlt hb.size
 go_wp2_with fail
 have hX : Blk (w1.alloc (.cells #[.int .i64 (form h0).1, .int .u8 (form h0).2.1, .int .u8 (form h0).2.2] 324)) w1.heap.size 324 #[.int .i64 (form h0).1, .int .u8 (form h0).2.1, .int .u8 (form h0).2.2] := Blk.new _ _ _
 have hF2 := (Blk.below hF hb.toBelow hlt).alloc (.cells #[.int .i64 (form h0).1, .int .u8 (form h0).2.1, .int .u8 (form h0).2.2] 324)
 have hg2 := grownD_alloc (grownD_of_below hb (some g)) (.cells #[.int .i64 (form h0).1, .int .u8 (form h0).2.1, .int .u8 (form h0).2.2] 324)
 clear hc hf hz hb k0 k1 k2 k3 k4 k5 k6 f0 f1 f2 f3 f4 f5 f6
 generalize w1.alloc (.cells #[.int .i64 (form h0).1, .int .u8 (form h0).2.1, .int .u8 (form h0).2.2] 324) = W2 at hX hF2 hg2 ⊢
 generalize w1.heap.size = gx at hX ⊢
 obtain ⟨k0, k1, k2, k3, k4, k5, k6⟩ := IsFeed.cells hF2
 have x0 := Blk.cell hX 0
 have x1 := Blk.cell hX 1
 have x2 := Blk.cell hX 2
 have hlt2 := Blk.lt hF2
 have hltx := Blk.lt hX
 go_region_held3 (fun w' => w'.cell? ⟨g, 5, none⟩ = some (.int .i64 3) ∧ w'.cell? ⟨gx, 0, none⟩ = some (.int .i64 (form h0).1) ∧ w'.cell? ⟨gx, 1, none⟩ = some (.int .u8 (form h0).2.1) ∧ w'.cell? ⟨gx, 2, none⟩ = some (.int .u8 (form h0).2.2))
  (first | go_keep | exact ⟨by rw [hb2.cell (by exact hlt2)]; exact k5, by rw [hb2.cell (by exact hltx)]; exact x0, by rw [hb2.cell (by exact hltx)]; exact x1, by rw [hb2.cell (by exact hltx)]; exact x2⟩)
  (first | (go_at_call 160; refine (may_any _ _ _ _ _ _).mono ?_; rintro e w3 ⟨rfl, hb2⟩))
 rw [Hno.out]
 obtain ⟨s5, s0, s1, s2⟩ := ‹_ ∧ _ ∧ _ ∧ _›
 have hF3 := Blk.below (Blk.drew hF2) hb2.toBelow hlt2
 have hg3 := grownD_below (grownD_drew hg2) hb2
 have hlt3 := Blk.lt hF3
 have hx3 : gx < w3.heap.size := Nat.lt_of_lt_of_le hltx hb2.size
 have hne : g ≠ gx := by rintro rfl; have := hX.symm.trans hF2; simp at this
 have hne' : gx ≠ g := fun h => hne h.symm
 clear k0 k1 k2 k3 k4 k5 k6 x0 x1 x2 hb2
 obtain ⟨k0, k1, k2, k3, k4, k5, k6⟩ := IsFeed.cells hF3
 obtain ⟨f0, f1, f2, f3, f4, f5, f6⟩ := IsFeed.frozen hF3
 go_wp2
 go_region
 have hF4 : IsFeed ((w3.setCell ⟨g, 4, none⟩ (.int .u8 c)).setCell ⟨g, 5, none⟩ (.int .i64 4)) g p h0 h1 h2 c 4 b := Blk.put (Blk.put hF3 4 (.int .u8 c)) 5 (.int .i64 4)
 have hg4 : GrownD w ((w3.setCell ⟨g, 4, none⟩ (.int .u8 c)).setCell ⟨g, 5, none⟩ (.int .i64 4)) (some g) := grownD_put (grownD_put hg3 4 _) 5 _
 have hx4 : ((w3.setCell ⟨g, 4, none⟩ (.int .u8 c)).setCell ⟨g, 5, none⟩ (.int .i64 4)).cell? ⟨gx, 0, none⟩ = some (.int .i64 (form h0).1) := by
  rw [World.cell?_setCell_other _ _ _ _ (by simp), World.cell?_setCell_other _ _ _ _ (by simp)]
  exact s0
 go_wp2
 clear k0 k1 k2 k3 k4 k5 k6 f0 f1 f2 f3 f4 f5 f6 s5 s0 s1 s2
 have hw := Hw.out
 generalize ((w3.setCell ⟨g, 4, none⟩ (.int .u8 c)).setCell ⟨g, 5, none⟩ (.int .i64 4)) = W4 at hF4 hg4 hx4 ⊢
 obtain ⟨k0, k1, k2, k3, k4, k5, k6⟩ := IsFeed.cells hF4
 obtain ⟨f0, f1, f2, f3, f4, f5, f6⟩ := IsFeed.frozen hF4
 go_quiet (fail)
 go_wp2
 go_ret
 exact ⟨rfl, Blk.put hF4 5 (.int .i64 0), grownD_drewN (grownD_put hg4 5 _) _⟩
end Go.Proofs.YtbajkglacfheiaaGreatDoor
namespace Go.Proofs.YtbajkglacfheiaaGreatDoor
open Go.RowKit Utf Mem
namespace Utf

def fstep (h m c : Int) : Option (Int × Int) :=
 if m = 0 then (if (form c).1 = 0 then none else if 1 < (form c).1 then some (c, 1) else some (h, 0))
 else if mayB (form h).2.1 (form h).2.2 m c = true then (if m + 1 = (form h).1 then some (h, 0) else some (h, m + 1)) else none
def Inv (h m : Int) : Prop := 0 ≤ h ∧ h ≤ 255 ∧ 0 ≤ m ∧ (m = 0 ∨ m + 1 ≤ (form h).1)
theorem fstep_inv {h m c h' m' : Int} (hi : Inv h m) (hc0 : 0 ≤ c) (hc1 : c ≤ 255) (hs : fstep h m c = some (h', m')) : Inv h' m' := by
 obtain ⟨a, b, d, e⟩ := hi
 unfold fstep at hs
 repeat' split at hs
 all_goals simp only [Option.some.injEq, Prod.mk.injEq, reduceCtorEq] at hs
 all_goals obtain ⟨rfl, rfl⟩ := hs
 all_goals refine ⟨by omega, by omega, by omega, by omega⟩

def TakeP (g : Nat) (p h0 h1 h2 h3 m c : Int) (b : Bool) (w : World) (e : Ending) (w' : World) : Prop :=
 (fstep h0 m c = none → e = .returned (.bool false) ∧ IsFeed w' g p h0 h1 h2 h3 m b ∧ GrownD w w' (some g)) ∧
 (∀ h' m', fstep h0 m c = some (h', m') → ∃ k1 k2 k3, e = .returned (.bool true) ∧ IsFeed w' g p h' k1 k2 k3 m' b ∧ GrownD w w' (some g))
end Utf

theorem take_any (g : Nat) (p h0 h1 h2 h3 m c : Int) (b : Bool) (w : World) (hF : IsFeed w g p h0 h1 h2 h3 m b) (hc0 : 0 ≤ c) (hc1 : c ≤ 255) (hi : Inv h0 m) :
  Calls Tryz.prog 131 #[.pointer (some ⟨g, 0, none⟩), .int .u8 c] w (TakeP g p h0 h1 h2 h3 m c b w) := by
 obtain ⟨a0, a1, d0, d1⟩ := hi
 have hbc := form_bd c
 have hbh := form_bd h0
 by_cases hm : m = 0
 ·subst hm
  by_cases hw : (form c).1 = 0
  ·refine (take_bad g p h0 h1 h2 h3 c b w hF hc0 hc1 (by omega)).mono ?_
   rintro e w' ⟨he, h⟩
   refine ⟨fun _ => ⟨he, h⟩, fun h' m' hs => ?_⟩
   simp [fstep, hw] at hs
  ·by_cases hw2 : 1 < (form c).1
   ·refine (take_more g p h0 h1 h2 h3 c b w hF hc0 hc1 (by omega)).mono ?_
    rintro e w' ⟨he, h⟩
    refine ⟨fun hs => ?_, fun h' m' hs => ?_⟩
    ·simp [fstep, hw, hw2] at hs
    ·simp [fstep, hw, hw2] at hs
     obtain ⟨rfl, rfl⟩ := hs
     exact ⟨_, _, _, he, h⟩
   ·refine (take_one g p h0 h1 h2 h3 c b w hF hc0 hc1 (by omega) (by omega)).mono ?_
    rintro e w' ⟨he, h⟩
    refine ⟨fun hs => ?_, fun h' m' hs => ?_⟩
    ·simp [fstep, hw, hw2] at hs
    ·simp [fstep, hw, hw2] at hs
     obtain ⟨rfl, rfl⟩ := hs
     exact ⟨_, _, _, he, h⟩
 ·have hle : m + 1 ≤ (form h0).1 := by omega
  cases hno : mayB (form h0).2.1 (form h0).2.2 m c with
  | false =>
   refine (take_not g p h0 h1 h2 h3 m c b w hF hc0 hc1 a0 a1 (by omega) (by omega) hno).mono ?_
   rintro e w' ⟨he, h⟩
   refine ⟨fun _ => ⟨he, h⟩, fun h' m' hs => ?_⟩
   simp [fstep, hm, hno] at hs
  | true =>
   have hm3 : m = 1 ∨ m = 2 ∨ m = 3 := by omega
   by_cases hw : m + 1 = (form h0).1
   ·rcases hm3 with rfl | rfl | rfl
    ·refine (take_last1 g p h0 h1 h2 h3 c b w hF hc0 hc1 a0 a1 hno (by simp; omega)).mono ?_
     rintro e w' ⟨he, h⟩
     refine ⟨fun hs => ?_, fun h' m' hs => ?_⟩
     ·simp [fstep, hno, ← hw] at hs
     ·simp [fstep, hno, ← hw] at hs
      obtain ⟨rfl, rfl⟩ := hs
      exact ⟨_, _, _, he, h⟩
    ·refine (take_last2 g p h0 h1 h2 h3 c b w hF hc0 hc1 a0 a1 hno (by simp; omega)).mono ?_
     rintro e w' ⟨he, h⟩
     refine ⟨fun hs => ?_, fun h' m' hs => ?_⟩
     ·simp [fstep, hno, ← hw] at hs
     ·simp [fstep, hno, ← hw] at hs
      obtain ⟨rfl, rfl⟩ := hs
      exact ⟨_, _, _, he, h⟩
    ·refine (take_last3 g p h0 h1 h2 h3 c b w hF hc0 hc1 a0 a1 hno (by simp; omega)).mono ?_
     rintro e w' ⟨he, h⟩
     refine ⟨fun hs => ?_, fun h' m' hs => ?_⟩
     ·simp [fstep, hno, ← hw] at hs
     ·simp [fstep, hno, ← hw] at hs
      obtain ⟨rfl, rfl⟩ := hs
      exact ⟨_, _, _, he, h⟩
   ·rcases hm3 with rfl | rfl | rfl
    ·have hw' : ¬ (2 : Int) = (form h0).1 := by omega
     refine (take_mid1 g p h0 h1 h2 h3 c b w hF hc0 hc1 a0 a1 hno (by simp; omega)).mono ?_
     rintro e w' ⟨he, h⟩
     refine ⟨fun hs => ?_, fun h' m' hs => ?_⟩
     ·simp [fstep, hno, hw'] at hs
     ·simp [fstep, hno, hw'] at hs
      obtain ⟨rfl, rfl⟩ := hs
      exact ⟨_, _, _, he, h⟩
    ·have hw' : ¬ (3 : Int) = (form h0).1 := by omega
     refine (take_mid2 g p h0 h1 h2 h3 c b w hF hc0 hc1 a0 a1 hno (by simp; omega)).mono ?_
     rintro e w' ⟨he, h⟩
     refine ⟨fun hs => ?_, fun h' m' hs => ?_⟩
     ·simp [fstep, hno, hw'] at hs
     ·simp [fstep, hno, hw'] at hs
      obtain ⟨rfl, rfl⟩ := hs
      exact ⟨_, _, _, he, h⟩
    ·omega

namespace Utf
def spotV (n a : Int) : Value := .iface 122 (.agg #[.int .i64 n, .int .i64 a])
def faultV (p : Int) (b : Bool) : Value := if b then spotV 30 p else .nilIface
def endV (p m : Int) (b : Bool) : Value := if 0 < m then spotV 31 p else faultV p b
theorem endV_pos {p m : Int} {b : Bool} (h : 0 < m) : spotV 31 p = endV p m b := by simp [endV, h]
theorem endV_not {p m : Int} {b : Bool} (h : ¬ 0 < m) : faultV p b = endV p m b := by simp [endV, h]
end Utf
theorem fault_any (g : Nat) (p h0 h1 h2 h3 m : Int) (b : Bool) (w : World) (hF : IsFeed w g p h0 h1 h2 h3 m b) :
  Calls Tryz.prog 132 #[.pointer (some ⟨g, 0, none⟩)] w fun e w' => e = .returned (faultV p b) ∧ w = w' := by
 obtain ⟨k0, k1, k2, k3, k4, k5, k6⟩ := IsFeed.cells hF
 cases b
 ·go_enter Tryz.func132, Tryz.ntmps132
  go_wp2
  go_ret
  exact ⟨rfl, rfl⟩
 ·go_enter Tryz.func132, Tryz.ntmps132
  go_wp2
  go_ret
  exact ⟨rfl, rfl⟩

theorem end_any (g : Nat) (p h0 h1 h2 h3 m : Int) (b : Bool) (w : World) (hF : IsFeed w g p h0 h1 h2 h3 m b) :
  Calls Tryz.prog 91 #[.pointer (some ⟨g, 0, none⟩)] w fun e w' => e = .returned (endV p m b) ∧ w = w' := by
 obtain ⟨k0, k1, k2, k3, k4, k5, k6⟩ := IsFeed.cells hF
 by_cases h0 : 0 < m
 ·have e1 := Lib.hid (endV_pos (p := p) (b := b) h0)
  go_enter Tryz.func91, Tryz.ntmps91
  go_wp2
  go_ret
  exact ⟨congrArg Ending.returned e1.out, rfl⟩
 ·have e1 := Lib.hid (endV_not (p := p) (b := b) h0)
  go_enter Tryz.func91, Tryz.ntmps91
  go_wp2_with fail
  refine (fault_any _ _ _ _ _ _ _ _ _ hF).mono ?_
  rintro e w' ⟨rfl, rfl⟩
  go_wp2
  go_ret
  exact ⟨congrArg Ending.returned e1.out, rfl⟩

theorem new_any (w : World) : Calls Tryz.prog 89 #[] w
   fun e w' => e = .returned (.pointer (some ⟨w.heap.size, 0, none⟩)) ∧ IsFeed w' w.heap.size 0 0 0 0 0 0 false ∧ BelowD w.heap.size w w' := by
 go_enter Tryz.func89, Tryz.ntmps89
 go_wp2
 go_ret
 exact ⟨rfl, Blk.new _ _ _, (BelowD.refl _ _).alloc (Nat.le_refl _) _⟩

namespace Utf
def feed : List UInt8 → Int → Int → Int → Int × Int × Int × Bool
 | [], p, h, m => (p, h, m, false)
 | c :: r, p, h, m => match fstep h m (c.toNat : Int) with
  | none => (p, h, 0, true)
  | some x => feed r (p + 1) x.1 x.2
def Reads8 (w : World) (g : Nat) (A : Option Addr) (l : List UInt8) : Prop :=
 ∀ j (h : j < l.length), ∃ bb o, A = some ⟨bb, o, none⟩ ∧ bb ≠ g ∧ bb < w.heap.size ∧ w.cell? ⟨bb, o + j, none⟩ = some (.int .u8 (l[j].toNat : Int))
theorem Reads8.only {w w' : World} {g : Nat} {A : Option Addr} {l : List UInt8} (h : Reads8 w g A l) (hg : GrownD w w' (some g)) : Reads8 w' g A l := fun j hj => by
 obtain ⟨bb, o, rfl, hn, hl, hc⟩ := h j hj
 exact ⟨bb, o, rfl, hn, Nat.lt_of_lt_of_le hl hg.gr.size, (World.cell?_of_block (hg.gr.block _ hl (fun e => hn (by injection e)))).trans hc⟩
def FeedP (g : Nat) (l : List UInt8) (w : World) (e : Ending) (w' : World) : Prop :=
 ∃ v k1 k2 k3, e = .returned v ∧ IsFeed w' g (feed l 0 0 0).1 (feed l 0 0 0).2.1 k1 k2 k3 (feed l 0 0 0).2.2.1 (feed l 0 0 0).2.2.2 ∧ GrownD w w' (some g)
def FeedR (g : Nat) (l : List UInt8) (w : World) (i : Value) (w' : World) : Prop :=
 ∃ (k : Nat) (p h k1 k2 k3 m : Int) (b : Bool), k ≤ l.length ∧ i = .int .i64 k ∧ IsFeed w' g p h k1 k2 k3 m b ∧ GrownD w w' (some g) ∧ Inv h m ∧
  0 ≤ p ∧ p ≤ k ∧ ((b = false ∧ feed (l.drop k) p h m = feed l 0 0 0) ∨ (b = true ∧ m = 0 ∧ (p, h, m, b) = feed l 0 0 0))
theorem FeedR.start {g : Nat} {l : List UInt8} {w : World} (h : IsFeed w g 0 0 0 0 0 0 false) : FeedR g l w (.int .i64 0) w :=
 ⟨0, 0, 0, 0, 0, 0, 0, false, Nat.zero_le _, rfl, h, grownD_refl _ _, ⟨by decide, by decide, by decide, .inl rfl⟩, by decide, by decide, .inl ⟨rfl, rfl⟩⟩
end Utf

theorem feed_any (g : Nat) (A : Option Addr) (l : List UInt8) (cap : Nat) (w : World) (hl : l.length ≤ 140737488355328) (hF : IsFeed w g 0 0 0 0 0 0 false) (hR : Reads8 w g A l) :
  Calls Tryz.prog 90 #[.pointer (some ⟨g, 0, none⟩), .slice A l.length cap] w (FeedP g l w) := by
 have hlt := Blk.lt hF
 go_enter Tryz.func90, Tryz.ntmps90
 go_wp2
 go_loopw [5] (fun i wr => FeedR g l w i wr) (fun i _ => l.length - (intOf i).toNat)
 case atStart => exact FeedR.start hF
 case round =>
  obtain ⟨k, p, h, k1, k2, k3, m, b, hk, rfl, hF1, hg1, hi, hp0, hp1, hcase⟩ := hrel
  have hlt1 := Blk.lt hF1
  have hR1 := hR.only hg1
  obtain ⟨c0, c1, c2, c3, c4, c5, c6⟩ := IsFeed.cells hF1
  rcases hcase with ⟨rfl, hfd⟩ | ⟨rfl, rfl, hfd⟩
  ·by_cases hkl : k < l.length
   ·obtain ⟨bb, o, rfl, hne, hbl, hcell⟩ := hR1 k hkl
    have hb0 : (0 : Int) ≤ (l[k].toNat : Int) := by omega
    have hb1 : (l[k].toNat : Int) ≤ 255 := by have := l[k].toNat_lt; omega
    have Hfd := Lib.hid hfd
    have HF1 := Lib.hid hF1
    clear hfd hF1
    go_wp2_with fail
    refine (take_any g p h k1 k2 k3 m _ false _ HF1.out hb0 hb1 hi).mono ?_
    intro e w2 hT
    have hdrop : l.drop k = l[k] :: l.drop (k + 1) := List.drop_eq_getElem_cons hkl
    clear hcell c0 c1 c2 c3 c4 c5 c6
    cases hs : fstep h m (l[k].toNat : Int) with
    | none =>
     obtain ⟨rfl, hF2, hg2⟩ := hT.1 hs
     have hres : (p, h, 0, true) = feed l 0 0 0 := by rw [← Hfd.out, hdrop, feed, hs]
     have Hres := Lib.hid hres
     have HF2 := Lib.hid hF2
     clear hT hs hdrop hres
     obtain ⟨c0, c1, c2, c3, c4, c5, c6⟩ := IsFeed.cells hF2
     obtain ⟨f0, f1, f2, f3, f4, f5, f6⟩ := IsFeed.frozen hF2
     clear hF2
     go_wp2
     go_roundw
     case rel => exact ⟨k + 1, p, h, k1, k2, k3, 0, true, by omega, by go_num, Blk.put (Blk.put HF2.out 6 (.bool true)) 5 (.int .i64 0), grownD_put (grownD_put (grownD_trans hg1 hg2) 6 _) 5 _, ⟨hi.1, hi.2.1, by decide, .inl rfl⟩, hp0, by omega, .inr ⟨rfl, rfl, Hres.out⟩⟩
     case measure => simp [intOf]; omega
    | some x =>
     obtain ⟨j1, j2, j3, rfl, hF2, hg2⟩ := hT.2 x.1 x.2 hs
     have hres : feed (l.drop (k + 1)) (p + 1) x.1 x.2 = feed l 0 0 0 := by rw [← Hfd.out, hdrop, feed, hs]
     have hi2 := fstep_inv hi hb0 hb1 hs
     have Hres := Lib.hid hres
     have HF2 := Lib.hid hF2
     clear hT hs hdrop hres
     obtain ⟨c0, c1, c2, c3, c4, c5, c6⟩ := IsFeed.cells hF2
     obtain ⟨f0, f1, f2, f3, f4, f5, f6⟩ := IsFeed.frozen hF2
     clear hF2
     go_wp2
     go_roundw
     case rel => exact ⟨k + 1, p + 1, x.1, j1, j2, j3, x.2, false, by omega, by go_num, Blk.put HF2.out 0 (.int .i64 (p + 1)), grownD_put (grownD_trans hg1 hg2) 0 _, hi2, by omega, by omega, .inl ⟨rfl, Hres.out⟩⟩
     case measure => simp [intOf]; omega
   ·have hres : (p, h, m, false) = feed l 0 0 0 := by rw [← hfd, List.drop_eq_nil_of_le (by omega), feed]
    have Hres := Lib.hid hres
    have HF1 := Lib.hid hF1
    clear hfd hres hF1
    go_wp2_with fail
    refine (fault_any _ _ _ _ _ _ _ _ _ HF1.out).mono ?_
    rintro e w2 ⟨rfl, rfl⟩
    go_wp2
    go_ret
    refine ⟨_, k1, k2, k3, rfl, ?_, hg1⟩
    rw [← Hres.out]
    exact HF1.out
  ·have Hres := Lib.hid hfd
   have HF1 := Lib.hid hF1
   clear hfd hF1
   by_cases hkl : k < l.length
   all_goals
    go_wp2_with fail
    refine (fault_any _ _ _ _ _ _ _ _ _ HF1.out).mono ?_
    rintro e w2 ⟨rfl, rfl⟩
    go_wp2
    go_ret
    refine ⟨_, k1, k2, k3, rfl, ?_, hg1⟩
    rw [← Hres.out]
    exact HF1.out

namespace Utf
def ReadsB (w : World) (A : Option Addr) (l : List UInt8) : Prop :=
 ∀ j (h : j < l.length), ∃ bb o, A = some ⟨bb, o, none⟩ ∧ bb < w.heap.size ∧ w.cell? ⟨bb, o + j, none⟩ = some (.int .u8 (l[j].toNat : Int))
def chkV (l : List UInt8) : Value := endV (feed l 0 0 0).1 (feed l 0 0 0).2.2.1 (feed l 0 0 0).2.2.2
end Utf

theorem check_any (A : Option Addr) (l : List UInt8) (n cap : Nat) (w : World) (hn : l.length = n) (hl : n ≤ 140737488355328) (hR : ReadsB w A l) :
  Calls Tryz.prog 35 #[.slice A n cap] w fun e w' => e = .returned (chkV l) ∧ BelowD w.heap.size w w' := by
 subst hn
 go_enter Tryz.func35, Tryz.ntmps35
 go_wp2_with fail
 refine (new_any _).mono ?_
 rintro e w1 ⟨rfl, hF, hb⟩
 have hR1 : Reads8 w1 w.heap.size A l := fun j hj => by
  obtain ⟨bb, o, rfl, hlt, hc⟩ := hR j hj
  exact ⟨bb, o, rfl, by omega, Nat.lt_of_lt_of_le hlt hb.size, (hb.cell (by exact hlt)).trans hc⟩
 go_wp2_with fail
 refine (feed_any _ _ _ _ _ hl hF hR1).mono ?_
 rintro e w2 ⟨v, k1, k2, k3, rfl, hF2, hg2⟩
 go_wp2_with fail
 refine (end_any _ _ _ _ _ _ _ _ _ hF2).mono ?_
 rintro e w3 ⟨rfl, rfl⟩
 go_wp2
 go_ret
 exact ⟨rfl, hb.trans (belowD_of_grown hg2 (Nat.le_refl _) hb.size)⟩

namespace Utf
theorem conv_below (w : World) (e : TypeId) (s : ByteArray) : BelowD w.heap.size w (Lib.bytesWorld w e s) :=
 ⟨⟨rfl, rfl, rfl, by rw [Lib.bytesWorld_size]; omega, fun k hk => Lib.bytesWorld_at_old w e s k hk⟩, by show w.drawn ≤ (w.drew.drawn); simp⟩
theorem conv_reads (w : World) (e : TypeId) (s : ByteArray) : ReadsB (Lib.bytesWorld w e s) (some ⟨w.heap.size, 0, none⟩) s.data.toList := fun j hj => by
 refine ⟨_, _, rfl, by rw [Lib.bytesWorld_size]; omega, ?_⟩
 rw [Nat.zero_add, Lib.bytesWorld_cell w e s j (by simpa using hj), List.getD_eq_getElem?_getD, List.getElem?_eq_getElem hj]
 rfl
def isNil (v : Value) : Bool := match v with | .nilIface => true | _ => false
theorem chkV_cases (l : List UInt8) : chkV l = .nilIface ∨ ∃ n a, chkV l = spotV n a := by
 unfold chkV endV faultV
 repeat' split
 all_goals first | exact .inl rfl | exact .inr ⟨_, _, rfl⟩
end Utf
theorem errI : Tryz.prog.underlying 25 = some (.interface (Tryz.prog.methodsAt 25)) := by kernel_rfl
theorem err_eq_nil (w : World) : (binOp .eql 25 .nilIface .nilIface).run Tryz.prog w = .ok (.bool true) w := run_eql_nil_nil w _ errI
theorem err_ne_nil (w : World) : (binOp .neq 25 .nilIface .nilIface).run Tryz.prog w = .ok (.bool false) w := run_neq_nil_nil w _ errI
theorem err_eq_held (u : TypeId) (x : Value) (w : World) : (binOp .eql 25 (.iface u x) .nilIface).run Tryz.prog w = .ok (.bool false) w := run_eql_held_nil w _ u x errI
theorem err_ne_held (u : TypeId) (x : Value) (w : World) : (binOp .neq 25 (.iface u x) .nilIface).run Tryz.prog w = .ok (.bool true) w := run_neq_held_nil w _ u x errI
theorem right_any (s : ByteArray) (w : World) (hs : s.size ≤ 140737488355328) :
  Calls Tryz.prog 76 #[.string s] w fun e w' => e = .returned (.bool (isNil (chkV s.data.toList))) ∧ BelowD w.heap.size w w' := by
 have kc := fun (W : World) => Lib.run_convert_string_bytes (P := Tryz.prog) W 9 89 5 s Tryz.underlying9 Tryz.underlying89 Tryz.underlying5
 go_enter Tryz.func76, Tryz.ntmps76
 go_wp2_with fail
 refine (check_any _ s.data.toList _ _ _ rfl hs (conv_reads w _ s)).mono ?_
 rintro e w1 ⟨rfl, hb⟩
 have hb' := (conv_below w 5 s).trans (hb.mono (by rw [Lib.bytesWorld_size]; omega))
 have q1 := err_eq_nil
 have q2 := err_eq_held
 rcases chkV_cases s.data.toList with h | ⟨n, a, h⟩ <;> rw [h] <;> have H := Lib.hid h <;> clear h
 ·go_wp2
  go_ret
  exact ⟨by rw [H.out]; rfl, hb'⟩
 ·unfold spotV
  go_wp2
  go_ret
  exact ⟨by rw [H.out]; rfl, hb'⟩
end Go.Proofs.YtbajkglacfheiaaGreatDoor
