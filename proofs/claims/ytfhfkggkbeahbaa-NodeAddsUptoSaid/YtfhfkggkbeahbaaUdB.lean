/-
  Walks of package utf's Feeder: take where a form has begun.
-/
import Derived.Test.YtfhfkggkbeahbaaUd
namespace Go.Proofs.Ytfhfkggkbeahbaa
open Go.RowKit Utf Mem
set_option linter.unusedVariables false

set_option maxHeartbeats 4000000 in
theorem take_not (g : Nat) (p h0 h1 h2 h3 m c : Int) (b : Bool) (w : World) (hF : IsFeed w g p h0 h1 h2 h3 m b) (hc0 : 0 ≤ c) (hc1 : c ≤ 255) (hh0 : 0 ≤ h0) (hh1 : h0 ≤ 255)
    (hm1 : 1 ≤ m) (hm3 : m ≤ 3) (hno : mayB (form h0).2.1 (form h0).2.2 m c = false) :
    Calls Try.prog 61 #[.pointer (some ⟨g, 0, none⟩), .int .u8 c] w
      fun e w' => e = .returned (.bool false) ∧ IsFeed w' g p h0 h1 h2 h3 m b ∧ GrownD w w' (some g) := by
  have hlt := hF.lt
  obtain ⟨k0, k1, k2, k3, k4, k5, k6⟩ := IsFeed.cells hF
  obtain ⟨f0, f1, f2, f3, f4, f5, f6⟩ := IsFeed.frozen hF
  have hbd := form_bd h0
  have e0 : ((m : Int) == 0) = false := by simp; omega
  have Hno := Lib.hid hno
  clear hno
  go_enter Try.func61, Try.ntmps61
  go_wp2_with fail
  refine (formOf_any h0 hh0 hh1 _).mono ?_
  rintro e w1 ⟨rfl, hb⟩
  obtain ⟨hc, hf⟩ := old hb.toBelow
  have hz : g < w1.heap.size := Nat.lt_of_lt_of_le hlt hb.size
  go_wp2_with fail
  have hX : Blk (w1.alloc (.cells #[.int .i64 (form h0).1, .int .u8 (form h0).2.1, .int .u8 (form h0).2.2] 161)) w1.heap.size 161 #[.int .i64 (form h0).1, .int .u8 (form h0).2.1, .int .u8 (form h0).2.2] := Blk.new _ _ _
  have hF2 := (Blk.below hF hb.toBelow hlt).alloc (.cells #[.int .i64 (form h0).1, .int .u8 (form h0).2.1, .int .u8 (form h0).2.2] 161)
  have hg2 := grownD_alloc (grownD_of_below hb (some g)) (.cells #[.int .i64 (form h0).1, .int .u8 (form h0).2.1, .int .u8 (form h0).2.2] 161)
  clear hc hf hz hb k0 k1 k2 k3 k4 k5 k6 f0 f1 f2 f3 f4 f5 f6
  generalize w1.alloc (.cells #[.int .i64 (form h0).1, .int .u8 (form h0).2.1, .int .u8 (form h0).2.2] 161) = W2 at hX hF2 hg2 ⊢
  generalize w1.heap.size = gx at hX ⊢
  obtain ⟨k0, k1, k2, k3, k4, k5, k6⟩ := IsFeed.cells hF2
  have x0 := Blk.cell hX 0
  have x1 := Blk.cell hX 1
  have x2 := Blk.cell hX 2
  have hlt2 := Blk.lt hF2
  have hltx := Blk.lt hX
  go_region_held3 (fun w' => w'.cell? ⟨g, 5, none⟩ = some (.int .i64 m) ∧ w'.cell? ⟨gx, 0, none⟩ = some (.int .i64 (form h0).1) ∧ w'.cell? ⟨gx, 1, none⟩ = some (.int .u8 (form h0).2.1) ∧ w'.cell? ⟨gx, 2, none⟩ = some (.int .u8 (form h0).2.2))
    (first | go_keep | exact ⟨by rw [hb2.cell (by exact hlt2)]; exact k5, by rw [hb2.cell (by exact hltx)]; exact x0, by rw [hb2.cell (by exact hltx)]; exact x1, by rw [hb2.cell (by exact hltx)]; exact x2⟩)
    (first | (go_at_call 77; refine (may_any _ _ _ _ _ _).mono ?_; rintro e w3 ⟨rfl, hb2⟩))
  rw [Hno.out]
  go_wp2
  go_ret
  exact ⟨rfl, Blk.below (Blk.drew hF2) hb2.toBelow hlt2, grownD_below (grownD_drew hg2) hb2⟩

set_option maxHeartbeats 4000000 in
theorem take_last1 (g : Nat) (p h0 h1 h2 h3 c : Int) (b : Bool) (w : World) (hF : IsFeed w g p h0 h1 h2 h3 1 b) (hc0 : 0 ≤ c) (hc1 : c ≤ 255) (hh0 : 0 ≤ h0) (hh1 : h0 ≤ 255)
    (hno : mayB (form h0).2.1 (form h0).2.2 1 c = true) (hw : ((2 : Int) == (form h0).1) = true) :
    Calls Try.prog 61 #[.pointer (some ⟨g, 0, none⟩), .int .u8 c] w
      fun e w' => e = .returned (.bool true) ∧ IsFeed w' g p h0 c h2 h3 0 b ∧ GrownD w w' (some g) := by
  have hlt := hF.lt
  obtain ⟨k0, k1, k2, k3, k4, k5, k6⟩ := IsFeed.cells hF
  obtain ⟨f0, f1, f2, f3, f4, f5, f6⟩ := IsFeed.frozen hF
  have hbd := form_bd h0
  have e0 : ((1 : Int) == 0) = false := by decide
  have Hno := Lib.hid hno
  clear hno
  have Hw := Lib.hid hw
  clear hw
  go_enter Try.func61, Try.ntmps61
  go_wp2_with fail
  refine (formOf_any h0 hh0 hh1 _).mono ?_
  rintro e w1 ⟨rfl, hb⟩
  obtain ⟨hc, hf⟩ := old hb.toBelow
  have hz : g < w1.heap.size := Nat.lt_of_lt_of_le hlt hb.size
  go_wp2_with fail
  have hX : Blk (w1.alloc (.cells #[.int .i64 (form h0).1, .int .u8 (form h0).2.1, .int .u8 (form h0).2.2] 161)) w1.heap.size 161 #[.int .i64 (form h0).1, .int .u8 (form h0).2.1, .int .u8 (form h0).2.2] := Blk.new _ _ _
  have hF2 := (Blk.below hF hb.toBelow hlt).alloc (.cells #[.int .i64 (form h0).1, .int .u8 (form h0).2.1, .int .u8 (form h0).2.2] 161)
  have hg2 := grownD_alloc (grownD_of_below hb (some g)) (.cells #[.int .i64 (form h0).1, .int .u8 (form h0).2.1, .int .u8 (form h0).2.2] 161)
  clear hc hf hz hb k0 k1 k2 k3 k4 k5 k6 f0 f1 f2 f3 f4 f5 f6
  generalize w1.alloc (.cells #[.int .i64 (form h0).1, .int .u8 (form h0).2.1, .int .u8 (form h0).2.2] 161) = W2 at hX hF2 hg2 ⊢
  generalize w1.heap.size = gx at hX ⊢
  obtain ⟨k0, k1, k2, k3, k4, k5, k6⟩ := IsFeed.cells hF2
  have x0 := Blk.cell hX 0
  have x1 := Blk.cell hX 1
  have x2 := Blk.cell hX 2
  have hlt2 := Blk.lt hF2
  have hltx := Blk.lt hX
  go_region_held3 (fun w' => w'.cell? ⟨g, 5, none⟩ = some (.int .i64 1) ∧ w'.cell? ⟨gx, 0, none⟩ = some (.int .i64 (form h0).1) ∧ w'.cell? ⟨gx, 1, none⟩ = some (.int .u8 (form h0).2.1) ∧ w'.cell? ⟨gx, 2, none⟩ = some (.int .u8 (form h0).2.2))
    (first | go_keep | exact ⟨by rw [hb2.cell (by exact hlt2)]; exact k5, by rw [hb2.cell (by exact hltx)]; exact x0, by rw [hb2.cell (by exact hltx)]; exact x1, by rw [hb2.cell (by exact hltx)]; exact x2⟩)
    (first | (go_at_call 77; refine (may_any _ _ _ _ _ _).mono ?_; rintro e w3 ⟨rfl, hb2⟩))
  rw [Hno.out]
  obtain ⟨s5, s0, s1, s2⟩ := ‹_ ∧ _ ∧ _ ∧ _›
  have hF3 := Blk.below (Blk.drew hF2) hb2.toBelow hlt2
  have hg3 := grownD_below (grownD_drew hg2) hb2
  have hlt3 := Blk.lt hF3
  have hx3 : gx < w3.heap.size := Nat.lt_of_lt_of_le hltx hb2.size
  have hne : g ≠ gx := by rintro rfl; have := hX.symm.trans hF2; simp at this
  have hne' : gx ≠ g := fun h => hne h.symm
  clear k0 k1 k2 k3 k4 k5 k6 x0 x1 x2 hb2
  obtain ⟨k0, k1, k2, k3, k4, k5, k6⟩ := IsFeed.cells hF3
  obtain ⟨f0, f1, f2, f3, f4, f5, f6⟩ := IsFeed.frozen hF3
  go_wp2
  go_region
  have hF4 : IsFeed ((w3.setCell ⟨g, 2, none⟩ (.int .u8 c)).setCell ⟨g, 5, none⟩ (.int .i64 2)) g p h0 c h2 h3 2 b := Blk.put (Blk.put hF3 2 (.int .u8 c)) 5 (.int .i64 2)
  have hg4 : GrownD w ((w3.setCell ⟨g, 2, none⟩ (.int .u8 c)).setCell ⟨g, 5, none⟩ (.int .i64 2)) (some g) := grownD_put (grownD_put hg3 2 _) 5 _
  have hx4 : ((w3.setCell ⟨g, 2, none⟩ (.int .u8 c)).setCell ⟨g, 5, none⟩ (.int .i64 2)).cell? ⟨gx, 0, none⟩ = some (.int .i64 (form h0).1) := by
    rw [World.cell?_setCell_other _ _ _ _ (by simp), World.cell?_setCell_other _ _ _ _ (by simp)]
    exact s0
  go_wp2
  clear k0 k1 k2 k3 k4 k5 k6 f0 f1 f2 f3 f4 f5 f6 s5 s0 s1 s2
  have hw := Hw.out
  generalize ((w3.setCell ⟨g, 2, none⟩ (.int .u8 c)).setCell ⟨g, 5, none⟩ (.int .i64 2)) = W4 at hF4 hg4 hx4 ⊢
  obtain ⟨k0, k1, k2, k3, k4, k5, k6⟩ := IsFeed.cells hF4
  obtain ⟨f0, f1, f2, f3, f4, f5, f6⟩ := IsFeed.frozen hF4
  go_quiet (fail)
  go_wp2
  go_ret
  exact ⟨rfl, Blk.put hF4 5 (.int .i64 0), grownD_drewN (grownD_put hg4 5 _) _⟩

set_option maxHeartbeats 4000000 in
theorem take_mid1 (g : Nat) (p h0 h1 h2 h3 c : Int) (b : Bool) (w : World) (hF : IsFeed w g p h0 h1 h2 h3 1 b) (hc0 : 0 ≤ c) (hc1 : c ≤ 255) (hh0 : 0 ≤ h0) (hh1 : h0 ≤ 255)
    (hno : mayB (form h0).2.1 (form h0).2.2 1 c = true) (hw : ((2 : Int) == (form h0).1) = false) :
    Calls Try.prog 61 #[.pointer (some ⟨g, 0, none⟩), .int .u8 c] w
      fun e w' => e = .returned (.bool true) ∧ IsFeed w' g p h0 c h2 h3 2 b ∧ GrownD w w' (some g) := by
  have hlt := hF.lt
  obtain ⟨k0, k1, k2, k3, k4, k5, k6⟩ := IsFeed.cells hF
  obtain ⟨f0, f1, f2, f3, f4, f5, f6⟩ := IsFeed.frozen hF
  have hbd := form_bd h0
  have e0 : ((1 : Int) == 0) = false := by decide
  have Hno := Lib.hid hno
  clear hno
  have Hw := Lib.hid hw
  clear hw
  go_enter Try.func61, Try.ntmps61
  go_wp2_with fail
  refine (formOf_any h0 hh0 hh1 _).mono ?_
  rintro e w1 ⟨rfl, hb⟩
  obtain ⟨hc, hf⟩ := old hb.toBelow
  have hz : g < w1.heap.size := Nat.lt_of_lt_of_le hlt hb.size
  go_wp2_with fail
  have hX : Blk (w1.alloc (.cells #[.int .i64 (form h0).1, .int .u8 (form h0).2.1, .int .u8 (form h0).2.2] 161)) w1.heap.size 161 #[.int .i64 (form h0).1, .int .u8 (form h0).2.1, .int .u8 (form h0).2.2] := Blk.new _ _ _
  have hF2 := (Blk.below hF hb.toBelow hlt).alloc (.cells #[.int .i64 (form h0).1, .int .u8 (form h0).2.1, .int .u8 (form h0).2.2] 161)
  have hg2 := grownD_alloc (grownD_of_below hb (some g)) (.cells #[.int .i64 (form h0).1, .int .u8 (form h0).2.1, .int .u8 (form h0).2.2] 161)
  clear hc hf hz hb k0 k1 k2 k3 k4 k5 k6 f0 f1 f2 f3 f4 f5 f6
  generalize w1.alloc (.cells #[.int .i64 (form h0).1, .int .u8 (form h0).2.1, .int .u8 (form h0).2.2] 161) = W2 at hX hF2 hg2 ⊢
  generalize w1.heap.size = gx at hX ⊢
  obtain ⟨k0, k1, k2, k3, k4, k5, k6⟩ := IsFeed.cells hF2
  have x0 := Blk.cell hX 0
  have x1 := Blk.cell hX 1
  have x2 := Blk.cell hX 2
  have hlt2 := Blk.lt hF2
  have hltx := Blk.lt hX
  go_region_held3 (fun w' => w'.cell? ⟨g, 5, none⟩ = some (.int .i64 1) ∧ w'.cell? ⟨gx, 0, none⟩ = some (.int .i64 (form h0).1) ∧ w'.cell? ⟨gx, 1, none⟩ = some (.int .u8 (form h0).2.1) ∧ w'.cell? ⟨gx, 2, none⟩ = some (.int .u8 (form h0).2.2))
    (first | go_keep | exact ⟨by rw [hb2.cell (by exact hlt2)]; exact k5, by rw [hb2.cell (by exact hltx)]; exact x0, by rw [hb2.cell (by exact hltx)]; exact x1, by rw [hb2.cell (by exact hltx)]; exact x2⟩)
    (first | (go_at_call 77; refine (may_any _ _ _ _ _ _).mono ?_; rintro e w3 ⟨rfl, hb2⟩))
  rw [Hno.out]
  obtain ⟨s5, s0, s1, s2⟩ := ‹_ ∧ _ ∧ _ ∧ _›
  have hF3 := Blk.below (Blk.drew hF2) hb2.toBelow hlt2
  have hg3 := grownD_below (grownD_drew hg2) hb2
  have hlt3 := Blk.lt hF3
  have hx3 : gx < w3.heap.size := Nat.lt_of_lt_of_le hltx hb2.size
  have hne : g ≠ gx := by rintro rfl; have := hX.symm.trans hF2; simp at this
  have hne' : gx ≠ g := fun h => hne h.symm
  clear k0 k1 k2 k3 k4 k5 k6 x0 x1 x2 hb2
  obtain ⟨k0, k1, k2, k3, k4, k5, k6⟩ := IsFeed.cells hF3
  obtain ⟨f0, f1, f2, f3, f4, f5, f6⟩ := IsFeed.frozen hF3
  go_wp2
  go_region
  have hF4 : IsFeed ((w3.setCell ⟨g, 2, none⟩ (.int .u8 c)).setCell ⟨g, 5, none⟩ (.int .i64 2)) g p h0 c h2 h3 2 b := Blk.put (Blk.put hF3 2 (.int .u8 c)) 5 (.int .i64 2)
  have hg4 : GrownD w ((w3.setCell ⟨g, 2, none⟩ (.int .u8 c)).setCell ⟨g, 5, none⟩ (.int .i64 2)) (some g) := grownD_put (grownD_put hg3 2 _) 5 _
  have hx4 : ((w3.setCell ⟨g, 2, none⟩ (.int .u8 c)).setCell ⟨g, 5, none⟩ (.int .i64 2)).cell? ⟨gx, 0, none⟩ = some (.int .i64 (form h0).1) := by
    rw [World.cell?_setCell_other _ _ _ _ (by simp), World.cell?_setCell_other _ _ _ _ (by simp)]
    exact s0
  go_wp2
  clear k0 k1 k2 k3 k4 k5 k6 f0 f1 f2 f3 f4 f5 f6 s5 s0 s1 s2
  have hw := Hw.out
  generalize ((w3.setCell ⟨g, 2, none⟩ (.int .u8 c)).setCell ⟨g, 5, none⟩ (.int .i64 2)) = W4 at hF4 hg4 hx4 ⊢
  obtain ⟨k0, k1, k2, k3, k4, k5, k6⟩ := IsFeed.cells hF4
  obtain ⟨f0, f1, f2, f3, f4, f5, f6⟩ := IsFeed.frozen hF4
  go_quiet (fail)
  go_wp2
  go_ret
  exact ⟨rfl, hF4, grownD_drewN (grownD_drew hg4) _⟩

set_option maxHeartbeats 4000000 in
theorem take_last2 (g : Nat) (p h0 h1 h2 h3 c : Int) (b : Bool) (w : World) (hF : IsFeed w g p h0 h1 h2 h3 2 b) (hc0 : 0 ≤ c) (hc1 : c ≤ 255) (hh0 : 0 ≤ h0) (hh1 : h0 ≤ 255)
    (hno : mayB (form h0).2.1 (form h0).2.2 2 c = true) (hw : ((3 : Int) == (form h0).1) = true) :
    Calls Try.prog 61 #[.pointer (some ⟨g, 0, none⟩), .int .u8 c] w
      fun e w' => e = .returned (.bool true) ∧ IsFeed w' g p h0 h1 c h3 0 b ∧ GrownD w w' (some g) := by
  have hlt := hF.lt
  obtain ⟨k0, k1, k2, k3, k4, k5, k6⟩ := IsFeed.cells hF
  obtain ⟨f0, f1, f2, f3, f4, f5, f6⟩ := IsFeed.frozen hF
  have hbd := form_bd h0
  have e0 : ((2 : Int) == 0) = false := by decide
  have Hno := Lib.hid hno
  clear hno
  have Hw := Lib.hid hw
  clear hw
  go_enter Try.func61, Try.ntmps61
  go_wp2_with fail
  refine (formOf_any h0 hh0 hh1 _).mono ?_
  rintro e w1 ⟨rfl, hb⟩
  obtain ⟨hc, hf⟩ := old hb.toBelow
  have hz : g < w1.heap.size := Nat.lt_of_lt_of_le hlt hb.size
  go_wp2_with fail
  have hX : Blk (w1.alloc (.cells #[.int .i64 (form h0).1, .int .u8 (form h0).2.1, .int .u8 (form h0).2.2] 161)) w1.heap.size 161 #[.int .i64 (form h0).1, .int .u8 (form h0).2.1, .int .u8 (form h0).2.2] := Blk.new _ _ _
  have hF2 := (Blk.below hF hb.toBelow hlt).alloc (.cells #[.int .i64 (form h0).1, .int .u8 (form h0).2.1, .int .u8 (form h0).2.2] 161)
  have hg2 := grownD_alloc (grownD_of_below hb (some g)) (.cells #[.int .i64 (form h0).1, .int .u8 (form h0).2.1, .int .u8 (form h0).2.2] 161)
  clear hc hf hz hb k0 k1 k2 k3 k4 k5 k6 f0 f1 f2 f3 f4 f5 f6
  generalize w1.alloc (.cells #[.int .i64 (form h0).1, .int .u8 (form h0).2.1, .int .u8 (form h0).2.2] 161) = W2 at hX hF2 hg2 ⊢
  generalize w1.heap.size = gx at hX ⊢
  obtain ⟨k0, k1, k2, k3, k4, k5, k6⟩ := IsFeed.cells hF2
  have x0 := Blk.cell hX 0
  have x1 := Blk.cell hX 1
  have x2 := Blk.cell hX 2
  have hlt2 := Blk.lt hF2
  have hltx := Blk.lt hX
  go_region_held3 (fun w' => w'.cell? ⟨g, 5, none⟩ = some (.int .i64 2) ∧ w'.cell? ⟨gx, 0, none⟩ = some (.int .i64 (form h0).1) ∧ w'.cell? ⟨gx, 1, none⟩ = some (.int .u8 (form h0).2.1) ∧ w'.cell? ⟨gx, 2, none⟩ = some (.int .u8 (form h0).2.2))
    (first | go_keep | exact ⟨by rw [hb2.cell (by exact hlt2)]; exact k5, by rw [hb2.cell (by exact hltx)]; exact x0, by rw [hb2.cell (by exact hltx)]; exact x1, by rw [hb2.cell (by exact hltx)]; exact x2⟩)
    (first | (go_at_call 77; refine (may_any _ _ _ _ _ _).mono ?_; rintro e w3 ⟨rfl, hb2⟩))
  rw [Hno.out]
  obtain ⟨s5, s0, s1, s2⟩ := ‹_ ∧ _ ∧ _ ∧ _›
  have hF3 := Blk.below (Blk.drew hF2) hb2.toBelow hlt2
  have hg3 := grownD_below (grownD_drew hg2) hb2
  have hlt3 := Blk.lt hF3
  have hx3 : gx < w3.heap.size := Nat.lt_of_lt_of_le hltx hb2.size
  have hne : g ≠ gx := by rintro rfl; have := hX.symm.trans hF2; simp at this
  have hne' : gx ≠ g := fun h => hne h.symm
  clear k0 k1 k2 k3 k4 k5 k6 x0 x1 x2 hb2
  obtain ⟨k0, k1, k2, k3, k4, k5, k6⟩ := IsFeed.cells hF3
  obtain ⟨f0, f1, f2, f3, f4, f5, f6⟩ := IsFeed.frozen hF3
  go_wp2
  go_region
  have hF4 : IsFeed ((w3.setCell ⟨g, 3, none⟩ (.int .u8 c)).setCell ⟨g, 5, none⟩ (.int .i64 3)) g p h0 h1 c h3 3 b := Blk.put (Blk.put hF3 3 (.int .u8 c)) 5 (.int .i64 3)
  have hg4 : GrownD w ((w3.setCell ⟨g, 3, none⟩ (.int .u8 c)).setCell ⟨g, 5, none⟩ (.int .i64 3)) (some g) := grownD_put (grownD_put hg3 3 _) 5 _
  have hx4 : ((w3.setCell ⟨g, 3, none⟩ (.int .u8 c)).setCell ⟨g, 5, none⟩ (.int .i64 3)).cell? ⟨gx, 0, none⟩ = some (.int .i64 (form h0).1) := by
    rw [World.cell?_setCell_other _ _ _ _ (by simp), World.cell?_setCell_other _ _ _ _ (by simp)]
    exact s0
  go_wp2
  clear k0 k1 k2 k3 k4 k5 k6 f0 f1 f2 f3 f4 f5 f6 s5 s0 s1 s2
  have hw := Hw.out
  generalize ((w3.setCell ⟨g, 3, none⟩ (.int .u8 c)).setCell ⟨g, 5, none⟩ (.int .i64 3)) = W4 at hF4 hg4 hx4 ⊢
  obtain ⟨k0, k1, k2, k3, k4, k5, k6⟩ := IsFeed.cells hF4
  obtain ⟨f0, f1, f2, f3, f4, f5, f6⟩ := IsFeed.frozen hF4
  go_quiet (fail)
  go_wp2
  go_ret
  exact ⟨rfl, Blk.put hF4 5 (.int .i64 0), grownD_drewN (grownD_put hg4 5 _) _⟩

set_option maxHeartbeats 4000000 in
theorem take_mid2 (g : Nat) (p h0 h1 h2 h3 c : Int) (b : Bool) (w : World) (hF : IsFeed w g p h0 h1 h2 h3 2 b) (hc0 : 0 ≤ c) (hc1 : c ≤ 255) (hh0 : 0 ≤ h0) (hh1 : h0 ≤ 255)
    (hno : mayB (form h0).2.1 (form h0).2.2 2 c = true) (hw : ((3 : Int) == (form h0).1) = false) :
    Calls Try.prog 61 #[.pointer (some ⟨g, 0, none⟩), .int .u8 c] w
      fun e w' => e = .returned (.bool true) ∧ IsFeed w' g p h0 h1 c h3 3 b ∧ GrownD w w' (some g) := by
  have hlt := hF.lt
  obtain ⟨k0, k1, k2, k3, k4, k5, k6⟩ := IsFeed.cells hF
  obtain ⟨f0, f1, f2, f3, f4, f5, f6⟩ := IsFeed.frozen hF
  have hbd := form_bd h0
  have e0 : ((2 : Int) == 0) = false := by decide
  have Hno := Lib.hid hno
  clear hno
  have Hw := Lib.hid hw
  clear hw
  go_enter Try.func61, Try.ntmps61
  go_wp2_with fail
  refine (formOf_any h0 hh0 hh1 _).mono ?_
  rintro e w1 ⟨rfl, hb⟩
  obtain ⟨hc, hf⟩ := old hb.toBelow
  have hz : g < w1.heap.size := Nat.lt_of_lt_of_le hlt hb.size
  go_wp2_with fail
  have hX : Blk (w1.alloc (.cells #[.int .i64 (form h0).1, .int .u8 (form h0).2.1, .int .u8 (form h0).2.2] 161)) w1.heap.size 161 #[.int .i64 (form h0).1, .int .u8 (form h0).2.1, .int .u8 (form h0).2.2] := Blk.new _ _ _
  have hF2 := (Blk.below hF hb.toBelow hlt).alloc (.cells #[.int .i64 (form h0).1, .int .u8 (form h0).2.1, .int .u8 (form h0).2.2] 161)
  have hg2 := grownD_alloc (grownD_of_below hb (some g)) (.cells #[.int .i64 (form h0).1, .int .u8 (form h0).2.1, .int .u8 (form h0).2.2] 161)
  clear hc hf hz hb k0 k1 k2 k3 k4 k5 k6 f0 f1 f2 f3 f4 f5 f6
  generalize w1.alloc (.cells #[.int .i64 (form h0).1, .int .u8 (form h0).2.1, .int .u8 (form h0).2.2] 161) = W2 at hX hF2 hg2 ⊢
  generalize w1.heap.size = gx at hX ⊢
  obtain ⟨k0, k1, k2, k3, k4, k5, k6⟩ := IsFeed.cells hF2
  have x0 := Blk.cell hX 0
  have x1 := Blk.cell hX 1
  have x2 := Blk.cell hX 2
  have hlt2 := Blk.lt hF2
  have hltx := Blk.lt hX
  go_region_held3 (fun w' => w'.cell? ⟨g, 5, none⟩ = some (.int .i64 2) ∧ w'.cell? ⟨gx, 0, none⟩ = some (.int .i64 (form h0).1) ∧ w'.cell? ⟨gx, 1, none⟩ = some (.int .u8 (form h0).2.1) ∧ w'.cell? ⟨gx, 2, none⟩ = some (.int .u8 (form h0).2.2))
    (first | go_keep | exact ⟨by rw [hb2.cell (by exact hlt2)]; exact k5, by rw [hb2.cell (by exact hltx)]; exact x0, by rw [hb2.cell (by exact hltx)]; exact x1, by rw [hb2.cell (by exact hltx)]; exact x2⟩)
    (first | (go_at_call 77; refine (may_any _ _ _ _ _ _).mono ?_; rintro e w3 ⟨rfl, hb2⟩))
  rw [Hno.out]
  obtain ⟨s5, s0, s1, s2⟩ := ‹_ ∧ _ ∧ _ ∧ _›
  have hF3 := Blk.below (Blk.drew hF2) hb2.toBelow hlt2
  have hg3 := grownD_below (grownD_drew hg2) hb2
  have hlt3 := Blk.lt hF3
  have hx3 : gx < w3.heap.size := Nat.lt_of_lt_of_le hltx hb2.size
  have hne : g ≠ gx := by rintro rfl; have := hX.symm.trans hF2; simp at this
  have hne' : gx ≠ g := fun h => hne h.symm
  clear k0 k1 k2 k3 k4 k5 k6 x0 x1 x2 hb2
  obtain ⟨k0, k1, k2, k3, k4, k5, k6⟩ := IsFeed.cells hF3
  obtain ⟨f0, f1, f2, f3, f4, f5, f6⟩ := IsFeed.frozen hF3
  go_wp2
  go_region
  have hF4 : IsFeed ((w3.setCell ⟨g, 3, none⟩ (.int .u8 c)).setCell ⟨g, 5, none⟩ (.int .i64 3)) g p h0 h1 c h3 3 b := Blk.put (Blk.put hF3 3 (.int .u8 c)) 5 (.int .i64 3)
  have hg4 : GrownD w ((w3.setCell ⟨g, 3, none⟩ (.int .u8 c)).setCell ⟨g, 5, none⟩ (.int .i64 3)) (some g) := grownD_put (grownD_put hg3 3 _) 5 _
  have hx4 : ((w3.setCell ⟨g, 3, none⟩ (.int .u8 c)).setCell ⟨g, 5, none⟩ (.int .i64 3)).cell? ⟨gx, 0, none⟩ = some (.int .i64 (form h0).1) := by
    rw [World.cell?_setCell_other _ _ _ _ (by simp), World.cell?_setCell_other _ _ _ _ (by simp)]
    exact s0
  go_wp2
  clear k0 k1 k2 k3 k4 k5 k6 f0 f1 f2 f3 f4 f5 f6 s5 s0 s1 s2
  have hw := Hw.out
  generalize ((w3.setCell ⟨g, 3, none⟩ (.int .u8 c)).setCell ⟨g, 5, none⟩ (.int .i64 3)) = W4 at hF4 hg4 hx4 ⊢
  obtain ⟨k0, k1, k2, k3, k4, k5, k6⟩ := IsFeed.cells hF4
  obtain ⟨f0, f1, f2, f3, f4, f5, f6⟩ := IsFeed.frozen hF4
  go_quiet (fail)
  go_wp2
  go_ret
  exact ⟨rfl, hF4, grownD_drewN (grownD_drew hg4) _⟩

set_option maxHeartbeats 4000000 in
theorem take_last3 (g : Nat) (p h0 h1 h2 h3 c : Int) (b : Bool) (w : World) (hF : IsFeed w g p h0 h1 h2 h3 3 b) (hc0 : 0 ≤ c) (hc1 : c ≤ 255) (hh0 : 0 ≤ h0) (hh1 : h0 ≤ 255)
    (hno : mayB (form h0).2.1 (form h0).2.2 3 c = true) (hw : ((4 : Int) == (form h0).1) = true) :
    Calls Try.prog 61 #[.pointer (some ⟨g, 0, none⟩), .int .u8 c] w
      fun e w' => e = .returned (.bool true) ∧ IsFeed w' g p h0 h1 h2 c 0 b ∧ GrownD w w' (some g) := by
  have hlt := hF.lt
  obtain ⟨k0, k1, k2, k3, k4, k5, k6⟩ := IsFeed.cells hF
  obtain ⟨f0, f1, f2, f3, f4, f5, f6⟩ := IsFeed.frozen hF
  have hbd := form_bd h0
  have e0 : ((3 : Int) == 0) = false := by decide
  have Hno := Lib.hid hno
  clear hno
  have Hw := Lib.hid hw
  clear hw
  go_enter Try.func61, Try.ntmps61
  go_wp2_with fail
  refine (formOf_any h0 hh0 hh1 _).mono ?_
  rintro e w1 ⟨rfl, hb⟩
  obtain ⟨hc, hf⟩ := old hb.toBelow
  have hz : g < w1.heap.size := Nat.lt_of_lt_of_le hlt hb.size
  go_wp2_with fail
  have hX : Blk (w1.alloc (.cells #[.int .i64 (form h0).1, .int .u8 (form h0).2.1, .int .u8 (form h0).2.2] 161)) w1.heap.size 161 #[.int .i64 (form h0).1, .int .u8 (form h0).2.1, .int .u8 (form h0).2.2] := Blk.new _ _ _
  have hF2 := (Blk.below hF hb.toBelow hlt).alloc (.cells #[.int .i64 (form h0).1, .int .u8 (form h0).2.1, .int .u8 (form h0).2.2] 161)
  have hg2 := grownD_alloc (grownD_of_below hb (some g)) (.cells #[.int .i64 (form h0).1, .int .u8 (form h0).2.1, .int .u8 (form h0).2.2] 161)
  clear hc hf hz hb k0 k1 k2 k3 k4 k5 k6 f0 f1 f2 f3 f4 f5 f6
  generalize w1.alloc (.cells #[.int .i64 (form h0).1, .int .u8 (form h0).2.1, .int .u8 (form h0).2.2] 161) = W2 at hX hF2 hg2 ⊢
  generalize w1.heap.size = gx at hX ⊢
  obtain ⟨k0, k1, k2, k3, k4, k5, k6⟩ := IsFeed.cells hF2
  have x0 := Blk.cell hX 0
  have x1 := Blk.cell hX 1
  have x2 := Blk.cell hX 2
  have hlt2 := Blk.lt hF2
  have hltx := Blk.lt hX
  go_region_held3 (fun w' => w'.cell? ⟨g, 5, none⟩ = some (.int .i64 3) ∧ w'.cell? ⟨gx, 0, none⟩ = some (.int .i64 (form h0).1) ∧ w'.cell? ⟨gx, 1, none⟩ = some (.int .u8 (form h0).2.1) ∧ w'.cell? ⟨gx, 2, none⟩ = some (.int .u8 (form h0).2.2))
    (first | go_keep | exact ⟨by rw [hb2.cell (by exact hlt2)]; exact k5, by rw [hb2.cell (by exact hltx)]; exact x0, by rw [hb2.cell (by exact hltx)]; exact x1, by rw [hb2.cell (by exact hltx)]; exact x2⟩)
    (first | (go_at_call 77; refine (may_any _ _ _ _ _ _).mono ?_; rintro e w3 ⟨rfl, hb2⟩))
  rw [Hno.out]
  obtain ⟨s5, s0, s1, s2⟩ := ‹_ ∧ _ ∧ _ ∧ _›
  have hF3 := Blk.below (Blk.drew hF2) hb2.toBelow hlt2
  have hg3 := grownD_below (grownD_drew hg2) hb2
  have hlt3 := Blk.lt hF3
  have hx3 : gx < w3.heap.size := Nat.lt_of_lt_of_le hltx hb2.size
  have hne : g ≠ gx := by rintro rfl; have := hX.symm.trans hF2; simp at this
  have hne' : gx ≠ g := fun h => hne h.symm
  clear k0 k1 k2 k3 k4 k5 k6 x0 x1 x2 hb2
  obtain ⟨k0, k1, k2, k3, k4, k5, k6⟩ := IsFeed.cells hF3
  obtain ⟨f0, f1, f2, f3, f4, f5, f6⟩ := IsFeed.frozen hF3
  go_wp2
  go_region
  have hF4 : IsFeed ((w3.setCell ⟨g, 4, none⟩ (.int .u8 c)).setCell ⟨g, 5, none⟩ (.int .i64 4)) g p h0 h1 h2 c 4 b := Blk.put (Blk.put hF3 4 (.int .u8 c)) 5 (.int .i64 4)
  have hg4 : GrownD w ((w3.setCell ⟨g, 4, none⟩ (.int .u8 c)).setCell ⟨g, 5, none⟩ (.int .i64 4)) (some g) := grownD_put (grownD_put hg3 4 _) 5 _
  have hx4 : ((w3.setCell ⟨g, 4, none⟩ (.int .u8 c)).setCell ⟨g, 5, none⟩ (.int .i64 4)).cell? ⟨gx, 0, none⟩ = some (.int .i64 (form h0).1) := by
    rw [World.cell?_setCell_other _ _ _ _ (by simp), World.cell?_setCell_other _ _ _ _ (by simp)]
    exact s0
  go_wp2
  clear k0 k1 k2 k3 k4 k5 k6 f0 f1 f2 f3 f4 f5 f6 s5 s0 s1 s2
  have hw := Hw.out
  generalize ((w3.setCell ⟨g, 4, none⟩ (.int .u8 c)).setCell ⟨g, 5, none⟩ (.int .i64 4)) = W4 at hF4 hg4 hx4 ⊢
  obtain ⟨k0, k1, k2, k3, k4, k5, k6⟩ := IsFeed.cells hF4
  obtain ⟨f0, f1, f2, f3, f4, f5, f6⟩ := IsFeed.frozen hF4
  go_quiet (fail)
  go_wp2
  go_ret
  exact ⟨rfl, Blk.put hF4 5 (.int .i64 0), grownD_drewN (grownD_put hg4 5 _) _⟩
end Go.Proofs.Ytfhfkggkbeahbaa
