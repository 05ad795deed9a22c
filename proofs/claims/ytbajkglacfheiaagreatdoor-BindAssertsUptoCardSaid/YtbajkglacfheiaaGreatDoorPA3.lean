/-
  What is as it was, and that no draw was taken back.
-/
import Derived.Test.YtbajkglacfheiaaGreatDoorPA1
import Derived.Sort.Grow
set_option linter.unusedVariables false
set_option linter.unusedSimpArgs false
set_option maxRecDepth 100000
set_option maxHeartbeats 16000000
namespace Go.Proofs.YtbajkglacfheiaaGreatDoor
open Go.RowKit
namespace Mem
structure BelowD (B : Nat) (w w' : World) : Prop extends Below B w w' where
 dr : w.drawn ≤ w'.drawn
structure GrownD (w w' : World) (row : Option Nat) : Prop where
 gr : w.grownBy w' row
 dr : w.drawn ≤ w'.drawn
section
variable {a b c w w' : World} {row : Option Nat} {B g : Nat}
theorem BelowD.refl (B : Nat) (w : World) : BelowD B w w := ⟨Below.refl B w, Nat.le_refl _⟩
theorem BelowD.trans (h : BelowD B a b) (k : BelowD B b c) : BelowD B a c := ⟨h.toBelow.trans k.toBelow, Nat.le_trans h.dr k.dr⟩
theorem BelowD.mono {B' : Nat} (h : BelowD B a b) (hB : B' ≤ B) : BelowD B' a b := ⟨h.toBelow.mono hB, h.dr⟩
theorem BelowD.alloc (h : BelowD B a b) (hB : B ≤ b.heap.size) (o : Obj) : BelowD B a (b.alloc o) := ⟨h.toBelow.alloc hB o, h.dr⟩
theorem BelowD.drewN (h : BelowD B a b) (n : Nat) : BelowD B a (b.drewN n) := ⟨h.toBelow.trans (drewN_below b n), Nat.le_trans h.dr (by simp [World.drewN])⟩
theorem grownD_refl (w : World) (row : Option Nat) : GrownD w w row := ⟨grown_refl w row, Nat.le_refl _⟩
theorem grownD_trans (h : GrownD a b row) (k : GrownD b c row) : GrownD a c row := ⟨grown_trans h.gr k.gr, Nat.le_trans h.dr k.dr⟩
theorem grownD_drew (h : GrownD a b row) : GrownD a b.drew row := ⟨grown_drew h.gr, Nat.le_trans h.dr (by simp)⟩
theorem grownD_drewN (h : GrownD a b row) (n : Nat) : GrownD a (b.drewN n) row := ⟨grown_drewN h.gr n, Nat.le_trans h.dr (by simp [World.drewN])⟩
theorem grownD_alloc (h : GrownD a b row) (o : Obj) : GrownD a (b.alloc o) row := ⟨grown_alloc h.gr o, h.dr⟩
theorem grownD_put (h : GrownD a b (some g)) (i : Nat) (u : Value) : GrownD a (b.setCell ⟨g, i, none⟩ u) (some g) := ⟨grown_put h.gr i u, h.dr⟩
theorem grownD_of_below (h : BelowD a.heap.size a b) (row : Option Nat) : GrownD a b row := ⟨grown_of_below h.toBelow row, h.dr⟩
theorem grownD_below (h : GrownD a b row) (k : BelowD b.heap.size b c) : GrownD a c row := ⟨grown_below h.gr k.toBelow, Nat.le_trans h.dr k.dr⟩
theorem belowD_of_grown (h : GrownD a b (some g)) (hg : B ≤ g) (hB : B ≤ a.heap.size) : BelowD B a b := ⟨below_of_grown h.gr hg hB, h.dr⟩
theorem BelowD.grow (h : BelowD w.heap.size w w') : ∃ q os, w' = Sort.grow (w.drewN q) os := by
 refine ⟨w'.drawn - w.drawn, w'.heap.extract w.heap.size w'.heap.size, ?_⟩
 have hd := h.dr
 have hs := h.size
 have hh : w'.heap = w.heap ++ w'.heap.extract w.heap.size w'.heap.size := by
  apply Array.ext_getElem?
  intro i
  rcases Nat.lt_or_ge i w.heap.size with hi | hi
  ·rw [h.block i hi, Array.getElem?_append_left hi]
  ·rw [Array.getElem?_append_right hi, Array.getElem?_extract]
   split
   ·congr 1
    omega
   ·rw [Array.getElem?_eq_none (by omega)]
 have e1 := h.os
 have e2 := h.tape
 have e3 := h.output
 have e4 : w'.drawn = w.drawn + (w'.drawn - w.drawn) := by omega
 cases w'
 simp only [Sort.grow, World.drewN, World.mk.injEq] at *
 exact ⟨hh, e2, e4, e1, e3⟩
end
end Mem
end Go.Proofs.YtbajkglacfheiaaGreatDoor
