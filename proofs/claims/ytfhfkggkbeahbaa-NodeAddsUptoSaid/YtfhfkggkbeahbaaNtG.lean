/-
  A row of trees in memory, and what becomes of it.
-/
import Derived.Test.YtfhfkggkbeahbaaNtF
namespace Go.Proofs.Ytfhfkggkbeahbaa
open Go.RowKit Mem
set_option linter.unusedVariables false
namespace Nd

/-- where a row's trees lie -/
def Sx (B : Nat) (X : Nat → Prop) (v : Value) : Nat → Prop := fun k => B ≤ k ∧ ¬ X k ∧ some k ≠ v.ownBlock
/-- a row of trees, in a block of one cell; its items' blocks lie from B on, none is of X, and none is the row's own -/
structure Rw (p : Nat) (ty : TypeId) (B : Nat) (X : Nat → Prop) (l : List Tr) (v : Value) (xs : List Value) (w : World) : Prop where
  bl : Blk w p ty #[v]
  own : w.ownsRow B 46 1 v l.length xs
  rd : RdL (Sx B X v) w l xs
  fit : ∀ t ∈ l, t.fit = true
  lt : p < B
  le : B ≤ w.heap.size
/-- a row of trees: nothing is said of its own block -/
def RwX (p : Nat) (ty : TypeId) (B : Nat) (l : List Tr) (w : World) : Prop := ∃ v xs, Rw p ty B (fun _ => False) l v xs w
section
variable {p : Nat} {ty : TypeId} {B : Nat} {X : Nat → Prop} {l : List Tr} {v x : Value} {xs : List Value} {w w' : World}
theorem Rw.below (h : Rw p ty B X l v xs w) (hb : Below w.heap.size w w') : Rw p ty B X l v xs w' :=
  ⟨h.bl.below hb h.bl.lt, own_below h.own hb, h.rd.move fun k hk hS => ⟨hS, hb.block k hk⟩, h.fit, h.lt, Nat.le_trans h.le hb.size⟩
theorem Rw.avoid {X' : Nat → Prop} (h : Rw p ty B X l v xs w) (hX : ∀ k, X' k → X k ∨ w.heap.size ≤ k) : Rw p ty B X' l v xs w :=
  ⟨h.bl, h.own, h.rd.move fun k hk hS => ⟨⟨hS.1, fun hx => by rcases hX k hx with e | e; exact hS.2.1 e; omega, hS.2.2⟩, rfl⟩, h.fit, h.lt, h.le⟩
theorem Rw.far (h : Rw p ty B X l v xs w) {q : Addr} (hX : X q.block) (hp : p ≠ q.block) (hv : v.ownBlock ≠ some q.block) (u : Value) : Rw p ty B X l v xs (w.setCell q u) := by
  refine ⟨h.bl.far hp u, h.own.kept (row := some q.block) ⟨rfl, rfl, rfl, by simp [World.setCell], fun i hi hn => heap_setCell_other w q i u (fun e => hn (by rw [e]))⟩ (.inr hv), h.rd.move fun k hk hS => ⟨hS, heap_setCell_other w q k u (fun e => hS.2.1 (e ▸ hX))⟩, h.fit, h.lt, by simpa [World.setCell] using h.le⟩
theorem Rw.all (h : Rw p ty B X l v xs w) : RwX p ty B l w := ⟨v, xs, h.avoid fun k e => e.elim⟩
theorem Rw.vlt (h : Rw p ty B X l v xs w) : ∀ k, v.ownBlock = some k → B ≤ k ∧ k < w.heap.size := h.own.lt
theorem PutV.rw {k : Nat} {t : Tr} (h : PutV p ty B v (l.length - k + 1) (xs.take (l.length - k) ++ [x]) w w') (hR : Rw p ty B X l v xs w) (hk : k ≤ l.length) (hx : RdT (Sx B X v) w t x) (hf : t.fit = true) :
    ∃ v' xs', Rw p ty B X (l.take (l.length - k) ++ [t]) v' xs' w' ∧ (v'.ownBlock = v.ownBlock ∨ ∀ g, v'.ownBlock = some g → w.heap.size ≤ g) ∧ Below p w w' ∧ KeepV p v w w' := by
  obtain ⟨v', hB, ho, hb, hkp, hob⟩ := h
  have hmv : ∀ k, k < w.heap.size → Sx B X v k → Sx B X v' k ∧ w'.heap[k]? = w.heap[k]? := by
    intro k hk ⟨h1, h3, h2⟩
    refine ⟨⟨h1, h3, ?_⟩, hkp k hk (by have := hR.lt; omega) h2⟩
    rcases hob with e | e
    · rw [e]; exact h2
    · intro h3
      have := e k h3.symm
      omega
  refine ⟨v', _, ⟨hB, ?_, ((hR.rd.move hmv).take (l.length - k)).snoc (RdT.move hmv _ _ hx), ?_, hR.lt, Nat.le_trans hR.le hb.size⟩, hob, hb, hkp⟩
  · have e : (l.take (l.length - k) ++ [t]).length = l.length - k + 1 := by simp
    rw [e]
    exact ho
  · intro u hu
    rcases List.mem_append.1 hu with hu | hu
    · exact hR.fit u (List.mem_of_mem_take hu)
    · rw [List.mem_singleton] at hu
      rw [hu]
      exact hf
theorem PutV.rw0 {t : Tr} (h : PutV p ty B v (l.length + 1) (xs ++ [x]) w w') (hR : Rw p ty B X l v xs w) (hx : RdT (Sx B X v) w t x) (hf : t.fit = true) :
    ∃ v' xs', Rw p ty B X (l ++ [t]) v' xs' w' ∧ (v'.ownBlock = v.ownBlock ∨ ∀ g, v'.ownBlock = some g → w.heap.size ≤ g) ∧ Below p w w' ∧ KeepV p v w w' := by
  have hl := hR.own.1
  simp at hl
  have := PutV.rw (k := 0) (by simpa [← hl] using h) hR (by omega) hx hf
  simpa using this
end
end Nd
end Go.Proofs.Ytfhfkggkbeahbaa
