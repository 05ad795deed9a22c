/-
  How the reference's values lie in memory.
  Walks of the reference of layer 10: finite, Num, Used, right.
  Walks of the reference of layer 10: sorted.
  Walks of the reference of layer 10: twice.
-/
import Derived.Test.YtbcckpnngonoeaaGreatDoorHB
import Derived.Test.YtbcckpnngonoeaaGreatDoorGF
import Derived.Laws.Bits64b
import Derived.Test.YtbcckpnngonoeaaGreatDoorGI
import Derived.Deep.Upon
import Derived.Deep.RegionHeldLaw
import Derived.BigQuiet
namespace Go.Proofs.YtbcckpnngonoeaaGreatDoor
open Go.RowKit Mem
set_option linter.unusedVariables false
namespace Nd
/-- where a value's values and keys lie -/
abbrev X4 := (Option Addr × Nat) × (Option Addr × Nat)
def cellV (t : Tr) (x : X4) : List Value := [.int .i64 (t.srt : Nat), .bool t.fl, .int .u64 (t.bi : Nat), .string ⟨t.tx.toArray⟩, .slice x.1.1 t.kids.length x.1.2, .slice x.2.1 t.kn.length x.2.2]
def cellsV : List Tr → List X4 → List Value
  | t :: l, x :: xs => cellV t x ++ cellsV l xs
  | _, _ => []
/-- values that stand in a row, in a block of S -/
def Cells (S : Nat → Prop) (w : World) (A : Option Addr) (us : List Value) : Prop :=
  us = [] ∨ ∃ g o, A = some ⟨g, o, none⟩ ∧ S g ∧ ∀ i u, us[i]? = some u → w.cell? ⟨g, o + i, none⟩ = some u
mutual
/-- a value reads as a tree -/
def RdV (S : Nat → Prop) (w : World) : Tr → X4 → Prop
  | .list l, x => ∃ xs, Cells S w x.1.1 (cellsV l xs) ∧ RdVL S w l xs
  | .obj ks l, x => Cells S w x.2.1 (ks.map txV) ∧ ∃ xs, Cells S w x.1.1 (cellsV l xs) ∧ RdVL S w l xs
  | _, _ => True
def RdVL (S : Nat → Prop) (w : World) : List Tr → List X4 → Prop
  | [], xs => xs = []
  | t :: l, xs => ∃ x xs', xs = x :: xs' ∧ RdV S w t x ∧ RdVL S w l xs'
end
section
variable {S S' : Nat → Prop} {w w' : World} {A : Option Addr} {us : List Value}
theorem cell_block {w w' : World} {g o : Nat} (h : w'.heap[g]? = w.heap[g]?) : w'.cell? ⟨g, o, none⟩ = w.cell? ⟨g, o, none⟩ := by
  unfold World.cell?
  simp only [h]
theorem Cells.move (h : Cells S w A us) (hm : ∀ k, k < w.heap.size → S k → S' k ∧ w'.heap[k]? = w.heap[k]?) : Cells S' w' A us := by
  rcases h with h | ⟨g, o, hA, hS, hc⟩
  · exact .inl h
  · cases us with
    | nil => exact .inl rfl
    | cons u us =>
      have hlt : g < w.heap.size := World.block_lt_of_cell? w _ (hc 0 u rfl)
      have := hm g hlt hS
      exact .inr ⟨g, o, hA, this.1, fun i u hu => (cell_block this.2).trans (hc i u hu)⟩
theorem rdvl_iff (S : Nat → Prop) (w : World) : ∀ (l : List Tr) (xs : List X4), RdVL S w l xs ↔ xs.length = l.length ∧ ∀ (j : Nat) t x, l[j]? = some t → xs[j]? = some x → RdV S w t x
  | [], xs => by
    unfold RdVL
    constructor
    · rintro rfl
      exact ⟨rfl, fun j t x h => by simp at h⟩
    · rintro ⟨h, _⟩
      exact List.length_eq_zero_iff.1 h
  | t :: l, xs => by
    unfold RdVL
    constructor
    · rintro ⟨x, xs', rfl, h1, h2⟩
      obtain ⟨h3, h4⟩ := (rdvl_iff S w l xs').1 h2
      refine ⟨by simp [h3], fun j t' x' hj hv => ?_⟩
      cases j with
      | zero =>
        simp at hj hv
        subst hj; subst hv
        exact h1
      | succ j => exact h4 j t' x' (by simpa using hj) (by simpa using hv)
    · rintro ⟨h1, h2⟩
      cases xs with
      | nil => simp at h1
      | cons x xs => exact ⟨x, xs, rfl, h2 0 t x rfl rfl, (rdvl_iff S w l xs).2 ⟨by simpa using h1, fun j t' x' hj hv => h2 (j + 1) t' x' (by simpa using hj) (by simpa using hv)⟩⟩
theorem RdVL.len {l : List Tr} {xs : List X4} (h : RdVL S w l xs) : xs.length = l.length := ((rdvl_iff S w l xs).1 h).1
theorem RdVL.at {l : List Tr} {xs : List X4} (h : RdVL S w l xs) {j : Nat} {t : Tr} {x : X4} (h1 : l[j]? = some t) (h2 : xs[j]? = some x) : RdV S w t x := ((rdvl_iff S w l xs).1 h).2 j t x h1 h2
theorem RdV.move (hm : ∀ k, k < w.heap.size → S k → S' k ∧ w'.heap[k]? = w.heap[k]?) : ∀ t x, RdV S w t x → RdV S' w' t x := by
  intro t
  induction t using Tr.ind with
  | h0 => exact fun x h => by unfold RdV at *; trivial
  | h1 b => exact fun x h => by unfold RdV at *; trivial
  | h2 b => exact fun x h => by unfold RdV at *; trivial
  | h3 b => exact fun x h => by unfold RdV at *; trivial
  | h4 l ih =>
    intro x h
    unfold RdV at h ⊢
    obtain ⟨xs, hC, hL⟩ := h
    exact ⟨xs, hC.move hm, (rdvl_iff _ _ _ _).2 ⟨hL.len, fun j t u h1 h2 => ih t (List.mem_of_getElem? h1) u (hL.at h1 h2)⟩⟩
  | h5 ks l ih =>
    intro x h
    unfold RdV at h ⊢
    obtain ⟨hK, xs, hC, hL⟩ := h
    exact ⟨hK.move hm, xs, hC.move hm, (rdvl_iff _ _ _ _).2 ⟨hL.len, fun j t u h1 h2 => ih t (List.mem_of_getElem? h1) u (hL.at h1 h2)⟩⟩
theorem RdVL.move {l : List Tr} {xs : List X4} (h : RdVL S w l xs) (hm : ∀ k, k < w.heap.size → S k → S' k ∧ w'.heap[k]? = w.heap[k]?) : RdVL S' w' l xs :=
  (rdvl_iff _ _ _ _).2 ⟨h.len, fun _ _ _ h1 h2 => RdV.move hm _ _ (h.at h1 h2)⟩
theorem RdV.kids {t : Tr} {x : X4} (h : RdV S w t x) : ∃ xs, Cells S w x.1.1 (cellsV t.kids xs) ∧ RdVL S w t.kids xs := by
  cases t with
  | list l =>
    unfold RdV at h
    exact h
  | obj ks l =>
    unfold RdV at h
    exact h.2
  | _ => exact ⟨[], .inl rfl, by unfold Tr.kids RdVL; rfl⟩
theorem RdV.keys {t : Tr} {x : X4} (h : RdV S w t x) : Cells S w x.2.1 (t.kn.map txV) := by
  cases t with
  | obj ks l =>
    unfold RdV at h
    exact h.1
  | _ => exact .inl rfl
theorem RdVL.snoc {l : List Tr} {xs : List X4} {t : Tr} {x : X4} (h : RdVL S w l xs) (h1 : RdV S w t x) : RdVL S w (l ++ [t]) (xs ++ [x]) := by
  have hl := h.len
  refine (rdvl_iff _ _ _ _).2 ⟨by simp [hl], fun j t' u' hj hu => ?_⟩
  rcases Nat.lt_or_ge j l.length with hlt | hge
  · rw [List.getElem?_append_left hlt] at hj
    rw [List.getElem?_append_left (by omega)] at hu
    exact h.at hj hu
  · rw [List.getElem?_append_right hge] at hj
    rw [List.getElem?_append_right (by omega)] at hu
    have e : j - xs.length = j - l.length := by omega
    rw [e] at hu
    cases hk : j - l.length with
    | zero =>
      rw [hk] at hj hu
      simp at hj hu
      subst hj; subst hu
      exact h1
    | succ k =>
      rw [hk] at hj
      simp at hj
end
theorem cellV_len (t : Tr) (x : X4) : (cellV t x).length = 6 := rfl
theorem cellsV_len : ∀ (l : List Tr) (xs : List X4), xs.length = l.length → (cellsV l xs).length = l.length * 6
  | [], [], _ => rfl
  | [], _ :: _, h => by simp at h
  | _ :: _, [], h => by simp at h
  | t :: l, x :: xs, h => by
    have := cellsV_len l xs (by simpa using h)
    rw [cellsV, List.length_append, cellV_len, this, List.length_cons]
    omega
theorem cellsV_at : ∀ (l : List Tr) (xs : List X4) (j : Nat) (t : Tr) (x : X4), l[j]? = some t → xs[j]? = some x → ∀ i, i < 6 → (cellsV l xs)[j * 6 + i]? = (cellV t x)[i]?
  | [], _, j, t, x, h, _, _, _ => by simp at h
  | _ :: _, [], j, t, x, _, h, _, _ => by simp at h
  | t :: l, x :: xs, 0, t', x', h, h', i, hi => by
    simp at h h'
    subst h; subst h'
    rw [cellsV, Nat.zero_mul, Nat.zero_add, List.getElem?_append_left (by rw [cellV_len]; omega)]
  | t :: l, x :: xs, j + 1, t', x', h, h', i, hi => by
    have ih := cellsV_at l xs j t' x' (by simpa using h) (by simpa using h') i hi
    rw [cellsV, List.getElem?_append_right (by rw [cellV_len]; omega), ← ih, cellV_len]
    congr 1
    omega
theorem cellsV_app : ∀ (l : List Tr) (xs : List X4) (l' : List Tr) (xs' : List X4), xs.length = l.length → cellsV (l ++ l') (xs ++ xs') = cellsV l xs ++ cellsV l' xs'
  | [], [], _, _, _ => rfl
  | [], _ :: _, _, _, h => by simp at h
  | _ :: _, [], _, _, h => by simp at h
  | t :: l, x :: xs, l', xs', h => by
    have := cellsV_app l xs l' xs' (by simpa using h)
    show cellV t x ++ cellsV (l ++ l') (xs ++ xs') = (cellV t x ++ cellsV l xs) ++ cellsV l' xs'
    rw [this, List.append_assoc]
theorem cellsV_snoc (l : List Tr) (xs : List X4) (t : Tr) (x : X4) (h : xs.length = l.length) : cellsV (l ++ [t]) (xs ++ [x]) = cellsV l xs ++ cellV t x := by
  rw [cellsV_app l xs _ _ h]
  show cellsV l xs ++ (cellV t x ++ []) = _
  rw [List.append_nil]
theorem cellV_one (t : Tr) (x : X4) : ∀ u ∈ cellV t x, u.oneCell' = true := by
  intro u hu
  simp [cellV] at hu
  rcases hu with rfl | rfl | rfl | rfl | rfl | rfl <;> rfl
/-- a value as it is handed over -/
abbrev valV (t : Tr) (A : Option Addr) (c : Nat) (K : Option Addr) (d : Nat) : Value := .agg #[.int .i64 (t.srt : Nat), .bool t.fl, .int .u64 (t.bi : Nat), .string ⟨t.tx.toArray⟩, .slice A t.kids.length c, .slice K t.kn.length d]
/-- a value's six cells -/
structure CellsV (w : World) (g o : Nat) (t : Tr) (x : X4) : Prop where
  c0 : w.cell? ⟨g, o, none⟩ = some (.int .i64 (t.srt : Nat))
  c1 : w.cell? ⟨g, o + 1, none⟩ = some (.bool t.fl)
  c2 : w.cell? ⟨g, o + 2, none⟩ = some (.int .u64 (t.bi : Nat))
  c3 : w.cell? ⟨g, o + 3, none⟩ = some (.string ⟨t.tx.toArray⟩)
  c4 : w.cell? ⟨g, o + 4, none⟩ = some (.slice x.1.1 t.kids.length x.1.2)
  c5 : w.cell? ⟨g, o + 5, none⟩ = some (.slice x.2.1 t.kn.length x.2.2)
theorem cells_at {S : Nat → Prop} {w : World} {A : Option Addr} {l : List Tr} {xs : List X4} (h : Cells S w A (cellsV l xs)) (hl : RdVL S w l xs) {k : Nat} (hk : k < l.length) :
    ∃ g o x, A = some ⟨g, o, none⟩ ∧ S g ∧ xs[k]? = some x ∧ CellsV w g (o + k * 6) l[k] x ∧ RdV S w l[k] x := by
  have hle := hl.len
  have hx : xs[k]? = some (xs[k]'(by omega)) := List.getElem?_eq_getElem (by omega)
  have ht : l[k]? = some l[k] := List.getElem?_eq_getElem hk
  rcases h with h | ⟨g, o, hA, hS, hc⟩
  · have := cellsV_len l xs hle
    rw [h] at this
    simp at this
    omega
  · have hi : ∀ i u, (cellV l[k] (xs[k]'(by omega)))[i]? = some u → i < 6 → w.cell? ⟨g, o + k * 6 + i, none⟩ = some u := fun i u hu hi => by
      rw [Nat.add_assoc]
      exact hc _ _ ((cellsV_at l xs k _ _ ht hx i hi).trans hu)
    exact ⟨g, o, _, hA, hS, hx, ⟨hi 0 _ rfl (by omega), hi 1 _ rfl (by omega), hi 2 _ rfl (by omega), hi 3 _ rfl (by omega), hi 4 _ rfl (by omega), hi 5 _ rfl (by omega)⟩, hl.at ht hx⟩
theorem keys_at {S : Nat → Prop} {w : World} {A : Option Addr} {ks : List Tx} (h : Cells S w A (ks.map txV)) {k : Nat} (hk : k < ks.length) :
    ∃ g o, A = some ⟨g, o, none⟩ ∧ S g ∧ w.cell? ⟨g, o + k, none⟩ = some (.string ⟨ks[k].toArray⟩) := by
  rcases h with h | ⟨g, o, hA, hS, hc⟩
  · have := congrArg List.length h
    simp at this
    subst this
    simp at hk
  · exact ⟨g, o, hA, hS, hc k _ (by rw [List.getElem?_map, List.getElem?_eq_getElem hk]; rfl)⟩
end Nd
end Go.Proofs.YtbcckpnngonoeaaGreatDoor
namespace Go.Proofs.YtbcckpnngonoeaaGreatDoor
open Go.RowKit Mem Ref3
set_option linter.unusedVariables false
namespace Nd
end Nd
end Go.Proofs.YtbcckpnngonoeaaGreatDoor
namespace Go.Proofs.YtbcckpnngonoeaaGreatDoor
open Go.RowKit Mem Ref3
set_option linter.unusedVariables false
set_option linter.unusedSimpArgs false
namespace Nd
theorem info_txt : (Tryz.prog.info? 9).map (fun i => (i.zero, i.size, i.bytes)) = some (some (.string ⟨#[]⟩), 1, 16) := by kernel_rfl
section
variable {ks : List Tx} {W : World} {xs ys zs : List Tx} {nx ny : Nat} {A B : Option Addr} {ca cb : Nat} {c5 : Value} {wr : World}
end
end Nd
end Go.Proofs.YtbcckpnngonoeaaGreatDoor
namespace Go.Proofs.YtbcckpnngonoeaaGreatDoor
open Go.RowKit Mem Ref3
set_option linter.unusedVariables false
namespace Nd
end Nd
end Go.Proofs.YtbcckpnngonoeaaGreatDoor

