/-
  How values lie in memory: an item that reads as a tree, a row of items.
-/
import Derived.Test.YtfhfkggkbeahbaaProg
import Derived.Test.YtfhfkggkbeahbaaWords
import Derived.Test.YtfhfkggkbeahbaaNtP
namespace Go.Proofs.Ytfhfkggkbeahbaa
open Go.RowKit Mem
set_option linter.unusedVariables false
namespace Nd

def txV (t : Tx) : Value := .string ⟨t.toArray⟩
/-- a slice's elements, of one cell each, in a block of S -/
def Row (S : Nat → Prop) (w : World) (e : TypeId) (v : Value) (xs : List Value) : Prop :=
  ∃ A c, v = .slice A xs.length c ∧ ((xs = [] ∧ (A = none ∨ ∃ g o, A = some ⟨g, o, none⟩)) ∨ ∃ g o cur, A = some ⟨g, o, none⟩ ∧ S g ∧ Blk w g e cur ∧ ∀ j x, xs[j]? = some x → cur[o + j]? = some x)
mutual
def RdT (S : Nat → Prop) (w : World) : Tr → Value → Prop
  | .null, v => v = .iface 112 (.agg #[])
  | .flag b, v => v = .iface 113 (.bool b)
  | .num x, v => v = .iface 117 (.float .f64 x)
  | .text t, v => v = .iface 82 (.string ⟨t.toArray⟩)
  | .list l, v => ∃ g A c vs, v = .iface 121 (.pointer (some ⟨g, 0, none⟩)) ∧ S g ∧ Blk w g 124 #[.int .i64 ((Tr.list l).nodes : Nat), .int .i64 ((Tr.list l).bytes : Nat), .int .i64 ((Tr.list l).depth : Nat), .slice A l.length c] ∧ Row S w 46 (.slice A l.length c) vs ∧ RdL S w l vs
  | .obj ks l, v => ∃ g B d A c vs, v = .iface 126 (.pointer (some ⟨g, 0, none⟩)) ∧ S g ∧ Blk w g 128 #[.int .i64 ((Tr.obj ks l).nodes : Nat), .int .i64 ((Tr.obj ks l).bytes : Nat), .int .i64 ((Tr.obj ks l).depth : Nat), .slice B ks.length d, .slice A l.length c] ∧
      Row S w 9 (.slice B ks.length d) (ks.map txV) ∧ Row S w 46 (.slice A l.length c) vs ∧ RdL S w l vs
def RdL (S : Nat → Prop) (w : World) : List Tr → List Value → Prop
  | [], vs => vs = []
  | t :: l, vs => ∃ v vs', vs = v :: vs' ∧ RdT S w t v ∧ RdL S w l vs'
end

section
variable {S S' : Nat → Prop} {w w' : World} {e : TypeId} {v : Value} {xs vs : List Value}
theorem Row.move (h : Row S w e v xs) (hm : ∀ k, k < w.heap.size → S k → S' k ∧ w'.heap[k]? = w.heap[k]?) : Row S' w' e v xs := by
  obtain ⟨A, c, hv, h⟩ := h
  refine ⟨A, c, hv, ?_⟩
  rcases h with h | ⟨g, o, cur, hA, hS, hB, hc⟩
  · exact .inl h
  · have := hm g hB.lt hS
    exact .inr ⟨g, o, cur, hA, this.1, this.2.trans hB, hc⟩
theorem rdl_iff (S : Nat → Prop) (w : World) : ∀ (l : List Tr) (vs : List Value), RdL S w l vs ↔ vs.length = l.length ∧ ∀ (j : Nat) t v, l[j]? = some t → vs[j]? = some v → RdT S w t v
  | [], vs => by
    unfold RdL
    constructor
    · rintro rfl
      exact ⟨rfl, fun j t v h => by simp at h⟩
    · rintro ⟨h, _⟩
      exact List.length_eq_zero_iff.1 h
  | t :: l, vs => by
    unfold RdL
    constructor
    · rintro ⟨v, vs', rfl, h1, h2⟩
      obtain ⟨h3, h4⟩ := (rdl_iff S w l vs').1 h2
      refine ⟨by simp [h3], fun j t' v' hj hv => ?_⟩
      cases j with
      | zero =>
        simp at hj hv
        subst hj; subst hv
        exact h1
      | succ j => exact h4 j t' v' (by simpa using hj) (by simpa using hv)
    · rintro ⟨h1, h2⟩
      cases vs with
      | nil => simp at h1
      | cons v vs => exact ⟨v, vs, rfl, h2 0 t v rfl rfl, (rdl_iff S w l vs).2 ⟨by simpa using h1, fun j t' v' hj hv => h2 (j + 1) t' v' (by simpa using hj) (by simpa using hv)⟩⟩
theorem RdL.len {l : List Tr} (h : RdL S w l vs) : vs.length = l.length := ((rdl_iff S w l vs).1 h).1
theorem RdL.at {l : List Tr} (h : RdL S w l vs) {j : Nat} {t : Tr} {v : Value} (h1 : l[j]? = some t) (h2 : vs[j]? = some v) : RdT S w t v := ((rdl_iff S w l vs).1 h).2 j t v h1 h2
theorem RdT.move (hm : ∀ k, k < w.heap.size → S k → S' k ∧ w'.heap[k]? = w.heap[k]?) : ∀ t v, RdT S w t v → RdT S' w' t v := by
  intro t
  induction t using Tr.ind with
  | h0 => exact fun v h => by unfold RdT at *; exact h
  | h1 b => exact fun v h => by unfold RdT at *; exact h
  | h2 b => exact fun v h => by unfold RdT at *; exact h
  | h3 b => exact fun v h => by unfold RdT at *; exact h
  | h4 l ih =>
    intro v h
    unfold RdT at h ⊢
    obtain ⟨g, A, c, vs, hv, hS, hB, hR, hL⟩ := h
    have hg := hm g hB.lt hS
    refine ⟨g, A, c, vs, hv, hg.1, hg.2.trans hB, hR.move hm, (rdl_iff _ _ _ _).2 ⟨hL.len, fun j t u h1 h2 => ih t (List.mem_of_getElem? h1) u (hL.at h1 h2)⟩⟩
  | h5 ks l ih =>
    intro v h
    unfold RdT at h ⊢
    obtain ⟨g, B, d, A, c, vs, hv, hS, hB, hK, hR, hL⟩ := h
    have hg := hm g hB.lt hS
    refine ⟨g, B, d, A, c, vs, hv, hg.1, hg.2.trans hB, hK.move hm, hR.move hm, (rdl_iff _ _ _ _).2 ⟨hL.len, fun j t u h1 h2 => ih t (List.mem_of_getElem? h1) u (hL.at h1 h2)⟩⟩
theorem RdL.move {l : List Tr} (h : RdL S w l vs) (hm : ∀ k, k < w.heap.size → S k → S' k ∧ w'.heap[k]? = w.heap[k]?) : RdL S' w' l vs :=
  (rdl_iff _ _ _ _).2 ⟨h.len, fun _ _ _ h1 h2 => RdT.move hm _ _ (h.at h1 h2)⟩
theorem RdL.snoc {l : List Tr} {t : Tr} (h : RdL S w l vs) (h1 : RdT S w t v) : RdL S w (l ++ [t]) (vs ++ [v]) := by
  have hl := h.len
  refine (rdl_iff _ _ _ _).2 ⟨by simp [hl], fun j t' u' hj hu => ?_⟩
  rcases Nat.lt_or_ge j l.length with hlt | hge
  · rw [List.getElem?_append_left hlt] at hj
    rw [List.getElem?_append_left (by omega)] at hu
    exact h.at hj hu
  · rw [List.getElem?_append_right hge] at hj
    rw [List.getElem?_append_right (by omega)] at hu
    have e : j - vs.length = j - l.length := by omega
    rw [e] at hu
    cases hk : j - l.length with
    | zero =>
      rw [hk] at hj hu
      simp at hj hu
      subst hj; subst hu
      exact h1
    | succ k =>
      rw [hk] at hj
      simp at hj
theorem RdL.drop {l : List Tr} (h : RdL S w l vs) (k : Nat) : RdL S w (l.drop k) (vs.drop k) := by
  have hl := h.len
  exact (rdl_iff _ _ _ _).2 ⟨by simp [hl], fun j t u hj hu => h.at (j := k + j) (by simpa using hj) (by simpa using hu)⟩
theorem RdL.take {l : List Tr} (h : RdL S w l vs) (k : Nat) : RdL S w (l.take k) (vs.take k) := by
  have hl := h.len
  refine (rdl_iff _ _ _ _).2 ⟨by simp [hl], fun j t u hj hu => ?_⟩
  rw [List.getElem?_take] at hj hu
  split at hj
  · rw [if_pos (by assumption)] at hu
    exact h.at hj hu
  · cases hj
theorem RdT.one {t : Tr} (h : RdT S w t v) : v.oneCell' = true := by
  cases t <;> unfold RdT at h
  · rw [h]; rfl
  · rw [h]; rfl
  · rw [h]; rfl
  · rw [h]; rfl
  · obtain ⟨g, A, c, vs, rfl, _⟩ := h
    rfl
  · obtain ⟨g, B, d, A, c, vs, rfl, _⟩ := h
    rfl
theorem RdL.ones {l : List Tr} (h : RdL S w l vs) : ∀ u ∈ vs, u.oneCell' = true := by
  intro u hu
  obtain ⟨j, hj, rfl⟩ := List.getElem_of_mem hu
  have hl := h.len
  exact (h.at (t := l[j]'(by omega)) (List.getElem?_eq_getElem (by omega)) (List.getElem?_eq_getElem hj)).one
end
end Nd
end Go.Proofs.Ytfhfkggkbeahbaa
