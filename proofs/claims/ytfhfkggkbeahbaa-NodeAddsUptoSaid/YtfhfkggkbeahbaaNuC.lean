/-
  Walks of package node: Value.
-/
import Derived.Test.YtfhfkggkbeahbaaNuB
namespace Go.Proofs.Ytfhfkggkbeahbaa
open Go.RowKit Mem
set_option linter.unusedVariables false
namespace Nd

/-- a slice's elements, of two cells each -/
def Row2 (S : Nat → Prop) (w : World) (e : TypeId) (v : Value) (n : Nat) (xs : List Value) : Prop :=
  ∃ A c, v = .slice A n c ∧ xs.length = n * 2 ∧ (n = 0 ∨ ∃ g o cur, A = some ⟨g, o, none⟩ ∧ S g ∧ Blk w g e cur ∧ ∀ (j : Nat) (x : Value), xs[j]? = some x → cur[o + j]? = some x)
/-- keys and values in turn -/
def pairs : List Tx → List Value → List Value
  | k :: ks, v :: vs => txV k :: v :: pairs ks vs
  | _, _ => []
mutual
/-- a value as it is told -/
def TdT (S : Nat → Prop) (w : World) : Tr → Value → Prop
  | .null, v => v = .iface 106 (.agg #[])
  | .flag b, v => v = .iface 107 (.bool b)
  | .num x, v => v = .iface 104 (.float .f64 x)
  | .text t, v => v = .iface 75 (.string ⟨t.toArray⟩)
  | .list l, v => ∃ u vs, v = .iface 53 u ∧ Row S w 56 u vs ∧ TdL S w l vs
  | .obj ks l, v => ∃ u vs, v = .iface 100 u ∧ ks.length = l.length ∧ Row2 S w 103 u l.length (pairs ks vs) ∧ TdL S w l vs
def TdL (S : Nat → Prop) (w : World) : List Tr → List Value → Prop
  | [], vs => vs = []
  | t :: l, vs => ∃ v vs', vs = v :: vs' ∧ TdT S w t v ∧ TdL S w l vs'
end
section
variable {S S' : Nat → Prop} {w w' : World} {e : TypeId} {v : Value} {xs vs : List Value}
theorem Row2.move {n : Nat} (h : Row2 S w e v n xs) (hm : ∀ k, k < w.heap.size → S k → S' k ∧ w'.heap[k]? = w.heap[k]?) : Row2 S' w' e v n xs := by
  obtain ⟨A, c, hv, hl, h⟩ := h
  refine ⟨A, c, hv, hl, ?_⟩
  rcases h with h | ⟨g, o, cur, hA, hS, hB, hc⟩
  · exact .inl h
  · have := hm g hB.lt hS
    exact .inr ⟨g, o, cur, hA, this.1, this.2.trans hB, hc⟩
theorem tdl_iff (S : Nat → Prop) (w : World) : ∀ (l : List Tr) (vs : List Value), TdL S w l vs ↔ vs.length = l.length ∧ ∀ (j : Nat) t v, l[j]? = some t → vs[j]? = some v → TdT S w t v
  | [], vs => by
    unfold TdL
    constructor
    · rintro rfl
      exact ⟨rfl, fun j t v h => by simp at h⟩
    · rintro ⟨h, _⟩
      exact List.length_eq_zero_iff.1 h
  | t :: l, vs => by
    unfold TdL
    constructor
    · rintro ⟨v, vs', rfl, h1, h2⟩
      obtain ⟨h3, h4⟩ := (tdl_iff S w l vs').1 h2
      refine ⟨by simp [h3], fun j t' v' hj hv => ?_⟩
      cases j with
      | zero =>
        simp at hj hv
        subst hj; subst hv
        exact h1
      | succ j => exact h4 j t' v' (by simpa using hj) (by simpa using hv)
    · rintro ⟨h1, h2⟩
      cases vs with
      | nil => simp at h1
      | cons v vs => exact ⟨v, vs, rfl, h2 0 t v rfl rfl, (tdl_iff S w l vs).2 ⟨by simpa using h1, fun j t' v' hj hv => h2 (j + 1) t' v' (by simpa using hj) (by simpa using hv)⟩⟩
theorem TdL.len {l : List Tr} (h : TdL S w l vs) : vs.length = l.length := ((tdl_iff S w l vs).1 h).1
theorem TdL.at {l : List Tr} (h : TdL S w l vs) {j : Nat} {t : Tr} {v : Value} (h1 : l[j]? = some t) (h2 : vs[j]? = some v) : TdT S w t v := ((tdl_iff S w l vs).1 h).2 j t v h1 h2
theorem TdT.move (hm : ∀ k, k < w.heap.size → S k → S' k ∧ w'.heap[k]? = w.heap[k]?) : ∀ t v, TdT S w t v → TdT S' w' t v := by
  intro t
  induction t using Tr.ind with
  | h0 => exact fun v h => by unfold TdT at h ⊢; exact h
  | h1 b => exact fun v h => by unfold TdT at h ⊢; exact h
  | h2 b => exact fun v h => by unfold TdT at h ⊢; exact h
  | h3 b => exact fun v h => by unfold TdT at h ⊢; exact h
  | h4 l ih =>
    intro v h
    unfold TdT at h ⊢
    obtain ⟨u, vs, hv, hR, hL⟩ := h
    exact ⟨u, vs, hv, hR.move hm, (tdl_iff _ _ _ _).2 ⟨hL.len, fun j t u h1 h2 => ih t (List.mem_of_getElem? h1) u (hL.at h1 h2)⟩⟩
  | h5 ks l ih =>
    intro v h
    unfold TdT at h ⊢
    obtain ⟨u, vs, hv, hk, hR, hL⟩ := h
    exact ⟨u, vs, hv, hk, hR.move hm, (tdl_iff _ _ _ _).2 ⟨hL.len, fun j t u h1 h2 => ih t (List.mem_of_getElem? h1) u (hL.at h1 h2)⟩⟩
theorem TdL.move {l : List Tr} (h : TdL S w l vs) (hm : ∀ k, k < w.heap.size → S k → S' k ∧ w'.heap[k]? = w.heap[k]?) : TdL S' w' l vs :=
  (tdl_iff _ _ _ _).2 ⟨h.len, fun _ _ _ h1 h2 => TdT.move hm _ _ (h.at h1 h2)⟩
theorem TdL.snoc {l : List Tr} {t : Tr} (h : TdL S w l vs) (h1 : TdT S w t v) : TdL S w (l ++ [t]) (vs ++ [v]) := by
  have hl := h.len
  refine (tdl_iff _ _ _ _).2 ⟨by simp [hl], fun j t' u' hj hu => ?_⟩
  rcases Nat.lt_or_ge j l.length with hlt | hge
  · rw [List.getElem?_append_left hlt] at hj
    rw [List.getElem?_append_left (by omega)] at hu
    exact h.at hj hu
  · rw [List.getElem?_append_right hge] at hj
    rw [List.getElem?_append_right (by omega)] at hu
    have e : j - vs.length = j - l.length := by omega
    rw [e] at hu
    cases hk : j - l.length with
    | zero =>
      rw [hk] at hj hu
      simp at hj hu
      subst hj; subst hu
      exact h1
    | succ k =>
      rw [hk] at hj
      simp at hj
theorem TdT.iface {t : Tr} (h : TdT S w t v) : ∃ tx ux, v = .iface tx ux := by
  cases t <;> unfold TdT at h
  · exact ⟨_, _, h⟩
  · exact ⟨_, _, h⟩
  · exact ⟨_, _, h⟩
  · exact ⟨_, _, h⟩
  · obtain ⟨u, vs, h, _⟩ := h
    exact ⟨_, _, h⟩
  · obtain ⟨u, vs, h, _⟩ := h
    exact ⟨_, _, h⟩
end
def ValP (t : Tr) (w : World) (e : Ending) (w' : World) : Prop := ∃ u, e = .returned u ∧ TdT (fun k => w.heap.size ≤ k) w' t u ∧ Below w.heap.size w w'
set_option maxRecDepth 100000 in
set_option maxHeartbeats 4000000 in
theorem value_null (w : World) : Calls Try.prog 28 #[.agg #[.iface 112 (.agg #[])]] w (ValP (.null) w) := by
  have h0 := ta_0_0
  go_enter Try.func28, Try.ntmps28
  go_wp2
  go_ret
  exact ⟨_, rfl, by unfold TdT; rfl, (((Below.refl _ _).alloc (Nat.le_refl _) _).alloc (by simp) _)⟩
set_option maxRecDepth 100000 in
set_option maxHeartbeats 4000000 in
theorem value_flag (b : Bool) (w : World) : Calls Try.prog 28 #[.agg #[.iface 113 (.bool b)]] w (ValP (.flag b) w) := by
  have h0 := ta_1_0 b
  have h1 := ta_1_1 b
  go_enter Try.func28, Try.ntmps28
  go_wp2
  go_ret
  exact ⟨_, rfl, by unfold TdT; rfl, ((Below.refl _ _).alloc (Nat.le_refl _) _)⟩
set_option maxRecDepth 100000 in
set_option maxHeartbeats 4000000 in
theorem value_num (x : Nat) (w : World) : Calls Try.prog 28 #[.agg #[.iface 117 (.float .f64 x)]] w (ValP (.num x) w) := by
  have h0 := ta_2_0 x
  have h1 := ta_2_1 x
  have h2 := ta_2_2 x
  go_enter Try.func28, Try.ntmps28
  go_wp2
  go_ret
  exact ⟨_, rfl, by unfold TdT; rfl, ((Below.refl _ _).alloc (Nat.le_refl _) _)⟩
set_option maxRecDepth 100000 in
set_option maxHeartbeats 4000000 in
theorem value_text (t : Tx) (w : World) : Calls Try.prog 28 #[.agg #[.iface 82 (.string ⟨t.toArray⟩)]] w (ValP (.text t) w) := by
  have h0 := ta_3_0 ⟨t.toArray⟩
  have h1 := ta_3_1 ⟨t.toArray⟩
  have h2 := ta_3_2 ⟨t.toArray⟩
  have h3 := ta_3_3 ⟨t.toArray⟩
  go_enter Try.func28, Try.ntmps28
  go_wp2
  go_ret
  exact ⟨_, rfl, by unfold TdT; rfl, ((Below.refl _ _).alloc (Nat.le_refl _) _)⟩
theorem info_value : (Try.prog.info? 56).map (fun i => (i.zero, i.size, i.bytes)) = some (some .nilIface, 1, 16) := by kernel_rfl
theorem info_member : (Try.prog.info? 103).map (fun i => (i.zero, i.size, i.bytes)) = some (some (.agg #[.string ⟨#[]⟩, .nilIface]), 2, 32) := by kernel_rfl
theorem nodes_pos : ∀ t : Tr, 1 ≤ t.nodes := by
  intro t
  cases t <;> simp [Tr.nodes]
theorem nodes_mem : ∀ (l : List Tr) (t : Tr), t ∈ l → t.nodes ≤ nodesL l
  | [], t, h => by simp at h
  | x :: l, t, h => by
    rcases List.mem_cons.1 h with rfl | h
    · simp [nodesL]
    · have := nodes_mem l t h
      simp only [nodesL]
      omega
theorem nodes_len : ∀ l : List Tr, l.length ≤ nodesL l
  | [] => by simp
  | x :: l => by
    have := nodes_len l
    have := nodes_pos x
    simp only [nodesL, List.length_cons]
    omega
/-- how the loop over a list's items stands -/
structure ValL (S : Nat → Prop) (l : List Tr) (w : World) (g0 : Nat) (k : Nat) (wr : World) : Prop where
  bl : Below w.heap.size w wr
  ex : ∃ us, us.length = k ∧ TdL (fun j => g0 < j) wr (l.take k) us ∧ wr.ownsRow g0 56 1 (.slice (some ⟨g0, 0, none⟩) k l.length) k us
theorem below_made {w w1 : World} {o : Obj} (h : (w.alloc o).grownBy w1 none) : Below w.heap.size w w1 :=
  ⟨h.os, h.tape, h.output, by have := h.size; simp at this; omega, fun j hj => (h.block j (by simp; omega) (by simp)).trans (Below.heap_alloc w o j hj)⟩
set_option maxRecDepth 100000 in
set_option maxHeartbeats 8000000 in
theorem value_list (S : Nat → Prop) (l : List Tr) (v : Value) (w : World) (h : RdT S w (.list l) v) (hlen : l.length ≤ 1048576) (ih : ∀ x, x ∈ l → ∀ u W, RdT S W x u → Calls Try.prog 28 #[.agg #[u]] W (ValP x W)) :
    Calls Try.prog 28 #[.agg #[v]] w (ValP (.list l) w) := by
  obtain ⟨i0, hi0, hz0, hz1, hz2⟩ := info_parts info_value
  unfold RdT at h
  obtain ⟨g1, A1, c1, vs, rfl, hS1, hB1, hR1, hL1⟩ := h
  have h0 := ta_4_0 (some ⟨g1, 0, none⟩)
  have h1 := ta_4_1 (some ⟨g1, 0, none⟩)
  have h2 := ta_4_2 (some ⟨g1, 0, none⟩)
  have h3 := ta_4_3 (some ⟨g1, 0, none⟩)
  have h4 := ta_4_4 (some ⟨g1, 0, none⟩)
  have HR := Lib.hid hR1
  have HL := Lib.hid hL1
  have HIH := Lib.hid ih
  have hlt1 := hB1.lt
  have d3 : w.cell? ⟨g1, 3, none⟩ = some (.slice A1 l.length c1) := hB1.cell 3
  clear hR1 hL1 ih hB1
  go_enter Try.func28, Try.ntmps28
  go_wp2_with (at_make; refine wpList_make_own _ rfl _ _ 53 rfl (w.heap.size + 1) 56 i0 _ 1 Try.underlying53 hi0 hz0 hz1 .i64 .i64 (l.length : Int) l.length rfl rfl rfl (by rw [hz2]; omega) (by unfold maxLen; omega) (by simp) ?_; intro w1 hown1 hgr1; have hb1 := below_made hgr1; have d3' : w1.cell? ⟨g1, 3, none⟩ = some (.slice A1 l.length c1) := ((old hb1).1 _ _ hlt1).trans d3)
  have hsz1 : w.heap.size + 1 < w1.heap.size := by have h9 := (hown1.lt _ rfl).2; simpa using h9
  rw [World.size_alloc] at hown1
  have HO1 := Lib.hid hown1
  clear hown1 hgr1
  go_loopw [8, 51] (fun c8 c51 wr => ∃ k : Nat, k ≤ l.length ∧ c51 = .int .i64 k ∧ c8 = .slice (some ⟨w.heap.size + 1, 0, none⟩) k l.length ∧ ValL S l w (w.heap.size + 1) k wr) (fun _ c51 _ => l.length - (intOf c51).toNat)
  case atStart => exact ⟨0, by omega, rfl, rfl, hb1, [], rfl, by unfold TdL; simp, HO1.out⟩
  case round =>
    obtain ⟨k, hk, rfl, rfl, hV⟩ := hrel
    have HV := Lib.hid hV
    have hbs := hV.bl.size
    clear hV
    by_cases hlt : k < l.length
    · have hcell : ∃ g o tx ux, A1 = some ⟨g, o, none⟩ ∧ wr.cell? ⟨g, o + k, none⟩ = some (.iface tx ux) ∧ RdT S wr l[k] (.iface tx ux) := by
        obtain ⟨A', c', e', h'⟩ := HR.out
        injection e' with e1 e2 e3
        have hvl := HL.out.len
        rcases h' with ⟨h', _⟩ | ⟨g, o, cur, hA, hSg, hBg, hc⟩
        · rw [h'] at hvl
          simp at hvl
          omega
        · have hvk : vs[k]? = some (vs[k]'(by omega)) := List.getElem?_eq_getElem (by omega)
          have hrd := HL.out.at (List.getElem?_eq_getElem hlt) hvk
          obtain ⟨tx, ux, he⟩ := hrd.iface
          rw [he] at hvk hrd
          exact ⟨g, o, tx, ux, by rw [e1, hA], ((HV.out.bl.cell (p := ⟨g, o + k, none⟩) hBg.lt).trans (hBg.cell _)).trans (hc k _ hvk), RdT.move (fun j hj hs => ⟨hs, HV.out.bl.block j hj⟩) _ _ hrd⟩
      obtain ⟨g, o, tx, ux, rfl, hcell, hrd⟩ := hcell
      have HRD := Lib.hid hrd
      clear hrd
      go_wp2_with fail
      ((with_reducible refine (HIH.out _ (List.getElem_mem hlt) _ _ HRD.out).mono ?_); rintro e w2 ⟨u, rfl, htd, hb2⟩)
      obtain ⟨ty, uy, rfl⟩ := htd.iface
      have HTD := Lib.hid htd
      obtain ⟨us, hul, hus, hown⟩ := HV.out.ex
      have hown2 := own_below hown hb2
      have hwlt : w.heap.size + 1 < wr.heap.size := (hown.lt _ rfl).2
      have hs2 := hb2.size
      have HUS := Lib.hid hus
      have HO2 := Lib.hid hown2
      have HB2 := Lib.hid hb2
      clear htd hus hown hown2 hb2
      go_wp2_with (at_builtin; refine wpList_append_fits _ rfl _ _ 53 rfl (w.heap.size + 1) 56 i0 1 Try.underlying53 hi0 hz1 (w.heap.size + 1) k l.length us rfl (HO2.out.alloc _) ⟨w2.heap.size, 0, none⟩ 1 1 [.iface ty uy] rfl rfl (one_new _ _ _) (one_cell _ rfl) (by omega) ?_; intro w3 hown3 hgr3)
      have hV3 : ValL S l w (w.heap.size + 1) (k + 1) w3 := by
        have hmv : ∀ j, j < w2.heap.size → w.heap.size + 1 < j → w.heap.size + 1 < j ∧ w3.heap[j]? = w2.heap[j]? := fun j hj hs =>
          ⟨hs, (hgr3.block j (by simp; omega) (by intro e; injection e with e; omega)).trans (Below.heap_alloc w2 _ j hj)⟩
        refine ⟨?_, us ++ [.iface ty uy], by simp [hul], ?_, hown3⟩
        · have h1 : Below w.heap.size w w2 := HV.out.bl.trans (HB2.out.mono hbs)
          exact (h1.alloc h1.size _).grown hgr3 (by simp; omega) (fun j e => by injection e with e; omega)
        · rw [List.take_succ_eq_append_getElem hlt]
          refine ((HUS.out.move fun j hj hs => ⟨hs, HB2.out.block j hj⟩).move hmv).snoc ?_
          exact TdT.move hmv _ _ (TdT.move (fun j hj hs => ⟨by omega, rfl⟩) _ _ HTD.out)
      clear hown3 hgr3
      go_wp2
      go_roundw
      case rel => exact ⟨k + 1, by omega, by go_num, rfl, hV3⟩
      case measure => simp [intOf]; omega
    · have hkn : k = l.length := by omega
      subst hkn
      go_wp2
      go_ret
      obtain ⟨us, hul, hus, hown⟩ := HV.out.ex
      rw [List.take_length] at hus
      refine ⟨_, rfl, ?_, HV.out.bl⟩
      unfold TdT
      exact ⟨_, us, rfl, (row_of_own hown).mono fun j hj => by have := (hown.lt j hj).1; omega, hus.move fun j hj hs => ⟨by omega, rfl⟩⟩
end Nd
end Go.Proofs.Ytfhfkggkbeahbaa
