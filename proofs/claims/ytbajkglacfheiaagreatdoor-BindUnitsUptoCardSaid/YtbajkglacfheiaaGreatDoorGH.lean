/-
  Walks of package node: what a Ref answers: items, keys, Key, Text, Size, All.
  Walks of package node: the slice of a Ref's items, named.
-/
import Derived.Test.YtbajkglacfheiaaGreatDoorGF
import Derived.Test.YtbajkglacfheiaaGreatDoorGC
import Derived.BigQuiet
namespace Go.Proofs.YtbajkglacfheiaaGreatDoor
open Go.RowKit Mem
set_option linter.unusedVariables false
namespace Nd

def Tr.kids : Tr → List Tr
  | .list l => l
  | .obj _ l => l
  | _ => []
def Tr.kn : Tr → List Tx
  | .obj ks _ => ks
  | _ => []
def Tr.tx : Tr → Tx
  | .text s => s
  | _ => []
def Tr.isTx : Tr → Bool
  | .text _ => true
  | _ => false
theorem rdk_row {S : Nat → Prop} {w : World} {A : Option Addr} {ks : List Tx} {c : Nat} (h : Row S w 9 (.slice A ks.length c) (ks.map txV)) : RdK w (.slice A ks.length c) ks := by
  obtain ⟨A', c', e, h⟩ := h
  injection e with e1 e2 e3
  subst e1
  refine ⟨_, _, rfl, ?_⟩
  rcases h with ⟨h, _⟩ | ⟨g, o, cur, hA, _, hB, hc⟩
  · exact .inl (by simpa using congrArg List.length h)
  · exact .inr ⟨g, o, hA, fun j t hj => (hB.cell _).trans (hc j _ (by rw [List.getElem?_map, hj]; rfl))⟩
theorem row_none (S : Nat → Prop) (w : World) (e : TypeId) : Row S w e (.slice none 0 0) [] := ⟨none, 0, rfl, .inl ⟨rfl, .inl rfl⟩⟩
/-- what items comes to -/
def ItemsP (S : Nat → Prop) (t : Tr) (w : World) (e : Ending) (w' : World) : Prop := (∃ A c vs, e = .returned (.slice A t.kids.length c) ∧ Row S w 56 (.slice A t.kids.length c) vs ∧ RdL S w t.kids vs) ∧ Below w.heap.size w w'
def KeysP (t : Tr) (w : World) (e : Ending) (w' : World) : Prop := (∃ A c, e = .returned (.slice A t.kn.length c) ∧ RdK w (.slice A t.kn.length c) t.kn) ∧ Below w.heap.size w w'
set_option maxRecDepth 100000 in
set_option maxHeartbeats 4000000 in
theorem items_null (S : Nat → Prop) (v : Value) (w : World) (h : RdT S w (.null) v) : Calls Tryz.prog 113 #[.agg #[v]] w (ItemsP S (.null) w) := by
  unfold RdT at h
  subst h
  have h4 := ta_0_4
  have h5 := ta_0_5
  go_enter Tryz.func113, Tryz.ntmps113
  go_wp2
  go_ret
  exact ⟨⟨none, 0, [], rfl, row_none _ _ _, by unfold Tr.kids RdL; rfl⟩, (Below.refl _ _).alloc (Nat.le_refl _) _⟩
set_option maxRecDepth 100000 in
set_option maxHeartbeats 4000000 in
theorem keysr_null (S : Nat → Prop) (v : Value) (w : World) (h : RdT S w (.null) v) : Calls Tryz.prog 141 #[.agg #[v]] w (KeysP (.null) w) := by
  unfold RdT at h
  subst h
  have h5 := ta_0_5
  go_enter Tryz.func141, Tryz.ntmps141
  go_wp2
  go_ret
  exact ⟨⟨none, 0, rfl, ⟨none, 0, rfl, .inl rfl⟩⟩, (Below.refl _ _).alloc (Nat.le_refl _) _⟩
set_option maxRecDepth 100000 in
set_option maxHeartbeats 4000000 in
theorem textr_null (S : Nat → Prop) (v : Value) (w : World) (h : RdT S w (.null) v) : Calls Tryz.prog 122 #[.agg #[v]] w fun e w' => e = .returned (.tuple #[.string ⟨(Tr.tx (.null)).toArray⟩, .bool (Tr.isTx (.null))]) ∧ Below w.heap.size w w' := by
  unfold RdT at h
  subst h
  have h3 := ta_0_3
  go_enter Tryz.func122, Tryz.ntmps122
  go_wp2
  go_ret2
  exact ⟨rfl, (Below.refl _ _).alloc (Nat.le_refl _) _⟩
set_option maxRecDepth 100000 in
set_option maxHeartbeats 4000000 in
theorem items_flag (b : Bool) (S : Nat → Prop) (v : Value) (w : World) (h : RdT S w (.flag b) v) : Calls Tryz.prog 113 #[.agg #[v]] w (ItemsP S (.flag b) w) := by
  unfold RdT at h
  subst h
  have h4 := ta_1_4 b
  have h5 := ta_1_5 b
  go_enter Tryz.func113, Tryz.ntmps113
  go_wp2
  go_ret
  exact ⟨⟨none, 0, [], rfl, row_none _ _ _, by unfold Tr.kids RdL; rfl⟩, (Below.refl _ _).alloc (Nat.le_refl _) _⟩
set_option maxRecDepth 100000 in
set_option maxHeartbeats 4000000 in
theorem keysr_flag (b : Bool) (S : Nat → Prop) (v : Value) (w : World) (h : RdT S w (.flag b) v) : Calls Tryz.prog 141 #[.agg #[v]] w (KeysP (.flag b) w) := by
  unfold RdT at h
  subst h
  have h5 := ta_1_5 b
  go_enter Tryz.func141, Tryz.ntmps141
  go_wp2
  go_ret
  exact ⟨⟨none, 0, rfl, ⟨none, 0, rfl, .inl rfl⟩⟩, (Below.refl _ _).alloc (Nat.le_refl _) _⟩
set_option maxRecDepth 100000 in
set_option maxHeartbeats 4000000 in
theorem textr_flag (b : Bool) (S : Nat → Prop) (v : Value) (w : World) (h : RdT S w (.flag b) v) : Calls Tryz.prog 122 #[.agg #[v]] w fun e w' => e = .returned (.tuple #[.string ⟨(Tr.tx (.flag b)).toArray⟩, .bool (Tr.isTx (.flag b))]) ∧ Below w.heap.size w w' := by
  unfold RdT at h
  subst h
  have h3 := ta_1_3 b
  go_enter Tryz.func122, Tryz.ntmps122
  go_wp2
  go_ret2
  exact ⟨rfl, (Below.refl _ _).alloc (Nat.le_refl _) _⟩
set_option maxRecDepth 100000 in
set_option maxHeartbeats 4000000 in
theorem items_num (x : Nat) (S : Nat → Prop) (v : Value) (w : World) (h : RdT S w (.num x) v) : Calls Tryz.prog 113 #[.agg #[v]] w (ItemsP S (.num x) w) := by
  unfold RdT at h
  subst h
  have h4 := ta_2_4 x
  have h5 := ta_2_5 x
  go_enter Tryz.func113, Tryz.ntmps113
  go_wp2
  go_ret
  exact ⟨⟨none, 0, [], rfl, row_none _ _ _, by unfold Tr.kids RdL; rfl⟩, (Below.refl _ _).alloc (Nat.le_refl _) _⟩
set_option maxRecDepth 100000 in
set_option maxHeartbeats 4000000 in
theorem keysr_num (x : Nat) (S : Nat → Prop) (v : Value) (w : World) (h : RdT S w (.num x) v) : Calls Tryz.prog 141 #[.agg #[v]] w (KeysP (.num x) w) := by
  unfold RdT at h
  subst h
  have h5 := ta_2_5 x
  go_enter Tryz.func141, Tryz.ntmps141
  go_wp2
  go_ret
  exact ⟨⟨none, 0, rfl, ⟨none, 0, rfl, .inl rfl⟩⟩, (Below.refl _ _).alloc (Nat.le_refl _) _⟩
set_option maxRecDepth 100000 in
set_option maxHeartbeats 4000000 in
theorem textr_num (x : Nat) (S : Nat → Prop) (v : Value) (w : World) (h : RdT S w (.num x) v) : Calls Tryz.prog 122 #[.agg #[v]] w fun e w' => e = .returned (.tuple #[.string ⟨(Tr.tx (.num x)).toArray⟩, .bool (Tr.isTx (.num x))]) ∧ Below w.heap.size w w' := by
  unfold RdT at h
  subst h
  have h3 := ta_2_3 x
  go_enter Tryz.func122, Tryz.ntmps122
  go_wp2
  go_ret2
  exact ⟨rfl, (Below.refl _ _).alloc (Nat.le_refl _) _⟩
set_option maxRecDepth 100000 in
set_option maxHeartbeats 4000000 in
theorem items_text (s : Tx) (S : Nat → Prop) (v : Value) (w : World) (h : RdT S w (.text s) v) : Calls Tryz.prog 113 #[.agg #[v]] w (ItemsP S (.text s) w) := by
  unfold RdT at h
  subst h
  have h4 := ta_3_4 ⟨s.toArray⟩
  have h5 := ta_3_5 ⟨s.toArray⟩
  go_enter Tryz.func113, Tryz.ntmps113
  go_wp2
  go_ret
  exact ⟨⟨none, 0, [], rfl, row_none _ _ _, by unfold Tr.kids RdL; rfl⟩, (Below.refl _ _).alloc (Nat.le_refl _) _⟩
set_option maxRecDepth 100000 in
set_option maxHeartbeats 4000000 in
theorem keysr_text (s : Tx) (S : Nat → Prop) (v : Value) (w : World) (h : RdT S w (.text s) v) : Calls Tryz.prog 141 #[.agg #[v]] w (KeysP (.text s) w) := by
  unfold RdT at h
  subst h
  have h5 := ta_3_5 ⟨s.toArray⟩
  go_enter Tryz.func141, Tryz.ntmps141
  go_wp2
  go_ret
  exact ⟨⟨none, 0, rfl, ⟨none, 0, rfl, .inl rfl⟩⟩, (Below.refl _ _).alloc (Nat.le_refl _) _⟩
set_option maxRecDepth 100000 in
set_option maxHeartbeats 4000000 in
theorem textr_text (s : Tx) (S : Nat → Prop) (v : Value) (w : World) (h : RdT S w (.text s) v) : Calls Tryz.prog 122 #[.agg #[v]] w fun e w' => e = .returned (.tuple #[.string ⟨(Tr.tx (.text s)).toArray⟩, .bool (Tr.isTx (.text s))]) ∧ Below w.heap.size w w' := by
  unfold RdT at h
  subst h
  have h3 := ta_3_3 ⟨s.toArray⟩
  go_enter Tryz.func122, Tryz.ntmps122
  go_wp2
  go_ret2
  exact ⟨rfl, (Below.refl _ _).alloc (Nat.le_refl _) _⟩
set_option maxRecDepth 100000 in
set_option maxHeartbeats 4000000 in
theorem items_list (l : List Tr) (S : Nat → Prop) (v : Value) (w : World) (h : RdT S w (.list l) v) : Calls Tryz.prog 113 #[.agg #[v]] w (ItemsP S (.list l) w) := by
  unfold RdT at h
  obtain ⟨g1, A1, c1, vs, rfl, hS1, hB1, hR1, hL1⟩ := h
  have h4 := ta_4_4 (some ⟨g1, 0, none⟩)
  have d3 : w.cell? ⟨g1, 3, none⟩ = some (.slice A1 l.length c1) := hB1.cell 3
  have HP := Lib.hid (And.intro hR1 hL1)
  have hlt := hB1.lt
  clear hB1 hR1 hL1
  go_enter Tryz.func113, Tryz.ntmps113
  go_wp2
  go_ret
  exact ⟨⟨A1, c1, vs, rfl, HP.out.1, HP.out.2⟩, (Below.refl _ _).alloc (Nat.le_refl _) _⟩
set_option maxRecDepth 100000 in
set_option maxHeartbeats 4000000 in
theorem keysr_list (l : List Tr) (S : Nat → Prop) (v : Value) (w : World) (h : RdT S w (.list l) v) : Calls Tryz.prog 141 #[.agg #[v]] w (KeysP (.list l) w) := by
  unfold RdT at h
  obtain ⟨g1, A1, c1, vs, rfl, hS1, hB1, hR1, hL1⟩ := h
  have h5 := ta_4_5 (some ⟨g1, 0, none⟩)
  clear hB1 hR1 hL1
  go_enter Tryz.func141, Tryz.ntmps141
  go_wp2
  go_ret
  exact ⟨⟨none, 0, rfl, ⟨none, 0, rfl, .inl rfl⟩⟩, (Below.refl _ _).alloc (Nat.le_refl _) _⟩
set_option maxRecDepth 100000 in
set_option maxHeartbeats 4000000 in
theorem textr_list (l : List Tr) (S : Nat → Prop) (v : Value) (w : World) (h : RdT S w (.list l) v) : Calls Tryz.prog 122 #[.agg #[v]] w fun e w' => e = .returned (.tuple #[.string ⟨(Tr.tx (.list l)).toArray⟩, .bool (Tr.isTx (.list l))]) ∧ Below w.heap.size w w' := by
  unfold RdT at h
  obtain ⟨g1, A1, c1, vs, rfl, hS1, hB1, hR1, hL1⟩ := h
  have h3 := ta_4_3 (some ⟨g1, 0, none⟩)
  clear hB1 hR1 hL1
  go_enter Tryz.func122, Tryz.ntmps122
  go_wp2
  go_ret2
  exact ⟨rfl, (Below.refl _ _).alloc (Nat.le_refl _) _⟩
set_option maxRecDepth 100000 in
set_option maxHeartbeats 4000000 in
theorem items_obj (ks : List Tx) (l : List Tr) (S : Nat → Prop) (v : Value) (w : World) (h : RdT S w (.obj ks l) v) : Calls Tryz.prog 113 #[.agg #[v]] w (ItemsP S (.obj ks l) w) := by
  unfold RdT at h
  obtain ⟨g1, K1, dk, A1, c1, vs, rfl, hS1, hB1, hK1, hR1, hL1⟩ := h
  have h4 := ta_5_4 (some ⟨g1, 0, none⟩)
  have h5 := ta_5_5 (some ⟨g1, 0, none⟩)
  have d4 : w.cell? ⟨g1, 4, none⟩ = some (.slice A1 l.length c1) := hB1.cell 4
  have HP := Lib.hid (And.intro hR1 hL1)
  have hlt := hB1.lt
  clear hB1 hR1 hL1 hK1
  go_enter Tryz.func113, Tryz.ntmps113
  go_wp2
  go_ret
  exact ⟨⟨A1, c1, vs, rfl, HP.out.1, HP.out.2⟩, (Below.refl _ _).alloc (Nat.le_refl _) _⟩
set_option maxRecDepth 100000 in
set_option maxHeartbeats 4000000 in
theorem keysr_obj (ks : List Tx) (l : List Tr) (S : Nat → Prop) (v : Value) (w : World) (h : RdT S w (.obj ks l) v) : Calls Tryz.prog 141 #[.agg #[v]] w (KeysP (.obj ks l) w) := by
  unfold RdT at h
  obtain ⟨g1, K1, dk, A1, c1, vs, rfl, hS1, hB1, hK1, hR1, hL1⟩ := h
  have h5 := ta_5_5 (some ⟨g1, 0, none⟩)
  have d4 : w.cell? ⟨g1, 3, none⟩ = some (.slice K1 ks.length dk) := hB1.cell 3
  have HP := Lib.hid (rdk_row hK1)
  have hlt := hB1.lt
  clear hB1 hR1 hL1 hK1
  go_enter Tryz.func141, Tryz.ntmps141
  go_wp2
  go_ret
  exact ⟨⟨K1, dk, rfl, HP.out⟩, (Below.refl _ _).alloc (Nat.le_refl _) _⟩
set_option maxRecDepth 100000 in
set_option maxHeartbeats 4000000 in
theorem textr_obj (ks : List Tx) (l : List Tr) (S : Nat → Prop) (v : Value) (w : World) (h : RdT S w (.obj ks l) v) : Calls Tryz.prog 122 #[.agg #[v]] w fun e w' => e = .returned (.tuple #[.string ⟨(Tr.tx (.obj ks l)).toArray⟩, .bool (Tr.isTx (.obj ks l))]) ∧ Below w.heap.size w w' := by
  unfold RdT at h
  obtain ⟨g1, K1, dk, A1, c1, vs, rfl, hS1, hB1, hK1, hR1, hL1⟩ := h
  have h3 := ta_5_3 (some ⟨g1, 0, none⟩)
  clear hB1 hR1 hL1 hK1
  go_enter Tryz.func122, Tryz.ntmps122
  go_wp2
  go_ret2
  exact ⟨rfl, (Below.refl _ _).alloc (Nat.le_refl _) _⟩
theorem items_any (S : Nat → Prop) (t : Tr) (v : Value) (w : World) (h : RdT S w t v) : Calls Tryz.prog 113 #[.agg #[v]] w (ItemsP S t w) := by
  cases t with
  | null => exact items_null S v w h
  | flag b => exact items_flag b S v w h
  | num x => exact items_num x S v w h
  | text s => exact items_text s S v w h
  | list l => exact items_list l S v w h
  | obj ks l => exact items_obj ks l S v w h
theorem keysr_any (S : Nat → Prop) (t : Tr) (v : Value) (w : World) (h : RdT S w t v) : Calls Tryz.prog 141 #[.agg #[v]] w (KeysP t w) := by
  cases t with
  | null => exact keysr_null S v w h
  | flag b => exact keysr_flag b S v w h
  | num x => exact keysr_num x S v w h
  | text s => exact keysr_text s S v w h
  | list l => exact keysr_list l S v w h
  | obj ks l => exact keysr_obj ks l S v w h
theorem textr_any (S : Nat → Prop) (t : Tr) (v : Value) (w : World) (h : RdT S w t v) : Calls Tryz.prog 122 #[.agg #[v]] w (fun e w' => e = .returned (.tuple #[.string ⟨t.tx.toArray⟩, .bool t.isTx]) ∧ Below w.heap.size w w') := by
  cases t with
  | null => exact textr_null S v w h
  | flag b => exact textr_flag b S v w h
  | num x => exact textr_num x S v w h
  | text s => exact textr_text s S v w h
  | list l => exact textr_list l S v w h
  | obj ks l => exact textr_obj ks l S v w h
end Nd
end Go.Proofs.YtbajkglacfheiaaGreatDoor
namespace Go.Proofs.YtbajkglacfheiaaGreatDoor
open Go.RowKit Mem
set_option linter.unusedVariables false
namespace Nd

/-- the slice of an item's items -/
def ItV (S : Nat → Prop) (w : World) (v : Value) (A : Option Addr) (n c : Nat) : Prop :=
  (((v = .iface 195 (.agg #[])) ∨ (∃ b, v = .iface 196 (.bool b)) ∨ (∃ x, v = .iface 140 (.float .f64 x)) ∨ (∃ s, v = .iface 199 (.string s))) ∧ A = none ∧ n = 0 ∧ c = 0) ∨
  (∃ g, v = .iface 202 (.pointer (some ⟨g, 0, none⟩)) ∧ S g ∧ w.cell? ⟨g, 3, none⟩ = some (.slice A n c)) ∨
  (∃ g, v = .iface 271 (.pointer (some ⟨g, 0, none⟩)) ∧ S g ∧ w.cell? ⟨g, 4, none⟩ = some (.slice A n c))
theorem itv_cell {w w' : World} {g o : Nat} (h : w'.heap[g]? = w.heap[g]?) : w'.cell? ⟨g, o, none⟩ = w.cell? ⟨g, o, none⟩ := by
  unfold World.cell?
  simp only [h]
theorem ItV.move {S S' : Nat → Prop} {w w' : World} {v : Value} {A : Option Addr} {n c : Nat} (h : ItV S w v A n c) (hm : ∀ k, k < w.heap.size → S k → S' k ∧ w'.heap[k]? = w.heap[k]?) : ItV S' w' v A n c := by
  rcases h with h | ⟨g, hv, hs, hc⟩ | ⟨g, hv, hs, hc⟩
  · exact .inl h
  · have hlt := World.block_lt_of_cell? w _ hc
    have := hm g hlt hs
    exact .inr (.inl ⟨g, hv, this.1, (itv_cell this.2).trans hc⟩)
  · have hlt := World.block_lt_of_cell? w _ hc
    have := hm g hlt hs
    exact .inr (.inr ⟨g, hv, this.1, (itv_cell this.2).trans hc⟩)
theorem RdT.itv {S : Nat → Prop} {w : World} {t : Tr} {v : Value} (h : RdT S w t v) : ∃ A c vs, ItV S w v A t.kids.length c ∧ Row S w 56 (.slice A t.kids.length c) vs ∧ RdL S w t.kids vs := by
  cases t <;> unfold RdT at h
  · exact ⟨none, 0, [], .inl ⟨.inl h, rfl, rfl, rfl⟩, row_none _ _ _, by unfold Tr.kids RdL; rfl⟩
  · exact ⟨none, 0, [], .inl ⟨.inr (.inl ⟨_, h⟩), rfl, rfl, rfl⟩, row_none _ _ _, by unfold Tr.kids RdL; rfl⟩
  · exact ⟨none, 0, [], .inl ⟨.inr (.inr (.inl ⟨_, h⟩)), rfl, rfl, rfl⟩, row_none _ _ _, by unfold Tr.kids RdL; rfl⟩
  · exact ⟨none, 0, [], .inl ⟨.inr (.inr (.inr ⟨_, h⟩)), rfl, rfl, rfl⟩, row_none _ _ _, by unfold Tr.kids RdL; rfl⟩
  · obtain ⟨g1, A1, c1, vs, rfl, hS1, hB1, hR1, hL1⟩ := h
    exact ⟨A1, c1, vs, .inr (.inl ⟨g1, rfl, hS1, hB1.cell 3⟩), hR1, hL1⟩
  · obtain ⟨g1, K1, dk, A1, c1, vs, rfl, hS1, hB1, hK1, hR1, hL1⟩ := h
    exact ⟨A1, c1, vs, .inr (.inr ⟨g1, rfl, hS1, hB1.cell 4⟩), hR1, hL1⟩
set_option maxRecDepth 100000 in
set_option maxHeartbeats 4000000 in
theorem itm_null (w : World) : Calls Tryz.prog 113 #[.agg #[.iface 195 (.agg #[])]] w fun e w' => e = .returned (.slice none 0 0) ∧ Below w.heap.size w w' := by
  have h4 := ta_0_4
  have h5 := ta_0_5
  go_enter Tryz.func113, Tryz.ntmps113
  go_wp2
  go_ret
  exact ⟨rfl, (Below.refl _ _).alloc (Nat.le_refl _) _⟩
set_option maxRecDepth 100000 in
set_option maxHeartbeats 4000000 in
theorem itm_flag (b : Bool) (w : World) : Calls Tryz.prog 113 #[.agg #[.iface 196 (.bool b)]] w fun e w' => e = .returned (.slice none 0 0) ∧ Below w.heap.size w w' := by
  have h4 := ta_1_4 b
  have h5 := ta_1_5 b
  go_enter Tryz.func113, Tryz.ntmps113
  go_wp2
  go_ret
  exact ⟨rfl, (Below.refl _ _).alloc (Nat.le_refl _) _⟩
set_option maxRecDepth 100000 in
set_option maxHeartbeats 4000000 in
theorem itm_num (x : Nat) (w : World) : Calls Tryz.prog 113 #[.agg #[.iface 140 (.float .f64 x)]] w fun e w' => e = .returned (.slice none 0 0) ∧ Below w.heap.size w w' := by
  have h4 := ta_2_4 x
  have h5 := ta_2_5 x
  go_enter Tryz.func113, Tryz.ntmps113
  go_wp2
  go_ret
  exact ⟨rfl, (Below.refl _ _).alloc (Nat.le_refl _) _⟩
set_option maxRecDepth 100000 in
set_option maxHeartbeats 4000000 in
theorem itm_text (s : ByteArray) (w : World) : Calls Tryz.prog 113 #[.agg #[.iface 199 (.string s)]] w fun e w' => e = .returned (.slice none 0 0) ∧ Below w.heap.size w w' := by
  have h4 := ta_3_4 s
  have h5 := ta_3_5 s
  go_enter Tryz.func113, Tryz.ntmps113
  go_wp2
  go_ret
  exact ⟨rfl, (Below.refl _ _).alloc (Nat.le_refl _) _⟩
set_option maxRecDepth 100000 in
set_option maxHeartbeats 4000000 in
theorem itm_list (g1 : Nat) (w : World) (A : Option Addr) (n c : Nat) (d3 : w.cell? ⟨g1, 3, none⟩ = some (.slice A n c)) : Calls Tryz.prog 113 #[.agg #[.iface 202 (.pointer (some ⟨g1, 0, none⟩))]] w fun e w' => e = .returned (.slice A n c) ∧ Below w.heap.size w w' := by
  have h4 := ta_4_4 (some ⟨g1, 0, none⟩)
  have hlt := World.block_lt_of_cell? w _ d3
  dsimp only at hlt
  go_enter Tryz.func113, Tryz.ntmps113
  go_wp2
  go_ret
  exact ⟨rfl, (Below.refl _ _).alloc (Nat.le_refl _) _⟩
set_option maxRecDepth 100000 in
set_option maxHeartbeats 4000000 in
theorem itm_obj (g1 : Nat) (w : World) (A : Option Addr) (n c : Nat) (d3 : w.cell? ⟨g1, 4, none⟩ = some (.slice A n c)) : Calls Tryz.prog 113 #[.agg #[.iface 271 (.pointer (some ⟨g1, 0, none⟩))]] w fun e w' => e = .returned (.slice A n c) ∧ Below w.heap.size w w' := by
  have h4 := ta_5_4 (some ⟨g1, 0, none⟩)
  have h5 := ta_5_5 (some ⟨g1, 0, none⟩)
  have hlt := World.block_lt_of_cell? w _ d3
  dsimp only at hlt
  go_enter Tryz.func113, Tryz.ntmps113
  go_wp2
  go_ret
  exact ⟨rfl, (Below.refl _ _).alloc (Nat.le_refl _) _⟩
theorem itm_any {S : Nat → Prop} {w : World} {v : Value} {A : Option Addr} {n c : Nat} (h : ItV S w v A n c) : Calls Tryz.prog 113 #[.agg #[v]] w fun e w' => e = .returned (.slice A n c) ∧ Below w.heap.size w w' := by
  rcases h with ⟨h, rfl, rfl, rfl⟩ | ⟨g, rfl, _, hc⟩ | ⟨g, rfl, _, hc⟩
  · rcases h with rfl | ⟨b, rfl⟩ | ⟨x, rfl⟩ | ⟨s, rfl⟩
    · exact itm_null w
    · exact itm_flag b w
    · exact itm_num x w
    · exact itm_text s w
  · exact itm_list g w A n c hc
  · exact itm_obj g w A n c hc
end Nd
end Go.Proofs.YtbajkglacfheiaaGreatDoor

