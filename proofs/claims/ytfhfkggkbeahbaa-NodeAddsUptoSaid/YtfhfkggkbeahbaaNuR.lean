/-
  Walks of package node: the slice of a Ref's items, named.
-/
import Derived.Test.YtfhfkggkbeahbaaNuP
namespace Go.Proofs.Ytfhfkggkbeahbaa
open Go.RowKit Mem
set_option linter.unusedVariables false
namespace Nd

/-- the slice of an item's items -/
def ItV (S : Nat → Prop) (w : World) (v : Value) (A : Option Addr) (n c : Nat) : Prop :=
  (((v = .iface 112 (.agg #[])) ∨ (∃ b, v = .iface 113 (.bool b)) ∨ (∃ x, v = .iface 117 (.float .f64 x)) ∨ (∃ s, v = .iface 82 (.string s))) ∧ A = none ∧ n = 0 ∧ c = 0) ∨
  (∃ g, v = .iface 121 (.pointer (some ⟨g, 0, none⟩)) ∧ S g ∧ w.cell? ⟨g, 3, none⟩ = some (.slice A n c)) ∨
  (∃ g, v = .iface 126 (.pointer (some ⟨g, 0, none⟩)) ∧ S g ∧ w.cell? ⟨g, 4, none⟩ = some (.slice A n c))
theorem itv_cell {w w' : World} {g o : Nat} (h : w'.heap[g]? = w.heap[g]?) : w'.cell? ⟨g, o, none⟩ = w.cell? ⟨g, o, none⟩ := by
  unfold World.cell?
  simp only [h]
theorem ItV.move {S S' : Nat → Prop} {w w' : World} {v : Value} {A : Option Addr} {n c : Nat} (h : ItV S w v A n c) (hm : ∀ k, k < w.heap.size → S k → S' k ∧ w'.heap[k]? = w.heap[k]?) : ItV S' w' v A n c := by
  rcases h with h | ⟨g, hv, hs, hc⟩ | ⟨g, hv, hs, hc⟩
  · exact .inl h
  · have hlt := World.block_lt_of_cell? w _ hc
    have := hm g hlt hs
    exact .inr (.inl ⟨g, hv, this.1, (itv_cell this.2).trans hc⟩)
  · have hlt := World.block_lt_of_cell? w _ hc
    have := hm g hlt hs
    exact .inr (.inr ⟨g, hv, this.1, (itv_cell this.2).trans hc⟩)
theorem RdT.itv {S : Nat → Prop} {w : World} {t : Tr} {v : Value} (h : RdT S w t v) : ∃ A c vs, ItV S w v A t.kids.length c ∧ Row S w 46 (.slice A t.kids.length c) vs ∧ RdL S w t.kids vs := by
  cases t <;> unfold RdT at h
  · exact ⟨none, 0, [], .inl ⟨.inl h, rfl, rfl, rfl⟩, row_none _ _ _, by unfold Tr.kids RdL; rfl⟩
  · exact ⟨none, 0, [], .inl ⟨.inr (.inl ⟨_, h⟩), rfl, rfl, rfl⟩, row_none _ _ _, by unfold Tr.kids RdL; rfl⟩
  · exact ⟨none, 0, [], .inl ⟨.inr (.inr (.inl ⟨_, h⟩)), rfl, rfl, rfl⟩, row_none _ _ _, by unfold Tr.kids RdL; rfl⟩
  · exact ⟨none, 0, [], .inl ⟨.inr (.inr (.inr ⟨_, h⟩)), rfl, rfl, rfl⟩, row_none _ _ _, by unfold Tr.kids RdL; rfl⟩
  · obtain ⟨g1, A1, c1, vs, rfl, hS1, hB1, hR1, hL1⟩ := h
    exact ⟨A1, c1, vs, .inr (.inl ⟨g1, rfl, hS1, hB1.cell 3⟩), hR1, hL1⟩
  · obtain ⟨g1, K1, dk, A1, c1, vs, rfl, hS1, hB1, hK1, hR1, hL1⟩ := h
    exact ⟨A1, c1, vs, .inr (.inr ⟨g1, rfl, hS1, hB1.cell 4⟩), hR1, hL1⟩
set_option maxRecDepth 100000 in
set_option maxHeartbeats 4000000 in
theorem itm_null (w : World) : Calls Try.prog 30 #[.agg #[.iface 112 (.agg #[])]] w fun e w' => e = .returned (.slice none 0 0) ∧ Below w.heap.size w w' := by
  have h4 := ta_0_4
  have h5 := ta_0_5
  go_enter Try.func30, Try.ntmps30
  go_wp2
  go_ret
  exact ⟨rfl, (Below.refl _ _).alloc (Nat.le_refl _) _⟩
set_option maxRecDepth 100000 in
set_option maxHeartbeats 4000000 in
theorem itm_flag (b : Bool) (w : World) : Calls Try.prog 30 #[.agg #[.iface 113 (.bool b)]] w fun e w' => e = .returned (.slice none 0 0) ∧ Below w.heap.size w w' := by
  have h4 := ta_1_4 b
  have h5 := ta_1_5 b
  go_enter Try.func30, Try.ntmps30
  go_wp2
  go_ret
  exact ⟨rfl, (Below.refl _ _).alloc (Nat.le_refl _) _⟩
set_option maxRecDepth 100000 in
set_option maxHeartbeats 4000000 in
theorem itm_num (x : Nat) (w : World) : Calls Try.prog 30 #[.agg #[.iface 117 (.float .f64 x)]] w fun e w' => e = .returned (.slice none 0 0) ∧ Below w.heap.size w w' := by
  have h4 := ta_2_4 x
  have h5 := ta_2_5 x
  go_enter Try.func30, Try.ntmps30
  go_wp2
  go_ret
  exact ⟨rfl, (Below.refl _ _).alloc (Nat.le_refl _) _⟩
set_option maxRecDepth 100000 in
set_option maxHeartbeats 4000000 in
theorem itm_text (s : ByteArray) (w : World) : Calls Try.prog 30 #[.agg #[.iface 82 (.string s)]] w fun e w' => e = .returned (.slice none 0 0) ∧ Below w.heap.size w w' := by
  have h4 := ta_3_4 s
  have h5 := ta_3_5 s
  go_enter Try.func30, Try.ntmps30
  go_wp2
  go_ret
  exact ⟨rfl, (Below.refl _ _).alloc (Nat.le_refl _) _⟩
set_option maxRecDepth 100000 in
set_option maxHeartbeats 4000000 in
theorem itm_list (g1 : Nat) (w : World) (A : Option Addr) (n c : Nat) (d3 : w.cell? ⟨g1, 3, none⟩ = some (.slice A n c)) : Calls Try.prog 30 #[.agg #[.iface 121 (.pointer (some ⟨g1, 0, none⟩))]] w fun e w' => e = .returned (.slice A n c) ∧ Below w.heap.size w w' := by
  have h4 := ta_4_4 (some ⟨g1, 0, none⟩)
  have hlt := World.block_lt_of_cell? w _ d3
  dsimp only at hlt
  go_enter Try.func30, Try.ntmps30
  go_wp2
  go_ret
  exact ⟨rfl, (Below.refl _ _).alloc (Nat.le_refl _) _⟩
set_option maxRecDepth 100000 in
set_option maxHeartbeats 4000000 in
theorem itm_obj (g1 : Nat) (w : World) (A : Option Addr) (n c : Nat) (d3 : w.cell? ⟨g1, 4, none⟩ = some (.slice A n c)) : Calls Try.prog 30 #[.agg #[.iface 126 (.pointer (some ⟨g1, 0, none⟩))]] w fun e w' => e = .returned (.slice A n c) ∧ Below w.heap.size w w' := by
  have h4 := ta_5_4 (some ⟨g1, 0, none⟩)
  have h5 := ta_5_5 (some ⟨g1, 0, none⟩)
  have hlt := World.block_lt_of_cell? w _ d3
  dsimp only at hlt
  go_enter Try.func30, Try.ntmps30
  go_wp2
  go_ret
  exact ⟨rfl, (Below.refl _ _).alloc (Nat.le_refl _) _⟩
theorem itm_any {S : Nat → Prop} {w : World} {v : Value} {A : Option Addr} {n c : Nat} (h : ItV S w v A n c) : Calls Try.prog 30 #[.agg #[v]] w fun e w' => e = .returned (.slice A n c) ∧ Below w.heap.size w w' := by
  rcases h with ⟨h, rfl, rfl, rfl⟩ | ⟨g, rfl, _, hc⟩ | ⟨g, rfl, _, hc⟩
  · rcases h with rfl | ⟨b, rfl⟩ | ⟨x, rfl⟩ | ⟨s, rfl⟩
    · exact itm_null w
    · exact itm_flag b w
    · exact itm_num x w
    · exact itm_text s w
  · exact itm_list g w A n c hc
  · exact itm_obj g w A n c hc
end Nd
end Go.Proofs.Ytfhfkggkbeahbaa
