/-
  Walks of package node: what a Ref answers: items, keys, Key, Text, Size, All. Walks of package node: the slice of a Ref's items, named.
  Walks of package node: a Ref's Number.
  Walks of package node: a Ref's Sort and Len. Two trees alike, in plain terms; slices.Equal of two rows of keys. Walks of package node: a Ref's Same.
-/
import Derived.Test.YtbajkglacfheiaaGreatDoorPA9
import Derived.Test.YtbajkglacfheiaaGreatDoorPA2
import Derived.Test.YtbajkglacfheiaaGreatDoorPA6
import Derived.BigQuiet
import Derived.Deep.RegionHeldLaw
set_option linter.unusedVariables false
set_option linter.unusedSimpArgs false
set_option maxRecDepth 100000
set_option maxHeartbeats 16000000
namespace Go.Proofs.YtbajkglacfheiaaGreatDoor
open Go.RowKit Mem
namespace Nd

def Tr.kids : Tr → List Tr
 | .list l => l
 | .obj _ l => l
 | _ => []
def Tr.kn : Tr → List Tx
 | .obj ks _ => ks
 | _ => []
def Tr.tx : Tr → Tx
 | .text s => s
 | _ => []
def Tr.isTx : Tr → Bool
 | .text _ => true
 | _ => false
theorem rdk_row {S : Nat → Prop} {w : World} {A : Option Addr} {ks : List Tx} {c : Nat} (h : Row S w 9 (.slice A ks.length c) (ks.map txV)) : RdK w (.slice A ks.length c) ks := by
 obtain ⟨A', c', e, h⟩ := h
 injection e with e1 e2 e3
 subst e1
 refine ⟨_, _, rfl, ?_⟩
 rcases h with ⟨h, _⟩ | ⟨g, o, cur, hA, _, hB, hc⟩
 ·exact .inl (by simpa using congrArg List.length h)
 ·exact .inr ⟨g, o, hA, fun j t hj => (hB.cell _).trans (hc j _ (by rw [List.getElem?_map, hj]; rfl))⟩
theorem row_none (S : Nat → Prop) (w : World) (e : TypeId) : Row S w e (.slice none 0 0) [] := ⟨none, 0, rfl, .inl ⟨rfl, .inl rfl⟩⟩
def KeysP (t : Tr) (w : World) (e : Ending) (w' : World) : Prop := (∃ A c, e = .returned (.slice A t.kn.length c) ∧ RdK w (.slice A t.kn.length c) t.kn) ∧ Below w.heap.size w w'
theorem keysr_null (S : Nat → Prop) (v : Value) (w : World) (h : RdT S w (.null) v) : Calls Tryz.prog 141 #[.agg #[v]] w (KeysP (.null) w) := by
 unfold RdT at h
 subst h
 have h5 := ta_0_5
 go_enter Tryz.func141, Tryz.ntmps141
 go_wp2
 go_ret
 exact ⟨⟨none, 0, rfl, ⟨none, 0, rfl, .inl rfl⟩⟩, (Below.refl _ _).alloc (Nat.le_refl _) _⟩
theorem textr_null (S : Nat → Prop) (v : Value) (w : World) (h : RdT S w (.null) v) : Calls Tryz.prog 122 #[.agg #[v]] w fun e w' => e = .returned (.tuple #[.string ⟨(Tr.tx (.null)).toArray⟩, .bool (Tr.isTx (.null))]) ∧ Below w.heap.size w w' := by
 unfold RdT at h
 subst h
 have h3 := ta_0_3
 go_enter Tryz.func122, Tryz.ntmps122
 go_wp2
 go_ret2
 exact ⟨rfl, (Below.refl _ _).alloc (Nat.le_refl _) _⟩
theorem keysr_flag (b : Bool) (S : Nat → Prop) (v : Value) (w : World) (h : RdT S w (.flag b) v) : Calls Tryz.prog 141 #[.agg #[v]] w (KeysP (.flag b) w) := by
 unfold RdT at h
 subst h
 have h5 := ta_1_5 b
 go_enter Tryz.func141, Tryz.ntmps141
 go_wp2
 go_ret
 exact ⟨⟨none, 0, rfl, ⟨none, 0, rfl, .inl rfl⟩⟩, (Below.refl _ _).alloc (Nat.le_refl _) _⟩
theorem textr_flag (b : Bool) (S : Nat → Prop) (v : Value) (w : World) (h : RdT S w (.flag b) v) : Calls Tryz.prog 122 #[.agg #[v]] w fun e w' => e = .returned (.tuple #[.string ⟨(Tr.tx (.flag b)).toArray⟩, .bool (Tr.isTx (.flag b))]) ∧ Below w.heap.size w w' := by
 unfold RdT at h
 subst h
 have h3 := ta_1_3 b
 go_enter Tryz.func122, Tryz.ntmps122
 go_wp2
 go_ret2
 exact ⟨rfl, (Below.refl _ _).alloc (Nat.le_refl _) _⟩
theorem keysr_num (x : Nat) (S : Nat → Prop) (v : Value) (w : World) (h : RdT S w (.num x) v) : Calls Tryz.prog 141 #[.agg #[v]] w (KeysP (.num x) w) := by
 unfold RdT at h
 subst h
 have h5 := ta_2_5 x
 go_enter Tryz.func141, Tryz.ntmps141
 go_wp2
 go_ret
 exact ⟨⟨none, 0, rfl, ⟨none, 0, rfl, .inl rfl⟩⟩, (Below.refl _ _).alloc (Nat.le_refl _) _⟩
theorem textr_num (x : Nat) (S : Nat → Prop) (v : Value) (w : World) (h : RdT S w (.num x) v) : Calls Tryz.prog 122 #[.agg #[v]] w fun e w' => e = .returned (.tuple #[.string ⟨(Tr.tx (.num x)).toArray⟩, .bool (Tr.isTx (.num x))]) ∧ Below w.heap.size w w' := by
 unfold RdT at h
 subst h
 have h3 := ta_2_3 x
 go_enter Tryz.func122, Tryz.ntmps122
 go_wp2
 go_ret2
 exact ⟨rfl, (Below.refl _ _).alloc (Nat.le_refl _) _⟩
theorem keysr_text (s : Tx) (S : Nat → Prop) (v : Value) (w : World) (h : RdT S w (.text s) v) : Calls Tryz.prog 141 #[.agg #[v]] w (KeysP (.text s) w) := by
 unfold RdT at h
 subst h
 have h5 := ta_3_5 ⟨s.toArray⟩
 go_enter Tryz.func141, Tryz.ntmps141
 go_wp2
 go_ret
 exact ⟨⟨none, 0, rfl, ⟨none, 0, rfl, .inl rfl⟩⟩, (Below.refl _ _).alloc (Nat.le_refl _) _⟩
theorem textr_text (s : Tx) (S : Nat → Prop) (v : Value) (w : World) (h : RdT S w (.text s) v) : Calls Tryz.prog 122 #[.agg #[v]] w fun e w' => e = .returned (.tuple #[.string ⟨(Tr.tx (.text s)).toArray⟩, .bool (Tr.isTx (.text s))]) ∧ Below w.heap.size w w' := by
 unfold RdT at h
 subst h
 have h3 := ta_3_3 ⟨s.toArray⟩
 go_enter Tryz.func122, Tryz.ntmps122
 go_wp2
 go_ret2
 exact ⟨rfl, (Below.refl _ _).alloc (Nat.le_refl _) _⟩
theorem keysr_list (l : List Tr) (S : Nat → Prop) (v : Value) (w : World) (h : RdT S w (.list l) v) : Calls Tryz.prog 141 #[.agg #[v]] w (KeysP (.list l) w) := by
 unfold RdT at h
 obtain ⟨g1, A1, c1, vs, rfl, hS1, hB1, hR1, hL1⟩ := h
 have h5 := ta_4_5 (some ⟨g1, 0, none⟩)
 clear hB1 hR1 hL1
 go_enter Tryz.func141, Tryz.ntmps141
 go_wp2
 go_ret
 exact ⟨⟨none, 0, rfl, ⟨none, 0, rfl, .inl rfl⟩⟩, (Below.refl _ _).alloc (Nat.le_refl _) _⟩
theorem textr_list (l : List Tr) (S : Nat → Prop) (v : Value) (w : World) (h : RdT S w (.list l) v) : Calls Tryz.prog 122 #[.agg #[v]] w fun e w' => e = .returned (.tuple #[.string ⟨(Tr.tx (.list l)).toArray⟩, .bool (Tr.isTx (.list l))]) ∧ Below w.heap.size w w' := by
 unfold RdT at h
 obtain ⟨g1, A1, c1, vs, rfl, hS1, hB1, hR1, hL1⟩ := h
 have h3 := ta_4_3 (some ⟨g1, 0, none⟩)
 clear hB1 hR1 hL1
 go_enter Tryz.func122, Tryz.ntmps122
 go_wp2
 go_ret2
 exact ⟨rfl, (Below.refl _ _).alloc (Nat.le_refl _) _⟩
theorem keysr_obj (ks : List Tx) (l : List Tr) (S : Nat → Prop) (v : Value) (w : World) (h : RdT S w (.obj ks l) v) : Calls Tryz.prog 141 #[.agg #[v]] w (KeysP (.obj ks l) w) := by
 unfold RdT at h
 obtain ⟨g1, K1, dk, A1, c1, vs, rfl, hS1, hB1, hK1, hR1, hL1⟩ := h
 have h5 := ta_5_5 (some ⟨g1, 0, none⟩)
 have d4 : w.cell? ⟨g1, 3, none⟩ = some (.slice K1 ks.length dk) := hB1.cell 3
 have HP := Lib.hid (rdk_row hK1)
 have hlt := hB1.lt
 clear hB1 hR1 hL1 hK1
 go_enter Tryz.func141, Tryz.ntmps141
 go_wp2
 go_ret
 exact ⟨⟨K1, dk, rfl, HP.out⟩, (Below.refl _ _).alloc (Nat.le_refl _) _⟩
theorem textr_obj (ks : List Tx) (l : List Tr) (S : Nat → Prop) (v : Value) (w : World) (h : RdT S w (.obj ks l) v) : Calls Tryz.prog 122 #[.agg #[v]] w fun e w' => e = .returned (.tuple #[.string ⟨(Tr.tx (.obj ks l)).toArray⟩, .bool (Tr.isTx (.obj ks l))]) ∧ Below w.heap.size w w' := by
 unfold RdT at h
 obtain ⟨g1, K1, dk, A1, c1, vs, rfl, hS1, hB1, hK1, hR1, hL1⟩ := h
 have h3 := ta_5_3 (some ⟨g1, 0, none⟩)
 clear hB1 hR1 hL1 hK1
 go_enter Tryz.func122, Tryz.ntmps122
 go_wp2
 go_ret2
 exact ⟨rfl, (Below.refl _ _).alloc (Nat.le_refl _) _⟩
theorem keysr_any (S : Nat → Prop) (t : Tr) (v : Value) (w : World) (h : RdT S w t v) : Calls Tryz.prog 141 #[.agg #[v]] w (KeysP t w) := by
 cases t with
 | null => exact keysr_null S v w h
 | flag b => exact keysr_flag b S v w h
 | num x => exact keysr_num x S v w h
 | text s => exact keysr_text s S v w h
 | list l => exact keysr_list l S v w h
 | obj ks l => exact keysr_obj ks l S v w h
theorem textr_any (S : Nat → Prop) (t : Tr) (v : Value) (w : World) (h : RdT S w t v) : Calls Tryz.prog 122 #[.agg #[v]] w (fun e w' => e = .returned (.tuple #[.string ⟨t.tx.toArray⟩, .bool t.isTx]) ∧ Below w.heap.size w w') := by
 cases t with
 | null => exact textr_null S v w h
 | flag b => exact textr_flag b S v w h
 | num x => exact textr_num x S v w h
 | text s => exact textr_text s S v w h
 | list l => exact textr_list l S v w h
 | obj ks l => exact textr_obj ks l S v w h
end Nd
end Go.Proofs.YtbajkglacfheiaaGreatDoor
namespace Go.Proofs.YtbajkglacfheiaaGreatDoor
open Go.RowKit Mem
namespace Nd

def ItV (S : Nat → Prop) (w : World) (v : Value) (A : Option Addr) (n c : Nat) : Prop :=
 (((v = .iface 195 (.agg #[])) ∨ (∃ b, v = .iface 196 (.bool b)) ∨ (∃ x, v = .iface 140 (.float .f64 x)) ∨ (∃ s, v = .iface 199 (.string s))) ∧ A = none ∧ n = 0 ∧ c = 0) ∨
 (∃ g, v = .iface 202 (.pointer (some ⟨g, 0, none⟩)) ∧ S g ∧ w.cell? ⟨g, 3, none⟩ = some (.slice A n c)) ∨
 (∃ g, v = .iface 271 (.pointer (some ⟨g, 0, none⟩)) ∧ S g ∧ w.cell? ⟨g, 4, none⟩ = some (.slice A n c))
theorem itv_cell {w w' : World} {g o : Nat} (h : w'.heap[g]? = w.heap[g]?) : w'.cell? ⟨g, o, none⟩ = w.cell? ⟨g, o, none⟩ := by
 unfold World.cell?
 simp only [h]
theorem ItV.move {S S' : Nat → Prop} {w w' : World} {v : Value} {A : Option Addr} {n c : Nat} (h : ItV S w v A n c) (hm : ∀ k, k < w.heap.size → S k → S' k ∧ w'.heap[k]? = w.heap[k]?) : ItV S' w' v A n c := by
 rcases h with h | ⟨g, hv, hs, hc⟩ | ⟨g, hv, hs, hc⟩
 ·exact .inl h
 ·have hlt := World.block_lt_of_cell? w _ hc
  have := hm g hlt hs
  exact .inr (.inl ⟨g, hv, this.1, (itv_cell this.2).trans hc⟩)
 ·have hlt := World.block_lt_of_cell? w _ hc
  have := hm g hlt hs
  exact .inr (.inr ⟨g, hv, this.1, (itv_cell this.2).trans hc⟩)
theorem RdT.itv {S : Nat → Prop} {w : World} {t : Tr} {v : Value} (h : RdT S w t v) : ∃ A c vs, ItV S w v A t.kids.length c ∧ Row S w 56 (.slice A t.kids.length c) vs ∧ RdL S w t.kids vs := by
 cases t <;> unfold RdT at h
 ·exact ⟨none, 0, [], .inl ⟨.inl h, rfl, rfl, rfl⟩, row_none _ _ _, by unfold Tr.kids RdL; rfl⟩
 ·exact ⟨none, 0, [], .inl ⟨.inr (.inl ⟨_, h⟩), rfl, rfl, rfl⟩, row_none _ _ _, by unfold Tr.kids RdL; rfl⟩
 ·exact ⟨none, 0, [], .inl ⟨.inr (.inr (.inl ⟨_, h⟩)), rfl, rfl, rfl⟩, row_none _ _ _, by unfold Tr.kids RdL; rfl⟩
 ·exact ⟨none, 0, [], .inl ⟨.inr (.inr (.inr ⟨_, h⟩)), rfl, rfl, rfl⟩, row_none _ _ _, by unfold Tr.kids RdL; rfl⟩
 ·obtain ⟨g1, A1, c1, vs, rfl, hS1, hB1, hR1, hL1⟩ := h
  exact ⟨A1, c1, vs, .inr (.inl ⟨g1, rfl, hS1, hB1.cell 3⟩), hR1, hL1⟩
 ·obtain ⟨g1, K1, dk, A1, c1, vs, rfl, hS1, hB1, hK1, hR1, hL1⟩ := h
  exact ⟨A1, c1, vs, .inr (.inr ⟨g1, rfl, hS1, hB1.cell 4⟩), hR1, hL1⟩
theorem itm_null (w : World) : Calls Tryz.prog 113 #[.agg #[.iface 195 (.agg #[])]] w fun e w' => e = .returned (.slice none 0 0) ∧ Below w.heap.size w w' := by
 have h4 := ta_0_4
 have h5 := ta_0_5
 go_enter Tryz.func113, Tryz.ntmps113
 go_wp2
 go_ret
 exact ⟨rfl, (Below.refl _ _).alloc (Nat.le_refl _) _⟩
theorem itm_flag (b : Bool) (w : World) : Calls Tryz.prog 113 #[.agg #[.iface 196 (.bool b)]] w fun e w' => e = .returned (.slice none 0 0) ∧ Below w.heap.size w w' := by
 have h4 := ta_1_4 b
 have h5 := ta_1_5 b
 go_enter Tryz.func113, Tryz.ntmps113
 go_wp2
 go_ret
 exact ⟨rfl, (Below.refl _ _).alloc (Nat.le_refl _) _⟩
theorem itm_num (x : Nat) (w : World) : Calls Tryz.prog 113 #[.agg #[.iface 140 (.float .f64 x)]] w fun e w' => e = .returned (.slice none 0 0) ∧ Below w.heap.size w w' := by
 have h4 := ta_2_4 x
 have h5 := ta_2_5 x
 go_enter Tryz.func113, Tryz.ntmps113
 go_wp2
 go_ret
 exact ⟨rfl, (Below.refl _ _).alloc (Nat.le_refl _) _⟩
theorem itm_text (s : ByteArray) (w : World) : Calls Tryz.prog 113 #[.agg #[.iface 199 (.string s)]] w fun e w' => e = .returned (.slice none 0 0) ∧ Below w.heap.size w w' := by
 have h4 := ta_3_4 s
 have h5 := ta_3_5 s
 go_enter Tryz.func113, Tryz.ntmps113
 go_wp2
 go_ret
 exact ⟨rfl, (Below.refl _ _).alloc (Nat.le_refl _) _⟩
theorem itm_list (g1 : Nat) (w : World) (A : Option Addr) (n c : Nat) (d3 : w.cell? ⟨g1, 3, none⟩ = some (.slice A n c)) : Calls Tryz.prog 113 #[.agg #[.iface 202 (.pointer (some ⟨g1, 0, none⟩))]] w fun e w' => e = .returned (.slice A n c) ∧ Below w.heap.size w w' := by
 have h4 := ta_4_4 (some ⟨g1, 0, none⟩)
 have hlt := World.block_lt_of_cell? w _ d3
 dsimp only at hlt
 go_enter Tryz.func113, Tryz.ntmps113
 go_wp2
 go_ret
 exact ⟨rfl, (Below.refl _ _).alloc (Nat.le_refl _) _⟩
theorem itm_obj (g1 : Nat) (w : World) (A : Option Addr) (n c : Nat) (d3 : w.cell? ⟨g1, 4, none⟩ = some (.slice A n c)) : Calls Tryz.prog 113 #[.agg #[.iface 271 (.pointer (some ⟨g1, 0, none⟩))]] w fun e w' => e = .returned (.slice A n c) ∧ Below w.heap.size w w' := by
 have h4 := ta_5_4 (some ⟨g1, 0, none⟩)
 have h5 := ta_5_5 (some ⟨g1, 0, none⟩)
 have hlt := World.block_lt_of_cell? w _ d3
 dsimp only at hlt
 go_enter Tryz.func113, Tryz.ntmps113
 go_wp2
 go_ret
 exact ⟨rfl, (Below.refl _ _).alloc (Nat.le_refl _) _⟩
theorem itm_any {S : Nat → Prop} {w : World} {v : Value} {A : Option Addr} {n c : Nat} (h : ItV S w v A n c) : Calls Tryz.prog 113 #[.agg #[v]] w fun e w' => e = .returned (.slice A n c) ∧ Below w.heap.size w w' := by
 rcases h with ⟨h, rfl, rfl, rfl⟩ | ⟨g, rfl, _, hc⟩ | ⟨g, rfl, _, hc⟩
 ·rcases h with rfl | ⟨b, rfl⟩ | ⟨x, rfl⟩ | ⟨s, rfl⟩
  ·exact itm_null w
  ·exact itm_flag b w
  ·exact itm_num x w
  ·exact itm_text s w
 ·exact itm_list g w A n c hc
 ·exact itm_obj g w A n c hc
end Nd
end Go.Proofs.YtbajkglacfheiaaGreatDoor
namespace Go.Proofs.YtbajkglacfheiaaGreatDoor
open Go.RowKit Mem
namespace Nd
def Tr.nb : Tr → Nat
 | .num x => x
 | _ => 0
def Tr.isNb : Tr → Bool
 | .num _ => true
 | _ => false
theorem numr_null (S : Nat → Prop) (v : Value) (w : World) (h : RdT S w (.null) v) : Calls Tryz.prog 14 #[.agg #[v]] w fun e w' => e = .returned (.tuple #[.float .f64 (Tr.nb (.null)), .bool (Tr.isNb (.null))]) ∧ Below w.heap.size w w' := by
 unfold RdT at h
 subst h
 have h2 := ta_0_2
 go_enter Tryz.func14, Tryz.ntmps14
 go_wp2
 go_ret2
 exact ⟨rfl, (Below.refl _ _).alloc (Nat.le_refl _) _⟩
theorem numr_flag (b : Bool) (S : Nat → Prop) (v : Value) (w : World) (h : RdT S w (.flag b) v) : Calls Tryz.prog 14 #[.agg #[v]] w fun e w' => e = .returned (.tuple #[.float .f64 (Tr.nb (.flag b)), .bool (Tr.isNb (.flag b))]) ∧ Below w.heap.size w w' := by
 unfold RdT at h
 subst h
 have h2 := ta_1_2 b
 go_enter Tryz.func14, Tryz.ntmps14
 go_wp2
 go_ret2
 exact ⟨rfl, (Below.refl _ _).alloc (Nat.le_refl _) _⟩
theorem numr_num (x : Nat) (S : Nat → Prop) (v : Value) (w : World) (h : RdT S w (.num x) v) : Calls Tryz.prog 14 #[.agg #[v]] w fun e w' => e = .returned (.tuple #[.float .f64 (Tr.nb (.num x)), .bool (Tr.isNb (.num x))]) ∧ Below w.heap.size w w' := by
 unfold RdT at h
 subst h
 have h2 := ta_2_2 x
 go_enter Tryz.func14, Tryz.ntmps14
 go_wp2
 go_ret2
 exact ⟨rfl, (Below.refl _ _).alloc (Nat.le_refl _) _⟩
theorem numr_text (s : Tx) (S : Nat → Prop) (v : Value) (w : World) (h : RdT S w (.text s) v) : Calls Tryz.prog 14 #[.agg #[v]] w fun e w' => e = .returned (.tuple #[.float .f64 (Tr.nb (.text s)), .bool (Tr.isNb (.text s))]) ∧ Below w.heap.size w w' := by
 unfold RdT at h
 subst h
 have h2 := ta_3_2 ⟨s.toArray⟩
 go_enter Tryz.func14, Tryz.ntmps14
 go_wp2
 go_ret2
 exact ⟨rfl, (Below.refl _ _).alloc (Nat.le_refl _) _⟩
theorem numr_list (l : List Tr) (S : Nat → Prop) (v : Value) (w : World) (h : RdT S w (.list l) v) : Calls Tryz.prog 14 #[.agg #[v]] w fun e w' => e = .returned (.tuple #[.float .f64 (Tr.nb (.list l)), .bool (Tr.isNb (.list l))]) ∧ Below w.heap.size w w' := by
 unfold RdT at h
 obtain ⟨g1, A1, c1, vs, rfl, hS1, hB1, hR1, hL1⟩ := h
 clear hB1 hR1 hL1
 have h2 := ta_4_2 (some ⟨g1, 0, none⟩)
 go_enter Tryz.func14, Tryz.ntmps14
 go_wp2
 go_ret2
 exact ⟨rfl, (Below.refl _ _).alloc (Nat.le_refl _) _⟩
theorem numr_obj (ks : List Tx) (l : List Tr) (S : Nat → Prop) (v : Value) (w : World) (h : RdT S w (.obj ks l) v) : Calls Tryz.prog 14 #[.agg #[v]] w fun e w' => e = .returned (.tuple #[.float .f64 (Tr.nb (.obj ks l)), .bool (Tr.isNb (.obj ks l))]) ∧ Below w.heap.size w w' := by
 unfold RdT at h
 obtain ⟨g1, K1, dk, A1, c1, vs, rfl, hS1, hB1, hK1, hR1, hL1⟩ := h
 clear hB1 hR1 hL1 hK1
 have h2 := ta_5_2 (some ⟨g1, 0, none⟩)
 go_enter Tryz.func14, Tryz.ntmps14
 go_wp2
 go_ret2
 exact ⟨rfl, (Below.refl _ _).alloc (Nat.le_refl _) _⟩
theorem numr_any (S : Nat → Prop) (t : Tr) (v : Value) (w : World) (h : RdT S w t v) : Calls Tryz.prog 14 #[.agg #[v]] w (fun e w' => e = .returned (.tuple #[.float .f64 t.nb, .bool t.isNb]) ∧ Below w.heap.size w w') := by
 cases t with
 | null => exact numr_null S v w h
 | flag b => exact numr_flag b S v w h
 | num x => exact numr_num x S v w h
 | text s => exact numr_text s S v w h
 | list l => exact numr_list l S v w h
 | obj ks l => exact numr_obj ks l S v w h
end Nd
end Go.Proofs.YtbajkglacfheiaaGreatDoor
namespace Go.Proofs.YtbajkglacfheiaaGreatDoor
open Go.RowKit Mem
namespace Nd

def Tr.srt : Tr → Nat
 | .null => 1
 | .flag _ => 2
 | .num _ => 3
 | .text _ => 4
 | .list _ => 5
 | .obj _ _ => 6
def IntP (n : Int) (w : World) (e : Ending) (w' : World) : Prop := e = .returned (.int .i64 n) ∧ Below w.heap.size w w'
theorem ms_null (fuel : Nat) (nm : String) (hnm : nm = itemM 1) (W : World) : (method (fuel + 1) 195 (.agg #[]) nm).run Tryz.prog W = .ok (282, (.agg #[])) W := by
 subst hnm
 kernel_rfl
theorem sf_null (w : World) : Calls Tryz.prog 282 #[(.agg #[])] w (IntP 1 w) := by
 go_enter Tryz.func282, Tryz.ntmps282
 go_wp2
 go_ret
 exact ⟨rfl, (Below.refl _ _).alloc (Nat.le_refl _) _⟩
theorem st_null (w : World) : Calls Tryz.prog 41 #[.agg #[.iface 195 (.agg #[])]] w (IntP 1 w) := by
 go_enter Tryz.func41, Tryz.ntmps41
 go_wp2_with fail
 rw [ms_null _ _ ?nm]
 case nm => kernel_rfl
 go_wp2_with fail
 ((with_reducible refine (sf_null _).mono ?_); rintro e w1 ⟨rfl, hb1⟩)
 have hbw := ((Below.refl w.heap.size w).alloc (Nat.le_refl _) (.cells #[.iface 195 (.agg #[])] 58)).trans (hb1.mono (by simp))
 clear hb1
 go_wp2
 go_ret
 exact ⟨rfl, hbw⟩
theorem ms_flag (fuel : Nat) (b : Bool) (nm : String) (hnm : nm = itemM 1) (W : World) : (method (fuel + 1) 196 (.bool b) nm).run Tryz.prog W = .ok (284, (.bool b)) W := by
 subst hnm
 kernel_rfl
theorem sf_flag (b : Bool) (w : World) : Calls Tryz.prog 284 #[(.bool b)] w (IntP 2 w) := by
 go_enter Tryz.func284, Tryz.ntmps284
 go_wp2
 go_ret
 exact ⟨rfl, Below.refl _ _⟩
theorem st_flag (b : Bool) (w : World) : Calls Tryz.prog 41 #[.agg #[.iface 196 (.bool b)]] w (IntP 2 w) := by
 go_enter Tryz.func41, Tryz.ntmps41
 go_wp2_with fail
 rw [ms_flag _ b _ ?nm]
 case nm => kernel_rfl
 go_wp2_with fail
 ((with_reducible refine (sf_flag b _).mono ?_); rintro e w1 ⟨rfl, hb1⟩)
 have hbw := ((Below.refl w.heap.size w).alloc (Nat.le_refl _) (.cells #[.iface 196 (.bool b)] 58)).trans (hb1.mono (by simp))
 clear hb1
 go_wp2
 go_ret
 exact ⟨rfl, hbw⟩
theorem ms_num (fuel : Nat) (x : Nat) (nm : String) (hnm : nm = itemM 1) (W : World) : (method (fuel + 1) 140 (.float .f64 x) nm).run Tryz.prog W = .ok (272, (.float .f64 x)) W := by
 subst hnm
 kernel_rfl
theorem sf_num (x : Nat) (w : World) : Calls Tryz.prog 272 #[(.float .f64 x)] w (IntP 3 w) := by
 go_enter Tryz.func272, Tryz.ntmps272
 go_wp2
 go_ret
 exact ⟨rfl, Below.refl _ _⟩
theorem st_num (x : Nat) (w : World) : Calls Tryz.prog 41 #[.agg #[.iface 140 (.float .f64 x)]] w (IntP 3 w) := by
 go_enter Tryz.func41, Tryz.ntmps41
 go_wp2_with fail
 rw [ms_num _ x _ ?nm]
 case nm => kernel_rfl
 go_wp2_with fail
 ((with_reducible refine (sf_num x _).mono ?_); rintro e w1 ⟨rfl, hb1⟩)
 have hbw := ((Below.refl w.heap.size w).alloc (Nat.le_refl _) (.cells #[.iface 140 (.float .f64 x)] 58)).trans (hb1.mono (by simp))
 clear hb1
 go_wp2
 go_ret
 exact ⟨rfl, hbw⟩
theorem ms_text (fuel : Nat) (s : ByteArray) (nm : String) (hnm : nm = itemM 1) (W : World) : (method (fuel + 1) 199 (.string s) nm).run Tryz.prog W = .ok (286, (.string s)) W := by
 subst hnm
 kernel_rfl
theorem sf_text (s : ByteArray) (w : World) : Calls Tryz.prog 286 #[(.string s)] w (IntP 4 w) := by
 go_enter Tryz.func286, Tryz.ntmps286
 go_wp2
 go_ret
 exact ⟨rfl, Below.refl _ _⟩
theorem st_text (s : ByteArray) (w : World) : Calls Tryz.prog 41 #[.agg #[.iface 199 (.string s)]] w (IntP 4 w) := by
 go_enter Tryz.func41, Tryz.ntmps41
 go_wp2_with fail
 rw [ms_text _ s _ ?nm]
 case nm => kernel_rfl
 go_wp2_with fail
 ((with_reducible refine (sf_text s _).mono ?_); rintro e w1 ⟨rfl, hb1⟩)
 have hbw := ((Below.refl w.heap.size w).alloc (Nat.le_refl _) (.cells #[.iface 199 (.string s)] 58)).trans (hb1.mono (by simp))
 clear hb1
 go_wp2
 go_ret
 exact ⟨rfl, hbw⟩
theorem ms_list (fuel : Nat) (g : Nat) (nm : String) (hnm : nm = itemM 1) (W : World) : (method (fuel + 1) 202 (.pointer (some ⟨g, 0, none⟩)) nm).run Tryz.prog W = .ok (288, (.pointer (some ⟨g, 0, none⟩))) W := by
 subst hnm
 kernel_rfl
theorem sf_list (g : Nat) (w : World) : Calls Tryz.prog 288 #[(.pointer (some ⟨g, 0, none⟩))] w (IntP 5 w) := by
 go_enter Tryz.func288, Tryz.ntmps288
 go_wp2
 go_ret
 exact ⟨rfl, Below.refl _ _⟩
theorem st_list (g : Nat) (w : World) : Calls Tryz.prog 41 #[.agg #[.iface 202 (.pointer (some ⟨g, 0, none⟩))]] w (IntP 5 w) := by
 go_enter Tryz.func41, Tryz.ntmps41
 go_wp2_with fail
 rw [ms_list _ g _ ?nm]
 case nm => kernel_rfl
 go_wp2_with fail
 ((with_reducible refine (sf_list g _).mono ?_); rintro e w1 ⟨rfl, hb1⟩)
 have hbw := ((Below.refl w.heap.size w).alloc (Nat.le_refl _) (.cells #[.iface 202 (.pointer (some ⟨g, 0, none⟩))] 58)).trans (hb1.mono (by simp))
 clear hb1
 go_wp2
 go_ret
 exact ⟨rfl, hbw⟩
theorem ms_obj (fuel : Nat) (g : Nat) (nm : String) (hnm : nm = itemM 1) (W : World) : (method (fuel + 1) 271 (.pointer (some ⟨g, 0, none⟩)) nm).run Tryz.prog W = .ok (313, (.pointer (some ⟨g, 0, none⟩))) W := by
 subst hnm
 kernel_rfl
theorem sf_obj (g : Nat) (w : World) : Calls Tryz.prog 313 #[(.pointer (some ⟨g, 0, none⟩))] w (IntP 6 w) := by
 go_enter Tryz.func313, Tryz.ntmps313
 go_wp2
 go_ret
 exact ⟨rfl, Below.refl _ _⟩
theorem st_obj (g : Nat) (w : World) : Calls Tryz.prog 41 #[.agg #[.iface 271 (.pointer (some ⟨g, 0, none⟩))]] w (IntP 6 w) := by
 go_enter Tryz.func41, Tryz.ntmps41
 go_wp2_with fail
 rw [ms_obj _ g _ ?nm]
 case nm => kernel_rfl
 go_wp2_with fail
 ((with_reducible refine (sf_obj g _).mono ?_); rintro e w1 ⟨rfl, hb1⟩)
 have hbw := ((Below.refl w.heap.size w).alloc (Nat.le_refl _) (.cells #[.iface 271 (.pointer (some ⟨g, 0, none⟩))] 58)).trans (hb1.mono (by simp))
 clear hb1
 go_wp2
 go_ret
 exact ⟨rfl, hbw⟩
theorem sort_any (S : Nat → Prop) (t : Tr) (v : Value) (w : World) (h : RdT S w t v) : Calls Tryz.prog 41 #[.agg #[v]] w (IntP (t.srt : Nat) w) := by
 cases t with
 | null =>
  unfold RdT at h
  subst h
  exact st_null w
 | flag b =>
  unfold RdT at h
  subst h
  exact st_flag b w
 | num x =>
  unfold RdT at h
  subst h
  exact st_num x w
 | text s =>
  unfold RdT at h
  subst h
  exact st_text _ w
 | list l =>
  unfold RdT at h
  obtain ⟨g1, A1, c1, vs, rfl, _⟩ := h
  exact st_list g1 w
 | obj ks l =>
  unfold RdT at h
  obtain ⟨g1, K1, dk, A1, c1, vs, rfl, _⟩ := h
  exact st_obj g1 w
theorem len_itv (S : Nat → Prop) (v : Value) (A : Option Addr) (n c : Nat) (w : World) (h : ItV S w v A n c) : Calls Tryz.prog 62 #[.agg #[v]] w (IntP (n : Nat) w) := by
 have hI : ItV S (w.alloc (.cells #[v] 58)) v A n c := h.move fun j hj hs => ⟨hs, Below.heap_alloc w _ j hj⟩
 have HI := Lib.hid hI
 clear hI h
 go_enter Tryz.func62, Tryz.ntmps62
 go_wp2_with fail
 ((with_reducible refine (itm_any HI.out).mono ?_); rintro e w1 ⟨rfl, hb1⟩)
 have hbw := ((Below.refl w.heap.size w).alloc (Nat.le_refl _) (.cells #[v] 58)).trans (hb1.mono (by simp))
 clear hb1
 go_wp2
 go_ret
 exact ⟨rfl, hbw⟩
theorem len_any (S : Nat → Prop) (t : Tr) (v : Value) (w : World) (h : RdT S w t v) : Calls Tryz.prog 62 #[.agg #[v]] w (IntP (t.kids.length : Nat) w) := by
 obtain ⟨A, c, vs, hI, _, _⟩ := h.itv
 exact len_itv S v A _ c w hI
end Nd
end Go.Proofs.YtbajkglacfheiaaGreatDoor
namespace Go.Proofs.YtbajkglacfheiaaGreatDoor
open Go.RowKit Mem
namespace Nd

end Nd
end Go.Proofs.YtbajkglacfheiaaGreatDoor
namespace Go.Proofs.YtbajkglacfheiaaGreatDoor
open Go.RowKit Mem
namespace Nd

abbrev RdA (w : World) (t : Tr) (v : Value) : Prop := RdT (fun _ => True) w t v
theorem rda_below {w w' : World} {t : Tr} {v : Value} (h : RdA w t v) (hb : Below w.heap.size w w') : RdA w' t v := RdT.move (fun j hj hs => ⟨trivial, hb.block j hj⟩) _ _ h
theorem held_take {P : Program} {md : Region.Mode} {ops : Array Oper} {Q : Exit → Act → World → Prop} {S : World → Prop} {i : Nat} {oi : Oper} {v : Value} (d : Option Tmp) {fuel : Nat} {listed : Array Bool} {a : Act} {w : World} (hi : ops[i]? = some oi) (hd : oi.dst = d)
  (hs : Region.noSelect ops = true) (hf : Region.free md ops listed i = true) (hr : (Region.ready md ops listed).contains i = true)
  (hQ : ∀ c a w, Q (.panic c) (a.put d v) w → Q (.panic c) a w) (hy : YieldsIf P ops S oi v a) (hS : S w)
  (h : wpAnyH P md ops Q S fuel (listed.setIfInBounds i true) (a.put d v) w) : wpAnyH P md ops Q S (fuel + 1) listed a w := by
 subst hd
 exact wpAnyH_take hi hs hf hr hQ hy hS h
theorem itv_below {w w' : World} {v : Value} {A : Option Addr} {n c : Nat} (h : ItV (fun _ => True) w v A n c) (hb : Below w.heap.size w w') : ItV (fun _ => True) w' v A n c := h.move fun j hj _ => ⟨trivial, hb.block j hj⟩
theorem row_at {w wr : World} {A : Option Addr} {c : Nat} {vs : List Value} {l : List Tr} {k : Nat} (hrow : Row (fun _ => True) w 56 (.slice A l.length c) vs) (hl : RdL (fun _ => True) w l vs) (hb : Below w.heap.size w wr) (hk : k < l.length) :
  ∃ g o tx ux, A = some ⟨g, o, none⟩ ∧ wr.cell? ⟨g, o + k, none⟩ = some (.iface tx ux) ∧ RdA wr l[k] (.iface tx ux) := by
 obtain ⟨A', c', e', h'⟩ := hrow
 injection e' with e1 e2 e3
 have hvl := hl.len
 rcases h' with ⟨h', _⟩ | ⟨g, o, cur, hA, hSg, hBg, hc⟩
 ·rw [h'] at hvl
  simp at hvl
  omega
 ·have hvk : vs[k]? = some (vs[k]'(by omega)) := List.getElem?_eq_getElem (by omega)
  have hrd := hl.at (List.getElem?_eq_getElem hk) hvk
  obtain ⟨tx, ux, he⟩ := hrd.iface
  refine ⟨g, o, tx, ux, by rw [e1, hA], (hb.cell (p := ⟨g, o + k, none⟩) hBg.lt).trans ((hBg.cell _).trans (hc k _ (by rw [hvk, he]))), ?_⟩
  rw [he] at hrd
  exact rda_below hrd hb
end Nd
end Go.Proofs.YtbajkglacfheiaaGreatDoor
