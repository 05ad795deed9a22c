/-
  Walks of package node: a Ref's Number.
-/
import Derived.Test.YtbajkglacfheiaaGreatDoorGH
namespace Go.Proofs.YtbajkglacfheiaaGreatDoor
open Go.RowKit Mem
set_option linter.unusedVariables false
namespace Nd
def Tr.nb : Tr → Nat
  | .num x => x
  | _ => 0
def Tr.isNb : Tr → Bool
  | .num _ => true
  | _ => false
set_option maxRecDepth 100000 in
set_option maxHeartbeats 4000000 in
theorem numr_null (S : Nat → Prop) (v : Value) (w : World) (h : RdT S w (.null) v) : Calls Tryz.prog 14 #[.agg #[v]] w fun e w' => e = .returned (.tuple #[.float .f64 (Tr.nb (.null)), .bool (Tr.isNb (.null))]) ∧ Below w.heap.size w w' := by
  unfold RdT at h
  subst h
  have h2 := ta_0_2
  go_enter Tryz.func14, Tryz.ntmps14
  go_wp2
  go_ret2
  exact ⟨rfl, (Below.refl _ _).alloc (Nat.le_refl _) _⟩
set_option maxRecDepth 100000 in
set_option maxHeartbeats 4000000 in
theorem numr_flag (b : Bool) (S : Nat → Prop) (v : Value) (w : World) (h : RdT S w (.flag b) v) : Calls Tryz.prog 14 #[.agg #[v]] w fun e w' => e = .returned (.tuple #[.float .f64 (Tr.nb (.flag b)), .bool (Tr.isNb (.flag b))]) ∧ Below w.heap.size w w' := by
  unfold RdT at h
  subst h
  have h2 := ta_1_2 b
  go_enter Tryz.func14, Tryz.ntmps14
  go_wp2
  go_ret2
  exact ⟨rfl, (Below.refl _ _).alloc (Nat.le_refl _) _⟩
set_option maxRecDepth 100000 in
set_option maxHeartbeats 4000000 in
theorem numr_num (x : Nat) (S : Nat → Prop) (v : Value) (w : World) (h : RdT S w (.num x) v) : Calls Tryz.prog 14 #[.agg #[v]] w fun e w' => e = .returned (.tuple #[.float .f64 (Tr.nb (.num x)), .bool (Tr.isNb (.num x))]) ∧ Below w.heap.size w w' := by
  unfold RdT at h
  subst h
  have h2 := ta_2_2 x
  go_enter Tryz.func14, Tryz.ntmps14
  go_wp2
  go_ret2
  exact ⟨rfl, (Below.refl _ _).alloc (Nat.le_refl _) _⟩
set_option maxRecDepth 100000 in
set_option maxHeartbeats 4000000 in
theorem numr_text (s : Tx) (S : Nat → Prop) (v : Value) (w : World) (h : RdT S w (.text s) v) : Calls Tryz.prog 14 #[.agg #[v]] w fun e w' => e = .returned (.tuple #[.float .f64 (Tr.nb (.text s)), .bool (Tr.isNb (.text s))]) ∧ Below w.heap.size w w' := by
  unfold RdT at h
  subst h
  have h2 := ta_3_2 ⟨s.toArray⟩
  go_enter Tryz.func14, Tryz.ntmps14
  go_wp2
  go_ret2
  exact ⟨rfl, (Below.refl _ _).alloc (Nat.le_refl _) _⟩
set_option maxRecDepth 100000 in
set_option maxHeartbeats 4000000 in
theorem numr_list (l : List Tr) (S : Nat → Prop) (v : Value) (w : World) (h : RdT S w (.list l) v) : Calls Tryz.prog 14 #[.agg #[v]] w fun e w' => e = .returned (.tuple #[.float .f64 (Tr.nb (.list l)), .bool (Tr.isNb (.list l))]) ∧ Below w.heap.size w w' := by
  unfold RdT at h
  obtain ⟨g1, A1, c1, vs, rfl, hS1, hB1, hR1, hL1⟩ := h
  clear hB1 hR1 hL1
  have h2 := ta_4_2 (some ⟨g1, 0, none⟩)
  go_enter Tryz.func14, Tryz.ntmps14
  go_wp2
  go_ret2
  exact ⟨rfl, (Below.refl _ _).alloc (Nat.le_refl _) _⟩
set_option maxRecDepth 100000 in
set_option maxHeartbeats 4000000 in
theorem numr_obj (ks : List Tx) (l : List Tr) (S : Nat → Prop) (v : Value) (w : World) (h : RdT S w (.obj ks l) v) : Calls Tryz.prog 14 #[.agg #[v]] w fun e w' => e = .returned (.tuple #[.float .f64 (Tr.nb (.obj ks l)), .bool (Tr.isNb (.obj ks l))]) ∧ Below w.heap.size w w' := by
  unfold RdT at h
  obtain ⟨g1, K1, dk, A1, c1, vs, rfl, hS1, hB1, hK1, hR1, hL1⟩ := h
  clear hB1 hR1 hL1 hK1
  have h2 := ta_5_2 (some ⟨g1, 0, none⟩)
  go_enter Tryz.func14, Tryz.ntmps14
  go_wp2
  go_ret2
  exact ⟨rfl, (Below.refl _ _).alloc (Nat.le_refl _) _⟩
theorem numr_any (S : Nat → Prop) (t : Tr) (v : Value) (w : World) (h : RdT S w t v) : Calls Tryz.prog 14 #[.agg #[v]] w (fun e w' => e = .returned (.tuple #[.float .f64 t.nb, .bool t.isNb]) ∧ Below w.heap.size w w') := by
  cases t with
  | null => exact numr_null S v w h
  | flag b => exact numr_flag b S v w h
  | num x => exact numr_num x S v w h
  | text s => exact numr_text s S v w h
  | list l => exact numr_list l S v w h
  | obj ks l => exact numr_obj ks l S v w h
end Nd
end Go.Proofs.YtbajkglacfheiaaGreatDoor

