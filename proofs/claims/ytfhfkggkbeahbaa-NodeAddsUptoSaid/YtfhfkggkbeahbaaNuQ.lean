/-
  Walks of package node: a Ref's Size.
-/
import Derived.Test.YtfhfkggkbeahbaaNuP
import Derived.OwnWalk
namespace Go.Proofs.Ytfhfkggkbeahbaa
open Go.RowKit Mem
set_option linter.unusedVariables false
namespace Nd

def SizeP (t : Tr) (w : World) (e : Ending) (w' : World) : Prop := e = .returned (.tuple #[.int .i64 (t.nodes : Int), .int .i64 (t.bytes : Int), .int .i64 (t.depth : Int)]) ∧ Below w.heap.size w w'
set_option maxRecDepth 100000 in
theorem meth_null (fuel : Nat) (nm : String) (hnm : nm = itemM 0) (W : World) : (method (fuel + 1) 112 (.agg #[]) nm).run Try.prog W = .ok (119, .agg #[]) W := by
  subst hnm
  kernel_rfl
set_option maxRecDepth 100000 in
theorem meth_flag (fuel : Nat) (b : Bool) (nm : String) (hnm : nm = itemM 0) (W : World) : (method (fuel + 1) 113 (.bool b) nm).run Try.prog W = .ok (121, .bool b) W := by
  subst hnm
  kernel_rfl
set_option maxRecDepth 100000 in
theorem meth_num (fuel : Nat) (x : Nat) (nm : String) (hnm : nm = itemM 0) (W : World) : (method (fuel + 1) 117 (.float .f64 x) nm).run Try.prog W = .ok (123, .float .f64 x) W := by
  subst hnm
  kernel_rfl
set_option maxRecDepth 100000 in
theorem meth_text (fuel : Nat) (s : ByteArray) (nm : String) (hnm : nm = itemM 0) (W : World) : (method (fuel + 1) 82 (.string s) nm).run Try.prog W = .ok (107, .string s) W := by
  subst hnm
  kernel_rfl
set_option maxRecDepth 100000 in
set_option maxHeartbeats 4000000 in
theorem size_null (S : Nat → Prop) (v : Value) (w : World) (h : RdT S w (.null) v) : Calls Try.prog 22 #[.agg #[v]] w (SizeP (.null) w) := by
  unfold RdT at h
  subst h
  have q1 : True := trivial
  go_enter Try.func22, Try.ntmps22
  go_wp2_with fail
  rw [meth_null _ _ ?nm]
  case nm => kernel_rfl
  go_wp2_with fail
  ((with_reducible refine (sized_null _).mono ?_); rintro e w1 ⟨rfl, hb1⟩)
  have hbw := ((Below.refl w.heap.size w).alloc (Nat.le_refl _) (.cells #[.iface 112 (.agg #[])] 48)).trans (hb1.mono (by simp))
  have hsz := hbw.size
  clear hb1
  go_wp2_with fail
  go_quiet (fail)
  go_wp2
  go_ret3
  exact ⟨rfl, (hbw.alloc hsz _).trans (drewN_below _ _)⟩
set_option maxRecDepth 100000 in
set_option maxHeartbeats 4000000 in
theorem size_flag (b : Bool) (S : Nat → Prop) (v : Value) (w : World) (h : RdT S w (.flag b) v) : Calls Try.prog 22 #[.agg #[v]] w (SizeP (.flag b) w) := by
  unfold RdT at h
  subst h
  have q1 : True := trivial
  go_enter Try.func22, Try.ntmps22
  go_wp2_with fail
  rw [meth_flag _ b _ ?nm]
  case nm => kernel_rfl
  go_wp2_with fail
  ((with_reducible refine (sized_flag b _).mono ?_); rintro e w1 ⟨rfl, hb1⟩)
  have hbw := ((Below.refl w.heap.size w).alloc (Nat.le_refl _) (.cells #[.iface 113 (.bool b)] 48)).trans (hb1.mono (by simp))
  have hsz := hbw.size
  clear hb1
  go_wp2_with fail
  go_quiet (fail)
  go_wp2
  go_ret3
  exact ⟨rfl, (hbw.alloc hsz _).trans (drewN_below _ _)⟩
set_option maxRecDepth 100000 in
set_option maxHeartbeats 4000000 in
theorem size_num (x : Nat) (S : Nat → Prop) (v : Value) (w : World) (h : RdT S w (.num x) v) : Calls Try.prog 22 #[.agg #[v]] w (SizeP (.num x) w) := by
  unfold RdT at h
  subst h
  have q1 : True := trivial
  go_enter Try.func22, Try.ntmps22
  go_wp2_with fail
  rw [meth_num _ x _ ?nm]
  case nm => kernel_rfl
  go_wp2_with fail
  ((with_reducible refine (sized_num x _).mono ?_); rintro e w1 ⟨rfl, hb1⟩)
  have hbw := ((Below.refl w.heap.size w).alloc (Nat.le_refl _) (.cells #[.iface 117 (.float .f64 x)] 48)).trans (hb1.mono (by simp))
  have hsz := hbw.size
  clear hb1
  go_wp2_with fail
  go_quiet (fail)
  go_wp2
  go_ret3
  exact ⟨rfl, (hbw.alloc hsz _).trans (drewN_below _ _)⟩
set_option maxRecDepth 100000 in
set_option maxHeartbeats 4000000 in
theorem size_text (s : Tx) (S : Nat → Prop) (v : Value) (w : World) (h : RdT S w (.text s) v) (hs : s.length ≤ 2097152) : Calls Try.prog 22 #[.agg #[v]] w (SizeP (.text s) w) := by
  unfold RdT at h
  subst h
  have q1 : True := trivial
  go_enter Try.func22, Try.ntmps22
  go_wp2_with fail
  rw [meth_text _ ⟨s.toArray⟩ _ ?nm]
  case nm => kernel_rfl
  go_wp2_with fail
  ((with_reducible refine (sized_text s _).mono ?_); rintro e w1 ⟨rfl, hb1⟩)
  have hbw := ((Below.refl w.heap.size w).alloc (Nat.le_refl _) (.cells #[.iface 82 (.string ⟨s.toArray⟩)] 48)).trans (hb1.mono (by simp))
  have hsz := hbw.size
  clear hb1
  go_wp2_with fail
  go_quiet (fail)
  go_wp2
  go_ret3
  exact ⟨rfl, (hbw.alloc hsz _).trans (drewN_below _ _)⟩
set_option maxRecDepth 100000 in
set_option maxHeartbeats 4000000 in
theorem size_list (l : List Tr) (S : Nat → Prop) (v : Value) (w : World) (h : RdT S w (.list l) v) : Calls Try.prog 22 #[.agg #[v]] w (SizeP (.list l) w) := by
  unfold RdT at h
  obtain ⟨g1, A1, c1, vs, rfl, hS1, hB1, hR1, hL1⟩ := h
  have hb0 := hB1.alloc (.cells #[.iface 121 (.pointer (some ⟨g1, 0, none⟩))] 48)
  have d0 : (w.alloc (.cells #[.iface 121 (.pointer (some ⟨g1, 0, none⟩))] 48)).cell? ⟨g1, 0, none⟩ = some (.int .i64 (((Tr.list l).nodes : Nat) : Int)) := hb0.cell 0
  have d1 : (w.alloc (.cells #[.iface 121 (.pointer (some ⟨g1, 0, none⟩))] 48)).cell? ⟨g1, 1, none⟩ = some (.int .i64 (((Tr.list l).bytes : Nat) : Int)) := hb0.cell 1
  have d2 : (w.alloc (.cells #[.iface 121 (.pointer (some ⟨g1, 0, none⟩))] 48)).cell? ⟨g1, 2, none⟩ = some (.int .i64 (((Tr.list l).depth : Nat) : Int)) := hb0.cell 2
  clear hB1 hR1 hL1 hb0
  unfold SizeP
  generalize (Tr.list l).nodes = n1 at *
  generalize (Tr.list l).bytes = b1 at *
  generalize (Tr.list l).depth = e1 at *
  go_enter Try.func22, Try.ntmps22
  go_wp2_with fail
  rw [method_list _ g1 _ _ _ _ _ ?nm d0 d1 d2]
  case nm => kernel_rfl
  go_wp2_with fail
  ((with_reducible refine (sized_size n1 b1 e1 _).mono ?_); rintro e w1 ⟨rfl, hb1⟩)
  have hbw := ((Below.refl w.heap.size w).alloc (Nat.le_refl _) (.cells #[.iface 121 (.pointer (some ⟨g1, 0, none⟩))] 48)).trans (hb1.mono (by simp))
  have hsz := hbw.size
  clear hb1
  go_wp2_with fail
  go_quiet (fail)
  go_wp2
  go_ret3
  exact ⟨rfl, (hbw.alloc hsz _).trans (drewN_below _ _)⟩
set_option maxRecDepth 100000 in
set_option maxHeartbeats 4000000 in
theorem size_obj (ks : List Tx) (l : List Tr) (S : Nat → Prop) (v : Value) (w : World) (h : RdT S w (.obj ks l) v) : Calls Try.prog 22 #[.agg #[v]] w (SizeP (.obj ks l) w) := by
  unfold RdT at h
  obtain ⟨g1, K1, dk, A1, c1, vs, rfl, hS1, hB1, hK1, hR1, hL1⟩ := h
  have hb0 := hB1.alloc (.cells #[.iface 126 (.pointer (some ⟨g1, 0, none⟩))] 48)
  have d0 : (w.alloc (.cells #[.iface 126 (.pointer (some ⟨g1, 0, none⟩))] 48)).cell? ⟨g1, 0, none⟩ = some (.int .i64 (((Tr.obj ks l).nodes : Nat) : Int)) := hb0.cell 0
  have d1 : (w.alloc (.cells #[.iface 126 (.pointer (some ⟨g1, 0, none⟩))] 48)).cell? ⟨g1, 1, none⟩ = some (.int .i64 (((Tr.obj ks l).bytes : Nat) : Int)) := hb0.cell 1
  have d2 : (w.alloc (.cells #[.iface 126 (.pointer (some ⟨g1, 0, none⟩))] 48)).cell? ⟨g1, 2, none⟩ = some (.int .i64 (((Tr.obj ks l).depth : Nat) : Int)) := hb0.cell 2
  clear hB1 hR1 hL1 hb0 hK1
  unfold SizeP
  generalize (Tr.obj ks l).nodes = n1 at *
  generalize (Tr.obj ks l).bytes = b1 at *
  generalize (Tr.obj ks l).depth = e1 at *
  go_enter Try.func22, Try.ntmps22
  go_wp2_with fail
  rw [method_obj _ g1 _ _ _ _ _ ?nm d0 d1 d2]
  case nm => kernel_rfl
  go_wp2_with fail
  ((with_reducible refine (sized_size n1 b1 e1 _).mono ?_); rintro e w1 ⟨rfl, hb1⟩)
  have hbw := ((Below.refl w.heap.size w).alloc (Nat.le_refl _) (.cells #[.iface 126 (.pointer (some ⟨g1, 0, none⟩))] 48)).trans (hb1.mono (by simp))
  have hsz := hbw.size
  clear hb1
  go_wp2_with fail
  go_quiet (fail)
  go_wp2
  go_ret3
  exact ⟨rfl, (hbw.alloc hsz _).trans (drewN_below _ _)⟩
theorem size_any (S : Nat → Prop) (t : Tr) (v : Value) (w : World) (h : RdT S w t v) (hf : t.fit = true) : Calls Try.prog 22 #[.agg #[v]] w (SizeP t w) := by
  have hb := (fit_le hf).2.1
  cases t with
  | null => exact size_null S v w h
  | flag b => exact size_flag b S v w h
  | num x => exact size_num x S v w h
  | text s => exact size_text s S v w h (by unfold Tr.bytes at hb; exact hb)
  | list l => exact size_list l S v w h
  | obj ks l => exact size_obj ks l S v w h
end Nd
end Go.Proofs.Ytfhfkggkbeahbaa
