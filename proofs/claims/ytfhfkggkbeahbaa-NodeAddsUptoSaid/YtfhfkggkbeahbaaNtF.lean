/-
  Walks of package node: put, of whatever item.
-/
import Derived.Test.YtfhfkggkbeahbaaNtE
namespace Go.Proofs.Ytfhfkggkbeahbaa
open Go.RowKit Mem
set_option linter.unusedVariables false
namespace Nd

theorem grown_from_drew {a b : World} {r : Option Nat} (h : a.grownBy b r) : a.drew.grownBy b r := ⟨h.os, h.tape, h.output, h.size, h.block⟩
/-- how an item's size is asked for -/
structure Asks (tx : TypeId) (ux : Value) (F : FuncId) (A : Value) (n1 b1 e1 : Int) (w : World) : Prop where
  hm : ∀ fuel nm, nm = itemM 0 → (method (fuel + 1) tx ux nm).run Try.prog w = .ok (F, A) w
  he : ∀ args W, (callFunc F args).run Try.prog W = .ok (.enter F args) W
  hc : ∀ W, Calls Try.prog F #[A] W fun e w' => e = .returned (.agg #[.int .i64 n1, .int .i64 b1, .int .i64 e1]) ∧ Below W.heap.size W w'
set_option maxRecDepth 100000 in
set_option maxHeartbeats 4000000 in
theorem put_core (p : Nat) (ty : TypeId) (B : Nat) (v : Value) (n : Nat) (xs : List Value) (tx : TypeId) (ux : Value) (F : FuncId) (A : Value) (n1 b1 e1 : Int) (w : World) (hBl : Blk w p ty #[v]) (hown : w.ownsRow B 46 1 v n xs) (hpB : p < B) (hBw : B ≤ w.heap.size) (hlen : n ≤ 1048576)
    (hA : Asks tx ux F A n1 b1 e1 w) (hwi : withinB n1 b1 e1 = true) (hone : (Value.iface tx ux).oneCell' = true) :
    Calls Try.prog 35 #[.pointer (some ⟨p, 0, none⟩), .iface tx ux] w fun e w' => e = .returned (.tuple #[]) ∧ PutV p ty B v (n + 1) (xs ++ [.iface tx ux]) w w' := by
  obtain ⟨i0, hi0, hz0, hz1, hz2⟩ := info_parts info_item
  have hvb := hown.lt
  have HVB := Lib.hid hvb
  have HO := Lib.hid hown
  have HBL := Lib.hid hBl
  have hlt := hBl.lt
  obtain ⟨hm, he, hc⟩ := hA
  have HM := Lib.hid hm
  have HCC := Lib.hid hc
  have hvs := own_slice hown
  clear hown hBl hvb hm hc
  obtain ⟨A0, q0, rfl⟩ := hvs
  go_enter Try.func35, Try.ntmps35
  go_wp2_with fail
  rw [HM.out _ _ ?nm]
  case nm => kernel_rfl
  go_wp2_with fail
  refine (HCC.out _).mono ?_
  rintro e w1 ⟨rfl, hb1⟩
  go_wp2_with fail
  refine (within_any n1 b1 e1 _).mono ?_
  rw [hwi]
  rintro e w2 ⟨rfl, hb2⟩
  have hb := hb1.trans (hb2.mono hb1.size)
  have hBl2 := HBL.out.below hb hlt
  have hown2 := own_below HO.out hb
  have hs2 := hb.size
  have HB2 := Lib.hid hBl2
  have HBB := Lib.hid hb
  have HO2 := Lib.hid hown2
  have hc0 : w2.cell? ⟨p, 0, none⟩ = some (.slice A0 n q0) := hBl2.cell 0
  have HB3 := Lib.hid (HB2.out.alloc (.cells #[.iface tx ux] 46))
  clear hb1 hb2 hb hBl2 hown2
  go_wp2_with (at_builtin; go_must (refine wpList_append_lies _ rfl (.tmp 13) (.tmp 15) _ rfl B 46 i0 _ 1 16 Try.underlying70 hi0 hz0 hz1 hz2 rfl (by omega) (.slice A0 n q0) n xs rfl (HO2.out.alloc _) ⟨w2.heap.size, 0, none⟩ 1 1 [.iface tx ux] rfl rfl (one_new _ _ _) (one_cell _ hone) (by omega) (by unfold maxLen; omega) (by omega) (by simp; omega) (w2.heap.size + 1) (by simp) ?_); intro g9 q9 w9 hown9 hgr9 hat9 hlt9; have hq1 : w9.cell? ⟨p, 0, none⟩ = some (.slice A0 n q0) := (HB3.out.only hgr9 (by intro e; have := (HVB.out p e.symm).1; omega)).cell 0; have hq2 := (HB3.out.only hgr9 (by intro e; have := (HVB.out p e.symm).1; omega)).frozen 0)
  go_end0
  exact ⟨rfl, put_post p ty B n (.slice A0 n q0) _ _ _ HBB.out hpB hBw HB2.out HVB.out hown9 (grown_from_drew hgr9) hat9⟩
set_option maxRecDepth 100000 in
set_option maxHeartbeats 4000000 in
theorem put_long (a : Value) (tx : TypeId) (ux : Value) (F : FuncId) (A : Value) (n1 b1 e1 : Int) (w : World)
    (hA : Asks tx ux F A n1 b1 e1 w) (hwi : withinB n1 b1 e1 = false) :
    Calls Try.prog 35 #[a, .iface tx ux] w fun e w' => e = .panicked [{ v := .iface 30 (.int .i64 3), recovered := false }] ∧ Below w.heap.size w w' := by
  obtain ⟨hm, he, hc⟩ := hA
  have HM := Lib.hid hm
  have HCC := Lib.hid hc
  clear hm hc
  go_enter Try.func35, Try.ntmps35
  go_wp2_with fail
  rw [HM.out _ _ ?nm]
  case nm => kernel_rfl
  go_wp2_with fail
  refine (HCC.out _).mono ?_
  rintro e w1 ⟨rfl, hb1⟩
  go_wp2_with fail
  refine (within_any n1 b1 e1 _).mono ?_
  rw [hwi]
  rintro e w2 ⟨rfl, hb2⟩
  have hb := hb1.trans (hb2.mono hb1.size)
  go_wp2
  exact ⟨rfl, rfl, hb⟩
theorem asks_null (w : World) : Asks 112 (.agg #[]) 119 (.agg #[]) 1 0 1 w :=
  ⟨fun fuel nm h => by rw [h]; kernel_rfl, fun args W => by kernel_rfl, sized_null⟩
theorem asks_flag (b : Bool) (w : World) : Asks 113 (.bool b) 121 (.bool b) 1 0 1 w :=
  ⟨fun fuel nm h => by rw [h]; kernel_rfl, fun args W => by kernel_rfl, sized_flag b⟩
theorem asks_num (x : Nat) (w : World) : Asks 117 (.float .f64 x) 123 (.float .f64 x) 1 0 1 w :=
  ⟨fun fuel nm h => by rw [h]; kernel_rfl, fun args W => by kernel_rfl, sized_num x⟩
theorem asks_text (t : Tx) (w : World) : Asks 82 (.string ⟨t.toArray⟩) 107 (.string ⟨t.toArray⟩) 1 t.length 1 w :=
  ⟨fun fuel nm h => by rw [h]; kernel_rfl, fun args W => by kernel_rfl, sized_text t⟩
end Nd
end Go.Proofs.Ytfhfkggkbeahbaa
