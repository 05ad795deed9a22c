/-
  The statement ClaimsWorsts: its walk (printed by wip/gen_cly.py).
-/
import Derived.Test.YtnondmeafilplaaGreatDoorClYa
import Derived.Test.YtnondmeafilplaaGreatDoorClT
namespace Go.Proofs.YtnondmeafilplaaGreatDoor
open Go.RowKit Mem Utf Ref3 Tok Cl
set_option linter.unusedVariables false
set_option maxRecDepth 100000 in
set_option maxHeartbeats 8000000 in
theorem claimsWorsts_any (l : List C) (r : R) (A : Option Addr) (q : Nat) (u1 u2 u3 : Value) (w : World) (h : ClsAt w A l) (hl : l.length ≤ 1048576) (hr : RuAt w r u1 u2 u3) :
    Calls Tryz.prog 3 #[.slice A l.length q, .agg #[.int .i64 r.now, .int .i64 r.slack, .string ⟨r.who.toArray⟩, u1, u2, u3]] w fun e w' => e = .returned (.bool true) ∧ Below w.heap.size w w' := by
  have hq : ∀ (w : World) o, (w.alloc o).heap.size = w.heap.size + 1 := fun w o => by simp
  obtain ⟨A1, k1, e1, _⟩ := hr.by_
  obtain ⟨A2, k2, e2, _⟩ := hr.need
  obtain ⟨A3, k3, e3, _⟩ := hr.may
  subst e1; subst e2; subst e3
  have hb0 : ∀ cs, Below w.heap.size w (w.alloc (.cells cs 25)) := fun cs => (Below.refl _ _).alloc (Nat.le_refl _) _
  have hR0 := Blk.new w 25 (ruCells r (.slice A1 r.by_.length k1) (.slice A2 r.need.length k2) (.slice A3 r.may_.length k3))
  have hbw0 := hb0 (ruCells r (.slice A1 r.by_.length k1) (.slice A2 r.need.length k2) (.slice A3 r.may_.length k3))
  clear hb0
  unfold ruCells at hR0 hbw0
  have hld : ∀ W, Blk W w.heap.size 25 (ruCells r (.slice A1 r.by_.length k1) (.slice A2 r.need.length k2) (.slice A3 r.may_.length k3)) → (loadVar 25 ⟨w.heap.size, 0, none⟩).run Tryz.prog W = .ok (.agg (ruCells r (.slice A1 r.by_.length k1) (.slice A2 r.need.length k2) (.slice A3 r.may_.length k3))) W := fun W hW => run_loadVar_row W _ 25 25 _ (0, 0) _ hW Tryz.underlying25 rfl (by kernel_rfl)
  have HW : ∀ W A' q', Below w.heap.size w W → ClsAt W A' l → Calls Tryz.prog 8 #[.slice A' l.length q', .agg (ruCells r (.slice A1 r.by_.length k1) (.slice A2 r.need.length k2) (.slice A3 r.may_.length k3))] W (WorstP l r W) := fun W A' q' hb hc => worst_any l r A' q' _ _ _ W hc (by omega) (hr.below hb)
  have G := Lib.hid HW
  have GL := Lib.hid hld
  clear HW hld
  go_enter Tryz.func3, Tryz.ntmps3
  go_wp2_with fail
  generalize w.alloc (.cells #[.int .i64 r.now, .int .i64 r.slack, .string ⟨r.who.toArray⟩, .slice A1 r.by_.length k1, .slice A2 r.need.length k2, .slice A3 r.may_.length k3] 25) = wr at *
  refine wp_region_noPanic ?_
  refine wp_region_held (S := fun W => Blk W w.heap.size 25 (ruCells r (.slice A1 r.by_.length k1) (.slice A2 r.need.length k2) (.slice A3 r.may_.length k3)) ∧ Below w.heap.size w W) (by kernel_rfl) ?_
  have hS0 : (fun W => Blk W w.heap.size 25 (ruCells r (.slice A1 r.by_.length k1) (.slice A2 r.need.length k2) (.slice A3 r.may_.length k3)) ∧ Below w.heap.size w W) { wr with drawn := wr.drawn + 1 } := ⟨hR0.drew, hbw0.drew⟩
  refine wpAnyH_take (i := 1) (v := .slice A l.length q) rfl (by kernel_rfl) (by kernel_rfl) (by kernel_rfl) (fun _ _ _ h => h.elim) (.inl ⟨rfl, fun W hW => ?_⟩) hS0 ?_
  · simp [execOp, Act.eval, go_sem]
  refine wpAnyH_take (i := 3) (v := .agg (ruCells r (.slice A1 r.by_.length k1) (.slice A2 r.need.length k2) (.slice A3 r.may_.length k3))) rfl (by kernel_rfl) (by kernel_rfl) (by kernel_rfl) (fun _ _ _ h => h.elim) (.inl ⟨rfl, fun W hW => ?_⟩) hS0 ?_
  · have hl := GL.out W hW.1
    simp [execOp, Act.eval, Instr.loadAt, Instr.sureAddr, hl, Act.put]
  refine wpAnyH_all (rs := [0]) (by kernel_rfl) (by decide) (fun i hi => ?_)
  obtain rfl : i = 0 := by simpa using hi
  refine wpOp_step rfl ?_
  intro K' hK'
  go_simp
  refine hK' _ _ ⟨⟨(hR0.alloc _).drew, (hbw0.alloc hbw0.size _).drew⟩, ?_⟩
  clear hK' K'
  refine wpAnyH_all (rs := [2]) (by kernel_rfl) (by decide) (fun i hi => ?_)
  obtain rfl : i = 2 := by simpa using hi
  refine wpOp_step rfl ?_
  intro K' hK'
  refine step_append_cls rfl (.tmp 15) (.tmp 16) rfl h hl hbw0 rfl rfl (fun A' q' w5 hb5 hcl5 => ?_)
  have hR5 := hR0.below hb5 hR0.lt
  have hbw5 := below_chain hbw0 hbw0.size hb5
  refine hK' _ _ ⟨⟨hR5, hbw5⟩, ?_⟩
  clear hK' K' hb5 hS0
  refine wpAnyH_all (rs := [4]) (by kernel_rfl) (by decide) (fun i hi => ?_)
  obtain rfl : i = 4 := by simpa using hi
  refine wpOp_step rfl ?_
  intro K' hK'
  go_simp
  refine (G.out _ A' q' hbw5 hcl5).mono ?_
  rintro e w9 ⟨v, rfl, hv, hb9⟩
  have hR9 := hR5.below hb9 hR5.lt
  have hbw9 := below_chain hbw5 hbw5.size hb9
  replace hv := hv.base (B' := w.heap.size) hbw5.size
  refine hK' _ _ ⟨⟨hR9, hbw9⟩, ?_⟩
  clear hK' K' hb9 hR5 hbw5 hcl5 hR0 hbw0
  obtain ⟨ix, hix⟩ : ∃ ix, (worstP r l).2 = ix := ⟨_, rfl⟩
  rw [hix]
  have HIX := Lib.hid hix
  clear hix
  have HV0 := Lib.hid hv
  clear hv
  have hS9 : (fun W => Blk W w.heap.size 25 (ruCells r (.slice A1 r.by_.length k1) (.slice A2 r.need.length k2) (.slice A3 r.may_.length k3)) ∧ Below w.heap.size w W) w9 := ⟨hR9, hbw9⟩
  refine wpAnyH_take (i := 5) (v := .tuple #[v, .int .i64 ix]) rfl (by kernel_rfl) (by kernel_rfl) (by kernel_rfl) (fun _ _ _ h => h.elim) (.inl ⟨rfl, fun W hW => ?_⟩) hS9 ?_
  · simp [execOp, Act.eval, go_sem]
  refine wpAnyH_take (i := 6) (v := v) rfl (by kernel_rfl) (by kernel_rfl) (by kernel_rfl) (fun _ _ _ h => h.elim) (.inl ⟨rfl, fun W hW => ?_⟩) hS9 ?_
  · simp [execOp, Act.eval, Act.put, go_sem]
  refine wpAnyH_take (i := 7) (v := .int .i64 ix) rfl (by kernel_rfl) (by kernel_rfl) (by kernel_rfl) (fun _ _ _ h => h.elim) (.inl ⟨rfl, fun W hW => ?_⟩) hS9 ?_
  · simp [execOp, Act.eval, Act.put, go_sem]
  refine wpAnyH_take (i := 8) (v := v) rfl (by kernel_rfl) (by kernel_rfl) (by kernel_rfl) (fun _ _ _ h => h.elim) (.inl ⟨rfl, fun W hW => ?_⟩) hS9 ?_
  · simp [execOp, Act.eval, Act.put, go_sem]
  refine wpAnyH_take (i := 9) (v := .int .i64 ix) rfl (by kernel_rfl) (by kernel_rfl) (by kernel_rfl) (fun _ _ _ h => h.elim) (.inl ⟨rfl, fun W hW => ?_⟩) hS9 ?_
  · simp [execOp, Act.eval, Act.put, go_sem]
  refine wpAnyH_done (by kernel_rfl) ?_ _
  refine NoPanic.normal ?_
  clear hS9 G GL
  unfold ruCells at hR9
  obtain ⟨f0, f1, f2, f3, f4, f5⟩ := C6 hR9
  go_wp2_with fail
  refine (rules_any r A1 A2 A3 _ _ _ _ _ _ _).mono ?_
  rintro e w3 ⟨rfl, hb3⟩
  obtain ⟨bt, hbt⟩ : ∃ bt, (Cl.isTime r.now && Cl.isTime r.slack) = bt := ⟨_, rfl⟩
  rw [hbt]
  have HBT := Lib.hid hbt
  clear hbt hR9 f0 f1 f2 f3 f4 f5
  go_wp2_with fail
  refine (wakes25_any _).mono ?_
  rintro e w4 ⟨rfl, hb4⟩
  have hQ : Blk w4 w3.heap.size 31 #[.int .i64 r.now, .int .i64 r.slack, .string ⟨r.who.toArray⟩, .slice A1 r.by_.length k1, .slice A2 r.need.length k2, .slice A3 r.may_.length k3] := (Blk.new w3 _ _).below hb4 (by rw [hq]; omega)
  have hb94 := below_chain (hb3.alloc hb3.size (.cells #[.int .i64 r.now, .int .i64 r.slack, .string ⟨r.who.toArray⟩, .slice A1 r.by_.length k1, .slice A2 r.need.length k2, .slice A3 r.may_.length k3] 31)) (by rw [hq]; have := hb3.size; omega) hb4
  clear hb3 hb4
  have hbw4 := below_chain hbw9 hbw9.size hb94
  have HV4 := Lib.hid (HV0.out.below hb94)
  generalize w3.heap.size = gQ at *
  go_upto_if 28 with fail
  go_cut [] (fun wx => wx = w4)
  case rest =>
    subst hcut
    go_step
    exact cw_tail l r A A1 A2 A3 q k1 k2 k3 gQ v ix bt w _ h hl hr HIX HV4 HBT hQ hbw4 _ _ _ _ _ _ _ _ _ _ _ _ _ _ _ _ _ _ _ _ _ _ _ _ _ _ _ _ _ _ _ _ _ _ _ _ _ _ _ _ _ _ _ _ _ _ _ _ _ _ _ _ _ _ _ _ _ _ _ _ _ _ _ _ _ _ _ _ _ _ _ _ _ _ _ _ _ _ _ _ _ _ _ _ _ _
  go_wp2_with fail
  go_meet
  exact rfl

end Go.Proofs.YtnondmeafilplaaGreatDoor
