/-
  Walks of package node and of layer 10's statements: Root, a tree's Value, wakes, number.
-/
import Derived.Test.YtfhfkggkbeahbaaNuE
namespace Go.Proofs.Ytfhfkggkbeahbaa
open Go.RowKit Mem
set_option linter.unusedVariables false
namespace Nd

theorem root_any (g : Nat) (ty tx : TypeId) (ux : Value) (w : World) (hB : Blk w g ty #[.iface tx ux]) : Calls Try.prog 16 #[.pointer (some ⟨g, 0, none⟩)] w fun e w' => e = .returned (.agg #[.iface tx ux]) ∧ Below w.heap.size w w' := by
  have a1 : w.cell? ⟨g, 0, none⟩ = some (.iface tx ux) := hB.cell 0
  have hlt := hB.lt
  have a2 : (w.alloc (.cells #[.nilIface] 48)).cell? ⟨g, 0, none⟩ = some (.iface tx ux) := (hB.alloc _).cell 0
  clear hB
  go_enter Try.func16, Try.ntmps16
  go_wp2
  refine bodyPost_ret (v := .agg #[.iface tx ux]) ?_ rfl ⟨rfl, ?_⟩
  · simp [results, Try.results16, go_sem]
  · exact ((Below.refl _ _).alloc (Nat.le_refl _) _)
theorem tvalue_any (B g : Nat) (t : Tr) (w : World) (hT : TreeAt B w g t) (hok : t.Ok) : Calls Try.prog 23 #[.pointer (some ⟨g, 0, none⟩)] w (ValP t w) := by
  obtain ⟨hBg, hfit, v, hB, hrd⟩ := hT
  obtain ⟨tx, ux, rfl⟩ := hrd.iface
  have hn := (fit_le hfit).1
  have HB := Lib.hid hB
  have HR := Lib.hid hrd
  clear hB hrd
  go_enter Try.func23, Try.ntmps23
  go_wp2_with fail
  ((with_reducible refine (root_any g _ tx ux _ HB.out).mono ?_); rintro e w1 ⟨rfl, hb1⟩)
  have hrd1 := RdT.move (S' := fun k => B ≤ k) (w' := w1) (fun j hj hs => ⟨hs, hb1.block j hj⟩) _ _ HR.out
  have HR1 := Lib.hid hrd1
  have hs1 := hb1.size
  clear hrd1
  go_wp2_with fail
  ((with_reducible refine (value_any _ t hok hn _ _ HR1.out).mono ?_); rintro e w2 ⟨u, rfl, htd, hb2⟩)
  have HP : Hid (ValP t w (.returned u) w2) := Lib.hid ⟨u, rfl, TdT.move (fun j hj hs => ⟨by have h9 : w1.heap.size ≤ j := hs; omega, rfl⟩) _ _ htd, hb1.trans (hb2.mono hs1)⟩
  clear htd
  go_wp2
  go_ret
  exact HP.out
theorem number_same (n : Int) (w : World) : Calls Try.prog 9 #[errN n, .int .i64 n] w fun e w' => e = .returned (.bool true) ∧ w = w' := by
  unfold errN
  have hta : ∀ W, (Instr.typeAssert (.iface 30 (.int .i64 n)) 27 30 true).run Try.prog W = .ok (.tuple #[.int .i64 n, .bool true]) W := fun W => by kernel_rfl
  go_enter Try.func9, Try.ntmps9
  go_wp2
  go_ret
  exact ⟨by simp, rfl⟩
def wakeSs : List Stp := [⟨4, false, 0, [120], 0, []⟩, ⟨5, false, 0, [], 1, []⟩]
theorem wake_build : buildT wakeSs = .inr (.list [.text [120]]) := by rfl
theorem wake_fine : ∀ s ∈ wakeSs, s.Fine := by
  intro s hs
  simp [wakeSs] at hs
  rcases hs with rfl | rfl <;> exact ⟨by decide, by decide, by simp, by decide, by decide⟩
abbrev wakeCells : Array Value := #[.int .i64 4, .bool false, .int .u64 0, .string ⟨([120] : Tx).toArray⟩, .int .i64 0, .slice none 0 0, .int .i64 5, .bool false, .int .u64 0, .string ⟨([] : Tx).toArray⟩, .int .i64 1, .slice none 0 0]
theorem wake_rd (w : World) (t : TypeId) : RdS (w.alloc (.cells wakeCells t)) (.slice (some ⟨w.heap.size, 0, none⟩) 2 2) wakeSs := by
  have hB := Blk.new w t wakeCells
  refine ⟨_, _, rfl, .inr ⟨w.heap.size, 0, rfl, fun j s hs => ?_⟩⟩
  have hk : RdK (w.alloc (.cells wakeCells t)) (.slice none 0 0) [] := ⟨none, 0, rfl, .inl rfl⟩
  match j, hs with
  | 0, hs =>
    injection hs with hs
    subst hs
    exact ⟨none, 0, hB.cell 0, hB.cell 1, hB.cell 2, hB.cell 3, hB.cell 4, hB.cell 5, hk⟩
  | 1, hs =>
    injection hs with hs
    subst hs
    exact ⟨none, 0, hB.cell 6, hB.cell 7, hB.cell 8, hB.cell 9, hB.cell 10, hB.cell 11, hk⟩
  | j + 2, hs => cases hs
theorem text_eq (W : World) : (binOp .eql 56 (.iface 75 (.string ⟨#[120]⟩)) (.iface 75 (.string ⟨#[120]⟩))).run Try.prog W = .ok (.bool true) W := by kernel_rfl
set_option maxRecDepth 100000 in
set_option maxHeartbeats 8000000 in
theorem wakes_any (w : World) : Calls Try.prog 7 #[] w fun e w' => e = .returned (.bool true) ∧ Below w.heap.size w w' := by
  have q1 := err_ne_nil
  go_enter Try.func7, Try.ntmps7
  go_wp2_with fail
  ((with_reducible refine (build_any _ wakeSs _ (wake_rd w _) wake_fine (by decide)).mono ?_); intro e w1 hP)
  obtain ⟨hb1, hP⟩ := hP
  simp only [wake_build] at hP
  obtain ⟨g, rfl, hT⟩ := hP
  have hbw : Below w.heap.size w w1 := ((Below.refl _ _).alloc (Nat.le_refl _) _).trans (hb1.mono (by simp))
  have HT := Lib.hid hT
  have hok : Hid (Tr.Ok (.list [.text [120]])) := Lib.hid (buildT_ok wake_fine wake_build).1
  clear hb1 hT
  go_wp2_with fail
  ((with_reducible refine (tvalue_any _ g _ _ HT.out hok.out).mono ?_); rintro e w2 ⟨u, rfl, htd, hb2⟩)
  have hbw2 := hbw.trans (hb2.mono hbw.size)
  clear hb2
  unfold TdT at htd
  obtain ⟨sl, vs, rfl, hrow, hl⟩ := htd
  unfold TdL at hl
  obtain ⟨x, vs', rfl, hx, hl⟩ := hl
  unfold TdL at hl
  subst hl
  unfold TdT at hx
  subst hx
  obtain ⟨A, c, rfl, hA⟩ := hrow
  rcases hA with ⟨hA, _⟩ | ⟨g2, o2, cur, rfl, _, hB2, hc⟩
  · cases hA
  have c0 : w2.cell? ⟨g2, o2, none⟩ = some (.iface 75 (.string ⟨([120] : Tx).toArray⟩)) := (hB2.cell _).trans (hc 0 _ rfl)
  have hta : ∀ W, (Instr.typeAssert (.iface 53 (.slice (some ⟨g2, o2, none⟩) 1 c)) 56 53 true).run Try.prog W = .ok (.tuple #[.slice (some ⟨g2, o2, none⟩) 1 c, .bool true]) W := fun W => by kernel_rfl
  clear hc hB2 HT hok
  simp only [List.length_cons, List.length_nil, Nat.zero_add]
  have q5 := text_eq
  go_wp2
  go_ret
  exact ⟨rfl, hbw2⟩
end Nd
end Go.Proofs.Ytfhfkggkbeahbaa
