/-
  The walk of the law NodeHolds; what a nil tree answers.
-/
import Derived.Test.YtfhfkggkbeahbaaNuM
namespace Go.Proofs.Ytfhfkggkbeahbaa
open Go.RowKit Mem
set_option linter.unusedVariables false
namespace Nd

theorem tn_0 (W : World) : (Instr.typeAssert .nilIface 46 112 true).run Try.prog W = .ok (.tuple #[.agg #[], .bool false]) W := by kernel_rfl
theorem tn_1 (W : World) : (Instr.typeAssert .nilIface 46 113 true).run Try.prog W = .ok (.tuple #[.bool false, .bool false]) W := by kernel_rfl
theorem tn_2 (W : World) : (Instr.typeAssert .nilIface 46 117 true).run Try.prog W = .ok (.tuple #[.float .f64 0, .bool false]) W := by kernel_rfl
theorem tn_3 (W : World) : (Instr.typeAssert .nilIface 46 82 true).run Try.prog W = .ok (.tuple #[.string ⟨#[]⟩, .bool false]) W := by kernel_rfl
theorem tn_4 (W : World) : (Instr.typeAssert .nilIface 46 121 true).run Try.prog W = .ok (.tuple #[.pointer none, .bool false]) W := by kernel_rfl
theorem tn_5 (W : World) : (Instr.typeAssert .nilIface 46 126 true).run Try.prog W = .ok (.tuple #[.pointer none, .bool false]) W := by kernel_rfl
set_option maxRecDepth 100000 in
set_option maxHeartbeats 4000000 in
theorem value_nil (w : World) : Calls Try.prog 28 #[.agg #[.nilIface]] w fun e w' => e = .returned .nilIface ∧ Below w.heap.size w w' := by
  have h0 := tn_0
  have h1 := tn_1
  have h2 := tn_2
  have h3 := tn_3
  have h4 := tn_4
  have h5 := tn_5
  go_enter Try.func28, Try.ntmps28
  go_wp2
  go_ret
  exact ⟨rfl, (Below.refl _ _).alloc (Nat.le_refl _) _⟩
theorem root_nil (w : World) : Calls Try.prog 16 #[.pointer none] w fun e w' => e = .returned (.agg #[.nilIface]) ∧ Below w.heap.size w w' := by
  go_enter Try.func16, Try.ntmps16
  go_wp2
  refine bodyPost_ret (v := .agg #[.nilIface]) ?_ rfl ⟨rfl, ?_⟩
  · simp [results, Try.results16, go_sem]
  · exact ((Below.refl _ _).alloc (Nat.le_refl _) _)
theorem tvalue_nil (w : World) : Calls Try.prog 23 #[.pointer none] w fun e w' => e = .returned .nilIface ∧ Below w.heap.size w w' := by
  go_enter Try.func23, Try.ntmps23
  go_wp2_with fail
  ((with_reducible refine (root_nil _).mono ?_); rintro e w1 ⟨rfl, hb1⟩)
  go_wp2_with fail
  ((with_reducible refine (value_nil _).mono ?_); rintro e w2 ⟨rfl, hb2⟩)
  have hb := hb1.trans (hb2.mono hb1.size)
  clear hb1 hb2
  go_wp2
  go_ret
  exact ⟨rfl, hb⟩
theorem build_all (v : Value) (ss : List Stp) (w : World) (hS : RdS w v ss) (hF : ∀ s ∈ ss, s.Fine) : Calls Try.prog 14 #[v] w (BuildP ss w) := by
  by_cases hn : ss.length ≤ 65536
  · exact build_any v ss w hS hF hn
  · exact build_long v ss w hS (by omega)
theorem sp_form (n i : Int) : ∃ tx ux, spotB n i = .iface tx ux := by
  unfold spotB
  split
  · exact ⟨_, _, rfl⟩
  · exact ⟨_, _, rfl⟩
set_option maxRecDepth 100000 in
set_option maxHeartbeats 4000000 in
theorem nodeHolds_any (v : Value) (ss : List Stp) (w : World) (hS : RdS w v ss) (hF : ∀ s ∈ ss, s.Fine) :
    Calls Try.prog 5 #[v] w fun e w' => e = .returned (.bool true) ∧ Below w.heap.size w w' := by
  have HS := Lib.hid hS
  have HF := Lib.hid hF
  have q1 := err_ne_nil
  have q2 := err_ne_held
  obtain ⟨A, c, rfl, _⟩ := hS
  clear hF
  go_enter Try.func5, Try.ntmps5
  go_wp2_with fail
  ((with_reducible refine (build_all _ ss _ HS.out HF.out).mono ?_); intro e w1 hP)
  obtain ⟨hb1, hP⟩ := hP
  cases hbt : buildT ss with
  | inl ni =>
    obtain ⟨n, i⟩ := ni
    rw [hbt] at hP
    simp only at hP
    subst hP
    obtain ⟨tx, ux, hsp⟩ := sp_form n i
    rw [hsp]
    clear hsp
    clear hbt
    go_wp2_with fail
    ((with_reducible refine (tvalue_nil _).mono ?_); rintro e w2 ⟨rfl, hb2⟩)
    have hbw2 := hb1.trans (hb2.mono hb1.size)
    clear hb1 hb2
    go_wp2_with fail
    ((with_reducible refine (wakes_any _).mono ?_); rintro e w3 ⟨rfl, hb3⟩)
    have hbw3 := hbw2.trans (hb3.mono hbw2.size)
    clear hbw2 hb3
    go_wp2
    go_ret
    exact ⟨rfl, hbw3⟩
  | inr t =>
    rw [hbt] at hP
    simp only at hP
    obtain ⟨g, rfl, hT⟩ := hP
    have hok := buildT_ok HF.out hbt
    have HOK := Lib.hid hok
    have HT := Lib.hid hT
    clear hbt hok hT
    go_wp2_with fail
    ((with_reducible refine (tvalue_any _ g t _ HT.out HOK.out.1).mono ?_); rintro e w2 ⟨u, rfl, htd, hb2⟩)
    have HTD := Lib.hid htd
    have hbw2 := hb1.trans (hb2.mono hb1.size)
    clear hb1 hb2 htd
    go_wp2_with fail
    have hh := holds_any _ t HOK.out.1 (fit_le HOK.out.2).1 1 (by have := (fit_le HOK.out.2).2.2; omega) u _ HTD.out
    rw [show ((1 : Nat) : Int) = 1 from rfl] at hh
    ((with_reducible refine hh.mono ?_); clear hh; rintro e w3 ⟨rfl, hb3⟩)
    have hbw3 := hbw2.trans (hb3.mono hbw2.size)
    clear hbw2 hb3
    go_wp2_with fail
    ((with_reducible refine (wakes_any _).mono ?_); rintro e w4 ⟨rfl, hb4⟩)
    have hbw4 := hbw3.trans (hb4.mono hbw3.size)
    clear hbw3 hb4
    go_wp2
    go_ret
    exact ⟨rfl, hbw4⟩
end Nd
end Go.Proofs.Ytfhfkggkbeahbaa
