/-
  The walk of the law NodeOrders.
-/
import Derived.Test.YtfhfkggkbeahbaaGreatNoC
import Derived.Test.YtfhfkggkbeahbaaGreatNbB
import Derived.Test.YtfhfkggkbeahbaaGreatNsI
namespace Go.Proofs.YtfhfkggkbeahbaaGreat
open Go.RowKit Mem
set_option linter.unusedVariables false
namespace Nd

set_option maxRecDepth 100000 in
set_option maxHeartbeats 16000000 in
theorem nodeOrders_any (v : Value) (ss : List Stp) (w : World) (hS : RdS w v ss) (hF : ∀ s ∈ ss, s.Fine) :
    Calls Tryz.prog 4 #[v] w fun e w' => e = .returned (.bool true) ∧ Below w.heap.size w w' := by
  have HS := Lib.hid hS
  have HF := Lib.hid hF
  have q1 := err_ne_nil
  have q2 := err_ne_held
  obtain ⟨A, c, rfl, _⟩ := hS
  clear hF
  go_enter Tryz.func4, Tryz.ntmps4
  go_wp2_with fail
  ((with_reducible refine (build_all _ ss _ HS.out HF.out).mono ?_); intro e w1 hP)
  obtain ⟨hb1, hP⟩ := hP
  cases hbt : buildT ss with
  | inl ni =>
    obtain ⟨n, i⟩ := ni
    rw [hbt] at hP
    simp only at hP
    subst hP
    obtain ⟨tx, ux, hsp⟩ := sp_form n i
    rw [hsp]
    clear hsp hbt
    go_wp2_with fail
    ((with_reducible refine (wakes_any _).mono ?_); rintro e w3 ⟨rfl, hb3⟩)
    have hbw3 := hb1.trans (hb3.mono hb1.size)
    clear hb1 hb3
    go_wp2
    go_ret
    exact ⟨rfl, hbw3⟩
  | inr t =>
    rw [hbt] at hP
    simp only at hP
    obtain ⟨g, rfl, hT⟩ := hP
    have hok := buildT_ok HF.out hbt
    have HOK := Lib.hid hok
    have HT := Lib.hid hT
    clear hbt hok hT
    have HBS := Lib.hid (build_turn HOK.out.1 HOK.out.2)
    have HFS := Lib.hid (steps_fine t HOK.out.1 HOK.out.2)
    have HFT := Lib.hid (turnL_fine HFS.out)
    have hnt : Hid ((stepsT t).length ≤ 65536) := Lib.hid (by rw [stepsT_len]; exact (fit_le HOK.out.2).1)
    go_wp2_with fail
    ((with_reducible refine (tsteps_any _ g t _ HT.out HOK.out.1).mono ?_); rintro e w2 ⟨v7, rfl, hr7, hb2⟩)
    have HT2 := Lib.hid (tree_below HT.out hb2)
    have HR2 := Lib.hid hr7
    have hbw2 := hb1.trans (hb2.mono hb1.size)
    clear hr7 hb2 hb1 HT
    go_wp2_with fail
    ((with_reducible refine (turned_any _ _ _ _ HR2.out HFS.out hnt.out).mono ?_); rintro e w3 ⟨⟨v8, rfl, hr8⟩, hb3⟩)
    have HT3 := Lib.hid (tree_below HT2.out hb3)
    have HR3 := Lib.hid hr8.rds
    have hbw3 := hbw2.trans (hb3.mono hbw2.size)
    clear hr8 hb3 hbw2 HT2 HR2
    go_wp2_with fail
    ((with_reducible refine (build_all _ _ _ HR3.out HFT.out).mono ?_); intro e w4 hP)
    obtain ⟨hb4, hP⟩ := hP
    rw [HBS.out] at hP
    simp only at hP
    obtain ⟨g8, rfl, hT8⟩ := hP
    have HT8 := Lib.hid hT8
    have HT4 := Lib.hid (tree_below HT3.out hb4)
    have hbw4 := hbw3.trans (hb4.mono hbw3.size)
    clear hT8 hb4 hbw3 HT3 HR3
    go_wp2_with fail
    ((with_reducible refine (tsame_self _ _ g8 g t _ HT8.out HT4.out HOK.out.1).mono ?_); rintro e w5 ⟨rfl, hb5⟩)
    have HT85 := Lib.hid (tree_below HT8.out hb5)
    have HT5 := Lib.hid (tree_below HT4.out hb5)
    have hbw5 := hbw4.trans (hb5.mono hbw4.size)
    clear hb5 hbw4 HT8 HT4
    go_wp2_with fail
    ((with_reducible refine (tsteps_any _ g8 t _ HT85.out HOK.out.1).mono ?_); rintro e w6 ⟨va, rfl, hra, hb6⟩)
    have HRA := Lib.hid hra.rds
    have HT6 := Lib.hid (tree_below HT5.out hb6)
    have hbw6 := hbw5.trans (hb6.mono hbw5.size)
    clear hra hb6 hbw5 HT5 HT85
    go_wp2_with fail
    ((with_reducible refine (tsteps_any _ g t _ HT6.out HOK.out.1).mono ?_); rintro e w7 ⟨vb, rfl, hrb, hb7⟩)
    have HRB := Lib.hid hrb.rds
    have HRA7 := Lib.hid (HRA.out.below hb7)
    have hbw7 := hbw6.trans (hb7.mono hbw6.size)
    clear hrb hb7 hbw6 HT6 HRA
    go_wp2_with fail
    ((with_reducible refine (alike_any _ _ _ _ HRA7.out HRB.out HFS.out (by have := hnt.out; omega)).mono ?_); rintro e w8 ⟨rfl, hb8⟩)
    have hbw8 := hbw7.trans (hb8.mono hbw7.size)
    clear hb8 hbw7 HRA7 HRB
    go_wp2_with fail
    ((with_reducible refine (wakes_any _).mono ?_); rintro e w9 ⟨rfl, hb9⟩)
    have hbw9 := hbw8.trans (hb9.mono hbw8.size)
    clear hb9 hbw8
    go_wp2
    go_ret
    exact ⟨rfl, hbw9⟩
end Nd
end Go.Proofs.YtfhfkggkbeahbaaGreat
