/-
  The law BindAsserts of layer 16: its walk at lists, texts and complex numbers.
  The law BindAsserts of layer 16: its walk at floats.
  The law BindAsserts of layer 16: its walk at whole numbers.
  The law BindAsserts of layer 16, whole.
-/
import Derived.Test.YtbajkglacfheiaaGreatDoorPA25
set_option linter.unusedVariables false
set_option linter.unusedSimpArgs false
set_option maxRecDepth 100000
set_option maxHeartbeats 16000000
namespace Go.Proofs.YtbajkglacfheiaaGreatDoor
open Go.RowKit Mem Utf Ref3 Idx Tok TokC Ieee
namespace Nd
theorem asserts_high (v : Value) (l : Tx) (ss : List Stp) (w : World) (hS : RdS w v ss) (hF : ∀ s ∈ ss, s.Fine) (hl : l.length ≤ 4194304) (hG : Glob w) (hT : Tab w) (t : Tr) (hb : buildT ss = .inr t) (k : Nat) (h1 : 1 ≤ k) (h19 : k ≤ 19) (hk : 13 ≤ k) (hka : ∀ u x, rK k u x → KF k x false false)  :
  Calls Tryz.prog 4 #[v, .string ⟨l.toArray⟩, .int .i64 (k : Int)] w (TrueN w) := by
 have e1 : ((k : Int) ≥ 3) = True := by simp; omega
 have e1b : ((k : Int) ≤ 10) = False := by simp; omega
 have e2 : ((k : Int) == 11) = false := by simp; omega
 have e3 : ((k : Int) == 12) = false := by simp; omega
 clear hk
 have HK := Lib.hid (And.intro h1 h19)
 have tm := tm_all k h1 h19
 have HKA := Lib.hid hka
 clear h1 h19 hka
 have q1 := err_ne_nil
 have q2 := err_ne_held
 have q3 := err_eq_nil
 have q4 := err_eq_held
 have q5 := bd_eq_nil
 have q6 := bd_eq_held
 have q7 := f64bits
 obtain ⟨SA, sc, rfl, _⟩ := id hS
 have HS := Lib.hid hS
 have HF := Lib.hid (And.intro hF (And.intro hl hb))
 have HG := Lib.hid (And.intro hG hT)
 clear hS hF hl hG hT hb
 go_enter Tryz.func4, Tryz.ntmps4
 go_wp2_with fail
 ((with_reducible refine (build_all _ ss _ HS.out HF.out.1).mono ?_); intro e w1 hP)
 obtain ⟨hb1, hP⟩ := hP
 simp only [HF.out.2.2] at hP
 have HB1 := Lib.hid hb1
 clear hb1
 obtain ⟨g, rfl, hTA⟩ := hP
 obtain ⟨_, hfit, tv, hB, hrd⟩ := hTA
 have hok := (buildT_ok HF.out.1 HF.out.2.2).1
 have hra : RdA w1 t tv := RdT.move (fun j hj hs => ⟨trivial, rfl⟩) _ _ hrd
 have HBT := Lib.hid (And.intro hB (And.intro hra (And.intro hok hfit)))
 clear hB hrd hfit hra hok
 go_wp2_with fail
 ((with_reducible refine (bind_wk k HK.out.1 HK.out.2 g t tv l w1 _ HBT.out.1 HBT.out.2.1 (Below.refl _ _) HBT.out.2.2.1 HBT.out.2.2.2 HF.out.2.1 (HG.out.1.next HB1.out) (HG.out.2.next HB1.out)).mono ?_); intro e w2 hp)
 obtain ⟨he, hb2⟩ := bind_cases hp
 have HB2 := Lib.hid (HB1.out.trans (hb2.mono HB1.out.size))
 have HB12 := Lib.hid hb2
 clear hb2 hp
 rcases he with ⟨T0, U0, rfl⟩ | ⟨ts, u, x, hp, hle, rfl, hx⟩
 ·go_wp2_with fail
  ((with_reducible refine (wakes16_any _ (HG.out.1.next HB2.out) (HG.out.2.next HB2.out)).mono ?_); rintro e w3 ⟨rfl, hb3⟩)
  have HB3 := Lib.hid (HB2.out.trans (hb3.mono HB2.out.size))
  clear hb3
  go_wp2
  go_ret
  exact ⟨rfl, HB3.out⟩
 ·have HPL := Lib.hid (And.intro hp hle)
  have HUX := Lib.hid (And.intro hx (lead_ok _ _ _ _ HBT.out.2.2.1 HBT.out.2.2.2 hle))
  clear hp hle hx
  have HKF := Lib.hid (HKA.out u x HUX.out.1)
  obtain ⟨fk, hfk⟩ := (HKF.out).kind
  have m0 := hfk.m0
  have m1 := hfk.m1
  have HKI := Lib.hid hfk.m2
  have tw := (HKF.out).tw
  have tr := (HKF.out).tr
  simp only [Bool.false_eq_true, if_false, if_true] at tw tr
  have HFS := Lib.hid (fun (W : World) (gF : Nat) (hF : Blk W gF 73 #[.string ⟨keyN.toArray⟩, .int .i64 (k : Int), .bool false]) (hb : Below w.heap.size w W) (hb1 : Below w1.heap.size w1 W) => fields_any k HK.out.1 HK.out.2 g t tv w1 W HBT.out.1 HBT.out.2.1 hb1 HBT.out.2.2.1 HBT.out.2.2.2 gF 1 hF (HG.out.1.next hb) (HG.out.2.next hb))
  unfold FlsP at HFS
  clear hfk
  generalize tyK k = T at *
  go_wp2_with fail
  ((with_reducible refine (wakes16_any _ (HG.out.1.next HB2.out) (HG.out.2.next HB2.out)).mono ?_); rintro e w3 ⟨rfl, hb3⟩)
  have HB3 := Lib.hid (HB2.out.trans (hb3.mono HB2.out.size))
  have HB13 := Lib.hid (HB12.out.trans (hb3.mono HB12.out.size))
  clear hb3
  go_wp2_with fail
  ((with_reducible refine (HKI.out _).mono ?_); rintro e w4 ⟨rfl, hb4⟩)
  have HB4 := Lib.hid (HB3.out.trans (hb4.mono HB3.out.size))
  have HB14 := Lib.hid (HB13.out.trans (hb4.mono HB13.out.size))
  clear hb4
  go_wp2_with fail
  ((with_reducible refine (pfind_any g t tv l w1 _ HBT.out.1 HBT.out.2.1 HB14.out HBT.out.2.2.1 HBT.out.2.2.2 HF.out.2.1 (HG.out.1.next HB4.out) (HG.out.2.next HB4.out)).mono ?_); rintro e w5 ⟨he, hb5⟩)
  rw [HPL.out.1] at he
  dsimp only at he
  rw [HPL.out.2] at he
  obtain ⟨tx, ux, rfl, hrd, _⟩ := he
  obtain ⟨wr, hwr⟩ : ∃ wr, w5.alloc (.cells #[.iface tx ux] 58) = wr := ⟨_, rfl⟩
  have hbr : Below w4.heap.size w4 wr := by rw [← hwr]; exact hb5.alloc hb5.size _
  have hc : Blk wr w5.heap.size 58 #[.iface tx ux] := by rw [← hwr]; exact Blk.new w5 _ _
  have HBR := Lib.hid (HB4.out.trans (hbr.mono HB4.out.size))
  have HB1R := Lib.hid (HB14.out.trans (hbr.mono HB14.out.size))
  have c18 : wr.cell? ⟨w5.heap.size, 0, none⟩ = some (.iface tx ux) := hc.cell 0
  have HRD := Lib.hid (rda_below hrd HB1R.out)
  have HWR := Lib.hid hwr
  clear hb5 hwr hbr hc hrd
  go_upto_region 16 with fail
  rw [HWR.out]
  go_wp2_with fail
  ((with_reducible refine (numr_any (fun _ => True) u (.iface tx ux) _ HRD.out).mono ?_); rintro e w6 ⟨rfl, hb6⟩)
  have HB6 := Lib.hid (HBR.out.trans (hb6.mono HBR.out.size))
  have HB16 := Lib.hid (HB1R.out.trans (hb6.mono HB1R.out.size))
  clear hb6 c18
  go_wp2_with fail
  rw [show (⟨#[0, 32, 110, 111, 32, 115, 117, 99, 104, 32, 107, 101, 121]⟩ : ByteArray) = ⟨keyN.toArray⟩ from rfl]
  have HBA := Lib.hid (HB6.out.alloc HB6.out.size (.cells #[.string ⟨keyN.toArray⟩, .int .i64 (k : Int), .bool false] 73))
  have HB1A := Lib.hid (HB16.out.alloc HB16.out.size (.cells #[.string ⟨keyN.toArray⟩, .int .i64 (k : Int), .bool false] 73))
  ((with_reducible refine (HFS.out _ _ (Blk.new w6 73 #[.string ⟨keyN.toArray⟩, .int .i64 (k : Int), .bool false]) HBA.out HB1A.out).mono ?_); rintro e w9 ⟨he, hb9⟩)
  have HB9 := Lib.hid (HBA.out.trans (hb9.mono HBA.out.size))
  clear hb9
  rcases he with ⟨T', U', rfl⟩ | ⟨g9, c9, T', y, rfl, hc9, hT⟩
  ·go_wp2
   go_ret
   exact ⟨rfl, HB9.out⟩
  ·rcases hT with rfl | ⟨rfl, rfl⟩
   ·have tmy := tm y
    go_wp2
    go_ret
    exact ⟨rfl, HB9.out⟩
   ·have ms1 := tm_ms
    have ms2 := ms_kind.m0
    have ms3 := ms_kind.m1
    go_wp2_with fail
    ((with_reducible refine (ms_kind.m2 _).mono ?_); rintro e wa ⟨rfl, hba⟩)
    have HBZ := Lib.hid (HB9.out.trans (hba.mono HB9.out.size))
    clear hba
    go_wp2
    go_ret
    exact ⟨rfl, HBZ.out⟩
end Nd
end Go.Proofs.YtbajkglacfheiaaGreatDoor
namespace Go.Proofs.YtbajkglacfheiaaGreatDoor
open Go.RowKit Mem Utf Ref3 Idx Tok TokC Ieee
namespace Nd
theorem asserts_f32 (v : Value) (l : Tx) (ss : List Stp) (w : World) (hS : RdS w v ss) (hF : ∀ s ∈ ss, s.Fine) (hl : l.length ≤ 4194304) (hG : Glob w) (hT : Tab w) (t : Tr) (hb : buildT ss = .inr t) (k : Nat) (h1 : 1 ≤ k) (h19 : k ≤ 19) (hk : k = 11) (hka : ∀ u x, rK k u x → KF k x false true)  :
  Calls Tryz.prog 4 #[v, .string ⟨l.toArray⟩, .int .i64 (k : Int)] w (TrueN w) := by
 have e1 : ((k : Int) ≥ 3) = True := by simp; omega
 have e1b : ((k : Int) ≤ 10) = False := by simp; omega
 have e2 : ((k : Int) == 11) = true := by simp; omega
 have e4 : ((k : Int) != 11) = false := by simp; omega
 clear hk
 have HK := Lib.hid (And.intro h1 h19)
 have tm := tm_all k h1 h19
 have HKA := Lib.hid hka
 clear h1 h19 hka
 have q1 := err_ne_nil
 have q2 := err_ne_held
 have q3 := err_eq_nil
 have q4 := err_eq_held
 have q5 := bd_eq_nil
 have q6 := bd_eq_held
 have q7 := f64bits
 obtain ⟨SA, sc, rfl, _⟩ := id hS
 have HS := Lib.hid hS
 have HF := Lib.hid (And.intro hF (And.intro hl hb))
 have HG := Lib.hid (And.intro hG hT)
 clear hS hF hl hG hT hb
 go_enter Tryz.func4, Tryz.ntmps4
 go_wp2_with fail
 ((with_reducible refine (build_all _ ss _ HS.out HF.out.1).mono ?_); intro e w1 hP)
 obtain ⟨hb1, hP⟩ := hP
 simp only [HF.out.2.2] at hP
 have HB1 := Lib.hid hb1
 clear hb1
 obtain ⟨g, rfl, hTA⟩ := hP
 obtain ⟨_, hfit, tv, hB, hrd⟩ := hTA
 have hok := (buildT_ok HF.out.1 HF.out.2.2).1
 have hra : RdA w1 t tv := RdT.move (fun j hj hs => ⟨trivial, rfl⟩) _ _ hrd
 have HBT := Lib.hid (And.intro hB (And.intro hra (And.intro hok hfit)))
 clear hB hrd hfit hra hok
 go_wp2_with fail
 ((with_reducible refine (bind_wk k HK.out.1 HK.out.2 g t tv l w1 _ HBT.out.1 HBT.out.2.1 (Below.refl _ _) HBT.out.2.2.1 HBT.out.2.2.2 HF.out.2.1 (HG.out.1.next HB1.out) (HG.out.2.next HB1.out)).mono ?_); intro e w2 hp)
 obtain ⟨he, hb2⟩ := bind_cases hp
 have HB2 := Lib.hid (HB1.out.trans (hb2.mono HB1.out.size))
 have HB12 := Lib.hid hb2
 clear hb2 hp
 rcases he with ⟨T0, U0, rfl⟩ | ⟨ts, u, x, hp, hle, rfl, hx⟩
 ·go_wp2_with fail
  ((with_reducible refine (wakes16_any _ (HG.out.1.next HB2.out) (HG.out.2.next HB2.out)).mono ?_); rintro e w3 ⟨rfl, hb3⟩)
  have HB3 := Lib.hid (HB2.out.trans (hb3.mono HB2.out.size))
  clear hb3
  go_wp2
  go_ret
  exact ⟨rfl, HB3.out⟩
 ·have HPL := Lib.hid (And.intro hp hle)
  have HUX := Lib.hid (And.intro hx (lead_ok _ _ _ _ HBT.out.2.2.1 HBT.out.2.2.2 hle))
  clear hp hle hx
  have HKF := Lib.hid (HKA.out u x HUX.out.1)
  obtain ⟨fk, hfk⟩ := (HKF.out).kind
  have m0 := hfk.m0
  have m1 := hfk.m1
  have HKI := Lib.hid hfk.m2
  have tw := (HKF.out).tw
  have tr := (HKF.out).tr
  simp only [Bool.false_eq_true, if_false, if_true] at tw tr
  have HFS := Lib.hid (fun (W : World) (gF : Nat) (hF : Blk W gF 73 #[.string ⟨keyN.toArray⟩, .int .i64 (k : Int), .bool false]) (hb : Below w.heap.size w W) (hb1 : Below w1.heap.size w1 W) => fields_any k HK.out.1 HK.out.2 g t tv w1 W HBT.out.1 HBT.out.2.1 hb1 HBT.out.2.2.1 HBT.out.2.2.2 gF 1 hF (HG.out.1.next hb) (HG.out.2.next hb))
  unfold FlsP at HFS
  clear hfk
  generalize tyK k = T at *
  go_wp2_with fail
  ((with_reducible refine (wakes16_any _ (HG.out.1.next HB2.out) (HG.out.2.next HB2.out)).mono ?_); rintro e w3 ⟨rfl, hb3⟩)
  have HB3 := Lib.hid (HB2.out.trans (hb3.mono HB2.out.size))
  have HB13 := Lib.hid (HB12.out.trans (hb3.mono HB12.out.size))
  clear hb3
  go_wp2_with fail
  ((with_reducible refine (HKI.out _).mono ?_); rintro e w4 ⟨rfl, hb4⟩)
  have HB4 := Lib.hid (HB3.out.trans (hb4.mono HB3.out.size))
  have HB14 := Lib.hid (HB13.out.trans (hb4.mono HB13.out.size))
  clear hb4
  go_wp2_with fail
  ((with_reducible refine (pfind_any g t tv l w1 _ HBT.out.1 HBT.out.2.1 HB14.out HBT.out.2.2.1 HBT.out.2.2.2 HF.out.2.1 (HG.out.1.next HB4.out) (HG.out.2.next HB4.out)).mono ?_); rintro e w5 ⟨he, hb5⟩)
  rw [HPL.out.1] at he
  dsimp only at he
  rw [HPL.out.2] at he
  obtain ⟨tx, ux, rfl, hrd, _⟩ := he
  obtain ⟨wr, hwr⟩ : ∃ wr, w5.alloc (.cells #[.iface tx ux] 58) = wr := ⟨_, rfl⟩
  have hbr : Below w4.heap.size w4 wr := by rw [← hwr]; exact hb5.alloc hb5.size _
  have hc : Blk wr w5.heap.size 58 #[.iface tx ux] := by rw [← hwr]; exact Blk.new w5 _ _
  have HBR := Lib.hid (HB4.out.trans (hbr.mono HB4.out.size))
  have HB1R := Lib.hid (HB14.out.trans (hbr.mono HB14.out.size))
  have c18 : wr.cell? ⟨w5.heap.size, 0, none⟩ = some (.iface tx ux) := hc.cell 0
  have HRD := Lib.hid (rda_below hrd HB1R.out)
  have HWR := Lib.hid hwr
  clear hb5 hwr hbr hc hrd
  go_upto_region 16 with fail
  rw [HWR.out]
  go_wp2_with fail
  ((with_reducible refine (numr_any (fun _ => True) u (.iface tx ux) _ HRD.out).mono ?_); rintro e w6 ⟨rfl, hb6⟩)
  have HB6 := Lib.hid (HBR.out.trans (hb6.mono HBR.out.size))
  have HB16 := Lib.hid (HB1R.out.trans (hb6.mono HB1R.out.size))
  clear hb6 c18
  go_wp2_with fail
  rw [show (⟨#[0, 32, 110, 111, 32, 115, 117, 99, 104, 32, 107, 101, 121]⟩ : ByteArray) = ⟨keyN.toArray⟩ from rfl]
  have HBA := Lib.hid (HB6.out.alloc HB6.out.size (.cells #[.string ⟨keyN.toArray⟩, .int .i64 (k : Int), .bool false] 73))
  have HB1A := Lib.hid (HB16.out.alloc HB16.out.size (.cells #[.string ⟨keyN.toArray⟩, .int .i64 (k : Int), .bool false] 73))
  ((with_reducible refine (HFS.out _ _ (Blk.new w6 73 #[.string ⟨keyN.toArray⟩, .int .i64 (k : Int), .bool false]) HBA.out HB1A.out).mono ?_); rintro e w9 ⟨he, hb9⟩)
  have HB9 := Lib.hid (HBA.out.trans (hb9.mono HBA.out.size))
  clear hb9
  rcases he with ⟨T', U', rfl⟩ | ⟨g9, c9, T', y, rfl, hc9, hT⟩
  ·go_wp2
   go_ret
   exact ⟨rfl, HB9.out⟩
  ·rcases hT with rfl | ⟨rfl, rfl⟩
   ·have tmy := tm y
    go_wp2
    go_ret
    exact ⟨rfl, HB9.out⟩
   ·have ms1 := tm_ms
    have ms2 := ms_kind.m0
    have ms3 := ms_kind.m1
    go_wp2_with fail
    ((with_reducible refine (ms_kind.m2 _).mono ?_); rintro e wa ⟨rfl, hba⟩)
    have HBZ := Lib.hid (HB9.out.trans (hba.mono HB9.out.size))
    clear hba
    go_wp2
    go_ret
    exact ⟨rfl, HBZ.out⟩
theorem asserts_f64 (v : Value) (l : Tx) (ss : List Stp) (w : World) (hS : RdS w v ss) (hF : ∀ s ∈ ss, s.Fine) (hl : l.length ≤ 4194304) (hG : Glob w) (hT : Tab w) (t : Tr) (hb : buildT ss = .inr t) (k : Nat) (h1 : 1 ≤ k) (h19 : k ≤ 19) (hk : k = 12) (hka : ∀ u x, rK k u x → KF k x false true) (hfa : ∀ u x, rK k u x → ∃ f, Mth (tyK k) x "Float" (.float .f64 u.nb) f)  :
  Calls Tryz.prog 4 #[v, .string ⟨l.toArray⟩, .int .i64 (k : Int)] w (TrueN w) := by
 have e1 : ((k : Int) ≥ 3) = True := by simp; omega
 have e1b : ((k : Int) ≤ 10) = False := by simp; omega
 have e2 : ((k : Int) == 11) = false := by simp; omega
 have e3 : ((k : Int) == 12) = true := by simp; omega
 have e4 : ((k : Int) != 11) = true := by simp; omega
 have HFA := Lib.hid hfa
 clear hk hfa
 have HK := Lib.hid (And.intro h1 h19)
 have tm := tm_all k h1 h19
 have HKA := Lib.hid hka
 clear h1 h19 hka
 have q1 := err_ne_nil
 have q2 := err_ne_held
 have q3 := err_eq_nil
 have q4 := err_eq_held
 have q5 := bd_eq_nil
 have q6 := bd_eq_held
 have q7 := f64bits
 obtain ⟨SA, sc, rfl, _⟩ := id hS
 have HS := Lib.hid hS
 have HF := Lib.hid (And.intro hF (And.intro hl hb))
 have HG := Lib.hid (And.intro hG hT)
 clear hS hF hl hG hT hb
 go_enter Tryz.func4, Tryz.ntmps4
 go_wp2_with fail
 ((with_reducible refine (build_all _ ss _ HS.out HF.out.1).mono ?_); intro e w1 hP)
 obtain ⟨hb1, hP⟩ := hP
 simp only [HF.out.2.2] at hP
 have HB1 := Lib.hid hb1
 clear hb1
 obtain ⟨g, rfl, hTA⟩ := hP
 obtain ⟨_, hfit, tv, hB, hrd⟩ := hTA
 have hok := (buildT_ok HF.out.1 HF.out.2.2).1
 have hra : RdA w1 t tv := RdT.move (fun j hj hs => ⟨trivial, rfl⟩) _ _ hrd
 have HBT := Lib.hid (And.intro hB (And.intro hra (And.intro hok hfit)))
 clear hB hrd hfit hra hok
 go_wp2_with fail
 ((with_reducible refine (bind_wk k HK.out.1 HK.out.2 g t tv l w1 _ HBT.out.1 HBT.out.2.1 (Below.refl _ _) HBT.out.2.2.1 HBT.out.2.2.2 HF.out.2.1 (HG.out.1.next HB1.out) (HG.out.2.next HB1.out)).mono ?_); intro e w2 hp)
 obtain ⟨he, hb2⟩ := bind_cases hp
 have HB2 := Lib.hid (HB1.out.trans (hb2.mono HB1.out.size))
 have HB12 := Lib.hid hb2
 clear hb2 hp
 rcases he with ⟨T0, U0, rfl⟩ | ⟨ts, u, x, hp, hle, rfl, hx⟩
 ·go_wp2_with fail
  ((with_reducible refine (wakes16_any _ (HG.out.1.next HB2.out) (HG.out.2.next HB2.out)).mono ?_); rintro e w3 ⟨rfl, hb3⟩)
  have HB3 := Lib.hid (HB2.out.trans (hb3.mono HB2.out.size))
  clear hb3
  go_wp2
  go_ret
  exact ⟨rfl, HB3.out⟩
 ·have HPL := Lib.hid (And.intro hp hle)
  have HUX := Lib.hid (And.intro hx (lead_ok _ _ _ _ HBT.out.2.2.1 HBT.out.2.2.2 hle))
  clear hp hle hx
  have HKF := Lib.hid (HKA.out u x HUX.out.1)
  obtain ⟨ff, hff⟩ := HFA.out u x HUX.out.1
  have n0 := hff.m0
  have n1 := hff.m1
  have HFL := Lib.hid hff.m2
  clear hff
  obtain ⟨fk, hfk⟩ := (HKF.out).kind
  have m0 := hfk.m0
  have m1 := hfk.m1
  have HKI := Lib.hid hfk.m2
  have tw := (HKF.out).tw
  have tr := (HKF.out).tr
  simp only [Bool.false_eq_true, if_false, if_true] at tw tr
  have HFS := Lib.hid (fun (W : World) (gF : Nat) (hF : Blk W gF 73 #[.string ⟨keyN.toArray⟩, .int .i64 (k : Int), .bool false]) (hb : Below w.heap.size w W) (hb1 : Below w1.heap.size w1 W) => fields_any k HK.out.1 HK.out.2 g t tv w1 W HBT.out.1 HBT.out.2.1 hb1 HBT.out.2.2.1 HBT.out.2.2.2 gF 1 hF (HG.out.1.next hb) (HG.out.2.next hb))
  unfold FlsP at HFS
  clear hfk
  generalize tyK k = T at *
  go_wp2_with fail
  ((with_reducible refine (wakes16_any _ (HG.out.1.next HB2.out) (HG.out.2.next HB2.out)).mono ?_); rintro e w3 ⟨rfl, hb3⟩)
  have HB3 := Lib.hid (HB2.out.trans (hb3.mono HB2.out.size))
  have HB13 := Lib.hid (HB12.out.trans (hb3.mono HB12.out.size))
  clear hb3
  go_wp2_with fail
  ((with_reducible refine (HKI.out _).mono ?_); rintro e w4 ⟨rfl, hb4⟩)
  have HB4 := Lib.hid (HB3.out.trans (hb4.mono HB3.out.size))
  have HB14 := Lib.hid (HB13.out.trans (hb4.mono HB13.out.size))
  clear hb4
  go_wp2_with fail
  ((with_reducible refine (pfind_any g t tv l w1 _ HBT.out.1 HBT.out.2.1 HB14.out HBT.out.2.2.1 HBT.out.2.2.2 HF.out.2.1 (HG.out.1.next HB4.out) (HG.out.2.next HB4.out)).mono ?_); rintro e w5 ⟨he, hb5⟩)
  rw [HPL.out.1] at he
  dsimp only at he
  rw [HPL.out.2] at he
  obtain ⟨tx, ux, rfl, hrd, _⟩ := he
  obtain ⟨wr, hwr⟩ : ∃ wr, w5.alloc (.cells #[.iface tx ux] 58) = wr := ⟨_, rfl⟩
  have hbr : Below w4.heap.size w4 wr := by rw [← hwr]; exact hb5.alloc hb5.size _
  have hc : Blk wr w5.heap.size 58 #[.iface tx ux] := by rw [← hwr]; exact Blk.new w5 _ _
  have HBR := Lib.hid (HB4.out.trans (hbr.mono HB4.out.size))
  have HB1R := Lib.hid (HB14.out.trans (hbr.mono HB14.out.size))
  have c18 : wr.cell? ⟨w5.heap.size, 0, none⟩ = some (.iface tx ux) := hc.cell 0
  have HRD := Lib.hid (rda_below hrd HB1R.out)
  have HWR := Lib.hid hwr
  clear hb5 hwr hbr hc hrd
  go_upto_region 16 with fail
  rw [HWR.out]
  go_wp2_with fail
  ((with_reducible refine (numr_any (fun _ => True) u (.iface tx ux) _ HRD.out).mono ?_); rintro e w6 ⟨rfl, hb6⟩)
  have HB6 := Lib.hid (HBR.out.trans (hb6.mono HBR.out.size))
  have HB16 := Lib.hid (HB1R.out.trans (hb6.mono HB1R.out.size))
  clear hb6 c18
  go_wp2_with fail
  ((with_reducible refine (HFL.out _).mono ?_); rintro e w7 ⟨rfl, hb7⟩)
  have HB7 := Lib.hid (HB6.out.trans (hb7.mono HB6.out.size))
  have HB17 := Lib.hid (HB16.out.trans (hb7.mono HB16.out.size))
  clear hb7
  go_wp2_with fail
  rw [show (⟨#[0, 32, 110, 111, 32, 115, 117, 99, 104, 32, 107, 101, 121]⟩ : ByteArray) = ⟨keyN.toArray⟩ from rfl]
  have HBA := Lib.hid (HB7.out.alloc HB7.out.size (.cells #[.string ⟨keyN.toArray⟩, .int .i64 (k : Int), .bool false] 73))
  have HB1A := Lib.hid (HB17.out.alloc HB17.out.size (.cells #[.string ⟨keyN.toArray⟩, .int .i64 (k : Int), .bool false] 73))
  ((with_reducible refine (HFS.out _ _ (Blk.new w7 73 #[.string ⟨keyN.toArray⟩, .int .i64 (k : Int), .bool false]) HBA.out HB1A.out).mono ?_); rintro e w9 ⟨he, hb9⟩)
  have HB9 := Lib.hid (HBA.out.trans (hb9.mono HBA.out.size))
  clear hb9
  rcases he with ⟨T', U', rfl⟩ | ⟨g9, c9, T', y, rfl, hc9, hT⟩
  ·go_wp2
   go_ret
   exact ⟨rfl, HB9.out⟩
  ·rcases hT with rfl | ⟨rfl, rfl⟩
   ·have tmy := tm y
    go_wp2
    go_ret
    exact ⟨rfl, HB9.out⟩
   ·have ms1 := tm_ms
    have ms2 := ms_kind.m0
    have ms3 := ms_kind.m1
    go_wp2_with fail
    ((with_reducible refine (ms_kind.m2 _).mono ?_); rintro e wa ⟨rfl, hba⟩)
    have HBZ := Lib.hid (HB9.out.trans (hba.mono HB9.out.size))
    clear hba
    go_wp2
    go_ret
    exact ⟨rfl, HBZ.out⟩
end Nd
end Go.Proofs.YtbajkglacfheiaaGreatDoor
namespace Go.Proofs.YtbajkglacfheiaaGreatDoor
open Go.RowKit Mem Utf Ref3 Idx Tok TokC Ieee
namespace Nd
theorem asserts_int (v : Value) (l : Tx) (ss : List Stp) (w : World) (hS : RdS w v ss) (hF : ∀ s ∈ ss, s.Fine) (hl : l.length ≤ 4194304) (hG : Glob w) (hT : Tab w) (t : Tr) (hb : buildT ss = .inr t) (k : Nat) (h1 : 1 ≤ k) (h19 : k ≤ 19) (hk3 : 3 ≤ k) (hk10 : k ≤ 10) (hka : ∀ u x, rK k u x → KF k x true true) (hia : ∀ u x, rK k u x → u.Ok → (∃ f, Mth (tyK k) x "Float" (.float .f64 u.nb) f) ∧ ∃ (i : Int) (ok : Bool), (∃ f, Mth (tyK k) x "Int" (.tuple #[.int .i64 i, .bool ok]) f) ∧ (Ieee.double.order u.nb 4890909195324358656 == some .lt) = ok ∧ (ok = true → floatOfInt .f64 i = u.nb) ∧ (ok = false → i = 0))  :
  Calls Tryz.prog 4 #[v, .string ⟨l.toArray⟩, .int .i64 (k : Int)] w (TrueN w) := by
 have e1 : ((k : Int) ≥ 3) = True := by simp; omega
 have e1b : ((k : Int) ≤ 10) = True := by simp; omega
 have e4 : ((k : Int) != 11) = true := by simp; omega
 have HIA := Lib.hid hia
 clear hk3 hk10 hia
 have HK := Lib.hid (And.intro h1 h19)
 have tm := tm_all k h1 h19
 have HKA := Lib.hid hka
 clear h1 h19 hka
 have q1 := err_ne_nil
 have q2 := err_ne_held
 have q3 := err_eq_nil
 have q4 := err_eq_held
 have q5 := bd_eq_nil
 have q6 := bd_eq_held
 have q7 := f64bits
 obtain ⟨SA, sc, rfl, _⟩ := id hS
 have HS := Lib.hid hS
 have HF := Lib.hid (And.intro hF (And.intro hl hb))
 have HG := Lib.hid (And.intro hG hT)
 clear hS hF hl hG hT hb
 go_enter Tryz.func4, Tryz.ntmps4
 go_wp2_with fail
 ((with_reducible refine (build_all _ ss _ HS.out HF.out.1).mono ?_); intro e w1 hP)
 obtain ⟨hb1, hP⟩ := hP
 simp only [HF.out.2.2] at hP
 have HB1 := Lib.hid hb1
 clear hb1
 obtain ⟨g, rfl, hTA⟩ := hP
 obtain ⟨_, hfit, tv, hB, hrd⟩ := hTA
 have hok := (buildT_ok HF.out.1 HF.out.2.2).1
 have hra : RdA w1 t tv := RdT.move (fun j hj hs => ⟨trivial, rfl⟩) _ _ hrd
 have HBT := Lib.hid (And.intro hB (And.intro hra (And.intro hok hfit)))
 clear hB hrd hfit hra hok
 go_wp2_with fail
 ((with_reducible refine (bind_wk k HK.out.1 HK.out.2 g t tv l w1 _ HBT.out.1 HBT.out.2.1 (Below.refl _ _) HBT.out.2.2.1 HBT.out.2.2.2 HF.out.2.1 (HG.out.1.next HB1.out) (HG.out.2.next HB1.out)).mono ?_); intro e w2 hp)
 obtain ⟨he, hb2⟩ := bind_cases hp
 have HB2 := Lib.hid (HB1.out.trans (hb2.mono HB1.out.size))
 have HB12 := Lib.hid hb2
 clear hb2 hp
 rcases he with ⟨T0, U0, rfl⟩ | ⟨ts, u, x, hp, hle, rfl, hx⟩
 ·go_wp2_with fail
  ((with_reducible refine (wakes16_any _ (HG.out.1.next HB2.out) (HG.out.2.next HB2.out)).mono ?_); rintro e w3 ⟨rfl, hb3⟩)
  have HB3 := Lib.hid (HB2.out.trans (hb3.mono HB2.out.size))
  clear hb3
  go_wp2
  go_ret
  exact ⟨rfl, HB3.out⟩
 ·have HPL := Lib.hid (And.intro hp hle)
  have HUX := Lib.hid (And.intro hx (lead_ok _ _ _ _ HBT.out.2.2.1 HBT.out.2.2.2 hle))
  clear hp hle hx
  have HKF := Lib.hid (HKA.out u x HUX.out.1)
  have HNB := Lib.hid (nb_fin HUX.out.2.1)
  obtain ⟨⟨ff, hff⟩, i, ok, ⟨fi, hfi⟩, hord, hconv, hi0⟩ := HIA.out u x HUX.out.1 HUX.out.2.1
  have n0 := hff.m0
  have n1 := hff.m1
  have HFL := Lib.hid hff.m2
  have p0 := hfi.m0
  have p1 := hfi.m1
  have HIN := Lib.hid hfi.m2
  clear hff hfi
  obtain ⟨fk, hfk⟩ := (HKF.out).kind
  have m0 := hfk.m0
  have m1 := hfk.m1
  have HKI := Lib.hid hfk.m2
  have tw := (HKF.out).tw
  have tr := (HKF.out).tr
  simp only [Bool.false_eq_true, if_false, if_true] at tw tr
  have HFS := Lib.hid (fun (W : World) (gF : Nat) (hF : Blk W gF 73 #[.string ⟨keyN.toArray⟩, .int .i64 (k : Int), .bool false]) (hb : Below w.heap.size w W) (hb1 : Below w1.heap.size w1 W) => fields_any k HK.out.1 HK.out.2 g t tv w1 W HBT.out.1 HBT.out.2.1 hb1 HBT.out.2.2.1 HBT.out.2.2.2 gF 1 hF (HG.out.1.next hb) (HG.out.2.next hb))
  unfold FlsP at HFS
  clear hfk
  generalize tyK k = T at *
  go_wp2_with fail
  ((with_reducible refine (wakes16_any _ (HG.out.1.next HB2.out) (HG.out.2.next HB2.out)).mono ?_); rintro e w3 ⟨rfl, hb3⟩)
  have HB3 := Lib.hid (HB2.out.trans (hb3.mono HB2.out.size))
  have HB13 := Lib.hid (HB12.out.trans (hb3.mono HB12.out.size))
  clear hb3
  go_wp2_with fail
  ((with_reducible refine (HKI.out _).mono ?_); rintro e w4 ⟨rfl, hb4⟩)
  have HB4 := Lib.hid (HB3.out.trans (hb4.mono HB3.out.size))
  have HB14 := Lib.hid (HB13.out.trans (hb4.mono HB13.out.size))
  clear hb4
  go_wp2_with fail
  ((with_reducible refine (pfind_any g t tv l w1 _ HBT.out.1 HBT.out.2.1 HB14.out HBT.out.2.2.1 HBT.out.2.2.2 HF.out.2.1 (HG.out.1.next HB4.out) (HG.out.2.next HB4.out)).mono ?_); rintro e w5 ⟨he, hb5⟩)
  rw [HPL.out.1] at he
  dsimp only at he
  rw [HPL.out.2] at he
  obtain ⟨tx, ux, rfl, hrd, _⟩ := he
  obtain ⟨wr, hwr⟩ : ∃ wr, w5.alloc (.cells #[.iface tx ux] 58) = wr := ⟨_, rfl⟩
  have hbr : Below w4.heap.size w4 wr := by rw [← hwr]; exact hb5.alloc hb5.size _
  have hc : Blk wr w5.heap.size 58 #[.iface tx ux] := by rw [← hwr]; exact Blk.new w5 _ _
  have HBR := Lib.hid (HB4.out.trans (hbr.mono HB4.out.size))
  have HB1R := Lib.hid (HB14.out.trans (hbr.mono HB14.out.size))
  have c18 : wr.cell? ⟨w5.heap.size, 0, none⟩ = some (.iface tx ux) := hc.cell 0
  have HRD := Lib.hid (rda_below hrd HB1R.out)
  have HWR := Lib.hid hwr
  clear hb5 hwr hbr hc hrd
  go_upto_region 16 with fail
  rw [HWR.out]
  go_wp2_with fail
  ((with_reducible refine (numr_any (fun _ => True) u (.iface tx ux) _ HRD.out).mono ?_); rintro e w6 ⟨rfl, hb6⟩)
  have HB6 := Lib.hid (HBR.out.trans (hb6.mono HBR.out.size))
  have HB16 := Lib.hid (HB1R.out.trans (hb6.mono HB1R.out.size))
  clear hb6 c18
  go_wp2_with fail
  ((with_reducible refine (HFL.out _).mono ?_); rintro e w7 ⟨rfl, hb7⟩)
  have HB7 := Lib.hid (HB6.out.trans (hb7.mono HB6.out.size))
  have HB17 := Lib.hid (HB16.out.trans (hb7.mono HB16.out.size))
  clear hb7
  go_wp2_with fail
  ((with_reducible refine (HIN.out _).mono ?_); rintro e w8 ⟨rfl, hb8⟩)
  have HB8 := Lib.hid (HB7.out.trans (hb8.mono HB7.out.size))
  have HB18 := Lib.hid (HB17.out.trans (hb8.mono HB17.out.size))
  clear hb8
  have o1 := ord_self HNB.out.2 HNB.out.1
  have r1 := ordt o1
  have r2 := ordb o1
  have r3 := ordn o1
  simp only [Bool.not_true] at r3
  clear o1
  cases ok with
  | true =>
   have hcv := hconv rfl
   have r4 := ordt hord
   have r5 := ordb hord
   clear hord hconv hi0
   go_wp2_with fail
   rw [show (⟨#[0, 32, 110, 111, 32, 115, 117, 99, 104, 32, 107, 101, 121]⟩ : ByteArray) = ⟨keyN.toArray⟩ from rfl]
   have HBA := Lib.hid (HB8.out.alloc HB8.out.size (.cells #[.string ⟨keyN.toArray⟩, .int .i64 (k : Int), .bool false] 73))
   have HB1A := Lib.hid (HB18.out.alloc HB18.out.size (.cells #[.string ⟨keyN.toArray⟩, .int .i64 (k : Int), .bool false] 73))
   ((with_reducible refine (HFS.out _ _ (Blk.new w8 73 #[.string ⟨keyN.toArray⟩, .int .i64 (k : Int), .bool false]) HBA.out HB1A.out).mono ?_); rintro e w9 ⟨he, hb9⟩)
   have HB9 := Lib.hid (HBA.out.trans (hb9.mono HBA.out.size))
   clear hb9
   rcases he with ⟨T', U', rfl⟩ | ⟨g9, c9, T', y, rfl, hc9, hT⟩
   ·go_wp2
    go_ret
    exact ⟨rfl, HB9.out⟩
   ·rcases hT with rfl | ⟨rfl, rfl⟩
    ·have tmy := tm y
     go_wp2
     go_ret
     exact ⟨rfl, HB9.out⟩
    ·have ms1 := tm_ms
     have ms2 := ms_kind.m0
     have ms3 := ms_kind.m1
     go_wp2_with fail
     ((with_reducible refine (ms_kind.m2 _).mono ?_); rintro e wa ⟨rfl, hba⟩)
     have HBZ := Lib.hid (HB9.out.trans (hba.mono HB9.out.size))
     clear hba
     go_wp2
     go_ret
     exact ⟨rfl, HBZ.out⟩
  | false =>
   obtain rfl := hi0 rfl
   have r4 := ordf hord
   have r5 := ordb hord
   clear hord hconv hi0
   go_wp2_with fail
   rw [show (⟨#[0, 32, 110, 111, 32, 115, 117, 99, 104, 32, 107, 101, 121]⟩ : ByteArray) = ⟨keyN.toArray⟩ from rfl]
   have HBA := Lib.hid (HB8.out.alloc HB8.out.size (.cells #[.string ⟨keyN.toArray⟩, .int .i64 (k : Int), .bool false] 73))
   have HB1A := Lib.hid (HB18.out.alloc HB18.out.size (.cells #[.string ⟨keyN.toArray⟩, .int .i64 (k : Int), .bool false] 73))
   ((with_reducible refine (HFS.out _ _ (Blk.new w8 73 #[.string ⟨keyN.toArray⟩, .int .i64 (k : Int), .bool false]) HBA.out HB1A.out).mono ?_); rintro e w9 ⟨he, hb9⟩)
   have HB9 := Lib.hid (HBA.out.trans (hb9.mono HBA.out.size))
   clear hb9
   rcases he with ⟨T', U', rfl⟩ | ⟨g9, c9, T', y, rfl, hc9, hT⟩
   ·go_wp2
    go_ret
    exact ⟨rfl, HB9.out⟩
   ·rcases hT with rfl | ⟨rfl, rfl⟩
    ·have tmy := tm y
     go_wp2
     go_ret
     exact ⟨rfl, HB9.out⟩
    ·have ms1 := tm_ms
     have ms2 := ms_kind.m0
     have ms3 := ms_kind.m1
     go_wp2_with fail
     ((with_reducible refine (ms_kind.m2 _).mono ?_); rintro e wa ⟨rfl, hba⟩)
     have HBZ := Lib.hid (HB9.out.trans (hba.mono HB9.out.size))
     clear hba
     go_wp2
     go_ret
     exact ⟨rfl, HBZ.out⟩
end Nd
end Go.Proofs.YtbajkglacfheiaaGreatDoor
namespace Go.Proofs.YtbajkglacfheiaaGreatDoor
open Go.RowKit Mem Utf Ref3 Idx Tok TokC Ieee
namespace Nd
theorem intD_in {k b : Nat} {z : Int} (h : intD k b = .inr z) : wholeD b = some z ∧ loK k ≤ z ∧ z ≤ hiK k := by
 unfold intD at h
 split at h
 ·cases h
 ·rename_i z' hz
  split at h
  ·rename_i hh
   injection h with h
   subst h
   exact ⟨hz, hh⟩
  ·cases h
theorem order63 {b : Nat} (hb : b < 18446744073709551616) (hf : finB b = true) {z : Int} (h : wholeD b = some z) : (Ieee.double.order b 4890909195324358656 == some .lt) = decide (z < 9223372036854775808) := by
 rw [order_lt hb (by decide) hf hi63.1, whole_some h, hi63.2]
 by_cases hz : z < 9223372036854775808
 ·rw [decide_eq_true hz, decide_eq_true (scale_lt.2 hz)]
 ·rw [decide_eq_false hz, decide_eq_false (fun h => hz (scale_lt.1 h))]
theorem num_norm {u : Tr} (ho : u.Ok) (hn : u.isNb = true) : normB u.nb = u.nb := by
 cases u <;> simp [Tr.isNb] at hn
 exact ho.2.1
theorem kf_int {k : Nat} (h3 : 3 ≤ k) (h10 : k ≤ 10) (x : Value) : KF k x true true := by
 rcases (by omega : k = 3 ∨ k = 4 ∨ k = 5 ∨ k = 6 ∨ k = 7 ∨ k = 8 ∨ k = 9 ∨ k = 10) with rfl | rfl | rfl | rfl | rfl | rfl | rfl | rfl
 ·exact kf_3 x
 ·exact kf_4 x
 ·exact kf_5 x
 ·exact kf_6 x
 ·exact kf_7 x
 ·exact kf_8 x
 ·exact kf_9 x
 ·exact kf_10 x
theorem kf_high {k : Nat} (h13 : 13 ≤ k) (h19 : k ≤ 19) (x : Value) : KF k x false false := by
 rcases (by omega : k = 13 ∨ k = 14 ∨ k = 15 ∨ k = 16 ∨ k = 17 ∨ k = 18 ∨ k = 19) with rfl | rfl | rfl | rfl | rfl | rfl | rfl
 ·exact kf_13 x
 ·exact kf_14 x
 ·exact kf_15 x
 ·exact kf_16 x
 ·exact kf_17 x
 ·exact kf_18 x
 ·exact kf_19 x
theorem kf_low {k : Nat} (h1 : 1 ≤ k) (h3 : k < 3) {u : Tr} {x : Value} (h : rK k u x) : KF k x false false := by
 rcases (by omega : k = 1 ∨ k = 2) with rfl | rfl
 ·rw [h.2.2 rfl]
  exact kf_1
 ·exact kf_2 x
theorem int_tells {k : Nat} (h3 : 3 ≤ k) (h10 : k ≤ 10) {u : Tr} {x : Value} (h : rK k u x) (ho : u.Ok) : (∃ f, Mth (tyK k) x "Float" (.float .f64 u.nb) f) ∧ ∃ (i : Int) (ok : Bool), (∃ f, Mth (tyK k) x "Int" (.tuple #[.int .i64 i, .bool ok]) f) ∧ (Ieee.double.order u.nb 4890909195324358656 == some .lt) = ok ∧ (ok = true → floatOfInt .f64 i = u.nb) ∧ (ok = false → i = 0) := by
 obtain ⟨hn, z, hx, hz⟩ := h.1 h3 h10
 obtain ⟨hw, hlo, hhi⟩ := intD_in hz
 have hfin := nb_fin ho
 have hbk := back_float hfin.2 hfin.1 (num_norm ho hn) hw
 have hor := order63 hfin.2 hfin.1 hw
 rcases (by omega : k = 3 ∨ k = 4 ∨ k = 5 ∨ k = 6 ∨ k = 7 ∨ k = 8 ∨ k = 9 ∨ k = 10) with rfl | rfl | rfl | rfl | rfl | rfl | rfl | rfl
 ·obtain rfl : x = .int .i8 z := by
   have h := hx
   injection h with _ h
   exact h.symm
  have hi : z ≤ hiK 3 := hhi
  have hz63 : z < 9223372036854775808 := by simp [hiK] at hhi; omega
  rw [decide_eq_true hz63] at hor
  exact ⟨⟨_, hbk ▸ fl_3 z⟩, z, true, ⟨_, in_3 z hlo hhi⟩, hor, fun _ => hbk, fun h => by cases h⟩
 ·obtain rfl : x = .int .i16 z := by
   have h := hx
   injection h with _ h
   exact h.symm
  have hi : z ≤ hiK 4 := hhi
  have hz63 : z < 9223372036854775808 := by simp [hiK] at hhi; omega
  rw [decide_eq_true hz63] at hor
  exact ⟨⟨_, hbk ▸ fl_4 z⟩, z, true, ⟨_, in_4 z hlo hhi⟩, hor, fun _ => hbk, fun h => by cases h⟩
 ·obtain rfl : x = .int .i32 z := by
   have h := hx
   injection h with _ h
   exact h.symm
  have hi : z ≤ hiK 5 := hhi
  have hz63 : z < 9223372036854775808 := by simp [hiK] at hhi; omega
  rw [decide_eq_true hz63] at hor
  exact ⟨⟨_, hbk ▸ fl_5 z⟩, z, true, ⟨_, in_5 z hlo hhi⟩, hor, fun _ => hbk, fun h => by cases h⟩
 ·obtain rfl : x = .int .i64 z := by
   have h := hx
   injection h with _ h
   exact h.symm
  have hi : z ≤ hiK 6 := hhi
  have hz63 : z < 9223372036854775808 := by simp [hiK] at hhi; omega
  rw [decide_eq_true hz63] at hor
  exact ⟨⟨_, hbk ▸ fl_6 z⟩, z, true, ⟨_, in_6 z hlo hhi⟩, hor, fun _ => hbk, fun h => by cases h⟩
 ·obtain rfl : x = .int .u8 z := by
   have h := hx
   injection h with _ h
   exact h.symm
  have hi : z ≤ hiK 7 := hhi
  have hz63 : z < 9223372036854775808 := by simp [hiK] at hhi; omega
  rw [decide_eq_true hz63] at hor
  exact ⟨⟨_, hbk ▸ fl_7 z⟩, z, true, ⟨_, in_7 z hlo hhi⟩, hor, fun _ => hbk, fun h => by cases h⟩
 ·obtain rfl : x = .int .u16 z := by
   have h := hx
   injection h with _ h
   exact h.symm
  have hi : z ≤ hiK 8 := hhi
  have hz63 : z < 9223372036854775808 := by simp [hiK] at hhi; omega
  rw [decide_eq_true hz63] at hor
  exact ⟨⟨_, hbk ▸ fl_8 z⟩, z, true, ⟨_, in_8 z hlo hhi⟩, hor, fun _ => hbk, fun h => by cases h⟩
 ·obtain rfl : x = .int .u32 z := by
   have h := hx
   injection h with _ h
   exact h.symm
  have hi : z ≤ hiK 9 := hhi
  have hz63 : z < 9223372036854775808 := by simp [hiK] at hhi; omega
  rw [decide_eq_true hz63] at hor
  exact ⟨⟨_, hbk ▸ fl_9 z⟩, z, true, ⟨_, in_9 z hlo hhi⟩, hor, fun _ => hbk, fun h => by cases h⟩
 ·obtain rfl : x = .int .u64 z := by
   have h := hx
   injection h with _ h
   exact h.symm
  have h0 : 0 ≤ z := by simpa [loK] using hlo
  have h1 : z ≤ 18446744073709551615 := by simpa [hiK] using hhi
  by_cases hz : z < 9223372036854775808
  ·rw [decide_eq_true hz] at hor
   exact ⟨⟨_, hbk ▸ fl_10 z⟩, z, true, ⟨_, in_10y z h0 (by omega)⟩, hor, fun _ => hbk, fun h => by cases h⟩
  ·rw [decide_eq_false hz] at hor
   exact ⟨⟨_, hbk ▸ fl_10 z⟩, 0, false, ⟨_, in_10n z (by omega) h1⟩, hor, (fun h => by cases h), fun _ => rfl⟩
theorem asserts_any (v : Value) (l : Tx) (ss : List Stp) (w : World) (hS : RdS w v ss) (hF : ∀ s ∈ ss, s.Fine) (hl : l.length ≤ 4194304) (hG : Glob w) (hT : Tab w) (n : Int) : Calls Tryz.prog 4 #[v, .string ⟨l.toArray⟩, .int .i64 n] w (TrueN w) := by
 cases hb : buildT ss with
 | inl x => exact asserts_refused v l ss w hS hF hl hG hT n x hb
 | inr t =>
  by_cases hn : 1 ≤ n ∧ n ≤ 19
  ·obtain ⟨k, rfl⟩ : ∃ k : Nat, n = (k : Int) := ⟨n.toNat, by omega⟩
   have h1 : 1 ≤ k := by omega
   have h19 : k ≤ 19 := by omega
   by_cases hk : k < 3
   ·exact asserts_low v l ss w hS hF hl hG hT t hb k h1 h19 hk fun u x h => kf_low h1 hk h
   ·by_cases hk2 : k ≤ 10
    ·exact asserts_int v l ss w hS hF hl hG hT t hb k h1 h19 (by omega) hk2 (fun u x h => kf_int (by omega) hk2 x) fun u x h ho => int_tells (by omega) hk2 h ho
    ·by_cases hk3 : k = 11
     ·exact asserts_f32 v l ss w hS hF hl hG hT t hb k h1 h19 hk3 fun u x h => hk3 ▸ kf_11 x
     ·by_cases hk4 : k = 12
      ·exact asserts_f64 v l ss w hS hF hl hG hT t hb k h1 h19 hk4 (fun u x h => hk4 ▸ kf_12 x) fun u x h => by
        subst hk4
        rw [(h.2.1 rfl).1]
        exact ⟨_, fl_12 u.nb⟩
      ·exact asserts_high v l ss w hS hF hl hG hT t hb k h1 h19 (by omega) fun u x h => kf_high (by omega) h19 x
  ·exact asserts_no v l ss w hS hF hl hG hT n t hb hn
end Nd
end Go.Proofs.YtbajkglacfheiaaGreatDoor
