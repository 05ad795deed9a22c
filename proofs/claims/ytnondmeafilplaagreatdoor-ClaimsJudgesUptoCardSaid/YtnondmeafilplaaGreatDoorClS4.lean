/-
  Judge of the reference of layer 25: what is over (printed by wip/gen_cls.py).
-/
import Derived.Test.YtnondmeafilplaaGreatDoorClS5
import Derived.Test.YtnondmeafilplaaGreatDoorClS6
namespace Go.Proofs.YtnondmeafilplaaGreatDoor
open Go.RowKit Mem Utf Ref3 Tok Cl
set_option linter.unusedVariables false

set_option maxRecDepth 100000 in
theorem refJudge_tail5 (c : C) (r : R) (A1 A2 A4 A5 : Option Addr) (k1 k2 k4 k5 : Nat) (u3 : Value) (w wr : World) (g : Nat)
    (v1 : Value) (h : ClAt w c v1 (.slice A4 c.for_.length k4) (.slice A5 c.may_.length k5)) (hr : RuAt w r (.slice A1 r.by_.length k1) (.slice A2 r.need.length k2) u3) (hfit : fit c r = true)
    (HJ0 : Hid (judge0 c r = judge5 c r)) (hs0 : JSt w c r (.slice A4 c.for_.length k4) (.slice A5 c.may_.length k5) (.slice A1 r.by_.length k1) (.slice A2 r.need.length k2) u3 g wr) (z0 z1 z5 z6 z7 z8 z9 z10 z11 z12 z13 z14 z15 z16 z17 z18 z19 z20 z21 z22 z23 z24 z25 z26 z27 z28 z29 z30 z31 z32 z33 z34 z35 z36 z37 z38 z39 z40 z41 z42 z43 z44 z45 z46 z47 z48 z49 z50 z51 z52 z53 z54 z55 z56 z57 z58 z59 z60 z61 z62 z63 z64 z65 z66 z67 z68 z69 z70 z71 z72 z73 z74 z75 z76 z77 z78 z79 z80 z81 z82 z83 z84 z85 z86 z87 z88 z89 z90 z91 z92 z93 z94 z95 z96 z97 z98 z99 z100 z101 z102 z103 z104 z105 z106 z107 z108 z109 z110 z111 z112 z113 z114 z115 z116 z117 z118 z119 z120 z121 z122 z123 z124 z125 z126 z127 z128 z129 z130 z131 z132 z133 z134 z135 z136 z137 : Value) :
    Code.wp Tryz.prog refJTail5 (bodyPost Tryz.prog Tryz.f13 (RefJudgeP c r w)) { tmps := (z0 :: z1 :: .pointer (some ⟨w.heap.size, 0, none⟩) :: .pointer (some ⟨w.heap.size + 1, 0, none⟩) :: .pointer (some ⟨w.heap.size + 2, 0, none⟩) :: z5 :: z6 :: z7 :: z8 :: z9 :: z10 :: z11 :: z12 :: z13 :: z14 :: z15 :: z16 :: z17 :: z18 :: z19 :: z20 :: z21 :: z22 :: z23 :: z24 :: z25 :: z26 :: z27 :: z28 :: z29 :: z30 :: z31 :: z32 :: z33 :: z34 :: z35 :: z36 :: z37 :: z38 :: z39 :: z40 :: z41 :: z42 :: z43 :: z44 :: z45 :: z46 :: z47 :: z48 :: z49 :: z50 :: z51 :: z52 :: z53 :: z54 :: z55 :: z56 :: z57 :: z58 :: z59 :: z60 :: z61 :: z62 :: z63 :: z64 :: z65 :: z66 :: z67 :: z68 :: z69 :: z70 :: z71 :: z72 :: z73 :: z74 :: z75 :: z76 :: z77 :: z78 :: z79 :: z80 :: z81 :: z82 :: z83 :: z84 :: z85 :: z86 :: z87 :: z88 :: z89 :: z90 :: z91 :: z92 :: z93 :: z94 :: z95 :: z96 :: z97 :: z98 :: z99 :: z100 :: z101 :: z102 :: z103 :: z104 :: z105 :: z106 :: z107 :: z108 :: z109 :: z110 :: z111 :: z112 :: z113 :: z114 :: z115 :: z116 :: z117 :: z118 :: z119 :: z120 :: z121 :: z122 :: z123 :: z124 :: z125 :: z126 :: z127 :: z128 :: z129 :: z130 :: z131 :: z132 :: z133 :: z134 :: z135 :: z136 :: z137 :: []).toArray, defers := [] } wr := by
  rcases Bool.eq_false_or_eq_true (is c 7) with h7 | h7
  · exact refJudge_tail5t c r A1 A2 A4 A5 k1 k2 k4 k5 u3 w wr g v1 h hr hfit h7 HJ0 hs0 _ _ _ _ _ _ _ _ _ _ _ _ _ _ _ _ _ _ _ _ _ _ _ _ _ _ _ _ _ _ _ _ _ _ _ _ _ _ _ _ _ _ _ _ _ _ _ _ _ _ _ _ _ _ _ _ _ _ _ _ _ _ _ _ _ _ _ _ _ _ _ _ _ _ _ _ _ _ _ _ _ _ _ _ _ _ _ _ _ _ _ _ _ _ _ _ _ _ _ _ _ _ _ _ _ _ _ _ _ _ _ _ _ _ _ _ _ _ _ _ _ _ _ _ _ _ _ _ _ _ _ _ _ _ _
  · exact refJudge_tail5f c r A1 A2 A4 A5 k1 k2 k4 k5 u3 w wr g v1 h hr hfit h7 HJ0 hs0 _ _ _ _ _ _ _ _ _ _ _ _ _ _ _ _ _ _ _ _ _ _ _ _ _ _ _ _ _ _ _ _ _ _ _ _ _ _ _ _ _ _ _ _ _ _ _ _ _ _ _ _ _ _ _ _ _ _ _ _ _ _ _ _ _ _ _ _ _ _ _ _ _ _ _ _ _ _ _ _ _ _ _ _ _ _ _ _ _ _ _ _ _ _ _ _ _ _ _ _ _ _ _ _ _ _ _ _ _ _ _ _ _ _ _ _ _ _ _ _ _ _ _ _ _ _ _ _ _ _ _ _ _ _ _

set_option maxRecDepth 100000 in
set_option maxHeartbeats 16000000 in
theorem refJudge_tail4 (c : C) (r : R) (A1 A2 A4 A5 : Option Addr) (k1 k2 k4 k5 : Nat) (u3 : Value) (w wr : World) (g : Nat)
    (v1 : Value) (h : ClAt w c v1 (.slice A4 c.for_.length k4) (.slice A5 c.may_.length k5)) (hr : RuAt w r (.slice A1 r.by_.length k1) (.slice A2 r.need.length k2) u3) (hfit : fit c r = true)
    (HJ0 : Hid (judge0 c r = judge4 c r)) (hs0 : JSt w c r (.slice A4 c.for_.length k4) (.slice A5 c.may_.length k5) (.slice A1 r.by_.length k1) (.slice A2 r.need.length k2) u3 g wr) (z0 z1 z5 z6 z7 z8 z9 z10 z11 z12 z13 z14 z15 z16 z17 z18 z19 z20 z21 z22 z23 z24 z25 z26 z27 z28 z29 z30 z31 z32 z33 z34 z35 z36 z37 z38 z39 z40 z41 z42 z43 z44 z45 z46 z47 z48 z49 z50 z51 z52 z53 z54 z55 z56 z57 z58 z59 z60 z61 z62 z63 z64 z65 z66 z67 z68 z69 z70 z71 z72 z73 z74 z75 z76 z77 z78 z79 z80 z81 z82 z83 z84 z85 z86 z87 z88 z89 z90 z91 z92 z93 z94 z95 z96 z97 z98 z99 z100 z101 z102 z103 z104 z105 z106 z107 z108 z109 z110 z111 z112 z113 z114 z115 z116 z117 z118 z119 z120 z121 z122 z123 z124 z125 z126 z127 z128 z129 z130 z131 z132 z133 z134 z135 z136 z137 : Value) :
    Code.wp Tryz.prog refJTail4 (bodyPost Tryz.prog Tryz.f13 (RefJudgeP c r w)) { tmps := (z0 :: z1 :: .pointer (some ⟨w.heap.size, 0, none⟩) :: .pointer (some ⟨w.heap.size + 1, 0, none⟩) :: .pointer (some ⟨w.heap.size + 2, 0, none⟩) :: z5 :: z6 :: z7 :: z8 :: z9 :: z10 :: z11 :: z12 :: z13 :: z14 :: z15 :: z16 :: z17 :: z18 :: z19 :: z20 :: z21 :: z22 :: z23 :: z24 :: z25 :: z26 :: z27 :: z28 :: z29 :: z30 :: z31 :: z32 :: z33 :: z34 :: z35 :: z36 :: z37 :: z38 :: z39 :: z40 :: z41 :: z42 :: z43 :: z44 :: z45 :: z46 :: z47 :: z48 :: z49 :: z50 :: z51 :: z52 :: z53 :: z54 :: z55 :: z56 :: z57 :: z58 :: z59 :: z60 :: z61 :: z62 :: z63 :: z64 :: z65 :: z66 :: z67 :: z68 :: z69 :: z70 :: z71 :: z72 :: z73 :: z74 :: z75 :: z76 :: z77 :: z78 :: z79 :: z80 :: z81 :: z82 :: z83 :: z84 :: z85 :: z86 :: z87 :: z88 :: z89 :: z90 :: z91 :: z92 :: z93 :: z94 :: z95 :: z96 :: z97 :: z98 :: z99 :: z100 :: z101 :: z102 :: z103 :: z104 :: z105 :: z106 :: z107 :: z108 :: z109 :: z110 :: z111 :: z112 :: z113 :: z114 :: z115 :: z116 :: z117 :: z118 :: z119 :: z120 :: z121 :: z122 :: z123 :: z124 :: z125 :: z126 :: z127 :: z128 :: z129 :: z130 :: z131 :: z132 :: z133 :: z134 :: z135 :: z136 :: z137 :: []).toArray, defers := [] } wr := by
  have hf := hfit
  unfold fit at hf
  rw [Bool.and_eq_true, Bool.and_eq_true] at hf
  obtain ⟨hm, ht1, ht2⟩ := hf
  have hmt := may_times hm
  have HD := Lib.hid (earlyB_D (r := r) (isTime_iff.1 hmt.1).1 (isTime_iff.1 hmt.2.1).1 (isTime_iff.1 ht1).1 (isTime_iff.1 ht2).1)
  have HE := Lib.hid (startD_early (r := r) (isTime_iff.1 hmt.1).1 (isTime_iff.1 hmt.2.1).1)
  have hb1a := (isTime_iff.1 ht1).1
  have hb1b := (isTime_iff.1 ht1).2
  have hb2a := (isTime_iff.1 ht2).1
  have hb2b := (isTime_iff.1 ht2).2
  have ht0a := (isTime_iff.1 hmt.2.2).1
  have ht0b := (isTime_iff.1 hmt.2.2).2
  clear hm ht1 ht2 hmt
  have HFIT := Lib.hid hfit
  clear hfit
  have hnf := h.nfor
  have hnm := h.nmay
  have hfor := h.for_
  have hmay := h.may
  have hrb : ∀ W, Below w.heap.size w W → RuAt W r (.slice A1 r.by_.length k1) (.slice A2 r.need.length k2) u3 := fun W hW => hr.below hW
  have hs := hs0
  have HJ := HJ0
  clear hs0 HJ0
  conv => arg 2; whnf
  apply wp_seq_k
  intro K1 hK1
  go_cut [] (fun wx => Hid (judge0 c r = judge5 c r) ∧ JSt w c r (.slice A4 c.for_.length k4) (.slice A5 c.may_.length k5) (.slice A1 r.by_.length k1) (.slice A2 r.need.length k2) u3 g wx)
  case rest =>
    obtain ⟨HJ2, hs2⟩ := hcut
    go_step
    exact refJudge_tail5 c r A1 A2 A4 A5 k1 k2 k4 k5 u3 w wc g v1 h hr HFIT.out HJ2 hs2 _ _ _ _ _ _ _ _ _ _ _ _ _ _ _ _ _ _ _ _ _ _ _ _ _ _ _ _ _ _ _ _ _ _ _ _ _ _ _ _ _ _ _ _ _ _ _ _ _ _ _ _ _ _ _ _ _ _ _ _ _ _ _ _ _ _ _ _ _ _ _ _ _ _ _ _ _ _ _ _ _ _ _ _ _ _ _ _ _ _ _ _ _ _ _ _ _ _ _ _ _ _ _ _ _ _ _ _ _ _ _ _ _ _ _ _ _ _ _ _ _ _ _ _ _ _ _ _ _ _ _ _ _ _ _
  have HFOR := Lib.hid (And.intro h hr)
  clear h hr
  have HO : Hid (overB c r = (is c 7 && decide (c.until_ + r.slack ≤ r.now))) := Lib.hid rfl
  obtain ⟨d0, d1, d2, d3, d4, d5, d6, d7, d8, d9, d10, d11, d12, d13, d14, d15, d16, d17, d18, d19, d20, d21, d22, d23, d24, d25, d26, d27, d28, d29, d30, d31⟩ := C32 hs.mC
  obtain ⟨f0, f1, f2, f3, f4, f5⟩ := C6 hs.mR
  clear d0 d5 d6 d8 d9 d11 d12 d13 d14 d15 d16 d18 d19 d21 d22 d24 d25 d26 d28 d29 d31
  rcases Bool.eq_false_or_eq_true (is c 7) with h7 | h7
  ·
    rw [h7] at d7
    by_cases hy : c.until_ + r.slack ≤ r.now
    · have hO : overB c r = true := by rw [HO.out, h7, decide_eq_true hy]; rfl
      have HV : Hid (judge0 c r = ⟨3, c.until_, [], []⟩) := Lib.hid (by rw [HJ.out, judge4, if_pos hO])
      clear hO h7
      obtain ⟨y0, y1, y2, y3⟩ := C4 hs.mV
      have yf := fun i => hs.mV.frozen i
      have hbel : ∀ a b c d : Value, Below w.heap.size w ((((wr.setCell ⟨w.heap.size + 2, 0, none⟩ a).setCell ⟨w.heap.size + 2, 1, none⟩ b).setCell ⟨w.heap.size + 2, 2, none⟩ c).setCell ⟨w.heap.size + 2, 3, none⟩ d) := fun a b c d => (((hs.bel.setCell (by show w.heap.size ≤ w.heap.size + 2; omega) _).setCell (by show w.heap.size ≤ w.heap.size + 2; omega) _).setCell (by show w.heap.size ≤ w.heap.size + 2; omega) _).setCell (by show w.heap.size ≤ w.heap.size + 2; omega) _
      go_wp2
      refine bodyPost_ret (v := .agg #[.int .i64 3, .int .i64 c.until_, .string ⟨#[]⟩, .slice none 0 0]) (by simp [results, Tryz.results13, go_sem, y0, y1, y2, y3]) rfl ⟨_, rfl, ?_, hbel _ _ _ _⟩
      rw [HV.out]
      exact ⟨_, rfl, rd_nil _⟩
    · have hO : overB c r = false := by rw [HO.out, h7, decide_eq_false hy]; rfl
      have HJ2 : Hid (judge0 c r = judge5 c r) := Lib.hid (by rw [HJ.out, judge4, if_neg (by rw [hO]; decide)])
      clear hO HJ h7
      go_wp2_with fail
      go_meet
      exact ⟨HJ2, hs⟩
  ·
    rw [h7] at d7
    have hO : overB c r = false := by rw [HO.out, h7]; rfl
    have HJ2 : Hid (judge0 c r = judge5 c r) := Lib.hid (by rw [HJ.out, judge4, if_neg (by rw [hO]; decide)])
    clear hO HJ h7
    go_wp2_with fail
    go_meet
    exact ⟨HJ2, hs⟩

end Go.Proofs.YtnondmeafilplaaGreatDoor
