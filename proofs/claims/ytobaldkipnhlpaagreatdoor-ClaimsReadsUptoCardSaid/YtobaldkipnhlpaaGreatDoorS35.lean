/-
  Judge of the reference of layer 25: what is barred; what holds (printed by wip/gen_cls.py).
  Judge of the reference of layer 25: what is over (printed by wip/gen_cls.py).
  Judge of the reference of layer 25: what is early (printed by wip/gen_cls.py).
  Judge of the reference of layer 25: who (printed by wip/gen_cls.py).
-/
import Derived.Test.YtobaldkipnhlpaaGreatDoorS34
set_option linter.unusedVariables false
set_option linter.unusedSimpArgs false
set_option maxRecDepth 100000
set_option maxHeartbeats 16000000
namespace Go.Proofs.YtobaldkipnhlpaaGreatDoor
open Go.RowKit Mem Utf Ref3 Tok Cl

theorem refJudge_tail5f (c : C) (r : R) (A1 A2 A4 A5 : Option Addr) (k1 k2 k4 k5 : Nat) (u3 : Value) (w wr : World) (g : Nat)
  (v1 : Value) (h : ClAt w c v1 (.slice A4 c.for_.length k4) (.slice A5 c.may_.length k5)) (hr : RuAt w r (.slice A1 r.by_.length k1) (.slice A2 r.need.length k2) u3) (hfit : fit c r = true) (h7 : is c 7 = false)
  (HJ0 : Hid (judge0 c r = judge5 c r)) (hs0 : JSt w c r (.slice A4 c.for_.length k4) (.slice A5 c.may_.length k5) (.slice A1 r.by_.length k1) (.slice A2 r.need.length k2) u3 g wr) (z0 z1 z5 z6 z7 z8 z9 z10 z11 z12 z13 z14 z15 z16 z17 z18 z19 z20 z21 z22 z23 z24 z25 z26 z27 z28 z29 z30 z31 z32 z33 z34 z35 z36 z37 z38 z39 z40 z41 z42 z43 z44 z45 z46 z47 z48 z49 z50 z51 z52 z53 z54 z55 z56 z57 z58 z59 z60 z61 z62 z63 z64 z65 z66 z67 z68 z69 z70 z71 z72 z73 z74 z75 z76 z77 z78 z79 z80 z81 z82 z83 z84 z85 z86 z87 z88 z89 z90 z91 z92 z93 z94 z95 z96 z97 z98 z99 z100 z101 z102 z103 z104 z105 z106 z107 z108 z109 z110 z111 z112 z113 z114 z115 z116 z117 z118 z119 z120 z121 z122 z123 z124 z125 z126 z127 z128 z129 z130 z131 z132 z133 z134 z135 z136 z137 : Value) :
  Code.wp Tryz.prog refJTail5 (bodyPost Tryz.prog Tryz.f18 (RefJudgeP c r w)) { tmps := (z0 :: z1 :: .pointer (some ⟨w.heap.size, 0, none⟩) :: .pointer (some ⟨w.heap.size + 1, 0, none⟩) :: .pointer (some ⟨w.heap.size + 2, 0, none⟩) :: z5 :: z6 :: z7 :: z8 :: z9 :: z10 :: z11 :: z12 :: z13 :: z14 :: z15 :: z16 :: z17 :: z18 :: z19 :: z20 :: z21 :: z22 :: z23 :: z24 :: z25 :: z26 :: z27 :: z28 :: z29 :: z30 :: z31 :: z32 :: z33 :: z34 :: z35 :: z36 :: z37 :: z38 :: z39 :: z40 :: z41 :: z42 :: z43 :: z44 :: z45 :: z46 :: z47 :: z48 :: z49 :: z50 :: z51 :: z52 :: z53 :: z54 :: z55 :: z56 :: z57 :: z58 :: z59 :: z60 :: z61 :: z62 :: z63 :: z64 :: z65 :: z66 :: z67 :: z68 :: z69 :: z70 :: z71 :: z72 :: z73 :: z74 :: z75 :: z76 :: z77 :: z78 :: z79 :: z80 :: z81 :: z82 :: z83 :: z84 :: z85 :: z86 :: z87 :: z88 :: z89 :: z90 :: z91 :: z92 :: z93 :: z94 :: z95 :: z96 :: z97 :: z98 :: z99 :: z100 :: z101 :: z102 :: z103 :: z104 :: z105 :: z106 :: z107 :: z108 :: z109 :: z110 :: z111 :: z112 :: z113 :: z114 :: z115 :: z116 :: z117 :: z118 :: z119 :: z120 :: z121 :: z122 :: z123 :: z124 :: z125 :: z126 :: z127 :: z128 :: z129 :: z130 :: z131 :: z132 :: z133 :: z134 :: z135 :: z136 :: z137 :: []).toArray, defers := [] } wr := by
 have HFIT := Lib.hid hfit
 clear hfit
 have hnf := h.nfor
 have hnm := h.nmay
 have hfor := h.for_
 have hmay := h.may
 have hrb : ∀ W, Below w.heap.size w W → RuAt W r (.slice A1 r.by_.length k1) (.slice A2 r.need.length k2) u3 := fun W hW => hr.below hW
 have hs := hs0
 have HJ := HJ0
 clear hs0 HJ0
 conv => arg 2; whnf
 have HFOR := Lib.hid (And.intro h hr)
 clear h hr
 have H5 : Hid (judge5 c r = if (lackF c.may_ [] r.may_).isEmpty = true then ⟨1, if is c 7 = true then c.until_ else -1, [], []⟩ else ⟨7, 0, [], lackF c.may_ [] r.may_⟩) := Lib.hid rfl
 replace HJ : Hid (judge0 c r = if (lackF c.may_ [] r.may_).isEmpty = true then ⟨1, -1, [], []⟩ else ⟨7, 0, [], lackF c.may_ [] r.may_⟩) := Lib.hid (by rw [HJ.out, H5.out, h7]; rfl)
 have H7 := Lib.hid h7
 clear h7 H5
 obtain ⟨d0, d1, d2, d3, d4, d5, d6, d7, d8, d9, d10, d11, d12, d13, d14, d15, d16, d17, d18, d19, d20, d21, d22, d23, d24, d25, d26, d27, d28, d29, d30, d31⟩ := C32 hs.mC
 obtain ⟨f0, f1, f2, f3, f4, f5⟩ := C6 hs.mR
 clear d0 d5 d6 d8 d9 d11 d12 d13 d14 d15 d16 d18 d19 d21 d22 d24 d25 d26 d28 d29 d31
 go_wp2_with fail
 refine (refLacking_any u3 (.slice A5 c.may_.length k5) r.may_ c.may_ _ (hrb _ hs.bel).may (hmay.below hs.bel) (hrb _ hs.bel).nmay hnm).mono ?_
 rintro e w9 ⟨⟨y, rfl, hown⟩, hb9⟩
 have hVl := hs.mV.lt
 replace hs := hs.below hb9
 clear hb9 d1 d2 d3 d4 d7 d10 d17 d20 d23 d27 d30 f0 f1 f2 f3 f4 f5
 generalize lackF c.may_ [] r.may_ = q at *
 obtain ⟨A9, c9, rfl⟩ := own_sliceP hown
 cases q with
 | nil =>
  simp only [List.length_nil] at hown ⊢
  have HV : Hid (judge0 c r = ⟨1, -1, [], []⟩) := Lib.hid (by rw [HJ.out]; rfl)
  clear hown
  obtain ⟨d0, d1, d2, d3, d4, d5, d6, d7, d8, d9, d10, d11, d12, d13, d14, d15, d16, d17, d18, d19, d20, d21, d22, d23, d24, d25, d26, d27, d28, d29, d30, d31⟩ := C32 hs.mC
  obtain ⟨f0, f1, f2, f3, f4, f5⟩ := C6 hs.mR
  clear d0 d5 d6 d8 d9 d11 d12 d13 d14 d15 d16 d18 d19 d21 d22 d24 d25 d26 d28 d29 d31
  rw [H7.out] at d7
  obtain ⟨y0, y1, y2, y3⟩ := C4 hs.mV
  have yf := fun i => hs.mV.frozen i
  have hbel : ∀ a b c d : Value, Below w.heap.size w ((((w9.setCell ⟨w.heap.size + 2, 0, none⟩ a).setCell ⟨w.heap.size + 2, 1, none⟩ b).setCell ⟨w.heap.size + 2, 2, none⟩ c).setCell ⟨w.heap.size + 2, 3, none⟩ d) := fun a b c d => (((hs.bel.setCell (by show w.heap.size ≤ w.heap.size + 2; omega) _).setCell (by show w.heap.size ≤ w.heap.size + 2; omega) _).setCell (by show w.heap.size ≤ w.heap.size + 2; omega) _).setCell (by show w.heap.size ≤ w.heap.size + 2; omega) _
  go_wp2
  refine bodyPost_ret (v := .agg #[.int .i64 1, .int .i64 (-1), .string ⟨#[]⟩, .slice none 0 0]) (by simp [results, Tryz.results18, go_sem, y0, y1, y2, y3]) rfl ⟨_, rfl, ?_, hbel _ _ _ _⟩
  rw [HV.out]
  exact ⟨_, rfl, rd_nil _⟩
 | cons x q =>
  have HV : Hid (judge0 c r = ⟨7, 0, [], x :: q⟩) := Lib.hid (by rw [HJ.out]; rfl)
  have hz0 : (0 : Int) < ((x :: q).length : Int) := by rw [List.length_cons]; omega
  have hz2 : decide (0 < (x :: q).length) = true := by simp
  generalize x :: q = z at *
  obtain ⟨d0, d1, d2, d3, d4, d5, d6, d7, d8, d9, d10, d11, d12, d13, d14, d15, d16, d17, d18, d19, d20, d21, d22, d23, d24, d25, d26, d27, d28, d29, d30, d31⟩ := C32 hs.mC
  obtain ⟨f0, f1, f2, f3, f4, f5⟩ := C6 hs.mR
  clear d0 d5 d6 d8 d9 d11 d12 d13 d14 d15 d16 d18 d19 d21 d22 d24 d25 d26 d28 d29 d31
  obtain ⟨y0, y1, y2, y3⟩ := C4 hs.mV
  have yf := fun i => hs.mV.frozen i
  have hbel : ∀ a b c d : Value, Below w.heap.size w ((((w9.setCell ⟨w.heap.size + 2, 0, none⟩ a).setCell ⟨w.heap.size + 2, 1, none⟩ b).setCell ⟨w.heap.size + 2, 2, none⟩ c).setCell ⟨w.heap.size + 2, 3, none⟩ d) := fun a b c d => (((hs.bel.setCell (by show w.heap.size ≤ w.heap.size + 2; omega) _).setCell (by show w.heap.size ≤ w.heap.size + 2; omega) _).setCell (by show w.heap.size ≤ w.heap.size + 2; omega) _).setCell (by show w.heap.size ≤ w.heap.size + 2; omega) _
  go_wp2
  refine bodyPost_ret (v := .agg #[.int .i64 7, .int .i64 0, .string ⟨#[]⟩, .slice A9 z.length c9]) (by simp [results, Tryz.results18, go_sem, y0, y1, y2, y3]) rfl ⟨_, rfl, ?_, hbel _ _ _ _⟩
  rw [HV.out]
  exact ⟨_, rfl, Rd.of_own (ownsRow_setCell_below (ownsRow_setCell_below (ownsRow_setCell_below (ownsRow_setCell_below hown hVl _) hVl _) hVl _) hVl _)⟩

end Go.Proofs.YtobaldkipnhlpaaGreatDoor
namespace Go.Proofs.YtobaldkipnhlpaaGreatDoor
open Go.RowKit Mem Utf Ref3 Tok Cl

theorem refJudge_tail5 (c : C) (r : R) (A1 A2 A4 A5 : Option Addr) (k1 k2 k4 k5 : Nat) (u3 : Value) (w wr : World) (g : Nat)
  (v1 : Value) (h : ClAt w c v1 (.slice A4 c.for_.length k4) (.slice A5 c.may_.length k5)) (hr : RuAt w r (.slice A1 r.by_.length k1) (.slice A2 r.need.length k2) u3) (hfit : fit c r = true)
  (HJ0 : Hid (judge0 c r = judge5 c r)) (hs0 : JSt w c r (.slice A4 c.for_.length k4) (.slice A5 c.may_.length k5) (.slice A1 r.by_.length k1) (.slice A2 r.need.length k2) u3 g wr) (z0 z1 z5 z6 z7 z8 z9 z10 z11 z12 z13 z14 z15 z16 z17 z18 z19 z20 z21 z22 z23 z24 z25 z26 z27 z28 z29 z30 z31 z32 z33 z34 z35 z36 z37 z38 z39 z40 z41 z42 z43 z44 z45 z46 z47 z48 z49 z50 z51 z52 z53 z54 z55 z56 z57 z58 z59 z60 z61 z62 z63 z64 z65 z66 z67 z68 z69 z70 z71 z72 z73 z74 z75 z76 z77 z78 z79 z80 z81 z82 z83 z84 z85 z86 z87 z88 z89 z90 z91 z92 z93 z94 z95 z96 z97 z98 z99 z100 z101 z102 z103 z104 z105 z106 z107 z108 z109 z110 z111 z112 z113 z114 z115 z116 z117 z118 z119 z120 z121 z122 z123 z124 z125 z126 z127 z128 z129 z130 z131 z132 z133 z134 z135 z136 z137 : Value) :
  Code.wp Tryz.prog refJTail5 (bodyPost Tryz.prog Tryz.f18 (RefJudgeP c r w)) { tmps := (z0 :: z1 :: .pointer (some ⟨w.heap.size, 0, none⟩) :: .pointer (some ⟨w.heap.size + 1, 0, none⟩) :: .pointer (some ⟨w.heap.size + 2, 0, none⟩) :: z5 :: z6 :: z7 :: z8 :: z9 :: z10 :: z11 :: z12 :: z13 :: z14 :: z15 :: z16 :: z17 :: z18 :: z19 :: z20 :: z21 :: z22 :: z23 :: z24 :: z25 :: z26 :: z27 :: z28 :: z29 :: z30 :: z31 :: z32 :: z33 :: z34 :: z35 :: z36 :: z37 :: z38 :: z39 :: z40 :: z41 :: z42 :: z43 :: z44 :: z45 :: z46 :: z47 :: z48 :: z49 :: z50 :: z51 :: z52 :: z53 :: z54 :: z55 :: z56 :: z57 :: z58 :: z59 :: z60 :: z61 :: z62 :: z63 :: z64 :: z65 :: z66 :: z67 :: z68 :: z69 :: z70 :: z71 :: z72 :: z73 :: z74 :: z75 :: z76 :: z77 :: z78 :: z79 :: z80 :: z81 :: z82 :: z83 :: z84 :: z85 :: z86 :: z87 :: z88 :: z89 :: z90 :: z91 :: z92 :: z93 :: z94 :: z95 :: z96 :: z97 :: z98 :: z99 :: z100 :: z101 :: z102 :: z103 :: z104 :: z105 :: z106 :: z107 :: z108 :: z109 :: z110 :: z111 :: z112 :: z113 :: z114 :: z115 :: z116 :: z117 :: z118 :: z119 :: z120 :: z121 :: z122 :: z123 :: z124 :: z125 :: z126 :: z127 :: z128 :: z129 :: z130 :: z131 :: z132 :: z133 :: z134 :: z135 :: z136 :: z137 :: []).toArray, defers := [] } wr := by
 rcases Bool.eq_false_or_eq_true (is c 7) with h7 | h7
 ·exact refJudge_tail5t c r A1 A2 A4 A5 k1 k2 k4 k5 u3 w wr g v1 h hr hfit h7 HJ0 hs0 _ _ _ _ _ _ _ _ _ _ _ _ _ _ _ _ _ _ _ _ _ _ _ _ _ _ _ _ _ _ _ _ _ _ _ _ _ _ _ _ _ _ _ _ _ _ _ _ _ _ _ _ _ _ _ _ _ _ _ _ _ _ _ _ _ _ _ _ _ _ _ _ _ _ _ _ _ _ _ _ _ _ _ _ _ _ _ _ _ _ _ _ _ _ _ _ _ _ _ _ _ _ _ _ _ _ _ _ _ _ _ _ _ _ _ _ _ _ _ _ _ _ _ _ _ _ _ _ _ _ _ _ _ _ _
 ·exact refJudge_tail5f c r A1 A2 A4 A5 k1 k2 k4 k5 u3 w wr g v1 h hr hfit h7 HJ0 hs0 _ _ _ _ _ _ _ _ _ _ _ _ _ _ _ _ _ _ _ _ _ _ _ _ _ _ _ _ _ _ _ _ _ _ _ _ _ _ _ _ _ _ _ _ _ _ _ _ _ _ _ _ _ _ _ _ _ _ _ _ _ _ _ _ _ _ _ _ _ _ _ _ _ _ _ _ _ _ _ _ _ _ _ _ _ _ _ _ _ _ _ _ _ _ _ _ _ _ _ _ _ _ _ _ _ _ _ _ _ _ _ _ _ _ _ _ _ _ _ _ _ _ _ _ _ _ _ _ _ _ _ _ _ _ _

theorem refJudge_tail4 (c : C) (r : R) (A1 A2 A4 A5 : Option Addr) (k1 k2 k4 k5 : Nat) (u3 : Value) (w wr : World) (g : Nat)
  (v1 : Value) (h : ClAt w c v1 (.slice A4 c.for_.length k4) (.slice A5 c.may_.length k5)) (hr : RuAt w r (.slice A1 r.by_.length k1) (.slice A2 r.need.length k2) u3) (hfit : fit c r = true)
  (HJ0 : Hid (judge0 c r = judge4 c r)) (hs0 : JSt w c r (.slice A4 c.for_.length k4) (.slice A5 c.may_.length k5) (.slice A1 r.by_.length k1) (.slice A2 r.need.length k2) u3 g wr) (z0 z1 z5 z6 z7 z8 z9 z10 z11 z12 z13 z14 z15 z16 z17 z18 z19 z20 z21 z22 z23 z24 z25 z26 z27 z28 z29 z30 z31 z32 z33 z34 z35 z36 z37 z38 z39 z40 z41 z42 z43 z44 z45 z46 z47 z48 z49 z50 z51 z52 z53 z54 z55 z56 z57 z58 z59 z60 z61 z62 z63 z64 z65 z66 z67 z68 z69 z70 z71 z72 z73 z74 z75 z76 z77 z78 z79 z80 z81 z82 z83 z84 z85 z86 z87 z88 z89 z90 z91 z92 z93 z94 z95 z96 z97 z98 z99 z100 z101 z102 z103 z104 z105 z106 z107 z108 z109 z110 z111 z112 z113 z114 z115 z116 z117 z118 z119 z120 z121 z122 z123 z124 z125 z126 z127 z128 z129 z130 z131 z132 z133 z134 z135 z136 z137 : Value) :
  Code.wp Tryz.prog refJTail4 (bodyPost Tryz.prog Tryz.f18 (RefJudgeP c r w)) { tmps := (z0 :: z1 :: .pointer (some ⟨w.heap.size, 0, none⟩) :: .pointer (some ⟨w.heap.size + 1, 0, none⟩) :: .pointer (some ⟨w.heap.size + 2, 0, none⟩) :: z5 :: z6 :: z7 :: z8 :: z9 :: z10 :: z11 :: z12 :: z13 :: z14 :: z15 :: z16 :: z17 :: z18 :: z19 :: z20 :: z21 :: z22 :: z23 :: z24 :: z25 :: z26 :: z27 :: z28 :: z29 :: z30 :: z31 :: z32 :: z33 :: z34 :: z35 :: z36 :: z37 :: z38 :: z39 :: z40 :: z41 :: z42 :: z43 :: z44 :: z45 :: z46 :: z47 :: z48 :: z49 :: z50 :: z51 :: z52 :: z53 :: z54 :: z55 :: z56 :: z57 :: z58 :: z59 :: z60 :: z61 :: z62 :: z63 :: z64 :: z65 :: z66 :: z67 :: z68 :: z69 :: z70 :: z71 :: z72 :: z73 :: z74 :: z75 :: z76 :: z77 :: z78 :: z79 :: z80 :: z81 :: z82 :: z83 :: z84 :: z85 :: z86 :: z87 :: z88 :: z89 :: z90 :: z91 :: z92 :: z93 :: z94 :: z95 :: z96 :: z97 :: z98 :: z99 :: z100 :: z101 :: z102 :: z103 :: z104 :: z105 :: z106 :: z107 :: z108 :: z109 :: z110 :: z111 :: z112 :: z113 :: z114 :: z115 :: z116 :: z117 :: z118 :: z119 :: z120 :: z121 :: z122 :: z123 :: z124 :: z125 :: z126 :: z127 :: z128 :: z129 :: z130 :: z131 :: z132 :: z133 :: z134 :: z135 :: z136 :: z137 :: []).toArray, defers := [] } wr := by
 have hf := hfit
 unfold fit at hf
 rw [Bool.and_eq_true, Bool.and_eq_true] at hf
 obtain ⟨hm, ht1, ht2⟩ := hf
 have hmt := may_times hm
 have HD := Lib.hid (earlyB_D (r := r) (isTime_iff.1 hmt.1).1 (isTime_iff.1 hmt.2.1).1 (isTime_iff.1 ht1).1 (isTime_iff.1 ht2).1)
 have HE := Lib.hid (startD_early (r := r) (isTime_iff.1 hmt.1).1 (isTime_iff.1 hmt.2.1).1)
 have hb1a := (isTime_iff.1 ht1).1
 have hb1b := (isTime_iff.1 ht1).2
 have hb2a := (isTime_iff.1 ht2).1
 have hb2b := (isTime_iff.1 ht2).2
 have ht0a := (isTime_iff.1 hmt.2.2).1
 have ht0b := (isTime_iff.1 hmt.2.2).2
 clear hm ht1 ht2 hmt
 have HFIT := Lib.hid hfit
 clear hfit
 have hnf := h.nfor
 have hnm := h.nmay
 have hfor := h.for_
 have hmay := h.may
 have hrb : ∀ W, Below w.heap.size w W → RuAt W r (.slice A1 r.by_.length k1) (.slice A2 r.need.length k2) u3 := fun W hW => hr.below hW
 have hs := hs0
 have HJ := HJ0
 clear hs0 HJ0
 conv => arg 2; whnf
 apply wp_seq_k
 intro K1 hK1
 go_cut [] (fun wx => Hid (judge0 c r = judge5 c r) ∧ JSt w c r (.slice A4 c.for_.length k4) (.slice A5 c.may_.length k5) (.slice A1 r.by_.length k1) (.slice A2 r.need.length k2) u3 g wx)
 case rest =>
  obtain ⟨HJ2, hs2⟩ := hcut
  go_step
  exact refJudge_tail5 c r A1 A2 A4 A5 k1 k2 k4 k5 u3 w wc g v1 h hr HFIT.out HJ2 hs2 _ _ _ _ _ _ _ _ _ _ _ _ _ _ _ _ _ _ _ _ _ _ _ _ _ _ _ _ _ _ _ _ _ _ _ _ _ _ _ _ _ _ _ _ _ _ _ _ _ _ _ _ _ _ _ _ _ _ _ _ _ _ _ _ _ _ _ _ _ _ _ _ _ _ _ _ _ _ _ _ _ _ _ _ _ _ _ _ _ _ _ _ _ _ _ _ _ _ _ _ _ _ _ _ _ _ _ _ _ _ _ _ _ _ _ _ _ _ _ _ _ _ _ _ _ _ _ _ _ _ _ _ _ _ _
 have HFOR := Lib.hid (And.intro h hr)
 clear h hr
 have HO : Hid (overB c r = (is c 7 && decide (c.until_ + r.slack ≤ r.now))) := Lib.hid rfl
 obtain ⟨d0, d1, d2, d3, d4, d5, d6, d7, d8, d9, d10, d11, d12, d13, d14, d15, d16, d17, d18, d19, d20, d21, d22, d23, d24, d25, d26, d27, d28, d29, d30, d31⟩ := C32 hs.mC
 obtain ⟨f0, f1, f2, f3, f4, f5⟩ := C6 hs.mR
 clear d0 d5 d6 d8 d9 d11 d12 d13 d14 d15 d16 d18 d19 d21 d22 d24 d25 d26 d28 d29 d31
 rcases Bool.eq_false_or_eq_true (is c 7) with h7 | h7
 ·
  rw [h7] at d7
  by_cases hy : c.until_ + r.slack ≤ r.now
  ·have hO : overB c r = true := by rw [HO.out, h7, decide_eq_true hy]; rfl
   have HV : Hid (judge0 c r = ⟨3, c.until_, [], []⟩) := Lib.hid (by rw [HJ.out, judge4, if_pos hO])
   clear hO h7
   obtain ⟨y0, y1, y2, y3⟩ := C4 hs.mV
   have yf := fun i => hs.mV.frozen i
   have hbel : ∀ a b c d : Value, Below w.heap.size w ((((wr.setCell ⟨w.heap.size + 2, 0, none⟩ a).setCell ⟨w.heap.size + 2, 1, none⟩ b).setCell ⟨w.heap.size + 2, 2, none⟩ c).setCell ⟨w.heap.size + 2, 3, none⟩ d) := fun a b c d => (((hs.bel.setCell (by show w.heap.size ≤ w.heap.size + 2; omega) _).setCell (by show w.heap.size ≤ w.heap.size + 2; omega) _).setCell (by show w.heap.size ≤ w.heap.size + 2; omega) _).setCell (by show w.heap.size ≤ w.heap.size + 2; omega) _
   go_wp2
   refine bodyPost_ret (v := .agg #[.int .i64 3, .int .i64 c.until_, .string ⟨#[]⟩, .slice none 0 0]) (by simp [results, Tryz.results18, go_sem, y0, y1, y2, y3]) rfl ⟨_, rfl, ?_, hbel _ _ _ _⟩
   rw [HV.out]
   exact ⟨_, rfl, rd_nil _⟩
  ·have hO : overB c r = false := by rw [HO.out, h7, decide_eq_false hy]; rfl
   have HJ2 : Hid (judge0 c r = judge5 c r) := Lib.hid (by rw [HJ.out, judge4, if_neg (by rw [hO]; decide)])
   clear hO HJ h7
   go_wp2_with fail
   go_meet
   exact ⟨HJ2, hs⟩
 ·
  rw [h7] at d7
  have hO : overB c r = false := by rw [HO.out, h7]; rfl
  have HJ2 : Hid (judge0 c r = judge5 c r) := Lib.hid (by rw [HJ.out, judge4, if_neg (by rw [hO]; decide)])
  clear hO HJ h7
  go_wp2_with fail
  go_meet
  exact ⟨HJ2, hs⟩

end Go.Proofs.YtobaldkipnhlpaaGreatDoor
namespace Go.Proofs.YtobaldkipnhlpaaGreatDoor
open Go.RowKit Mem Utf Ref3 Tok Cl

theorem refJudge_tail3b (c : C) (r : R) (A1 A2 A4 A5 : Option Addr) (k1 k2 k4 k5 : Nat) (u3 : Value) (w wr : World) (g : Nat)
  (v1 : Value) (h : ClAt w c v1 (.slice A4 c.for_.length k4) (.slice A5 c.may_.length k5)) (hr : RuAt w r (.slice A1 r.by_.length k1) (.slice A2 r.need.length k2) u3) (hfit : fit c r = true)
  (HJ0 : Hid (judge0 c r = judge3 c r)) (hs0 : JSt w c r (.slice A4 c.for_.length k4) (.slice A5 c.may_.length k5) (.slice A1 r.by_.length k1) (.slice A2 r.need.length k2) u3 g wr) (z0 z1 z5 z6 z7 z8 z10 z11 z12 z13 z14 z15 z16 z17 z18 z19 z20 z21 z22 z23 z24 z25 z26 z27 z28 z29 z30 z31 z32 z33 z34 z35 z36 z37 z38 z39 z40 z41 z42 z43 z44 z45 z46 z47 z48 z49 z50 z51 z52 z53 z54 z55 z56 z57 z58 z59 z60 z61 z62 z63 z64 z65 z66 z67 z68 z69 z70 z71 z72 z73 z74 z75 z76 z77 z78 z79 z80 z81 z82 z83 z84 z85 z86 z87 z88 z89 z90 z91 z92 z93 z94 z95 z96 z97 z98 z99 z100 z101 z102 z103 z104 z105 z106 z107 z108 z109 z110 z111 z112 z113 z114 z115 z116 z117 z118 z119 z120 z121 z122 z123 z124 z125 z126 z127 z128 z129 z130 z131 z132 z133 z134 z135 z136 z137 : Value) :
  Code.wp Tryz.prog refJTail3b (bodyPost Tryz.prog Tryz.f18 (RefJudgeP c r w)) { tmps := (z0 :: z1 :: .pointer (some ⟨w.heap.size, 0, none⟩) :: .pointer (some ⟨w.heap.size + 1, 0, none⟩) :: .pointer (some ⟨w.heap.size + 2, 0, none⟩) :: z5 :: z6 :: z7 :: z8 :: .int .i64 (startD c) :: z10 :: z11 :: z12 :: z13 :: z14 :: z15 :: z16 :: z17 :: z18 :: z19 :: z20 :: z21 :: z22 :: z23 :: z24 :: z25 :: z26 :: z27 :: z28 :: z29 :: z30 :: z31 :: z32 :: z33 :: z34 :: z35 :: z36 :: z37 :: z38 :: z39 :: z40 :: z41 :: z42 :: z43 :: z44 :: z45 :: z46 :: z47 :: z48 :: z49 :: z50 :: z51 :: z52 :: z53 :: z54 :: z55 :: z56 :: z57 :: z58 :: z59 :: z60 :: z61 :: z62 :: z63 :: z64 :: z65 :: z66 :: z67 :: z68 :: z69 :: z70 :: z71 :: z72 :: z73 :: z74 :: z75 :: z76 :: z77 :: z78 :: z79 :: z80 :: z81 :: z82 :: z83 :: z84 :: z85 :: z86 :: z87 :: z88 :: z89 :: z90 :: z91 :: z92 :: z93 :: z94 :: z95 :: z96 :: z97 :: z98 :: z99 :: z100 :: z101 :: z102 :: z103 :: z104 :: z105 :: z106 :: z107 :: z108 :: z109 :: z110 :: z111 :: z112 :: z113 :: z114 :: z115 :: z116 :: z117 :: z118 :: z119 :: z120 :: z121 :: z122 :: z123 :: z124 :: z125 :: z126 :: z127 :: z128 :: z129 :: z130 :: z131 :: z132 :: z133 :: z134 :: z135 :: z136 :: z137 :: []).toArray, defers := [] } wr := by
 have hf := hfit
 unfold fit at hf
 rw [Bool.and_eq_true, Bool.and_eq_true] at hf
 obtain ⟨hm, ht1, ht2⟩ := hf
 have hmt := may_times hm
 have HD := Lib.hid (earlyB_D (r := r) (isTime_iff.1 hmt.1).1 (isTime_iff.1 hmt.2.1).1 (isTime_iff.1 ht1).1 (isTime_iff.1 ht2).1)
 have HE := Lib.hid (startD_early (r := r) (isTime_iff.1 hmt.1).1 (isTime_iff.1 hmt.2.1).1)
 have hb1a := (isTime_iff.1 ht1).1
 have hb1b := (isTime_iff.1 ht1).2
 have hb2a := (isTime_iff.1 ht2).1
 have hb2b := (isTime_iff.1 ht2).2
 have ht0a := (isTime_iff.1 hmt.2.2).1
 have ht0b := (isTime_iff.1 hmt.2.2).2
 clear hm ht1 ht2 hmt
 have HFIT := Lib.hid hfit
 clear hfit
 have hnf := h.nfor
 have hnm := h.nmay
 have hfor := h.for_
 have hmay := h.may
 have hrb : ∀ W, Below w.heap.size w W → RuAt W r (.slice A1 r.by_.length k1) (.slice A2 r.need.length k2) u3 := fun W hW => hr.below hW
 have hs := hs0
 have HJ := HJ0
 clear hs0 HJ0
 conv => arg 2; whnf
 apply wp_seq_k
 intro K1 hK1
 go_cut [] (fun wx => Hid (judge0 c r = judge4 c r) ∧ JSt w c r (.slice A4 c.for_.length k4) (.slice A5 c.may_.length k5) (.slice A1 r.by_.length k1) (.slice A2 r.need.length k2) u3 g wx)
 case rest =>
  obtain ⟨HJ2, hs2⟩ := hcut
  go_step
  exact refJudge_tail4 c r A1 A2 A4 A5 k1 k2 k4 k5 u3 w wc g v1 h hr HFIT.out HJ2 hs2 _ _ _ _ _ _ _ _ _ _ _ _ _ _ _ _ _ _ _ _ _ _ _ _ _ _ _ _ _ _ _ _ _ _ _ _ _ _ _ _ _ _ _ _ _ _ _ _ _ _ _ _ _ _ _ _ _ _ _ _ _ _ _ _ _ _ _ _ _ _ _ _ _ _ _ _ _ _ _ _ _ _ _ _ _ _ _ _ _ _ _ _ _ _ _ _ _ _ _ _ _ _ _ _ _ _ _ _ _ _ _ _ _ _ _ _ _ _ _ _ _ _ _ _ _ _ _ _ _ _ _ _ _ _ _
 have HFOR := Lib.hid (And.intro h hr)
 clear h hr
 by_cases hx : r.now + r.slack < startD c
 ·have hE : earlyB c r = true := by rw [HD.out, decide_eq_true hx]
  have HV : Hid (judge0 c r = ⟨2, startD c, [], []⟩) := Lib.hid (by rw [HJ.out, judge3, if_pos hE, HE.out hE])
  clear hE
  obtain ⟨d0, d1, d2, d3, d4, d5, d6, d7, d8, d9, d10, d11, d12, d13, d14, d15, d16, d17, d18, d19, d20, d21, d22, d23, d24, d25, d26, d27, d28, d29, d30, d31⟩ := C32 hs.mC
  obtain ⟨f0, f1, f2, f3, f4, f5⟩ := C6 hs.mR
  clear d0 d5 d6 d8 d9 d11 d12 d13 d14 d15 d16 d18 d19 d21 d22 d24 d25 d26 d28 d29 d31
  obtain ⟨y0, y1, y2, y3⟩ := C4 hs.mV
  have yf := fun i => hs.mV.frozen i
  have hbel : ∀ a b c d : Value, Below w.heap.size w ((((wr.setCell ⟨w.heap.size + 2, 0, none⟩ a).setCell ⟨w.heap.size + 2, 1, none⟩ b).setCell ⟨w.heap.size + 2, 2, none⟩ c).setCell ⟨w.heap.size + 2, 3, none⟩ d) := fun a b c d => (((hs.bel.setCell (by show w.heap.size ≤ w.heap.size + 2; omega) _).setCell (by show w.heap.size ≤ w.heap.size + 2; omega) _).setCell (by show w.heap.size ≤ w.heap.size + 2; omega) _).setCell (by show w.heap.size ≤ w.heap.size + 2; omega) _
  go_wp2
  refine bodyPost_ret (v := .agg #[.int .i64 2, .int .i64 (startD c), .string ⟨#[]⟩, .slice none 0 0]) (by simp [results, Tryz.results18, go_sem, y0, y1, y2, y3]) rfl ⟨_, rfl, ?_, hbel _ _ _ _⟩
  rw [HV.out]
  exact ⟨_, rfl, rd_nil _⟩
 ·have hE : earlyB c r = false := by rw [HD.out, decide_eq_false hx]
  have HJ2 : Hid (judge0 c r = judge4 c r) := Lib.hid (by rw [HJ.out, judge3, if_neg (by rw [hE]; decide)])
  clear hE HJ
  obtain ⟨d0, d1, d2, d3, d4, d5, d6, d7, d8, d9, d10, d11, d12, d13, d14, d15, d16, d17, d18, d19, d20, d21, d22, d23, d24, d25, d26, d27, d28, d29, d30, d31⟩ := C32 hs.mC
  obtain ⟨f0, f1, f2, f3, f4, f5⟩ := C6 hs.mR
  clear d0 d5 d6 d8 d9 d11 d12 d13 d14 d15 d16 d18 d19 d21 d22 d24 d25 d26 d28 d29 d31
  go_wp2_with fail
  go_meet
  exact ⟨HJ2, hs⟩

theorem refJudge_tail3 (c : C) (r : R) (A1 A2 A4 A5 : Option Addr) (k1 k2 k4 k5 : Nat) (u3 : Value) (w wr : World) (g : Nat)
  (v1 : Value) (h : ClAt w c v1 (.slice A4 c.for_.length k4) (.slice A5 c.may_.length k5)) (hr : RuAt w r (.slice A1 r.by_.length k1) (.slice A2 r.need.length k2) u3) (hfit : fit c r = true)
  (HJ0 : Hid (judge0 c r = judge3 c r)) (hs0 : JSt w c r (.slice A4 c.for_.length k4) (.slice A5 c.may_.length k5) (.slice A1 r.by_.length k1) (.slice A2 r.need.length k2) u3 g wr) (z0 z1 z5 z6 z7 z8 z9 z10 z11 z12 z13 z14 z15 z16 z17 z18 z19 z20 z21 z22 z23 z24 z25 z26 z27 z28 z29 z30 z31 z32 z33 z34 z35 z36 z37 z38 z39 z40 z41 z42 z43 z44 z45 z46 z47 z48 z49 z50 z51 z52 z53 z54 z55 z56 z57 z58 z59 z60 z61 z62 z63 z64 z65 z66 z67 z68 z69 z70 z71 z72 z73 z74 z75 z76 z77 z78 z79 z80 z81 z82 z83 z84 z85 z86 z87 z88 z89 z90 z91 z92 z93 z94 z95 z96 z97 z98 z99 z100 z101 z102 z103 z104 z105 z106 z107 z108 z109 z110 z111 z112 z113 z114 z115 z116 z117 z118 z119 z120 z121 z122 z123 z124 z125 z126 z127 z128 z129 z130 z131 z132 z133 z134 z135 z136 z137 : Value) :
  Code.wp Tryz.prog refJTail3 (bodyPost Tryz.prog Tryz.f18 (RefJudgeP c r w)) { tmps := (z0 :: z1 :: .pointer (some ⟨w.heap.size, 0, none⟩) :: .pointer (some ⟨w.heap.size + 1, 0, none⟩) :: .pointer (some ⟨w.heap.size + 2, 0, none⟩) :: z5 :: z6 :: z7 :: z8 :: z9 :: z10 :: z11 :: z12 :: z13 :: z14 :: z15 :: z16 :: z17 :: z18 :: z19 :: z20 :: z21 :: z22 :: z23 :: z24 :: z25 :: z26 :: z27 :: z28 :: z29 :: z30 :: z31 :: z32 :: z33 :: z34 :: z35 :: z36 :: z37 :: z38 :: z39 :: z40 :: z41 :: z42 :: z43 :: z44 :: z45 :: z46 :: z47 :: z48 :: z49 :: z50 :: z51 :: z52 :: z53 :: z54 :: z55 :: z56 :: z57 :: z58 :: z59 :: z60 :: z61 :: z62 :: z63 :: z64 :: z65 :: z66 :: z67 :: z68 :: z69 :: z70 :: z71 :: z72 :: z73 :: z74 :: z75 :: z76 :: z77 :: z78 :: z79 :: z80 :: z81 :: z82 :: z83 :: z84 :: z85 :: z86 :: z87 :: z88 :: z89 :: z90 :: z91 :: z92 :: z93 :: z94 :: z95 :: z96 :: z97 :: z98 :: z99 :: z100 :: z101 :: z102 :: z103 :: z104 :: z105 :: z106 :: z107 :: z108 :: z109 :: z110 :: z111 :: z112 :: z113 :: z114 :: z115 :: z116 :: z117 :: z118 :: z119 :: z120 :: z121 :: z122 :: z123 :: z124 :: z125 :: z126 :: z127 :: z128 :: z129 :: z130 :: z131 :: z132 :: z133 :: z134 :: z135 :: z136 :: z137 :: []).toArray, defers := [] } wr := by
 have HFIT := Lib.hid hfit
 clear hfit
 have hnf := h.nfor
 have hnm := h.nmay
 have hfor := h.for_
 have hmay := h.may
 have hrb : ∀ W, Below w.heap.size w W → RuAt W r (.slice A1 r.by_.length k1) (.slice A2 r.need.length k2) u3 := fun W hW => hr.below hW
 have hs := hs0
 have HJ := HJ0
 clear hs0 HJ0
 conv => arg 2; whnf
 apply wp_seq_k
 intro K1 hK1
 go_cut [9] (fun c9 wx => c9 = .int .i64 (startD c) ∧ JSt w c r (.slice A4 c.for_.length k4) (.slice A5 c.may_.length k5) (.slice A1 r.by_.length k1) (.slice A2 r.need.length k2) u3 g wx)
 case rest =>
  obtain ⟨rfl, hs2⟩ := hcut
  go_step
  exact refJudge_tail3b c r A1 A2 A4 A5 k1 k2 k4 k5 u3 w wc g v1 h hr HFIT.out HJ hs2 _ _ _ _ _ _ _ _ _ _ _ _ _ _ _ _ _ _ _ _ _ _ _ _ _ _ _ _ _ _ _ _ _ _ _ _ _ _ _ _ _ _ _ _ _ _ _ _ _ _ _ _ _ _ _ _ _ _ _ _ _ _ _ _ _ _ _ _ _ _ _ _ _ _ _ _ _ _ _ _ _ _ _ _ _ _ _ _ _ _ _ _ _ _ _ _ _ _ _ _ _ _ _ _ _ _ _ _ _ _ _ _ _ _ _ _ _ _ _ _ _ _ _ _ _ _ _ _ _ _ _ _ _ _
 have HFOR := Lib.hid (And.intro h hr)
 clear h hr
 have hC := hs.mC
 unfold Blk at hC
 go_wp2_with (refine wpList_load_row rfl 58 (.tmp 2) rfl w.heap.size rfl 58 _ (0, 0) _ hC Tryz.underlying58 rfl (by kernel_rfl) ?_)
 refine (refStart_any c (.slice A4 c.for_.length k4) (.slice A5 c.may_.length k5) _).mono ?_
 rintro e w2 ⟨rfl, hb2⟩
 replace hs := hs.below hb2
 clear hb2 hC
 go_wp2_with fail
 go_meet
 exact ⟨rfl, hs⟩

end Go.Proofs.YtobaldkipnhlpaaGreatDoor
namespace Go.Proofs.YtobaldkipnhlpaaGreatDoor
open Go.RowKit Mem Utf Ref3 Tok Cl

theorem refJudge_tail2 (c : C) (r : R) (A1 A2 A4 A5 : Option Addr) (k1 k2 k4 k5 : Nat) (u3 : Value) (w wr : World) (g : Nat)
  (v1 : Value) (h : ClAt w c v1 (.slice A4 c.for_.length k4) (.slice A5 c.may_.length k5)) (hr : RuAt w r (.slice A1 r.by_.length k1) (.slice A2 r.need.length k2) u3) (hfit : fit c r = true)
  (HJ0 : Hid (judge0 c r = judge2 c r)) (hs0 : JSt w c r (.slice A4 c.for_.length k4) (.slice A5 c.may_.length k5) (.slice A1 r.by_.length k1) (.slice A2 r.need.length k2) u3 g wr) (z0 z1 z5 z6 z7 z8 z9 z10 z11 z12 z13 z14 z15 z16 z17 z18 z19 z20 z21 z22 z23 z24 z25 z26 z27 z28 z29 z30 z31 z32 z33 z34 z35 z36 z37 z38 z39 z40 z41 z42 z43 z44 z45 z46 z47 z48 z49 z50 z51 z52 z53 z54 z55 z56 z57 z58 z59 z60 z61 z62 z63 z64 z65 z66 z67 z68 z69 z70 z71 z72 z73 z74 z75 z76 z77 z78 z79 z80 z81 z82 z83 z84 z85 z86 z87 z88 z89 z90 z91 z92 z93 z94 z95 z96 z97 z98 z99 z100 z101 z102 z103 z104 z105 z106 z107 z108 z109 z110 z111 z112 z113 z114 z115 z116 z117 z118 z119 z120 z121 z122 z123 z124 z125 z126 z127 z128 z129 z130 z131 z132 z133 z134 z135 z136 z137 : Value) :
  Code.wp Tryz.prog refJTail2 (bodyPost Tryz.prog Tryz.f18 (RefJudgeP c r w)) { tmps := (z0 :: z1 :: .pointer (some ⟨w.heap.size, 0, none⟩) :: .pointer (some ⟨w.heap.size + 1, 0, none⟩) :: .pointer (some ⟨w.heap.size + 2, 0, none⟩) :: z5 :: z6 :: z7 :: z8 :: z9 :: z10 :: z11 :: z12 :: z13 :: z14 :: z15 :: z16 :: z17 :: z18 :: z19 :: z20 :: z21 :: z22 :: z23 :: z24 :: z25 :: z26 :: z27 :: z28 :: z29 :: z30 :: z31 :: z32 :: z33 :: z34 :: z35 :: z36 :: z37 :: z38 :: z39 :: z40 :: z41 :: z42 :: z43 :: z44 :: z45 :: z46 :: z47 :: z48 :: z49 :: z50 :: z51 :: z52 :: z53 :: z54 :: z55 :: z56 :: z57 :: z58 :: z59 :: z60 :: z61 :: z62 :: z63 :: z64 :: z65 :: z66 :: z67 :: z68 :: z69 :: z70 :: z71 :: z72 :: z73 :: z74 :: z75 :: z76 :: z77 :: z78 :: z79 :: z80 :: z81 :: z82 :: z83 :: z84 :: z85 :: z86 :: z87 :: z88 :: z89 :: z90 :: z91 :: z92 :: z93 :: z94 :: z95 :: z96 :: z97 :: z98 :: z99 :: z100 :: z101 :: z102 :: z103 :: z104 :: z105 :: z106 :: z107 :: z108 :: z109 :: z110 :: z111 :: z112 :: z113 :: z114 :: z115 :: z116 :: z117 :: z118 :: z119 :: z120 :: z121 :: z122 :: z123 :: z124 :: z125 :: z126 :: z127 :: z128 :: z129 :: z130 :: z131 :: z132 :: z133 :: z134 :: z135 :: z136 :: z137 :: []).toArray, defers := [] } wr := by
 have HFIT := Lib.hid hfit
 clear hfit
 have hnf := h.nfor
 have hnm := h.nmay
 have hfor := h.for_
 have hmay := h.may
 have hrb : ∀ W, Below w.heap.size w W → RuAt W r (.slice A1 r.by_.length k1) (.slice A2 r.need.length k2) u3 := fun W hW => hr.below hW
 have hs := hs0
 have HJ := HJ0
 clear hs0 HJ0
 conv => arg 2; whnf
 apply wp_seq_k
 intro K1 hK1
 go_cut [] (fun wx => Hid (judge0 c r = judge3 c r) ∧ JSt w c r (.slice A4 c.for_.length k4) (.slice A5 c.may_.length k5) (.slice A1 r.by_.length k1) (.slice A2 r.need.length k2) u3 g wx)
 case rest =>
  obtain ⟨HJ2, hs2⟩ := hcut
  go_step
  exact refJudge_tail3 c r A1 A2 A4 A5 k1 k2 k4 k5 u3 w wc g v1 h hr HFIT.out HJ2 hs2 _ _ _ _ _ _ _ _ _ _ _ _ _ _ _ _ _ _ _ _ _ _ _ _ _ _ _ _ _ _ _ _ _ _ _ _ _ _ _ _ _ _ _ _ _ _ _ _ _ _ _ _ _ _ _ _ _ _ _ _ _ _ _ _ _ _ _ _ _ _ _ _ _ _ _ _ _ _ _ _ _ _ _ _ _ _ _ _ _ _ _ _ _ _ _ _ _ _ _ _ _ _ _ _ _ _ _ _ _ _ _ _ _ _ _ _ _ _ _ _ _ _ _ _ _ _ _ _ _ _ _ _ _ _ _
 have HFOR := Lib.hid (And.intro h hr)
 clear h hr
 go_upto_region 15 with fail
 go_cut [85] (fun c85 wx => c85 = .bool (otherB c r) ∧ JSt w c r (.slice A4 c.for_.length k4) (.slice A5 c.may_.length k5) (.slice A1 r.by_.length k1) (.slice A2 r.need.length k2) u3 g wx)
 case first =>
  have HA : Hid (otherB c r = (!r.who.isEmpty && (is c 3 && !inB c.for_ r.who))) := Lib.hid rfl
  obtain ⟨d0, d1, d2, d3, d4, d5, d6, d7, d8, d9, d10, d11, d12, d13, d14, d15, d16, d17, d18, d19, d20, d21, d22, d23, d24, d25, d26, d27, d28, d29, d30, d31⟩ := C32 hs.mC
  obtain ⟨f0, f1, f2, f3, f4, f5⟩ := C6 hs.mR
  clear d0 d5 d6 d8 d9 d11 d12 d13 d14 d15 d16 d18 d19 d21 d22 d24 d25 d26 d28 d29 d31
  by_cases hz : r.who.isEmpty = true
  ·have HV : Hid (otherB c r = false) := Lib.hid (by rw [HA.out, hz]; rfl)
   go_wp2_with fail
   go_meet
   exact ⟨by rw [HV.out], hs⟩
  ·rw [Bool.not_eq_true] at hz
   replace HA : Hid (otherB c r = (is c 3 && !inB c.for_ r.who)) := Lib.hid (by rw [HA.out, hz]; rfl)
   rcases Bool.eq_false_or_eq_true (is c 3) with hi | hi
   ·
    replace HA : Hid (otherB c r = !inB c.for_ r.who) := Lib.hid (by rw [HA.out, hi]; rfl)
    rw [hi] at d3
    clear hi
    go_wp2_with fail
    refine (in_any _ c.for_ r.who _ (hfor.below hs.bel) hnf).mono ?_
    rintro e w3 ⟨rfl, rfl⟩
    cases hj : inB c.for_ r.who with
    | true =>
     have HV : Hid (otherB c r = false) := Lib.hid (by rw [HA.out, hj]; rfl)
     clear hj
     go_wp2_with fail
     go_meet
     exact ⟨by rw [HV.out], hs⟩
    | false =>
     have HV : Hid (otherB c r = true) := Lib.hid (by rw [HA.out, hj]; rfl)
     clear hj
     go_wp2_with fail
     go_meet
     exact ⟨by rw [HV.out], hs⟩
   ·
    have HV : Hid (otherB c r = false) := Lib.hid (by rw [HA.out, hi]; rfl)
    rw [hi] at d3
    clear hi
    go_wp2_with fail
    go_meet
    exact ⟨by rw [HV.out], hs⟩
 case rest =>
  clear hs
  obtain ⟨rfl, hs⟩ := hcut
  cases hq : otherB c r with
  | true =>
   have HV : Hid (judge0 c r = ⟨6, 0, [], c.for_⟩) := Lib.hid (by rw [HJ.out, judge2, if_pos hq])
   clear hq
   obtain ⟨d0, d1, d2, d3, d4, d5, d6, d7, d8, d9, d10, d11, d12, d13, d14, d15, d16, d17, d18, d19, d20, d21, d22, d23, d24, d25, d26, d27, d28, d29, d30, d31⟩ := C32 hs.mC
   obtain ⟨f0, f1, f2, f3, f4, f5⟩ := C6 hs.mR
   clear d0 d5 d6 d8 d9 d11 d12 d13 d14 d15 d16 d18 d19 d21 d22 d24 d25 d26 d28 d29 d31
   obtain ⟨y0, y1, y2, y3⟩ := C4 hs.mV
   have yf := fun i => hs.mV.frozen i
   have hbel : ∀ a b c d : Value, Below w.heap.size w ((((wc.setCell ⟨w.heap.size + 2, 0, none⟩ a).setCell ⟨w.heap.size + 2, 1, none⟩ b).setCell ⟨w.heap.size + 2, 2, none⟩ c).setCell ⟨w.heap.size + 2, 3, none⟩ d) := fun a b c d => (((hs.bel.setCell (by show w.heap.size ≤ w.heap.size + 2; omega) _).setCell (by show w.heap.size ≤ w.heap.size + 2; omega) _).setCell (by show w.heap.size ≤ w.heap.size + 2; omega) _).setCell (by show w.heap.size ≤ w.heap.size + 2; omega) _
   go_wp2
   refine bodyPost_ret (v := .agg #[.int .i64 6, .int .i64 0, .string ⟨#[]⟩, .slice A4 c.for_.length k4]) (by simp [results, Tryz.results18, go_sem, y0, y1, y2, y3]) rfl ⟨_, rfl, ?_, hbel _ _ _ _⟩
   rw [HV.out]
   exact ⟨_, rfl, hfor.below (hbel _ _ _ _)⟩
  | false =>
   have HJ2 : Hid (judge0 c r = judge3 c r) := Lib.hid (by rw [HJ.out, judge2, if_neg (by rw [hq]; decide)])
   clear hq HJ
   go_wp2_with fail
   go_meet
   exact ⟨HJ2, hs⟩

end Go.Proofs.YtobaldkipnhlpaaGreatDoor
