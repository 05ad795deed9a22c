/-
  Judge of the reference of layer 25: by whom (printed by wip/gen_cls.py).
  Walk of the reference of layer 25: Judge: its loop, joined with what follows it (printed by wip/gen_cls.py).
-/
import Derived.Test.YtobaldkipnhlpaaGreatDoorS35
set_option linter.unusedVariables false
set_option linter.unusedSimpArgs false
set_option maxRecDepth 100000
set_option maxHeartbeats 16000000
namespace Go.Proofs.YtobaldkipnhlpaaGreatDoor
open Go.RowKit Mem Utf Ref3 Tok Cl

theorem refJudge_tail (c : C) (r : R) (A1 A2 A4 A5 : Option Addr) (k1 k2 k4 k5 : Nat) (u3 : Value) (w wr : World) (g : Nat)
  (v1 : Value) (h : ClAt w c v1 (.slice A4 c.for_.length k4) (.slice A5 c.may_.length k5)) (hr : RuAt w r (.slice A1 r.by_.length k1) (.slice A2 r.need.length k2) u3) (hfit : fit c r = true)
  (HJ0 : Hid (judge0 c r = judge1 c r)) (hs0 : JSt w c r (.slice A4 c.for_.length k4) (.slice A5 c.may_.length k5) (.slice A1 r.by_.length k1) (.slice A2 r.need.length k2) u3 g wr) (z0 z1 z5 z6 z7 z8 z9 z10 z11 z12 z13 z14 z15 z16 z17 z18 z19 z20 z21 z22 z23 z24 z25 z26 z27 z28 z29 z30 z31 z32 z33 z34 z35 z36 z37 z38 z39 z40 z41 z42 z43 z44 z45 z46 z47 z48 z49 z50 z51 z52 z53 z54 z55 z56 z57 z58 z59 z60 z61 z62 z63 z64 z65 z66 z67 z68 z69 z70 z71 z72 z73 z74 z75 z76 z77 z78 z79 z80 z81 z82 z83 z84 z85 z86 z87 z88 z89 z90 z91 z92 z93 z94 z95 z96 z97 z98 z99 z100 z101 z102 z103 z104 z105 z106 z107 z108 z109 z110 z111 z112 z113 z114 z115 z116 z117 z118 z119 z120 z121 z122 z123 z124 z125 z126 z127 z128 z129 z130 z131 z132 z133 z134 z135 z136 z137 : Value) :
  Code.wp Tryz.prog refJTail (bodyPost Tryz.prog Tryz.f18 (RefJudgeP c r w)) { tmps := (z0 :: z1 :: .pointer (some ⟨w.heap.size, 0, none⟩) :: .pointer (some ⟨w.heap.size + 1, 0, none⟩) :: .pointer (some ⟨w.heap.size + 2, 0, none⟩) :: z5 :: z6 :: z7 :: z8 :: z9 :: z10 :: z11 :: z12 :: z13 :: z14 :: z15 :: z16 :: z17 :: z18 :: z19 :: z20 :: z21 :: z22 :: z23 :: z24 :: z25 :: z26 :: z27 :: z28 :: z29 :: z30 :: z31 :: z32 :: z33 :: z34 :: z35 :: z36 :: z37 :: z38 :: z39 :: z40 :: z41 :: z42 :: z43 :: z44 :: z45 :: z46 :: z47 :: z48 :: z49 :: z50 :: z51 :: z52 :: z53 :: z54 :: z55 :: z56 :: z57 :: z58 :: z59 :: z60 :: z61 :: z62 :: z63 :: z64 :: z65 :: z66 :: z67 :: z68 :: z69 :: z70 :: z71 :: z72 :: z73 :: z74 :: z75 :: z76 :: z77 :: z78 :: z79 :: z80 :: z81 :: z82 :: z83 :: z84 :: z85 :: z86 :: z87 :: z88 :: z89 :: z90 :: z91 :: z92 :: z93 :: z94 :: z95 :: z96 :: z97 :: z98 :: z99 :: z100 :: z101 :: z102 :: z103 :: z104 :: z105 :: z106 :: z107 :: z108 :: z109 :: z110 :: z111 :: z112 :: z113 :: z114 :: z115 :: z116 :: z117 :: z118 :: z119 :: z120 :: z121 :: z122 :: z123 :: z124 :: z125 :: z126 :: z127 :: z128 :: z129 :: z130 :: z131 :: z132 :: z133 :: z134 :: z135 :: z136 :: z137 :: []).toArray, defers := [] } wr := by
 have HFIT := Lib.hid hfit
 clear hfit
 have hnf := h.nfor
 have hnm := h.nmay
 have hfor := h.for_
 have hmay := h.may
 have hrb : ∀ W, Below w.heap.size w W → RuAt W r (.slice A1 r.by_.length k1) (.slice A2 r.need.length k2) u3 := fun W hW => hr.below hW
 have hs := hs0
 have HJ := HJ0
 clear hs0 HJ0
 conv => arg 2; whnf
 apply wp_seq_k
 intro K1 hK1
 go_cut [] (fun wx => Hid (judge0 c r = judge2 c r) ∧ JSt w c r (.slice A4 c.for_.length k4) (.slice A5 c.may_.length k5) (.slice A1 r.by_.length k1) (.slice A2 r.need.length k2) u3 g wx)
 case rest =>
  obtain ⟨HJ2, hs2⟩ := hcut
  go_step
  exact refJudge_tail2 c r A1 A2 A4 A5 k1 k2 k4 k5 u3 w wc g v1 h hr HFIT.out HJ2 hs2 _ _ _ _ _ _ _ _ _ _ _ _ _ _ _ _ _ _ _ _ _ _ _ _ _ _ _ _ _ _ _ _ _ _ _ _ _ _ _ _ _ _ _ _ _ _ _ _ _ _ _ _ _ _ _ _ _ _ _ _ _ _ _ _ _ _ _ _ _ _ _ _ _ _ _ _ _ _ _ _ _ _ _ _ _ _ _ _ _ _ _ _ _ _ _ _ _ _ _ _ _ _ _ _ _ _ _ _ _ _ _ _ _ _ _ _ _ _ _ _ _ _ _ _ _ _ _ _ _ _ _ _ _ _ _
 have HFOR := Lib.hid (And.intro h hr)
 clear h hr
 obtain ⟨f0, f1, f2, f3, f4, f5⟩ := C6 hs.mR
 go_upto_region 13 with fail
 go_cut [64] (fun c64 wx => c64 = .bool (alienB c r) ∧ JSt w c r (.slice A4 c.for_.length k4) (.slice A5 c.may_.length k5) (.slice A1 r.by_.length k1) (.slice A2 r.need.length k2) u3 g wx)
 case first =>
  clear f0 f1 f2 f3 f4 f5
  have HA : Hid (alienB c r = (!r.by_.isEmpty && (!is c 2 || !inB r.by_ c.by_))) := Lib.hid rfl
  obtain ⟨d0, d1, d2, d3, d4, d5, d6, d7, d8, d9, d10, d11, d12, d13, d14, d15, d16, d17, d18, d19, d20, d21, d22, d23, d24, d25, d26, d27, d28, d29, d30, d31⟩ := C32 hs.mC
  obtain ⟨f0, f1, f2, f3, f4, f5⟩ := C6 hs.mR
  clear d0 d5 d6 d8 d9 d11 d12 d13 d14 d15 d16 d18 d19 d21 d22 d24 d25 d26 d28 d29 d31
  by_cases hz : 0 < r.by_.length
  ·have hz1 : (0 : Int) < (r.by_.length : Int) := by omega
   have hz2 : decide (0 < r.by_.length) = true := decide_eq_true hz
   have hz3 : r.by_.isEmpty = false := by
    rw [Bool.eq_false_iff, Ne, List.isEmpty_iff_length_eq_zero]
    omega
   replace HA : Hid (alienB c r = (!is c 2 || !inB r.by_ c.by_)) := Lib.hid (by rw [HA.out, hz3]; rfl)
   clear hz3 hz
   rcases Bool.eq_false_or_eq_true (is c 2) with hi | hi
   ·
    replace HA : Hid (alienB c r = !inB r.by_ c.by_) := Lib.hid (by rw [HA.out, hi]; rfl)
    rw [hi] at d2
    clear hi
    go_wp2_with fail
    refine (in_any _ r.by_ c.by_ _ (hrb _ hs.bel).by_ (hrb _ hs.bel).nby).mono ?_
    rintro e w3 ⟨rfl, rfl⟩
    cases hj : inB r.by_ c.by_ with
    | true =>
     have HV : Hid (alienB c r = false) := Lib.hid (by rw [HA.out, hj]; rfl)
     clear hj
     go_wp2_with fail
     go_meet
     exact ⟨by rw [HV.out], hs⟩
    | false =>
     have HV : Hid (alienB c r = true) := Lib.hid (by rw [HA.out, hj]; rfl)
     clear hj
     go_wp2_with fail
     go_meet
     exact ⟨by rw [HV.out], hs⟩
   ·
    have HV : Hid (alienB c r = true) := Lib.hid (by rw [HA.out, hi]; rfl)
    rw [hi] at d2
    clear hi
    go_wp2_with fail
    go_meet
    exact ⟨by rw [HV.out], hs⟩
  ·have hz1 : ¬ (0 : Int) < (r.by_.length : Int) := by omega
   have hz2 : decide (0 < r.by_.length) = false := decide_eq_false hz
   have hz3 : r.by_.isEmpty = true := by
    rw [List.isEmpty_iff_length_eq_zero]
    omega
   have HV : Hid (alienB c r = false) := Lib.hid (by rw [HA.out, hz3]; rfl)
   clear hz3 hz
   go_wp2_with fail
   go_meet
   exact ⟨by rw [HV.out], hs⟩
 case rest =>
  clear hs
  obtain ⟨rfl, hs⟩ := hcut
  cases hq : alienB c r with
  | true =>
   have HV : Hid (judge0 c r = ⟨5, 0, c.by_, []⟩) := Lib.hid (by rw [HJ.out, judge1, if_pos hq])
   clear hq
   obtain ⟨d0, d1, d2, d3, d4, d5, d6, d7, d8, d9, d10, d11, d12, d13, d14, d15, d16, d17, d18, d19, d20, d21, d22, d23, d24, d25, d26, d27, d28, d29, d30, d31⟩ := C32 hs.mC
   obtain ⟨f0, f1, f2, f3, f4, f5⟩ := C6 hs.mR
   clear d0 d5 d6 d8 d9 d11 d12 d13 d14 d15 d16 d18 d19 d21 d22 d24 d25 d26 d28 d29 d31
   obtain ⟨y0, y1, y2, y3⟩ := C4 hs.mV
   have yf := fun i => hs.mV.frozen i
   have hbel : ∀ a b c d : Value, Below w.heap.size w ((((wc.setCell ⟨w.heap.size + 2, 0, none⟩ a).setCell ⟨w.heap.size + 2, 1, none⟩ b).setCell ⟨w.heap.size + 2, 2, none⟩ c).setCell ⟨w.heap.size + 2, 3, none⟩ d) := fun a b c d => (((hs.bel.setCell (by show w.heap.size ≤ w.heap.size + 2; omega) _).setCell (by show w.heap.size ≤ w.heap.size + 2; omega) _).setCell (by show w.heap.size ≤ w.heap.size + 2; omega) _).setCell (by show w.heap.size ≤ w.heap.size + 2; omega) _
   go_wp2
   refine bodyPost_ret (v := .agg #[.int .i64 5, .int .i64 0, .string ⟨c.by_.toArray⟩, .slice none 0 0]) (by simp [results, Tryz.results18, go_sem, y0, y1, y2, y3]) rfl ⟨_, rfl, ?_, hbel _ _ _ _⟩
   rw [HV.out]
   exact ⟨_, rfl, rd_nil _⟩
  | false =>
   have HJ2 : Hid (judge0 c r = judge2 c r) := Lib.hid (by rw [HJ.out, judge1, if_neg (by rw [hq]; decide)])
   clear hq HJ
   go_wp2_with fail
   go_meet
   exact ⟨HJ2, hs⟩

end Go.Proofs.YtobaldkipnhlpaaGreatDoor
namespace Go.Proofs.YtobaldkipnhlpaaGreatDoor
open Go.RowKit Mem Utf Ref3 Tok Cl

theorem refJudge_any (c : C) (r : R) (v1 v2 v3 u1 u2 u3 : Value) (w : World) (h : ClAt w c v1 v2 v3) (hr : RuAt w r u1 u2 u3) (hfit : fit c r = true) :
  Calls Tryz.prog 18 #[.agg (dCells (is c) c v2 v3), .agg #[.int .i64 r.now, .int .i64 r.slack, .string ⟨r.who.toArray⟩, u1, u2, u3]] w (RefJudgeP c r w) := by
 have hb0 : ∀ cs ds es, Below w.heap.size w (((w.alloc (.cells cs 58)).alloc (.cells ds 66)).alloc (.cells es 72)) := fun cs ds es => (((Below.refl _ _).alloc (Nat.le_refl _) _).alloc (by simp) _).alloc (by simp; omega) _
 have hq : ∀ (w : World) o, (w.alloc o).heap.size = w.heap.size + 1 := fun w o => by simp
 have hf := hfit
 unfold fit at hf
 rw [Bool.and_eq_true, Bool.and_eq_true] at hf
 obtain ⟨hm, ht1, ht2⟩ := hf
 have hmt := may_times hm
 have HK := Lib.hid (fun t => anyK_in (c := c) (t := t) hm)
 have HD := Lib.hid (earlyB_D (r := r) (isTime_iff.1 hmt.1).1 (isTime_iff.1 hmt.2.1).1 (isTime_iff.1 ht1).1 (isTime_iff.1 ht2).1)
 have HE := Lib.hid (startD_early (r := r) (isTime_iff.1 hmt.1).1 (isTime_iff.1 hmt.2.1).1)
 have hb1a := (isTime_iff.1 ht1).1
 have hb1b := (isTime_iff.1 ht1).2
 have hb2a := (isTime_iff.1 ht2).1
 have hb2b := (isTime_iff.1 ht2).2
 have ht0a := (isTime_iff.1 hmt.2.2).1
 have ht0b := (isTime_iff.1 hmt.2.2).2
 clear hm ht1 ht2 hmt HD HE hb1a hb1b hb2a hb2b ht0a ht0b
 have HFIT := Lib.hid hfit
 clear hfit
 have hnn := hr.nneed
 obtain ⟨A2, k2, e2, hA2⟩ := hr.need
 subst e2
 obtain ⟨A1, k1, e1, hA1⟩ := hr.by_
 subst e1
 clear hA1 hA2
 have hnf := h.nfor
 have hnm := h.nmay
 obtain ⟨A4, k4, e4, hA4⟩ := h.for_
 subst e4
 obtain ⟨A5, k5, e5, hA5⟩ := h.may
 subst e5
 have hfor := h.for_
 have hmay := h.may
 clear hA4 hA5
 go_enter Tryz.func18, Tryz.ntmps18
 go_wp2_with fail
 refine (refKeys_any _).mono ?_
 rintro e w1 ⟨rfl, hb1⟩
 have hC0 : Blk w1 w.heap.size 58 (dCells (is c) c (.slice A4 c.for_.length k4) (.slice A5 c.may_.length k5)) := (((Blk.new w _ _).alloc _).alloc _).below hb1 (by rw [hq, hq, hq]; omega)
 have hR0 : Blk w1 (w.heap.size + 1) 66 (ruCells r (.slice A1 r.by_.length k1) (.slice A2 r.need.length k2) u3) := by
  have := Blk.new (w.alloc (.cells (dCells (is c) c (.slice A4 c.for_.length k4) (.slice A5 c.may_.length k5)) 58)) 66 (ruCells r (.slice A1 r.by_.length k1) (.slice A2 r.need.length k2) u3)
  rw [hq] at this
  exact (this.alloc _).below hb1 (by rw [hq, hq, hq]; omega)
 have hV0 : Blk w1 (w.heap.size + 2) 72 #[.int .i64 0, .int .i64 0, .string ⟨#[]⟩, .slice none 0 0] := by
  have := Blk.new ((w.alloc (.cells (dCells (is c) c (.slice A4 c.for_.length k4) (.slice A5 c.may_.length k5)) 58)).alloc (.cells (ruCells r (.slice A1 r.by_.length k1) (.slice A2 r.need.length k2) u3) 66)) 72 #[.int .i64 0, .int .i64 0, .string ⟨#[]⟩, .slice none 0 0]
  rw [hq, hq] at this
  exact this.below hb1 (by rw [hq, hq, hq]; omega)
 have hbw0 := below_chain (hb0 _ _ _) (hb0 _ _ _).size hb1
 clear hb0 hb1
 have hK0 := Blk.new w1 54 keyCells
 have hs : JSt w c r (.slice A4 c.for_.length k4) (.slice A5 c.may_.length k5) (.slice A1 r.by_.length k1) (.slice A2 r.need.length k2) u3 w1.heap.size (w1.alloc (.cells keyCells 54)) := ⟨hC0.alloc _, hR0.alloc _, hV0.alloc _, hK0, hbw0.alloc hbw0.size _⟩
 have hrb : ∀ W, Below w.heap.size w W → RuAt W r (.slice A1 r.by_.length k1) (.slice A2 r.need.length k2) u3 := fun W hW => hr.below hW
 clear hC0 hR0 hV0 hK0 hbw0 hr hq
 unfold keyCells at *
 have HJ : Hid (judge0 c r = match needF c.has r.need with | some k => ⟨4, 0, k, []⟩ | none => judge1 c r) := Lib.hid rfl
 go_upto_block 0 with fail
 go_cut [] (fun wx => Hid (judge0 c r = judge1 c r) ∧ JSt w c r (.slice A4 c.for_.length k4) (.slice A5 c.may_.length k5) (.slice A1 r.by_.length k1) (.slice A2 r.need.length k2) u3 w1.heap.size wx)
 case rest =>
  obtain ⟨HJ2, hs2⟩ := hcut
  go_step
  exact refJudge_tail c r A1 A2 A4 A5 k1 k2 k4 k5 u3 w wc _ _ h (hrb w (Below.refl _ _)) HFIT.out HJ2 hs2 _ _ _ _ _ _ _ _ _ _ _ _ _ _ _ _ _ _ _ _ _ _ _ _ _ _ _ _ _ _ _ _ _ _ _ _ _ _ _ _ _ _ _ _ _ _ _ _ _ _ _ _ _ _ _ _ _ _ _ _ _ _ _ _ _ _ _ _ _ _ _ _ _ _ _ _ _ _ _ _ _ _ _ _ _ _ _ _ _ _ _ _ _ _ _ _ _ _ _ _ _ _ _ _ _ _ _ _ _ _ _ _ _ _ _ _ _ _ _ _ _ _ _ _ _ _ _ _ _ _ _ _ _ _ _
 go_wp2_with fail
 go_loopw [6] (fun c6 wr => ∃ k : Nat, k ≤ r.need.length ∧ c6 = .int .i64 k ∧ Hid (needF c.has (r.need.drop k) = needF c.has r.need) ∧ JSt w c r (.slice A4 c.for_.length k4) (.slice A5 c.may_.length k5) (.slice A1 r.by_.length k1) (.slice A2 r.need.length k2) u3 w1.heap.size wr) (fun c6 _ => r.need.length - (intOf c6).toNat)
 case atStart => exact ⟨0, by omega, rfl, Lib.hid rfl, hs⟩
 case round =>
  clear hs
  obtain ⟨k, hk, rfl, H, hs⟩ := hrel
  by_cases hlt : k < r.need.length
  ·have hst := needF_drop (h := c.has) hlt
   rw [H.out] at hst
   have Hst := Lib.hid hst
   clear hst
   have HCN : ∀ W, Below w.heap.size w W → ∃ g o, A2 = some ⟨g, o, none⟩ ∧ W.cell? ⟨g, o + k, none⟩ = some (.string ⟨r.need[k].toArray⟩) := fun W hW => has_at (hrb W hW).need hlt
   generalize r.need[k] = t at *
   obtain ⟨gn, on, hA2, _⟩ := HCN wr hs.bel
   subst hA2
   have hi0 : (0 : Int) ≤ (k : Int) := by omega
   have hi1 : (k : Int) < (r.need.length : Int) := by omega
   obtain ⟨d0, d1, d2, d3, d4, d5, d6, d7, d8, d9, d10, d11, d12, d13, d14, d15, d16, d17, d18, d19, d20, d21, d22, d23, d24, d25, d26, d27, d28, d29, d30, d31⟩ := C32 hs.mC
   obtain ⟨f0, f1, f2, f3, f4, f5⟩ := C6 hs.mR
   clear d0 d5 d6 d8 d9 d11 d12 d13 d14 d15 d16 d18 d19 d21 d22 d24 d25 d26 d28 d29 d31
   obtain ⟨wo, rfl⟩ : ∃ wo : World, wo = wr := ⟨_, rfl⟩
   go_wp2_with fail
   clear d1 d2 d3 d4 d7 d10 d17 d20 d23 d27 d30 f0 f1 f2 f3 f4 f5
   go_loopw [7, 8] (fun c7 c8 wr => ∃ j : Nat, j ≤ 8 ∧ c8 = .int .i64 j ∧ c7 = .bool (anyK c t j) ∧ JSt w c r (.slice A4 c.for_.length k4) (.slice A5 c.may_.length k5) (.slice A1 r.by_.length k1) (.slice (some ⟨gn, on, none⟩) r.need.length k2) u3 w1.heap.size wr) (fun _ c8 _ => 8 - (intOf c8).toNat)
   case atStart => exact ⟨0, by omega, rfl, rfl, hs⟩
   case round =>
    as_aux_lemma =>
    clear hs
    obtain ⟨j, hj, rfl, rfl, hs⟩ := hrel
    by_cases hjl : j < 8
    ·have hj0 : (0 : Int) ≤ (j : Int) := by omega
     have hj1 : (j : Int) < 8 := by omega
     have g0 := dCells_at hs.mC hjl
     have g1 := keyCells_at hs.mK hjl
     obtain ⟨f0, f1, f2, f3, f4, f5⟩ := C6 hs.mR
     obtain ⟨_, _, hA3, hcn⟩ := HCN wr hs.bel
     injection hA3 with hA3
     injection hA3 with hA4 hA5
     subst hA4; subst hA5
     have HA : Hid (anyK c t (j + 1) = (anyK c t j || (is c j && key j == t))) := Lib.hid rfl
     cases hI : is c j with
     | false =>
      have HV : Hid (anyK c t (j + 1) = anyK c t j) := Lib.hid (by rw [HA.out, hI]; simp)
      rw [hI] at g0
      clear hI HA
      go_wp2
      go_quiet (fail)
      go_wp2
      go_roundw
      case rel => exact ⟨j + 1, by omega, by go_num, by rw [HV.out], hs.below (drewN_below _ _)⟩
      case measure => simp [intOf]; omega
     | true =>
      rw [hI] at g0
      generalize key j = K at *
      by_cases hx : K = t
      ·have HV : Hid (anyK c t (j + 1) = true) := Lib.hid (by rw [HA.out, hI]; simp [hx])
       have he : (K == t) = true := by simpa using hx
       clear hI HA hx
       go_wp2
       go_quiet (fail)
       go_wp2
       go_roundw
       case rel => exact ⟨j + 1, by omega, by go_num, by rw [HV.out], hs.below (drewN_below _ _)⟩
       case measure => simp [intOf]; omega
      ·have HV : Hid (anyK c t (j + 1) = anyK c t j) := Lib.hid (by rw [HA.out, hI]; simp [hx])
       have he : (K == t) = false := by simpa using hx
       clear hI HA hx
       go_wp2
       go_quiet (fail)
       go_wp2
       go_roundw
       case rel => exact ⟨j + 1, by omega, by go_num, by rw [HV.out], hs.below (drewN_below _ _)⟩
       case measure => simp [intOf]; omega
    ·obtain rfl : j = 8 := by omega
     rw [HK.out]
     cases hi : inB c.has t with
     | true =>
      have HN : Hid (needF c.has (r.need.drop (k + 1)) = needF c.has r.need) := Lib.hid (by rw [Hst.out, if_pos hi])
      clear hi
      go_wp2
      go_roundw
      case rel => exact ⟨k + 1, by omega, by go_num, HN, hs⟩
      case measure => simp [intOf]; omega
     | false =>
      have HV : Hid (judge0 c r = ⟨4, 0, t, []⟩) := Lib.hid (by rw [HJ.out, Hst.out, if_neg (by rw [hi]; decide)])
      clear hi
      obtain ⟨f0, f1, f2, f3, f4, f5⟩ := C6 hs.mR
      obtain ⟨_, _, hA3, hcn⟩ := HCN wr hs.bel
      injection hA3 with hA3
      injection hA3 with hA4 hA5
      subst hA4; subst hA5
      obtain ⟨y0, y1, y2, y3⟩ := C4 hs.mV
      have yf := fun i => hs.mV.frozen i
      have hbel : ∀ a b c d : Value, Below w.heap.size w ((((wr.setCell ⟨w.heap.size + 2, 0, none⟩ a).setCell ⟨w.heap.size + 2, 1, none⟩ b).setCell ⟨w.heap.size + 2, 2, none⟩ c).setCell ⟨w.heap.size + 2, 3, none⟩ d) := fun a b c d => (((hs.bel.setCell (by show w.heap.size ≤ w.heap.size + 2; omega) _).setCell (by show w.heap.size ≤ w.heap.size + 2; omega) _).setCell (by show w.heap.size ≤ w.heap.size + 2; omega) _).setCell (by show w.heap.size ≤ w.heap.size + 2; omega) _
      go_wp2
      refine bodyPost_ret (v := .agg #[.int .i64 4, .int .i64 0, .string ⟨t.toArray⟩, .slice none 0 0]) (by simp [results, Tryz.results18, go_sem, y0, y1, y2, y3]) rfl ⟨_, rfl, ?_, hbel _ _ _ _⟩
      rw [HV.out]
      exact ⟨_, rfl, rd_nil _⟩
  ·obtain rfl : k = r.need.length := by omega
   have HJ2 : Hid (judge0 c r = judge1 c r) := Lib.hid (by rw [HJ.out, ← H.out, List.drop_length]; rfl)
   clear H hlt hk HJ
   obtain ⟨f0, f1, f2, f3, f4, f5⟩ := C6 hs.mR
   go_wp2_with fail
   go_meet
   exact ⟨HJ2, hs⟩
end Go.Proofs.YtobaldkipnhlpaaGreatDoor
