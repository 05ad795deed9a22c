/-
  Walk of package claims: Judge (printed by wip/gen_clk.py).
-/
import Derived.Test.YtobaldkipnhlpaaGreatDoorS12
import Derived.Deep.CutBlock
import Derived.Deep.DeepCutAuto
set_option linter.unusedVariables false
set_option linter.unusedSimpArgs false
set_option maxRecDepth 100000
set_option maxHeartbeats 16000000
namespace Go.Proofs.YtobaldkipnhlpaaGreatDoor
open Go.RowKit Mem Utf Ref3 Tok Cl

theorem C6 {w : World} {b : Nat} {t : TypeId} {a0 a1 a2 a3 a4 a5 : Value} (h : Blk w b t #[a0, a1, a2, a3, a4, a5]) :
  w.cell? ⟨b, 0, none⟩ = some a0 ∧ w.cell? ⟨b, 1, none⟩ = some a1 ∧ w.cell? ⟨b, 2, none⟩ = some a2 ∧ w.cell? ⟨b, 3, none⟩ = some a3 ∧ w.cell? ⟨b, 4, none⟩ = some a4 ∧
  w.cell? ⟨b, 5, none⟩ = some a5 := ⟨h.cell 0, h.cell 1, h.cell 2, h.cell 3, h.cell 4, h.cell 5⟩
def ruCells (r : R) (u1 u2 u3 : Value) : Array Value := #[.int .i64 r.now, .int .i64 r.slack, .string ⟨r.who.toArray⟩, u1, u2, u3]
structure RuAt (w : World) (r : R) (u1 u2 u3 : Value) : Prop where
 by_ : Rd w u1 r.by_
 need : Rd w u2 r.need
 may : Rd w u3 r.may_
 nby : r.by_.length ≤ 1099511627776
 nneed : r.need.length ≤ 1099511627776
 nmay : r.may_.length ≤ 1099511627776
theorem RuAt.below {w w' : World} {r : R} {v1 v2 v3 : Value} (h : RuAt w r v1 v2 v3) (hb : Below w.heap.size w w') : RuAt w' r v1 v2 v3 :=
 ⟨h.by_.below hb, h.need.below hb, h.may.below hb, h.nby, h.nneed, h.nmay⟩
def VerdV (B : Nat) (w : World) (v : Value) (x : Verd) : Prop := match x.kind with
 | 0 => ∃ b, B ≤ b ∧ v = .iface 44 (.pointer (some ⟨b, 0, none⟩)) ∧ Blk w b 52 #[.iface 49 (.int .i64 2)]
 | 1 => v = .iface 112 (.agg #[.int .i64 x.time])
 | 2 => v = .iface 131 (.agg #[.int .i64 x.time])
 | 3 => v = .iface 114 (.agg #[.int .i64 x.time])
 | 4 => v = .iface 133 (.agg #[.string ⟨x.text.toArray⟩])
 | 5 => v = .iface 135 (.agg #[.string ⟨x.text.toArray⟩])
 | 6 => ∃ s, v = .iface 137 (.agg #[s]) ∧ w.ownsRow B 9 1 s x.list.length (x.list.map strV)
 | _ => ∃ s, v = .iface 139 (.agg #[s]) ∧ w.ownsRow B 9 1 s x.list.length (x.list.map strV)
theorem clone_any (v : Value) (l : List Txt) (w : World) (h : Rd w v l) (hl : l.length ≤ 1099511627776) :
  Calls Tryz.prog 73 #[v] w fun e w' => (∃ s, e = .returned s ∧ w'.ownsRow w.heap.size 9 1 s l.length (l.map strV)) ∧ Below w.heap.size w w' := by
 rcases rd_forms h with ⟨rfl, A, c, rfl⟩ | ⟨b, off, c, rfl, h⟩
 ·cases A with
  | none =>
   refine (Tryz.slices_Clone_string_nil 0 c w).mono ?_
   rintro e w' ⟨rfl, rfl⟩
   exact ⟨⟨_, rfl, World.ownsRow_nil _ _ _ _⟩, Below.refl _ _⟩
  | some ad =>
   refine (Tryz.slices_Clone_string_zero ad c w).mono ?_
   rintro e w' ⟨v', rfl, ho, _, hb⟩
   exact ⟨⟨_, rfl, ho⟩, hb⟩
 ·refine (Tryz.slices_Clone_string b off l.length c (bts l) w (by rw [bts_len]; exact Nat.le_refl _) (by omega) (rd_cells h)).mono ?_
  rintro e w' ⟨v', rfl, ho, _, hb⟩
  rw [List.take_of_length_le (by rw [bts_len]; exact Nat.le_refl _)] at ho
  refine ⟨⟨_, rfl, ?_⟩, hb⟩
  have : (bts l).map Value.string = l.map strV := by
   unfold bts
   rw [List.map_map]
   rfl
  rwa [this] at ho
def JudgeP (c : C) (r : R) (w : World) (e : Ending) (w' : World) : Prop := ∃ v, e = .returned v ∧ VerdV w.heap.size w' v (judgeP c r) ∧ Below w.heap.size w w'

theorem judge_any (c : C) (r : R) (v1 v2 v3 u1 u2 u3 : Value) (w : World) (h : ClAt w c v1 v2 v3) (hr : RuAt w r u1 u2 u3) :
  Calls Tryz.prog 26 #[.agg #[v1, .string ⟨c.about.toArray⟩, .int .i64 c.at_, .string ⟨c.by_.toArray⟩, v2, .int .i64 c.from_, .string ⟨c.id_.toArray⟩, v3, .int .i64 c.until_], .agg #[.int .i64 r.now, .int .i64 r.slack, .string ⟨r.who.toArray⟩, u1, u2, u3]] w (JudgeP c r w) := by
 have hb0 : ∀ cs ds, Below w.heap.size w ((w.alloc (.cells cs 38)).alloc (.cells ds 25)) := fun cs ds => ((Below.refl _ _).alloc (Nat.le_refl _) _).alloc (by simp) _
 have hnn := hr.nneed
 obtain ⟨A2, k2, e2, hA2⟩ := hr.need
 subst e2
 obtain ⟨A1, k1, e1, hA1⟩ := hr.by_
 subst e1
 clear hA1 hA2
 go_enter Tryz.func26, Tryz.ntmps26
 go_wp2_with fail
 refine (clMay_any c v1 v2 v3 _ (h.below (hb0 _ _))).mono ?_
 rintro e w1 ⟨rfl, hb1⟩
 have hC : Blk w1 w.heap.size 38 (clCells c v1 v2 v3) := ((Blk.new w _ _).alloc _).below hb1 (by simp; omega)
 have hR : Blk w1 (w.heap.size + 1) 25 (ruCells r (.slice A1 r.by_.length k1) (.slice A2 r.need.length k2) u3) := by
  have hq : ∀ o, (w.alloc o).heap.size = w.heap.size + 1 := fun o => by simp
  have := Blk.new (w.alloc (.cells (clCells c v1 v2 v3) 38)) 25 (ruCells r (.slice A1 r.by_.length k1) (.slice A2 r.need.length k2) u3)
  rw [hq] at this
  exact this.below hb1 (by simp)
 have hcl : ClAt w1 c v1 v2 v3 := (h.below (hb0 _ _)).below hb1
 have hrl : RuAt w1 r (.slice A1 r.by_.length k1) (.slice A2 r.need.length k2) u3 := (hr.below (hb0 _ _)).below hb1
 have hbw1 := below_chain (hb0 _ _) (hb0 _ _).size hb1
 have hCl := hC.lt
 have hRl := hR.lt
 have hws := hbw1.size
 clear hb0 hb1 h hr
 obtain ⟨e0, e1, e2, e3, e4, e5, e6, e7, e8⟩ := C9 hC
 obtain ⟨f0, f1, f2, f3, f4, f5⟩ := C6 hR
 have HF : Hid (fit c r = (mayB c && (isTime r.now && isTime r.slack))) := Lib.hid rfl
 have HJ : Hid (judgeP c r = if fit c r = true then judge0 c r else ⟨0, 0, [], []⟩) := Lib.hid rfl
 by_cases hm : mayB c = true
 rotate_left
 ·rw [Bool.not_eq_true] at hm
  have HV : Hid (judgeP c r = ⟨0, 0, [], []⟩) := Lib.hid (by rw [HJ.out, if_neg (by rw [HF.out]; simp [hm])])
  rw [hm]
  clear hm
  go_wp2
  go_ret
  refine ⟨_, rfl, ?_, hbw1.alloc (by omega) _⟩
  rw [HV.out]
  exact ⟨_, by omega, rfl, Blk.new _ _ _⟩
 have hmt := may_times hm
 have HM := Lib.hid hm
 rw [hm]
 clear hm
 go_wp2_with fail
 refine (isTime_any r.now _).mono ?_
 rintro e w' ⟨rfl, rfl⟩
 by_cases ht1 : Cl.isTime r.now = true
 rotate_left
 ·rw [Bool.not_eq_true] at ht1
  have HV : Hid (judgeP c r = ⟨0, 0, [], []⟩) := Lib.hid (by rw [HJ.out, if_neg (by rw [HF.out]; simp [ht1])])
  rw [ht1]
  clear ht1
  go_wp2
  go_ret
  refine ⟨_, rfl, ?_, hbw1.alloc (by omega) _⟩
  rw [HV.out]
  exact ⟨_, by omega, rfl, Blk.new _ _ _⟩
 have hb1 := isTime_iff.1 ht1
 have HT1 := Lib.hid ht1
 rw [ht1]
 clear ht1
 go_wp2_with fail
 refine (isTime_any r.slack _).mono ?_
 rintro e w' ⟨rfl, rfl⟩
 by_cases ht2 : Cl.isTime r.slack = true
 rotate_left
 ·rw [Bool.not_eq_true] at ht2
  have HV : Hid (judgeP c r = ⟨0, 0, [], []⟩) := Lib.hid (by rw [HJ.out, if_neg (by rw [HF.out]; simp [ht2])])
  rw [ht2]
  clear ht2
  go_wp2
  go_ret
  refine ⟨_, rfl, ?_, hbw1.alloc (by omega) _⟩
  rw [HV.out]
  exact ⟨_, by omega, rfl, Blk.new _ _ _⟩
 have hb2 := isTime_iff.1 ht2
 have HT2 := Lib.hid ht2
 rw [ht2]
 clear ht2
 replace HJ : Hid (judgeP c r = judge0 c r) := Lib.hid (by rw [HJ.out, if_pos (by rw [HF.out, HM.out, HT1.out, HT2.out]; rfl)])
 have ht0 := isTime_iff.1 hmt.2.2
 have HS : Hid (Cl.isTime c.at_ = true ∧ Cl.isTime c.from_ = true) := Lib.hid ⟨hmt.1, hmt.2.1⟩
 clear HF HM HT1 HT2 hmt
 have hb1a := hb1.1
 have hb1b := hb1.2
 have hb2a := hb2.1
 have hb2b := hb2.2
 have ht0a := ht0.1
 have ht0b := ht0.2
 clear hb1 hb2 ht0
 go_wp2_with fail
 go_loopw [32] (fun c32 wr => ∃ k : Nat, k ≤ r.need.length ∧ c32 = .int .i64 k ∧ Hid (needF c.has (r.need.drop k) = needF c.has r.need) ∧ Below w1.heap.size w1 wr) (fun c32 _ => r.need.length - (intOf c32).toNat)
 case atStart => exact ⟨0, by omega, rfl, Lib.hid rfl, Below.refl _ _⟩
 case round =>
  obtain ⟨k, hk, rfl, H, hbr⟩ := hrel
  clear e0 e1 e2 e3 e4 e5 e6 e7 e8 f0 f1 f2 f3 f4 f5
  have hbs := hbr.size
  by_cases hlt : k < r.need.length
  ·have hst := needF_drop (h := c.has) hlt
   rw [H.out] at hst
   obtain ⟨e0, e1, e2, e3, e4, e5, e6, e7, e8⟩ := C9 (hC.below hbr hCl)
   obtain ⟨f0, f1, f2, f3, f4, f5⟩ := C6 (hR.below hbr hRl)
   obtain ⟨g1, o1, hA1, hcn⟩ := has_at (hrl.need.below hbr) hlt
   have hi0 : (0 : Int) ≤ (k : Int) := by omega
   have hi1 : (k : Int) < (r.need.length : Int) := by omega
   subst hA1
   have Hst := Lib.hid hst
   clear hst
   generalize r.need[k] = t at *
   go_wp2_with fail
   refine (has_any c v1 v2 v3 t _ (hcl.below hbr)).mono ?_
   rintro e w2 ⟨rfl, hb2⟩
   have hbr2 := below_chain hbr hbr.size hb2
   clear hb2 e0 e1 e2 e3 e4 e5 e6 e7 e8 f0 f1 f2 f3 f4 f5
   by_cases hi : inB c.has t = true
   ·have HN : Hid (needF c.has (r.need.drop (k + 1)) = needF c.has r.need) := Lib.hid (by rw [Hst.out, if_pos hi])
    rw [hi]
    clear hi hcn
    go_wp2
    go_roundw
    case rel => exact ⟨k + 1, by omega, by go_num, HN, hbr2⟩
    case measure => simp [intOf]; omega
   ·have HV : Hid (judgeP c r = ⟨4, 0, t, []⟩) := Lib.hid (by rw [HJ.out, judge0, Hst.out, if_neg hi])
    rw [Bool.not_eq_true] at hi
    rw [hi]
    clear hi hcn
    go_wp2
    go_ret
    refine ⟨_, rfl, ?_, below_chain hbw1 hbw1.size hbr2⟩
    rw [HV.out]
    exact rfl
  ·obtain rfl : k = r.need.length := by omega
   replace HJ : Hid (judgeP c r = judge1 c r) := Lib.hid (by rw [HJ.out, judge0, ← H.out, List.drop_length]; rfl)
   clear H hlt hk
   go_upto_region 9 with fail
   go_cut [44] (fun c44 wx => c44 = .bool (alienB c r) ∧ Below w1.heap.size w1 wx)
   case first =>
    have HA : Hid (alienB c r = (!r.by_.isEmpty && (!inB c.has (key 2) || !inB r.by_ c.by_))) := Lib.hid rfl
    obtain ⟨e0, e1, e2, e3, e4, e5, e6, e7, e8⟩ := C9 (hC.below hbr hCl)
    obtain ⟨f0, f1, f2, f3, f4, f5⟩ := C6 (hR.below hbr hRl)
    by_cases hz : 0 < r.by_.length
    ·have hz1 : (0 : Int) < (r.by_.length : Int) := by omega
     have hz2 : decide (0 < r.by_.length) = true := decide_eq_true hz
     have hz3 : r.by_.isEmpty = false := by
      rw [Bool.eq_false_iff, Ne, List.isEmpty_iff_length_eq_zero]
      omega
     replace HA : Hid (alienB c r = (!inB c.has (key 2) || !inB r.by_ c.by_)) := Lib.hid (by rw [HA.out, hz3]; rfl)
     clear hz3 hz
     go_wp2_with fail
     refine (has_any c v1 v2 v3 (key 2) _ (hcl.below hbr)).mono ?_
     rintro e w2 ⟨rfl, hb2⟩
     have hbr2 := below_chain hbr hbr.size hb2
     clear hb2 e0 e1 e2 e3 e4 e5 e6 e7 e8 f0 f1 f2 f3 f4 f5
     by_cases hi : inB c.has (key 2) = true
     ·replace HA : Hid (alienB c r = !inB r.by_ c.by_) := Lib.hid (by rw [HA.out, hi]; rfl)
      rw [hi]
      clear hi
      obtain ⟨e0, e1, e2, e3, e4, e5, e6, e7, e8⟩ := C9 (hC.below hbr2 hCl)
      obtain ⟨f0, f1, f2, f3, f4, f5⟩ := C6 (hR.below hbr2 hRl)
      go_wp2_with fail
      refine (contains_any _ r.by_ c.by_ _ (hrl.by_.below hbr2) hrl.nby).mono ?_
      rintro e w3 ⟨rfl, rfl⟩
      cases hj : inB r.by_ c.by_ with
      | true =>
       have HV : Hid (alienB c r = false) := Lib.hid (by rw [HA.out, hj]; rfl)
       clear hj
       go_wp2_with fail
       go_meet
       exact ⟨by rw [HV.out], hbr2⟩
      | false =>
       have HV : Hid (alienB c r = true) := Lib.hid (by rw [HA.out, hj]; rfl)
       clear hj
       go_wp2_with fail
       go_meet
       exact ⟨by rw [HV.out], hbr2⟩
     ·rw [Bool.not_eq_true] at hi
      have HV : Hid (alienB c r = true) := Lib.hid (by rw [HA.out, hi]; rfl)
      rw [hi]
      clear hi
      go_wp2_with fail
      go_meet
      exact ⟨by rw [HV.out], hbr2⟩
    ·have hz1 : ¬ (0 : Int) < (r.by_.length : Int) := by omega
     have hz2 : decide (0 < r.by_.length) = false := decide_eq_false hz
     have hz3 : r.by_.isEmpty = true := by
      rw [List.isEmpty_iff_length_eq_zero]
      omega
     have HV : Hid (alienB c r = false) := Lib.hid (by rw [HA.out, hz3]; rfl)
     clear hz3 hz
     go_wp2_with fail
     go_meet
     exact ⟨by rw [HV.out], hbr⟩
   case rest =>
    clear hbr
    obtain ⟨rfl, hbr⟩ := hcut
    have hbs := hbr.size
    cases hq : alienB c r with
    | true =>
     have HV : Hid (judgeP c r = ⟨5, 0, c.by_, []⟩) := Lib.hid (by rw [HJ.out, judge1, if_pos hq])
     clear hq
     obtain ⟨e0, e1, e2, e3, e4, e5, e6, e7, e8⟩ := C9 (hC.below hbr hCl)
     obtain ⟨f0, f1, f2, f3, f4, f5⟩ := C6 (hR.below hbr hRl)
     go_wp2
     go_ret
     refine ⟨_, rfl, ?_, below_chain hbw1 hbw1.size hbr⟩
     rw [HV.out]
     exact rfl
    | false =>
     replace HJ : Hid (judgeP c r = judge2 c r) := Lib.hid (by rw [HJ.out, judge1, if_neg (by rw [hq]; decide)])
     clear hq
     go_upto_region 11 with fail
     go_cut [66] (fun c66 wx => c66 = .bool (otherB c r) ∧ Below w1.heap.size w1 wx)
     case first =>
      have HA : Hid (otherB c r = (!r.who.isEmpty && (inB c.has (key 3) && !inB c.for_ r.who))) := Lib.hid rfl
      obtain ⟨e0, e1, e2, e3, e4, e5, e6, e7, e8⟩ := C9 (hC.below hbr hCl)
      obtain ⟨f0, f1, f2, f3, f4, f5⟩ := C6 (hR.below hbr hRl)
      by_cases hz : r.who.isEmpty = true
      ·have HV : Hid (otherB c r = false) := Lib.hid (by rw [HA.out, hz]; rfl)
       go_wp2_with fail
       go_meet
       exact ⟨by rw [HV.out], hbr⟩
      ·rw [Bool.not_eq_true] at hz
       replace HA : Hid (otherB c r = (inB c.has (key 3) && !inB c.for_ r.who)) := Lib.hid (by rw [HA.out, hz]; rfl)
       go_wp2_with fail
       refine (has_any c v1 v2 v3 (key 3) _ (hcl.below hbr)).mono ?_
       rintro e w2 ⟨rfl, hb2⟩
       have hbr2 := below_chain hbr hbr.size hb2
       clear hb2 e0 e1 e2 e3 e4 e5 e6 e7 e8 f0 f1 f2 f3 f4 f5
       by_cases hi : inB c.has (key 3) = true
       ·replace HA : Hid (otherB c r = !inB c.for_ r.who) := Lib.hid (by rw [HA.out, hi]; rfl)
        rw [hi]
        clear hi
        obtain ⟨e0, e1, e2, e3, e4, e5, e6, e7, e8⟩ := C9 (hC.below hbr2 hCl)
        obtain ⟨f0, f1, f2, f3, f4, f5⟩ := C6 (hR.below hbr2 hRl)
        go_wp2_with fail
        refine (contains_any _ c.for_ r.who _ (hcl.for_.below hbr2) hcl.nfor).mono ?_
        rintro e w3 ⟨rfl, rfl⟩
        cases hj : inB c.for_ r.who with
        | true =>
         have HV : Hid (otherB c r = false) := Lib.hid (by rw [HA.out, hj]; rfl)
         clear hj
         go_wp2_with fail
         go_meet
         exact ⟨by rw [HV.out], hbr2⟩
        | false =>
         have HV : Hid (otherB c r = true) := Lib.hid (by rw [HA.out, hj]; rfl)
         clear hj
         go_wp2_with fail
         go_meet
         exact ⟨by rw [HV.out], hbr2⟩
       ·rw [Bool.not_eq_true] at hi
        have HV : Hid (otherB c r = false) := Lib.hid (by rw [HA.out, hi]; rfl)
        rw [hi]
        clear hi
        go_wp2_with fail
        go_meet
        exact ⟨by rw [HV.out], hbr2⟩
     case rest =>
      clear hbr
      obtain ⟨rfl, hbr⟩ := hcut
      have hbs := hbr.size
      cases hq : otherB c r with
      | true =>
       have HV : Hid (judgeP c r = ⟨6, 0, [], c.for_⟩) := Lib.hid (by rw [HJ.out, judge2, if_pos hq])
       clear hq
       obtain ⟨e0, e1, e2, e3, e4, e5, e6, e7, e8⟩ := C9 (hC.below hbr hCl)
       obtain ⟨f0, f1, f2, f3, f4, f5⟩ := C6 (hR.below hbr hRl)
       go_wp2_with fail
       refine (clone_any _ c.for_ _ (hcl.for_.below hbr) hcl.nfor).mono ?_
       rintro e w2 ⟨⟨s, rfl, hown⟩, hb2⟩
       obtain ⟨A9, c9, rfl⟩ := own_sliceP hown
       clear e0 e1 e2 e3 e4 e5 e6 e7 e8 f0 f1 f2 f3 f4 f5
       go_wp2
       go_ret
       refine ⟨_, rfl, ?_, below_chain hbw1 hbw1.size (below_chain hbr hbr.size hb2)⟩
       rw [HV.out]
       exact ⟨_, rfl, Joins.ownsRow_le hown (by omega)⟩
      | false =>
       replace HJ : Hid (judgeP c r = judge3 c r) := Lib.hid (by rw [HJ.out, judge2, if_neg (by rw [hq]; decide)])
       clear hq
       obtain ⟨e0, e1, e2, e3, e4, e5, e6, e7, e8⟩ := C9 (hC.below hbr hCl)
       obtain ⟨f0, f1, f2, f3, f4, f5⟩ := C6 (hR.below hbr hRl)
       go_wp2_with fail
       refine (start_any c v1 v2 v3 _ (hcl.below hbr)).mono ?_
       rintro e w2 ⟨rfl, hb2⟩
       replace hbr := below_chain hbr hbr.size hb2
       clear hb2 e0 e1 e2 e3 e4 e5 e6 e7 e8 f0 f1 f2 f3 f4 f5
       rw [startV]
       go_upto_region 14 with fail
       go_cut [101] (fun c101 wx => c101 = .bool (earlyB c r) ∧ Below w1.heap.size w1 wx)
       case first =>
        have HA : Hid (earlyB c r = ((startP c).2 && decide (r.now + r.slack < (startP c).1))) := Lib.hid rfl
        obtain ⟨e0, e1, e2, e3, e4, e5, e6, e7, e8⟩ := C9 (hC.below hbr hCl)
        obtain ⟨f0, f1, f2, f3, f4, f5⟩ := C6 (hR.below hbr hRl)
        generalize startP c = st at *
        obtain ⟨x, ok⟩ := st
        simp only [] at HA ⊢
        cases ok with
        | false =>
         have HV : Hid (earlyB c r = false) := Lib.hid (by rw [HA.out]; rfl)
         go_wp2_with fail
         go_meet
         exact ⟨by rw [HV.out], hbr⟩
        | true =>
         by_cases hx : r.now + r.slack < x
         ·have HV : Hid (earlyB c r = true) := Lib.hid (by rw [HA.out, decide_eq_true hx]; rfl)
          go_wp2_with fail
          go_meet
          exact ⟨by rw [HV.out], hbr⟩
         ·have HV : Hid (earlyB c r = false) := Lib.hid (by rw [HA.out, decide_eq_false hx]; rfl)
          go_wp2_with fail
          go_meet
          exact ⟨by rw [HV.out], hbr⟩
       case rest =>
        clear hbr
        obtain ⟨rfl, hbr⟩ := hcut
        have hbs := hbr.size
        cases hq : earlyB c r with
        | true =>
         have HV : Hid (judgeP c r = ⟨2, (startP c).1, [], []⟩) := Lib.hid (by rw [HJ.out, judge3, if_pos hq])
         clear hq
         obtain ⟨e0, e1, e2, e3, e4, e5, e6, e7, e8⟩ := C9 (hC.below hbr hCl)
         obtain ⟨f0, f1, f2, f3, f4, f5⟩ := C6 (hR.below hbr hRl)
         go_wp2
         go_ret
         refine ⟨_, rfl, ?_, below_chain hbw1 hbw1.size hbr⟩
         rw [HV.out]
         exact rfl
        | false =>
         replace HJ : Hid (judgeP c r = judge4 c r) := Lib.hid (by rw [HJ.out, judge3, if_neg (by rw [hq]; decide)])
         clear hq
         go_upto_region 16 with fail
         go_cut [116] (fun c116 wx => c116 = .bool (overB c r) ∧ Below w1.heap.size w1 wx)
         case first =>
          have HA : Hid (overB c r = (inB c.has (key 7) && decide (c.until_ + r.slack ≤ r.now))) := Lib.hid rfl
          obtain ⟨e0, e1, e2, e3, e4, e5, e6, e7, e8⟩ := C9 (hC.below hbr hCl)
          obtain ⟨f0, f1, f2, f3, f4, f5⟩ := C6 (hR.below hbr hRl)
          go_wp2_with fail
          refine (has_any c v1 v2 v3 (key 7) _ (hcl.below hbr)).mono ?_
          rintro e w2 ⟨rfl, hb2⟩
          have hbr2 := below_chain hbr hbr.size hb2
          clear hb2 e0 e1 e2 e3 e4 e5 e6 e7 e8 f0 f1 f2 f3 f4 f5
          obtain ⟨e0, e1, e2, e3, e4, e5, e6, e7, e8⟩ := C9 (hC.below hbr2 hCl)
          obtain ⟨f0, f1, f2, f3, f4, f5⟩ := C6 (hR.below hbr2 hRl)
          by_cases hi : inB c.has (key 7) = true
          ·replace HA : Hid (overB c r = decide (c.until_ + r.slack ≤ r.now)) := Lib.hid (by rw [HA.out, hi]; rfl)
           rw [hi]
           clear hi
           by_cases hx : c.until_ + r.slack ≤ r.now
           ·have HV : Hid (overB c r = true) := Lib.hid (by rw [HA.out, decide_eq_true hx])
            go_wp2_with fail
            go_meet
            exact ⟨by rw [HV.out], hbr2⟩
           ·have HV : Hid (overB c r = false) := Lib.hid (by rw [HA.out, decide_eq_false hx])
            go_wp2_with fail
            go_meet
            exact ⟨by rw [HV.out, decide_eq_false (by omega)], hbr2⟩
          ·rw [Bool.not_eq_true] at hi
           have HV : Hid (overB c r = false) := Lib.hid (by rw [HA.out, hi]; rfl)
           rw [hi]
           clear hi
           go_wp2_with fail
           go_meet
           exact ⟨by rw [HV.out], hbr2⟩
         case rest =>
          clear hbr
          obtain ⟨rfl, hbr⟩ := hcut
          have hbs := hbr.size
          cases hq : overB c r with
          | true =>
           have HV : Hid (judgeP c r = ⟨3, c.until_, [], []⟩) := Lib.hid (by rw [HJ.out, judge4, if_pos hq])
           clear hq
           obtain ⟨e0, e1, e2, e3, e4, e5, e6, e7, e8⟩ := C9 (hC.below hbr hCl)
           obtain ⟨f0, f1, f2, f3, f4, f5⟩ := C6 (hR.below hbr hRl)
           go_wp2
           go_ret
           refine ⟨_, rfl, ?_, below_chain hbw1 hbw1.size hbr⟩
           rw [HV.out]
           exact rfl
          | false =>
           replace HJ : Hid (judgeP c r = judge5 c r) := Lib.hid (by rw [HJ.out, judge4, if_neg (by rw [hq]; decide)])
           clear hq
           obtain ⟨e0, e1, e2, e3, e4, e5, e6, e7, e8⟩ := C9 (hC.below hbr hCl)
           obtain ⟨f0, f1, f2, f3, f4, f5⟩ := C6 (hR.below hbr hRl)
           have HA : Hid (judgeP c r = if (lackF c.may_ [] r.may_).isEmpty = true then ⟨1, if inB c.has (key 7) = true then c.until_ else -1, [], []⟩ else ⟨7, 0, [], lackF c.may_ [] r.may_⟩) := Lib.hid HJ.out
           go_wp2_with fail
           refine (lacking_any u3 v3 r.may_ c.may_ _ (hrl.may.below hbr) (hcl.may.below hbr) hrl.nmay hcl.nmay).mono ?_
           rintro e w2 ⟨⟨s, rfl, hown⟩, hb2⟩
           have hbr2 := below_chain hbr hbr.size hb2
           clear e0 e1 e2 e3 e4 e5 e6 e7 e8 f0 f1 f2 f3 f4 f5
           generalize lackF c.may_ [] r.may_ = q at *
           obtain ⟨A9, c9, rfl⟩ := own_sliceP hown
           cases q with
           | nil =>
            simp only [List.length_nil] at hown ⊢
            replace HA : Hid (judgeP c r = ⟨1, if inB c.has (key 7) = true then c.until_ else -1, [], []⟩) := Lib.hid (by rw [HA.out]; rfl)
            clear hown
            obtain ⟨e0, e1, e2, e3, e4, e5, e6, e7, e8⟩ := C9 (hC.below hbr2 hCl)
            obtain ⟨f0, f1, f2, f3, f4, f5⟩ := C6 (hR.below hbr2 hRl)
            go_wp2_with fail
            refine (has_any c v1 v2 v3 (key 7) _ (hcl.below hbr2)).mono ?_
            rintro e w3 ⟨rfl, hb3⟩
            have hbr3 := below_chain hbr2 hbr2.size hb3
            clear hb3 e0 e1 e2 e3 e4 e5 e6 e7 e8 f0 f1 f2 f3 f4 f5
            obtain ⟨e0, e1, e2, e3, e4, e5, e6, e7, e8⟩ := C9 (hC.below hbr3 hCl)
            obtain ⟨f0, f1, f2, f3, f4, f5⟩ := C6 (hR.below hbr3 hRl)
            by_cases hi : inB c.has (key 7) = true
            ·have HV : Hid (judgeP c r = ⟨1, c.until_, [], []⟩) := Lib.hid (by rw [HA.out, if_pos hi])
             rw [hi]
             clear hi
             go_wp2
             go_ret
             refine ⟨_, rfl, ?_, below_chain hbw1 hbw1.size hbr3⟩
             rw [HV.out]
             exact rfl
            ·have HV : Hid (judgeP c r = ⟨1, -1, [], []⟩) := Lib.hid (by rw [HA.out, if_neg hi])
             rw [Bool.not_eq_true] at hi
             rw [hi]
             clear hi
             go_wp2
             go_ret
             refine ⟨_, rfl, ?_, below_chain hbw1 hbw1.size hbr3⟩
             rw [HV.out]
             exact rfl
           | cons x q =>
            have HV : Hid (judgeP c r = ⟨7, 0, [], x :: q⟩) := Lib.hid (by rw [HA.out]; rfl)
            have hz0 : (0 : Int) < ((x :: q).length : Int) := by rw [List.length_cons]; omega
            have hz2 : decide (0 < (x :: q).length) = true := by simp
            generalize x :: q = y at *
            go_wp2
            go_ret
            refine ⟨_, rfl, ?_, below_chain hbw1 hbw1.size hbr2⟩
            rw [HV.out]
            exact ⟨_, rfl, Joins.ownsRow_le hown (by omega)⟩
end Go.Proofs.YtobaldkipnhlpaaGreatDoor
