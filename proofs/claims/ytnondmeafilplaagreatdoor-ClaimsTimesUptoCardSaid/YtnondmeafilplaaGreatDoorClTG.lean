/-
  The statement ClaimsTimes of layer 25: its walk, its start (printed by wip/gen_clt.py).
-/
import Derived.Test.YtnondmeafilplaaGreatDoorClTF
import Derived.Test.YtnondmeafilplaaGreatDoorClT
import Derived.StillTailTactics
namespace Go.Proofs.YtnondmeafilplaaGreatDoor
open Go.RowKit Mem Utf Ref3 Tok Cl
set_option linter.unusedVariables false

theorem atQ_in (n : Int) : 0 ≤ atQ n ∧ atQ n ≤ 9007199254740991 := by
  unfold atQ
  omega
theorem vguard {v : Value} {x : Verd} (h : VForm v x) (t : TypeId) (a b : Operand) (W : World) : (eqGuard .eql t a b v .nilIface).run Tryz.prog W = .ok () W := by
  rcases h with ⟨_, rfl⟩ | ⟨_, _, rfl⟩ | ⟨_, _, rfl⟩ | ⟨_, _, rfl⟩ | ⟨_, _, rfl⟩ | ⟨_, _, rfl⟩ | ⟨_, _, rfl⟩ | ⟨_, _, rfl⟩ <;> rfl
set_option maxRecDepth 100000 in
set_option maxHeartbeats 8000000 in
theorem claimsTimes_any (c : C) (r0 : R) (later : Int) (v1 v2 v3 u1 u2 u3 : Value) (w : World) (h : ClAt w c v1 v2 v3) (hr0 : RuAt w r0 u1 u2 u3) :
    Calls Tryz.prog 7 #[.agg #[v1, .string ⟨c.about.toArray⟩, .int .i64 c.at_, .string ⟨c.by_.toArray⟩, v2, .int .i64 c.from_, .string ⟨c.id_.toArray⟩, v3, .int .i64 c.until_], .agg #[.int .i64 r0.now, .int .i64 r0.slack, .string ⟨r0.who.toArray⟩, u1, u2, u3], .int .i64 later] w (fun e w' => e = .returned (.bool true) ∧ Below w.heap.size w w') := by
  have hq : ∀ (w : World) o, (w.alloc o).heap.size = w.heap.size + 1 := fun w o => by simp
  obtain ⟨A1, k1, e1, _⟩ := h.has
  obtain ⟨A2, k2, e2, _⟩ := h.for_
  obtain ⟨A3, k3, e3, _⟩ := h.may
  obtain ⟨B1, j1, e4, _⟩ := hr0.by_
  obtain ⟨B2, j2, e5, _⟩ := hr0.need
  obtain ⟨B3, j3, e6, _⟩ := hr0.may
  subst e1; subst e2; subst e3; subst e4; subst e5; subst e6
  have hb0 : Below w.heap.size w ((w.alloc (.cells #[(.slice A1 c.has.length k1), .string ⟨c.about.toArray⟩, .int .i64 c.at_, .string ⟨c.by_.toArray⟩, (.slice A2 c.for_.length k2), .int .i64 c.from_, .string ⟨c.id_.toArray⟩, (.slice A3 c.may_.length k3), .int .i64 c.until_] 44)).alloc (.cells #[.int .i64 r0.now, .int .i64 r0.slack, .string ⟨r0.who.toArray⟩, (.slice B1 r0.by_.length j1), (.slice B2 r0.need.length j2), (.slice B3 r0.may_.length j3)] 25)) := ((Below.refl _ _).alloc (Nat.le_refl _) _).alloc (by simp) _
  have hC0 := (Blk.new w 44 #[(.slice A1 c.has.length k1), .string ⟨c.about.toArray⟩, .int .i64 c.at_, .string ⟨c.by_.toArray⟩, (.slice A2 c.for_.length k2), .int .i64 c.from_, .string ⟨c.id_.toArray⟩, (.slice A3 c.may_.length k3), .int .i64 c.until_]).alloc (.cells #[.int .i64 r0.now, .int .i64 r0.slack, .string ⟨r0.who.toArray⟩, (.slice B1 r0.by_.length j1), (.slice B2 r0.need.length j2), (.slice B3 r0.may_.length j3)] 25)
  have hR0 := Blk.new (w.alloc (.cells #[(.slice A1 c.has.length k1), .string ⟨c.about.toArray⟩, .int .i64 c.at_, .string ⟨c.by_.toArray⟩, (.slice A2 c.for_.length k2), .int .i64 c.from_, .string ⟨c.id_.toArray⟩, (.slice A3 c.may_.length k3), .int .i64 c.until_] 44)) 25 #[.int .i64 r0.now, .int .i64 r0.slack, .string ⟨r0.who.toArray⟩, (.slice B1 r0.by_.length j1), (.slice B2 r0.need.length j2), (.slice B3 r0.may_.length j3)]
  rw [hq] at hR0
  have ha1 := at25_any r0.now
  have ha2 := at25_any r0.slack
  have HA := Lib.hid (And.intro ha1 ha2)
  clear ha1 ha2
  go_enter Tryz.func7, Tryz.ntmps7
  go_upto_region 1 with fail
  go_cut [] (fun wx => Blk wx w.heap.size 44 #[(.slice A1 c.has.length k1), .string ⟨c.about.toArray⟩, .int .i64 c.at_, .string ⟨c.by_.toArray⟩, (.slice A2 c.for_.length k2), .int .i64 c.from_, .string ⟨c.id_.toArray⟩, (.slice A3 c.may_.length k3), .int .i64 c.until_] ∧ Blk wx (w.heap.size + 1) 25 #[.int .i64 (atQ r0.now), .int .i64 (atQ r0.slack), .string ⟨r0.who.toArray⟩, (.slice B1 r0.by_.length j1), (.slice B2 r0.need.length j2), (.slice B3 r0.may_.length j3)] ∧ Below w.heap.size w wx)
  case first =>
    generalize (w.alloc (.cells #[(.slice A1 c.has.length k1), .string ⟨c.about.toArray⟩, .int .i64 c.at_, .string ⟨c.by_.toArray⟩, (.slice A2 c.for_.length k2), .int .i64 c.from_, .string ⟨c.id_.toArray⟩, (.slice A3 c.may_.length k3), .int .i64 c.until_] 44)).alloc (.cells #[.int .i64 r0.now, .int .i64 r0.slack, .string ⟨r0.who.toArray⟩, (.slice B1 r0.by_.length j1), (.slice B2 r0.need.length j2), (.slice B3 r0.may_.length j3)] 25) = wa at *
    obtain ⟨f0, f1, f2, f3, f4, f5⟩ := C6 hR0
    have hfr0 := hR0.frozen 0
    have hfr1 := hR0.frozen 1
    clear f2 f3 f4 f5
    have hS : Blk ((wa.setCell ⟨w.heap.size + 1, 0, none⟩ (.int .i64 (atQ r0.now))).setCell ⟨w.heap.size + 1, 1, none⟩ (.int .i64 (atQ r0.slack))) w.heap.size 44 #[(.slice A1 c.has.length k1), .string ⟨c.about.toArray⟩, .int .i64 c.at_, .string ⟨c.by_.toArray⟩, (.slice A2 c.for_.length k2), .int .i64 c.from_, .string ⟨c.id_.toArray⟩, (.slice A3 c.may_.length k3), .int .i64 c.until_] ∧ Blk ((wa.setCell ⟨w.heap.size + 1, 0, none⟩ (.int .i64 (atQ r0.now))).setCell ⟨w.heap.size + 1, 1, none⟩ (.int .i64 (atQ r0.slack))) (w.heap.size + 1) 25 #[.int .i64 (atQ r0.now), .int .i64 (atQ r0.slack), .string ⟨r0.who.toArray⟩, (.slice B1 r0.by_.length j1), (.slice B2 r0.need.length j2), (.slice B3 r0.may_.length j3)] ∧ Below w.heap.size w ((wa.setCell ⟨w.heap.size + 1, 0, none⟩ (.int .i64 (atQ r0.now))).setCell ⟨w.heap.size + 1, 1, none⟩ (.int .i64 (atQ r0.slack))) :=
      ⟨(hC0.far (by show w.heap.size ≠ w.heap.size + 1; omega) _).far (by show w.heap.size ≠ w.heap.size + 1; omega) _, (hR0.put 0 _).put 1 _, (hb0.setCell (by show w.heap.size ≤ w.heap.size + 1; omega) _).setCell (by show w.heap.size ≤ w.heap.size + 1; omega) _⟩
    generalize atQ r0.now = p0 at *
    generalize atQ r0.slack = p1 at *
    go_still_tail 7, (by kernel_rfl)
    still_call ((HA.out.1 _).mono fun e w' ⟨h1, h2⟩ => ⟨h1, h2.symm⟩)
    repeat still_step
    still_call ((HA.out.2 _).mono fun e w' ⟨h1, h2⟩ => ⟨h1, h2.symm⟩)
    repeat still_step
    refine wpStill_nil ?_
    clear HA
    go_wp2_with fail
    go_meet
    exact ⟨hS.1, hS.2.1, hS.2.2.drew⟩
  case rest =>
    clear hb0 hC0 hR0 HA
    obtain ⟨hC, hR, hbw⟩ := hcut
    obtain ⟨hn1, hn2⟩ := atQ_in r0.now
    obtain ⟨hs1, hs2⟩ := atQ_in r0.slack
    obtain ⟨r, hrd⟩ : ∃ r : R, { r0 with now := atQ r0.now, slack := atQ r0.slack } = r := ⟨_, rfl⟩
    replace hR : Blk wc (w.heap.size + 1) 25 #[.int .i64 r.now, .int .i64 r.slack, .string ⟨r.who.toArray⟩, (.slice B1 r.by_.length j1), (.slice B2 r.need.length j2), (.slice B3 r.may_.length j3)] := by rw [← hrd]; exact hR
    have hr : RuAt w r (.slice B1 r.by_.length j1) (.slice B2 r.need.length j2) (.slice B3 r.may_.length j3) := by rw [← hrd]; exact ⟨hr0.by_, hr0.need, hr0.may, hr0.nby, hr0.nneed, hr0.nmay⟩
    replace hn1 : 0 ≤ r.now := by rw [← hrd]; exact hn1
    replace hn2 : r.now ≤ 9007199254740991 := by rw [← hrd]; exact hn2
    replace hs1 : 0 ≤ r.slack := by rw [← hrd]; exact hs1
    replace hs2 : r.slack ≤ 9007199254740991 := by rw [← hrd]; exact hs2
    clear hrd hr0
    obtain ⟨e0, e1, e2, e3, e4, e5, e6, e7, e8⟩ := C9 hC
    obtain ⟨f0, f1, f2, f3, f4, f5⟩ := C6 hR
    go_wp2_with fail
    refine (judge_any c r _ _ _ _ _ _ _ (h.below hbw) (hr.below hbw)).mono ?_
    rintro e w1 ⟨v, rfl, hv, hb1⟩
    have hC1 := hC.below hb1 hC.lt
    have hR1 := hR.below hb1 hR.lt
    have hbw1 := below_chain hbw hbw.size hb1
    have HV := Lib.hid (vfacts hv (judgeP_kind c r))
    have HVF := Lib.hid (vform hv (judgeP_kind c r))
    clear hC hR hbw hb1 hv e0 e1 e2 e3 e4 e5 e6 e7 e8 f0 f1 f2 f3 f4 f5
    obtain ⟨e0, e1, e2, e3, e4, e5, e6, e7, e8⟩ := C9 hC1
    obtain ⟨f0, f1, f2, f3, f4, f5⟩ := C6 hR1
    go_wp2_with fail
    refine (change_any c r _ _ _ _ _ _ _ (h.below hbw1) (hr.below hbw1)).mono ?_
    rintro e w2 ⟨rfl, hb2⟩
    have hC2 := hC1.below hb2 hC1.lt
    have hR2 := hR1.below hb2 hR1.lt
    have hbw2 := below_chain hbw1 hbw1.size hb2
    obtain ⟨pt, ok, hch⟩ : ∃ pt ok, changeP c r = (pt, ok) := ⟨_, _, rfl⟩
    rw [hch]
    have HCH := Lib.hid hch
    clear hC1 hR1 hbw1 hb2 hch e0 e1 e2 e3 e4 e5 e6 e7 e8 f0 f1 f2 f3 f4 f5
    obtain ⟨f0, f1, f2, f3, f4, f5⟩ := C6 hR2
    have hL3 := Blk.new w2 25 #[.int .i64 r.now, .int .i64 r.slack, .string ⟨r.who.toArray⟩, (.slice B1 r.by_.length j1), (.slice B2 r.need.length j2), (.slice B3 r.may_.length j3)]
    have hgB : w.heap.size + 1 < w2.heap.size := hR2.lt
    have hs3 : TSt w #[(.slice A1 c.has.length k1), .string ⟨c.about.toArray⟩, .int .i64 c.at_, .string ⟨c.by_.toArray⟩, (.slice A2 c.for_.length k2), .int .i64 c.from_, .string ⟨c.id_.toArray⟩, (.slice A3 c.may_.length k3), .int .i64 c.until_] #[.int .i64 r.now, .int .i64 r.slack, .string ⟨r.who.toArray⟩, (.slice B1 r.by_.length j1), (.slice B2 r.need.length j2), (.slice B3 r.may_.length j3)] #[.int .i64 r.now, .int .i64 r.slack, .string ⟨r.who.toArray⟩, (.slice B1 r.by_.length j1), (.slice B2 r.need.length j2), (.slice B3 r.may_.length j3)] w2.heap.size (w2.alloc (.cells #[.int .i64 r.now, .int .i64 r.slack, .string ⟨r.who.toArray⟩, (.slice B1 r.by_.length j1), (.slice B2 r.need.length j2), (.slice B3 r.may_.length j3)] 25)) := ⟨hC2.alloc _, hR2.alloc _, hL3, hgB, hbw2.alloc hbw2.size _⟩
    go_upto_region 5 with fail
    clear f0 f1 f2 f3 f4 f5 hL3
    generalize w2.alloc (.cells #[.int .i64 r.now, .int .i64 r.slack, .string ⟨r.who.toArray⟩, (.slice B1 r.by_.length j1), (.slice B2 r.need.length j2), (.slice B3 r.may_.length j3)] 25) = w3 at *
    generalize w2.heap.size = g at *
    clear hC2 hR2 hbw2
    obtain ⟨hx0, hx1⟩ := atQ_in later
    obtain ⟨x, hx⟩ : ∃ x, max r.now (atQ later) = x := ⟨_, rfl⟩
    go_cut [] (fun wx => TSt w #[(.slice A1 c.has.length k1), .string ⟨c.about.toArray⟩, .int .i64 c.at_, .string ⟨c.by_.toArray⟩, (.slice A2 c.for_.length k2), .int .i64 c.from_, .string ⟨c.id_.toArray⟩, (.slice A3 c.may_.length k3), .int .i64 c.until_] #[.int .i64 r.now, .int .i64 r.slack, .string ⟨r.who.toArray⟩, (.slice B1 r.by_.length j1), (.slice B2 r.need.length j2), (.slice B3 r.may_.length j3)] #[.int .i64 x, .int .i64 r.slack, .string ⟨r.who.toArray⟩, (.slice B1 r.by_.length j1), (.slice B2 r.need.length j2), (.slice B3 r.may_.length j3)] g wx)
    case first =>
      have ha := at25_any later
      generalize atQ later = q at *
      have HA := Lib.hid ha
      obtain ⟨f0, f1, f2, f3, f4, f5⟩ := C6 hs3.mR
      obtain ⟨d0, d1, d2, d3, d4, d5⟩ := C6 hs3.mL
      clear d1 d2 d3 d4 d5
      have hfr0 := hs3.mL.frozen 0
      have hmx : (if r.now < q then q else r.now) = x := by rw [← hx]; omega
      clear ha f1 f2 f3 f4 f5
      have hS : TSt w #[(.slice A1 c.has.length k1), .string ⟨c.about.toArray⟩, .int .i64 c.at_, .string ⟨c.by_.toArray⟩, (.slice A2 c.for_.length k2), .int .i64 c.from_, .string ⟨c.id_.toArray⟩, (.slice A3 c.may_.length k3), .int .i64 c.until_] #[.int .i64 r.now, .int .i64 r.slack, .string ⟨r.who.toArray⟩, (.slice B1 r.by_.length j1), (.slice B2 r.need.length j2), (.slice B3 r.may_.length j3)] #[.int .i64 x, .int .i64 r.slack, .string ⟨r.who.toArray⟩, (.slice B1 r.by_.length j1), (.slice B2 r.need.length j2), (.slice B3 r.may_.length j3)] g (w3.setCell ⟨g, 0, none⟩ (.int .i64 x)) := ⟨hs3.mC.far (by have := hs3.gB; show w.heap.size ≠ g; omega) _, hs3.mR.far (by have := hs3.gB; show w.heap.size + 1 ≠ g; omega) _, hs3.mL.put 0 _, hs3.gB, hs3.bel.setCell (by have := hs3.gB; show w.heap.size ≤ g; omega) _⟩
      go_still_tail 6, (by kernel_rfl)
      still_call ((HA.out _).mono fun e w' ⟨h1, h2⟩ => ⟨h1, h2.symm⟩)
      still_step
      still_step
      refine wpStill_nil ?_
      subst hx
      clear HA hmx
      go_wp2_with fail
      go_meet
      exact ⟨hS.mC, hS.mR, hS.mL, hS.gB, hS.bel.drew⟩
    case rest =>
      clear hs3
      have hst := hcut
      obtain ⟨hC4, hR4, hL4, _, hbw4⟩ := hcut
      obtain ⟨e0, e1, e2, e3, e4, e5, e6, e7, e8⟩ := C9 hC4
      obtain ⟨f0, f1, f2, f3, f4, f5⟩ := C6 hL4
      go_wp2_with fail
      refine (judge_any c { r with now := x } _ _ _ _ _ _ _ (h.below hbw4) (ru_now x (hr.below hbw4))).mono ?_
      rintro e w5 ⟨y, rfl, hy, hb5⟩
      have hs5 : TSt w #[(.slice A1 c.has.length k1), .string ⟨c.about.toArray⟩, .int .i64 c.at_, .string ⟨c.by_.toArray⟩, (.slice A2 c.for_.length k2), .int .i64 c.from_, .string ⟨c.id_.toArray⟩, (.slice A3 c.may_.length k3), .int .i64 c.until_] #[.int .i64 r.now, .int .i64 r.slack, .string ⟨r.who.toArray⟩, (.slice B1 r.by_.length j1), (.slice B2 r.need.length j2), (.slice B3 r.may_.length j3)] #[.int .i64 x, .int .i64 r.slack, .string ⟨r.who.toArray⟩, (.slice B1 r.by_.length j1), (.slice B2 r.need.length j2), (.slice B3 r.may_.length j3)] g w5 := hst.below hb5
      have hyk := judgeP_kind c { r with now := x }
      have HYF := Lib.hid (vform hy hyk)
      have hyv := vfacts hy hyk
      clear hC4 hR4 hL4 hbw4 hst hb5 hy hyk e0 e1 e2 e3 e4 e5 e6 e7 e8 f0 f1 f2 f3 f4 f5
      go_wp2_with fail
      refine (wakes25_any _).mono ?_
      rintro e w6 ⟨rfl, hb6⟩
      have hs6 := hs5.below hb6
      have n1 := HV.out.nil
      have n2 := hyv.nil
      clear hs5 hb6
      have HOK := Lib.hid (times_ok c r x (by rw [isTime_iff]; exact ⟨hn1, hn2⟩) (by rw [isTime_iff]; exact ⟨hs1, hs2⟩) (by omega) (by omega))
      have HB := Lib.hid (show 0 ≤ r.now ∧ r.now ≤ x ∧ x ≤ 9007199254740991 ∧ 0 ≤ r.slack ∧ r.slack ≤ 9007199254740991 from ⟨hn1, by omega, by omega, hs1, hs2⟩)
      have HHY := Lib.hid hyv
      clear hyv hx hx0 hx1 hn1 hn2 hs1 hs2
      have n3 := vguard HVF.out
      have n4 := vguard HYF.out
      go_upto_if 58 with fail
      go_cut [] (fun wx => wx = w6)
      case rest =>
        subst hcut
        go_step
        exact tm_tail1 c r x A1 A2 A3 B1 B2 B3 k1 k2 k3 j1 j2 j3 g v y _ _ w _ h hr HV.out HHY.out HYF HCH HOK HB hs6 _ _ _ _ _ _ _ _ _ _ _ _ _ _ _ _ _ _ _ _ _ _ _ _ _ _ _ _ _ _ _ _ _ _ _ _ _ _ _ _ _ _ _ _ _ _ _ _ _ _ _ _ _ _ _ _ _ _ _ _ _ _ _ _ _ _ _ _ _ _ _ _ _ _ _ _ _ _ _ _ _ _ _ _ _ _ _ _ _ _ _ _ _ _ _ _ _ _ _ _ _ _ _ _ _ _ _ _ _ _ _ _ _ _ _ _ _ _ _ _ _ _ _ _ _ _ _ _ _ _ _ _ _ _ _ _ _ _ _ _ _ _ _ _ _ _ _ _ _ _ _ _ _ _ _ _ _ _ _ _ _ _
      go_wp2_with fail
      go_meet
      exact rfl
end Go.Proofs.YtnondmeafilplaaGreatDoor
