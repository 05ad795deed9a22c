/-
  Walk of package claims: may (printed by wip/gen_cld.py).
  Walks of package claims: start (printed by wip/gen_clj.py).
-/
import Derived.Test.YtobaldkipnhlpaaGreatDoorS11
set_option linter.unusedVariables false
set_option linter.unusedSimpArgs false
set_option maxRecDepth 100000
set_option maxHeartbeats 16000000
namespace Go.Proofs.YtobaldkipnhlpaaGreatDoor
open Go.RowKit Mem Utf Ref3 Tok Cl

theorem C9 {w : World} {b : Nat} {t : TypeId} {a0 a1 a2 a3 a4 a5 a6 a7 a8 : Value} (h : Blk w b t #[a0, a1, a2, a3, a4, a5, a6, a7, a8]) :
  w.cell? ⟨b, 0, none⟩ = some a0 ∧ w.cell? ⟨b, 1, none⟩ = some a1 ∧ w.cell? ⟨b, 2, none⟩ = some a2 ∧ w.cell? ⟨b, 3, none⟩ = some a3 ∧ w.cell? ⟨b, 4, none⟩ = some a4 ∧
  w.cell? ⟨b, 5, none⟩ = some a5 ∧ w.cell? ⟨b, 6, none⟩ = some a6 ∧ w.cell? ⟨b, 7, none⟩ = some a7 ∧ w.cell? ⟨b, 8, none⟩ = some a8 :=
 ⟨h.cell 0, h.cell 1, h.cell 2, h.cell 3, h.cell 4, h.cell 5, h.cell 6, h.cell 7, h.cell 8⟩
theorem C5 {w : World} {b : Nat} {t : TypeId} {a0 a1 a2 a3 a4 : Value} (h : Blk w b t #[a0, a1, a2, a3, a4]) :
  w.cell? ⟨b, 0, none⟩ = some a0 ∧ w.cell? ⟨b, 1, none⟩ = some a1 ∧ w.cell? ⟨b, 2, none⟩ = some a2 ∧ w.cell? ⟨b, 3, none⟩ = some a3 ∧ w.cell? ⟨b, 4, none⟩ = some a4 :=
 ⟨h.cell 0, h.cell 1, h.cell 2, h.cell 3, h.cell 4⟩
def clCells (c : C) (v1 v2 v3 : Value) : Array Value := #[v1, .string ⟨c.about.toArray⟩, .int .i64 c.at_, .string ⟨c.by_.toArray⟩, v2, .int .i64 c.from_, .string ⟨c.id_.toArray⟩, v3, .int .i64 c.until_]
theorem text_at {w : World} {b : Nat} {t : TypeId} {c : C} {v1 v2 v3 : Value} {k : Nat} (h : Blk w b t (clCells c v1 v2 v3)) (hc : ClAt w c v1 v2 v3) (hk : k = 0 ∨ k = 2 ∨ k = 5) :
  ∃ s : Txt, w.cell? ⟨b, offK k, none⟩ = some (.string ⟨s.toArray⟩) ∧ (∀ i, valid c i k = txt i s) ∧ s.length ≤ 140737488355328 := by
 obtain ⟨e0, e1, e2, e3, e4, e5, e6, e7, e8⟩ := C9 h
 rcases hk with rfl | rfl | rfl
 ·exact ⟨_, e1, fun _ => rfl, hc.tabout⟩
 ·exact ⟨_, e3, fun _ => rfl, hc.tby⟩
 ·exact ⟨_, e6, fun _ => rfl, hc.tid⟩
theorem time_at {w : World} {b : Nat} {t : TypeId} {c : C} {v1 v2 v3 : Value} {k : Nat} (h : Blk w b t (clCells c v1 v2 v3)) (hk : k = 1 ∨ k = 4 ∨ k = 7) :
  ∃ s : Int, w.cell? ⟨b, offK k, none⟩ = some (.int .i64 s) ∧ (∀ i, valid c i k = tim i s) := by
 obtain ⟨e0, e1, e2, e3, e4, e5, e6, e7, e8⟩ := C9 h
 rcases hk with rfl | rfl | rfl
 ·exact ⟨_, e2, fun _ => rfl⟩
 ·exact ⟨_, e5, fun _ => rfl⟩
 ·exact ⟨_, e8, fun _ => rfl⟩
theorem list_at {w : World} {b : Nat} {t : TypeId} {c : C} {v1 v2 v3 : Value} {k : Nat} (h : Blk w b t (clCells c v1 v2 v3)) (hc : ClAt w c v1 v2 v3) (hk : k = 3 ∨ k = 6) :
  ∃ (s : List Txt) (A : Option Addr) (q : Nat), w.cell? ⟨b, offK k, none⟩ = some (.slice A s.length q) ∧ (∀ i, valid c i k = lst i s) ∧ Rd w (.slice A s.length q) s ∧ s.length ≤ 1099511627776 ∧ (∀ t ∈ s, t.length ≤ 140737488355328) := by
 obtain ⟨e0, e1, e2, e3, e4, e5, e6, e7, e8⟩ := C9 h
 rcases hk with rfl | rfl
 ·obtain ⟨A, q, rfl, hA⟩ := hc.for_
  exact ⟨_, A, q, e4, fun _ => rfl, ⟨A, q, rfl, hA⟩, hc.nfor, hc.efor⟩
 ·obtain ⟨A, q, rfl, hA⟩ := hc.may
  exact ⟨_, A, q, e7, fun _ => rfl, ⟨A, q, rfl, hA⟩, hc.nmay, hc.emay⟩
theorem has_at {w : World} {A : Option Addr} {l : List Txt} {q n : Nat} (h : Rd w (.slice A l.length q) l) (hn : n < l.length) : ∃ g o, A = some ⟨g, o, none⟩ ∧ w.cell? ⟨g, o + n, none⟩ = some (.string ⟨l[n].toArray⟩) := by
 obtain ⟨A', c', e, hc⟩ := h
 injection e with e1 _ _
 subst e1
 obtain ⟨g, o, h1, _, h3⟩ := hc n hn
 exact ⟨g, o, h1, h3⟩

theorem clMay_any (c : C) (v1 v2 v3 : Value) (w : World) (h : ClAt w c v1 v2 v3) :
  Calls Tryz.prog 69 #[.agg #[v1, .string ⟨c.about.toArray⟩, .int .i64 c.at_, .string ⟨c.by_.toArray⟩, v2, .int .i64 c.from_, .string ⟨c.id_.toArray⟩, v3, .int .i64 c.until_]] w fun e w' => e = .returned (.bool (mayB c)) ∧ Below w.heap.size w w' := by
 have hb0 : ∀ cs, Below w.heap.size w (w.alloc (.cells cs 38)) := fun cs => (Below.refl _ _).alloc (Nat.le_refl _) _
 have hnh := h.nhas
 obtain ⟨A1, k1, e1, hA1⟩ := h.has
 subst e1
 have n0 := fn_ne0
 have n1 := fn_ne1
 have n2 := fn_ne2
 have m0 := nil_ne0
 have m1 := nil_ne1
 have m2 := nil_ne2
 go_enter Tryz.func69, Tryz.ntmps69
 go_wp2_with fail
 refine (rows_any _).mono ?_
 rintro e w1 ⟨g, rd, rfl, hB, hg, hb1⟩
 have hC : Blk w1 w.heap.size 38 (clCells c (.slice A1 c.has.length k1) v2 v3) := (Blk.new w _ _).below hb1 (by simp)
 have hcl : ClAt w1 c (.slice A1 c.has.length k1) v2 v3 := (h.below (hb0 _)).below hb1
 have hbw1 := below_chain (hb0 _) (hb0 _).size hb1
 have hgl := hB.lt
 have hwl := hC.lt
 clear hb1 hb0 hA1 h
 go_wp2_with fail
 go_loopw [3, 12] (fun c3 c12 wr => ∃ k n : Nat, k ≤ 8 ∧ n ≤ k ∧ c12 = .int .i64 k ∧ c3 = .int .i64 n ∧ Hid (mayK c (8 - k) n = mayB c) ∧ Below w1.heap.size w1 wr) (fun _ c12 _ => 8 - (intOf c12).toNat)
 case atStart => exact ⟨0, 0, by omega, by omega, rfl, rfl, Lib.hid rfl, Below.refl _ _⟩
 case round =>
  obtain ⟨k, n, hk, hn, rfl, rfl, H, hbr⟩ := hrel
  have hBr := hB.below hbr hgl
  have hCr := hC.below hbr hwl
  have hclr := hcl.below hbr
  have hsz := hbr.size
  have hglr : g < wr.heap.size := by omega
  have hwlr : w.heap.size < wr.heap.size := by omega
  by_cases hlt : k < 8
  ·have hlt' : (k : Int) < 8 := by omega
   have hst := mayK_step (c := c) (n := n) hlt
   rw [H.out] at hst
   have Hst := Lib.hid hst
   have HF := Lib.hid (@fld_any k hlt)
   have HE := Lib.hid (@enter_any k hlt)
   clear hst
   rcases rows_at hBr hlt with ⟨hkind, hR⟩ | ⟨hkind, hR⟩ | ⟨hkind, hR⟩
   ·
    obtain ⟨r0, ⟨qv, dv, r1⟩, r2, r3, r4⟩ := hR
    obtain ⟨e0, e1, e2, e3, e4, e5, e6, e7, e8⟩ := C9 hCr
    unfold fnV at r2
    have Hkind := Lib.hid hkind
    clear hkind
    have HO : ∀ K, key k = K → Hid (order c k n = (inB c.has K && (decide (c.has.length ≤ n) || !(c.has.getD n [] == K))) ∧ is c k = inB c.has K) := fun K e => Lib.hid (by subst e; exact ⟨rfl, rfl⟩)
    obtain ⟨K, hK⟩ : ∃ K, key k = K := ⟨_, rfl⟩
    replace HO := HO K hK
    rw [hK] at r0
    clear hK
    generalize fnK k = F at *
    go_wp2_with fail
    refine (has_any c _ v2 v3 K _ (hclr.below ((Below.refl _ _).alloc (Nat.le_refl _) _))).mono ?_
    rintro e w2 ⟨rfl, hb2⟩
    have hX2 := (Blk.new wr _ _).below hb2 (by simp)
    have hC2 := (hCr.alloc _).below hb2 (by simp; omega)
    have hcl2 := (hclr.below ((Below.refl _ _).alloc (Nat.le_refl _) _)).below hb2
    have hbr2 := below_chain (hbr.alloc hbr.size _) (hbr.alloc hbr.size _).size hb2
    obtain ⟨x0, x1, x2, x3, x4⟩ := C5 hX2
    clear e0 e1 e2 e3 e4 e5 e6 e7 e8 r0 r1 r2 r3 r4 hb2
    obtain ⟨e0, e1, e2, e3, e4, e5, e6, e7, e8⟩ := C9 hC2
    obtain ⟨s, hsc, hval, hsl⟩ := text_at hC2 hcl2 Hkind.out
    replace hval := Lib.hid hval
    by_cases hi : inB c.has K = true
    ·rw [hi]
     by_cases hnl : c.has.length ≤ n
     ·have HV : Hid (mayB c = false) := Lib.hid (by rw [Hst.out, HO.out.1, hi, decide_eq_true hnl]; simp)
      have hd1 : (c.has.length : Int) ≤ (n : Int) := by omega
      have hd2 : decide (c.has.length ≤ n) = true := decide_eq_true hnl
      clear hnl hi
      go_wp2
      go_quiet (fail)
      go_wp2
      go_ret
      exact ⟨by rw [HV.out]; rfl, hbw1.trans ((hbr2.trans (drewN_below _ _)).mono hbw1.size)⟩
     ·have hnl' : n < c.has.length := by omega
      obtain ⟨g1, o1, hA1, hcn⟩ := has_at hcl2.has hnl'
      subst hA1
      have hgd := getD_at hnl'
      have hd1 : (n : Int) < (c.has.length : Int) := by omega
      have hd2 : decide (c.has.length ≤ n) = false := decide_eq_false hnl
      have hd3 : decide (n < c.has.length) = true := decide_eq_true hnl'
      have hd0 : (0 : Int) ≤ (n : Int) := by omega
      have HO' : Hid (order c k n = !(c.has[n] == K) ∧ is c k = true) := Lib.hid (by rw [HO.out.1, HO.out.2, hi, hd2, hgd]; simp)
      clear hgd hnl
      generalize c.has[n] = hn1 at *
      by_cases hh : hn1 = K
      ·subst hh
       have he : (!hn1 == hn1) = false := by simp
       have HV : ∀ b, valid c true k = b → Hid (mayB c = (b && mayK c (8 - (k + 1)) (n + 1))) := fun b hb => Lib.hid (by rw [Hst.out, HO'.out.1, HO'.out.2, hb]; simp)
       clear hi
       go_wp2
       go_quiet (fail)
       have hE := HE.out
       go_wp2_with fail
       clear hE
       refine (HF.out _ _).mono ?_
       rintro e w3 ⟨rfl, rfl⟩
       clear HF HE
       generalize offK k = off at *
       go_wp2_with fail
       refine (right_any ⟨s.toArray⟩ _ hsl).mono ?_
       rintro e w4 ⟨rfl, hb4⟩
       replace hb4 := hb4.toBelow
       have hbr4 := below_chain (hbr2.trans (drewN_below _ _)) (hbr2.trans (drewN_below _ _)).size hb4
       rw [show (ByteArray.mk s.toArray).data.toList = s from rfl, right_wrong]
       by_cases hr : (wrong s).1 = 0
       ·have HT : Hid (mayK c (8 - (k + 1)) (n + 1) = mayB c) := Lib.hid (by rw [(HV true (by rw [hval.out]; simp [txt, rightR, hr])).out]; simp)
        rw [decide_eq_true hr]
        clear hr
        go_wp2
        go_roundw
        case rel => exact ⟨k + 1, n + 1, by omega, by omega, by go_num, by go_num, HT, hbr4⟩
        case measure => simp [intOf]; omega
       ·have HT : Hid (mayB c = false) := Lib.hid (by rw [(HV false (by rw [hval.out]; simp [txt, rightR, hr])).out]; simp)
        rw [decide_eq_false hr]
        clear hr
        go_wp2
        go_ret
        exact ⟨by rw [HT.out]; rfl, hbw1.trans ((hbr4).mono hbw1.size)⟩
      ·have he : (!hn1 == K) = true := by simpa using hh
       have HV : Hid (mayB c = false) := Lib.hid (by rw [Hst.out, HO'.out.1, he]; simp)
       clear hi hh
       go_wp2
       go_quiet (fail)
       go_wp2
       go_ret
       exact ⟨by rw [HV.out]; rfl, hbw1.trans ((hbr2.trans (drewN_below _ _)).mono hbw1.size)⟩
    ·rw [Bool.not_eq_true] at hi
     rw [hi]
     have HV : ∀ b, valid c false k = b → Hid (mayB c = (b && mayK c (8 - (k + 1)) n)) := fun b hb => Lib.hid (by rw [Hst.out, HO.out.1, HO.out.2, hi, hb]; simp)
     clear hi
     go_wp2
     go_quiet (fail)
     have hE := HE.out
     go_wp2_with fail
     clear hE
     refine (HF.out _ _).mono ?_
     rintro e w3 ⟨rfl, rfl⟩
     clear HF HE
     generalize offK k = off at *
     by_cases hs : s = []
     ·subst hs
      go_wp2_with fail
      refine (right_any ⟨#[]⟩ _ (by decide)).mono ?_
      rintro e w4 ⟨rfl, hb4⟩
      replace hb4 := hb4.toBelow
      have hbr4 := below_chain (hbr2.trans (drewN_below _ _)) (hbr2.trans (drewN_below _ _)).size hb4
      rw [show isNil (chkV (ByteArray.mk #[]).data.toList) = true from by rw [show (ByteArray.mk #[]).data.toList = [] from rfl, right_wrong]; rfl]
      have HT : Hid (mayK c (8 - (k + 1)) (n) = mayB c) := Lib.hid (by rw [(HV true (by rw [hval.out]; rfl)).out]; simp)
      go_wp2
      go_roundw
      case rel => exact ⟨k + 1, n, by omega, by omega, by go_num, by go_num, HT, hbr4⟩
      case measure => simp [intOf]; omega
     ·have hz : s.isEmpty = false := by simpa using hs
      have HT : Hid (mayB c = false) := Lib.hid (by rw [(HV false (by rw [hval.out]; simp [txt, hz])).out]; simp)
      clear hs
      go_wp2
      go_ret
      exact ⟨by rw [HT.out]; rfl, hbw1.trans ((hbr2.trans (drewN_below _ _)).mono hbw1.size)⟩
   ·
    obtain ⟨r0, ⟨qv, dv, r1⟩, r2, r3, r4⟩ := hR
    obtain ⟨e0, e1, e2, e3, e4, e5, e6, e7, e8⟩ := C9 hCr
    unfold fnV at r3
    have Hkind := Lib.hid hkind
    clear hkind
    have HO : ∀ K, key k = K → Hid (order c k n = (inB c.has K && (decide (c.has.length ≤ n) || !(c.has.getD n [] == K))) ∧ is c k = inB c.has K) := fun K e => Lib.hid (by subst e; exact ⟨rfl, rfl⟩)
    obtain ⟨K, hK⟩ : ∃ K, key k = K := ⟨_, rfl⟩
    replace HO := HO K hK
    rw [hK] at r0
    clear hK
    generalize fnK k = F at *
    go_wp2_with fail
    refine (has_any c _ v2 v3 K _ (hclr.below ((Below.refl _ _).alloc (Nat.le_refl _) _))).mono ?_
    rintro e w2 ⟨rfl, hb2⟩
    have hX2 := (Blk.new wr _ _).below hb2 (by simp)
    have hC2 := (hCr.alloc _).below hb2 (by simp; omega)
    have hcl2 := (hclr.below ((Below.refl _ _).alloc (Nat.le_refl _) _)).below hb2
    have hbr2 := below_chain (hbr.alloc hbr.size _) (hbr.alloc hbr.size _).size hb2
    obtain ⟨x0, x1, x2, x3, x4⟩ := C5 hX2
    clear e0 e1 e2 e3 e4 e5 e6 e7 e8 r0 r1 r2 r3 r4 hb2
    obtain ⟨e0, e1, e2, e3, e4, e5, e6, e7, e8⟩ := C9 hC2
    obtain ⟨s, hsc, hval⟩ := time_at hC2 Hkind.out
    replace hval := Lib.hid hval
    by_cases hi : inB c.has K = true
    ·rw [hi]
     by_cases hnl : c.has.length ≤ n
     ·have HV : Hid (mayB c = false) := Lib.hid (by rw [Hst.out, HO.out.1, hi, decide_eq_true hnl]; simp)
      have hd1 : (c.has.length : Int) ≤ (n : Int) := by omega
      have hd2 : decide (c.has.length ≤ n) = true := decide_eq_true hnl
      clear hnl hi
      go_wp2
      go_quiet (fail)
      go_wp2
      go_ret
      exact ⟨by rw [HV.out]; rfl, hbw1.trans ((hbr2.trans (drewN_below _ _)).mono hbw1.size)⟩
     ·have hnl' : n < c.has.length := by omega
      obtain ⟨g1, o1, hA1, hcn⟩ := has_at hcl2.has hnl'
      subst hA1
      have hgd := getD_at hnl'
      have hd1 : (n : Int) < (c.has.length : Int) := by omega
      have hd2 : decide (c.has.length ≤ n) = false := decide_eq_false hnl
      have hd3 : decide (n < c.has.length) = true := decide_eq_true hnl'
      have hd0 : (0 : Int) ≤ (n : Int) := by omega
      have HO' : Hid (order c k n = !(c.has[n] == K) ∧ is c k = true) := Lib.hid (by rw [HO.out.1, HO.out.2, hi, hd2, hgd]; simp)
      clear hgd hnl
      generalize c.has[n] = hn1 at *
      by_cases hh : hn1 = K
      ·subst hh
       have he : (!hn1 == hn1) = false := by simp
       have HV : ∀ b, valid c true k = b → Hid (mayB c = (b && mayK c (8 - (k + 1)) (n + 1))) := fun b hb => Lib.hid (by rw [Hst.out, HO'.out.1, HO'.out.2, hb]; simp)
       clear hi
       go_wp2
       go_quiet (fail)
       have hE := HE.out
       go_wp2_with fail
       clear hE
       refine (HF.out _ _).mono ?_
       rintro e w3 ⟨rfl, rfl⟩
       clear HF HE
       generalize offK k = off at *
       go_wp2_with fail
       refine (isTime_any s _).mono ?_
       rintro e w4 ⟨rfl, rfl⟩
       by_cases hr : Cl.isTime s = true
       ·have HT : Hid (mayK c (8 - (k + 1)) (n + 1) = mayB c) := Lib.hid (by rw [(HV true (by rw [hval.out]; simp [tim, hr])).out]; simp)
        rw [hr]
        clear hr
        go_wp2
        go_roundw
        case rel => exact ⟨k + 1, n + 1, by omega, by omega, by go_num, by go_num, HT, hbr2.trans (drewN_below _ _)⟩
        case measure => simp [intOf]; omega
       ·rw [Bool.not_eq_true] at hr
        have HT : Hid (mayB c = false) := Lib.hid (by rw [(HV false (by rw [hval.out]; simp [tim, hr])).out]; simp)
        rw [hr]
        clear hr
        go_wp2
        go_ret
        exact ⟨by rw [HT.out]; rfl, hbw1.trans ((hbr2.trans (drewN_below _ _)).mono hbw1.size)⟩
      ·have he : (!hn1 == K) = true := by simpa using hh
       have HV : Hid (mayB c = false) := Lib.hid (by rw [Hst.out, HO'.out.1, he]; simp)
       clear hi hh
       go_wp2
       go_quiet (fail)
       go_wp2
       go_ret
       exact ⟨by rw [HV.out]; rfl, hbw1.trans ((hbr2.trans (drewN_below _ _)).mono hbw1.size)⟩
    ·rw [Bool.not_eq_true] at hi
     rw [hi]
     have HV : ∀ b, valid c false k = b → Hid (mayB c = (b && mayK c (8 - (k + 1)) n)) := fun b hb => Lib.hid (by rw [Hst.out, HO.out.1, HO.out.2, hi, hb]; simp)
     clear hi
     go_wp2
     go_quiet (fail)
     have hE := HE.out
     go_wp2_with fail
     clear hE
     refine (HF.out _ _).mono ?_
     rintro e w3 ⟨rfl, rfl⟩
     clear HF HE
     generalize offK k = off at *
     by_cases hs : s = 0
     ·subst hs
      go_wp2_with fail
      refine (isTime_any 0 _).mono ?_
      rintro e w4 ⟨rfl, rfl⟩
      rw [show Cl.isTime 0 = true from by decide]
      have HT : Hid (mayK c (8 - (k + 1)) (n) = mayB c) := Lib.hid (by rw [(HV true (by rw [hval.out]; decide)).out]; simp)
      go_wp2
      go_roundw
      case rel => exact ⟨k + 1, n, by omega, by omega, by go_num, by go_num, HT, hbr2.trans (drewN_below _ _)⟩
      case measure => simp [intOf]; omega
     ·have hz : (s != 0) = true := by simpa using hs
      have HT : Hid (mayB c = false) := Lib.hid (by rw [(HV false (by rw [hval.out]; simp [tim, hs])).out]; simp)
      clear hs
      go_wp2
      go_ret
      exact ⟨by rw [HT.out]; rfl, hbw1.trans ((hbr2.trans (drewN_below _ _)).mono hbw1.size)⟩
   ·
    obtain ⟨r0, ⟨qv, dv, r1⟩, r2, r3, r4⟩ := hR
    obtain ⟨e0, e1, e2, e3, e4, e5, e6, e7, e8⟩ := C9 hCr
    unfold fnV at r4
    have Hkind := Lib.hid hkind
    clear hkind
    have HO : ∀ K, key k = K → Hid (order c k n = (inB c.has K && (decide (c.has.length ≤ n) || !(c.has.getD n [] == K))) ∧ is c k = inB c.has K) := fun K e => Lib.hid (by subst e; exact ⟨rfl, rfl⟩)
    obtain ⟨K, hK⟩ : ∃ K, key k = K := ⟨_, rfl⟩
    replace HO := HO K hK
    rw [hK] at r0
    clear hK
    generalize fnK k = F at *
    go_wp2_with fail
    refine (has_any c _ v2 v3 K _ (hclr.below ((Below.refl _ _).alloc (Nat.le_refl _) _))).mono ?_
    rintro e w2 ⟨rfl, hb2⟩
    have hX2 := (Blk.new wr _ _).below hb2 (by simp)
    have hC2 := (hCr.alloc _).below hb2 (by simp; omega)
    have hcl2 := (hclr.below ((Below.refl _ _).alloc (Nat.le_refl _) _)).below hb2
    have hbr2 := below_chain (hbr.alloc hbr.size _) (hbr.alloc hbr.size _).size hb2
    obtain ⟨x0, x1, x2, x3, x4⟩ := C5 hX2
    clear e0 e1 e2 e3 e4 e5 e6 e7 e8 r0 r1 r2 r3 r4 hb2
    obtain ⟨e0, e1, e2, e3, e4, e5, e6, e7, e8⟩ := C9 hC2
    obtain ⟨s, A2, q2, hsc, hval, hsr, hsl, hse⟩ := list_at hC2 hcl2 Hkind.out
    replace hval := Lib.hid hval
    by_cases hi : inB c.has K = true
    ·rw [hi]
     by_cases hnl : c.has.length ≤ n
     ·have HV : Hid (mayB c = false) := Lib.hid (by rw [Hst.out, HO.out.1, hi, decide_eq_true hnl]; simp)
      have hd1 : (c.has.length : Int) ≤ (n : Int) := by omega
      have hd2 : decide (c.has.length ≤ n) = true := decide_eq_true hnl
      clear hnl hi
      go_wp2
      go_quiet (fail)
      go_wp2
      go_ret
      exact ⟨by rw [HV.out]; rfl, hbw1.trans ((hbr2.trans (drewN_below _ _)).mono hbw1.size)⟩
     ·have hnl' : n < c.has.length := by omega
      obtain ⟨g1, o1, hA1, hcn⟩ := has_at hcl2.has hnl'
      subst hA1
      have hgd := getD_at hnl'
      have hd1 : (n : Int) < (c.has.length : Int) := by omega
      have hd2 : decide (c.has.length ≤ n) = false := decide_eq_false hnl
      have hd3 : decide (n < c.has.length) = true := decide_eq_true hnl'
      have hd0 : (0 : Int) ≤ (n : Int) := by omega
      have HO' : Hid (order c k n = !(c.has[n] == K) ∧ is c k = true) := Lib.hid (by rw [HO.out.1, HO.out.2, hi, hd2, hgd]; simp)
      clear hgd hnl
      generalize c.has[n] = hn1 at *
      by_cases hh : hn1 = K
      ·subst hh
       have he : (!hn1 == hn1) = false := by simp
       have HV : ∀ b, valid c true k = b → Hid (mayB c = (b && mayK c (8 - (k + 1)) (n + 1))) := fun b hb => Lib.hid (by rw [Hst.out, HO'.out.1, HO'.out.2, hb]; simp)
       clear hi
       go_wp2
       go_quiet (fail)
       have hE := HE.out
       go_wp2_with fail
       clear hE
       refine (HF.out _ _).mono ?_
       rintro e w3 ⟨rfl, rfl⟩
       clear HF HE
       generalize offK k = off at *
       go_wp2_with fail
       refine (rightL_any _ s _ (hsr.below (drewN_below _ _)) hsl hse).mono ?_
       rintro e w4 ⟨rfl, hb4⟩
       have hbr4 := below_chain (hbr2.trans (drewN_below _ _)) (hbr2.trans (drewN_below _ _)).size hb4
       by_cases hr : rightL [] s = true
       ·have HT : Hid (mayK c (8 - (k + 1)) (n + 1) = mayB c) := Lib.hid (by rw [(HV true (by rw [hval.out]; simp [lst, hr])).out]; simp)
        rw [hr]
        clear hr
        go_wp2
        go_roundw
        case rel => exact ⟨k + 1, n + 1, by omega, by omega, by go_num, by go_num, HT, hbr4⟩
        case measure => simp [intOf]; omega
       ·rw [Bool.not_eq_true] at hr
        have HT : Hid (mayB c = false) := Lib.hid (by rw [(HV false (by rw [hval.out]; simp [lst, hr])).out]; simp)
        rw [hr]
        clear hr
        go_wp2
        go_ret
        exact ⟨by rw [HT.out]; rfl, hbw1.trans ((hbr4).mono hbw1.size)⟩
      ·have he : (!hn1 == K) = true := by simpa using hh
       have HV : Hid (mayB c = false) := Lib.hid (by rw [Hst.out, HO'.out.1, he]; simp)
       clear hi hh
       go_wp2
       go_quiet (fail)
       go_wp2
       go_ret
       exact ⟨by rw [HV.out]; rfl, hbw1.trans ((hbr2.trans (drewN_below _ _)).mono hbw1.size)⟩
    ·rw [Bool.not_eq_true] at hi
     rw [hi]
     have HV : ∀ b, valid c false k = b → Hid (mayB c = (b && mayK c (8 - (k + 1)) n)) := fun b hb => Lib.hid (by rw [Hst.out, HO.out.1, HO.out.2, hi, hb]; simp)
     clear hi
     go_wp2
     go_quiet (fail)
     have hE := HE.out
     go_wp2_with fail
     clear hE
     refine (HF.out _ _).mono ?_
     rintro e w3 ⟨rfl, rfl⟩
     clear HF HE
     generalize offK k = off at *
     by_cases hs : s.isEmpty = true
     ·rw [List.isEmpty_iff] at hs
      subst hs
      simp only [List.length_nil] at hsc hsr
      go_wp2_with fail
      refine (rightL_any _ [] _ (hsr.below (drewN_below _ _)) (by decide) (by simp)).mono ?_
      rintro e w4 ⟨rfl, hb4⟩
      have hbr4 := below_chain (hbr2.trans (drewN_below _ _)) (hbr2.trans (drewN_below _ _)).size hb4
      rw [show rightL [] [] = true from rfl]
      have HT : Hid (mayK c (8 - (k + 1)) (n) = mayB c) := Lib.hid (by rw [(HV true (by rw [hval.out]; rfl)).out]; simp)
      go_wp2
      go_roundw
      case rel => exact ⟨k + 1, n, by omega, by omega, by go_num, by go_num, HT, hbr4⟩
      case measure => simp [intOf]; omega
     ·have hz : (0 : Int) < (s.length : Int) := by
       rw [List.isEmpty_iff_length_eq_zero] at hs
       omega
      have hz2 : decide (0 < s.length) = true := by
       rw [List.isEmpty_iff_length_eq_zero] at hs
       exact decide_eq_true (by omega)
      have HT : Hid (mayB c = false) := Lib.hid (by rw [(HV false (by rw [hval.out]; simp [lst, hs])).out]; simp)
      clear hs
      go_wp2
      go_ret
      exact ⟨by rw [HT.out]; rfl, hbw1.trans ((hbr2.trans (drewN_below _ _)).mono hbw1.size)⟩
  ·obtain rfl : k = 8 := by omega
   have HT : Hid (mayB c = (n == c.has.length)) := Lib.hid (by rw [← H.out]; rfl)
   obtain ⟨e0, e1, e2, e3, e4, e5, e6, e7, e8⟩ := C9 hCr
   by_cases hnl : n = c.has.length
   ·have HV : Hid (mayB c = true) := Lib.hid (by rw [HT.out]; simpa using hnl)
    have he : ((n : Int) == (c.has.length : Int)) = true := by simp [hnl]
    clear hnl
    go_wp2
    go_ret
    exact ⟨by rw [HV.out]; rfl, hbw1.trans (hbr.mono hbw1.size)⟩
   ·have HV : Hid (mayB c = false) := Lib.hid (by rw [HT.out]; simpa using hnl)
    have he : ((n : Int) == (c.has.length : Int)) = false := by rw [beq_eq_false_iff_ne]; omega
    clear hnl
    go_wp2
    go_ret
    exact ⟨by rw [HV.out]; rfl, hbw1.trans (hbr.mono hbw1.size)⟩
end Go.Proofs.YtobaldkipnhlpaaGreatDoor
namespace Go.Proofs.YtobaldkipnhlpaaGreatDoor
open Go.RowKit Mem Utf Ref3 Tok Cl

def startV (x : Int × Bool) : Value := .tuple #[.int .i64 x.1, .bool x.2]
theorem start_any (c : C) (v1 v2 v3 : Value) (w : World) (h : ClAt w c v1 v2 v3) :
  Calls Tryz.prog 74 #[.agg #[v1, .string ⟨c.about.toArray⟩, .int .i64 c.at_, .string ⟨c.by_.toArray⟩, v2, .int .i64 c.from_, .string ⟨c.id_.toArray⟩, v3, .int .i64 c.until_]] w fun e w' => e = .returned (startV (startP c)) ∧ Below w.heap.size w w' := by
 have hb0 : ∀ cs, Below w.heap.size w (w.alloc (.cells cs 38)) := fun cs => (Below.refl _ _).alloc (Nat.le_refl _) _
 have HS : Hid (startP c = if inB c.has (key 1) = true then (max (if inB c.has (key 4) = true then c.from_ else 0) c.at_, true) else if inB c.has (key 4) = true then (c.from_, true) else (0, false)) := Lib.hid rfl
 go_enter Tryz.func74, Tryz.ntmps74
 go_wp2_with fail
 refine (has_any c v1 v2 v3 (key 4) _ (h.below (hb0 _))).mono ?_
 rintro e w1 ⟨rfl, hb1⟩
 have hC : Blk w1 w.heap.size 38 (clCells c v1 v2 v3) := (Blk.new w _ _).below hb1 (by simp)
 have hcl : ClAt w1 c v1 v2 v3 := (h.below (hb0 _)).below hb1
 have hbw1 := below_chain (hb0 _) (hb0 _).size hb1
 have hwl := hC.lt
 obtain ⟨e0, e1, e2, e3, e4, e5, e6, e7, e8⟩ := C9 hC
 clear hb0 hb1 h
 by_cases h4 : inB c.has (key 4) = true
 ·
  have h4 := h4
  have G4 := Lib.hid h4
  rw [h4]
  clear h4
  go_wp2_with fail
  refine (has_any c v1 v2 v3 (key 1) _ hcl).mono ?_
  rintro e w2 ⟨rfl, hb2⟩
  clear e0 e1 e2 e3 e4 e5 e6 e7 e8
  have h4 := G4.out
  by_cases h1 : inB c.has (key 1) = true
  ·
   have HV : Hid (startP c = (max (c.from_) c.at_, true)) := Lib.hid (by rw [HS.out, h1, h4]; rfl)
   rw [h1]
   clear h1 h4 HS
   obtain ⟨e0, e1, e2, e3, e4, e5, e6, e7, e8⟩ := C9 (hC.below hb2 hwl)
   go_wp2
   go_ret2
   exact ⟨by rw [HV.out]; rfl, below_chain hbw1 hbw1.size hb2⟩
  ·rw [Bool.not_eq_true] at h1
   have HV : Hid (startP c = (c.from_, true)) := Lib.hid (by rw [HS.out, h1, h4]; rfl)
   rw [h1]
   clear h1 h4 HS
   obtain ⟨e0, e1, e2, e3, e4, e5, e6, e7, e8⟩ := C9 (hC.below hb2 hwl)
   go_wp2
   go_ret2
   exact ⟨by rw [HV.out]; rfl, below_chain hbw1 hbw1.size hb2⟩
 ·
  rw [Bool.not_eq_true] at h4
  have G4 := Lib.hid h4
  rw [h4]
  clear h4
  go_wp2_with fail
  refine (has_any c v1 v2 v3 (key 1) _ hcl).mono ?_
  rintro e w2 ⟨rfl, hb2⟩
  clear e0 e1 e2 e3 e4 e5 e6 e7 e8
  have h4 := G4.out
  by_cases h1 : inB c.has (key 1) = true
  ·
   have HV : Hid (startP c = (max (0) c.at_, true)) := Lib.hid (by rw [HS.out, h1, h4]; rfl)
   rw [h1]
   clear h1 h4 HS
   obtain ⟨e0, e1, e2, e3, e4, e5, e6, e7, e8⟩ := C9 (hC.below hb2 hwl)
   go_wp2
   go_ret2
   exact ⟨by rw [HV.out]; rfl, below_chain hbw1 hbw1.size hb2⟩
  ·rw [Bool.not_eq_true] at h1
   have HV : Hid (startP c = (0, false)) := Lib.hid (by rw [HS.out, h1, h4]; rfl)
   rw [h1]
   clear h1 h4 HS
   obtain ⟨e0, e1, e2, e3, e4, e5, e6, e7, e8⟩ := C9 (hC.below hb2 hwl)
   go_wp2
   go_ret2
   exact ⟨by rw [HV.out]; rfl, below_chain hbw1 hbw1.size hb2⟩
end Go.Proofs.YtobaldkipnhlpaaGreatDoor
