/-
  Walk of package claims: Within (printed by wip/gen_clv.py).
-/
import Derived.Test.YtnondmeafilplaaGreatDoorClVP
import Derived.Test.YtnondmeafilplaaGreatDoorClW
namespace Go.Proofs.YtnondmeafilplaaGreatDoor
open Go.RowKit Mem Utf Ref3 Tok Cl
set_option linter.unusedVariables false

/-- an error at a pointer -/
def trV (x : Int × Txt) : Value := .iface 138 (.agg #[.int .i64 x.1, .string ⟨x.2.toArray⟩])
theorem info_err : (Tryz.prog.info? 53).map (fun i => (i.zero, i.size, i.bytes)) = some (some .nilIface, 1, 16) := by kernel_rfl
theorem trail_any (n : Int) (p : Txt) (w : World) : Calls Tryz.prog 37 #[.int .i64 n, .string ⟨p.toArray⟩] w fun e w' => e = .returned (trV (n, p)) ∧ w = w' := by
  go_enter Tryz.func37, Tryz.ntmps37
  go_wp2
  go_ret
  exact ⟨rfl, rfl⟩
def WithinP (c o : C) (w : World) (e : Ending) (w' : World) : Prop :=
  Below w.heap.size w w' ∧ ((mayB c && mayB o) = false → e = .returned (.iface 46 (.int .i64 2))) ∧
  ((mayB c && mayB o) = true → badL c o = [] → e = .returned .nilIface) ∧
  ((mayB c && mayB o) = true → badL c o ≠ [] → ∃ v, e = .returned (.iface 105 v) ∧ w'.ownsRow w.heap.size 53 1 v (badL c o).length ((badL c o).map trV))

set_option maxRecDepth 100000 in
set_option maxHeartbeats 16000000 in
theorem within_any (c o : C) (v1 v2 v3 y1 y2 y3 : Value) (w : World) (h : ClAt w c v1 v2 v3) (ho : ClAt w o y1 y2 y3) (hg : Glob w) :
    Calls Tryz.prog 15 #[.agg #[v1, .string ⟨c.about.toArray⟩, .int .i64 c.at_, .string ⟨c.by_.toArray⟩, v2, .int .i64 c.from_, .string ⟨c.id_.toArray⟩, v3, .int .i64 c.until_], .agg #[y1, .string ⟨o.about.toArray⟩, .int .i64 o.at_, .string ⟨o.by_.toArray⟩, y2, .int .i64 o.from_, .string ⟨o.id_.toArray⟩, y3, .int .i64 o.until_]] w (WithinP c o w) := by
  have hq : ∀ (w : World) o, (w.alloc o).heap.size = w.heap.size + 1 := fun w o => by simp
  have hzm : 1 < w.heap.size := by
    obtain ⟨m, hm⟩ := hg
    exact World.block_lt_of_cell? w _ hm
  obtain ⟨i0, hi0, hz0, hz1, hz2⟩ := info_parts info_err
  obtain ⟨A1, k1, e1, _⟩ := h.has
  obtain ⟨A2, k2, e2, _⟩ := h.for_
  obtain ⟨A3, k3, e3, _⟩ := h.may
  obtain ⟨B1, j1, e4, _⟩ := ho.has
  obtain ⟨B2, j2, e5, _⟩ := ho.for_
  obtain ⟨B3, j3, e6, _⟩ := ho.may
  subst e1; subst e2; subst e3; subst e4; subst e5; subst e6
  have hb0 : ∀ cs ds, Below w.heap.size w ((w.alloc (.cells cs 44)).alloc (.cells ds 44)) := fun cs ds => ((Below.refl _ _).alloc (Nat.le_refl _) _).alloc (by simp) _
  have hC0 := (Blk.new w 44 #[(.slice A1 c.has.length k1), .string ⟨c.about.toArray⟩, .int .i64 c.at_, .string ⟨c.by_.toArray⟩, (.slice A2 c.for_.length k2), .int .i64 c.from_, .string ⟨c.id_.toArray⟩, (.slice A3 c.may_.length k3), .int .i64 c.until_]).alloc (.cells #[(.slice B1 o.has.length j1), .string ⟨o.about.toArray⟩, .int .i64 o.at_, .string ⟨o.by_.toArray⟩, (.slice B2 o.for_.length j2), .int .i64 o.from_, .string ⟨o.id_.toArray⟩, (.slice B3 o.may_.length j3), .int .i64 o.until_] 44)
  have hO0 := Blk.new (w.alloc (.cells #[(.slice A1 c.has.length k1), .string ⟨c.about.toArray⟩, .int .i64 c.at_, .string ⟨c.by_.toArray⟩, (.slice A2 c.for_.length k2), .int .i64 c.from_, .string ⟨c.id_.toArray⟩, (.slice A3 c.may_.length k3), .int .i64 c.until_] 44)) 44 #[(.slice B1 o.has.length j1), .string ⟨o.about.toArray⟩, .int .i64 o.at_, .string ⟨o.by_.toArray⟩, (.slice B2 o.for_.length j2), .int .i64 o.from_, .string ⟨o.id_.toArray⟩, (.slice B3 o.may_.length j3), .int .i64 o.until_]
  rw [hq] at hO0
  have HM : Hid (WithinP c o w = WithinP c o w) := Lib.hid rfl
  go_enter Tryz.func15, Tryz.ntmps15
  go_wp2_with fail
  refine (clMay_any c _ _ _ _ (h.below (hb0 _ _))).mono ?_
  rintro e w1 ⟨rfl, hb1⟩
  have hC1 := hC0.below hb1 (by rw [hq, hq]; omega)
  have hO1 := hO0.below hb1 (by rw [hq, hq]; omega)
  have hbw1 := below_chain (hb0 _ _) (by rw [hq, hq]; omega) hb1
  clear hC0 hO0 hb1 hb0
  obtain ⟨mc, hmc⟩ : ∃ b, mayB c = b := ⟨_, rfl⟩
  rw [hmc]
  cases mc with
  | false =>
    have hcond : (mayB c && mayB o) = false := by rw [hmc]; rfl
    clear hmc
    replace hcond := Lib.hid hcond
    go_wp2
    go_ret
    exact ⟨hbw1, fun _ => rfl, (fun h => by rw [hcond.out] at h; cases h), (fun h => by rw [hcond.out] at h; cases h)⟩
  | true =>
    have HMC := Lib.hid hmc
    clear hmc
    obtain ⟨e0, e1, e2, e3, e4, e5, e6, e7, e8⟩ := C9 hO1
    go_wp2_with fail
    refine (clMay_any o _ _ _ _ (ho.below hbw1)).mono ?_
    rintro e w2 ⟨rfl, hb2⟩
    have hC2 := hC1.below hb2 hC1.lt
    have hO2 := hO1.below hb2 hO1.lt
    have hbw2 := below_chain hbw1 hbw1.size hb2
    clear hC1 hO1 hb2 e0 e1 e2 e3 e4 e5 e6 e7 e8
    obtain ⟨mo, hmo⟩ : ∃ b, mayB o = b := ⟨_, rfl⟩
    rw [hmo]
    cases mo with
    | false =>
      have hcond : (mayB c && mayB o) = false := by rw [hmo, Bool.and_false]
      clear hmo
      replace hcond := Lib.hid hcond
      go_wp2
      go_ret
      exact ⟨hbw2, fun _ => rfl, (fun h => by rw [hcond.out] at h; cases h), (fun h => by rw [hcond.out] at h; cases h)⟩
    | true =>
      have hcond : (mayB c && mayB o) = true := by rw [HMC.out, hmo]; rfl
      have hhas := may_has hmo
      have hhl : o.has.length = (ksOf o).length := by rw [hhas, List.length_map]
      have h8 := ksOf_len o
      have HC := Lib.hid hcond
      have HH := Lib.hid hhas
      have HL := Lib.hid hhl
      have ho8 : o.has.length ≤ 8 := by omega
      clear hmo hcond hhas hhl h8
      obtain ⟨e0, e1, e2, e3, e4, e5, e6, e7, e8⟩ := C9 hO2
      go_wp2_with fail
      clear e0 e1 e2 e3 e4 e5 e6 e7 e8
      go_loopw [5, 23] (fun c5 c23 wr => ∃ n : Nat, n ≤ o.has.length ∧ c23 = .int .i64 n ∧ wr.ownsRow (w.heap.size + 2) 53 1 c5 (badsF c o ((ksOf o).take n)).length ((badsF c o ((ksOf o).take n)).map trV) ∧ Blk wr w.heap.size 44 #[(.slice A1 c.has.length k1), .string ⟨c.about.toArray⟩, .int .i64 c.at_, .string ⟨c.by_.toArray⟩, (.slice A2 c.for_.length k2), .int .i64 c.from_, .string ⟨c.id_.toArray⟩, (.slice A3 c.may_.length k3), .int .i64 c.until_] ∧ Blk wr (w.heap.size + 1) 44 #[(.slice B1 o.has.length j1), .string ⟨o.about.toArray⟩, .int .i64 o.at_, .string ⟨o.by_.toArray⟩, (.slice B2 o.for_.length j2), .int .i64 o.from_, .string ⟨o.id_.toArray⟩, (.slice B3 o.may_.length j3), .int .i64 o.until_] ∧ Below w.heap.size w wr) (fun _ c23 _ => o.has.length - (intOf c23).toNat)
      case atStart => exact ⟨0, by omega, rfl, World.ownsRow_nil _ _ _ _, hC2, hO2, hbw2⟩
      case round =>
        clear hC2 hO2 hbw2
        obtain ⟨n, hn, rfl, hown, hC, hO, hbw⟩ := hrel
        have hql := badsF_len c o ((ksOf o).take n)
        have hq8 : (badsF c o ((ksOf o).take n)).length ≤ 8 := by
          rw [List.length_take] at hql
          have := HL.out
          omega
        clear hql
        by_cases hlt : n < o.has.length
        · have hkl : n < (ksOf o).length := by rw [← HL.out]; exact hlt
          have hk8 := ksOf_lt hkl
          have hsn := badsF_snoc c o ((ksOf o).take n) (ksOf o)[n]
          rw [← List.take_succ_eq_append_getElem hkl] at hsn
          obtain ⟨gh, oh, hB1, hcell⟩ := has_at (ho.below hbw).has hlt
          have hkey : o.has[n] = key (ksOf o)[n] := by
            have h1 : ∀ l : List Txt, l = (ksOf o).map key → l[n]? = some (key (ksOf o)[n]) := fun l e => by rw [e, List.getElem?_map, List.getElem?_eq_getElem hkl]; rfl
            have h2 := h1 _ HH.out
            rw [List.getElem?_eq_getElem hlt] at h2
            exact Option.some.inj h2
          rw [hkey] at hcell
          subst hB1
          generalize (ksOf o)[n] = k at *
          have HSN := Lib.hid hsn
          have hkz := key_len hk8
          have hc3 := h.below hbw
          have ho3 := ho.below hbw
          clear hsn hkey hkl
          have hi0' : (0 : Int) ≤ (n : Int) := by omega
          have hi1 : (n : Int) < (o.has.length : Int) := by omega
          obtain ⟨A9, c9, e9⟩ := own_slice hown
          subst e9
          generalize badsF c o ((ksOf o).take n) = q at *
          go_wp2_with fail
          refine (down_any [] (key k) (by decide) (by omega) _ (hg.below hbw hzm)).mono ?_
          rintro e w3 ⟨hb3, _, HOk⟩
          obtain rfl := HOk _ (down_key hk8)
          clear HOk
          replace hc3 := hc3.below hb3
          replace ho3 := ho3.below hb3
          replace hown := own_below hown hb3
          replace hC := hC.below hb3 hC.lt
          replace hO := hO.below hb3 hO.lt
          replace hbw := below_chain hbw hbw.size hb3
          clear hb3 hcell
          go_upto_block 2 with fail
          go_cut [10] (fun c10 wx => c10 = .bool (widerB c o k) ∧ Below w3.heap.size w3 wx)
          case first =>
            obtain ⟨e0, e1, e2, e3, e4, e5, e6, e7, e8⟩ := C9 hC
            obtain ⟨f0, f1, f2, f3, f4, f5, f6, f7, f8⟩ := C9 hO
            rcases below8 hk8 with rfl | rfl | rfl | rfl | rfl | rfl | rfl | rfl
            · simp only [key]
              go_wp2_with fail
              go_meet
              exact ⟨rfl, Below.refl _ _⟩
            · simp only [key]
              go_wp2_with fail
              go_meet
              exact ⟨rfl, Below.refl _ _⟩
            · simp only [key]
              go_wp2_with fail
              go_meet
              exact ⟨rfl, Below.refl _ _⟩
            · simp only [key]
              have HWD : Hid (widerB c o 3 = (!(lackF o.for_ [] c.for_).isEmpty)) := Lib.hid rfl
              go_wp2_with fail
              refine (lacking_any _ _ c.for_ o.for_ _ (hc3.for_) (ho3.for_) hc3.nfor ho3.nfor).mono ?_
              rintro e w4 ⟨⟨y, rfl, hown⟩, hb4⟩
              obtain ⟨A8, q8, rfl⟩ := own_slice hown
              generalize lackF o.for_ [] c.for_ = L at *
              clear hown
              cases L with
              | nil =>
                have HV : Hid (widerB c o 3 = false) := Lib.hid (by rw [HWD.out]; rfl)
                simp only [List.length_nil]
                go_wp2_with fail
                go_meet
                exact ⟨by rw [HV.out], hb4⟩
              | cons x L =>
                have HV : Hid (widerB c o 3 = true) := Lib.hid (by rw [HWD.out]; rfl)
                have hz0 : (0 : Int) < ((x :: L).length : Int) := by rw [List.length_cons]; omega
                have hz2 : decide (0 < (x :: L).length) = true := by simp
                generalize x :: L = z at *
                go_wp2_with fail
                go_meet
                exact ⟨by rw [HV.out], hb4⟩
            · simp only [key]
              have HWD : Hid (widerB c o 4 = (decide (c.from_ < o.from_))) := Lib.hid rfl
              by_cases hx : c.from_ < o.from_
              · have HV : Hid (widerB c o 4 = true) := Lib.hid (by rw [HWD.out, decide_eq_true hx])
                go_wp2_with fail
                go_meet
                exact ⟨by rw [HV.out], Below.refl _ _⟩
              · have HV : Hid (widerB c o 4 = false) := Lib.hid (by rw [HWD.out, decide_eq_false hx])
                go_wp2_with fail
                go_meet
                exact ⟨by rw [HV.out], Below.refl _ _⟩
            · simp only [key]
              go_wp2_with fail
              go_meet
              exact ⟨rfl, Below.refl _ _⟩
            · simp only [key]
              have HWD : Hid (widerB c o 6 = (!(lackF o.may_ [] c.may_).isEmpty)) := Lib.hid rfl
              go_wp2_with fail
              refine (lacking_any _ _ c.may_ o.may_ _ (hc3.may) (ho3.may) hc3.nmay ho3.nmay).mono ?_
              rintro e w4 ⟨⟨y, rfl, hown⟩, hb4⟩
              obtain ⟨A8, q8, rfl⟩ := own_slice hown
              generalize lackF o.may_ [] c.may_ = L at *
              clear hown
              cases L with
              | nil =>
                have HV : Hid (widerB c o 6 = false) := Lib.hid (by rw [HWD.out]; rfl)
                simp only [List.length_nil]
                go_wp2_with fail
                go_meet
                exact ⟨by rw [HV.out], hb4⟩
              | cons x L =>
                have HV : Hid (widerB c o 6 = true) := Lib.hid (by rw [HWD.out]; rfl)
                have hz0 : (0 : Int) < ((x :: L).length : Int) := by rw [List.length_cons]; omega
                have hz2 : decide (0 < (x :: L).length) = true := by simp
                generalize x :: L = z at *
                go_wp2_with fail
                go_meet
                exact ⟨by rw [HV.out], hb4⟩
            · simp only [key]
              have HWD : Hid (widerB c o 7 = (decide (o.until_ < c.until_))) := Lib.hid rfl
              by_cases hx : o.until_ < c.until_
              · have HV : Hid (widerB c o 7 = true) := Lib.hid (by rw [HWD.out, decide_eq_true hx])
                go_wp2_with fail
                go_meet
                exact ⟨by rw [HV.out], Below.refl _ _⟩
              · have HV : Hid (widerB c o 7 = false) := Lib.hid (by rw [HWD.out, decide_eq_false hx])
                go_wp2_with fail
                go_meet
                exact ⟨by rw [HV.out], Below.refl _ _⟩

          case rest =>
            obtain ⟨rfl, hbc⟩ := hcut
            have hcc := hc3.below hbc
            have hoc := ho3.below hbc
            have hownc := own_below hown hbc
            have hCc := hC.below hbc hC.lt
            have hOc := hO.below hbc hO.lt
            have hbwc := below_chain hbw hbw.size hbc
            clear hc3 ho3 hown hC hO hbw hbc
            obtain ⟨e0, e1, e2, e3, e4, e5, e6, e7, e8⟩ := C9 hCc
            go_wp2_with fail
            refine (has_any c _ _ _ (key k) _ hcc).mono ?_
            rintro e w5 ⟨rfl, hb5⟩
            have hown5 := own_below hownc hb5
            have hC5 := hCc.below hb5 hCc.lt
            have hO5 := hOc.below hb5 hOc.lt
            have hbw5 := below_chain hbwc hbwc.size hb5
            have hs5 := hbw5.size
            clear hcc hoc hownc hCc hOc hbwc hb5 e0 e1 e2 e3 e4 e5 e6 e7 e8
            have hbk : badK c o k = if inB c.has (key k) = true then (if widerB c o k = true then [(251, 47 :: key k)] else []) else [(252, 47 :: key k)] := rfl
            have HBK := Lib.hid hbk
            clear hbk
            have hC5l := hC5.lt
            have hO5l := hO5.lt
            cases hi : inB c.has (key k) with
            | false =>
              have HN : Hid (badsF c o ((ksOf o).take (n + 1)) = q ++ [(252, 47 :: key k)]) := Lib.hid (by rw [HSN.out, HBK.out, hi]; rfl)
              clear hi HBK HSN
              generalize widerB c o k = bw at *
              go_wp2_with (first | (go_at_call 37; refine (trail_any 252 (47 :: key k) _).mono ?_; rintro e w' ⟨rfl, rfl⟩; unfold trV) | (at_builtin; go_must ( refine wpList_append_own _ rfl (.tmp 70) (.tmp 73) _ rfl (w.heap.size + 2) 53 i0 _ 1 16 Tryz.underlying105 hi0 hz0 hz1 hz2 rfl (by omega) (.slice A9 q.length c9) q.length (q.map trV) rfl (hown5.alloc _) ⟨w5.heap.size, 0, none⟩ 1 1 [.iface 138 (.agg #[.int .i64 252, .string ⟨(47 :: key k).toArray⟩])] rfl rfl (one_new _ _ _) (one_cell _ rfl) (by unfold maxLen; omega) (by omega) (by simp; omega) ?_); intro v9 w9 hown9 hgr9 hnil9))
              go_roundw
              case rel => exact ⟨n + 1, by omega, by go_num, by rw [HN.out, List.length_append, List.map_append]; exact hown9, (hC5.alloc _).only hgr9 (by intro e; have := (hown5.lt _ e.symm).1; omega), (hO5.alloc _).only hgr9 (by intro e; have := (hown5.lt _ e.symm).1; omega), (hbw5.alloc hs5 _).grown hgr9 (by simp; omega) (fun q hq => by have := (hown5.lt q hq).1; omega)⟩
              case measure => simp [intOf]; omega
            | true =>
              cases hwd : widerB c o k with
              | false =>
                have HN : Hid (badsF c o ((ksOf o).take (n + 1)) = q) := Lib.hid (by rw [HSN.out, HBK.out, hi, hwd]; simp)
                clear hi hwd HBK HSN
                go_wp2
                go_roundw
                case rel => exact ⟨n + 1, by omega, by go_num, by rw [HN.out]; exact hown5, hC5, hO5, hbw5⟩
                case measure => simp [intOf]; omega
              | true =>
                have HN : Hid (badsF c o ((ksOf o).take (n + 1)) = q ++ [(251, 47 :: key k)]) := Lib.hid (by rw [HSN.out, HBK.out, hi, hwd]; rfl)
                clear hi hwd HBK HSN
                go_wp2_with (first | (go_at_call 37; refine (trail_any 251 (47 :: key k) _).mono ?_; rintro e w' ⟨rfl, rfl⟩; unfold trV) | (at_builtin; go_must ( refine wpList_append_own _ rfl (.tmp 77) (.tmp 80) _ rfl (w.heap.size + 2) 53 i0 _ 1 16 Tryz.underlying105 hi0 hz0 hz1 hz2 rfl (by omega) (.slice A9 q.length c9) q.length (q.map trV) rfl (hown5.alloc _) ⟨w5.heap.size, 0, none⟩ 1 1 [.iface 138 (.agg #[.int .i64 251, .string ⟨(47 :: key k).toArray⟩])] rfl rfl (one_new _ _ _) (one_cell _ rfl) (by unfold maxLen; omega) (by omega) (by simp; omega) ?_); intro v9 w9 hown9 hgr9 hnil9))
                go_roundw
                case rel => exact ⟨n + 1, by omega, by go_num, by rw [HN.out, List.length_append, List.map_append]; exact hown9, (hC5.alloc _).only hgr9 (by intro e; have := (hown5.lt _ e.symm).1; omega), (hO5.alloc _).only hgr9 (by intro e; have := (hown5.lt _ e.symm).1; omega), (hbw5.alloc hs5 _).grown hgr9 (by simp; omega) (fun q hq => by have := (hown5.lt q hq).1; omega)⟩
                case measure => simp [intOf]; omega
        · obtain rfl : n = o.has.length := by omega
          have HN : Hid (badsF c o ((ksOf o).take o.has.length) = badL c o) := Lib.hid (by rw [HL.out, List.take_length]; rfl)
          have hcond := HC.out
          have HCC := Lib.hid hcond
          clear hcond hlt hn
          rw [HN.out] at hown
          have hown1 := hown
          have hbw1 := hbw
          obtain ⟨A9, c9, rfl⟩ := own_slice hown
          generalize hq9 : badL c o = q at *
          cases q with
          | nil =>
            have hq9' := Lib.hid hq9
            clear hq9
            simp only [List.length_nil]
            clear hown hown1
            go_wp2
            go_ret
            exact ⟨hbw, (fun h => by rw [HCC.out] at h; cases h), (fun _ _ => rfl), (fun _ h => absurd hq9'.out h)⟩
          | cons x q =>
            have hz0 : (0 : Int) < ((x :: q).length : Int) := by rw [List.length_cons]; omega
            have hz3 : decide (0 < (x :: q).length) = true := by simp
            have hne : Hid (badL c o = x :: q) := Lib.hid hq9
            clear hq9
            have hne2 : Hid (x :: q ≠ []) := Lib.hid (by simp)
            generalize x :: q = z at *
            have hown1 := Lib.hid (own_base hown (B' := w.heap.size) (by omega))
            clear hown
            go_wp2
            go_ret
            exact ⟨hbw, (fun h => by rw [HCC.out] at h; cases h), (fun _ h => absurd (hne.out.symm.trans h) hne2.out), (fun _ _ => ⟨_, rfl, by rw [hne.out]; exact hown1.out⟩)⟩
end Go.Proofs.YtnondmeafilplaaGreatDoor
