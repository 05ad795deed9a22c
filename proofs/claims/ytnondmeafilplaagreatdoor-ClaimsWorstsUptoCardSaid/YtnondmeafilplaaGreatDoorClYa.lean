/-
  The statement ClaimsWorsts: its loop (printed by wip/gen_cly.py).
-/
import Derived.Test.YtnondmeafilplaaGreatDoorClX
import Derived.Test.YtnondmeafilplaaGreatDoorClS
import Derived.Test.YtnondmeafilplaaGreatDoorClO
namespace Go.Proofs.YtnondmeafilplaaGreatDoor
open Go.RowKit Mem Utf Ref3 Tok Cl
set_option linter.unusedVariables false

noncomputable def cwTail : Code := nextOf (nextOf (nextOf (nextOf (nextOf (Tryz.f3.body.getD .skip)))))

set_option maxRecDepth 100000 in
set_option maxHeartbeats 4000000 in
theorem cw_tail (l : List C) (r : R) (A A1 A2 A3 : Option Addr) (q k1 k2 k3 gQ : Nat) (v : Value) (ix : Int) (bt : Bool) (w w4 : World)
    (h : ClsAt w A l) (hl : l.length ≤ 1048576) (hr : RuAt w r (.slice A1 r.by_.length k1) (.slice A2 r.need.length k2) (.slice A3 r.may_.length k3))
    (HIX : Hid ((worstP r l).2 = ix)) (HV0 : Hid (VerdV w.heap.size w4 v (worstP r l).1)) (HBT : Hid ((Cl.isTime r.now && Cl.isTime r.slack) = bt))
    (hQ0 : Blk w4 gQ 31 #[.int .i64 r.now, .int .i64 r.slack, .string ⟨r.who.toArray⟩, .slice A1 r.by_.length k1, .slice A2 r.need.length k2, .slice A3 r.may_.length k3]) (hbw4 : Below w.heap.size w w4) (z1 z2 z4 z10 z11 z12 z13 z14 z15 z16 z17 z18 z19 z20 z21 z22 z23 z24 z25 z26 z27 z28 z29 z30 z31 z32 z33 z34 z35 z36 z37 z38 z39 z40 z41 z42 z43 z44 z45 z46 z47 z48 z49 z50 z51 z52 z53 z54 z55 z56 z57 z58 z59 z60 z61 z62 z63 z64 z65 z66 z67 z68 z69 z70 z71 z72 z73 z74 z75 z76 z77 z78 z79 z80 z81 z82 z83 z84 z85 z86 z87 z88 z89 z90 z91 z92 : Value) :
    Code.wp Tryz.prog cwTail (bodyPost Tryz.prog Tryz.f3 (fun e w' => e = .returned (.bool true) ∧ Below w.heap.size w w')) { tmps := (.slice A l.length q :: z1 :: z2 :: .pointer (some ⟨w.heap.size, 0, none⟩) :: z4 :: v :: .int .i64 ix :: .pointer (some ⟨gQ, 0, none⟩) :: .bool bt :: .int .i64 (-1) :: z10 :: z11 :: z12 :: z13 :: z14 :: z15 :: z16 :: z17 :: z18 :: z19 :: z20 :: z21 :: z22 :: z23 :: z24 :: z25 :: z26 :: z27 :: z28 :: z29 :: z30 :: z31 :: z32 :: z33 :: z34 :: z35 :: z36 :: z37 :: z38 :: z39 :: z40 :: z41 :: z42 :: z43 :: z44 :: z45 :: z46 :: z47 :: z48 :: z49 :: z50 :: z51 :: z52 :: z53 :: z54 :: z55 :: z56 :: z57 :: z58 :: z59 :: z60 :: z61 :: z62 :: z63 :: z64 :: z65 :: z66 :: z67 :: z68 :: z69 :: z70 :: z71 :: z72 :: z73 :: z74 :: z75 :: z76 :: z77 :: z78 :: z79 :: z80 :: z81 :: z82 :: z83 :: z84 :: z85 :: z86 :: z87 :: z88 :: z89 :: z90 :: z91 :: z92 :: []).toArray, defers := [] } w4 := by
  have hq : ∀ (w : World) o, (w.alloc o).heap.size = w.heap.size + 1 := fun w o => by simp
  conv => arg 2; whnf
  go_wp2_with fail
  go_loopw [9, 31] (fun c9 c31 wr => ∃ (k : Nat) (u : Int), k ≤ l.length ∧ c31 = .int .i64 k ∧ c9 = .int .i64 u ∧ Hid (worstK r k u (l.drop k) = worstP r l) ∧ Blk wr gQ 31 #[.int .i64 r.now, .int .i64 r.slack, .string ⟨r.who.toArray⟩, .slice A1 r.by_.length k1, .slice A2 r.need.length k2, .slice A3 r.may_.length k3] ∧ Below w4.heap.size w4 wr) (fun _ c31 _ => l.length - (intOf c31).toNat)
  case atStart => exact ⟨0, -1, by omega, rfl, rfl, Lib.hid rfl, hQ0, Below.refl _ _⟩
  case round =>
    clear hQ0
    obtain ⟨k, u, hk, rfl, rfl, H, hQ, hb4r⟩ := hrel
    have hbwr := below_chain hbw4 hbw4.size hb4r
    by_cases hlt : k < l.length
    · have hst := worstK_drop (r := r) (u := u) hlt
      rw [H.out] at hst
      have Hst := Lib.hid hst
      clear hst H
      obtain ⟨g, o, v1, v2, v3, hA, hg, h9, hcl⟩ := h.below hbwr k hlt
      subst hA
      generalize l[k] = c at *
      have hrr := hr.below hbwr
      obtain ⟨A4, j1, e1, _⟩ := hcl.has
      obtain ⟨A5, j2, e2, _⟩ := hcl.for_
      obtain ⟨A6, j3, e3, _⟩ := hcl.may
      subst e1; subst e2; subst e3
      obtain ⟨x0, x1, x2, x3, x4, x5, x6, x7, x8⟩ := h9
      have hi0 : (0 : Int) ≤ (k : Int) := by omega
      have hi1 : (k : Int) < (l.length : Int) := by omega
      go_wp2_with fail
      refine (twin_any c _ _ _ _ hcl).mono ?_
      rintro e w5 ⟨rfl, hb5⟩
      have hQl := hQ.lt
      have hQ5 := hQ.below hb5 hQ.lt
      have hbw5 := below_chain hbwr hbwr.size hb5
      have hs5 := hbw5.size
      have hcl5 := hcl.below hb5
      have hrr5 := hrr.below hb5
      clear x0 x1 x2 x3 x4 x5 x6 x7 x8 hcl hrr hQ
      have hZ := Blk.new w5 40 zCells
      obtain ⟨bm, hbm⟩ : ∃ bm, mayB c = bm := ⟨_, rfl⟩
      rw [hbm]
      have HBM := Lib.hid hbm
      clear hbm
      have hone : ∀ v ∈ (dCells (is c) c (.slice A5 c.for_.length j2) (.slice A6 c.may_.length j3)).toList, v.oneCell' = true := by simp [dCells, Value.oneCell']
      have hzs : (dCells (is c) c (.slice A5 c.for_.length j2) (.slice A6 c.may_.length j3)).size = zCells.size := rfl
      have hzi : (Tryz.prog.info? 40).map (·.size) = some (dCells (is c) c (.slice A5 c.for_.length j2) (.slice A6 c.may_.length j3)).size := by kernel_rfl
      generalize hD : (dCells (is c) c (.slice A5 c.for_.length j2) (.slice A6 c.may_.length j3)) = ds at *
      go_upto_region 10 with (refine wpList_store_row rfl 40 (.tmp 11) (.tmp 40) rfl w5.heap.size 40 zCells ds rfl rfl hZ hzs hone hzi rfl ?_)
      have hZ6 : Blk (putCells (w5.alloc (.cells #[.bool false, .bool false, .bool false, .bool false, .bool false, .bool false, .bool false, .bool false, .string ⟨#[]⟩, .string ⟨#[]⟩, .string ⟨#[]⟩, .string ⟨#[]⟩, .string ⟨#[]⟩, .string ⟨#[]⟩, .string ⟨#[]⟩, .string ⟨#[]⟩, .int .i64 0, .int .i64 0, .int .i64 0, .int .i64 0, .int .i64 0, .int .i64 0, .int .i64 0, .int .i64 0, .slice none 0 0, .slice none 0 0, .slice none 0 0, .slice none 0 0, .slice none 0 0, .slice none 0 0, .slice none 0 0, .slice none 0 0] 40)) w5.heap.size ds.toList 0) w5.heap.size 40 ds := by
        have := putCells_blk ds.toList _ 0 _ hZ
        rwa [putList_all hzs] at this
      have hQ6 : Blk (putCells (w5.alloc (.cells #[.bool false, .bool false, .bool false, .bool false, .bool false, .bool false, .bool false, .bool false, .string ⟨#[]⟩, .string ⟨#[]⟩, .string ⟨#[]⟩, .string ⟨#[]⟩, .string ⟨#[]⟩, .string ⟨#[]⟩, .string ⟨#[]⟩, .string ⟨#[]⟩, .int .i64 0, .int .i64 0, .int .i64 0, .int .i64 0, .int .i64 0, .int .i64 0, .int .i64 0, .int .i64 0, .slice none 0 0, .slice none 0 0, .slice none 0 0, .slice none 0 0, .slice none 0 0, .slice none 0 0, .slice none 0 0, .slice none 0 0] 40)) w5.heap.size ds.toList 0) gQ 31 #[.int .i64 r.now, .int .i64 r.slack, .string ⟨r.who.toArray⟩, .slice A1 r.by_.length k1, .slice A2 r.need.length k2, .slice A3 r.may_.length k3] := putCells_far (by have := hQ5.lt; omega) ds.toList _ 0 _ _ (hQ5.alloc _)
      have hb56 : Below w5.heap.size w5 (putCells (w5.alloc (.cells #[.bool false, .bool false, .bool false, .bool false, .bool false, .bool false, .bool false, .bool false, .string ⟨#[]⟩, .string ⟨#[]⟩, .string ⟨#[]⟩, .string ⟨#[]⟩, .string ⟨#[]⟩, .string ⟨#[]⟩, .string ⟨#[]⟩, .string ⟨#[]⟩, .int .i64 0, .int .i64 0, .int .i64 0, .int .i64 0, .int .i64 0, .int .i64 0, .int .i64 0, .int .i64 0, .slice none 0 0, .slice none 0 0, .slice none 0 0, .slice none 0 0, .slice none 0 0, .slice none 0 0, .slice none 0 0, .slice none 0 0] 40)) w5.heap.size ds.toList 0) := putCells_below (Nat.le_refl _) ds.toList _ _ 0 ((Below.refl _ _).alloc (Nat.le_refl _) _)
      clear hZ hone hzs
      generalize (putCells (w5.alloc (.cells #[.bool false, .bool false, .bool false, .bool false, .bool false, .bool false, .bool false, .bool false, .string ⟨#[]⟩, .string ⟨#[]⟩, .string ⟨#[]⟩, .string ⟨#[]⟩, .string ⟨#[]⟩, .string ⟨#[]⟩, .string ⟨#[]⟩, .string ⟨#[]⟩, .int .i64 0, .int .i64 0, .int .i64 0, .int .i64 0, .int .i64 0, .int .i64 0, .int .i64 0, .int .i64 0, .slice none 0 0, .slice none 0 0, .slice none 0 0, .slice none 0 0, .slice none 0 0, .slice none 0 0, .slice none 0 0, .slice none 0 0] 40)) w5.heap.size ds.toList 0) = w6 at *
      have hbw6 := below_chain hbw5 hbw5.size hb56
      have hs6 := hbw6.size
      have hb46 := below_chain (below_chain hb4r hb4r.size hb5) (Nat.le_trans hb4r.size hb5.size) hb56
      cases bm with
      | false =>
        have hfit : fit c r = false := by rw [fit, HBM.out]; rfl
        have hst := Hst.out
        rw [judgeP_unfit hfit] at hst
        have HW : Hid (worstP r l = (⟨0, 0, [], []⟩, (k : Int))) := Lib.hid (by rw [hst, if_neg (by decide)])
        have hix : ix = (k : Int) := by rw [← HIX.out, HW.out]
        subst hix
        have hv := HV0.out
        rw [HW.out] at hv
        obtain ⟨b, hbb, rfl, hBk⟩ := (hv : ∃ b, w.heap.size ≤ b ∧ v = .iface 92 (.pointer (some ⟨b, 0, none⟩)) ∧ Blk w4 b 95 #[.iface 46 (.int .i64 2)])
        clear hst hfit Hst HW
        have he : ((k : Int) == (k : Int)) = true := by simp
        have hBk6 := hBk.below hb46 hBk.lt
        go_wp2_with fail
        refine (broken_any b _ hBk6).mono ?_
        rintro e w7 ⟨rfl, hb7⟩
        go_wp2
        go_ret
        exact ⟨rfl, below_chain hbw6 hbw6.size hb7⟩
      | true =>
        cases bt with
        | false =>
          have hfit : fit c r = false := by rw [fit, HBT.out, Bool.and_false]
          have hst := Hst.out
          rw [judgeP_unfit hfit] at hst
          have HW : Hid (worstP r l = (⟨0, 0, [], []⟩, (k : Int))) := Lib.hid (by rw [hst, if_neg (by decide)])
          have hix : ix = (k : Int) := by rw [← HIX.out, HW.out]
          subst hix
          have hv := HV0.out
          rw [HW.out] at hv
          obtain ⟨b, hbb, rfl, hBk⟩ := (hv : ∃ b, w.heap.size ≤ b ∧ v = .iface 92 (.pointer (some ⟨b, 0, none⟩)) ∧ Blk w4 b 95 #[.iface 46 (.int .i64 2)])
          clear hst hfit Hst HW
          have he : ((k : Int) == (k : Int)) = true := by simp
          have hBk6 := hBk.below hb46 hBk.lt
          go_wp2_with fail
          refine (broken_any b _ hBk6).mono ?_
          rintro e w7 ⟨rfl, hb7⟩
          go_wp2
          go_ret
          exact ⟨rfl, below_chain hbw6 hbw6.size hb7⟩
        | true =>
          have hfit : fit c r = true := by rw [fit, HBM.out, HBT.out]; rfl
          have hst := Hst.out
          have HJ := refJudge_any c r (.slice A4 c.has.length j1) (.slice A5 c.for_.length j2) (.slice A6 c.may_.length j3) (.slice A1 r.by_.length k1) (.slice A2 r.need.length k2) (.slice A3 r.may_.length k3) w6 (hcl5.below hb56) (hrr5.below hb56) hfit
          rw [hD] at HJ
          have hkd := judge0_kind c r
          have hln := judge0_len (N := 1099511627776) hcl5.nfor hrr5.nmay
          rw [judgeP_fit hfit] at hst
          unfold RefJudgeP at HJ
          obtain ⟨x, hx⟩ : ∃ x, judge0 c r = x := ⟨_, rfl⟩
          rw [hx] at hst hkd hln HJ
          clear hfit hx
          obtain ⟨K, T, S, L⟩ := x
          simp only [] at hst hkd hln
          have Hst2 := Lib.hid hst
          clear hst Hst
          have hCC := hZ6
          unfold Blk at hCC
          obtain ⟨f0, f1, f2, f3, f4, f5⟩ := C6 hQ6
          go_wp2_with (refine wpList_load_row rfl 40 (.tmp 11) rfl _ rfl 40 _ (0, 0) _ hCC Tryz.underlying40 rfl (by kernel_rfl) ?_)
          refine HJ.mono ?_
          rintro e w7 ⟨y, rfl, ⟨sl, rfl, hrs⟩, hb7⟩
          simp only [] at hrs ⊢
          obtain ⟨A7, j7, e7, hA7⟩ := hrs
          subst e7
          have hrs : Rd w7 (.slice A7 L.length j7) L := ⟨A7, j7, rfl, hA7⟩
          have hQ7 := hQ6.below hb7 hQ6.lt
          have hb47 := below_chain hb46 (Nat.le_trans hb46.size (Nat.le_refl _)) hb7
          have hbw7 := below_chain hbw6 hbw6.size hb7
          have hs7 := hbw7.size
          have hs47 := hb47.size
          clear hA7 HJ hCC f0 f1 f2 f3 f4 f5 hQ6 hZ6
          have hQa := hQ7.alloc
          have hba := fun o => hb47.alloc hs47 o
          by_cases hk1 : K = 1
          · subst hk1
            have Hst3 : Hid (worstP r l = worstK r (k + 1) (if 0 ≤ T ∧ (u < 0 ∨ T < u) then T else u) (l.drop (k + 1))) := Lib.hid (by rw [Hst2.out, if_pos rfl])
            clear Hst2 hkd hQ7 hb47
            by_cases ht : 0 ≤ T
            · by_cases hu : u < 0
              · have HN : Hid (worstK r (k + 1) T (l.drop (k + 1)) = worstP r l) := Lib.hid (by rw [Hst3.out, if_pos ⟨ht, .inl hu⟩])
                clear Hst3
                go_wp2
                go_roundw
                case rel => exact ⟨k + 1, T, by omega, by go_num, rfl, HN, hQa _, hba _⟩
                case measure => simp [intOf]; omega
              · by_cases htu : T < u
                · have HN : Hid (worstK r (k + 1) T (l.drop (k + 1)) = worstP r l) := Lib.hid (by rw [Hst3.out, if_pos ⟨ht, .inr htu⟩])
                  clear Hst3
                  go_wp2
                  go_roundw
                  case rel => exact ⟨k + 1, T, by omega, by go_num, rfl, HN, hQa _, hba _⟩
                  case measure => simp [intOf]; omega
                · have HN : Hid (worstK r (k + 1) u (l.drop (k + 1)) = worstP r l) := Lib.hid (by rw [Hst3.out, if_neg (by omega)])
                  clear Hst3
                  go_wp2
                  go_roundw
                  case rel => exact ⟨k + 1, u, by omega, by go_num, rfl, HN, hQa _, hba _⟩
                  case measure => simp [intOf]; omega
            · have HN : Hid (worstK r (k + 1) u (l.drop (k + 1)) = worstP r l) := Lib.hid (by rw [Hst3.out, if_neg (by omega)])
              clear Hst3
              go_wp2
              go_roundw
              case rel => exact ⟨k + 1, u, by omega, by go_num, rfl, HN, hQa _, hba _⟩
              case measure => simp [intOf]; omega
          · have HW : Hid (worstP r l = (⟨K, T, S, L⟩, (k : Int))) := Lib.hid (by rw [Hst2.out, if_neg hk1])
            have hix : ix = (k : Int) := by rw [← HIX.out, HW.out]
            subst hix
            have hv := HV0.out
            rw [HW.out] at hv
            replace hv := hv.below hb47
            have hK2 : (1 : Int) < (K : Int) := by omega
            have hK3 := hkd.2
            have HV1 := Lib.hid hv
            have hln1 := hln
            clear hv HW Hst2 hkd hQ7 hb47 hk1 hln
            have he : ((k : Int) == (k : Int)) = true := by simp
            go_wp2_with fail
            refine (verdict_any w.heap.size v _ ⟨K, T, S, L⟩ _ (HV1.out.below ((Below.refl _ _).alloc (Nat.le_refl _) _)) ⟨_, rfl, hrs.below ((Below.refl _ _).alloc (Nat.le_refl _) _)⟩ ⟨by show 1 ≤ K; omega, hK3⟩ hln1).mono ?_
            rintro e w8 ⟨rfl, hb8⟩
            go_wp2
            go_ret
            exact ⟨rfl, below_chain (hbw7.alloc hs7 _) (by rw [hq]; omega) hb8⟩
    · obtain rfl : k = l.length := by omega
      have HW : Hid (worstP r l = (⟨1, u, [], []⟩, -1)) := Lib.hid (by rw [← H.out, List.drop_length]; rfl)
      have hix : ix = -1 := by rw [← HIX.out, HW.out]
      subst hix
      have hv := HV0.out
      rw [HW.out] at hv
      obtain rfl : v = _ := hv
      clear HW H hlt hk hQ
      go_wp2_with fail
      refine (verdict1_any u ⟨#[]⟩ none 0 0 _).mono ?_
      rintro e w7 ⟨rfl, hb7⟩
      go_wp2
      go_ret
      exact ⟨rfl, below_chain hbwr hbwr.size hb7⟩

end Go.Proofs.YtnondmeafilplaaGreatDoor
