/-
  The law ClaimsBack: its walk.
-/
import Derived.Test.YtbcckpnngonoeaaGreatDoorMK
import Derived.Test.YtbcckpnngonoeaaGreatDoorCmS
import Derived.Test.YtbcckpnngonoeaaGreatDoorCrQ
import Derived.Test.YtbcckpnngonoeaaGreatDoorCvT
import Derived.Test.YtbcckpnngonoeaaGreatDoorGF
import Derived.BigRegion
namespace Go.Proofs.YtbcckpnngonoeaaGreatDoor
open Go.RowKit Mem Utf Ref3 Idx Tok TokC Cl
set_option linter.unusedVariables false
set_option linter.unusedSimpArgs false
namespace Nd
theorem FitC.sz {c : C} (h : FitC c) : SzC c := ⟨by have := h.about; omega, by have := h.by_; omega, by have := h.id_; omega, fun t ht => by have := h.for_.2 t ht; omega, fun t ht => by have := h.may_.2 t ht; omega⟩
theorem readO_some {o : Option Tr} {c : C} (h : readO o = some c) : ∃ t, o = some t ∧ c = (readC t).1 ∧ (readC t).2 = [] := by
  cases o with
  | none => cases h
  | some t =>
    unfold readO at h
    dsimp only at h
    split at h
    · rename_i hs
      injection h with h
      exact ⟨t, rfl, h.symm, hs.2⟩
    · cases h
theorem readO_objC {c : C} (hm : mayB c = true) : readO (some (objC c)) = some c := by
  unfold readO
  dsimp only
  have h := read_make hm
  rw [if_pos ⟨rfl, by rw [h]⟩, h]
theorem made_tree {c : C} {w : World} {B g : Nat} (hm : mayB c = true) (h : TreeAt B w g (objC c)) : TreO w (some (objC c)) (.pointer (some ⟨g, 0, none⟩)) := by
  obtain ⟨_, hf, v, hb, hr⟩ := h
  exact .inr ⟨objC c, g, v, rfl, rfl, hb, RdT.toA hr, objC_ok hm hf, hf⟩
/-- what comes of Make, in one form -/
theorem makeP_two {c : C} {w w' : World} {e : Ending} (h : MakeP c w e w') : ∃ ta tb, e = .returned (.tuple #[ta, tb]) ∧ Below w.heap.size w w' ∧
    ((mayB c = false ∧ ta = .pointer none ∧ tb = .iface 46 (.int .i64 2)) ∨ (mayB c = true ∧ ta = .pointer none ∧ tb = .iface 46 (.int .i64 3)) ∨
      (mayB c = true ∧ ∃ g, ta = .pointer (some ⟨g, 0, none⟩) ∧ tb = .nilIface ∧ TreO w' (some (objC c)) ta)) := by
  obtain ⟨hb, ⟨h1, rfl⟩ | ⟨h1, _, rfl⟩ | ⟨h1, g, rfl, hT⟩⟩ := h
  · exact ⟨_, _, rfl, hb, .inl ⟨h1, rfl, rfl⟩⟩
  · exact ⟨_, _, rfl, hb, .inr (.inl ⟨h1, rfl, rfl⟩)⟩
  · exact ⟨_, _, rfl, hb, .inr (.inr ⟨h1, g, rfl, rfl, made_tree h1 hT⟩)⟩
set_option maxRecDepth 100000 in
set_option maxHeartbeats 16000000 in
theorem back_any (c : C) (v0 v4 v7 : Value) (v : Value) (ss : List Stp) (w : World) (hC : ClAt w c v0 v4 v7) (hz : SzC c) (hS : RdS w v ss) (hF : ∀ s ∈ ss, s.Fine) (hA : TabP w) :
    Calls Tryz.prog 4 #[.agg #[v0, .string ⟨c.about.toArray⟩, .int .i64 c.at_, .string ⟨c.by_.toArray⟩, v4, .int .i64 c.from_, .string ⟨c.id_.toArray⟩, v7, .int .i64 c.until_], v] w (TrueC w) := by
  have hba : Below w.heap.size w (w.alloc (.cells #[v0, .string ⟨c.about.toArray⟩, .int .i64 c.at_, .string ⟨c.by_.toArray⟩, v4, .int .i64 c.from_, .string ⟨c.id_.toArray⟩, v7, .int .i64 c.until_] 24)) := (Below.refl _ _).alloc (Nat.le_refl _) _
  have HC := Lib.hid hC
  have HSZ := Lib.hid hz
  have HS := Lib.hid hS
  have HF := Lib.hid hF
  have HA := Lib.hid hA
  have HB := Lib.hid hba
  have HBC := Lib.hid (show Blk (w.alloc (.cells #[v0, .string ⟨c.about.toArray⟩, .int .i64 c.at_, .string ⟨c.by_.toArray⟩, v4, .int .i64 c.from_, .string ⟨c.id_.toArray⟩, v7, .int .i64 c.until_] 24)) w.heap.size 24 (clCells c v0 v4 v7) from Blk.new w 24 #[v0, .string ⟨c.about.toArray⟩, .int .i64 c.at_, .string ⟨c.by_.toArray⟩, v4, .int .i64 c.from_, .string ⟨c.id_.toArray⟩, v7, .int .i64 c.until_])
  have q1 := err_ne_nil
  have q2 := err_ne_held
  have q3 := err_eq_nil
  have q4 := err_eq_held
  clear hC hz hS hF hA hba
  go_enter Tryz.func4, Tryz.ntmps4
  obtain ⟨e0, e1, e2, e3, e4, e5, e6, e7, e8⟩ := C9 HBC.out
  go_wp2_with fail
  clear e0 e1 e2 e3 e4 e5 e6 e7 e8
  generalize (w.alloc (.cells #[v0, .string ⟨c.about.toArray⟩, .int .i64 c.at_, .string ⟨c.by_.toArray⟩, v4, .int .i64 c.from_, .string ⟨c.id_.toArray⟩, v7, .int .i64 c.until_] 24)) = w1 at *
  ((with_reducible refine (make_any c v0 v4 v7 w1 (HC.out.below HB.out) HSZ.out).mono ?_); rintro e w2 he)
  obtain ⟨ta, tb, rfl, hb, he⟩ := makeP_two he
  replace HBC := Lib.hid (HBC.out.below hb HBC.out.lt)
  replace HB := Lib.hid (HB.out.trans (hb.mono HB.out.size))
  have HE := Lib.hid he
  clear hb he
  rcases HE.out with ⟨_, rfl, rfl⟩ | ⟨_, rfl, rfl⟩ | ⟨hm, g, rfl, rfl, hT⟩
  · have HBW := HB
    clear HB HBC HE
    go_wp2_with fail
    ((with_reducible refine (build_all v ss _ (HS.out.below HBW.out) HF.out).mono ?_); rintro e w3 ⟨hb, he⟩)
    obtain ⟨o, tp, er0, rfl, hT⟩ : ∃ o tp er0, e = .returned (.tuple #[tp, er0]) ∧ TreO w3 o tp := by
      cases hbt : buildT ss with
      | inl x =>
        rw [hbt] at he
        exact ⟨none, _, _, he, .inl ⟨rfl, rfl⟩⟩
      | inr t =>
        rw [hbt] at he
        obtain ⟨g, rfl, _, hfit, tv, hblk, hrd0⟩ := he
        exact ⟨some t, _, _, rfl, .inr ⟨t, g, tv, rfl, rfl, hblk, RdT.toA hrd0, (buildT_ok HF.out hbt).1, hfit⟩⟩
    have HT := Lib.hid hT
    clear he hT
    replace HBW := Lib.hid (HBW.out.trans (hb.mono HBW.out.size))
    clear hb
    go_wp2_with fail
    ((with_reducible refine (readO_any o tp w3 w3 HT.out (Below.refl _ _) (HA.out.next HBW.out)).mono ?_); rintro e w4 ⟨⟨d, y0, y4, y7, er, rfl, hCd, ho0, ho4, ho7, hEr⟩, hb⟩)
    have HER := Lib.hid hEr
    obtain ⟨B0, r0, hv0⟩ := own_sliceP ho0
    subst hv0
    obtain ⟨B4, r4, hv4⟩ := own_sliceP ho4
    subst hv4
    obtain ⟨B7, r7, hv7⟩ := own_sliceP ho7
    subst hv7
    have HCD := Lib.hid hCd
    replace HBW := Lib.hid (HBW.out.trans (hb.mono HBW.out.size))
    clear hb
    clear hCd hEr ho0 ho4 ho7
    unfold clCells
    have hb : Below w4.heap.size w4 (w4.alloc (.cells #[.slice B0 d.has.length r0, .string ⟨d.about.toArray⟩, .int .i64 d.at_, .string ⟨d.by_.toArray⟩, .slice B4 d.for_.length r4, .int .i64 d.from_, .string ⟨d.id_.toArray⟩, .slice B7 d.may_.length r7, .int .i64 d.until_] 24)) := (Below.refl _ _).alloc (Nat.le_refl _) _
    have HN := Lib.hid (Blk.new w4 24 #[.slice B0 d.has.length r0, .string ⟨d.about.toArray⟩, .int .i64 d.at_, .string ⟨d.by_.toArray⟩, .slice B4 d.for_.length r4, .int .i64 d.from_, .string ⟨d.id_.toArray⟩, .slice B7 d.may_.length r7, .int .i64 d.until_])
    replace HCD := Lib.hid (HCD.out.below hb)
    replace HBW := Lib.hid (HBW.out.trans (hb.mono HBW.out.size))
    clear hb
    have HOT := Lib.hid (show ∀ t, o = some t → t.Ok ∧ t.fit = true from fun t ho => by
      rcases HT.out with ⟨h, _⟩ | ⟨t', g, v', h, _, _, _, h1, h2⟩
      · rw [h] at ho
        cases ho
      · rw [h] at ho
        injection ho with ho
        subst ho
        exact ⟨h1, h2⟩)
    rcases HER.out with ⟨rfl, hro⟩ | ⟨hro, hdz, hEE⟩
    · obtain ⟨t, rfl, hdc, hnil⟩ := readO_some hro
      have hmay := (read_may (HOT.out t rfl).1 hnil).1
      rw [← hdc] at hmay
      have hfitc := readAt_fit (HOT.out t rfl).1 8 (Nat.le_refl _)
      have HSD := Lib.hid (show SzC d by rw [hdc]; exact FitC.sz hfitc)
      have HM := Lib.hid hmay
      clear hro hdc hnil hmay hfitc HT HER
      obtain ⟨d0, d1, d2, d3, d4, d5, d6, d7, d8⟩ := C9 HN.out
      go_wp2_with fail
      clear d0 d1 d2 d3 d4 d5 d6 d7 d8
      generalize (w4.alloc (.cells #[.slice B0 d.has.length r0, .string ⟨d.about.toArray⟩, .int .i64 d.at_, .string ⟨d.by_.toArray⟩, .slice B4 d.for_.length r4, .int .i64 d.from_, .string ⟨d.id_.toArray⟩, .slice B7 d.may_.length r7, .int .i64 d.until_] 24)) = w5 at *
      ((with_reducible refine (make_any d (.slice B0 d.has.length r0) (.slice B4 d.for_.length r4) (.slice B7 d.may_.length r7) w5 HCD.out HSD.out).mono ?_); rintro e w6 he)
      obtain ⟨ta, tb, rfl, hb, he⟩ := makeP_two he
      replace HN := Lib.hid (HN.out.below hb HN.out.lt)
      replace HCD := Lib.hid (HCD.out.below hb)
      replace HBW := Lib.hid (HBW.out.trans (hb.mono HBW.out.size))
      clear hb
      rcases he with ⟨h, _⟩ | ⟨_, rfl, rfl⟩ | ⟨hm, gx, rfl, rfl, hT⟩
      · rw [HM.out] at h
        cases h
      · go_wp2_with fail
        ((with_reducible refine (number25_any 3 _).mono ?_); rintro e w7 ⟨rfl, rfl⟩)
        go_wp2_with fail
        ((with_reducible refine (wakes25_any _).mono ?_); rintro e w8 ⟨rfl, hb⟩)
        replace HBW := Lib.hid (HBW.out.trans (hb.mono HBW.out.size))
        clear hb
        go_wp2
        go_ret
        exact ⟨rfl, HBW.out⟩
      · have HT := Lib.hid hT
        clear hm hT
        go_wp2_with fail
        ((with_reducible refine (readO_any (some (objC d)) _ w6 w6 HT.out (Below.refl _ _) (HA.out.next HBW.out)).mono ?_); rintro e w7 ⟨⟨x, x0, x4, x7, er, rfl, hCx, ho0, ho4, ho7, hEr⟩, hb⟩)
        obtain ⟨rfl, hdx⟩ : er = .nilIface ∧ d = x := by
          rcases hEr with ⟨h, h2⟩ | ⟨h, _⟩
          · rw [readO_objC HM.out] at h2
            injection h2 with h2
            exact ⟨h, h2⟩
          · rw [readO_objC HM.out] at h
            cases h
        subst hdx
        obtain ⟨E0, s0, hv0⟩ := own_sliceP ho0
        subst hv0
        obtain ⟨E4, s4, hv4⟩ := own_sliceP ho4
        subst hv4
        obtain ⟨E7, s7, hv7⟩ := own_sliceP ho7
        subst hv7
        have HCX := Lib.hid hCx
        replace HN := Lib.hid (HN.out.below hb HN.out.lt)
        replace HCD := Lib.hid (HCD.out.below hb)
        replace HBW := Lib.hid (HBW.out.trans (hb.mono HBW.out.size))
        clear hb
        clear hEr ho0 ho4 ho7 hCx HT
        unfold clCells
        have hb : Below w7.heap.size w7 (w7.alloc (.cells #[.slice E0 d.has.length s0, .string ⟨d.about.toArray⟩, .int .i64 d.at_, .string ⟨d.by_.toArray⟩, .slice E4 d.for_.length s4, .int .i64 d.from_, .string ⟨d.id_.toArray⟩, .slice E7 d.may_.length s7, .int .i64 d.until_] 24)) := (Below.refl _ _).alloc (Nat.le_refl _) _
        have HNX := Lib.hid (Blk.new w7 24 #[.slice E0 d.has.length s0, .string ⟨d.about.toArray⟩, .int .i64 d.at_, .string ⟨d.by_.toArray⟩, .slice E4 d.for_.length s4, .int .i64 d.from_, .string ⟨d.id_.toArray⟩, .slice E7 d.may_.length s7, .int .i64 d.until_])
        replace HCX := Lib.hid (HCX.out.below hb)
        replace HN := Lib.hid (HN.out.below hb HN.out.lt)
        replace HCD := Lib.hid (HCD.out.below hb)
        replace HBW := Lib.hid (HBW.out.trans (hb.mono HBW.out.size))
        clear hb
        obtain ⟨c0, c1, c2, c3, c4, c5, c6, c7, c8⟩ := C9 HNX.out
        obtain ⟨d0, d1, d2, d3, d4, d5, d6, d7, d8⟩ := C9 HN.out
        go_wp2_with fail
        clear c0 c1 c2 c3 c4 c5 c6 c7 c8 d0 d1 d2 d3 d4 d5 d6 d7 d8
        generalize (w7.alloc (.cells #[.slice E0 d.has.length s0, .string ⟨d.about.toArray⟩, .int .i64 d.at_, .string ⟨d.by_.toArray⟩, .slice E4 d.for_.length s4, .int .i64 d.from_, .string ⟨d.id_.toArray⟩, .slice E7 d.may_.length s7, .int .i64 d.until_] 24)) = w8 at *
        ((with_reducible refine (same25_any d (.slice E0 d.has.length s0) (.slice E4 d.for_.length s4) (.slice E7 d.may_.length s7) (.slice B0 d.has.length r0) (.slice B4 d.for_.length r4) (.slice B7 d.may_.length r7) w8 HCX.out HCD.out).mono ?_); rintro e w9 ⟨rfl, hb⟩)
        replace HBW := Lib.hid (HBW.out.trans (hb.mono HBW.out.size))
        clear hb
        go_wp2_with fail
        ((with_reducible refine (wakes25_any _).mono ?_); rintro e w10 ⟨rfl, hb⟩)
        replace HBW := Lib.hid (HBW.out.trans (hb.mono HBW.out.size))
        clear hb
        go_wp2
        go_ret
        exact ⟨rfl, HBW.out⟩
    · obtain ⟨T, u, rfl⟩ := hEE.iface
      have HDZ := Lib.hid hdz
      clear hro hdz hEE HT HER HOT
      obtain ⟨d0, d1, d2, d3, d4, d5, d6, d7, d8⟩ := C9 HN.out
      go_wp2_with fail
      clear d0 d1 d2 d3 d4 d5 d6 d7 d8
      generalize (w4.alloc (.cells #[.slice B0 d.has.length r0, .string ⟨d.about.toArray⟩, .int .i64 d.at_, .string ⟨d.by_.toArray⟩, .slice B4 d.for_.length r4, .int .i64 d.from_, .string ⟨d.id_.toArray⟩, .slice B7 d.may_.length r7, .int .i64 d.until_] 24)) = w5 at *
      ((with_reducible refine (same25_zero HDZ.out (.slice B0 d.has.length r0) (.slice B4 d.for_.length r4) (.slice B7 d.may_.length r7) w5 HCD.out).mono ?_); rintro e w6 ⟨rfl, hb⟩)
      replace HBW := Lib.hid (HBW.out.trans (hb.mono HBW.out.size))
      clear hb
      go_wp2_with fail
      ((with_reducible refine (wakes25_any _).mono ?_); rintro e w7 ⟨rfl, hb⟩)
      replace HBW := Lib.hid (HBW.out.trans (hb.mono HBW.out.size))
      clear hb
      go_wp2
      go_ret
      exact ⟨rfl, HBW.out⟩
  · have HBW := HB
    clear HB HBC HE
    go_wp2_with fail
    ((with_reducible refine (build_all v ss _ (HS.out.below HBW.out) HF.out).mono ?_); rintro e w3 ⟨hb, he⟩)
    obtain ⟨o, tp, er0, rfl, hT⟩ : ∃ o tp er0, e = .returned (.tuple #[tp, er0]) ∧ TreO w3 o tp := by
      cases hbt : buildT ss with
      | inl x =>
        rw [hbt] at he
        exact ⟨none, _, _, he, .inl ⟨rfl, rfl⟩⟩
      | inr t =>
        rw [hbt] at he
        obtain ⟨g, rfl, _, hfit, tv, hblk, hrd0⟩ := he
        exact ⟨some t, _, _, rfl, .inr ⟨t, g, tv, rfl, rfl, hblk, RdT.toA hrd0, (buildT_ok HF.out hbt).1, hfit⟩⟩
    have HT := Lib.hid hT
    clear he hT
    replace HBW := Lib.hid (HBW.out.trans (hb.mono HBW.out.size))
    clear hb
    go_wp2_with fail
    ((with_reducible refine (readO_any o tp w3 w3 HT.out (Below.refl _ _) (HA.out.next HBW.out)).mono ?_); rintro e w4 ⟨⟨d, y0, y4, y7, er, rfl, hCd, ho0, ho4, ho7, hEr⟩, hb⟩)
    have HER := Lib.hid hEr
    obtain ⟨B0, r0, hv0⟩ := own_sliceP ho0
    subst hv0
    obtain ⟨B4, r4, hv4⟩ := own_sliceP ho4
    subst hv4
    obtain ⟨B7, r7, hv7⟩ := own_sliceP ho7
    subst hv7
    have HCD := Lib.hid hCd
    replace HBW := Lib.hid (HBW.out.trans (hb.mono HBW.out.size))
    clear hb
    clear hCd hEr ho0 ho4 ho7
    unfold clCells
    have hb : Below w4.heap.size w4 (w4.alloc (.cells #[.slice B0 d.has.length r0, .string ⟨d.about.toArray⟩, .int .i64 d.at_, .string ⟨d.by_.toArray⟩, .slice B4 d.for_.length r4, .int .i64 d.from_, .string ⟨d.id_.toArray⟩, .slice B7 d.may_.length r7, .int .i64 d.until_] 24)) := (Below.refl _ _).alloc (Nat.le_refl _) _
    have HN := Lib.hid (Blk.new w4 24 #[.slice B0 d.has.length r0, .string ⟨d.about.toArray⟩, .int .i64 d.at_, .string ⟨d.by_.toArray⟩, .slice B4 d.for_.length r4, .int .i64 d.from_, .string ⟨d.id_.toArray⟩, .slice B7 d.may_.length r7, .int .i64 d.until_])
    replace HCD := Lib.hid (HCD.out.below hb)
    replace HBW := Lib.hid (HBW.out.trans (hb.mono HBW.out.size))
    clear hb
    have HOT := Lib.hid (show ∀ t, o = some t → t.Ok ∧ t.fit = true from fun t ho => by
      rcases HT.out with ⟨h, _⟩ | ⟨t', g, v', h, _, _, _, h1, h2⟩
      · rw [h] at ho
        cases ho
      · rw [h] at ho
        injection ho with ho
        subst ho
        exact ⟨h1, h2⟩)
    rcases HER.out with ⟨rfl, hro⟩ | ⟨hro, hdz, hEE⟩
    · obtain ⟨t, rfl, hdc, hnil⟩ := readO_some hro
      have hmay := (read_may (HOT.out t rfl).1 hnil).1
      rw [← hdc] at hmay
      have hfitc := readAt_fit (HOT.out t rfl).1 8 (Nat.le_refl _)
      have HSD := Lib.hid (show SzC d by rw [hdc]; exact FitC.sz hfitc)
      have HM := Lib.hid hmay
      clear hro hdc hnil hmay hfitc HT HER
      obtain ⟨d0, d1, d2, d3, d4, d5, d6, d7, d8⟩ := C9 HN.out
      go_wp2_with fail
      clear d0 d1 d2 d3 d4 d5 d6 d7 d8
      generalize (w4.alloc (.cells #[.slice B0 d.has.length r0, .string ⟨d.about.toArray⟩, .int .i64 d.at_, .string ⟨d.by_.toArray⟩, .slice B4 d.for_.length r4, .int .i64 d.from_, .string ⟨d.id_.toArray⟩, .slice B7 d.may_.length r7, .int .i64 d.until_] 24)) = w5 at *
      ((with_reducible refine (make_any d (.slice B0 d.has.length r0) (.slice B4 d.for_.length r4) (.slice B7 d.may_.length r7) w5 HCD.out HSD.out).mono ?_); rintro e w6 he)
      obtain ⟨ta, tb, rfl, hb, he⟩ := makeP_two he
      replace HN := Lib.hid (HN.out.below hb HN.out.lt)
      replace HCD := Lib.hid (HCD.out.below hb)
      replace HBW := Lib.hid (HBW.out.trans (hb.mono HBW.out.size))
      clear hb
      rcases he with ⟨h, _⟩ | ⟨_, rfl, rfl⟩ | ⟨hm, gx, rfl, rfl, hT⟩
      · rw [HM.out] at h
        cases h
      · go_wp2_with fail
        ((with_reducible refine (number25_any 3 _).mono ?_); rintro e w7 ⟨rfl, rfl⟩)
        go_wp2_with fail
        ((with_reducible refine (wakes25_any _).mono ?_); rintro e w8 ⟨rfl, hb⟩)
        replace HBW := Lib.hid (HBW.out.trans (hb.mono HBW.out.size))
        clear hb
        go_wp2
        go_ret
        exact ⟨rfl, HBW.out⟩
      · have HT := Lib.hid hT
        clear hm hT
        go_wp2_with fail
        ((with_reducible refine (readO_any (some (objC d)) _ w6 w6 HT.out (Below.refl _ _) (HA.out.next HBW.out)).mono ?_); rintro e w7 ⟨⟨x, x0, x4, x7, er, rfl, hCx, ho0, ho4, ho7, hEr⟩, hb⟩)
        obtain ⟨rfl, hdx⟩ : er = .nilIface ∧ d = x := by
          rcases hEr with ⟨h, h2⟩ | ⟨h, _⟩
          · rw [readO_objC HM.out] at h2
            injection h2 with h2
            exact ⟨h, h2⟩
          · rw [readO_objC HM.out] at h
            cases h
        subst hdx
        obtain ⟨E0, s0, hv0⟩ := own_sliceP ho0
        subst hv0
        obtain ⟨E4, s4, hv4⟩ := own_sliceP ho4
        subst hv4
        obtain ⟨E7, s7, hv7⟩ := own_sliceP ho7
        subst hv7
        have HCX := Lib.hid hCx
        replace HN := Lib.hid (HN.out.below hb HN.out.lt)
        replace HCD := Lib.hid (HCD.out.below hb)
        replace HBW := Lib.hid (HBW.out.trans (hb.mono HBW.out.size))
        clear hb
        clear hEr ho0 ho4 ho7 hCx HT
        unfold clCells
        have hb : Below w7.heap.size w7 (w7.alloc (.cells #[.slice E0 d.has.length s0, .string ⟨d.about.toArray⟩, .int .i64 d.at_, .string ⟨d.by_.toArray⟩, .slice E4 d.for_.length s4, .int .i64 d.from_, .string ⟨d.id_.toArray⟩, .slice E7 d.may_.length s7, .int .i64 d.until_] 24)) := (Below.refl _ _).alloc (Nat.le_refl _) _
        have HNX := Lib.hid (Blk.new w7 24 #[.slice E0 d.has.length s0, .string ⟨d.about.toArray⟩, .int .i64 d.at_, .string ⟨d.by_.toArray⟩, .slice E4 d.for_.length s4, .int .i64 d.from_, .string ⟨d.id_.toArray⟩, .slice E7 d.may_.length s7, .int .i64 d.until_])
        replace HCX := Lib.hid (HCX.out.below hb)
        replace HN := Lib.hid (HN.out.below hb HN.out.lt)
        replace HCD := Lib.hid (HCD.out.below hb)
        replace HBW := Lib.hid (HBW.out.trans (hb.mono HBW.out.size))
        clear hb
        obtain ⟨c0, c1, c2, c3, c4, c5, c6, c7, c8⟩ := C9 HNX.out
        obtain ⟨d0, d1, d2, d3, d4, d5, d6, d7, d8⟩ := C9 HN.out
        go_wp2_with fail
        clear c0 c1 c2 c3 c4 c5 c6 c7 c8 d0 d1 d2 d3 d4 d5 d6 d7 d8
        generalize (w7.alloc (.cells #[.slice E0 d.has.length s0, .string ⟨d.about.toArray⟩, .int .i64 d.at_, .string ⟨d.by_.toArray⟩, .slice E4 d.for_.length s4, .int .i64 d.from_, .string ⟨d.id_.toArray⟩, .slice E7 d.may_.length s7, .int .i64 d.until_] 24)) = w8 at *
        ((with_reducible refine (same25_any d (.slice E0 d.has.length s0) (.slice E4 d.for_.length s4) (.slice E7 d.may_.length s7) (.slice B0 d.has.length r0) (.slice B4 d.for_.length r4) (.slice B7 d.may_.length r7) w8 HCX.out HCD.out).mono ?_); rintro e w9 ⟨rfl, hb⟩)
        replace HBW := Lib.hid (HBW.out.trans (hb.mono HBW.out.size))
        clear hb
        go_wp2_with fail
        ((with_reducible refine (wakes25_any _).mono ?_); rintro e w10 ⟨rfl, hb⟩)
        replace HBW := Lib.hid (HBW.out.trans (hb.mono HBW.out.size))
        clear hb
        go_wp2
        go_ret
        exact ⟨rfl, HBW.out⟩
    · obtain ⟨T, u, rfl⟩ := hEE.iface
      have HDZ := Lib.hid hdz
      clear hro hdz hEE HT HER HOT
      obtain ⟨d0, d1, d2, d3, d4, d5, d6, d7, d8⟩ := C9 HN.out
      go_wp2_with fail
      clear d0 d1 d2 d3 d4 d5 d6 d7 d8
      generalize (w4.alloc (.cells #[.slice B0 d.has.length r0, .string ⟨d.about.toArray⟩, .int .i64 d.at_, .string ⟨d.by_.toArray⟩, .slice B4 d.for_.length r4, .int .i64 d.from_, .string ⟨d.id_.toArray⟩, .slice B7 d.may_.length r7, .int .i64 d.until_] 24)) = w5 at *
      ((with_reducible refine (same25_zero HDZ.out (.slice B0 d.has.length r0) (.slice B4 d.for_.length r4) (.slice B7 d.may_.length r7) w5 HCD.out).mono ?_); rintro e w6 ⟨rfl, hb⟩)
      replace HBW := Lib.hid (HBW.out.trans (hb.mono HBW.out.size))
      clear hb
      go_wp2_with fail
      ((with_reducible refine (wakes25_any _).mono ?_); rintro e w7 ⟨rfl, hb⟩)
      replace HBW := Lib.hid (HBW.out.trans (hb.mono HBW.out.size))
      clear hb
      go_wp2
      go_ret
      exact ⟨rfl, HBW.out⟩
  · have HM := Lib.hid hm
    have HT := Lib.hid hT
    clear hm hT HE
    go_wp2_with fail
    ((with_reducible refine (readO_any (some (objC c)) _ w2 w2 HT.out (Below.refl _ _) (HA.out.next HB.out)).mono ?_); rintro e w3 ⟨⟨d, y0, y4, y7, er, rfl, hCd, ho0, ho4, ho7, hEr⟩, hb⟩)
    obtain ⟨rfl, hdc⟩ : er = .nilIface ∧ c = d := by
      rcases hEr with ⟨h, h2⟩ | ⟨h, _⟩
      · rw [readO_objC HM.out] at h2
        injection h2 with h2
        exact ⟨h, h2⟩
      · rw [readO_objC HM.out] at h
        cases h
    subst hdc
    obtain ⟨B0, r0, hv0⟩ := own_sliceP ho0
    subst hv0
    obtain ⟨B4, r4, hv4⟩ := own_sliceP ho4
    subst hv4
    obtain ⟨B7, r7, hv7⟩ := own_sliceP ho7
    subst hv7
    have HCD := Lib.hid hCd
    replace HBC := Lib.hid (HBC.out.below hb HBC.out.lt)
    replace HB := Lib.hid (HB.out.trans (hb.mono HB.out.size))
    clear hb
    clear hEr ho0 ho4 ho7 hCd HT
    unfold clCells
    have hb : Below w3.heap.size w3 (w3.alloc (.cells #[.slice B0 c.has.length r0, .string ⟨c.about.toArray⟩, .int .i64 c.at_, .string ⟨c.by_.toArray⟩, .slice B4 c.for_.length r4, .int .i64 c.from_, .string ⟨c.id_.toArray⟩, .slice B7 c.may_.length r7, .int .i64 c.until_] 24)) := (Below.refl _ _).alloc (Nat.le_refl _) _
    have HN := Lib.hid (Blk.new w3 24 #[.slice B0 c.has.length r0, .string ⟨c.about.toArray⟩, .int .i64 c.at_, .string ⟨c.by_.toArray⟩, .slice B4 c.for_.length r4, .int .i64 c.from_, .string ⟨c.id_.toArray⟩, .slice B7 c.may_.length r7, .int .i64 c.until_])
    replace HCD := Lib.hid (HCD.out.below hb)
    replace HBC := Lib.hid (HBC.out.below hb HBC.out.lt)
    replace HB := Lib.hid (HB.out.trans (hb.mono HB.out.size))
    clear hb
    obtain ⟨c0, c1, c2, c3, c4, c5, c6, c7, c8⟩ := C9 HBC.out
    obtain ⟨d0, d1, d2, d3, d4, d5, d6, d7, d8⟩ := C9 HN.out
    go_wp2_with fail
    clear c0 c1 c2 c3 c4 c5 c6 c7 c8 d0 d1 d2 d3 d4 d5 d6 d7 d8
    generalize (w3.alloc (.cells #[.slice B0 c.has.length r0, .string ⟨c.about.toArray⟩, .int .i64 c.at_, .string ⟨c.by_.toArray⟩, .slice B4 c.for_.length r4, .int .i64 c.from_, .string ⟨c.id_.toArray⟩, .slice B7 c.may_.length r7, .int .i64 c.until_] 24)) = w4 at *
    ((with_reducible refine (same25_any c v0 v4 v7 (.slice B0 c.has.length r0) (.slice B4 c.for_.length r4) (.slice B7 c.may_.length r7) w4 (HC.out.below HB.out) HCD.out).mono ?_); rintro e w5 ⟨rfl, hb⟩)
    replace HBC := Lib.hid (HBC.out.below hb HBC.out.lt)
    replace HB := Lib.hid (HB.out.trans (hb.mono HB.out.size))
    clear hb
    have HBW := HB
    clear HB HBC HCD HM
    go_wp2_with fail
    ((with_reducible refine (build_all v ss _ (HS.out.below HBW.out) HF.out).mono ?_); rintro e w3 ⟨hb, he⟩)
    obtain ⟨o, tp, er0, rfl, hT⟩ : ∃ o tp er0, e = .returned (.tuple #[tp, er0]) ∧ TreO w3 o tp := by
      cases hbt : buildT ss with
      | inl x =>
        rw [hbt] at he
        exact ⟨none, _, _, he, .inl ⟨rfl, rfl⟩⟩
      | inr t =>
        rw [hbt] at he
        obtain ⟨g, rfl, _, hfit, tv, hblk, hrd0⟩ := he
        exact ⟨some t, _, _, rfl, .inr ⟨t, g, tv, rfl, rfl, hblk, RdT.toA hrd0, (buildT_ok HF.out hbt).1, hfit⟩⟩
    have HT := Lib.hid hT
    clear he hT
    replace HBW := Lib.hid (HBW.out.trans (hb.mono HBW.out.size))
    clear hb
    go_wp2_with fail
    ((with_reducible refine (readO_any o tp w3 w3 HT.out (Below.refl _ _) (HA.out.next HBW.out)).mono ?_); rintro e w4 ⟨⟨d, y0, y4, y7, er, rfl, hCd, ho0, ho4, ho7, hEr⟩, hb⟩)
    have HER := Lib.hid hEr
    obtain ⟨B0, r0, hv0⟩ := own_sliceP ho0
    subst hv0
    obtain ⟨B4, r4, hv4⟩ := own_sliceP ho4
    subst hv4
    obtain ⟨B7, r7, hv7⟩ := own_sliceP ho7
    subst hv7
    have HCD := Lib.hid hCd
    replace HBW := Lib.hid (HBW.out.trans (hb.mono HBW.out.size))
    clear hb
    clear hCd hEr ho0 ho4 ho7
    unfold clCells
    have hb : Below w4.heap.size w4 (w4.alloc (.cells #[.slice B0 d.has.length r0, .string ⟨d.about.toArray⟩, .int .i64 d.at_, .string ⟨d.by_.toArray⟩, .slice B4 d.for_.length r4, .int .i64 d.from_, .string ⟨d.id_.toArray⟩, .slice B7 d.may_.length r7, .int .i64 d.until_] 24)) := (Below.refl _ _).alloc (Nat.le_refl _) _
    have HN := Lib.hid (Blk.new w4 24 #[.slice B0 d.has.length r0, .string ⟨d.about.toArray⟩, .int .i64 d.at_, .string ⟨d.by_.toArray⟩, .slice B4 d.for_.length r4, .int .i64 d.from_, .string ⟨d.id_.toArray⟩, .slice B7 d.may_.length r7, .int .i64 d.until_])
    replace HCD := Lib.hid (HCD.out.below hb)
    replace HBW := Lib.hid (HBW.out.trans (hb.mono HBW.out.size))
    clear hb
    have HOT := Lib.hid (show ∀ t, o = some t → t.Ok ∧ t.fit = true from fun t ho => by
      rcases HT.out with ⟨h, _⟩ | ⟨t', g, v', h, _, _, _, h1, h2⟩
      · rw [h] at ho
        cases ho
      · rw [h] at ho
        injection ho with ho
        subst ho
        exact ⟨h1, h2⟩)
    rcases HER.out with ⟨rfl, hro⟩ | ⟨hro, hdz, hEE⟩
    · obtain ⟨t, rfl, hdc, hnil⟩ := readO_some hro
      have hmay := (read_may (HOT.out t rfl).1 hnil).1
      rw [← hdc] at hmay
      have hfitc := readAt_fit (HOT.out t rfl).1 8 (Nat.le_refl _)
      have HSD := Lib.hid (show SzC d by rw [hdc]; exact FitC.sz hfitc)
      have HM := Lib.hid hmay
      clear hro hdc hnil hmay hfitc HT HER
      obtain ⟨d0, d1, d2, d3, d4, d5, d6, d7, d8⟩ := C9 HN.out
      go_wp2_with fail
      clear d0 d1 d2 d3 d4 d5 d6 d7 d8
      generalize (w4.alloc (.cells #[.slice B0 d.has.length r0, .string ⟨d.about.toArray⟩, .int .i64 d.at_, .string ⟨d.by_.toArray⟩, .slice B4 d.for_.length r4, .int .i64 d.from_, .string ⟨d.id_.toArray⟩, .slice B7 d.may_.length r7, .int .i64 d.until_] 24)) = w5 at *
      ((with_reducible refine (make_any d (.slice B0 d.has.length r0) (.slice B4 d.for_.length r4) (.slice B7 d.may_.length r7) w5 HCD.out HSD.out).mono ?_); rintro e w6 he)
      obtain ⟨ta, tb, rfl, hb, he⟩ := makeP_two he
      replace HN := Lib.hid (HN.out.below hb HN.out.lt)
      replace HCD := Lib.hid (HCD.out.below hb)
      replace HBW := Lib.hid (HBW.out.trans (hb.mono HBW.out.size))
      clear hb
      rcases he with ⟨h, _⟩ | ⟨_, rfl, rfl⟩ | ⟨hm, gx, rfl, rfl, hT⟩
      · rw [HM.out] at h
        cases h
      · go_wp2_with fail
        ((with_reducible refine (number25_any 3 _).mono ?_); rintro e w7 ⟨rfl, rfl⟩)
        go_wp2_with fail
        ((with_reducible refine (wakes25_any _).mono ?_); rintro e w8 ⟨rfl, hb⟩)
        replace HBW := Lib.hid (HBW.out.trans (hb.mono HBW.out.size))
        clear hb
        go_wp2
        go_ret
        exact ⟨rfl, HBW.out⟩
      · have HT := Lib.hid hT
        clear hm hT
        go_wp2_with fail
        ((with_reducible refine (readO_any (some (objC d)) _ w6 w6 HT.out (Below.refl _ _) (HA.out.next HBW.out)).mono ?_); rintro e w7 ⟨⟨x, x0, x4, x7, er, rfl, hCx, ho0, ho4, ho7, hEr⟩, hb⟩)
        obtain ⟨rfl, hdx⟩ : er = .nilIface ∧ d = x := by
          rcases hEr with ⟨h, h2⟩ | ⟨h, _⟩
          · rw [readO_objC HM.out] at h2
            injection h2 with h2
            exact ⟨h, h2⟩
          · rw [readO_objC HM.out] at h
            cases h
        subst hdx
        obtain ⟨E0, s0, hv0⟩ := own_sliceP ho0
        subst hv0
        obtain ⟨E4, s4, hv4⟩ := own_sliceP ho4
        subst hv4
        obtain ⟨E7, s7, hv7⟩ := own_sliceP ho7
        subst hv7
        have HCX := Lib.hid hCx
        replace HN := Lib.hid (HN.out.below hb HN.out.lt)
        replace HCD := Lib.hid (HCD.out.below hb)
        replace HBW := Lib.hid (HBW.out.trans (hb.mono HBW.out.size))
        clear hb
        clear hEr ho0 ho4 ho7 hCx HT
        unfold clCells
        have hb : Below w7.heap.size w7 (w7.alloc (.cells #[.slice E0 d.has.length s0, .string ⟨d.about.toArray⟩, .int .i64 d.at_, .string ⟨d.by_.toArray⟩, .slice E4 d.for_.length s4, .int .i64 d.from_, .string ⟨d.id_.toArray⟩, .slice E7 d.may_.length s7, .int .i64 d.until_] 24)) := (Below.refl _ _).alloc (Nat.le_refl _) _
        have HNX := Lib.hid (Blk.new w7 24 #[.slice E0 d.has.length s0, .string ⟨d.about.toArray⟩, .int .i64 d.at_, .string ⟨d.by_.toArray⟩, .slice E4 d.for_.length s4, .int .i64 d.from_, .string ⟨d.id_.toArray⟩, .slice E7 d.may_.length s7, .int .i64 d.until_])
        replace HCX := Lib.hid (HCX.out.below hb)
        replace HN := Lib.hid (HN.out.below hb HN.out.lt)
        replace HCD := Lib.hid (HCD.out.below hb)
        replace HBW := Lib.hid (HBW.out.trans (hb.mono HBW.out.size))
        clear hb
        obtain ⟨c0, c1, c2, c3, c4, c5, c6, c7, c8⟩ := C9 HNX.out
        obtain ⟨d0, d1, d2, d3, d4, d5, d6, d7, d8⟩ := C9 HN.out
        go_wp2_with fail
        clear c0 c1 c2 c3 c4 c5 c6 c7 c8 d0 d1 d2 d3 d4 d5 d6 d7 d8
        generalize (w7.alloc (.cells #[.slice E0 d.has.length s0, .string ⟨d.about.toArray⟩, .int .i64 d.at_, .string ⟨d.by_.toArray⟩, .slice E4 d.for_.length s4, .int .i64 d.from_, .string ⟨d.id_.toArray⟩, .slice E7 d.may_.length s7, .int .i64 d.until_] 24)) = w8 at *
        ((with_reducible refine (same25_any d (.slice E0 d.has.length s0) (.slice E4 d.for_.length s4) (.slice E7 d.may_.length s7) (.slice B0 d.has.length r0) (.slice B4 d.for_.length r4) (.slice B7 d.may_.length r7) w8 HCX.out HCD.out).mono ?_); rintro e w9 ⟨rfl, hb⟩)
        replace HBW := Lib.hid (HBW.out.trans (hb.mono HBW.out.size))
        clear hb
        go_wp2_with fail
        ((with_reducible refine (wakes25_any _).mono ?_); rintro e w10 ⟨rfl, hb⟩)
        replace HBW := Lib.hid (HBW.out.trans (hb.mono HBW.out.size))
        clear hb
        go_wp2
        go_ret
        exact ⟨rfl, HBW.out⟩
    · obtain ⟨T, u, rfl⟩ := hEE.iface
      have HDZ := Lib.hid hdz
      clear hro hdz hEE HT HER HOT
      obtain ⟨d0, d1, d2, d3, d4, d5, d6, d7, d8⟩ := C9 HN.out
      go_wp2_with fail
      clear d0 d1 d2 d3 d4 d5 d6 d7 d8
      generalize (w4.alloc (.cells #[.slice B0 d.has.length r0, .string ⟨d.about.toArray⟩, .int .i64 d.at_, .string ⟨d.by_.toArray⟩, .slice B4 d.for_.length r4, .int .i64 d.from_, .string ⟨d.id_.toArray⟩, .slice B7 d.may_.length r7, .int .i64 d.until_] 24)) = w5 at *
      ((with_reducible refine (same25_zero HDZ.out (.slice B0 d.has.length r0) (.slice B4 d.for_.length r4) (.slice B7 d.may_.length r7) w5 HCD.out).mono ?_); rintro e w6 ⟨rfl, hb⟩)
      replace HBW := Lib.hid (HBW.out.trans (hb.mono HBW.out.size))
      clear hb
      go_wp2_with fail
      ((with_reducible refine (wakes25_any _).mono ?_); rintro e w7 ⟨rfl, hb⟩)
      replace HBW := Lib.hid (HBW.out.trans (hb.mono HBW.out.size))
      clear hb
      go_wp2
      go_ret
      exact ⟨rfl, HBW.out⟩
end Nd
end Go.Proofs.YtbcckpnngonoeaaGreatDoor

