/-
  Walks of package claims: Read of an object.
-/
import Derived.Test.YtobaldkipnhlpaaGreatDoorS29
import Derived.Deep.AppendLies
set_option linter.unusedVariables false
set_option linter.unusedSimpArgs false
set_option maxRecDepth 100000
set_option maxHeartbeats 16000000
namespace Go.Proofs.YtobaldkipnhlpaaGreatDoor
open Go.RowKit Mem Utf Ref3 Idx Tok TokC Cl
namespace Nd
theorem RdAt.only {w w' : World} {k gc : Nat} {x : FuncId × Array Value} (h : RdAt w k x) (hg : w.grownBy w' (some gc)) (h0 : ∃ A n q, w.cell? ⟨gc, 0, none⟩ = some (.slice A n q)) : RdAt w' k x := by
  obtain ⟨A, n, q, h0⟩ := h0
  have ne : ∀ {b : Nat} {y : Value}, w.cell? ⟨b, 0, none⟩ = some y → (∀ A n q, y ≠ .slice A n q) → some b ≠ some gc := fun {b y} hc hn e => by
    injection e with e
    subst e
    have := hc.symm.trans h0
    injection this with this
    exact hn _ _ _ this
  rcases h with ⟨h1, bf, h2, h3⟩ | ⟨h1, bf, h2, h3⟩ | ⟨h1, bf, ba, h2, h3, h4⟩
  · exact .inl ⟨h1, bf, h2, hg.cell h3 (ne h3 (fun _ _ _ e => by cases e))⟩
  · exact .inr (.inl ⟨h1, bf, h2, hg.cell h3 (ne h3 (fun _ _ _ e => by cases e))⟩)
  · exact .inr (.inr ⟨h1, bf, ba, h2, hg.cell h3 (ne h3 (fun _ _ _ e => by cases e)), hg.cell h4 (ne h4 (fun _ _ _ e => by cases e))⟩)
theorem readAt_len (t : Tr) : ∀ k, k ≤ 8 → (readAt t k).1.has.length ≤ k ∧ (readAt t k).2.length ≤ k
  | 0, _ => ⟨Nat.le_refl _, Nat.le_refl _⟩
  | k + 1, h => by
    obtain ⟨h1, h2⟩ := readAt_len t k (by omega)
    cases ho : onT (key k) t with
    | none =>
      rw [readAt_none ho]
      omega
    | some u =>
      have hw : (withHas (readAt t k).1 k).has.length = (readAt t k).1.has.length + 1 := by
        unfold withHas
        rw [List.length_append]
        rfl
      cases hs : setK (withHas (readAt t k).1 k) k u with
      | inl e =>
        rw [readAt_err ho hs]
        dsimp only
        rw [hw, List.length_append]
        simp only [List.length_singleton]
        omega
      | inr d =>
        rw [readAt_ok ho hs]
        dsimp only
        rw [setK_has (by omega) hs, hw]
        omega
theorem readt_obj (g : Nat) (ks : List Tx) (l : List Tr) (v : Value) (w0 w : World) (hB : Blk w0 g 87 #[v]) (h : RdA w0 (.obj ks l) v) (hb0 : Below w0.heap.size w0 w) (ho : (Tr.obj ks l).Ok) (hfit : (Tr.obj ks l).fit = true) (hT : TabP w) :
    Calls Tryz.prog 6 #[.pointer (some ⟨g, 0, none⟩)] w (ReadOP (.obj ks l) w) := by
  have HOK := Lib.hid (And.intro ho hfit)
  have HTAB := Lib.hid hT
  clear ho hfit hT
  have hb1 : Below w.heap.size w (w.alloc (.cells #[.slice none 0 0, .string ⟨#[]⟩, .int .i64 0, .string ⟨#[]⟩, .slice none 0 0, .int .i64 0, .string ⟨#[]⟩, .slice none 0 0, .int .i64 0] 38)) := (Below.refl _ _).alloc (Nat.le_refl _) _
  have HBR := Lib.hid (Blk.new w 38 #[.slice none 0 0, .string ⟨#[]⟩, .int .i64 0, .string ⟨#[]⟩, .slice none 0 0, .int .i64 0, .string ⟨#[]⟩, .slice none 0 0, .int .i64 0])
  obtain ⟨tx, ux, rfl⟩ := h.iface
  have HR := Lib.hid h
  have HB0 := Lib.hid hb0
  have HTB := Lib.hid (hB.below (hb0.trans (hb1.mono hb0.size)) hB.lt)
  have HB1 := Lib.hid hb1
  clear hB h hb0 hb1
  go_enter Tryz.func6, Tryz.ntmps6
  go_wp2_with fail
  ((with_reducible refine (root_any g _ tx ux _ HTB.out).mono ?_); rintro e w1 ⟨rfl, hb2⟩)
  have HB2 := Lib.hid (HB1.out.trans (hb2.mono HB1.out.size))
  have HBR1 := Lib.hid (HBR.out.below hb2 HBR.out.lt)
  have hbr : Below w1.heap.size w1 (w1.alloc (.cells #[.iface tx ux] 93)) := (Below.refl _ _).alloc (Nat.le_refl _) _
  have HBX := Lib.hid (Blk.new w1 93 #[.iface tx ux])
  have HB3 := Lib.hid (HB2.out.trans (hbr.mono HB2.out.size))
  have HBR2 := Lib.hid (HBR1.out.below hbr HBR1.out.lt)
  have cx := HBX.out.cell 0
  simp at cx
  clear hb2 hbr HBR HBR1 HTB
  go_wp2_with fail
  ((with_reducible refine (sort_any (fun _ => True) (.obj ks l) (.iface tx ux) _ (rda_below HR.out (HB0.out.trans (HB3.out.mono HB0.out.size)))).mono ?_); rintro e w2 ⟨rfl, hb4⟩)
  have HB4 := Lib.hid (HB3.out.trans (hb4.mono HB3.out.size))
  have HBX4 := Lib.hid (HBX.out.below hb4 HBX.out.lt)
  have HBR4 := Lib.hid (HBR2.out.below hb4 HBR2.out.lt)
  clear hb4 cx HBX HBR2
  have hs6 : (((Tr.obj ks l).srt : Int) != 6) = false := by simp [Tr.srt]
  obtain ⟨i0, hi0, hz0, hz1, hz2⟩ := info_parts info_str
  obtain ⟨i1, hi1, hy0, hy1, hy2⟩ := info_parts info_err
  have q1 := err_ne_nil
  have q2 := err_ne_held
  have HGC := Lib.hid (Blk.new w2 38 #[.slice none 0 0, .string ⟨#[]⟩, .int .i64 0, .string ⟨#[]⟩, .slice none 0 0, .int .i64 0, .string ⟨#[]⟩, .slice none 0 0, .int .i64 0])
  have hbc : Below w2.heap.size w2 (w2.alloc (.cells #[.slice none 0 0, .string ⟨#[]⟩, .int .i64 0, .string ⟨#[]⟩, .slice none 0 0, .int .i64 0, .string ⟨#[]⟩, .slice none 0 0, .int .i64 0] 38)) := (Below.refl _ _).alloc (Nat.le_refl _) _
  have HB5 := Lib.hid (HB4.out.trans (hbc.mono HB4.out.size))
  have HBX5 := Lib.hid (HBX4.out.below hbc HBX4.out.lt)
  have HBR5 := Lib.hid (HBR4.out.below hbc HBR4.out.lt)
  have HXL := Lib.hid (show w1.heap.size < w2.heap.size from HBX4.out.lt)
  clear hbc HBX4 HBR4
  go_wp2_with fail
  ((with_reducible refine (rowsx_any _).mono ?_); rintro e wS ⟨gt, rd, rfl, hTb, hRd, _, hb6⟩)
  have HB6 := Lib.hid (HB5.out.trans (hb6.mono HB5.out.size))
  have HBX6 := Lib.hid (HBX5.out.below hb6 HBX5.out.lt)
  have HBR6 := Lib.hid (HBR5.out.below hb6 HBR5.out.lt)
  have HGC6 := Lib.hid (HGC.out.below hb6 HGC.out.lt)
  have HTB6 := Lib.hid hTb
  have HRD6 := Lib.hid hRd
  have hgcl := HGC6.out.lt
  have HNE := Lib.hid (show w1.heap.size ≠ w2.heap.size ∧ w.heap.size ≠ w2.heap.size ∧ w.heap.size ≤ w2.heap.size by
    have := HBX5.out
    have h1 := HB3.out.size
    have h2 := HB4.out.size
    have h4 := HB2.out.size
    have h3 : w1.heap.size < w2.heap.size := HXL.out
    omega)
  have HGT := Lib.hid (show gt ≠ w2.heap.size by
    rintro rfl
    have := HGC6.out.symm.trans hTb
    injection this with this
    injection this with _ this _
    exact absurd this (by decide))
  have HST : Hid (RSt wS w2.heap.size cZero [] (.slice none 0 0) (.slice none 0 0) (.slice none 0 0) (.slice none 0 0) wS) := Lib.hid ⟨hgcl, HGC6.out, World.ownsRow_nil _ _ _ _, World.ownsRow_nil _ _ _ _, World.ownsRow_nil _ _ _ _, World.ownsRow_nil _ _ _ _, .inl rfl, .inl rfl, grown_refl _ _⟩
  clear hTb hRd hb6 HBX5 HBR5 HGC hgcl
  go_wp2_with fail
  go_loopw [6, 25] (fun c6 c25 wr => ∃ k : Nat, k ≤ 8 ∧ c25 = .int .i64 (k : Nat) ∧ Hid (∃ v0 v4 v7, RSt wS w2.heap.size (readAt (.obj ks l) k).1 (readAt (.obj ks l) k).2 v0 v4 v7 c6 wr)) (fun _ c25 _ => 8 - (intOf c25).toNat)
  case atStart => exact ⟨0, by omega, rfl, Lib.hid ⟨_, _, _, HST.out⟩⟩
  case round =>
    obtain ⟨k, hk, rfl, HI⟩ := hrel
    have HI := Lib.hid HI.out
    obtain ⟨v0, v4, v7, hSt⟩ := HI.out
    have HSt := Lib.hid hSt
    clear hSt
    by_cases hlt : k < 8
    · have hTbr := HTB6.out.only HSt.out.gr (by have := HGT.out; intro e; injection e with e; exact this e)
      have HTBR := Lib.hid hTbr
      have HBXR := Lib.hid (HBX6.out.only HSt.out.gr (by have := HNE.out.1; intro e; injection e with e; exact this e))
      have HRDK := Lib.hid (HRD6.out k hlt)
      obtain ⟨st, hst⟩ : ∃ st, readAt (.obj ks l) k = st := ⟨_, rfl⟩
      have HRN := Lib.hid (fun (h : onT (key k) (.obj ks l) = none) => (readAt_none h).trans hst)
      have HRO : Hid (∀ u d, onT (key k) (.obj ks l) = some u → setK (withHas st.1 k) k u = .inr d → readAt (.obj ks l) (k + 1) = (d, st.2)) := Lib.hid (fun u d h hs => by rw [← hst] at hs ⊢; exact readAt_ok h hs)
      have HRE : Hid (∀ u e, onT (key k) (.obj ks l) = some u → setK (withHas st.1 k) k u = .inl e → readAt (.obj ks l) (k + 1) = (withHas st.1 k, st.2 ++ [e])) := Lib.hid (fun u e h hs => by rw [← hst] at hs ⊢; exact readAt_err h hs)
      have HHL := Lib.hid (show st.1.has.length ≤ 8 by rw [← hst]; have := (readAt_len (.obj ks l) k hk).1; omega)
      have HEL := Lib.hid (show st.2.length ≤ 8 by rw [← hst]; have := (readAt_len (.obj ks l) k hk).2; omega)
      rw [hst] at HSt HI
      clear hst HI
      have hlt' : (k : Int) < 8 := by omega
      rcases rows_at hTbr hlt with ⟨hkind, hR⟩ | ⟨hkind, hR⟩ | ⟨hkind, hR⟩
      · obtain ⟨r0, _, r2, r3, r4⟩ := hR
        have r1 := rows_rd hTbr hlt
        unfold fnV at r2
        generalize fnK k = F at *
        have hrx := HRDK.out
        obtain ⟨xx, hxx⟩ : ∃ xx, rd k = xx := ⟨_, rfl⟩
        rw [hxx] at r1 hrx
        have HRXS := Lib.hid hrx
        obtain ⟨q, cap⟩ := xx
        have HKF := Lib.hid (key_fine hlt)
        have HPK := Lib.hid (show path k = 47 :: key k from rfl)
        obtain ⟨K, hK⟩ : ∃ K, key k = K := ⟨_, rfl⟩
        rw [hK] at HKF HPK r0 HRN HRO HRE
        have HKK := Lib.hid hK
        clear hK hrx hkind hxx HRDK
        dsimp only at r1
        have hq1 : Below wr.heap.size wr (wr.alloc (.cells #[.string ⟨K.toArray⟩, .func (.func q) #[] cap, .func (.func F) #[] #[], .nilFunc, .nilFunc] 106)) := (Below.refl _ _).alloc (Nat.le_refl _) _
        have HQ1 := Lib.hid hq1
        have HXB := Lib.hid (Blk.new wr 106 #[.string ⟨K.toArray⟩, .func (.func q) #[] cap, .func (.func F) #[] #[], .nilFunc, .nilFunc])
        have HFD := Lib.hid (fun (W : World) (hb : Below w0.heap.size w0 W) => find_any ks l (.iface tx ux) K w0 W HR.out hb HOK.out.1 HOK.out.2 HKF.out.1 (by have := HKF.out.2; omega))
        have HWR := Lib.hid (HB6.out.trans (below_of_grown HSt.out.gr HNE.out.2.2 HB6.out.size))
        have cxr := HBXR.out.cell 0
        simp at cxr
        have hgtl := HTBR.out.lt
        have hxl := HBXR.out.lt
        clear hq1
        go_wp2_with fail
        ((with_reducible refine (HFD.out _ (HB0.out.trans ((HWR.out.trans (HQ1.out.mono HWR.out.size)).mono HB0.out.size))).mono ?_); rintro e w5 ⟨hp, hb5⟩)
        have HQ5 := Lib.hid (HQ1.out.trans (hb5.mono HQ1.out.size))
        have HXB5 := Lib.hid (HXB.out.below hb5 HXB.out.lt)
        clear hb5 cxr r0 r1 r2 r3 r4 HXB HFD
        cases hon : onT K (.obj ks l) with
        | none =>
          rw [hon] at hp
          obtain rfl := hp
          have HFIN := Lib.hid (HSt.out.below (HQ5.out.alloc HQ5.out.size (.cells #[.nilIface] 93)))
          have HE := Lib.hid (HRN.out hon)
          clear hon
          go_wp2
          go_roundw
          case rel => exact ⟨k + 1, by omega, by go_num, Lib.hid ⟨v0, v4, v7, by rw [HE.out]; exact HFIN.out⟩⟩
          case measure => simp [intOf]; omega
        | some u =>
          rw [hon] at hp
          obtain ⟨tx', ux', rfl, hru⟩ := hp
          have HRU := Lib.hid hru
          have HUO := Lib.hid (onT_ok HOK.out.1 hon)
          have HON := Lib.hid hon
          clear hon hru
          have hq6 := HQ5.out.alloc HQ5.out.size (.cells #[.iface tx' ux'] 93)
          have HS5 := Lib.hid (HSt.out.below hq6)
          have HXB6 := Lib.hid (HXB5.out.alloc (.cells #[.iface tx' ux'] 93))
          have HVB6 := Lib.hid (Blk.new w5 93 #[.iface tx' ux'])
          have hs6 : wr.heap.size ≤ w5.heap.size := HQ5.out.size
          obtain ⟨A0, q0, hv0⟩ := own_sliceP HSt.out.h0
          subst hv0
          have hq7 : Below (w5.alloc (.cells #[.iface tx' ux'] 93)).heap.size (w5.alloc (.cells #[.iface tx' ux'] 93)) ((w5.alloc (.cells #[.iface tx' ux'] 93)).alloc (.cells #[.string ⟨K.toArray⟩] 9)) := (Below.refl _ _).alloc (Nat.le_refl _) _
          have HS6 := Lib.hid (HS5.out.below hq7)
          have HXB7 := Lib.hid (HXB6.out.alloc (.cells #[.string ⟨K.toArray⟩] 9))
          have HVB7 := Lib.hid (HVB6.out.alloc (.cells #[.string ⟨K.toArray⟩] 9))
          have c0 := HS5.out.blk.cell 0
          simp [clCells] at c0
          have x0 := HXB6.out.cell 0
          have hxl6 := HXB6.out.lt
          have hgl6 := HS5.out.blk.lt
          simp at x0
          have hcl : st.1.has.length ≤ 8 := HHL.out
          have hnews := one_newP (w5.alloc (.cells #[.iface tx' ux'] 93)) 9 (.string ⟨K.toArray⟩)
          rw [World.size_alloc] at hnews
          clear hq6 hq7
          go_wp2_with
           (at_builtin
            refine wpList_append_lies _ rfl (.tmp 39) (.tmp 42) _ rfl wS.heap.size 9 i0 _ 1 16 Tryz.underlying23 hi0 hz0 hz1 hz2 rfl (by omega) (.slice A0 st.1.has.length q0) st.1.has.length (st.1.has.map strV) rfl HS6.out.h0 ⟨w5.heap.size + 1, 0, none⟩ 1 1 [.string ⟨K.toArray⟩] rfl rfl hnews (one_cellP _ rfl) (by omega) (by unfold maxLen; omega) (by omega) (by have := HS6.out.size; exact this) _ rfl ?_
            intro g9 cap9 w9 hown9 hgr9 hat9 hlt9
            have hgclS : w2.heap.size < wS.heap.size := HSt.out.gcl
            have hszS : wS.heap.size ≤ wr.heap.size := HSt.out.size
            have HOWB : Hid (∀ j, (Value.slice A0 st.1.has.length q0).ownBlock = some j → wS.heap.size ≤ j ∧ j < wr.heap.size) := Lib.hid (fun j e => HSt.out.h0.lt j e)
            have HXB9 := HXB7.out.only hgr9 (fun e => by have := (HOWB.out _ e.symm).2; omega)
            have HVB9 := HVB7.out.only hgr9 (fun e => by have := (HOWB.out _ e.symm).2; omega)
            have HG9 := HS6.out.blk.only hgr9 (fun e => by have := (HOWB.out _ e.symm).1; omega)
            have HSA := Lib.hid (HS6.out.hasAdd (k := k) (by rw [HKK.out]; exact hown9) hgr9 hat9)
            have hpA : w9.grownBy (w9.setCell ⟨w2.heap.size, 0, none⟩ (.slice (some ⟨g9, 0, none⟩) (st.1.has.length + 1) cap9)) (some w2.heap.size) := grown_put (grown_refl _ _) 0 _
            have HXBA := HXB9.only hpA (fun e => by injection e with e; omega)
            have HVBA := HVB9.only hpA (fun e => by injection e with e; omega)
            have HWA := Lib.hid (HB6.out.trans (below_of_grown HSA.out.gr HNE.out.2.2 HB6.out.size))
            have c9 := HG9.cell 0
            have f9 := HG9.frozen 0
            simp [clCells] at c9
            have gl9 := HG9.lt
            have xa0 := HXBA.cell 0
            have xa1 := HXBA.cell 1
            have va0 := HVBA.cell 0
            have xal := HXBA.lt
            have val := HVBA.lt
            simp at xa0 xa1 va0
            have hcf := fun args W => readk_enter HRXS.out args W
            dsimp only at hcf
            have hk10 : K.length ≤ 10 := HKF.out.2
            have HRK := Lib.hid (fun (p : ByteArray) (hp : p = ⟨(path k).toArray⟩) => readk_any (k := k) (q, cap) (withHas st.1 k) _ _ _ v4 v7 _ u _ w0 _ (HRXS.out.only HSA.out.gr ⟨_, _, _, HGC6.out.cell 0⟩) HSA.out.blk HRU.out (HB0.out.trans (HWA.out.mono HB0.out.size)) HUO.out.1 HUO.out.2 (HTAB.out.next HWA.out) p hp)
            dsimp only at HRK
            clear hpA HXB9 HVB9 HG9 HXBA HVBA c0 x0 hxl6 hgl6 hnews hown9 hgr9 hat9)
          ((with_reducible refine (HRK.out _ (by rw [path_cat, HPK.out])).mono ?_); rintro e w11 hP)
          have HPP := Lib.hid hP
          clear hP HRK hcf xa0 xa1 va0 c9 f9
          cases hs : setK (withHas st.1 k) k u with
          | inl x =>
            have hP := HPP.out
            unfold SetP at hP
            rw [hs] at hP
            obtain ⟨he, hb11⟩ := hP
            obtain ⟨Tt, uu, hx⟩ : ∃ Tt uu, tlV x = .iface Tt uu := ⟨_, _, rfl⟩
            rw [hx] at he
            subst he
            have HX := Lib.hid hx
            clear hx
            have HE := Lib.hid (HRE.out u x HON.out hs)
            have HSB := Lib.hid (HSA.out.below hb11)
            have HN11 := Lib.hid (show w9.heap.size ≤ w11.heap.size from by have := hb11.size; simpa using this)
            clear hb11 HPP hs HRO HRN HRE
            obtain ⟨A1, q1', hva⟩ := own_sliceP HSB.out.ha
            subst hva
            have HSC := Lib.hid (HSB.out.below (w' := w11.alloc (.cells #[.iface Tt uu] 28)) ((Below.refl _ _).alloc (Nat.le_refl _) _))
            have hnewe := one_newP w11 28 (.iface Tt uu)
            have hel : st.2.length ≤ 8 := HEL.out
            have hs11 : wS.heap.size ≤ w11.heap.size := HSB.out.size
            go_wp2_with
             (at_builtin
              refine wpList_append_lies _ rfl (.tmp 54) (.tmp 56) _ rfl wS.heap.size 28 i1 _ 1 16 Tryz.underlying98 hi1 hy0 hy1 hy2 rfl (by omega) (.slice A1 st.2.length q1') st.2.length (st.2.map tlV) rfl HSC.out.ha ⟨w11.heap.size, 0, none⟩ 1 1 [.iface Tt uu] rfl rfl hnewe (one_cellP _ rfl) (by omega) (by unfold maxLen; omega) (by omega) (by have := HSC.out.size; exact this) _ rfl ?_
              intro g12 cap12 w12 hown12 hgr12 hat12 hlt12
              have HSD := Lib.hid (HSC.out.errAdd (x := x) (by rw [HX.out]; exact hown12) hgr12))
            go_roundw
            case rel => exact ⟨k + 1, by omega, by go_num, Lib.hid ⟨_, v4, v7, by rw [HE.out]; exact HSD.out⟩⟩
            case measure => simp [intOf]; omega
          | inr d =>
            have hP := HPP.out
            unfold SetP at hP
            rw [hs] at hP
            obtain ⟨rfl, hg11, u4, u7, hB11, hu4, hu7⟩ := hP
            have HE := Lib.hid (HRO.out u d HON.out hs)
            have HSB := Lib.hid (HSA.out.set (setK_has hlt hs) hg11 hB11 hu4 hu7)
            clear hg11 hB11 hu4 hu7 HPP hs HRO HRN HRE
            go_wp2
            go_roundw
            case rel => exact ⟨k + 1, by omega, by go_num, Lib.hid ⟨_, u4, u7, by rw [HE.out]; exact HSB.out⟩⟩
            case measure => simp [intOf]; omega
      · obtain ⟨r0, _, r2, r3, r4⟩ := hR
        have r1 := rows_rd hTbr hlt
        unfold fnV at r3
        generalize fnK k = F at *
        have hrx := HRDK.out
        obtain ⟨xx, hxx⟩ : ∃ xx, rd k = xx := ⟨_, rfl⟩
        rw [hxx] at r1 hrx
        have HRXS := Lib.hid hrx
        obtain ⟨q, cap⟩ := xx
        have HKF := Lib.hid (key_fine hlt)
        have HPK := Lib.hid (show path k = 47 :: key k from rfl)
        obtain ⟨K, hK⟩ : ∃ K, key k = K := ⟨_, rfl⟩
        rw [hK] at HKF HPK r0 HRN HRO HRE
        have HKK := Lib.hid hK
        clear hK hrx hkind hxx HRDK
        dsimp only at r1
        have hq1 : Below wr.heap.size wr (wr.alloc (.cells #[.string ⟨K.toArray⟩, .func (.func q) #[] cap, .nilFunc, .func (.func F) #[] #[], .nilFunc] 106)) := (Below.refl _ _).alloc (Nat.le_refl _) _
        have HQ1 := Lib.hid hq1
        have HXB := Lib.hid (Blk.new wr 106 #[.string ⟨K.toArray⟩, .func (.func q) #[] cap, .nilFunc, .func (.func F) #[] #[], .nilFunc])
        have HFD := Lib.hid (fun (W : World) (hb : Below w0.heap.size w0 W) => find_any ks l (.iface tx ux) K w0 W HR.out hb HOK.out.1 HOK.out.2 HKF.out.1 (by have := HKF.out.2; omega))
        have HWR := Lib.hid (HB6.out.trans (below_of_grown HSt.out.gr HNE.out.2.2 HB6.out.size))
        have cxr := HBXR.out.cell 0
        simp at cxr
        have hgtl := HTBR.out.lt
        have hxl := HBXR.out.lt
        clear hq1
        go_wp2_with fail
        ((with_reducible refine (HFD.out _ (HB0.out.trans ((HWR.out.trans (HQ1.out.mono HWR.out.size)).mono HB0.out.size))).mono ?_); rintro e w5 ⟨hp, hb5⟩)
        have HQ5 := Lib.hid (HQ1.out.trans (hb5.mono HQ1.out.size))
        have HXB5 := Lib.hid (HXB.out.below hb5 HXB.out.lt)
        clear hb5 cxr r0 r1 r2 r3 r4 HXB HFD
        cases hon : onT K (.obj ks l) with
        | none =>
          rw [hon] at hp
          obtain rfl := hp
          have HFIN := Lib.hid (HSt.out.below (HQ5.out.alloc HQ5.out.size (.cells #[.nilIface] 93)))
          have HE := Lib.hid (HRN.out hon)
          clear hon
          go_wp2
          go_roundw
          case rel => exact ⟨k + 1, by omega, by go_num, Lib.hid ⟨v0, v4, v7, by rw [HE.out]; exact HFIN.out⟩⟩
          case measure => simp [intOf]; omega
        | some u =>
          rw [hon] at hp
          obtain ⟨tx', ux', rfl, hru⟩ := hp
          have HRU := Lib.hid hru
          have HUO := Lib.hid (onT_ok HOK.out.1 hon)
          have HON := Lib.hid hon
          clear hon hru
          have hq6 := HQ5.out.alloc HQ5.out.size (.cells #[.iface tx' ux'] 93)
          have HS5 := Lib.hid (HSt.out.below hq6)
          have HXB6 := Lib.hid (HXB5.out.alloc (.cells #[.iface tx' ux'] 93))
          have HVB6 := Lib.hid (Blk.new w5 93 #[.iface tx' ux'])
          have hs6 : wr.heap.size ≤ w5.heap.size := HQ5.out.size
          obtain ⟨A0, q0, hv0⟩ := own_sliceP HSt.out.h0
          subst hv0
          have hq7 : Below (w5.alloc (.cells #[.iface tx' ux'] 93)).heap.size (w5.alloc (.cells #[.iface tx' ux'] 93)) ((w5.alloc (.cells #[.iface tx' ux'] 93)).alloc (.cells #[.string ⟨K.toArray⟩] 9)) := (Below.refl _ _).alloc (Nat.le_refl _) _
          have HS6 := Lib.hid (HS5.out.below hq7)
          have HXB7 := Lib.hid (HXB6.out.alloc (.cells #[.string ⟨K.toArray⟩] 9))
          have HVB7 := Lib.hid (HVB6.out.alloc (.cells #[.string ⟨K.toArray⟩] 9))
          have c0 := HS5.out.blk.cell 0
          simp [clCells] at c0
          have x0 := HXB6.out.cell 0
          have hxl6 := HXB6.out.lt
          have hgl6 := HS5.out.blk.lt
          simp at x0
          have hcl : st.1.has.length ≤ 8 := HHL.out
          have hnews := one_newP (w5.alloc (.cells #[.iface tx' ux'] 93)) 9 (.string ⟨K.toArray⟩)
          rw [World.size_alloc] at hnews
          clear hq6 hq7
          go_wp2_with
           (at_builtin
            refine wpList_append_lies _ rfl (.tmp 39) (.tmp 42) _ rfl wS.heap.size 9 i0 _ 1 16 Tryz.underlying23 hi0 hz0 hz1 hz2 rfl (by omega) (.slice A0 st.1.has.length q0) st.1.has.length (st.1.has.map strV) rfl HS6.out.h0 ⟨w5.heap.size + 1, 0, none⟩ 1 1 [.string ⟨K.toArray⟩] rfl rfl hnews (one_cellP _ rfl) (by omega) (by unfold maxLen; omega) (by omega) (by have := HS6.out.size; exact this) _ rfl ?_
            intro g9 cap9 w9 hown9 hgr9 hat9 hlt9
            have hgclS : w2.heap.size < wS.heap.size := HSt.out.gcl
            have hszS : wS.heap.size ≤ wr.heap.size := HSt.out.size
            have HOWB : Hid (∀ j, (Value.slice A0 st.1.has.length q0).ownBlock = some j → wS.heap.size ≤ j ∧ j < wr.heap.size) := Lib.hid (fun j e => HSt.out.h0.lt j e)
            have HXB9 := HXB7.out.only hgr9 (fun e => by have := (HOWB.out _ e.symm).2; omega)
            have HVB9 := HVB7.out.only hgr9 (fun e => by have := (HOWB.out _ e.symm).2; omega)
            have HG9 := HS6.out.blk.only hgr9 (fun e => by have := (HOWB.out _ e.symm).1; omega)
            have HSA := Lib.hid (HS6.out.hasAdd (k := k) (by rw [HKK.out]; exact hown9) hgr9 hat9)
            have hpA : w9.grownBy (w9.setCell ⟨w2.heap.size, 0, none⟩ (.slice (some ⟨g9, 0, none⟩) (st.1.has.length + 1) cap9)) (some w2.heap.size) := grown_put (grown_refl _ _) 0 _
            have HXBA := HXB9.only hpA (fun e => by injection e with e; omega)
            have HVBA := HVB9.only hpA (fun e => by injection e with e; omega)
            have HWA := Lib.hid (HB6.out.trans (below_of_grown HSA.out.gr HNE.out.2.2 HB6.out.size))
            have c9 := HG9.cell 0
            have f9 := HG9.frozen 0
            simp [clCells] at c9
            have gl9 := HG9.lt
            have xa0 := HXBA.cell 0
            have xa1 := HXBA.cell 1
            have va0 := HVBA.cell 0
            have xal := HXBA.lt
            have val := HVBA.lt
            simp at xa0 xa1 va0
            have hcf := fun args W => readk_enter HRXS.out args W
            dsimp only at hcf
            have hk10 : K.length ≤ 10 := HKF.out.2
            have HRK := Lib.hid (fun (p : ByteArray) (hp : p = ⟨(path k).toArray⟩) => readk_any (k := k) (q, cap) (withHas st.1 k) _ _ _ v4 v7 _ u _ w0 _ (HRXS.out.only HSA.out.gr ⟨_, _, _, HGC6.out.cell 0⟩) HSA.out.blk HRU.out (HB0.out.trans (HWA.out.mono HB0.out.size)) HUO.out.1 HUO.out.2 (HTAB.out.next HWA.out) p hp)
            dsimp only at HRK
            clear hpA HXB9 HVB9 HG9 HXBA HVBA c0 x0 hxl6 hgl6 hnews hown9 hgr9 hat9)
          ((with_reducible refine (HRK.out _ (by rw [path_cat, HPK.out])).mono ?_); rintro e w11 hP)
          have HPP := Lib.hid hP
          clear hP HRK hcf xa0 xa1 va0 c9 f9
          cases hs : setK (withHas st.1 k) k u with
          | inl x =>
            have hP := HPP.out
            unfold SetP at hP
            rw [hs] at hP
            obtain ⟨he, hb11⟩ := hP
            obtain ⟨Tt, uu, hx⟩ : ∃ Tt uu, tlV x = .iface Tt uu := ⟨_, _, rfl⟩
            rw [hx] at he
            subst he
            have HX := Lib.hid hx
            clear hx
            have HE := Lib.hid (HRE.out u x HON.out hs)
            have HSB := Lib.hid (HSA.out.below hb11)
            have HN11 := Lib.hid (show w9.heap.size ≤ w11.heap.size from by have := hb11.size; simpa using this)
            clear hb11 HPP hs HRO HRN HRE
            obtain ⟨A1, q1', hva⟩ := own_sliceP HSB.out.ha
            subst hva
            have HSC := Lib.hid (HSB.out.below (w' := w11.alloc (.cells #[.iface Tt uu] 28)) ((Below.refl _ _).alloc (Nat.le_refl _) _))
            have hnewe := one_newP w11 28 (.iface Tt uu)
            have hel : st.2.length ≤ 8 := HEL.out
            have hs11 : wS.heap.size ≤ w11.heap.size := HSB.out.size
            go_wp2_with
             (at_builtin
              refine wpList_append_lies _ rfl (.tmp 54) (.tmp 56) _ rfl wS.heap.size 28 i1 _ 1 16 Tryz.underlying98 hi1 hy0 hy1 hy2 rfl (by omega) (.slice A1 st.2.length q1') st.2.length (st.2.map tlV) rfl HSC.out.ha ⟨w11.heap.size, 0, none⟩ 1 1 [.iface Tt uu] rfl rfl hnewe (one_cellP _ rfl) (by omega) (by unfold maxLen; omega) (by omega) (by have := HSC.out.size; exact this) _ rfl ?_
              intro g12 cap12 w12 hown12 hgr12 hat12 hlt12
              have HSD := Lib.hid (HSC.out.errAdd (x := x) (by rw [HX.out]; exact hown12) hgr12))
            go_roundw
            case rel => exact ⟨k + 1, by omega, by go_num, Lib.hid ⟨_, v4, v7, by rw [HE.out]; exact HSD.out⟩⟩
            case measure => simp [intOf]; omega
          | inr d =>
            have hP := HPP.out
            unfold SetP at hP
            rw [hs] at hP
            obtain ⟨rfl, hg11, u4, u7, hB11, hu4, hu7⟩ := hP
            have HE := Lib.hid (HRO.out u d HON.out hs)
            have HSB := Lib.hid (HSA.out.set (setK_has hlt hs) hg11 hB11 hu4 hu7)
            clear hg11 hB11 hu4 hu7 HPP hs HRO HRN HRE
            go_wp2
            go_roundw
            case rel => exact ⟨k + 1, by omega, by go_num, Lib.hid ⟨_, u4, u7, by rw [HE.out]; exact HSB.out⟩⟩
            case measure => simp [intOf]; omega
      · obtain ⟨r0, _, r2, r3, r4⟩ := hR
        have r1 := rows_rd hTbr hlt
        unfold fnV at r4
        generalize fnK k = F at *
        have hrx := HRDK.out
        obtain ⟨xx, hxx⟩ : ∃ xx, rd k = xx := ⟨_, rfl⟩
        rw [hxx] at r1 hrx
        have HRXS := Lib.hid hrx
        obtain ⟨q, cap⟩ := xx
        have HKF := Lib.hid (key_fine hlt)
        have HPK := Lib.hid (show path k = 47 :: key k from rfl)
        obtain ⟨K, hK⟩ : ∃ K, key k = K := ⟨_, rfl⟩
        rw [hK] at HKF HPK r0 HRN HRO HRE
        have HKK := Lib.hid hK
        clear hK hrx hkind hxx HRDK
        dsimp only at r1
        have hq1 : Below wr.heap.size wr (wr.alloc (.cells #[.string ⟨K.toArray⟩, .func (.func q) #[] cap, .nilFunc, .nilFunc, .func (.func F) #[] #[]] 106)) := (Below.refl _ _).alloc (Nat.le_refl _) _
        have HQ1 := Lib.hid hq1
        have HXB := Lib.hid (Blk.new wr 106 #[.string ⟨K.toArray⟩, .func (.func q) #[] cap, .nilFunc, .nilFunc, .func (.func F) #[] #[]])
        have HFD := Lib.hid (fun (W : World) (hb : Below w0.heap.size w0 W) => find_any ks l (.iface tx ux) K w0 W HR.out hb HOK.out.1 HOK.out.2 HKF.out.1 (by have := HKF.out.2; omega))
        have HWR := Lib.hid (HB6.out.trans (below_of_grown HSt.out.gr HNE.out.2.2 HB6.out.size))
        have cxr := HBXR.out.cell 0
        simp at cxr
        have hgtl := HTBR.out.lt
        have hxl := HBXR.out.lt
        clear hq1
        go_wp2_with fail
        ((with_reducible refine (HFD.out _ (HB0.out.trans ((HWR.out.trans (HQ1.out.mono HWR.out.size)).mono HB0.out.size))).mono ?_); rintro e w5 ⟨hp, hb5⟩)
        have HQ5 := Lib.hid (HQ1.out.trans (hb5.mono HQ1.out.size))
        have HXB5 := Lib.hid (HXB.out.below hb5 HXB.out.lt)
        clear hb5 cxr r0 r1 r2 r3 r4 HXB HFD
        cases hon : onT K (.obj ks l) with
        | none =>
          rw [hon] at hp
          obtain rfl := hp
          have HFIN := Lib.hid (HSt.out.below (HQ5.out.alloc HQ5.out.size (.cells #[.nilIface] 93)))
          have HE := Lib.hid (HRN.out hon)
          clear hon
          go_wp2
          go_roundw
          case rel => exact ⟨k + 1, by omega, by go_num, Lib.hid ⟨v0, v4, v7, by rw [HE.out]; exact HFIN.out⟩⟩
          case measure => simp [intOf]; omega
        | some u =>
          rw [hon] at hp
          obtain ⟨tx', ux', rfl, hru⟩ := hp
          have HRU := Lib.hid hru
          have HUO := Lib.hid (onT_ok HOK.out.1 hon)
          have HON := Lib.hid hon
          clear hon hru
          have hq6 := HQ5.out.alloc HQ5.out.size (.cells #[.iface tx' ux'] 93)
          have HS5 := Lib.hid (HSt.out.below hq6)
          have HXB6 := Lib.hid (HXB5.out.alloc (.cells #[.iface tx' ux'] 93))
          have HVB6 := Lib.hid (Blk.new w5 93 #[.iface tx' ux'])
          have hs6 : wr.heap.size ≤ w5.heap.size := HQ5.out.size
          obtain ⟨A0, q0, hv0⟩ := own_sliceP HSt.out.h0
          subst hv0
          have hq7 : Below (w5.alloc (.cells #[.iface tx' ux'] 93)).heap.size (w5.alloc (.cells #[.iface tx' ux'] 93)) ((w5.alloc (.cells #[.iface tx' ux'] 93)).alloc (.cells #[.string ⟨K.toArray⟩] 9)) := (Below.refl _ _).alloc (Nat.le_refl _) _
          have HS6 := Lib.hid (HS5.out.below hq7)
          have HXB7 := Lib.hid (HXB6.out.alloc (.cells #[.string ⟨K.toArray⟩] 9))
          have HVB7 := Lib.hid (HVB6.out.alloc (.cells #[.string ⟨K.toArray⟩] 9))
          have c0 := HS5.out.blk.cell 0
          simp [clCells] at c0
          have x0 := HXB6.out.cell 0
          have hxl6 := HXB6.out.lt
          have hgl6 := HS5.out.blk.lt
          simp at x0
          have hcl : st.1.has.length ≤ 8 := HHL.out
          have hnews := one_newP (w5.alloc (.cells #[.iface tx' ux'] 93)) 9 (.string ⟨K.toArray⟩)
          rw [World.size_alloc] at hnews
          clear hq6 hq7
          go_wp2_with
           (at_builtin
            refine wpList_append_lies _ rfl (.tmp 39) (.tmp 42) _ rfl wS.heap.size 9 i0 _ 1 16 Tryz.underlying23 hi0 hz0 hz1 hz2 rfl (by omega) (.slice A0 st.1.has.length q0) st.1.has.length (st.1.has.map strV) rfl HS6.out.h0 ⟨w5.heap.size + 1, 0, none⟩ 1 1 [.string ⟨K.toArray⟩] rfl rfl hnews (one_cellP _ rfl) (by omega) (by unfold maxLen; omega) (by omega) (by have := HS6.out.size; exact this) _ rfl ?_
            intro g9 cap9 w9 hown9 hgr9 hat9 hlt9
            have hgclS : w2.heap.size < wS.heap.size := HSt.out.gcl
            have hszS : wS.heap.size ≤ wr.heap.size := HSt.out.size
            have HOWB : Hid (∀ j, (Value.slice A0 st.1.has.length q0).ownBlock = some j → wS.heap.size ≤ j ∧ j < wr.heap.size) := Lib.hid (fun j e => HSt.out.h0.lt j e)
            have HXB9 := HXB7.out.only hgr9 (fun e => by have := (HOWB.out _ e.symm).2; omega)
            have HVB9 := HVB7.out.only hgr9 (fun e => by have := (HOWB.out _ e.symm).2; omega)
            have HG9 := HS6.out.blk.only hgr9 (fun e => by have := (HOWB.out _ e.symm).1; omega)
            have HSA := Lib.hid (HS6.out.hasAdd (k := k) (by rw [HKK.out]; exact hown9) hgr9 hat9)
            have hpA : w9.grownBy (w9.setCell ⟨w2.heap.size, 0, none⟩ (.slice (some ⟨g9, 0, none⟩) (st.1.has.length + 1) cap9)) (some w2.heap.size) := grown_put (grown_refl _ _) 0 _
            have HXBA := HXB9.only hpA (fun e => by injection e with e; omega)
            have HVBA := HVB9.only hpA (fun e => by injection e with e; omega)
            have HWA := Lib.hid (HB6.out.trans (below_of_grown HSA.out.gr HNE.out.2.2 HB6.out.size))
            have c9 := HG9.cell 0
            have f9 := HG9.frozen 0
            simp [clCells] at c9
            have gl9 := HG9.lt
            have xa0 := HXBA.cell 0
            have xa1 := HXBA.cell 1
            have va0 := HVBA.cell 0
            have xal := HXBA.lt
            have val := HVBA.lt
            simp at xa0 xa1 va0
            have hcf := fun args W => readk_enter HRXS.out args W
            dsimp only at hcf
            have hk10 : K.length ≤ 10 := HKF.out.2
            have HRK := Lib.hid (fun (p : ByteArray) (hp : p = ⟨(path k).toArray⟩) => readk_any (k := k) (q, cap) (withHas st.1 k) _ _ _ v4 v7 _ u _ w0 _ (HRXS.out.only HSA.out.gr ⟨_, _, _, HGC6.out.cell 0⟩) HSA.out.blk HRU.out (HB0.out.trans (HWA.out.mono HB0.out.size)) HUO.out.1 HUO.out.2 (HTAB.out.next HWA.out) p hp)
            dsimp only at HRK
            clear hpA HXB9 HVB9 HG9 HXBA HVBA c0 x0 hxl6 hgl6 hnews hown9 hgr9 hat9)
          ((with_reducible refine (HRK.out _ (by rw [path_cat, HPK.out])).mono ?_); rintro e w11 hP)
          have HPP := Lib.hid hP
          clear hP HRK hcf xa0 xa1 va0 c9 f9
          cases hs : setK (withHas st.1 k) k u with
          | inl x =>
            have hP := HPP.out
            unfold SetP at hP
            rw [hs] at hP
            obtain ⟨he, hb11⟩ := hP
            obtain ⟨Tt, uu, hx⟩ : ∃ Tt uu, tlV x = .iface Tt uu := ⟨_, _, rfl⟩
            rw [hx] at he
            subst he
            have HX := Lib.hid hx
            clear hx
            have HE := Lib.hid (HRE.out u x HON.out hs)
            have HSB := Lib.hid (HSA.out.below hb11)
            have HN11 := Lib.hid (show w9.heap.size ≤ w11.heap.size from by have := hb11.size; simpa using this)
            clear hb11 HPP hs HRO HRN HRE
            obtain ⟨A1, q1', hva⟩ := own_sliceP HSB.out.ha
            subst hva
            have HSC := Lib.hid (HSB.out.below (w' := w11.alloc (.cells #[.iface Tt uu] 28)) ((Below.refl _ _).alloc (Nat.le_refl _) _))
            have hnewe := one_newP w11 28 (.iface Tt uu)
            have hel : st.2.length ≤ 8 := HEL.out
            have hs11 : wS.heap.size ≤ w11.heap.size := HSB.out.size
            go_wp2_with
             (at_builtin
              refine wpList_append_lies _ rfl (.tmp 54) (.tmp 56) _ rfl wS.heap.size 28 i1 _ 1 16 Tryz.underlying98 hi1 hy0 hy1 hy2 rfl (by omega) (.slice A1 st.2.length q1') st.2.length (st.2.map tlV) rfl HSC.out.ha ⟨w11.heap.size, 0, none⟩ 1 1 [.iface Tt uu] rfl rfl hnewe (one_cellP _ rfl) (by omega) (by unfold maxLen; omega) (by omega) (by have := HSC.out.size; exact this) _ rfl ?_
              intro g12 cap12 w12 hown12 hgr12 hat12 hlt12
              have HSD := Lib.hid (HSC.out.errAdd (x := x) (by rw [HX.out]; exact hown12) hgr12))
            go_roundw
            case rel => exact ⟨k + 1, by omega, by go_num, Lib.hid ⟨_, v4, v7, by rw [HE.out]; exact HSD.out⟩⟩
            case measure => simp [intOf]; omega
          | inr d =>
            have hP := HPP.out
            unfold SetP at hP
            rw [hs] at hP
            obtain ⟨rfl, hg11, u4, u7, hB11, hu4, hu7⟩ := hP
            have HE := Lib.hid (HRO.out u d HON.out hs)
            have HSB := Lib.hid (HSA.out.set (setK_has hlt hs) hg11 hB11 hu4 hu7)
            clear hg11 hB11 hu4 hu7 HPP hs HRO HRN HRE
            go_wp2
            go_roundw
            case rel => exact ⟨k + 1, by omega, by go_num, Lib.hid ⟨_, u4, u7, by rw [HE.out]; exact HSB.out⟩⟩
            case measure => simp [intOf]; omega
    · have hk8 : k = 8 := by omega
      subst hk8
      obtain ⟨st, hst⟩ : ∃ st, readAt (.obj ks l) 8 = st := ⟨_, rfl⟩
      have HST8 := Lib.hid (show readC (.obj ks l) = st from hst)
      rw [hst] at HSt
      clear hst HI hk hlt
      obtain ⟨A1, q1', hva⟩ := own_sliceP HSt.out.ha
      subst hva
      obtain ⟨B0, r0, hv0⟩ := own_sliceP HSt.out.h0
      subst hv0
      obtain ⟨B4, r4, hv4⟩ := own_sliceP HSt.out.h4
      subst hv4
      obtain ⟨B7, r7, hv7⟩ := own_sliceP HSt.out.h7
      subst hv7
      have HBRR := Lib.hid (HBR6.out.only HSt.out.gr (by have := HNE.out.2.1; intro e; injection e with e; exact this e))
      have HWR := Lib.hid (HB6.out.trans (below_of_grown HSt.out.gr HNE.out.2.2 HB6.out.size))
      have hws : w.heap.size < wS.heap.size := by
        have := HGC6.out.lt
        have := HNE.out
        omega
      have z0 := HBRR.out.cell 0
      have z1 := HBRR.out.cell 1
      have z2 := HBRR.out.cell 2
      have z3 := HBRR.out.cell 3
      have z4 := HBRR.out.cell 4
      have z5 := HBRR.out.cell 5
      have z6 := HBRR.out.cell 6
      have z7 := HBRR.out.cell 7
      have z8 := HBRR.out.cell 8
      have y0 := HBRR.out.frozen 0
      have y1 := HBRR.out.frozen 1
      have y2 := HBRR.out.frozen 2
      have y3 := HBRR.out.frozen 3
      have y4 := HBRR.out.frozen 4
      have y5 := HBRR.out.frozen 5
      have y6 := HBRR.out.frozen 6
      have y7 := HBRR.out.frozen 7
      have y8 := HBRR.out.frozen 8
      simp at z0 z1 z2 z3 z4 z5 z6 z7 z8
      by_cases he : st.2 = []
      · have hl0 : st.2.length = 0 := by rw [he]; rfl
        rw [hl0]
        have b0 := HSt.out.blk.cell 0
        have b1 := HSt.out.blk.cell 1
        have b2 := HSt.out.blk.cell 2
        have b3 := HSt.out.blk.cell 3
        have b4 := HSt.out.blk.cell 4
        have b5 := HSt.out.blk.cell 5
        have b6 := HSt.out.blk.cell 6
        have b7 := HSt.out.blk.cell 7
        have b8 := HSt.out.blk.cell 8
        simp [clCells] at b0 b1 b2 b3 b4 b5 b6 b7 b8
        go_wp2
        have hf := nine_blk HBRR.out (.slice B0 st.1.has.length r0) (.string ⟨st.1.about.toArray⟩) (.int .i64 st.1.at_) (.string ⟨st.1.by_.toArray⟩) (.slice B4 st.1.for_.length r4) (.int .i64 st.1.from_) (.string ⟨st.1.id_.toArray⟩) (.slice B7 st.1.may_.length r7) (.int .i64 st.1.until_)
        have hg := nine_grown wr w.heap.size (.slice B0 st.1.has.length r0) (.string ⟨st.1.about.toArray⟩) (.int .i64 st.1.at_) (.string ⟨st.1.by_.toArray⟩) (.slice B4 st.1.for_.length r4) (.int .i64 st.1.from_) (.string ⟨st.1.id_.toArray⟩) (.slice B7 st.1.may_.length r7) (.int .i64 st.1.until_)
        unfold nineW at hf hg
        generalize (((((((((wr.setCell ⟨w.heap.size, 0, none⟩ (.slice B0 st.1.has.length r0)).setCell ⟨w.heap.size, 1, none⟩ (.string ⟨st.1.about.toArray⟩)).setCell ⟨w.heap.size, 2, none⟩ (.int .i64 st.1.at_)).setCell ⟨w.heap.size, 3, none⟩ (.string ⟨st.1.by_.toArray⟩)).setCell ⟨w.heap.size, 4, none⟩ (.slice B4 st.1.for_.length r4)).setCell ⟨w.heap.size, 5, none⟩ (.int .i64 st.1.from_)).setCell ⟨w.heap.size, 6, none⟩ (.string ⟨st.1.id_.toArray⟩)).setCell ⟨w.heap.size, 7, none⟩ (.slice B7 st.1.may_.length r7)).setCell ⟨w.heap.size, 8, none⟩ (.int .i64 st.1.until_)) = wf at *
        have e0 := hf.cell 0
        have e1 := hf.cell 1
        have e2 := hf.cell 2
        have e3 := hf.cell 3
        have e4 := hf.cell 4
        have e5 := hf.cell 5
        have e6 := hf.cell 6
        have e7 := hf.cell 7
        have e8 := hf.cell 8
        simp at e0 e1 e2 e3 e4 e5 e6 e7 e8
        have hwb : Below w.heap.size w wf := HWR.out.trans (below_of_grown hg (Nat.le_refl _) HWR.out.size)
        refine bodyPost_ret (v := .tuple #[.agg #[.slice B0 st.1.has.length r0, .string ⟨st.1.about.toArray⟩, .int .i64 st.1.at_, .string ⟨st.1.by_.toArray⟩, .slice B4 st.1.for_.length r4, .int .i64 st.1.from_, .string ⟨st.1.id_.toArray⟩, .slice B7 st.1.may_.length r7, .int .i64 st.1.until_], .nilIface]) ?_ ?_ ?_
        · simp [results, Tryz.results6, go_sem, e0, e1, e2, e3, e4, e5, e6, e7, e8]
        · rfl
        · unfold ReadOP
          rw [HST8.out]
          rw [if_pos he]
          exact ⟨⟨_, _, _, rfl, own_baseR (own_far HSt.out.h0 hws hg) (Nat.le_of_lt hws), own_baseR (own_far HSt.out.h4 hws hg) (Nat.le_of_lt hws), own_baseR (own_far HSt.out.h7 hws hg) (Nat.le_of_lt hws)⟩, hwb⟩
      · have hl0 : 0 < st.2.length := by
          rw [List.length_pos_iff]
          exact he
        go_wp2
        have hf := nine_blk HBRR.out (.slice none 0 0) (.string ⟨#[]⟩) (.int .i64 0) (.string ⟨#[]⟩) (.slice none 0 0) (.int .i64 0) (.string ⟨#[]⟩) (.slice none 0 0) (.int .i64 0)
        have hg := nine_grown wr w.heap.size (.slice none 0 0) (.string ⟨#[]⟩) (.int .i64 0) (.string ⟨#[]⟩) (.slice none 0 0) (.int .i64 0) (.string ⟨#[]⟩) (.slice none 0 0) (.int .i64 0)
        unfold nineW at hf hg
        generalize (((((((((wr.setCell ⟨w.heap.size, 0, none⟩ (.slice none 0 0)).setCell ⟨w.heap.size, 1, none⟩ (.string ⟨#[]⟩)).setCell ⟨w.heap.size, 2, none⟩ (.int .i64 0)).setCell ⟨w.heap.size, 3, none⟩ (.string ⟨#[]⟩)).setCell ⟨w.heap.size, 4, none⟩ (.slice none 0 0)).setCell ⟨w.heap.size, 5, none⟩ (.int .i64 0)).setCell ⟨w.heap.size, 6, none⟩ (.string ⟨#[]⟩)).setCell ⟨w.heap.size, 7, none⟩ (.slice none 0 0)).setCell ⟨w.heap.size, 8, none⟩ (.int .i64 0)) = wf at *
        have e0 := hf.cell 0
        have e1 := hf.cell 1
        have e2 := hf.cell 2
        have e3 := hf.cell 3
        have e4 := hf.cell 4
        have e5 := hf.cell 5
        have e6 := hf.cell 6
        have e7 := hf.cell 7
        have e8 := hf.cell 8
        simp at e0 e1 e2 e3 e4 e5 e6 e7 e8
        have hwb : Below w.heap.size w wf := HWR.out.trans (below_of_grown hg (Nat.le_refl _) HWR.out.size)
        refine bodyPost_ret (v := .tuple #[.agg #[.slice none 0 0, .string ⟨#[]⟩, .int .i64 0, .string ⟨#[]⟩, .slice none 0 0, .int .i64 0, .string ⟨#[]⟩, .slice none 0 0, .int .i64 0], .iface 98 (.slice A1 st.2.length q1')]) ?_ ?_ ?_
        · simp [results, Tryz.results6, go_sem, e0, e1, e2, e3, e4, e5, e6, e7, e8]
        · rfl
        · unfold ReadOP
          rw [HST8.out]
          rw [if_neg he]
          exact ⟨⟨_, rfl, own_baseR (own_far HSt.out.ha hws hg) (Nat.le_of_lt hws)⟩, hwb⟩
end Nd
end Go.Proofs.YtobaldkipnhlpaaGreatDoor
