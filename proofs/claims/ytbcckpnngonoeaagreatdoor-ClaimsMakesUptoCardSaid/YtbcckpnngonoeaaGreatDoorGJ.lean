/-
  Walks of package node: a Ref's Same: lists.
  Walks of package node: a Ref's Same: objects.
  Walks of package node: a Ref's Same and a Tree's Same, of every two trees.
-/
import Derived.Test.YtbcckpnngonoeaaGreatDoorGI
import Derived.StillTailTactics
import Derived.Test.YtbcckpnngonoeaaGreatDoorNsD
import Derived.Test.YtbcckpnngonoeaaGreatDoorGF
namespace Go.Proofs.YtbcckpnngonoeaaGreatDoor
open Go.RowKit Mem
set_option linter.unusedVariables false
set_option linter.unusedSimpArgs false
namespace Nd
set_option maxRecDepth 100000 in
set_option maxHeartbeats 8000000 in
theorem same_list (l m : List Tr) (a b : Value) (w : World) (ht : RdA w (.list l) a) (hu : RdA w (.list m) b) (hl : l.length = m.length) (hbig : l.length ≤ 1048576) (ih : ∀ k (h1 : k < l.length) (h2 : k < m.length) x y W, RdA W l[k] x → RdA W m[k] y → Calls Tryz.prog 68 #[.agg #[x], .agg #[y]] W fun e w' => e = .returned (.bool (eqT l[k] m[k])) ∧ Below W.heap.size W w') :
    Calls Tryz.prog 68 #[.agg #[a], .agg #[b]] w fun e w' => e = .returned (.bool (eqT (.list l) (.list m))) ∧ Below w.heap.size w w' := by
  have hsn : (((Tr.srt (.list l) : Nat) : Int) != ((Tr.srt (.list m) : Nat) : Int)) = false := by simp [Tr.srt]
  have hln : (((Tr.kids (.list l)).length : Int) != ((Tr.kids (.list m)).length : Int)) = false := by simp [Tr.kids, hl]
  have HKL : Hid ((Tr.kn (.list l)).length = (Tr.kn (.list m)).length) := Lib.hid rfl
  have HKN : Hid ((Tr.kn (.list l)).length ≤ 1048576) := Lib.hid (by simp [Tr.kn])
  have hkd : decide (Tr.kn (.list l) = Tr.kn (.list m)) = true := by simp [Tr.kn]
  have HEQ : Hid ((∀ j (h1 : j < l.length) (h2 : j < m.length), eqT l[j] m[j] = true) → eqT (.list l) (.list m) = true) := Lib.hid fun h => by simp only [eqT]; exact (eqL_iff l m).2 ⟨hl, h⟩
  have HNE : Hid (∀ j (h1 : j < l.length) (h2 : j < m.length), eqT l[j] m[j] = false → eqT (.list l) (.list m) = false) := Lib.hid fun j h1 h2 h => by
    simp only [eqT]
    cases hq : eqL l m with
    | false => rfl
    | true => rw [((eqL_iff l m).1 hq).2 j h1 h2] at h; cases h
  have HLM := Lib.hid hl
  clear hl
  have HIH := Lib.hid ih
  clear ih
  obtain ⟨A, c, vs, hI1, hrow1, hl1⟩ := ht.itv
  obtain ⟨B, d, us, hI2, hrow2, hl2⟩ := hu.itv
  have HI1 := Lib.hid hI1
  have HI2 := Lib.hid hI2
  have HR1 := Lib.hid (And.intro hrow1 hl1)
  have HR2 := Lib.hid (And.intro hrow2 hl2)
  clear hI1 hI2 hrow1 hl1 hrow2 hl2
  obtain ⟨pa, ea⟩ : ∃ p, a = .iface 212 (.pointer (some ⟨p, 0, none⟩)) := by
    have h := ht
    unfold RdA RdT at h
    obtain ⟨g, h⟩ := h
    obtain ⟨A1, c1, vs1, h, _⟩ := h
    exact ⟨g, h⟩
  have EA := Lib.hid ea
  clear ea
  obtain ⟨c2, c3, hB0⟩ := two_boxes w 140 a b
  have HT1 := rda_below ht hB0
  have HU1 := rda_below hu hB0
  obtain ⟨W0, hW0⟩ : ∃ W0, W0 = (w.alloc (.cells #[a] 140)).alloc (.cells #[b] 140) := ⟨_, rfl⟩
  rw [← hW0] at c2 c3 hB0 HT1 HU1
  have HT := Lib.hid HT1
  have HU := Lib.hid HU1
  clear HT1 HU1
  have hd0 : Below W0.heap.size W0 W0.drew := drewN_below W0 1
  go_enter Tryz.func68, Tryz.ntmps68
  go_upto_region 1 with fail
  rw [← hW0]
  clear hW0
  refine wp_region_held_drew (S := (fun w' => w'.cell? ⟨w.heap.size, 0, none⟩ = some a ∧ w'.cell? ⟨w.heap.size + 1, 0, none⟩ = some b ∧ Below W0.heap.size W0 w')) (by kernel_rfl) ⟨c2, c3, hd0⟩ (fun hHeld => ?_)
  refine held_take (i := 0) (v := ?_) (some 10) rfl rfl (by kernel_rfl) (by kernel_rfl) (by kernel_rfl) (fun _ _ _ h => h) (Or.inl ⟨by rfl, ?_⟩) hHeld ?_
  rotate_left
  · intro w hSw
    try dsimp only at hSw
    go_simp
    try with_reducible rfl
  simp only [Act.put, List.setIfInBounds_toArray, List.set_cons_zero, List.set_cons_succ]
  refine held_take (i := 2) (v := ?_) (some 12) rfl rfl (by kernel_rfl) (by kernel_rfl) (by kernel_rfl) (fun _ _ _ h => h) (Or.inl ⟨by rfl, ?_⟩) hHeld ?_
  rotate_left
  · intro w hSw
    try dsimp only at hSw
    go_simp
    try with_reducible rfl
  simp only [Act.put, List.setIfInBounds_toArray, List.set_cons_zero, List.set_cons_succ]
  refine wpAnyH_ready (rs := [1]) (by kernel_rfl) (by simp) ?_
  refine AllReadyH.cons rfl (fun K hK => ?_) AllReadyH.nil
  go_simp
  go_at_call 43
  ((with_reducible refine (sort_any _ (.list l) a _ (rda_below HT.out hHeld.2.2)).mono ?_); rintro e w2 ⟨rfl, hb2⟩; dsimp only)
  replace hHeld := two_below hHeld hb2
  refine hK.out _ _ hHeld (fun _ => ?_)
  clear hK K
  refine wpAnyH_ready (rs := [3]) (by kernel_rfl) (by simp) ?_
  refine AllReadyH.cons rfl (fun K hK => ?_) AllReadyH.nil
  go_simp
  go_at_call 43
  ((with_reducible refine (sort_any _ (.list m) b _ (rda_below HU.out hHeld.2.2)).mono ?_); rintro e w2 ⟨rfl, hb2⟩; dsimp only)
  replace hHeld := two_below hHeld hb2
  refine hK.out _ _ hHeld (fun _ => ?_)
  clear hK K
  refine held_take (i := 4) (v := ?_) (some 14) rfl rfl (by kernel_rfl) (by kernel_rfl) (by kernel_rfl) (fun _ _ _ h => h) (Or.inl ⟨by rfl, ?_⟩) hHeld ?_
  rotate_left
  · intro w hSw
    try dsimp only at hSw
    go_simp
    try with_reducible rfl
  simp only [Act.put, List.setIfInBounds_toArray, List.set_cons_zero, List.set_cons_succ]
  refine held_take (i := 5) (v := ?_) (some 15) rfl rfl (by kernel_rfl) (by kernel_rfl) (by kernel_rfl) (fun _ _ _ h => h) (Or.inl ⟨by rfl, ?_⟩) hHeld ?_
  rotate_left
  · intro w hSw
    try dsimp only at hSw
    go_simp
    try with_reducible rfl
  simp only [Act.put, List.setIfInBounds_toArray, List.set_cons_zero, List.set_cons_succ]
  refine held_take (i := 6) (v := ?_) (some 16) rfl rfl (by kernel_rfl) (by kernel_rfl) (by kernel_rfl) (fun _ _ _ h => h) (Or.inl ⟨by rfl, ?_⟩) hHeld ?_
  rotate_left
  · intro w hSw
    try dsimp only at hSw
    go_simp
    try with_reducible rfl
  simp only [Act.put, List.setIfInBounds_toArray, List.set_cons_zero, List.set_cons_succ]
  refine held_take (i := 8) (v := ?_) (some 18) rfl rfl (by kernel_rfl) (by kernel_rfl) (by kernel_rfl) (fun _ _ _ h => h) (Or.inl ⟨by rfl, ?_⟩) hHeld ?_
  rotate_left
  · intro w hSw
    try dsimp only at hSw
    go_simp
    try with_reducible rfl
  simp only [Act.put, List.setIfInBounds_toArray, List.set_cons_zero, List.set_cons_succ]
  refine wpAnyH_ready (rs := [7]) (by kernel_rfl) (by simp) ?_
  refine AllReadyH.cons rfl (fun K hK => ?_) AllReadyH.nil
  go_simp
  go_at_call 117
  ((with_reducible refine (len_any _ (.list l) a _ (rda_below HT.out hHeld.2.2)).mono ?_); rintro e w2 ⟨rfl, hb2⟩; dsimp only)
  replace hHeld := two_below hHeld hb2
  refine hK.out _ _ hHeld (fun _ => ?_)
  clear hK K
  refine wpAnyH_ready (rs := [9]) (by kernel_rfl) (by simp) ?_
  refine AllReadyH.cons rfl (fun K hK => ?_) AllReadyH.nil
  go_simp
  go_at_call 117
  ((with_reducible refine (len_any _ (.list m) b _ (rda_below HU.out hHeld.2.2)).mono ?_); rintro e w2 ⟨rfl, hb2⟩; dsimp only)
  replace hHeld := two_below hHeld hb2
  refine hK.out _ _ hHeld (fun _ => ?_)
  clear hK K
  refine held_take (i := 10) (v := ?_) (some 20) rfl rfl (by kernel_rfl) (by kernel_rfl) (by kernel_rfl) (fun _ _ _ h => h) (Or.inl ⟨by rfl, ?_⟩) hHeld ?_
  rotate_left
  · intro w hSw
    try dsimp only at hSw
    go_simp
    try with_reducible rfl
  simp only [Act.put, List.setIfInBounds_toArray, List.set_cons_zero, List.set_cons_succ]
  refine held_take (i := 11) (v := ?_) (some 21) rfl rfl (by kernel_rfl) (by kernel_rfl) (by kernel_rfl) (fun _ _ _ h => h) (Or.inl ⟨by rfl, ?_⟩) hHeld ?_
  rotate_left
  · intro w hSw
    try dsimp only at hSw
    go_simp
    try with_reducible rfl
  simp only [Act.put, List.setIfInBounds_toArray, List.set_cons_zero, List.set_cons_succ]
  refine held_take (i := 12) (v := ?_) (some 22) rfl rfl (by kernel_rfl) (by kernel_rfl) (by kernel_rfl) (fun _ _ _ h => h) (Or.inl ⟨by rfl, ?_⟩) hHeld ?_
  rotate_left
  · intro w hSw
    try dsimp only at hSw
    go_simp
    try with_reducible rfl
  simp only [Act.put, List.setIfInBounds_toArray, List.set_cons_zero, List.set_cons_succ]
  refine held_take (i := 13) (v := ?_) (some 23) rfl rfl (by kernel_rfl) (by kernel_rfl) (by kernel_rfl) (fun _ _ _ h => h) (Or.inl ⟨by rfl, ?_⟩) hHeld ?_
  rotate_left
  · intro w hSw
    try dsimp only at hSw
    go_simp
    try with_reducible rfl
  simp only [Act.put, List.setIfInBounds_toArray, List.set_cons_zero, List.set_cons_succ]
  refine held_take (i := 15) (v := ?_) (some 25) rfl rfl (by kernel_rfl) (by kernel_rfl) (by kernel_rfl) (fun _ _ _ h => h) (Or.inl ⟨by rfl, ?_⟩) hHeld ?_
  rotate_left
  · intro w hSw
    try dsimp only at hSw
    go_simp
    try with_reducible rfl
  simp only [Act.put, List.setIfInBounds_toArray, List.set_cons_zero, List.set_cons_succ]
  refine wpAnyH_ready (rs := [14]) (by kernel_rfl) (by simp) ?_
  refine AllReadyH.cons rfl (fun K hK => ?_) AllReadyH.nil
  go_simp
  go_at_call 101
  ((with_reducible refine (keysr_any _ (.list l) a _ (rda_below HT.out hHeld.2.2)).mono ?_); rintro e w2 ⟨⟨A1, q1, rfl, hkA1⟩, hb2⟩; dsimp only)
  replace hkA1 := hkA1.below hb2
  replace hHeld := two_below hHeld hb2
  refine hK.out _ _ hHeld (fun _ => ?_)
  clear hK K
  refine wpAnyH_ready (rs := [16]) (by kernel_rfl) (by simp) ?_
  refine AllReadyH.cons rfl (fun K hK => ?_) AllReadyH.nil
  go_simp
  go_at_call 101
  ((with_reducible refine (keysr_any _ (.list m) b _ (rda_below HU.out hHeld.2.2)).mono ?_); rintro e w2 ⟨⟨A2, q2, rfl, hkA2⟩, hb2⟩; dsimp only)
  replace hkA1 := hkA1.below hb2
  replace hkA2 := hkA2.below hb2
  replace hHeld := two_below hHeld hb2
  refine hK.out _ _ hHeld (fun _ => ?_)
  clear hK K
  refine wpAnyH_ready (rs := [17]) (by kernel_rfl) (by simp) ?_
  refine AllReadyH.cons rfl (fun K hK => ?_) AllReadyH.nil
  go_simp
  go_at_call 118
  ((with_reducible refine (keys_equal (Tr.kn (.list l)) (Tr.kn (.list m)) _ _ _ hkA1 hkA2 HKL.out HKN.out).mono ?_); rintro e w3 ⟨rfl, hb3⟩; dsimp only)
  replace hHeld := two_below hHeld hb3
  refine hK.out _ _ hHeld (fun _ => ?_)
  clear hK K
  refine held_take (i := 18) (v := ?_) (some 28) rfl rfl (by kernel_rfl) (by kernel_rfl) (by kernel_rfl) (fun _ _ _ h => h) (Or.inl ⟨by rfl, ?_⟩) hHeld ?_
  rotate_left
  · intro w hSw
    try dsimp only at hSw
    go_simp
    try with_reducible rfl
  simp only [Act.put, List.setIfInBounds_toArray, List.set_cons_zero, List.set_cons_succ]
  refine held_take (i := 19) (v := ?_) (some 29) rfl rfl (by kernel_rfl) (by kernel_rfl) (by kernel_rfl) (fun _ _ _ h => h) (Or.inl ⟨by rfl, ?_⟩) hHeld ?_
  rotate_left
  · intro w hSw
    try dsimp only at hSw
    go_simp
    try with_reducible rfl
  simp only [Act.put, List.setIfInBounds_toArray, List.set_cons_zero, List.set_cons_succ]
  refine wpAnyH_done (by kernel_rfl) ?_ _
  have h4 := ta_4_4 (some ⟨pa, 0, none⟩)
  have h5 := ta_4_5 (some ⟨pa, 0, none⟩)
  clear HT HU c2 c3 ht hu hkd hln hsn
  obtain ⟨c2', c3', hb8⟩ := hHeld
  have ea := EA.out
  clear EA
  subst ea
  go_upto_region 8 with fail
  clear h4 h5
  refine wp_region_held_drew (S := (fun w' => w'.cell? ⟨w.heap.size, 0, none⟩ = some (.iface 212 (.pointer (some ⟨pa, 0, none⟩))) ∧ w'.cell? ⟨w.heap.size + 1, 0, none⟩ = some b ∧ Below W0.heap.size W0 w')) (by kernel_rfl) ⟨c2', c3', hb8.trans (drewN_below _ 1)⟩ (fun hHeld => ?_)
  refine held_take (i := 0) (v := ?_) (some 43) rfl rfl (by kernel_rfl) (by kernel_rfl) (by kernel_rfl) (fun _ _ _ h => h) (Or.inl ⟨by rfl, ?_⟩) hHeld ?_
  rotate_left
  · intro w hSw
    try dsimp only at hSw
    go_simp
    try with_reducible rfl
  simp only [Act.put, List.setIfInBounds_toArray, List.set_cons_zero, List.set_cons_succ]
  refine held_take (i := 2) (v := ?_) (some 45) rfl rfl (by kernel_rfl) (by kernel_rfl) (by kernel_rfl) (fun _ _ _ h => h) (Or.inl ⟨by rfl, ?_⟩) hHeld ?_
  rotate_left
  · intro w hSw
    try dsimp only at hSw
    go_simp
    try with_reducible rfl
  simp only [Act.put, List.setIfInBounds_toArray, List.set_cons_zero, List.set_cons_succ]
  refine wpAnyH_ready (rs := [1]) (by kernel_rfl) (by simp) ?_
  refine AllReadyH.cons rfl (fun K hK => ?_) AllReadyH.nil
  go_simp
  go_at_call 119
  ((with_reducible refine (itm_any (itv_below HI1.out (hB0.trans (hHeld.2.2.mono hB0.size)))).mono ?_); rintro e w2 ⟨rfl, hb2⟩; dsimp only)
  replace hHeld := two_below hHeld hb2
  refine hK.out _ _ hHeld (fun _ => ?_)
  clear hK K
  refine wpAnyH_ready (rs := [3]) (by kernel_rfl) (by simp) ?_
  refine AllReadyH.cons rfl (fun K hK => ?_) AllReadyH.nil
  go_simp
  go_at_call 119
  ((with_reducible refine (itm_any (itv_below HI2.out (hB0.trans (hHeld.2.2.mono hB0.size)))).mono ?_); rintro e w2 ⟨rfl, hb2⟩; dsimp only)
  replace hHeld := two_below hHeld hb2
  refine hK.out _ _ hHeld (fun _ => ?_)
  clear hK K
  refine held_take (i := 4) (v := ?_) (some 7) rfl rfl (by kernel_rfl) (by kernel_rfl) (by kernel_rfl) (fun _ _ _ h => h) (Or.inl ⟨by rfl, ?_⟩) hHeld ?_
  rotate_left
  · intro w hSw
    try dsimp only at hSw
    go_simp
    try with_reducible rfl
  simp only [Act.put, List.setIfInBounds_toArray, List.set_cons_zero, List.set_cons_succ]
  refine held_take (i := 5) (v := ?_) (some 8) rfl rfl (by kernel_rfl) (by kernel_rfl) (by kernel_rfl) (fun _ _ _ h => h) (Or.inl ⟨by rfl, ?_⟩) hHeld ?_
  rotate_left
  · intro w hSw
    try dsimp only at hSw
    go_simp
    try with_reducible rfl
  simp only [Act.put, List.setIfInBounds_toArray, List.set_cons_zero, List.set_cons_succ]
  refine wpAnyH_done (by kernel_rfl) ?_ _
  have hbw := hB0.trans (hHeld.2.2.mono hB0.size)
  clear hHeld c2' c3' hb8
  unfold Tr.kids
  go_wp2_with fail
  go_loopw [49] (fun i wr => ∃ k : Nat, k ≤ l.length ∧ i = .int .i64 k ∧ Hid (∀ j (h1 : j < l.length) (h2 : j < m.length), j < k → eqT l[j] m[j] = true) ∧ Below w.heap.size w wr) (fun i _ => l.length - (intOf i).toNat)
  case atStart => exact ⟨0, Nat.zero_le _, rfl, Lib.hid (fun j _ _ h => by omega), hbw⟩
  case round =>
    obtain ⟨k, hk, rfl, HJ, hbr⟩ := hrel
    by_cases hlt : k < l.length
    · have hlm : k < m.length := by have := HLM.out; omega
      obtain ⟨g1, o1, tx1, ux1, rfl, hc1, hr1⟩ := row_at HR1.out.1 HR1.out.2 hbr hlt
      obtain ⟨g2, o2, tx2, ux2, rfl, hc2, hr2⟩ := row_at HR2.out.1 HR2.out.2 hbr hlm
      have hk0 : (0 : Int) ≤ (k : Int) := by omega
      have hk1 : (k : Int) < (l.length : Int) := by omega
      have hk2 : (k : Int) < (m.length : Int) := by omega
      have H1 := Lib.hid hr1
      have H2 := Lib.hid hr2
      clear hr1 hr2
      go_wp2_with fail
      go_still_tail 10, (by kernel_rfl)
      go_wp2_with fail
      have hd9 : Below wr.heap.size wr wr.drew := drewN_below wr 1
      ((with_reducible refine (HIH.out k hlt hlm _ _ wr.drew (rda_below H1.out hd9) (rda_below H2.out hd9)).mono ?_); rintro e w9 ⟨rfl, hb9⟩)
      have hbr9 : Below w.heap.size w w9 := (hbr.trans (hd9.mono hbr.size)).trans (hb9.mono hbr.size)
      clear hb9 hd9
      cases hq : eqT l[k] m[k] with
      | true =>
        have HJ2 : Hid (∀ j (h1 : j < l.length) (h2 : j < m.length), j < k + 1 → eqT l[j] m[j] = true) := Lib.hid fun j h1 h2 h => by
          rcases Nat.lt_or_ge j k with h3 | h3
          · exact HJ.out j h1 h2 h3
          · obtain rfl : j = k := by omega
            exact hq
        clear hq HJ
        go_wp2
        go_roundw
        case rel => exact ⟨k + 1, by omega, by go_num, HJ2, hbr9⟩
        case measure => simp [intOf]; omega
      | false =>
        have hres := HNE.out k hlt hlm hq
        have HRES := Lib.hid hres
        clear hres hq HJ
        go_wp2
        go_ret
        exact ⟨by rw [HRES.out]; rfl, hbr9⟩
    · obtain rfl : k = l.length := by omega
      have hres := HEQ.out fun j h1 h2 => HJ.out j h1 h2 h1
      have HRES := Lib.hid hres
      clear hres HJ
      go_wp2
      go_ret
      exact ⟨by rw [HRES.out]; rfl, hbr⟩
end Nd
end Go.Proofs.YtbcckpnngonoeaaGreatDoor
namespace Go.Proofs.YtbcckpnngonoeaaGreatDoor
open Go.RowKit Mem
set_option linter.unusedVariables false
set_option linter.unusedSimpArgs false
namespace Nd
set_option maxRecDepth 100000 in
set_option maxHeartbeats 8000000 in
theorem same_obj (ks : List Tx) (l m : List Tr) (a b : Value) (w : World) (ht : RdA w (.obj ks l) a) (hu : RdA w (.obj ks m) b) (hl : l.length = m.length) (hbig : l.length ≤ 1048576) (hkl0 : ks.length ≤ 1048576) (ih : ∀ k (h1 : k < l.length) (h2 : k < m.length) x y W, RdA W l[k] x → RdA W m[k] y → Calls Tryz.prog 68 #[.agg #[x], .agg #[y]] W fun e w' => e = .returned (.bool (eqT l[k] m[k])) ∧ Below W.heap.size W w') :
    Calls Tryz.prog 68 #[.agg #[a], .agg #[b]] w fun e w' => e = .returned (.bool (eqT (.obj ks l) (.obj ks m))) ∧ Below w.heap.size w w' := by
  have hsn : (((Tr.srt (.obj ks l) : Nat) : Int) != ((Tr.srt (.obj ks m) : Nat) : Int)) = false := by simp [Tr.srt]
  have hln : (((Tr.kids (.obj ks l)).length : Int) != ((Tr.kids (.obj ks m)).length : Int)) = false := by simp [Tr.kids, hl]
  have HKL : Hid ((Tr.kn (.obj ks l)).length = (Tr.kn (.obj ks m)).length) := Lib.hid rfl
  have HKN : Hid ((Tr.kn (.obj ks l)).length ≤ 1048576) := Lib.hid (by unfold Tr.kn; exact hkl0)
  have hkd : decide (Tr.kn (.obj ks l) = Tr.kn (.obj ks m)) = true := by simp [Tr.kn]
  have HEQ : Hid ((∀ j (h1 : j < l.length) (h2 : j < m.length), eqT l[j] m[j] = true) → eqT (.obj ks l) (.obj ks m) = true) := Lib.hid fun h => by simp only [eqT, decide_true, Bool.true_and]; exact (eqL_iff l m).2 ⟨hl, h⟩
  have HNE : Hid (∀ j (h1 : j < l.length) (h2 : j < m.length), eqT l[j] m[j] = false → eqT (.obj ks l) (.obj ks m) = false) := Lib.hid fun j h1 h2 h => by
    simp only [eqT, decide_true, Bool.true_and]
    cases hq : eqL l m with
    | false => rfl
    | true => rw [((eqL_iff l m).1 hq).2 j h1 h2] at h; cases h
  have HLM := Lib.hid hl
  clear hl
  have HIH := Lib.hid ih
  clear ih
  obtain ⟨A, c, vs, hI1, hrow1, hl1⟩ := ht.itv
  obtain ⟨B, d, us, hI2, hrow2, hl2⟩ := hu.itv
  have HI1 := Lib.hid hI1
  have HI2 := Lib.hid hI2
  have HR1 := Lib.hid (And.intro hrow1 hl1)
  have HR2 := Lib.hid (And.intro hrow2 hl2)
  clear hI1 hI2 hrow1 hl1 hrow2 hl2
  obtain ⟨pa, ea⟩ : ∃ p, a = .iface 260 (.pointer (some ⟨p, 0, none⟩)) := by
    have h := ht
    unfold RdA RdT at h
    obtain ⟨g, h⟩ := h
    obtain ⟨K1, d1, A1, c1, vs1, h, _⟩ := h
    exact ⟨g, h⟩
  have EA := Lib.hid ea
  clear ea
  obtain ⟨c2, c3, hB0⟩ := two_boxes w 140 a b
  have HT1 := rda_below ht hB0
  have HU1 := rda_below hu hB0
  obtain ⟨W0, hW0⟩ : ∃ W0, W0 = (w.alloc (.cells #[a] 140)).alloc (.cells #[b] 140) := ⟨_, rfl⟩
  rw [← hW0] at c2 c3 hB0 HT1 HU1
  have HT := Lib.hid HT1
  have HU := Lib.hid HU1
  clear HT1 HU1
  have hd0 : Below W0.heap.size W0 W0.drew := drewN_below W0 1
  go_enter Tryz.func68, Tryz.ntmps68
  go_upto_region 1 with fail
  rw [← hW0]
  clear hW0
  refine wp_region_held_drew (S := (fun w' => w'.cell? ⟨w.heap.size, 0, none⟩ = some a ∧ w'.cell? ⟨w.heap.size + 1, 0, none⟩ = some b ∧ Below W0.heap.size W0 w')) (by kernel_rfl) ⟨c2, c3, hd0⟩ (fun hHeld => ?_)
  refine held_take (i := 0) (v := ?_) (some 10) rfl rfl (by kernel_rfl) (by kernel_rfl) (by kernel_rfl) (fun _ _ _ h => h) (Or.inl ⟨by rfl, ?_⟩) hHeld ?_
  rotate_left
  · intro w hSw
    try dsimp only at hSw
    go_simp
    try with_reducible rfl
  simp only [Act.put, List.setIfInBounds_toArray, List.set_cons_zero, List.set_cons_succ]
  refine held_take (i := 2) (v := ?_) (some 12) rfl rfl (by kernel_rfl) (by kernel_rfl) (by kernel_rfl) (fun _ _ _ h => h) (Or.inl ⟨by rfl, ?_⟩) hHeld ?_
  rotate_left
  · intro w hSw
    try dsimp only at hSw
    go_simp
    try with_reducible rfl
  simp only [Act.put, List.setIfInBounds_toArray, List.set_cons_zero, List.set_cons_succ]
  refine wpAnyH_ready (rs := [1]) (by kernel_rfl) (by simp) ?_
  refine AllReadyH.cons rfl (fun K hK => ?_) AllReadyH.nil
  go_simp
  go_at_call 43
  ((with_reducible refine (sort_any _ (.obj ks l) a _ (rda_below HT.out hHeld.2.2)).mono ?_); rintro e w2 ⟨rfl, hb2⟩; dsimp only)
  replace hHeld := two_below hHeld hb2
  refine hK.out _ _ hHeld (fun _ => ?_)
  clear hK K
  refine wpAnyH_ready (rs := [3]) (by kernel_rfl) (by simp) ?_
  refine AllReadyH.cons rfl (fun K hK => ?_) AllReadyH.nil
  go_simp
  go_at_call 43
  ((with_reducible refine (sort_any _ (.obj ks m) b _ (rda_below HU.out hHeld.2.2)).mono ?_); rintro e w2 ⟨rfl, hb2⟩; dsimp only)
  replace hHeld := two_below hHeld hb2
  refine hK.out _ _ hHeld (fun _ => ?_)
  clear hK K
  refine held_take (i := 4) (v := ?_) (some 14) rfl rfl (by kernel_rfl) (by kernel_rfl) (by kernel_rfl) (fun _ _ _ h => h) (Or.inl ⟨by rfl, ?_⟩) hHeld ?_
  rotate_left
  · intro w hSw
    try dsimp only at hSw
    go_simp
    try with_reducible rfl
  simp only [Act.put, List.setIfInBounds_toArray, List.set_cons_zero, List.set_cons_succ]
  refine held_take (i := 5) (v := ?_) (some 15) rfl rfl (by kernel_rfl) (by kernel_rfl) (by kernel_rfl) (fun _ _ _ h => h) (Or.inl ⟨by rfl, ?_⟩) hHeld ?_
  rotate_left
  · intro w hSw
    try dsimp only at hSw
    go_simp
    try with_reducible rfl
  simp only [Act.put, List.setIfInBounds_toArray, List.set_cons_zero, List.set_cons_succ]
  refine held_take (i := 6) (v := ?_) (some 16) rfl rfl (by kernel_rfl) (by kernel_rfl) (by kernel_rfl) (fun _ _ _ h => h) (Or.inl ⟨by rfl, ?_⟩) hHeld ?_
  rotate_left
  · intro w hSw
    try dsimp only at hSw
    go_simp
    try with_reducible rfl
  simp only [Act.put, List.setIfInBounds_toArray, List.set_cons_zero, List.set_cons_succ]
  refine held_take (i := 8) (v := ?_) (some 18) rfl rfl (by kernel_rfl) (by kernel_rfl) (by kernel_rfl) (fun _ _ _ h => h) (Or.inl ⟨by rfl, ?_⟩) hHeld ?_
  rotate_left
  · intro w hSw
    try dsimp only at hSw
    go_simp
    try with_reducible rfl
  simp only [Act.put, List.setIfInBounds_toArray, List.set_cons_zero, List.set_cons_succ]
  refine wpAnyH_ready (rs := [7]) (by kernel_rfl) (by simp) ?_
  refine AllReadyH.cons rfl (fun K hK => ?_) AllReadyH.nil
  go_simp
  go_at_call 117
  ((with_reducible refine (len_any _ (.obj ks l) a _ (rda_below HT.out hHeld.2.2)).mono ?_); rintro e w2 ⟨rfl, hb2⟩; dsimp only)
  replace hHeld := two_below hHeld hb2
  refine hK.out _ _ hHeld (fun _ => ?_)
  clear hK K
  refine wpAnyH_ready (rs := [9]) (by kernel_rfl) (by simp) ?_
  refine AllReadyH.cons rfl (fun K hK => ?_) AllReadyH.nil
  go_simp
  go_at_call 117
  ((with_reducible refine (len_any _ (.obj ks m) b _ (rda_below HU.out hHeld.2.2)).mono ?_); rintro e w2 ⟨rfl, hb2⟩; dsimp only)
  replace hHeld := two_below hHeld hb2
  refine hK.out _ _ hHeld (fun _ => ?_)
  clear hK K
  refine held_take (i := 10) (v := ?_) (some 20) rfl rfl (by kernel_rfl) (by kernel_rfl) (by kernel_rfl) (fun _ _ _ h => h) (Or.inl ⟨by rfl, ?_⟩) hHeld ?_
  rotate_left
  · intro w hSw
    try dsimp only at hSw
    go_simp
    try with_reducible rfl
  simp only [Act.put, List.setIfInBounds_toArray, List.set_cons_zero, List.set_cons_succ]
  refine held_take (i := 11) (v := ?_) (some 21) rfl rfl (by kernel_rfl) (by kernel_rfl) (by kernel_rfl) (fun _ _ _ h => h) (Or.inl ⟨by rfl, ?_⟩) hHeld ?_
  rotate_left
  · intro w hSw
    try dsimp only at hSw
    go_simp
    try with_reducible rfl
  simp only [Act.put, List.setIfInBounds_toArray, List.set_cons_zero, List.set_cons_succ]
  refine held_take (i := 12) (v := ?_) (some 22) rfl rfl (by kernel_rfl) (by kernel_rfl) (by kernel_rfl) (fun _ _ _ h => h) (Or.inl ⟨by rfl, ?_⟩) hHeld ?_
  rotate_left
  · intro w hSw
    try dsimp only at hSw
    go_simp
    try with_reducible rfl
  simp only [Act.put, List.setIfInBounds_toArray, List.set_cons_zero, List.set_cons_succ]
  refine held_take (i := 13) (v := ?_) (some 23) rfl rfl (by kernel_rfl) (by kernel_rfl) (by kernel_rfl) (fun _ _ _ h => h) (Or.inl ⟨by rfl, ?_⟩) hHeld ?_
  rotate_left
  · intro w hSw
    try dsimp only at hSw
    go_simp
    try with_reducible rfl
  simp only [Act.put, List.setIfInBounds_toArray, List.set_cons_zero, List.set_cons_succ]
  refine held_take (i := 15) (v := ?_) (some 25) rfl rfl (by kernel_rfl) (by kernel_rfl) (by kernel_rfl) (fun _ _ _ h => h) (Or.inl ⟨by rfl, ?_⟩) hHeld ?_
  rotate_left
  · intro w hSw
    try dsimp only at hSw
    go_simp
    try with_reducible rfl
  simp only [Act.put, List.setIfInBounds_toArray, List.set_cons_zero, List.set_cons_succ]
  refine wpAnyH_ready (rs := [14]) (by kernel_rfl) (by simp) ?_
  refine AllReadyH.cons rfl (fun K hK => ?_) AllReadyH.nil
  go_simp
  go_at_call 101
  ((with_reducible refine (keysr_any _ (.obj ks l) a _ (rda_below HT.out hHeld.2.2)).mono ?_); rintro e w2 ⟨⟨A1, q1, rfl, hkA1⟩, hb2⟩; dsimp only)
  replace hkA1 := hkA1.below hb2
  replace hHeld := two_below hHeld hb2
  refine hK.out _ _ hHeld (fun _ => ?_)
  clear hK K
  refine wpAnyH_ready (rs := [16]) (by kernel_rfl) (by simp) ?_
  refine AllReadyH.cons rfl (fun K hK => ?_) AllReadyH.nil
  go_simp
  go_at_call 101
  ((with_reducible refine (keysr_any _ (.obj ks m) b _ (rda_below HU.out hHeld.2.2)).mono ?_); rintro e w2 ⟨⟨A2, q2, rfl, hkA2⟩, hb2⟩; dsimp only)
  replace hkA1 := hkA1.below hb2
  replace hkA2 := hkA2.below hb2
  replace hHeld := two_below hHeld hb2
  refine hK.out _ _ hHeld (fun _ => ?_)
  clear hK K
  refine wpAnyH_ready (rs := [17]) (by kernel_rfl) (by simp) ?_
  refine AllReadyH.cons rfl (fun K hK => ?_) AllReadyH.nil
  go_simp
  go_at_call 118
  ((with_reducible refine (keys_equal (Tr.kn (.obj ks l)) (Tr.kn (.obj ks m)) _ _ _ hkA1 hkA2 HKL.out HKN.out).mono ?_); rintro e w3 ⟨rfl, hb3⟩; dsimp only)
  replace hHeld := two_below hHeld hb3
  refine hK.out _ _ hHeld (fun _ => ?_)
  clear hK K
  refine held_take (i := 18) (v := ?_) (some 28) rfl rfl (by kernel_rfl) (by kernel_rfl) (by kernel_rfl) (fun _ _ _ h => h) (Or.inl ⟨by rfl, ?_⟩) hHeld ?_
  rotate_left
  · intro w hSw
    try dsimp only at hSw
    go_simp
    try with_reducible rfl
  simp only [Act.put, List.setIfInBounds_toArray, List.set_cons_zero, List.set_cons_succ]
  refine held_take (i := 19) (v := ?_) (some 29) rfl rfl (by kernel_rfl) (by kernel_rfl) (by kernel_rfl) (fun _ _ _ h => h) (Or.inl ⟨by rfl, ?_⟩) hHeld ?_
  rotate_left
  · intro w hSw
    try dsimp only at hSw
    go_simp
    try with_reducible rfl
  simp only [Act.put, List.setIfInBounds_toArray, List.set_cons_zero, List.set_cons_succ]
  refine wpAnyH_done (by kernel_rfl) ?_ _
  have h4 := ta_5_4 (some ⟨pa, 0, none⟩)
  have h5 := ta_5_5 (some ⟨pa, 0, none⟩)
  clear HT HU c2 c3 ht hu hkd hln hsn
  obtain ⟨c2', c3', hb8⟩ := hHeld
  have ea := EA.out
  clear EA
  subst ea
  go_upto_region 8 with fail
  clear h4 h5
  refine wp_region_held_drew (S := (fun w' => w'.cell? ⟨w.heap.size, 0, none⟩ = some (.iface 260 (.pointer (some ⟨pa, 0, none⟩))) ∧ w'.cell? ⟨w.heap.size + 1, 0, none⟩ = some b ∧ Below W0.heap.size W0 w')) (by kernel_rfl) ⟨c2', c3', hb8.trans (drewN_below _ 1)⟩ (fun hHeld => ?_)
  refine held_take (i := 0) (v := ?_) (some 43) rfl rfl (by kernel_rfl) (by kernel_rfl) (by kernel_rfl) (fun _ _ _ h => h) (Or.inl ⟨by rfl, ?_⟩) hHeld ?_
  rotate_left
  · intro w hSw
    try dsimp only at hSw
    go_simp
    try with_reducible rfl
  simp only [Act.put, List.setIfInBounds_toArray, List.set_cons_zero, List.set_cons_succ]
  refine held_take (i := 2) (v := ?_) (some 45) rfl rfl (by kernel_rfl) (by kernel_rfl) (by kernel_rfl) (fun _ _ _ h => h) (Or.inl ⟨by rfl, ?_⟩) hHeld ?_
  rotate_left
  · intro w hSw
    try dsimp only at hSw
    go_simp
    try with_reducible rfl
  simp only [Act.put, List.setIfInBounds_toArray, List.set_cons_zero, List.set_cons_succ]
  refine wpAnyH_ready (rs := [1]) (by kernel_rfl) (by simp) ?_
  refine AllReadyH.cons rfl (fun K hK => ?_) AllReadyH.nil
  go_simp
  go_at_call 119
  ((with_reducible refine (itm_any (itv_below HI1.out (hB0.trans (hHeld.2.2.mono hB0.size)))).mono ?_); rintro e w2 ⟨rfl, hb2⟩; dsimp only)
  replace hHeld := two_below hHeld hb2
  refine hK.out _ _ hHeld (fun _ => ?_)
  clear hK K
  refine wpAnyH_ready (rs := [3]) (by kernel_rfl) (by simp) ?_
  refine AllReadyH.cons rfl (fun K hK => ?_) AllReadyH.nil
  go_simp
  go_at_call 119
  ((with_reducible refine (itm_any (itv_below HI2.out (hB0.trans (hHeld.2.2.mono hB0.size)))).mono ?_); rintro e w2 ⟨rfl, hb2⟩; dsimp only)
  replace hHeld := two_below hHeld hb2
  refine hK.out _ _ hHeld (fun _ => ?_)
  clear hK K
  refine held_take (i := 4) (v := ?_) (some 7) rfl rfl (by kernel_rfl) (by kernel_rfl) (by kernel_rfl) (fun _ _ _ h => h) (Or.inl ⟨by rfl, ?_⟩) hHeld ?_
  rotate_left
  · intro w hSw
    try dsimp only at hSw
    go_simp
    try with_reducible rfl
  simp only [Act.put, List.setIfInBounds_toArray, List.set_cons_zero, List.set_cons_succ]
  refine held_take (i := 5) (v := ?_) (some 8) rfl rfl (by kernel_rfl) (by kernel_rfl) (by kernel_rfl) (fun _ _ _ h => h) (Or.inl ⟨by rfl, ?_⟩) hHeld ?_
  rotate_left
  · intro w hSw
    try dsimp only at hSw
    go_simp
    try with_reducible rfl
  simp only [Act.put, List.setIfInBounds_toArray, List.set_cons_zero, List.set_cons_succ]
  refine wpAnyH_done (by kernel_rfl) ?_ _
  have hbw := hB0.trans (hHeld.2.2.mono hB0.size)
  clear hHeld c2' c3' hb8
  unfold Tr.kids
  go_wp2_with fail
  go_loopw [49] (fun i wr => ∃ k : Nat, k ≤ l.length ∧ i = .int .i64 k ∧ Hid (∀ j (h1 : j < l.length) (h2 : j < m.length), j < k → eqT l[j] m[j] = true) ∧ Below w.heap.size w wr) (fun i _ => l.length - (intOf i).toNat)
  case atStart => exact ⟨0, Nat.zero_le _, rfl, Lib.hid (fun j _ _ h => by omega), hbw⟩
  case round =>
    obtain ⟨k, hk, rfl, HJ, hbr⟩ := hrel
    by_cases hlt : k < l.length
    · have hlm : k < m.length := by have := HLM.out; omega
      obtain ⟨g1, o1, tx1, ux1, rfl, hc1, hr1⟩ := row_at HR1.out.1 HR1.out.2 hbr hlt
      obtain ⟨g2, o2, tx2, ux2, rfl, hc2, hr2⟩ := row_at HR2.out.1 HR2.out.2 hbr hlm
      have hk0 : (0 : Int) ≤ (k : Int) := by omega
      have hk1 : (k : Int) < (l.length : Int) := by omega
      have hk2 : (k : Int) < (m.length : Int) := by omega
      have H1 := Lib.hid hr1
      have H2 := Lib.hid hr2
      clear hr1 hr2
      go_wp2_with fail
      go_still_tail 10, (by kernel_rfl)
      go_wp2_with fail
      have hd9 : Below wr.heap.size wr wr.drew := drewN_below wr 1
      ((with_reducible refine (HIH.out k hlt hlm _ _ wr.drew (rda_below H1.out hd9) (rda_below H2.out hd9)).mono ?_); rintro e w9 ⟨rfl, hb9⟩)
      have hbr9 : Below w.heap.size w w9 := (hbr.trans (hd9.mono hbr.size)).trans (hb9.mono hbr.size)
      clear hb9 hd9
      cases hq : eqT l[k] m[k] with
      | true =>
        have HJ2 : Hid (∀ j (h1 : j < l.length) (h2 : j < m.length), j < k + 1 → eqT l[j] m[j] = true) := Lib.hid fun j h1 h2 h => by
          rcases Nat.lt_or_ge j k with h3 | h3
          · exact HJ.out j h1 h2 h3
          · obtain rfl : j = k := by omega
            exact hq
        clear hq HJ
        go_wp2
        go_roundw
        case rel => exact ⟨k + 1, by omega, by go_num, HJ2, hbr9⟩
        case measure => simp [intOf]; omega
      | false =>
        have hres := HNE.out k hlt hlm hq
        have HRES := Lib.hid hres
        clear hres hq HJ
        go_wp2
        go_ret
        exact ⟨by rw [HRES.out]; rfl, hbr9⟩
    · obtain rfl : k = l.length := by omega
      have hres := HEQ.out fun j h1 h2 => HJ.out j h1 h2 h1
      have HRES := Lib.hid hres
      clear hres HJ
      go_wp2
      go_ret
      exact ⟨by rw [HRES.out]; rfl, hbr⟩
end Nd
end Go.Proofs.YtbcckpnngonoeaaGreatDoor
namespace Go.Proofs.YtbcckpnngonoeaaGreatDoor
open Go.RowKit Mem
set_option linter.unusedVariables false
namespace Nd

def SameP (t u : Tr) (w : World) (e : Ending) (w' : World) : Prop := e = .returned (.bool (eqT t u)) ∧ Below w.heap.size w w'
theorem eqT_no {t u : Tr} (h : ¬ (t.srt = u.srt ∧ t.kids.length = u.kids.length ∧ t.kn = u.kn)) : eqT t u = false := by
  cases hq : eqT t u with
  | false => rfl
  | true => exact absurd (eqT_head hq) h
theorem kids_len {t : Tr} (hn : t.nodes ≤ 65536) : t.kids.length ≤ 65536 := by
  have h1 := nodes_len t.kids
  have h2 : nodesL t.kids ≤ t.nodes := by cases t <;> simp [Tr.kids, Tr.nodes, nodesL]
  omega
theorem kn_len {t : Tr} (h : t.Ok) : t.kn.length = 0 ∨ t.kn.length = t.kids.length := by
  cases t <;> simp [Tr.kn, Tr.kids]
  unfold Tr.Ok at h
  exact .inr h.1
theorem kn_eq {t u : Tr} (h : t.Ok) (k : u.Ok) (hs : t.srt = u.srt) (hl : t.kids.length = u.kids.length) : t.kn.length = u.kn.length := by
  cases t <;> cases u <;> simp [Tr.srt] at hs <;> simp [Tr.kn]
  unfold Tr.Ok at h k
  simp only [Tr.kids] at hl
  omega
theorem same_any (t : Tr) : ∀ (u : Tr) (a b : Value) (w : World), RdA w t a → RdA w u b → t.Ok → u.Ok → t.nodes ≤ 65536 → u.nodes ≤ 65536 →
    Calls Tryz.prog 68 #[.agg #[a], .agg #[b]] w fun e w' => e = .returned (.bool (eqT t u)) ∧ Below w.heap.size w w' := by
  have main : ∀ (t u : Tr) (a b : Value) (w : World), RdA w t a → RdA w u b → t.Ok → u.Ok → t.nodes ≤ 65536 → u.nodes ≤ 65536 →
      (t.srt = u.srt → t.kids.length = u.kids.length → t.kn = u.kn → Calls Tryz.prog 68 #[.agg #[a], .agg #[b]] w fun e w' => e = .returned (.bool (eqT t u)) ∧ Below w.heap.size w w') →
      Calls Tryz.prog 68 #[.agg #[a], .agg #[b]] w fun e w' => e = .returned (.bool (eqT t u)) ∧ Below w.heap.size w w' := by
    intro t u a b w ht hu hot hou hnt hnu h
    by_cases h1 : t.srt = u.srt
    · by_cases h2 : t.kids.length = u.kids.length
      · by_cases h3 : t.kn = u.kn
        · exact h h1 h2 h3
        · rw [eqT_no (fun h => h3 h.2.2)]
          exact same_kn t u a b w ht hu h1 h2 (kn_eq hot hou h1 h2) (by have := kids_len hnt; rcases kn_len hot with h | h <;> omega) h3
      · rw [eqT_no (fun h => h2 h.2.1)]
        exact same_len t u a b w ht hu h1 h2
    · rw [eqT_no (fun h => h1 h.1)]
      exact same_ne t u a b w ht hu h1
  induction t using Tr.ind with
  | h0 =>
    intro u a b w ht hu hot hou hnt hnu
    refine main _ u a b w ht hu hot hou hnt hnu fun h1 h2 h3 => ?_
    cases u <;> simp [Tr.srt] at h1
    exact same_null a b w ht hu
  | h1 x =>
    intro u a b w ht hu hot hou hnt hnu
    refine main _ u a b w ht hu hot hou hnt hnu fun h1 h2 h3 => ?_
    cases u <;> simp [Tr.srt] at h1
    exact same_flag x _ a b w ht hu
  | h2 x =>
    intro u a b w ht hu hot hou hnt hnu
    refine main _ u a b w ht hu hot hou hnt hnu fun h1 h2 h3 => ?_
    cases u <;> simp [Tr.srt] at h1
    exact same_num x _ a b w ht hu
  | h3 x =>
    intro u a b w ht hu hot hou hnt hnu
    refine main _ u a b w ht hu hot hou hnt hnu fun h1 h2 h3 => ?_
    cases u <;> simp [Tr.srt] at h1
    exact same_text x _ a b w ht hu
  | h4 l ih =>
    intro u a b w ht hu hot hou hnt hnu
    refine main _ u a b w ht hu hot hou hnt hnu fun h1 h2 h3 => ?_
    cases u <;> simp [Tr.srt] at h1
    rename_i m
    have hk := kids_len hnt
    simp only [Tr.kids] at h2 hk
    unfold Tr.Ok at hot hou
    unfold Tr.nodes at hnt hnu
    exact same_list l m a b w ht hu h2 (by omega) fun k h1 h2 x y W hx hy => ih _ (List.getElem_mem h1) _ x y W hx hy ((okl_iff l).1 hot _ (List.getElem_mem h1)).1 ((okl_iff m).1 hou _ (List.getElem_mem h2)).1 (by have := nodes_mem l _ (List.getElem_mem h1); omega) (by have := nodes_mem m _ (List.getElem_mem h2); omega)
  | h5 ks l ih =>
    intro u a b w ht hu hot hou hnt hnu
    refine main _ u a b w ht hu hot hou hnt hnu fun h1 h2 h3 => ?_
    cases u <;> simp [Tr.srt] at h1
    rename_i js m
    have hk := kids_len hnt
    simp only [Tr.kids] at h2 hk
    simp only [Tr.kn] at h3
    subst h3
    unfold Tr.Ok at hot hou
    unfold Tr.nodes at hnt hnu
    exact same_obj ks l m a b w ht hu h2 (by omega) (by have := hot.1; omega) fun k h1 h2 x y W hx hy => ih _ (List.getElem_mem h1) _ x y W hx hy ((okl_iff l).1 hot.2.2.2 _ (List.getElem_mem h1)).1 ((okl_iff m).1 hou.2.2.2 _ (List.getElem_mem h2)).1 (by have := nodes_mem l _ (List.getElem_mem h1); omega) (by have := nodes_mem m _ (List.getElem_mem h2); omega)
set_option maxRecDepth 100000 in
set_option maxHeartbeats 4000000 in
theorem tsame_any (B B' g g' : Nat) (t u : Tr) (w : World) (hT : TreeAt B w g t) (hU : TreeAt B' w g' u) (hot : t.Ok) (hou : u.Ok) :
    Calls Tryz.prog 33 #[.pointer (some ⟨g, 0, none⟩), .pointer (some ⟨g', 0, none⟩)] w (SameP t u w) := by
  obtain ⟨_, hf1, v1, hB1, hr1⟩ := hT
  obtain ⟨_, hf2, v2, hB2, hr2⟩ := hU
  have ha1 := hr1.toA
  have ha2 := hr2.toA
  obtain ⟨tx1, ux1, rfl⟩ := hr1.iface
  obtain ⟨tx2, ux2, rfl⟩ := hr2.iface
  have HB1 := Lib.hid hB1
  have HB2 := Lib.hid hB2
  have HA1 := Lib.hid ha1
  have HA2 := Lib.hid ha2
  have hn1 := (fit_le hf1).1
  have hn2 := (fit_le hf2).1
  clear hB1 hB2 hr1 hr2 ha1 ha2 hf1 hf2
  go_enter Tryz.func33, Tryz.ntmps33
  go_wp2_with fail
  ((with_reducible refine (root_any g _ tx1 ux1 _ HB1.out).mono ?_); rintro e w1 ⟨rfl, hb1⟩)
  have HB2' : Hid (Blk w1 g' 108 #[.iface tx2 ux2]) := Lib.hid ((hb1.block g' HB2.out.lt).trans HB2.out)
  go_wp2_with fail
  ((with_reducible refine (root_any g' _ tx2 ux2 _ HB2'.out).mono ?_); rintro e w2 ⟨rfl, hb2⟩)
  have hb12 := hb1.trans (hb2.mono hb1.size)
  have HA1' := Lib.hid (rda_below HA1.out hb12)
  have HA2' := Lib.hid (rda_below HA2.out hb12)
  clear hb1 hb2 HB1 HB2 HB2' HA1 HA2
  go_wp2_with fail
  ((with_reducible refine (same_any t u _ _ _ HA1'.out HA2'.out hot hou hn1 hn2).mono ?_); rintro e w3 ⟨rfl, hb3⟩)
  have hb13 := hb12.trans (hb3.mono hb12.size)
  clear hb3 hb12
  go_wp2
  go_ret
  exact ⟨rfl, hb13⟩
end Nd
end Go.Proofs.YtbcckpnngonoeaaGreatDoor

