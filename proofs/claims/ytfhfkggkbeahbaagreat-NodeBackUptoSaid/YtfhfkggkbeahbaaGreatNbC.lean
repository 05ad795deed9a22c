/-
  The walk of the law NodeBack.
-/
import Derived.Test.YtfhfkggkbeahbaaGreatNbB
import Derived.Test.YtfhfkggkbeahbaaGreatNsI
namespace Go.Proofs.YtfhfkggkbeahbaaGreat
open Go.RowKit Mem
set_option linter.unusedVariables false
set_option linter.unusedSimpArgs false
namespace Nd

theorem one_below {b : Nat} {x : Value} {W0 W W' : World} (h : W.cell? ⟨b, 0, none⟩ = some x ∧ Below W0.heap.size W0 W) (hb2 : Below W.heap.size W W') : W'.cell? ⟨b, 0, none⟩ = some x ∧ Below W0.heap.size W0 W' :=
  ⟨((old hb2).1 _ _ (World.block_lt_of_cell? _ _ h.1)).trans h.1, h.2.trans (hb2.mono h.2.size)⟩
theorem rda_of_tree {B g : Nat} {t : Tr} {w : World} (h : TreeAt B w g t) : ∃ tx ux, Blk w g 77 #[.iface tx ux] ∧ RdA w t (.iface tx ux) ∧ RdT (fun k => k < w.heap.size) w t (.iface tx ux) := by
  obtain ⟨_, _, v, hB, hr⟩ := h
  have ha := hr.toA
  have hb : RdT (fun k => k < w.heap.size) w t v := RdT.move (fun j hj hs => ⟨hj, rfl⟩) _ _ hr
  obtain ⟨tx, ux, rfl⟩ := hr.iface
  exact ⟨tx, ux, hB, ha, hb⟩
set_option maxRecDepth 100000 in
set_option maxHeartbeats 16000000 in
theorem nodeBack_any (v : Value) (ss : List Stp) (at_ : Int) (w : World) (hS : RdS w v ss) (hF : ∀ s ∈ ss, s.Fine) :
    Calls Tryz.prog 6 #[v, .int .i64 at_] w fun e w' => e = .returned (.bool true) ∧ Below w.heap.size w w' := by
  have HS := Lib.hid hS
  have HF := Lib.hid hF
  have q1 := err_ne_nil
  have q2 := err_ne_held
  obtain ⟨A, c, rfl, _⟩ := hS
  clear hF
  go_enter Tryz.func6, Tryz.ntmps6
  go_wp2_with fail
  ((with_reducible refine (build_all _ ss _ HS.out HF.out).mono ?_); intro e w1 hP)
  obtain ⟨hb1, hP⟩ := hP
  cases hbt : buildT ss with
  | inl ni =>
    obtain ⟨n, i⟩ := ni
    rw [hbt] at hP
    simp only at hP
    subst hP
    obtain ⟨tx, ux, hsp⟩ := sp_form n i
    rw [hsp]
    clear hsp hbt
    go_wp2_with fail
    ((with_reducible refine (wakes_any _).mono ?_); rintro e w3 ⟨rfl, hb3⟩)
    have hbw3 := hb1.trans (hb3.mono hb1.size)
    clear hb1 hb3
    go_wp2
    go_ret
    exact ⟨rfl, hbw3⟩
  | inr t =>
    rw [hbt] at hP
    simp only at hP
    obtain ⟨g, rfl, hT⟩ := hP
    have hok := buildT_ok HF.out hbt
    have HOK := Lib.hid hok
    have HT := Lib.hid hT
    clear hbt hok hT
    have HBS := Lib.hid (build_steps HOK.out.1 HOK.out.2)
    have HFS := Lib.hid (steps_fine t HOK.out.1 HOK.out.2)
    have hnt : Hid ((stepsT t).length ≤ 1048576) := Lib.hid (by rw [stepsT_len]; have := (fit_le HOK.out.2).1; omega)
    go_wp2_with fail
    ((with_reducible refine (tsteps_any _ g t _ HT.out HOK.out.1).mono ?_); rintro e w2 ⟨v7, rfl, hr7, hb2⟩)
    have HT2 := Lib.hid (tree_below HT.out hb2)
    have HR2 := Lib.hid hr7.rds
    have hbw2 := hb1.trans (hb2.mono hb1.size)
    clear hr7 hb2 hb1 HT
    go_wp2_with fail
    ((with_reducible refine (build_all _ _ _ HR2.out HFS.out).mono ?_); intro e w3 hP)
    obtain ⟨hb3, hP⟩ := hP
    rw [HBS.out] at hP
    simp only at hP
    obtain ⟨g8, rfl, hT8⟩ := hP
    have HT8 := Lib.hid hT8
    have HT3 := Lib.hid (tree_below HT2.out hb3)
    have HR3 := Lib.hid (HR2.out.below hb3)
    have hbw3 := hbw2.trans (hb3.mono hbw2.size)
    clear hT8 hb3 hbw2 HT2 HR2
    go_wp2_with fail
    ((with_reducible refine (tsame_self _ _ g8 g t _ HT8.out HT3.out HOK.out.1).mono ?_); rintro e w4 ⟨rfl, hb4⟩)
    have HT84 := Lib.hid (tree_below HT8.out hb4)
    have HT4 := Lib.hid (tree_below HT3.out hb4)
    have HR4 := Lib.hid (HR3.out.below hb4)
    have hbw4 := hbw3.trans (hb4.mono hbw3.size)
    clear hb4 hbw3 HT8 HT3 HR3
    go_wp2_with fail
    ((with_reducible refine (tsteps_any _ g8 t _ HT84.out HOK.out.1).mono ?_); rintro e w5 ⟨v42, rfl, hr42, hb5⟩)
    have HR42 := Lib.hid hr42.rds
    have HT5 := Lib.hid (tree_below HT4.out hb5)
    have HR5 := Lib.hid (HR4.out.below hb5)
    have hbw5 := hbw4.trans (hb5.mono hbw4.size)
    clear hr42 hb5 hbw4 HT4 HR4 HT84
    go_wp2_with fail
    ((with_reducible refine (alike_any _ _ _ _ HR42.out HR5.out HFS.out hnt.out).mono ?_); rintro e w6 ⟨rfl, hb6⟩)
    have HT6 := Lib.hid (tree_below HT5.out hb6)
    have hbw6 := hbw5.trans (hb6.mono hbw5.size)
    clear hb6 hbw5 HT5 HR5 HR42
    obtain ⟨tt, ut, hB6, _, hrt6⟩ := rda_of_tree HT6.out
    have HB6 := Lib.hid hB6
    have HRT6 := Lib.hid hrt6
    clear hB6 hrt6
    go_wp2_with fail
    ((with_reducible refine (root_any g _ tt ut _ HB6.out).mono ?_); rintro e w7 ⟨rfl, hb7⟩)
    have HRT7 := Lib.hid (RdT.move (S' := fun k => k < w6.heap.size) (w' := w7) (fun j hj hs => ⟨hs, hb7.block j hj⟩) _ _ HRT6.out)
    have hbw7 := hbw6.trans (hb7.mono hbw6.size)
    clear hb7 hbw6 HRT6 HB6
    go_wp2_with fail
    ((with_reducible refine (refs_any t (fit_le HOK.out.2).1 _ _ _ HRT7.out).mono ?_); rintro e w8 ⟨v9, vs, rfl, ho9, hl9, hb8⟩)
    have hbw8 := hbw7.trans (hb8.mono hbw7.size)
    clear hb8 hbw7 HRT7
    obtain ⟨A9, q9, rfl⟩ := own_slice ho9
    have hpos := nodes_pos t
    have hle := (fit_le HOK.out.2).1
    have hg9 : ∃ g9, A9 = some ⟨g9, 0, none⟩ := by
      rcases ho9.2 with ⟨_, h0⟩ | ⟨g, cap, cur, hv, _⟩
      · omega
      · injection hv with e1 _ _
        exact ⟨g, e1⟩
    obtain ⟨g9, rfl⟩ := hg9
    have HO9 := Lib.hid ho9
    have HL9 := Lib.hid hl9
    clear ho9 hl9
    obtain ⟨NN, hNN⟩ : ∃ NN, t.nodes = NN := ⟨_, rfl⟩
    have hc9 : Hid (∀ p, p < NN → ∃ x tx ux, w8.cell? ⟨g9, p, none⟩ = some (.iface tx ux) ∧ RdA w8 x (.iface tx ux) ∧ x.Ok ∧ x.fit = true) := Lib.hid fun p hp => by
      have hlen := HL9.out.len
      have hsl : t.subs.length = NN := by rw [subs_len, hNN]
      have hvp : vs[p]? = some (vs[p]'(by omega)) := List.getElem?_eq_getElem (by omega)
      have hrd := HL9.out.at (List.getElem?_eq_getElem (by omega : p < t.subs.length)) hvp
      obtain ⟨tx, ux, he⟩ := hrd.iface
      have hcell := HO9.out.cellAt p (by have := HO9.out.1; omega)
      refine ⟨t.subs[p]'(by omega), tx, ux, ?_, by rw [← he]; exact hrd.toA, subs_ok t HOK.out.1 HOK.out.2 _ (List.getElem_mem _)⟩
      rw [hcell, hvp, he]
    rw [hNN] at hpos hle ⊢
    clear hNN
    go_wp2_with fail
    ((with_reducible refine (place_any NN at_ hpos hle _).mono ?_); rintro e w9 ⟨⟨p, hp, rfl⟩, rfl⟩)
    obtain ⟨x, tx, ux, hcx, hrx, hxo, hxf⟩ := hc9.out p hp
    have HXO := Lib.hid (And.intro hxo hxf)
    have HX := Lib.hid hrx
    have hp0 : (0 : Int) ≤ (p : Int) := by omega
    have hp1 : (p : Int) < (NN : Int) := by omega
    clear hxo hxf hrx hc9 HO9 HL9 HT6
    have hbx : Below w8.heap.size w8 (w8.alloc (.cells #[.iface tx ux] 43)) := (Below.refl _ _).alloc (Nat.le_refl _) _
    have HXA := Lib.hid (rda_below HX.out hbx)
    have hbl : Blk (w8.alloc (.cells #[.iface tx ux] 43)) w8.heap.size 43 #[.iface tx ux] := Blk.new _ _ _
    have hbwa := hbw8.trans (hbx.mono hbw8.size)
    have HBL := Lib.hid hbl
    clear hbl hbx hbw8
    go_wp2_with fail
    ((with_reducible refine (rtree_any _ x _ _ HXA.out HXO.out.2).mono ?_); rintro e w10 ⟨⟨g11, rfl, hT11⟩, hb10⟩)
    have HT11a := Lib.hid hT11
    have HXB := Lib.hid (rda_below HXA.out hb10)
    have HBL10 := Lib.hid (HBL.out.below hb10 HBL.out.lt)
    have hbw10 := hbwa.trans (hb10.mono hbwa.size)
    have hcb : w10.cell? ⟨w8.heap.size, 0, none⟩ = some (.iface tx ux) := HBL10.out.cell 0
    clear hT11 hb10 hbwa HXA HBL
    go_wp2_with fail
    ((with_reducible refine (rsteps_any _ x _ _ HXB.out HXO.out.1 (fit_le HXO.out.2).1).mono ?_); rintro e w11 ⟨v61, rfl, hr61, hb11⟩)
    have HR61 := Lib.hid hr61.rds
    have HFX := Lib.hid (steps_fine x HXO.out.1 HXO.out.2)
    have HBX := Lib.hid (build_steps HXO.out.1 HXO.out.2)
    have HT11b := Lib.hid (tree_below HT11a.out hb11)
    have HXC := Lib.hid (rda_below HXB.out hb11)
    have HBL11 := Lib.hid (HBL10.out.below hb11 HBL10.out.lt)
    have hbw11 := hbw10.trans (hb11.mono hbw10.size)
    clear hr61 hb11 hbw10 HXB HBL10 hcb HT11a
    go_wp2_with fail
    ((with_reducible refine (build_all _ _ _ HR61.out HFX.out).mono ?_); intro e w12 hP)
    obtain ⟨hb12, hP⟩ := hP
    rw [HBX.out] at hP
    simp only at hP
    obtain ⟨g12, rfl, hT12⟩ := hP
    have HT12x := Lib.hid hT12
    have HT11x := Lib.hid (tree_below HT11b.out hb12)
    have HXD := Lib.hid (rda_below HXC.out hb12)
    have hbl12 := HBL11.out.below hb12 HBL11.out.lt
    have hbw12 := hbw11.trans (hb12.mono hbw11.size)
    clear hT12 hb12 hbw11 HXC HBL11 HT11b HR61
    generalize w8.heap.size = b10 at *
    go_upto_region 12 with fail
    obtain ⟨W0, hW0⟩ : ∃ W0, W0 = w12 := ⟨_, rfl⟩
    subst hW0
    have HT12 := HT12x
    have HT11 := HT11x
    obtain ⟨ty, uy, hB11, hY, _⟩ := rda_of_tree HT11.out
    have HB11 := Lib.hid hB11
    have HY := Lib.hid hY
    have HX0 := HXD
    have hc10 : W0.cell? ⟨b10, 0, none⟩ = some (.iface tx ux) := hbl12.cell 0
    have hd0 : Below W0.heap.size W0 W0.drew := drewN_below W0 1
    clear hB11 hY hbl12
    refine wp_region_held_drew (S := (fun W => W.cell? ⟨b10, 0, none⟩ = some (.iface tx ux) ∧ Below W0.heap.size W0 W)) (by kernel_rfl) ⟨hc10, hd0⟩ (fun hHeld => ?_)
    refine held_take (i := 0) (v := ?_) (some 65) rfl rfl (by kernel_rfl) (by kernel_rfl) (by kernel_rfl) (fun _ _ _ h => h) (Or.inl ⟨by rfl, ?_⟩) hHeld ?_
    rotate_left
    · intro w hSw
      try dsimp only at hSw
      go_simp
      try with_reducible rfl
    simp only [Act.put, List.setIfInBounds_toArray, List.set_cons_zero, List.set_cons_succ]
    refine held_take (i := 1) (v := ?_) (some 66) rfl rfl (by kernel_rfl) (by kernel_rfl) (by kernel_rfl) (fun _ _ _ h => h) (Or.inl ⟨by rfl, ?_⟩) hHeld ?_
    rotate_left
    · intro w hSw
      try dsimp only at hSw
      go_simp
      try with_reducible rfl
    simp only [Act.put, List.setIfInBounds_toArray, List.set_cons_zero, List.set_cons_succ]
    refine held_take (i := 2) (v := ?_) (some 67) rfl rfl (by kernel_rfl) (by kernel_rfl) (by kernel_rfl) (fun _ _ _ h => h) (Or.inl ⟨by rfl, ?_⟩) hHeld ?_
    rotate_left
    · intro w hSw
      try dsimp only at hSw
      go_simp
      try with_reducible rfl
    simp only [Act.put, List.setIfInBounds_toArray, List.set_cons_zero, List.set_cons_succ]
    refine held_take (i := 3) (v := ?_) (some 68) rfl rfl (by kernel_rfl) (by kernel_rfl) (by kernel_rfl) (fun _ _ _ h => h) (Or.inl ⟨by rfl, ?_⟩) hHeld ?_
    rotate_left
    · intro w hSw
      try dsimp only at hSw
      go_simp
      try with_reducible rfl
    simp only [Act.put, List.setIfInBounds_toArray, List.set_cons_zero, List.set_cons_succ]
    refine held_take (i := 4) (v := ?_) (some 69) rfl rfl (by kernel_rfl) (by kernel_rfl) (by kernel_rfl) (fun _ _ _ h => h) (Or.inl ⟨by rfl, ?_⟩) hHeld ?_
    rotate_left
    · intro w hSw
      try dsimp only at hSw
      go_simp
      try with_reducible rfl
    simp only [Act.put, List.setIfInBounds_toArray, List.set_cons_zero, List.set_cons_succ]
    refine held_take (i := 5) (v := ?_) (some 70) rfl rfl (by kernel_rfl) (by kernel_rfl) (by kernel_rfl) (fun _ _ _ h => h) (Or.inl ⟨by rfl, ?_⟩) hHeld ?_
    rotate_left
    · intro w hSw
      try dsimp only at hSw
      go_simp
      try with_reducible rfl
    simp only [Act.put, List.setIfInBounds_toArray, List.set_cons_zero, List.set_cons_succ]
    refine held_take (i := 6) (v := ?_) (some 71) rfl rfl (by kernel_rfl) (by kernel_rfl) (by kernel_rfl) (fun _ _ _ h => h) (Or.inl ⟨by rfl, ?_⟩) hHeld ?_
    rotate_left
    · intro w hSw
      try dsimp only at hSw
      go_simp
      try with_reducible rfl
    simp only [Act.put, List.setIfInBounds_toArray, List.set_cons_zero, List.set_cons_succ]
    refine held_take (i := 7) (v := ?_) (some 72) rfl rfl (by kernel_rfl) (by kernel_rfl) (by kernel_rfl) (fun _ _ _ h => h) (Or.inl ⟨by rfl, ?_⟩) hHeld ?_
    rotate_left
    · intro w hSw
      try dsimp only at hSw
      go_simp
      try with_reducible rfl
    simp only [Act.put, List.setIfInBounds_toArray, List.set_cons_zero, List.set_cons_succ]
    refine held_take (i := 8) (v := ?_) (some 73) rfl rfl (by kernel_rfl) (by kernel_rfl) (by kernel_rfl) (fun _ _ _ h => h) (Or.inl ⟨by rfl, ?_⟩) hHeld ?_
    rotate_left
    · intro w hSw
      try dsimp only at hSw
      go_simp
      try with_reducible rfl
    simp only [Act.put, List.setIfInBounds_toArray, List.set_cons_zero, List.set_cons_succ]
    refine wpAnyH_ready (rs := [9]) (by kernel_rfl) (by simp) ?_
    refine AllReadyH.cons rfl (fun K hK => ?_) AllReadyH.nil
    go_simp
    go_at_call 12
    ((with_reducible refine (tsame_self _ _ g12 g11 x _ (tree_below HT12.out hHeld.2) (tree_below HT11.out hHeld.2) HXO.out.1).mono ?_); rintro e w2 ⟨rfl, hb2⟩; dsimp only)
    replace hHeld := one_below hHeld hb2
    refine hK.out _ _ hHeld (fun _ => ?_)
    clear hK K
    refine held_take (i := 10) (v := ?_) (some 75) rfl rfl (by kernel_rfl) (by kernel_rfl) (by kernel_rfl) (fun _ _ _ h => h) (Or.inl ⟨by rfl, ?_⟩) hHeld ?_
    rotate_left
    · intro w hSw
      try dsimp only at hSw
      go_simp
      try with_reducible rfl
    simp only [Act.put, List.setIfInBounds_toArray, List.set_cons_zero, List.set_cons_succ]
    refine held_take (i := 11) (v := ?_) (some 76) rfl rfl (by kernel_rfl) (by kernel_rfl) (by kernel_rfl) (fun _ _ _ h => h) (Or.inl ⟨by rfl, ?_⟩) hHeld ?_
    rotate_left
    · intro w hSw
      try dsimp only at hSw
      go_simp
      try with_reducible rfl
    simp only [Act.put, List.setIfInBounds_toArray, List.set_cons_zero, List.set_cons_succ]
    refine held_take (i := 12) (v := ?_) (some 77) rfl rfl (by kernel_rfl) (by kernel_rfl) (by kernel_rfl) (fun _ _ _ h => h) (Or.inl ⟨by rfl, ?_⟩) hHeld ?_
    rotate_left
    · intro w hSw
      try dsimp only at hSw
      go_simp
      try with_reducible rfl
    simp only [Act.put, List.setIfInBounds_toArray, List.set_cons_zero, List.set_cons_succ]
    refine held_take (i := 14) (v := ?_) (some 79) rfl rfl (by kernel_rfl) (by kernel_rfl) (by kernel_rfl) (fun _ _ _ h => h) (Or.inl ⟨by rfl, ?_⟩) hHeld ?_
    rotate_left
    · intro w hSw
      try dsimp only at hSw
      go_simp
      try with_reducible rfl
    simp only [Act.put, List.setIfInBounds_toArray, List.set_cons_zero, List.set_cons_succ]
    refine wpAnyH_ready (rs := [13]) (by kernel_rfl) (by simp) ?_
    refine AllReadyH.cons rfl (fun K hK => ?_) AllReadyH.nil
    go_simp
    go_at_call 13
    ((with_reducible refine (root_any g11 _ ty uy _ (HB11.out.below hHeld.2 HB11.out.lt)).mono ?_); rintro e w2 ⟨rfl, hb2⟩; dsimp only)
    replace hHeld := one_below hHeld hb2
    refine hK.out _ _ hHeld (fun _ => ?_)
    clear hK K
    refine wpAnyH_ready (rs := [15]) (by kernel_rfl) (by simp) ?_
    refine AllReadyH.cons rfl (fun K hK => ?_) AllReadyH.nil
    go_simp
    go_at_call 14
    ((with_reducible refine (same_self x _ _ _ (rda_below HY.out hHeld.2) (rda_below HX0.out hHeld.2) HXO.out.1 (fit_le HXO.out.2).1).mono ?_); rintro e w2 ⟨rfl, hb2⟩; dsimp only)
    replace hHeld := one_below hHeld hb2
    refine hK.out _ _ hHeld (fun _ => ?_)
    clear hK K
    refine held_take (i := 16) (v := ?_) (some 81) rfl rfl (by kernel_rfl) (by kernel_rfl) (by kernel_rfl) (fun _ _ _ h => h) (Or.inl ⟨by rfl, ?_⟩) hHeld ?_
    rotate_left
    · intro w hSw
      try dsimp only at hSw
      go_simp
      try with_reducible rfl
    simp only [Act.put, List.setIfInBounds_toArray, List.set_cons_zero, List.set_cons_succ]
    refine held_take (i := 17) (v := ?_) (some 82) rfl rfl (by kernel_rfl) (by kernel_rfl) (by kernel_rfl) (fun _ _ _ h => h) (Or.inl ⟨by rfl, ?_⟩) hHeld ?_
    rotate_left
    · intro w hSw
      try dsimp only at hSw
      go_simp
      try with_reducible rfl
    simp only [Act.put, List.setIfInBounds_toArray, List.set_cons_zero, List.set_cons_succ]
    refine wpAnyH_ready (rs := [18]) (by kernel_rfl) (by simp) ?_
    refine AllReadyH.cons rfl (fun K hK => ?_) AllReadyH.nil
    go_simp
    go_at_call 10
    ((with_reducible refine (wakes_any _).mono ?_); rintro e w2 ⟨rfl, hb2⟩; dsimp only)
    replace hHeld := one_below hHeld hb2
    refine hK.out _ _ hHeld (fun _ => ?_)
    clear hK K
    refine held_take (i := 19) (v := ?_) (some 84) rfl rfl (by kernel_rfl) (by kernel_rfl) (by kernel_rfl) (fun _ _ _ h => h) (Or.inl ⟨by rfl, ?_⟩) hHeld ?_
    rotate_left
    · intro w hSw
      try dsimp only at hSw
      go_simp
      try with_reducible rfl
    simp only [Act.put, List.setIfInBounds_toArray, List.set_cons_zero, List.set_cons_succ]
    refine held_take (i := 20) (v := ?_) (some 4) rfl rfl (by kernel_rfl) (by kernel_rfl) (by kernel_rfl) (fun _ _ _ h => h) (Or.inl ⟨by rfl, ?_⟩) hHeld ?_
    rotate_left
    · intro w hSw
      try dsimp only at hSw
      go_simp
      try with_reducible rfl
    simp only [Act.put, List.setIfInBounds_toArray, List.set_cons_zero, List.set_cons_succ]
    refine wpAnyH_done (by kernel_rfl) ?_ _
    have hbf := hbw12.trans (hHeld.2.mono hbw12.size)
    clear hHeld
    go_wp2
    go_ret
    exact ⟨rfl, hbf⟩
end Nd
end Go.Proofs.YtfhfkggkbeahbaaGreat
