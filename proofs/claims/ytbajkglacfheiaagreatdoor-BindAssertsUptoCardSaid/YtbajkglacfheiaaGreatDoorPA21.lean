/-
  Walks of package bind: lists of floats.
-/
import Derived.Test.YtbajkglacfheiaaGreatDoorPA20
import Derived.Test.YtbajkglacfheiaaGreatDoorPA19
import Derived.Test.YtbajkglacfheiaaGreatDoorPA18
set_option linter.unusedVariables false
set_option linter.unusedSimpArgs false
set_option maxRecDepth 100000
set_option maxHeartbeats 16000000
namespace Go.Proofs.YtbajkglacfheiaaGreatDoor
open Go.RowKit Mem Utf Ref3 Idx Tok TokC
namespace Nd
def badK : List Tr → Nat → Option Nat
 | [], _ => none
 | x :: r, i => if x.isNb = true then badK r (i + 1) else some i
theorem badK_yes {l : List Tr} {i : Nat} (h : i < l.length) (hx : l[i].isNb = true) : badK (l.drop i) i = badK (l.drop (i + 1)) (i + 1) := by
 rw [List.drop_eq_getElem_cons h, badK, if_pos hx]
theorem badK_no {l : List Tr} {i : Nat} (h : i < l.length) (hx : l[i].isNb = false) : badK (l.drop i) i = some i := by
 rw [List.drop_eq_getElem_cons h, badK, if_neg (by rw [hx]; simp)]
theorem badK_end (l : List Tr) : badK (l.drop l.length) l.length = none := by
 rw [List.drop_length]
 rfl
def flV (x : Tr) : Value := .float .f64 x.nb
theorem info_f64B : (Tryz.prog.info? 61).map (fun i => (i.zero, i.size, i.bytes)) = some (some (.float .f64 0), 1, 8) := by kernel_rfl
def FloR (p : Tx) (u : Tr) (w : World) (e : Ending) (w' : World) : Prop :=
 (if u.srt = 5 then match badK u.kids 0 with
   | some i => e = .returned (.tuple #[.nilIface, trlV 5 (atP p i)])
   | none => ∃ v, e = .returned (.tuple #[.iface 165 v, .nilIface]) ∧ w'.ownsRow w.heap.size 61 1 v u.kids.length (u.kids.map flV)
  else e = .returned (.tuple #[.nilIface, trlV 5 p])) ∧ Below w.heap.size w w'
theorem floR_sort {p : Tx} {u : Tr} {w w' : World} (h : ¬ u.srt = 5) (hb : Below w.heap.size w w') : FloR p u w (.returned (.tuple #[.nilIface, trlV 5 p])) w' := by
 unfold FloR
 rw [if_neg h]
 exact ⟨rfl, hb⟩
theorem floR_bad {p : Tx} {u : Tr} {w w' : World} {i : Nat} (h : u.srt = 5) (h2 : badK u.kids 0 = some i) (hb : Below w.heap.size w w') : FloR p u w (.returned (.tuple #[.nilIface, trlV 5 (atP p i)])) w' := by
 unfold FloR
 rw [if_pos h, h2]
 exact ⟨rfl, hb⟩
theorem floR_ok {p : Tx} {u : Tr} {w w' : World} {v : Value} (h : u.srt = 5) (h2 : badK u.kids 0 = none) (ho : w'.ownsRow w.heap.size 61 1 v u.kids.length (u.kids.map flV)) (hb : Below w.heap.size w w') : FloR p u w (.returned (.tuple #[.iface 165 v, .nilIface])) w' := by
 unfold FloR
 rw [if_pos h, h2]
 exact ⟨⟨v, rfl, ho⟩, hb⟩
structure FlS (u : Tr) (v : Value) (w : World) (k : Nat) (c : Value) (wr : World) : Prop where
 bl : Below w.heap.size w wr
 ref : Blk wr w.heap.size 58 #[v]
 own : wr.ownsRow (w.heap.size + 1) 61 1 c k ((u.kids.take k).map flV)
 bad : badK u.kids 0 = badK (u.kids.drop k) k
theorem fls_step {u : Tr} {v : Value} {w wr wp w2 : World} {k : Nat} {c c' : Value} (hk : k < u.kids.length) (hx : u.kids[k].isNb = true) (h : FlS u v w k c wr) (hwp : Below wr.heap.size wr wp)
  (ho : w2.ownsRow (w.heap.size + 1) 61 1 c' (k + 1) ((u.kids.take k).map flV ++ [flV u.kids[k]])) (hg : wp.grownBy w2 c.ownBlock) : FlS u v w (k + 1) c' w2 := by
 have hb := h.bl.trans (hwp.mono h.bl.size)
 have hr := h.ref.below hwp h.ref.lt
 have hne : some w.heap.size ≠ c.ownBlock := fun e => by
  have := (h.own.lt _ e.symm).1
  omega
 refine ⟨hb.grown hg (by have := hb.size; omega) fun j hj => by have := (h.own.lt j hj).1; omega, hr.only hg hne, ?_, ?_⟩
 ·rw [List.take_succ_eq_append_getElem hk, List.map_append]
  exact ho
 ·rw [h.bad]
  exact badK_yes hk hx
theorem held2B {G : Nat} {c : Value} {W6 W W' : World} (h : W.cell? ⟨G, 0, none⟩ = some c ∧ Below W6.heap.size W6 W) (hb : Below W.heap.size W W') : W'.cell? ⟨G, 0, none⟩ = some c ∧ Below W6.heap.size W6 W' :=
 ⟨(hb.cell (World.block_lt_of_cell? _ _ h.1)).trans h.1, h.2.trans (hb.mono h.2.size)⟩
theorem fls_own {u : Tr} {v : Value} {w wr wp : World} {k : Nat} {c : Value} (h : FlS u v w k c wr) (hwp : Below wr.heap.size wr wp) : wp.ownsRow (w.heap.size + 1) 61 1 c k ((u.kids.take k).map flV) := own_below h.own hwp
theorem blists_19 (u : Tr) (v : Value) (p : Tx) (hp : p.length ≤ 4194304) (w : World) (h : RdA w u v) (hf : u.fit = true) (hT : Tab w) : Calls Tryz.prog 87 #[.agg #[v], .string ⟨p.toArray⟩, .int .i64 19] w (FloR p u w) := by
 have q1 := err_ne_nil
 have q2 := err_ne_held
 obtain ⟨i0, hi0, hz0, hz1, hz2⟩ := info_parts info_f64B
 have hx := ref_boxB w v
 have hbx : Blk (w.alloc (.cells #[v] 58)) w.heap.size 58 #[v] := Blk.new w _ _
 have HX := Lib.hid (And.intro hx hbx)
 have c1 : (w.alloc (.cells #[v] 58)).cell? ⟨w.heap.size, 0, none⟩ = some v := hbx.cell 0
 have HR := Lib.hid h
 have HRX := Lib.hid (rda_below h hx)
 have HT := Lib.hid hT
 have hkl := kids_len (fit_le hf).1
 have HKL := Lib.hid hkl
 have HPL := Lib.hid hp
 clear hx hbx h hT hf hkl hp
 go_enter Tryz.func87, Tryz.ntmps87
 go_wp2_with fail
 ((with_reducible refine (sort_any (fun _ => True) u v _ HRX.out).mono ?_); rintro e w2 ⟨rfl, hb2⟩)
 have HB2 := Lib.hid (HX.out.1.trans (hb2.mono HX.out.1.size))
 have HX2 := Lib.hid (HX.out.2.below hb2 HX.out.2.lt)
 clear hb2
 by_cases hs : u.srt = 5
 ·have hsi : ((u.srt : Nat) : Int) = 5 := by omega
  rw [hsi]
  have HS := Lib.hid hs
  have c1 := HX2.out.cell 0
  simp at c1
  clear hs hsi
  go_wp2_with fail
  ((with_reducible refine (len_any (fun _ => True) u v _ (rda_below HR.out HB2.out)).mono ?_); rintro e w3 ⟨rfl, hb3⟩)
  have HB3 := Lib.hid (HB2.out.trans (hb3.mono HB2.out.size))
  have HX3 := Lib.hid (HX2.out.below hb3 HX2.out.lt)
  clear hb3 c1
  go_wp2_with fail
  go_loopw [9, 27] (fun c9 c27 wr => ∃ k : Nat, k ≤ u.kids.length ∧ c27 = .int .i64 (k : Int) ∧ Hid (FlS u v w k c9 wr)) (fun _ c27 _ => u.kids.length - (intOf c27).toNat)
  case atStart => exact ⟨0, Nat.zero_le _, rfl, Lib.hid ⟨HB3.out, HX3.out, World.ownsRow_nil _ _ _ _, rfl⟩⟩
  case round =>
   obtain ⟨k, hk, rfl, HI⟩ := hrel
   by_cases hlt : k < u.kids.length
   ·have hlti : (k : Int) < (u.kids.length : Int) := by omega
    have c1 := HI.out.ref.cell 0
    simp at c1
    have HLT := Lib.hid hlt
    obtain ⟨A, c, rfl⟩ := own_slice HI.out.own
    have HAC := Lib.hid (at_any u v k hlt (by have := HKL.out; omega) w wr HR.out HI.out.bl)
    have hkb : (k : Int) ≤ 65536 := by have := HKL.out; omega
    clear hk
    go_wp2_with fail
    ((with_reducible refine (HAC.out).mono ?_); rintro e w5 ⟨⟨tx, ux, rfl, hrk⟩, hb5⟩)
    obtain ⟨w6, hw6⟩ : ∃ w6, w5.alloc (.cells #[.iface tx ux] 58) = w6 := ⟨_, rfl⟩
    have hb56 : Below w5.heap.size w5 w6 := by rw [← hw6]; exact (Below.refl _ _).alloc (Nat.le_refl _) _
    have hbk : Below wr.heap.size wr w6 := hb5.trans (hb56.mono hb5.size)
    have hB6 : Blk w6 w5.heap.size 58 #[.iface tx ux] := by rw [← hw6]; exact Blk.new w5 _ _
    have c11 := hB6.cell 0
    have HBK := Lib.hid hbk
    have HB6 := Lib.hid (HI.out.bl.trans (hbk.mono HI.out.bl.size))
    have HRK := Lib.hid (rda_below hrk HB6.out)
    have HG6 := Lib.hid (HT.out.next HB6.out)
    have HAT := Lib.hid (fun (W : World) (hT : Tab W) => bat_any p (by have := HPL.out; omega) k (by have := HLT.out; have := HKL.out; omega) W hT)
    have HNM := Lib.hid (fun (W : World) (hr : RdA W u.kids[k] (.iface tx ux)) => bnumber_any u.kids[k] (.iface tx ux) (atP p k) W hr)
    obtain ⟨pk, hpk⟩ : ∃ pk, atP p k = pk := ⟨_, rfl⟩
    have HPK := Lib.hid hpk
    rw [hpk] at HAT HNM
    have HWE := Lib.hid hw6
    simp at c11
    clear hb5 hrk hb56 hbk hB6 hpk hw6
    go_upto_region 9 with fail
    rw [HWE.out]
    cases hnb : u.kids[k].isNb with
    | true =>
     have HNB := Lib.hid hnb
     unfold BnP at HNM
     clear hnb
     go_upto_region 10 with fail
     refine wp_region_held_drew (S := (fun w' => w'.cell? ⟨w5.heap.size, 0, none⟩ = some (.iface tx ux) ∧ Below w6.heap.size w6 w')) (by kernel_rfl) ⟨c11, drewN_below _ 1⟩ (fun hHeld => ?_)
     refine held_take (i := 0) (v := ?_) (some 39) rfl rfl (by kernel_rfl) (by kernel_rfl) (by kernel_rfl) (fun _ _ _ h => h) (Or.inl ⟨by rfl, ?_⟩) hHeld ?_
     rotate_left
     ·intro w hSw
      try dsimp only at hSw
      go_simp
      try with_reducible rfl
     simp only [Act.put, List.setIfInBounds_toArray, List.set_cons_zero, List.set_cons_succ]
     refine held_take (i := 1) (v := ?_) (some 40) rfl rfl (by kernel_rfl) (by kernel_rfl) (by kernel_rfl) (fun _ _ _ h => h) (Or.inl ⟨by rfl, ?_⟩) hHeld ?_
     rotate_left
     ·intro w hSw
      try dsimp only at hSw
      go_simp
      try with_reducible rfl
     simp only [Act.put, List.setIfInBounds_toArray, List.set_cons_zero, List.set_cons_succ]
     refine held_take (i := 2) (v := ?_) (some 41) rfl rfl (by kernel_rfl) (by kernel_rfl) (by kernel_rfl) (fun _ _ _ h => h) (Or.inl ⟨by rfl, ?_⟩) hHeld ?_
     rotate_left
     ·intro w hSw
      try dsimp only at hSw
      go_simp
      try with_reducible rfl
     simp only [Act.put, List.setIfInBounds_toArray, List.set_cons_zero, List.set_cons_succ]
     refine wpAnyH_ready (rs := [3]) (by kernel_rfl) (by simp) ?_
     refine AllReadyH.cons rfl (fun K hK => ?_) AllReadyH.nil
     go_simp
     ((with_reducible refine (HAT.out _ (HG6.out.next hHeld.2)).mono ?_); rintro e w2' ⟨rfl, hb2'⟩; dsimp only)
     replace hHeld := held2B hHeld hb2'
     refine hK.out _ _ hHeld (fun _ => ?_)
     clear hK K
     refine wpAnyH_ready (rs := [4]) (by kernel_rfl) (by simp) ?_
     refine AllReadyH.cons rfl (fun K hK => ?_) AllReadyH.nil
     go_simp
     ((with_reducible refine (HNM.out _ (rda_below HRK.out hHeld.2)).mono ?_); rintro e w2' ⟨he, hb2'⟩; rw [if_pos HNB.out] at he; obtain rfl := he; dsimp only)
     replace hHeld := held2B hHeld hb2'
     refine hK.out _ _ hHeld (fun _ => ?_)
     clear hK K
     refine held_take (i := 5) (v := ?_) (some 38) rfl rfl (by kernel_rfl) (by kernel_rfl) (by kernel_rfl) (fun _ _ _ h => h) (Or.inl ⟨by rfl, ?_⟩) hHeld ?_
     rotate_left
     ·intro w hSw
      try dsimp only at hSw
      go_simp
      try with_reducible rfl
     simp only [Act.put, List.setIfInBounds_toArray, List.set_cons_zero, List.set_cons_succ]
     refine held_take (i := 6) (v := ?_) (some 44) rfl rfl (by kernel_rfl) (by kernel_rfl) (by kernel_rfl) (fun _ _ _ h => h) (Or.inl ⟨by rfl, ?_⟩) hHeld ?_
     rotate_left
     ·intro w hSw
      try dsimp only at hSw
      go_simp
      try with_reducible rfl
     simp only [Act.put, List.setIfInBounds_toArray, List.set_cons_zero, List.set_cons_succ]
     refine held_take (i := 7) (v := ?_) (some 45) rfl rfl (by kernel_rfl) (by kernel_rfl) (by kernel_rfl) (fun _ _ _ h => h) (Or.inl ⟨by rfl, ?_⟩) hHeld ?_
     rotate_left
     ·intro w hSw
      try dsimp only at hSw
      go_simp
      try with_reducible rfl
     simp only [Act.put, List.setIfInBounds_toArray, List.set_cons_zero, List.set_cons_succ]
     refine held_take (i := 8) (v := ?_) (some 13) rfl rfl (by kernel_rfl) (by kernel_rfl) (by kernel_rfl) (fun _ _ _ h => h) (Or.inl ⟨by rfl, ?_⟩) hHeld ?_
     rotate_left
     ·intro w hSw
      try dsimp only at hSw
      go_simp
      try with_reducible rfl
     simp only [Act.put, List.setIfInBounds_toArray, List.set_cons_zero, List.set_cons_succ]
     refine held_take (i := 9) (v := ?_) (some 14) rfl rfl (by kernel_rfl) (by kernel_rfl) (by kernel_rfl) (fun _ _ _ h => h) (Or.inl ⟨by rfl, ?_⟩) hHeld ?_
     rotate_left
     ·intro w hSw
      try dsimp only at hSw
      go_simp
      try with_reducible rfl
     simp only [Act.put, List.setIfInBounds_toArray, List.set_cons_zero, List.set_cons_succ]
     refine wpAnyH_done (by kernel_rfl) ?_ _
     have HHD := Lib.hid hHeld
     have hbp : Below wr.heap.size wr _ := HBK.out.trans (HHD.out.2.mono HBK.out.size)
     have hown := fls_own HI.out hbp
     have hblk := HI.out.bl.size
     have hbps := hbp.size
     have HBP := Lib.hid hbp
     have hkl9 : k ≤ 65536 := by have := HKL.out; have := HLT.out; omega
     clear hHeld c11 c1 hbp
     trace_state
     go_wp2_with (at_builtin; refine wpList_append_own_at _ rfl _ _ 165 rfl (w.heap.size + 1) 61 i0 _ 1 8 Tryz.underlying165 hi0 hz0 hz1 hz2 rfl (by omega) (.slice A k c) k ((u.kids.take k).map flV) rfl (hown.alloc _) ⟨_, 0, none⟩ 1 1 [flV u.kids[k]] rfl rfl (one_new _ _ _) (one_cell _ rfl) ?b1 ?b2 ?b3 ?_; (unfold maxLen; omega); omega; (simp; omega); intro v9 w9 hown9 hgr9 hnil9 hat9)
     have HST := Lib.hid (fls_step HLT.out HNB.out HI.out (HBP.out.alloc HBP.out.size _) hown9 hgr9)
     clear hown9 hgr9 hnil9 hat9 hown
     go_wp2
     go_roundw
     case rel => exact ⟨k + 1, HLT.out, by go_num, HST⟩
     case measure => have := HLT.out; simp [intOf]; omega
    | false =>
     have HNB : Hid (¬ u.kids[k].isNb = true) := Lib.hid (by rw [hnb]; simp)
     have HNF := Lib.hid hnb
     unfold BnP at HNM
     clear hnb
     go_upto_region 10 with fail
     refine wp_region_held_drew (S := (fun w' => w'.cell? ⟨w5.heap.size, 0, none⟩ = some (.iface tx ux) ∧ Below w6.heap.size w6 w')) (by kernel_rfl) ⟨c11, drewN_below _ 1⟩ (fun hHeld => ?_)
     refine held_take (i := 0) (v := ?_) (some 39) rfl rfl (by kernel_rfl) (by kernel_rfl) (by kernel_rfl) (fun _ _ _ h => h) (Or.inl ⟨by rfl, ?_⟩) hHeld ?_
     rotate_left
     ·intro w hSw
      try dsimp only at hSw
      go_simp
      try with_reducible rfl
     simp only [Act.put, List.setIfInBounds_toArray, List.set_cons_zero, List.set_cons_succ]
     refine held_take (i := 1) (v := ?_) (some 40) rfl rfl (by kernel_rfl) (by kernel_rfl) (by kernel_rfl) (fun _ _ _ h => h) (Or.inl ⟨by rfl, ?_⟩) hHeld ?_
     rotate_left
     ·intro w hSw
      try dsimp only at hSw
      go_simp
      try with_reducible rfl
     simp only [Act.put, List.setIfInBounds_toArray, List.set_cons_zero, List.set_cons_succ]
     refine held_take (i := 2) (v := ?_) (some 41) rfl rfl (by kernel_rfl) (by kernel_rfl) (by kernel_rfl) (fun _ _ _ h => h) (Or.inl ⟨by rfl, ?_⟩) hHeld ?_
     rotate_left
     ·intro w hSw
      try dsimp only at hSw
      go_simp
      try with_reducible rfl
     simp only [Act.put, List.setIfInBounds_toArray, List.set_cons_zero, List.set_cons_succ]
     refine wpAnyH_ready (rs := [3]) (by kernel_rfl) (by simp) ?_
     refine AllReadyH.cons rfl (fun K hK => ?_) AllReadyH.nil
     go_simp
     ((with_reducible refine (HAT.out _ (HG6.out.next hHeld.2)).mono ?_); rintro e w2' ⟨rfl, hb2'⟩; dsimp only)
     replace hHeld := held2B hHeld hb2'
     refine hK.out _ _ hHeld (fun _ => ?_)
     clear hK K
     refine wpAnyH_ready (rs := [4]) (by kernel_rfl) (by simp) ?_
     refine AllReadyH.cons rfl (fun K hK => ?_) AllReadyH.nil
     go_simp
     ((with_reducible refine (HNM.out _ (rda_below HRK.out hHeld.2)).mono ?_); rintro e w2' ⟨he, hb2'⟩; rw [if_neg HNB.out] at he; obtain rfl := he; dsimp only)
     replace hHeld := held2B hHeld hb2'
     refine hK.out _ _ hHeld (fun _ => ?_)
     clear hK K
     refine held_take (i := 5) (v := ?_) (some 38) rfl rfl (by kernel_rfl) (by kernel_rfl) (by kernel_rfl) (fun _ _ _ h => h) (Or.inl ⟨by rfl, ?_⟩) hHeld ?_
     rotate_left
     ·intro w hSw
      try dsimp only at hSw
      go_simp
      try with_reducible rfl
     simp only [Act.put, List.setIfInBounds_toArray, List.set_cons_zero, List.set_cons_succ]
     refine held_take (i := 6) (v := ?_) (some 44) rfl rfl (by kernel_rfl) (by kernel_rfl) (by kernel_rfl) (fun _ _ _ h => h) (Or.inl ⟨by rfl, ?_⟩) hHeld ?_
     rotate_left
     ·intro w hSw
      try dsimp only at hSw
      go_simp
      try with_reducible rfl
     simp only [Act.put, List.setIfInBounds_toArray, List.set_cons_zero, List.set_cons_succ]
     refine held_take (i := 7) (v := ?_) (some 45) rfl rfl (by kernel_rfl) (by kernel_rfl) (by kernel_rfl) (fun _ _ _ h => h) (Or.inl ⟨by rfl, ?_⟩) hHeld ?_
     rotate_left
     ·intro w hSw
      try dsimp only at hSw
      go_simp
      try with_reducible rfl
     simp only [Act.put, List.setIfInBounds_toArray, List.set_cons_zero, List.set_cons_succ]
     refine held_take (i := 8) (v := ?_) (some 13) rfl rfl (by kernel_rfl) (by kernel_rfl) (by kernel_rfl) (fun _ _ _ h => h) (Or.inl ⟨by rfl, ?_⟩) hHeld ?_
     rotate_left
     ·intro w hSw
      try dsimp only at hSw
      go_simp
      try with_reducible rfl
     simp only [Act.put, List.setIfInBounds_toArray, List.set_cons_zero, List.set_cons_succ]
     refine held_take (i := 9) (v := ?_) (some 14) rfl rfl (by kernel_rfl) (by kernel_rfl) (by kernel_rfl) (fun _ _ _ h => h) (Or.inl ⟨by rfl, ?_⟩) hHeld ?_
     rotate_left
     ·intro w hSw
      try dsimp only at hSw
      go_simp
      try with_reducible rfl
     simp only [Act.put, List.setIfInBounds_toArray, List.set_cons_zero, List.set_cons_succ]
     refine wpAnyH_done (by kernel_rfl) ?_ _
     have HE : Hid (FloR p u w (.returned (.tuple #[.nilIface, trlV 5 pk])) _) := Lib.hid (by
      rw [← HPK.out]
      exact floR_bad HS.out (HI.out.bad.trans (badK_no HLT.out HNF.out)) (HB6.out.trans (hHeld.2.mono HB6.out.size)))
     unfold trlV at HE ⊢
     clear hHeld c11 c1
     go_wp2
     go_ret2
     exact HE.out
   ·obtain rfl : k = u.kids.length := by omega
    have HE : Hid (FloR p u w (.returned (.tuple #[.iface 165 u9, .nilIface])) wr) := Lib.hid (floR_ok HS.out (HI.out.bad.trans (badK_end _)) (by
     have := HI.out.own
     rw [List.take_length] at this
     exact own_lowB this (by omega)) HI.out.bl)
    go_wp2
    go_ret2
    exact HE.out
 ·have hsi : ((u.srt : Nat) : Int) ≠ 5 := by omega
  have hsb : (((u.srt : Nat) : Int) != 5) = true := by simp; omega
  have HE := Lib.hid (floR_sort (p := p) hs HB2.out)
  clear hs
  go_wp2_with fail
  ((with_reducible refine (btrail_any 5 p _).mono ?_); rintro e w3 ⟨rfl, rfl⟩)
  unfold trlV at HE ⊢
  go_wp2
  go_ret2
  exact HE.out
end Nd
end Go.Proofs.YtbajkglacfheiaaGreatDoor
