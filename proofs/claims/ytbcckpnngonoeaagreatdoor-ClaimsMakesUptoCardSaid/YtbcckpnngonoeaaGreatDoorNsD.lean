/-
  Walks of package node: a Ref's Same: leaves.
-/
import Derived.Test.YtbcckpnngonoeaaGreatDoorGI
import Derived.StillTailTactics
namespace Go.Proofs.YtbcckpnngonoeaaGreatDoor
open Go.RowKit Mem
set_option linter.unusedVariables false
set_option linter.unusedSimpArgs false
namespace Nd
theorem bq_null (W : World) : (binOp .eql 106 (.iface 201 (.agg #[])) (.iface 201 (.agg #[]))).run Tryz.prog W = .ok (.bool true) W := by kernel_rfl
theorem bq_flag (x y : Bool) (W : World) : (binOp .eql 106 (.iface 202 (.bool x)) (.iface 202 (.bool y))).run Tryz.prog W = .ok (.bool (x == y)) W := by cases x <;> cases y <;> kernel_rfl
theorem bq_num (x y : Nat) (W : World) : (binOp .eql 106 (.iface 207 (.float .f64 x)) (.iface 207 (.float .f64 y))).run Tryz.prog W = .ok (.bool (Ieee.double.order x y == some .eq)) W := by kernel_rfl
theorem bq_text (x y : Tx) (W : World) : (binOp .eql 106 (.iface 209 (.string ⟨x.toArray⟩)) (.iface 209 (.string ⟨y.toArray⟩))).run Tryz.prog W = .ok (.bool ((⟨x.toArray⟩ : ByteArray) == ⟨y.toArray⟩)) W := by kernel_rfl
theorem bytes_beq (x y : Tx) : ((⟨x.toArray⟩ : ByteArray) == ⟨y.toArray⟩) = decide (x = y) := by
  show (x.toArray == y.toArray) = _
  by_cases h : x = y
  · subst h
    simp
  · rw [decide_eq_false h]
    apply beq_false_of_ne
    simpa using h
set_option maxRecDepth 100000 in
set_option maxHeartbeats 8000000 in
theorem same_null (a b : Value) (w : World) (ht : RdA w .null a) (hu : RdA w .null b) :
    Calls Tryz.prog 68 #[.agg #[a], .agg #[b]] w fun e w' => e = .returned (.bool (eqT .null .null)) ∧ Below w.heap.size w w' := by
  have hsn : (((Tr.srt .null : Nat) : Int) != ((Tr.srt .null : Nat) : Int)) = false := by simp [Tr.srt]
  have hln : (((Tr.kids .null).length : Int) != ((Tr.kids .null).length : Int)) = false := by simp [Tr.kids]
  have HKL : Hid ((Tr.kn .null).length = (Tr.kn .null).length) := Lib.hid rfl
  have HKN : Hid ((Tr.kn .null).length ≤ 1048576) := Lib.hid (by simp [Tr.kn])
  have hkd : decide (Tr.kn .null = Tr.kn .null) = true := by simp [Tr.kn]
  have h4 := ta_0_4
  have h5 := ta_0_5
  obtain ⟨c2, c3, hB0⟩ := two_boxes w 140 a b
  have HT1 := rda_below ht hB0
  have HU1 := rda_below hu hB0
  obtain ⟨W0, hW0⟩ : ∃ W0, W0 = (w.alloc (.cells #[a] 140)).alloc (.cells #[b] 140) := ⟨_, rfl⟩
  rw [← hW0] at c2 c3 hB0 HT1 HU1
  have HT := Lib.hid HT1
  have HU := Lib.hid HU1
  clear HT1 HU1
  have hd0 : Below W0.heap.size W0 W0.drew := drewN_below W0 1
  have e1 := ht
  have e2 := hu
  unfold RdA RdT at e1 e2
  have E1 := Lib.hid e1
  have E2 := Lib.hid e2
  clear e1 e2
  go_enter Tryz.func68, Tryz.ntmps68
  go_upto_region 1 with fail
  rw [← hW0]
  clear hW0
  refine wp_region_held_drew (S := (fun w' => w'.cell? ⟨w.heap.size, 0, none⟩ = some a ∧ w'.cell? ⟨w.heap.size + 1, 0, none⟩ = some b ∧ Below W0.heap.size W0 w')) (by kernel_rfl) ⟨c2, c3, hd0⟩ (fun hHeld => ?_)
  refine held_take (i := 0) (v := ?_) (some 10) rfl rfl (by kernel_rfl) (by kernel_rfl) (by kernel_rfl) (fun _ _ _ h => h) (Or.inl ⟨by rfl, ?_⟩) hHeld ?_
  rotate_left
  · intro w hSw
    try dsimp only at hSw
    go_simp
    try with_reducible rfl
  simp only [Act.put, List.setIfInBounds_toArray, List.set_cons_zero, List.set_cons_succ]
  refine held_take (i := 2) (v := ?_) (some 12) rfl rfl (by kernel_rfl) (by kernel_rfl) (by kernel_rfl) (fun _ _ _ h => h) (Or.inl ⟨by rfl, ?_⟩) hHeld ?_
  rotate_left
  · intro w hSw
    try dsimp only at hSw
    go_simp
    try with_reducible rfl
  simp only [Act.put, List.setIfInBounds_toArray, List.set_cons_zero, List.set_cons_succ]
  refine wpAnyH_ready (rs := [1]) (by kernel_rfl) (by simp) ?_
  refine AllReadyH.cons rfl (fun K hK => ?_) AllReadyH.nil
  go_simp
  go_at_call 43
  ((with_reducible refine (sort_any _ .null a _ (rda_below HT.out hHeld.2.2)).mono ?_); rintro e w2 ⟨rfl, hb2⟩; dsimp only)
  replace hHeld := two_below hHeld hb2
  refine hK.out _ _ hHeld (fun _ => ?_)
  clear hK K
  refine wpAnyH_ready (rs := [3]) (by kernel_rfl) (by simp) ?_
  refine AllReadyH.cons rfl (fun K hK => ?_) AllReadyH.nil
  go_simp
  go_at_call 43
  ((with_reducible refine (sort_any _ .null b _ (rda_below HU.out hHeld.2.2)).mono ?_); rintro e w2 ⟨rfl, hb2⟩; dsimp only)
  replace hHeld := two_below hHeld hb2
  refine hK.out _ _ hHeld (fun _ => ?_)
  clear hK K
  refine held_take (i := 4) (v := ?_) (some 14) rfl rfl (by kernel_rfl) (by kernel_rfl) (by kernel_rfl) (fun _ _ _ h => h) (Or.inl ⟨by rfl, ?_⟩) hHeld ?_
  rotate_left
  · intro w hSw
    try dsimp only at hSw
    go_simp
    try with_reducible rfl
  simp only [Act.put, List.setIfInBounds_toArray, List.set_cons_zero, List.set_cons_succ]
  refine held_take (i := 5) (v := ?_) (some 15) rfl rfl (by kernel_rfl) (by kernel_rfl) (by kernel_rfl) (fun _ _ _ h => h) (Or.inl ⟨by rfl, ?_⟩) hHeld ?_
  rotate_left
  · intro w hSw
    try dsimp only at hSw
    go_simp
    try with_reducible rfl
  simp only [Act.put, List.setIfInBounds_toArray, List.set_cons_zero, List.set_cons_succ]
  refine held_take (i := 6) (v := ?_) (some 16) rfl rfl (by kernel_rfl) (by kernel_rfl) (by kernel_rfl) (fun _ _ _ h => h) (Or.inl ⟨by rfl, ?_⟩) hHeld ?_
  rotate_left
  · intro w hSw
    try dsimp only at hSw
    go_simp
    try with_reducible rfl
  simp only [Act.put, List.setIfInBounds_toArray, List.set_cons_zero, List.set_cons_succ]
  refine held_take (i := 8) (v := ?_) (some 18) rfl rfl (by kernel_rfl) (by kernel_rfl) (by kernel_rfl) (fun _ _ _ h => h) (Or.inl ⟨by rfl, ?_⟩) hHeld ?_
  rotate_left
  · intro w hSw
    try dsimp only at hSw
    go_simp
    try with_reducible rfl
  simp only [Act.put, List.setIfInBounds_toArray, List.set_cons_zero, List.set_cons_succ]
  refine wpAnyH_ready (rs := [7]) (by kernel_rfl) (by simp) ?_
  refine AllReadyH.cons rfl (fun K hK => ?_) AllReadyH.nil
  go_simp
  go_at_call 117
  ((with_reducible refine (len_any _ .null a _ (rda_below HT.out hHeld.2.2)).mono ?_); rintro e w2 ⟨rfl, hb2⟩; dsimp only)
  replace hHeld := two_below hHeld hb2
  refine hK.out _ _ hHeld (fun _ => ?_)
  clear hK K
  refine wpAnyH_ready (rs := [9]) (by kernel_rfl) (by simp) ?_
  refine AllReadyH.cons rfl (fun K hK => ?_) AllReadyH.nil
  go_simp
  go_at_call 117
  ((with_reducible refine (len_any _ .null b _ (rda_below HU.out hHeld.2.2)).mono ?_); rintro e w2 ⟨rfl, hb2⟩; dsimp only)
  replace hHeld := two_below hHeld hb2
  refine hK.out _ _ hHeld (fun _ => ?_)
  clear hK K
  refine held_take (i := 10) (v := ?_) (some 20) rfl rfl (by kernel_rfl) (by kernel_rfl) (by kernel_rfl) (fun _ _ _ h => h) (Or.inl ⟨by rfl, ?_⟩) hHeld ?_
  rotate_left
  · intro w hSw
    try dsimp only at hSw
    go_simp
    try with_reducible rfl
  simp only [Act.put, List.setIfInBounds_toArray, List.set_cons_zero, List.set_cons_succ]
  refine held_take (i := 11) (v := ?_) (some 21) rfl rfl (by kernel_rfl) (by kernel_rfl) (by kernel_rfl) (fun _ _ _ h => h) (Or.inl ⟨by rfl, ?_⟩) hHeld ?_
  rotate_left
  · intro w hSw
    try dsimp only at hSw
    go_simp
    try with_reducible rfl
  simp only [Act.put, List.setIfInBounds_toArray, List.set_cons_zero, List.set_cons_succ]
  refine held_take (i := 12) (v := ?_) (some 22) rfl rfl (by kernel_rfl) (by kernel_rfl) (by kernel_rfl) (fun _ _ _ h => h) (Or.inl ⟨by rfl, ?_⟩) hHeld ?_
  rotate_left
  · intro w hSw
    try dsimp only at hSw
    go_simp
    try with_reducible rfl
  simp only [Act.put, List.setIfInBounds_toArray, List.set_cons_zero, List.set_cons_succ]
  refine held_take (i := 13) (v := ?_) (some 23) rfl rfl (by kernel_rfl) (by kernel_rfl) (by kernel_rfl) (fun _ _ _ h => h) (Or.inl ⟨by rfl, ?_⟩) hHeld ?_
  rotate_left
  · intro w hSw
    try dsimp only at hSw
    go_simp
    try with_reducible rfl
  simp only [Act.put, List.setIfInBounds_toArray, List.set_cons_zero, List.set_cons_succ]
  refine held_take (i := 15) (v := ?_) (some 25) rfl rfl (by kernel_rfl) (by kernel_rfl) (by kernel_rfl) (fun _ _ _ h => h) (Or.inl ⟨by rfl, ?_⟩) hHeld ?_
  rotate_left
  · intro w hSw
    try dsimp only at hSw
    go_simp
    try with_reducible rfl
  simp only [Act.put, List.setIfInBounds_toArray, List.set_cons_zero, List.set_cons_succ]
  refine wpAnyH_ready (rs := [14]) (by kernel_rfl) (by simp) ?_
  refine AllReadyH.cons rfl (fun K hK => ?_) AllReadyH.nil
  go_simp
  go_at_call 101
  ((with_reducible refine (keysr_any _ .null a _ (rda_below HT.out hHeld.2.2)).mono ?_); rintro e w2 ⟨⟨A1, q1, rfl, hkA1⟩, hb2⟩; dsimp only)
  replace hkA1 := hkA1.below hb2
  replace hHeld := two_below hHeld hb2
  refine hK.out _ _ hHeld (fun _ => ?_)
  clear hK K
  refine wpAnyH_ready (rs := [16]) (by kernel_rfl) (by simp) ?_
  refine AllReadyH.cons rfl (fun K hK => ?_) AllReadyH.nil
  go_simp
  go_at_call 101
  ((with_reducible refine (keysr_any _ .null b _ (rda_below HU.out hHeld.2.2)).mono ?_); rintro e w2 ⟨⟨A2, q2, rfl, hkA2⟩, hb2⟩; dsimp only)
  replace hkA1 := hkA1.below hb2
  replace hkA2 := hkA2.below hb2
  replace hHeld := two_below hHeld hb2
  refine hK.out _ _ hHeld (fun _ => ?_)
  clear hK K
  refine wpAnyH_ready (rs := [17]) (by kernel_rfl) (by simp) ?_
  refine AllReadyH.cons rfl (fun K hK => ?_) AllReadyH.nil
  go_simp
  go_at_call 118
  ((with_reducible refine (keys_equal (Tr.kn .null) (Tr.kn .null) _ _ _ hkA1 hkA2 HKL.out HKN.out).mono ?_); rintro e w3 ⟨rfl, hb3⟩; dsimp only)
  replace hHeld := two_below hHeld hb3
  refine hK.out _ _ hHeld (fun _ => ?_)
  clear hK K
  refine held_take (i := 18) (v := ?_) (some 28) rfl rfl (by kernel_rfl) (by kernel_rfl) (by kernel_rfl) (fun _ _ _ h => h) (Or.inl ⟨by rfl, ?_⟩) hHeld ?_
  rotate_left
  · intro w hSw
    try dsimp only at hSw
    go_simp
    try with_reducible rfl
  simp only [Act.put, List.setIfInBounds_toArray, List.set_cons_zero, List.set_cons_succ]
  refine held_take (i := 19) (v := ?_) (some 29) rfl rfl (by kernel_rfl) (by kernel_rfl) (by kernel_rfl) (fun _ _ _ h => h) (Or.inl ⟨by rfl, ?_⟩) hHeld ?_
  rotate_left
  · intro w hSw
    try dsimp only at hSw
    go_simp
    try with_reducible rfl
  simp only [Act.put, List.setIfInBounds_toArray, List.set_cons_zero, List.set_cons_succ]
  refine wpAnyH_done (by kernel_rfl) ?_ _
  have hbw := hB0.trans (hHeld.2.2.mono hB0.size)
  obtain ⟨c2', c3', _⟩ := hHeld
  clear c2 c3 HT HU ht hu
  have e1 := E1.out
  have e2 := E2.out
  clear E1 E2
  have hbq := bq_null
  subst e1
  subst e2
  go_wp2
  go_ret
  exact ⟨by simp [eqT], hbw⟩
set_option maxRecDepth 100000 in
set_option maxHeartbeats 8000000 in
theorem same_flag (x y : Bool) (a b : Value) (w : World) (ht : RdA w (.flag x) a) (hu : RdA w (.flag y) b) :
    Calls Tryz.prog 68 #[.agg #[a], .agg #[b]] w fun e w' => e = .returned (.bool (eqT (.flag x) (.flag y))) ∧ Below w.heap.size w w' := by
  have hsn : (((Tr.srt (.flag x) : Nat) : Int) != ((Tr.srt (.flag y) : Nat) : Int)) = false := by simp [Tr.srt]
  have hln : (((Tr.kids (.flag x)).length : Int) != ((Tr.kids (.flag y)).length : Int)) = false := by simp [Tr.kids]
  have HKL : Hid ((Tr.kn (.flag x)).length = (Tr.kn (.flag y)).length) := Lib.hid rfl
  have HKN : Hid ((Tr.kn (.flag x)).length ≤ 1048576) := Lib.hid (by simp [Tr.kn])
  have hkd : decide (Tr.kn (.flag x) = Tr.kn (.flag y)) = true := by simp [Tr.kn]
  have h4 := ta_1_4 x
  have h5 := ta_1_5 x
  obtain ⟨c2, c3, hB0⟩ := two_boxes w 140 a b
  have HT1 := rda_below ht hB0
  have HU1 := rda_below hu hB0
  obtain ⟨W0, hW0⟩ : ∃ W0, W0 = (w.alloc (.cells #[a] 140)).alloc (.cells #[b] 140) := ⟨_, rfl⟩
  rw [← hW0] at c2 c3 hB0 HT1 HU1
  have HT := Lib.hid HT1
  have HU := Lib.hid HU1
  clear HT1 HU1
  have hd0 : Below W0.heap.size W0 W0.drew := drewN_below W0 1
  have e1 := ht
  have e2 := hu
  unfold RdA RdT at e1 e2
  have E1 := Lib.hid e1
  have E2 := Lib.hid e2
  clear e1 e2
  go_enter Tryz.func68, Tryz.ntmps68
  go_upto_region 1 with fail
  rw [← hW0]
  clear hW0
  refine wp_region_held_drew (S := (fun w' => w'.cell? ⟨w.heap.size, 0, none⟩ = some a ∧ w'.cell? ⟨w.heap.size + 1, 0, none⟩ = some b ∧ Below W0.heap.size W0 w')) (by kernel_rfl) ⟨c2, c3, hd0⟩ (fun hHeld => ?_)
  refine held_take (i := 0) (v := ?_) (some 10) rfl rfl (by kernel_rfl) (by kernel_rfl) (by kernel_rfl) (fun _ _ _ h => h) (Or.inl ⟨by rfl, ?_⟩) hHeld ?_
  rotate_left
  · intro w hSw
    try dsimp only at hSw
    go_simp
    try with_reducible rfl
  simp only [Act.put, List.setIfInBounds_toArray, List.set_cons_zero, List.set_cons_succ]
  refine held_take (i := 2) (v := ?_) (some 12) rfl rfl (by kernel_rfl) (by kernel_rfl) (by kernel_rfl) (fun _ _ _ h => h) (Or.inl ⟨by rfl, ?_⟩) hHeld ?_
  rotate_left
  · intro w hSw
    try dsimp only at hSw
    go_simp
    try with_reducible rfl
  simp only [Act.put, List.setIfInBounds_toArray, List.set_cons_zero, List.set_cons_succ]
  refine wpAnyH_ready (rs := [1]) (by kernel_rfl) (by simp) ?_
  refine AllReadyH.cons rfl (fun K hK => ?_) AllReadyH.nil
  go_simp
  go_at_call 43
  ((with_reducible refine (sort_any _ (.flag x) a _ (rda_below HT.out hHeld.2.2)).mono ?_); rintro e w2 ⟨rfl, hb2⟩; dsimp only)
  replace hHeld := two_below hHeld hb2
  refine hK.out _ _ hHeld (fun _ => ?_)
  clear hK K
  refine wpAnyH_ready (rs := [3]) (by kernel_rfl) (by simp) ?_
  refine AllReadyH.cons rfl (fun K hK => ?_) AllReadyH.nil
  go_simp
  go_at_call 43
  ((with_reducible refine (sort_any _ (.flag y) b _ (rda_below HU.out hHeld.2.2)).mono ?_); rintro e w2 ⟨rfl, hb2⟩; dsimp only)
  replace hHeld := two_below hHeld hb2
  refine hK.out _ _ hHeld (fun _ => ?_)
  clear hK K
  refine held_take (i := 4) (v := ?_) (some 14) rfl rfl (by kernel_rfl) (by kernel_rfl) (by kernel_rfl) (fun _ _ _ h => h) (Or.inl ⟨by rfl, ?_⟩) hHeld ?_
  rotate_left
  · intro w hSw
    try dsimp only at hSw
    go_simp
    try with_reducible rfl
  simp only [Act.put, List.setIfInBounds_toArray, List.set_cons_zero, List.set_cons_succ]
  refine held_take (i := 5) (v := ?_) (some 15) rfl rfl (by kernel_rfl) (by kernel_rfl) (by kernel_rfl) (fun _ _ _ h => h) (Or.inl ⟨by rfl, ?_⟩) hHeld ?_
  rotate_left
  · intro w hSw
    try dsimp only at hSw
    go_simp
    try with_reducible rfl
  simp only [Act.put, List.setIfInBounds_toArray, List.set_cons_zero, List.set_cons_succ]
  refine held_take (i := 6) (v := ?_) (some 16) rfl rfl (by kernel_rfl) (by kernel_rfl) (by kernel_rfl) (fun _ _ _ h => h) (Or.inl ⟨by rfl, ?_⟩) hHeld ?_
  rotate_left
  · intro w hSw
    try dsimp only at hSw
    go_simp
    try with_reducible rfl
  simp only [Act.put, List.setIfInBounds_toArray, List.set_cons_zero, List.set_cons_succ]
  refine held_take (i := 8) (v := ?_) (some 18) rfl rfl (by kernel_rfl) (by kernel_rfl) (by kernel_rfl) (fun _ _ _ h => h) (Or.inl ⟨by rfl, ?_⟩) hHeld ?_
  rotate_left
  · intro w hSw
    try dsimp only at hSw
    go_simp
    try with_reducible rfl
  simp only [Act.put, List.setIfInBounds_toArray, List.set_cons_zero, List.set_cons_succ]
  refine wpAnyH_ready (rs := [7]) (by kernel_rfl) (by simp) ?_
  refine AllReadyH.cons rfl (fun K hK => ?_) AllReadyH.nil
  go_simp
  go_at_call 117
  ((with_reducible refine (len_any _ (.flag x) a _ (rda_below HT.out hHeld.2.2)).mono ?_); rintro e w2 ⟨rfl, hb2⟩; dsimp only)
  replace hHeld := two_below hHeld hb2
  refine hK.out _ _ hHeld (fun _ => ?_)
  clear hK K
  refine wpAnyH_ready (rs := [9]) (by kernel_rfl) (by simp) ?_
  refine AllReadyH.cons rfl (fun K hK => ?_) AllReadyH.nil
  go_simp
  go_at_call 117
  ((with_reducible refine (len_any _ (.flag y) b _ (rda_below HU.out hHeld.2.2)).mono ?_); rintro e w2 ⟨rfl, hb2⟩; dsimp only)
  replace hHeld := two_below hHeld hb2
  refine hK.out _ _ hHeld (fun _ => ?_)
  clear hK K
  refine held_take (i := 10) (v := ?_) (some 20) rfl rfl (by kernel_rfl) (by kernel_rfl) (by kernel_rfl) (fun _ _ _ h => h) (Or.inl ⟨by rfl, ?_⟩) hHeld ?_
  rotate_left
  · intro w hSw
    try dsimp only at hSw
    go_simp
    try with_reducible rfl
  simp only [Act.put, List.setIfInBounds_toArray, List.set_cons_zero, List.set_cons_succ]
  refine held_take (i := 11) (v := ?_) (some 21) rfl rfl (by kernel_rfl) (by kernel_rfl) (by kernel_rfl) (fun _ _ _ h => h) (Or.inl ⟨by rfl, ?_⟩) hHeld ?_
  rotate_left
  · intro w hSw
    try dsimp only at hSw
    go_simp
    try with_reducible rfl
  simp only [Act.put, List.setIfInBounds_toArray, List.set_cons_zero, List.set_cons_succ]
  refine held_take (i := 12) (v := ?_) (some 22) rfl rfl (by kernel_rfl) (by kernel_rfl) (by kernel_rfl) (fun _ _ _ h => h) (Or.inl ⟨by rfl, ?_⟩) hHeld ?_
  rotate_left
  · intro w hSw
    try dsimp only at hSw
    go_simp
    try with_reducible rfl
  simp only [Act.put, List.setIfInBounds_toArray, List.set_cons_zero, List.set_cons_succ]
  refine held_take (i := 13) (v := ?_) (some 23) rfl rfl (by kernel_rfl) (by kernel_rfl) (by kernel_rfl) (fun _ _ _ h => h) (Or.inl ⟨by rfl, ?_⟩) hHeld ?_
  rotate_left
  · intro w hSw
    try dsimp only at hSw
    go_simp
    try with_reducible rfl
  simp only [Act.put, List.setIfInBounds_toArray, List.set_cons_zero, List.set_cons_succ]
  refine held_take (i := 15) (v := ?_) (some 25) rfl rfl (by kernel_rfl) (by kernel_rfl) (by kernel_rfl) (fun _ _ _ h => h) (Or.inl ⟨by rfl, ?_⟩) hHeld ?_
  rotate_left
  · intro w hSw
    try dsimp only at hSw
    go_simp
    try with_reducible rfl
  simp only [Act.put, List.setIfInBounds_toArray, List.set_cons_zero, List.set_cons_succ]
  refine wpAnyH_ready (rs := [14]) (by kernel_rfl) (by simp) ?_
  refine AllReadyH.cons rfl (fun K hK => ?_) AllReadyH.nil
  go_simp
  go_at_call 101
  ((with_reducible refine (keysr_any _ (.flag x) a _ (rda_below HT.out hHeld.2.2)).mono ?_); rintro e w2 ⟨⟨A1, q1, rfl, hkA1⟩, hb2⟩; dsimp only)
  replace hkA1 := hkA1.below hb2
  replace hHeld := two_below hHeld hb2
  refine hK.out _ _ hHeld (fun _ => ?_)
  clear hK K
  refine wpAnyH_ready (rs := [16]) (by kernel_rfl) (by simp) ?_
  refine AllReadyH.cons rfl (fun K hK => ?_) AllReadyH.nil
  go_simp
  go_at_call 101
  ((with_reducible refine (keysr_any _ (.flag y) b _ (rda_below HU.out hHeld.2.2)).mono ?_); rintro e w2 ⟨⟨A2, q2, rfl, hkA2⟩, hb2⟩; dsimp only)
  replace hkA1 := hkA1.below hb2
  replace hkA2 := hkA2.below hb2
  replace hHeld := two_below hHeld hb2
  refine hK.out _ _ hHeld (fun _ => ?_)
  clear hK K
  refine wpAnyH_ready (rs := [17]) (by kernel_rfl) (by simp) ?_
  refine AllReadyH.cons rfl (fun K hK => ?_) AllReadyH.nil
  go_simp
  go_at_call 118
  ((with_reducible refine (keys_equal (Tr.kn (.flag x)) (Tr.kn (.flag y)) _ _ _ hkA1 hkA2 HKL.out HKN.out).mono ?_); rintro e w3 ⟨rfl, hb3⟩; dsimp only)
  replace hHeld := two_below hHeld hb3
  refine hK.out _ _ hHeld (fun _ => ?_)
  clear hK K
  refine held_take (i := 18) (v := ?_) (some 28) rfl rfl (by kernel_rfl) (by kernel_rfl) (by kernel_rfl) (fun _ _ _ h => h) (Or.inl ⟨by rfl, ?_⟩) hHeld ?_
  rotate_left
  · intro w hSw
    try dsimp only at hSw
    go_simp
    try with_reducible rfl
  simp only [Act.put, List.setIfInBounds_toArray, List.set_cons_zero, List.set_cons_succ]
  refine held_take (i := 19) (v := ?_) (some 29) rfl rfl (by kernel_rfl) (by kernel_rfl) (by kernel_rfl) (fun _ _ _ h => h) (Or.inl ⟨by rfl, ?_⟩) hHeld ?_
  rotate_left
  · intro w hSw
    try dsimp only at hSw
    go_simp
    try with_reducible rfl
  simp only [Act.put, List.setIfInBounds_toArray, List.set_cons_zero, List.set_cons_succ]
  refine wpAnyH_done (by kernel_rfl) ?_ _
  have hbw := hB0.trans (hHeld.2.2.mono hB0.size)
  obtain ⟨c2', c3', _⟩ := hHeld
  clear c2 c3 HT HU ht hu
  have e1 := E1.out
  have e2 := E2.out
  clear E1 E2
  have hbq := bq_flag x y
  subst e1
  subst e2
  go_wp2
  go_ret
  exact ⟨by simp [eqT], hbw⟩
set_option maxRecDepth 100000 in
set_option maxHeartbeats 8000000 in
theorem same_num (x y : Nat) (a b : Value) (w : World) (ht : RdA w (.num x) a) (hu : RdA w (.num y) b) :
    Calls Tryz.prog 68 #[.agg #[a], .agg #[b]] w fun e w' => e = .returned (.bool (eqT (.num x) (.num y))) ∧ Below w.heap.size w w' := by
  have hsn : (((Tr.srt (.num x) : Nat) : Int) != ((Tr.srt (.num y) : Nat) : Int)) = false := by simp [Tr.srt]
  have hln : (((Tr.kids (.num x)).length : Int) != ((Tr.kids (.num y)).length : Int)) = false := by simp [Tr.kids]
  have HKL : Hid ((Tr.kn (.num x)).length = (Tr.kn (.num y)).length) := Lib.hid rfl
  have HKN : Hid ((Tr.kn (.num x)).length ≤ 1048576) := Lib.hid (by simp [Tr.kn])
  have hkd : decide (Tr.kn (.num x) = Tr.kn (.num y)) = true := by simp [Tr.kn]
  have h4 := ta_2_4 x
  have h5 := ta_2_5 x
  obtain ⟨c2, c3, hB0⟩ := two_boxes w 140 a b
  have HT1 := rda_below ht hB0
  have HU1 := rda_below hu hB0
  obtain ⟨W0, hW0⟩ : ∃ W0, W0 = (w.alloc (.cells #[a] 140)).alloc (.cells #[b] 140) := ⟨_, rfl⟩
  rw [← hW0] at c2 c3 hB0 HT1 HU1
  have HT := Lib.hid HT1
  have HU := Lib.hid HU1
  clear HT1 HU1
  have hd0 : Below W0.heap.size W0 W0.drew := drewN_below W0 1
  have e1 := ht
  have e2 := hu
  unfold RdA RdT at e1 e2
  have E1 := Lib.hid e1
  have E2 := Lib.hid e2
  clear e1 e2
  go_enter Tryz.func68, Tryz.ntmps68
  go_upto_region 1 with fail
  rw [← hW0]
  clear hW0
  refine wp_region_held_drew (S := (fun w' => w'.cell? ⟨w.heap.size, 0, none⟩ = some a ∧ w'.cell? ⟨w.heap.size + 1, 0, none⟩ = some b ∧ Below W0.heap.size W0 w')) (by kernel_rfl) ⟨c2, c3, hd0⟩ (fun hHeld => ?_)
  refine held_take (i := 0) (v := ?_) (some 10) rfl rfl (by kernel_rfl) (by kernel_rfl) (by kernel_rfl) (fun _ _ _ h => h) (Or.inl ⟨by rfl, ?_⟩) hHeld ?_
  rotate_left
  · intro w hSw
    try dsimp only at hSw
    go_simp
    try with_reducible rfl
  simp only [Act.put, List.setIfInBounds_toArray, List.set_cons_zero, List.set_cons_succ]
  refine held_take (i := 2) (v := ?_) (some 12) rfl rfl (by kernel_rfl) (by kernel_rfl) (by kernel_rfl) (fun _ _ _ h => h) (Or.inl ⟨by rfl, ?_⟩) hHeld ?_
  rotate_left
  · intro w hSw
    try dsimp only at hSw
    go_simp
    try with_reducible rfl
  simp only [Act.put, List.setIfInBounds_toArray, List.set_cons_zero, List.set_cons_succ]
  refine wpAnyH_ready (rs := [1]) (by kernel_rfl) (by simp) ?_
  refine AllReadyH.cons rfl (fun K hK => ?_) AllReadyH.nil
  go_simp
  go_at_call 43
  ((with_reducible refine (sort_any _ (.num x) a _ (rda_below HT.out hHeld.2.2)).mono ?_); rintro e w2 ⟨rfl, hb2⟩; dsimp only)
  replace hHeld := two_below hHeld hb2
  refine hK.out _ _ hHeld (fun _ => ?_)
  clear hK K
  refine wpAnyH_ready (rs := [3]) (by kernel_rfl) (by simp) ?_
  refine AllReadyH.cons rfl (fun K hK => ?_) AllReadyH.nil
  go_simp
  go_at_call 43
  ((with_reducible refine (sort_any _ (.num y) b _ (rda_below HU.out hHeld.2.2)).mono ?_); rintro e w2 ⟨rfl, hb2⟩; dsimp only)
  replace hHeld := two_below hHeld hb2
  refine hK.out _ _ hHeld (fun _ => ?_)
  clear hK K
  refine held_take (i := 4) (v := ?_) (some 14) rfl rfl (by kernel_rfl) (by kernel_rfl) (by kernel_rfl) (fun _ _ _ h => h) (Or.inl ⟨by rfl, ?_⟩) hHeld ?_
  rotate_left
  · intro w hSw
    try dsimp only at hSw
    go_simp
    try with_reducible rfl
  simp only [Act.put, List.setIfInBounds_toArray, List.set_cons_zero, List.set_cons_succ]
  refine held_take (i := 5) (v := ?_) (some 15) rfl rfl (by kernel_rfl) (by kernel_rfl) (by kernel_rfl) (fun _ _ _ h => h) (Or.inl ⟨by rfl, ?_⟩) hHeld ?_
  rotate_left
  · intro w hSw
    try dsimp only at hSw
    go_simp
    try with_reducible rfl
  simp only [Act.put, List.setIfInBounds_toArray, List.set_cons_zero, List.set_cons_succ]
  refine held_take (i := 6) (v := ?_) (some 16) rfl rfl (by kernel_rfl) (by kernel_rfl) (by kernel_rfl) (fun _ _ _ h => h) (Or.inl ⟨by rfl, ?_⟩) hHeld ?_
  rotate_left
  · intro w hSw
    try dsimp only at hSw
    go_simp
    try with_reducible rfl
  simp only [Act.put, List.setIfInBounds_toArray, List.set_cons_zero, List.set_cons_succ]
  refine held_take (i := 8) (v := ?_) (some 18) rfl rfl (by kernel_rfl) (by kernel_rfl) (by kernel_rfl) (fun _ _ _ h => h) (Or.inl ⟨by rfl, ?_⟩) hHeld ?_
  rotate_left
  · intro w hSw
    try dsimp only at hSw
    go_simp
    try with_reducible rfl
  simp only [Act.put, List.setIfInBounds_toArray, List.set_cons_zero, List.set_cons_succ]
  refine wpAnyH_ready (rs := [7]) (by kernel_rfl) (by simp) ?_
  refine AllReadyH.cons rfl (fun K hK => ?_) AllReadyH.nil
  go_simp
  go_at_call 117
  ((with_reducible refine (len_any _ (.num x) a _ (rda_below HT.out hHeld.2.2)).mono ?_); rintro e w2 ⟨rfl, hb2⟩; dsimp only)
  replace hHeld := two_below hHeld hb2
  refine hK.out _ _ hHeld (fun _ => ?_)
  clear hK K
  refine wpAnyH_ready (rs := [9]) (by kernel_rfl) (by simp) ?_
  refine AllReadyH.cons rfl (fun K hK => ?_) AllReadyH.nil
  go_simp
  go_at_call 117
  ((with_reducible refine (len_any _ (.num y) b _ (rda_below HU.out hHeld.2.2)).mono ?_); rintro e w2 ⟨rfl, hb2⟩; dsimp only)
  replace hHeld := two_below hHeld hb2
  refine hK.out _ _ hHeld (fun _ => ?_)
  clear hK K
  refine held_take (i := 10) (v := ?_) (some 20) rfl rfl (by kernel_rfl) (by kernel_rfl) (by kernel_rfl) (fun _ _ _ h => h) (Or.inl ⟨by rfl, ?_⟩) hHeld ?_
  rotate_left
  · intro w hSw
    try dsimp only at hSw
    go_simp
    try with_reducible rfl
  simp only [Act.put, List.setIfInBounds_toArray, List.set_cons_zero, List.set_cons_succ]
  refine held_take (i := 11) (v := ?_) (some 21) rfl rfl (by kernel_rfl) (by kernel_rfl) (by kernel_rfl) (fun _ _ _ h => h) (Or.inl ⟨by rfl, ?_⟩) hHeld ?_
  rotate_left
  · intro w hSw
    try dsimp only at hSw
    go_simp
    try with_reducible rfl
  simp only [Act.put, List.setIfInBounds_toArray, List.set_cons_zero, List.set_cons_succ]
  refine held_take (i := 12) (v := ?_) (some 22) rfl rfl (by kernel_rfl) (by kernel_rfl) (by kernel_rfl) (fun _ _ _ h => h) (Or.inl ⟨by rfl, ?_⟩) hHeld ?_
  rotate_left
  · intro w hSw
    try dsimp only at hSw
    go_simp
    try with_reducible rfl
  simp only [Act.put, List.setIfInBounds_toArray, List.set_cons_zero, List.set_cons_succ]
  refine held_take (i := 13) (v := ?_) (some 23) rfl rfl (by kernel_rfl) (by kernel_rfl) (by kernel_rfl) (fun _ _ _ h => h) (Or.inl ⟨by rfl, ?_⟩) hHeld ?_
  rotate_left
  · intro w hSw
    try dsimp only at hSw
    go_simp
    try with_reducible rfl
  simp only [Act.put, List.setIfInBounds_toArray, List.set_cons_zero, List.set_cons_succ]
  refine held_take (i := 15) (v := ?_) (some 25) rfl rfl (by kernel_rfl) (by kernel_rfl) (by kernel_rfl) (fun _ _ _ h => h) (Or.inl ⟨by rfl, ?_⟩) hHeld ?_
  rotate_left
  · intro w hSw
    try dsimp only at hSw
    go_simp
    try with_reducible rfl
  simp only [Act.put, List.setIfInBounds_toArray, List.set_cons_zero, List.set_cons_succ]
  refine wpAnyH_ready (rs := [14]) (by kernel_rfl) (by simp) ?_
  refine AllReadyH.cons rfl (fun K hK => ?_) AllReadyH.nil
  go_simp
  go_at_call 101
  ((with_reducible refine (keysr_any _ (.num x) a _ (rda_below HT.out hHeld.2.2)).mono ?_); rintro e w2 ⟨⟨A1, q1, rfl, hkA1⟩, hb2⟩; dsimp only)
  replace hkA1 := hkA1.below hb2
  replace hHeld := two_below hHeld hb2
  refine hK.out _ _ hHeld (fun _ => ?_)
  clear hK K
  refine wpAnyH_ready (rs := [16]) (by kernel_rfl) (by simp) ?_
  refine AllReadyH.cons rfl (fun K hK => ?_) AllReadyH.nil
  go_simp
  go_at_call 101
  ((with_reducible refine (keysr_any _ (.num y) b _ (rda_below HU.out hHeld.2.2)).mono ?_); rintro e w2 ⟨⟨A2, q2, rfl, hkA2⟩, hb2⟩; dsimp only)
  replace hkA1 := hkA1.below hb2
  replace hkA2 := hkA2.below hb2
  replace hHeld := two_below hHeld hb2
  refine hK.out _ _ hHeld (fun _ => ?_)
  clear hK K
  refine wpAnyH_ready (rs := [17]) (by kernel_rfl) (by simp) ?_
  refine AllReadyH.cons rfl (fun K hK => ?_) AllReadyH.nil
  go_simp
  go_at_call 118
  ((with_reducible refine (keys_equal (Tr.kn (.num x)) (Tr.kn (.num y)) _ _ _ hkA1 hkA2 HKL.out HKN.out).mono ?_); rintro e w3 ⟨rfl, hb3⟩; dsimp only)
  replace hHeld := two_below hHeld hb3
  refine hK.out _ _ hHeld (fun _ => ?_)
  clear hK K
  refine held_take (i := 18) (v := ?_) (some 28) rfl rfl (by kernel_rfl) (by kernel_rfl) (by kernel_rfl) (fun _ _ _ h => h) (Or.inl ⟨by rfl, ?_⟩) hHeld ?_
  rotate_left
  · intro w hSw
    try dsimp only at hSw
    go_simp
    try with_reducible rfl
  simp only [Act.put, List.setIfInBounds_toArray, List.set_cons_zero, List.set_cons_succ]
  refine held_take (i := 19) (v := ?_) (some 29) rfl rfl (by kernel_rfl) (by kernel_rfl) (by kernel_rfl) (fun _ _ _ h => h) (Or.inl ⟨by rfl, ?_⟩) hHeld ?_
  rotate_left
  · intro w hSw
    try dsimp only at hSw
    go_simp
    try with_reducible rfl
  simp only [Act.put, List.setIfInBounds_toArray, List.set_cons_zero, List.set_cons_succ]
  refine wpAnyH_done (by kernel_rfl) ?_ _
  have hbw := hB0.trans (hHeld.2.2.mono hB0.size)
  obtain ⟨c2', c3', _⟩ := hHeld
  clear c2 c3 HT HU ht hu
  have e1 := E1.out
  have e2 := E2.out
  clear E1 E2
  have hbq := bq_num x y
  subst e1
  subst e2
  go_wp2
  go_ret
  exact ⟨by simp [eqT], hbw⟩
set_option maxRecDepth 100000 in
set_option maxHeartbeats 8000000 in
theorem same_text (x y : Tx) (a b : Value) (w : World) (ht : RdA w (.text x) a) (hu : RdA w (.text y) b) :
    Calls Tryz.prog 68 #[.agg #[a], .agg #[b]] w fun e w' => e = .returned (.bool (eqT (.text x) (.text y))) ∧ Below w.heap.size w w' := by
  have hsn : (((Tr.srt (.text x) : Nat) : Int) != ((Tr.srt (.text y) : Nat) : Int)) = false := by simp [Tr.srt]
  have hln : (((Tr.kids (.text x)).length : Int) != ((Tr.kids (.text y)).length : Int)) = false := by simp [Tr.kids]
  have HKL : Hid ((Tr.kn (.text x)).length = (Tr.kn (.text y)).length) := Lib.hid rfl
  have HKN : Hid ((Tr.kn (.text x)).length ≤ 1048576) := Lib.hid (by simp [Tr.kn])
  have hkd : decide (Tr.kn (.text x) = Tr.kn (.text y)) = true := by simp [Tr.kn]
  have h4 := ta_3_4 ⟨x.toArray⟩
  have h5 := ta_3_5 ⟨x.toArray⟩
  obtain ⟨c2, c3, hB0⟩ := two_boxes w 140 a b
  have HT1 := rda_below ht hB0
  have HU1 := rda_below hu hB0
  obtain ⟨W0, hW0⟩ : ∃ W0, W0 = (w.alloc (.cells #[a] 140)).alloc (.cells #[b] 140) := ⟨_, rfl⟩
  rw [← hW0] at c2 c3 hB0 HT1 HU1
  have HT := Lib.hid HT1
  have HU := Lib.hid HU1
  clear HT1 HU1
  have hd0 : Below W0.heap.size W0 W0.drew := drewN_below W0 1
  have e1 := ht
  have e2 := hu
  unfold RdA RdT at e1 e2
  have E1 := Lib.hid e1
  have E2 := Lib.hid e2
  clear e1 e2
  go_enter Tryz.func68, Tryz.ntmps68
  go_upto_region 1 with fail
  rw [← hW0]
  clear hW0
  refine wp_region_held_drew (S := (fun w' => w'.cell? ⟨w.heap.size, 0, none⟩ = some a ∧ w'.cell? ⟨w.heap.size + 1, 0, none⟩ = some b ∧ Below W0.heap.size W0 w')) (by kernel_rfl) ⟨c2, c3, hd0⟩ (fun hHeld => ?_)
  refine held_take (i := 0) (v := ?_) (some 10) rfl rfl (by kernel_rfl) (by kernel_rfl) (by kernel_rfl) (fun _ _ _ h => h) (Or.inl ⟨by rfl, ?_⟩) hHeld ?_
  rotate_left
  · intro w hSw
    try dsimp only at hSw
    go_simp
    try with_reducible rfl
  simp only [Act.put, List.setIfInBounds_toArray, List.set_cons_zero, List.set_cons_succ]
  refine held_take (i := 2) (v := ?_) (some 12) rfl rfl (by kernel_rfl) (by kernel_rfl) (by kernel_rfl) (fun _ _ _ h => h) (Or.inl ⟨by rfl, ?_⟩) hHeld ?_
  rotate_left
  · intro w hSw
    try dsimp only at hSw
    go_simp
    try with_reducible rfl
  simp only [Act.put, List.setIfInBounds_toArray, List.set_cons_zero, List.set_cons_succ]
  refine wpAnyH_ready (rs := [1]) (by kernel_rfl) (by simp) ?_
  refine AllReadyH.cons rfl (fun K hK => ?_) AllReadyH.nil
  go_simp
  go_at_call 43
  ((with_reducible refine (sort_any _ (.text x) a _ (rda_below HT.out hHeld.2.2)).mono ?_); rintro e w2 ⟨rfl, hb2⟩; dsimp only)
  replace hHeld := two_below hHeld hb2
  refine hK.out _ _ hHeld (fun _ => ?_)
  clear hK K
  refine wpAnyH_ready (rs := [3]) (by kernel_rfl) (by simp) ?_
  refine AllReadyH.cons rfl (fun K hK => ?_) AllReadyH.nil
  go_simp
  go_at_call 43
  ((with_reducible refine (sort_any _ (.text y) b _ (rda_below HU.out hHeld.2.2)).mono ?_); rintro e w2 ⟨rfl, hb2⟩; dsimp only)
  replace hHeld := two_below hHeld hb2
  refine hK.out _ _ hHeld (fun _ => ?_)
  clear hK K
  refine held_take (i := 4) (v := ?_) (some 14) rfl rfl (by kernel_rfl) (by kernel_rfl) (by kernel_rfl) (fun _ _ _ h => h) (Or.inl ⟨by rfl, ?_⟩) hHeld ?_
  rotate_left
  · intro w hSw
    try dsimp only at hSw
    go_simp
    try with_reducible rfl
  simp only [Act.put, List.setIfInBounds_toArray, List.set_cons_zero, List.set_cons_succ]
  refine held_take (i := 5) (v := ?_) (some 15) rfl rfl (by kernel_rfl) (by kernel_rfl) (by kernel_rfl) (fun _ _ _ h => h) (Or.inl ⟨by rfl, ?_⟩) hHeld ?_
  rotate_left
  · intro w hSw
    try dsimp only at hSw
    go_simp
    try with_reducible rfl
  simp only [Act.put, List.setIfInBounds_toArray, List.set_cons_zero, List.set_cons_succ]
  refine held_take (i := 6) (v := ?_) (some 16) rfl rfl (by kernel_rfl) (by kernel_rfl) (by kernel_rfl) (fun _ _ _ h => h) (Or.inl ⟨by rfl, ?_⟩) hHeld ?_
  rotate_left
  · intro w hSw
    try dsimp only at hSw
    go_simp
    try with_reducible rfl
  simp only [Act.put, List.setIfInBounds_toArray, List.set_cons_zero, List.set_cons_succ]
  refine held_take (i := 8) (v := ?_) (some 18) rfl rfl (by kernel_rfl) (by kernel_rfl) (by kernel_rfl) (fun _ _ _ h => h) (Or.inl ⟨by rfl, ?_⟩) hHeld ?_
  rotate_left
  · intro w hSw
    try dsimp only at hSw
    go_simp
    try with_reducible rfl
  simp only [Act.put, List.setIfInBounds_toArray, List.set_cons_zero, List.set_cons_succ]
  refine wpAnyH_ready (rs := [7]) (by kernel_rfl) (by simp) ?_
  refine AllReadyH.cons rfl (fun K hK => ?_) AllReadyH.nil
  go_simp
  go_at_call 117
  ((with_reducible refine (len_any _ (.text x) a _ (rda_below HT.out hHeld.2.2)).mono ?_); rintro e w2 ⟨rfl, hb2⟩; dsimp only)
  replace hHeld := two_below hHeld hb2
  refine hK.out _ _ hHeld (fun _ => ?_)
  clear hK K
  refine wpAnyH_ready (rs := [9]) (by kernel_rfl) (by simp) ?_
  refine AllReadyH.cons rfl (fun K hK => ?_) AllReadyH.nil
  go_simp
  go_at_call 117
  ((with_reducible refine (len_any _ (.text y) b _ (rda_below HU.out hHeld.2.2)).mono ?_); rintro e w2 ⟨rfl, hb2⟩; dsimp only)
  replace hHeld := two_below hHeld hb2
  refine hK.out _ _ hHeld (fun _ => ?_)
  clear hK K
  refine held_take (i := 10) (v := ?_) (some 20) rfl rfl (by kernel_rfl) (by kernel_rfl) (by kernel_rfl) (fun _ _ _ h => h) (Or.inl ⟨by rfl, ?_⟩) hHeld ?_
  rotate_left
  · intro w hSw
    try dsimp only at hSw
    go_simp
    try with_reducible rfl
  simp only [Act.put, List.setIfInBounds_toArray, List.set_cons_zero, List.set_cons_succ]
  refine held_take (i := 11) (v := ?_) (some 21) rfl rfl (by kernel_rfl) (by kernel_rfl) (by kernel_rfl) (fun _ _ _ h => h) (Or.inl ⟨by rfl, ?_⟩) hHeld ?_
  rotate_left
  · intro w hSw
    try dsimp only at hSw
    go_simp
    try with_reducible rfl
  simp only [Act.put, List.setIfInBounds_toArray, List.set_cons_zero, List.set_cons_succ]
  refine held_take (i := 12) (v := ?_) (some 22) rfl rfl (by kernel_rfl) (by kernel_rfl) (by kernel_rfl) (fun _ _ _ h => h) (Or.inl ⟨by rfl, ?_⟩) hHeld ?_
  rotate_left
  · intro w hSw
    try dsimp only at hSw
    go_simp
    try with_reducible rfl
  simp only [Act.put, List.setIfInBounds_toArray, List.set_cons_zero, List.set_cons_succ]
  refine held_take (i := 13) (v := ?_) (some 23) rfl rfl (by kernel_rfl) (by kernel_rfl) (by kernel_rfl) (fun _ _ _ h => h) (Or.inl ⟨by rfl, ?_⟩) hHeld ?_
  rotate_left
  · intro w hSw
    try dsimp only at hSw
    go_simp
    try with_reducible rfl
  simp only [Act.put, List.setIfInBounds_toArray, List.set_cons_zero, List.set_cons_succ]
  refine held_take (i := 15) (v := ?_) (some 25) rfl rfl (by kernel_rfl) (by kernel_rfl) (by kernel_rfl) (fun _ _ _ h => h) (Or.inl ⟨by rfl, ?_⟩) hHeld ?_
  rotate_left
  · intro w hSw
    try dsimp only at hSw
    go_simp
    try with_reducible rfl
  simp only [Act.put, List.setIfInBounds_toArray, List.set_cons_zero, List.set_cons_succ]
  refine wpAnyH_ready (rs := [14]) (by kernel_rfl) (by simp) ?_
  refine AllReadyH.cons rfl (fun K hK => ?_) AllReadyH.nil
  go_simp
  go_at_call 101
  ((with_reducible refine (keysr_any _ (.text x) a _ (rda_below HT.out hHeld.2.2)).mono ?_); rintro e w2 ⟨⟨A1, q1, rfl, hkA1⟩, hb2⟩; dsimp only)
  replace hkA1 := hkA1.below hb2
  replace hHeld := two_below hHeld hb2
  refine hK.out _ _ hHeld (fun _ => ?_)
  clear hK K
  refine wpAnyH_ready (rs := [16]) (by kernel_rfl) (by simp) ?_
  refine AllReadyH.cons rfl (fun K hK => ?_) AllReadyH.nil
  go_simp
  go_at_call 101
  ((with_reducible refine (keysr_any _ (.text y) b _ (rda_below HU.out hHeld.2.2)).mono ?_); rintro e w2 ⟨⟨A2, q2, rfl, hkA2⟩, hb2⟩; dsimp only)
  replace hkA1 := hkA1.below hb2
  replace hkA2 := hkA2.below hb2
  replace hHeld := two_below hHeld hb2
  refine hK.out _ _ hHeld (fun _ => ?_)
  clear hK K
  refine wpAnyH_ready (rs := [17]) (by kernel_rfl) (by simp) ?_
  refine AllReadyH.cons rfl (fun K hK => ?_) AllReadyH.nil
  go_simp
  go_at_call 118
  ((with_reducible refine (keys_equal (Tr.kn (.text x)) (Tr.kn (.text y)) _ _ _ hkA1 hkA2 HKL.out HKN.out).mono ?_); rintro e w3 ⟨rfl, hb3⟩; dsimp only)
  replace hHeld := two_below hHeld hb3
  refine hK.out _ _ hHeld (fun _ => ?_)
  clear hK K
  refine held_take (i := 18) (v := ?_) (some 28) rfl rfl (by kernel_rfl) (by kernel_rfl) (by kernel_rfl) (fun _ _ _ h => h) (Or.inl ⟨by rfl, ?_⟩) hHeld ?_
  rotate_left
  · intro w hSw
    try dsimp only at hSw
    go_simp
    try with_reducible rfl
  simp only [Act.put, List.setIfInBounds_toArray, List.set_cons_zero, List.set_cons_succ]
  refine held_take (i := 19) (v := ?_) (some 29) rfl rfl (by kernel_rfl) (by kernel_rfl) (by kernel_rfl) (fun _ _ _ h => h) (Or.inl ⟨by rfl, ?_⟩) hHeld ?_
  rotate_left
  · intro w hSw
    try dsimp only at hSw
    go_simp
    try with_reducible rfl
  simp only [Act.put, List.setIfInBounds_toArray, List.set_cons_zero, List.set_cons_succ]
  refine wpAnyH_done (by kernel_rfl) ?_ _
  have hbw := hB0.trans (hHeld.2.2.mono hB0.size)
  obtain ⟨c2', c3', _⟩ := hHeld
  clear c2 c3 HT HU ht hu
  have e1 := E1.out
  have e2 := E2.out
  clear E1 E2
  have hbq := bq_text x y
  rw [bytes_beq] at hbq
  subst e1
  subst e2
  go_wp2
  go_ret
  exact ⟨by simp [eqT], hbw⟩
end Nd
end Go.Proofs.YtbcckpnngonoeaaGreatDoor

