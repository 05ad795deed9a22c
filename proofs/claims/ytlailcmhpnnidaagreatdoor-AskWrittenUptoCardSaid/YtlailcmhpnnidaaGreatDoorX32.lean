/-
  Pieces of the walk of package pointer's All: the pointer of what is within.
-/
import Derived.Test.YtlailcmhpnnidaaGreatDoorX31
import Derived.Test.YtlailcmhpnnidaaGreatDoorX14
set_option linter.unusedVariables false
set_option linter.unusedSimpArgs false
set_option maxRecDepth 100000
set_option maxHeartbeats 16000000
namespace Go.Proofs.YtlailcmhpnnidaaGreatDoor
open Go.RowKit Go.Shelf Mem Rg Tok
namespace Nd
attribute [local go_sem] Oper.semAt_some
def paFst : Code → Code
 | .seq a _ => a
 | c => c
def paNxt : Code → Code
 | .seq _ b => b
 | c => c
def paBlk : Code → Code
 | .block _ b => b
 | c => c
def paThn : Code → Code
 | .cond _ a _ => a
 | c => c
def paRb : Code → Code
 | .rangeFunc _ _ _ b => b
 | c => c
noncomputable def wkBody : Code := paRb (paBlk (paNxt (paFst (paNxt (paNxt (paNxt (Tryz.f59.body.getD .skip)))))))
noncomputable def wkR7 : Code := paFst (paBlk wkBody)
noncomputable def wkR9 : Code := paThn (paNxt (paFst (paNxt (paBlk wkBody))))
theorem wk_r7 {n : Nat} {Q : Exit → Act → World → Prop} (l : Nat) (s : Tx) (j : Nat) (bp bi : Nat) (W : World) (hs : s.length ≤ 8388608) (hj : j ≤ 65536) (hT : Tab W) (cp : W.cell? ⟨bp, 0, none⟩ = some (.string ⟨s.toArray⟩)) (ci : W.cell? ⟨bi, 0, none⟩ = some (.int .i64 (j : Nat))) (dg : Tx) (hdg : Lib.itoa (j : Int) = dg) (z0 z1 z2 z3 z5 z6 z8 z9 z10 z11 z12 z13 z14 z15 z16 z17 z18 z19 z20 z21 z22 z23 z24 z25 z26 z27 z28 z29 z30 z31 z32 z33 z34 z35 z36 z37 z38 : Value)
  (hQ : ∀ w2, Below W.heap.size W w2 → Q .normal { tmps := (z0 :: z1 :: z2 :: z3 :: .pointer (some ⟨bp, 0, none⟩) :: z5 :: z6 :: .pointer (some ⟨bi, 0, none⟩) :: z8 :: z9 :: .string ⟨(s ++ 47 :: dg).toArray⟩ :: z11 :: z12 :: z13 :: z14 :: z15 :: z16 :: z17 :: z18 :: z19 :: .string ⟨s.toArray⟩ :: .string ⟨(s ++ [47]).toArray⟩ :: .int .i64 (j : Nat) :: .string ⟨dg.toArray⟩ :: .string ⟨(s ++ 47 :: dg).toArray⟩ :: z25 :: z26 :: z27 :: z28 :: z29 :: z30 :: z31 :: z32 :: z33 :: z34 :: z35 :: z36 :: z37 :: z38 :: []).toArray, defers := [] } w2) :
  wkR7.wpIn (Fence.wide.inRound l) n Tryz.prog Q { tmps := (z0 :: z1 :: z2 :: z3 :: .pointer (some ⟨bp, 0, none⟩) :: z5 :: z6 :: .pointer (some ⟨bi, 0, none⟩) :: z8 :: z9 :: z10 :: z11 :: z12 :: z13 :: z14 :: z15 :: z16 :: z17 :: z18 :: z19 :: z20 :: z21 :: z22 :: z23 :: z24 :: z25 :: z26 :: z27 :: z28 :: z29 :: z30 :: z31 :: z32 :: z33 :: z34 :: z35 :: z36 :: z37 :: z38 :: []).toArray, defers := [] } W := by
 have hdl : dg.length ≤ 6 := by rw [← hdg]; exact itoa_six j (by omega)
 have HIT : Hid (∀ W', Below W.heap.size W W' → Calls Tryz.prog 61 #[.int .i64 (j : Nat)] W' fun e w' => e = .returned (.string ⟨dg.toArray⟩) ∧ Below W'.heap.size W' w') := Lib.hid fun W' hb => by
  have := itoa_any (j : Int) (by omega) (by omega) W' (hT.next hb)
  rw [hdg] at this
  exact this
 have HB0 : Hid (Below W.heap.size W W.drew) := Lib.hid (drewN_below W 1)
 have cp0 := cp
 have ci0 := ci
 clear hT hdg
 conv => arg 4; whnf
 refine wpIn_region_any (by kernel_rfl) ?_
 try (change wpAnyIn _ _ _ _ _ _ _ _ _ (World.drew _))
 refine wpAnyIn_ready (rs := [0, 2]) (by kernel_rfl) (by simp) ?_
 refine AllReadyIn.cons rfl (fun KK hK => ?_) (AllReadyIn.cons rfl (fun KK hK => ?_) AllReadyIn.nil)
 ·go_simp
  refine hK _ _ ?_
  clear hK KK
  refine wpAnyIn_ready (rs := [1, 2]) (by kernel_rfl) (by simp) ?_
  refine AllReadyIn.cons rfl (fun KK hK => ?_) (AllReadyIn.cons rfl (fun KK hK => ?_) AllReadyIn.nil)
  ·go_simp
   rw [if_neg (by first | omega | (simp; omega))]
   go_simp
   refine hK _ _ ?_
   clear hK KK
   try rw [mk_append s [47]]
   refine wpAnyIn_ready (rs := [2]) (by kernel_rfl) (by simp) ?_
   refine AllReadyIn.cons rfl (fun KK hK => ?_) AllReadyIn.nil
   go_simp
   refine hK _ _ ?_
   clear hK KK
   refine wpAnyIn_ready (rs := [3]) (by kernel_rfl) (by simp) ?_
   refine AllReadyIn.cons rfl (fun KK hK => ?_) AllReadyIn.nil
   go_simp
   refine ⟨trivial, (fun h => by cases h), (CallsIn.inRound l (callsIn_wide.2 (HIT.out _ HB0.out))).mono ?_⟩
   rintro e w2 ⟨rfl, hbn⟩
   dsimp only
   refine hK _ _ ?_
   clear hK KK
   have hb2 : Below W.heap.size W w2 := (drewN_below W 1).trans (hbn.mono (by simp))
   replace cp := (hb2.cell (p := ⟨bp, 0, none⟩) (World.block_lt_of_cell? W _ cp0)).trans cp0
   replace ci := (hb2.cell (p := ⟨bi, 0, none⟩) (World.block_lt_of_cell? W _ ci0)).trans ci0
   refine wpAnyIn_ready (rs := [4]) (by kernel_rfl) (by simp) ?_
   refine AllReadyIn.cons rfl (fun KK hK => ?_) AllReadyIn.nil
   go_simp
   rw [if_neg (by first | omega | (simp; omega))]
   go_simp
   refine hK _ _ ?_
   clear hK KK
   try rw [mk_append (s ++ [47]) dg]
   refine wpAnyIn_ready (rs := [5]) (by kernel_rfl) (by simp) ?_
   refine AllReadyIn.cons rfl (fun KK hK => ?_) AllReadyIn.nil
   go_simp
   refine hK _ _ ?_
   clear hK KK
   refine wpAnyIn_done (by kernel_rfl) ?_ _
   exact hQ _ hb2
  ·go_simp
   refine hK _ _ ?_
   clear hK KK
   refine wpAnyIn_ready (rs := [1, 3]) (by kernel_rfl) (by simp) ?_
   refine AllReadyIn.cons rfl (fun KK hK => ?_) (AllReadyIn.cons rfl (fun KK hK => ?_) AllReadyIn.nil)
   ·go_simp
    rw [if_neg (by first | omega | (simp; omega))]
    go_simp
    refine hK _ _ ?_
    clear hK KK
    try rw [mk_append s [47]]
    refine wpAnyIn_ready (rs := [3]) (by kernel_rfl) (by simp) ?_
    refine AllReadyIn.cons rfl (fun KK hK => ?_) AllReadyIn.nil
    go_simp
    refine ⟨trivial, (fun h => by cases h), (CallsIn.inRound l (callsIn_wide.2 (HIT.out _ HB0.out))).mono ?_⟩
    rintro e w2 ⟨rfl, hbn⟩
    dsimp only
    refine hK _ _ ?_
    clear hK KK
    have hb2 : Below W.heap.size W w2 := (drewN_below W 1).trans (hbn.mono (by simp))
    replace cp := (hb2.cell (p := ⟨bp, 0, none⟩) (World.block_lt_of_cell? W _ cp0)).trans cp0
    replace ci := (hb2.cell (p := ⟨bi, 0, none⟩) (World.block_lt_of_cell? W _ ci0)).trans ci0
    refine wpAnyIn_ready (rs := [4]) (by kernel_rfl) (by simp) ?_
    refine AllReadyIn.cons rfl (fun KK hK => ?_) AllReadyIn.nil
    go_simp
    rw [if_neg (by first | omega | (simp; omega))]
    go_simp
    refine hK _ _ ?_
    clear hK KK
    try rw [mk_append (s ++ [47]) dg]
    refine wpAnyIn_ready (rs := [5]) (by kernel_rfl) (by simp) ?_
    refine AllReadyIn.cons rfl (fun KK hK => ?_) AllReadyIn.nil
    go_simp
    refine hK _ _ ?_
    clear hK KK
    refine wpAnyIn_done (by kernel_rfl) ?_ _
    exact hQ _ hb2
   ·go_simp
    refine ⟨trivial, (fun h => by cases h), (CallsIn.inRound l (callsIn_wide.2 (HIT.out _ HB0.out))).mono ?_⟩
    rintro e w2 ⟨rfl, hbn⟩
    dsimp only
    refine hK _ _ ?_
    clear hK KK
    have hb2 : Below W.heap.size W w2 := (drewN_below W 1).trans (hbn.mono (by simp))
    replace cp := (hb2.cell (p := ⟨bp, 0, none⟩) (World.block_lt_of_cell? W _ cp0)).trans cp0
    replace ci := (hb2.cell (p := ⟨bi, 0, none⟩) (World.block_lt_of_cell? W _ ci0)).trans ci0
    refine wpAnyIn_ready (rs := [1]) (by kernel_rfl) (by simp) ?_
    refine AllReadyIn.cons rfl (fun KK hK => ?_) AllReadyIn.nil
    go_simp
    rw [if_neg (by first | omega | (simp; omega))]
    go_simp
    refine hK _ _ ?_
    clear hK KK
    try rw [mk_append s [47]]
    refine wpAnyIn_ready (rs := [4]) (by kernel_rfl) (by simp) ?_
    refine AllReadyIn.cons rfl (fun KK hK => ?_) AllReadyIn.nil
    go_simp
    rw [if_neg (by first | omega | (simp; omega))]
    go_simp
    refine hK _ _ ?_
    clear hK KK
    try rw [mk_append (s ++ [47]) dg]
    refine wpAnyIn_ready (rs := [5]) (by kernel_rfl) (by simp) ?_
    refine AllReadyIn.cons rfl (fun KK hK => ?_) AllReadyIn.nil
    go_simp
    refine hK _ _ ?_
    clear hK KK
    refine wpAnyIn_done (by kernel_rfl) ?_ _
    exact hQ _ hb2
 ·go_simp
  refine hK _ _ ?_
  clear hK KK
  refine wpAnyIn_ready (rs := [0, 3]) (by kernel_rfl) (by simp) ?_
  refine AllReadyIn.cons rfl (fun KK hK => ?_) (AllReadyIn.cons rfl (fun KK hK => ?_) AllReadyIn.nil)
  ·go_simp
   refine hK _ _ ?_
   clear hK KK
   refine wpAnyIn_ready (rs := [1, 3]) (by kernel_rfl) (by simp) ?_
   refine AllReadyIn.cons rfl (fun KK hK => ?_) (AllReadyIn.cons rfl (fun KK hK => ?_) AllReadyIn.nil)
   ·go_simp
    rw [if_neg (by first | omega | (simp; omega))]
    go_simp
    refine hK _ _ ?_
    clear hK KK
    try rw [mk_append s [47]]
    refine wpAnyIn_ready (rs := [3]) (by kernel_rfl) (by simp) ?_
    refine AllReadyIn.cons rfl (fun KK hK => ?_) AllReadyIn.nil
    go_simp
    refine ⟨trivial, (fun h => by cases h), (CallsIn.inRound l (callsIn_wide.2 (HIT.out _ HB0.out))).mono ?_⟩
    rintro e w2 ⟨rfl, hbn⟩
    dsimp only
    refine hK _ _ ?_
    clear hK KK
    have hb2 : Below W.heap.size W w2 := (drewN_below W 1).trans (hbn.mono (by simp))
    replace cp := (hb2.cell (p := ⟨bp, 0, none⟩) (World.block_lt_of_cell? W _ cp0)).trans cp0
    replace ci := (hb2.cell (p := ⟨bi, 0, none⟩) (World.block_lt_of_cell? W _ ci0)).trans ci0
    refine wpAnyIn_ready (rs := [4]) (by kernel_rfl) (by simp) ?_
    refine AllReadyIn.cons rfl (fun KK hK => ?_) AllReadyIn.nil
    go_simp
    rw [if_neg (by first | omega | (simp; omega))]
    go_simp
    refine hK _ _ ?_
    clear hK KK
    try rw [mk_append (s ++ [47]) dg]
    refine wpAnyIn_ready (rs := [5]) (by kernel_rfl) (by simp) ?_
    refine AllReadyIn.cons rfl (fun KK hK => ?_) AllReadyIn.nil
    go_simp
    refine hK _ _ ?_
    clear hK KK
    refine wpAnyIn_done (by kernel_rfl) ?_ _
    exact hQ _ hb2
   ·go_simp
    refine ⟨trivial, (fun h => by cases h), (CallsIn.inRound l (callsIn_wide.2 (HIT.out _ HB0.out))).mono ?_⟩
    rintro e w2 ⟨rfl, hbn⟩
    dsimp only
    refine hK _ _ ?_
    clear hK KK
    have hb2 : Below W.heap.size W w2 := (drewN_below W 1).trans (hbn.mono (by simp))
    replace cp := (hb2.cell (p := ⟨bp, 0, none⟩) (World.block_lt_of_cell? W _ cp0)).trans cp0
    replace ci := (hb2.cell (p := ⟨bi, 0, none⟩) (World.block_lt_of_cell? W _ ci0)).trans ci0
    refine wpAnyIn_ready (rs := [1]) (by kernel_rfl) (by simp) ?_
    refine AllReadyIn.cons rfl (fun KK hK => ?_) AllReadyIn.nil
    go_simp
    rw [if_neg (by first | omega | (simp; omega))]
    go_simp
    refine hK _ _ ?_
    clear hK KK
    try rw [mk_append s [47]]
    refine wpAnyIn_ready (rs := [4]) (by kernel_rfl) (by simp) ?_
    refine AllReadyIn.cons rfl (fun KK hK => ?_) AllReadyIn.nil
    go_simp
    rw [if_neg (by first | omega | (simp; omega))]
    go_simp
    refine hK _ _ ?_
    clear hK KK
    try rw [mk_append (s ++ [47]) dg]
    refine wpAnyIn_ready (rs := [5]) (by kernel_rfl) (by simp) ?_
    refine AllReadyIn.cons rfl (fun KK hK => ?_) AllReadyIn.nil
    go_simp
    refine hK _ _ ?_
    clear hK KK
    refine wpAnyIn_done (by kernel_rfl) ?_ _
    exact hQ _ hb2
  ·go_simp
   refine ⟨trivial, (fun h => by cases h), (CallsIn.inRound l (callsIn_wide.2 (HIT.out _ HB0.out))).mono ?_⟩
   rintro e w2 ⟨rfl, hbn⟩
   dsimp only
   refine hK _ _ ?_
   clear hK KK
   have hb2 : Below W.heap.size W w2 := (drewN_below W 1).trans (hbn.mono (by simp))
   replace cp := (hb2.cell (p := ⟨bp, 0, none⟩) (World.block_lt_of_cell? W _ cp0)).trans cp0
   replace ci := (hb2.cell (p := ⟨bi, 0, none⟩) (World.block_lt_of_cell? W _ ci0)).trans ci0
   refine wpAnyIn_ready (rs := [0]) (by kernel_rfl) (by simp) ?_
   refine AllReadyIn.cons rfl (fun KK hK => ?_) AllReadyIn.nil
   go_simp
   refine hK _ _ ?_
   clear hK KK
   refine wpAnyIn_ready (rs := [1]) (by kernel_rfl) (by simp) ?_
   refine AllReadyIn.cons rfl (fun KK hK => ?_) AllReadyIn.nil
   go_simp
   rw [if_neg (by first | omega | (simp; omega))]
   go_simp
   refine hK _ _ ?_
   clear hK KK
   try rw [mk_append s [47]]
   refine wpAnyIn_ready (rs := [4]) (by kernel_rfl) (by simp) ?_
   refine AllReadyIn.cons rfl (fun KK hK => ?_) AllReadyIn.nil
   go_simp
   rw [if_neg (by first | omega | (simp; omega))]
   go_simp
   refine hK _ _ ?_
   clear hK KK
   try rw [mk_append (s ++ [47]) dg]
   refine wpAnyIn_ready (rs := [5]) (by kernel_rfl) (by simp) ?_
   refine AllReadyIn.cons rfl (fun KK hK => ?_) AllReadyIn.nil
   go_simp
   refine hK _ _ ?_
   clear hK KK
   refine wpAnyIn_done (by kernel_rfl) ?_ _
   exact hQ _ hb2
theorem wk_r9 {n : Nat} {Q : Exit → Act → World → Prop} (l : Nat) (s k : Tx) (bp : Nat) (W : World) (hs : s.length ≤ 8388608) (hk : k.length ≤ 2097152) (hG : Glob W) (cp : W.cell? ⟨bp, 0, none⟩ = some (.string ⟨s.toArray⟩)) (z0 z1 z2 z3 z5 z6 z7 z9 z10 z11 z12 z13 z14 z15 z16 z17 z18 z19 z20 z21 z22 z23 z24 z25 z26 z27 z28 z29 z30 z31 z32 z33 z34 z35 z36 z37 z38 : Value)
  (hQ : ∀ w2, Below W.heap.size W w2 → Q .normal { tmps := (z0 :: z1 :: z2 :: z3 :: .pointer (some ⟨bp, 0, none⟩) :: z5 :: z6 :: z7 :: .string ⟨k.toArray⟩ :: z9 :: .string ⟨(s ++ piece k).toArray⟩ :: z11 :: z12 :: z13 :: z14 :: z15 :: z16 :: z17 :: z18 :: z19 :: z20 :: z21 :: z22 :: z23 :: z24 :: z25 :: z26 :: z27 :: .string ⟨s.toArray⟩ :: .string ⟨k.toArray⟩ :: .string ⟨(piece k).toArray⟩ :: .string ⟨(s ++ piece k).toArray⟩ :: z32 :: z33 :: z34 :: z35 :: z36 :: z37 :: z38 :: []).toArray, defers := [] } w2) :
  wkR9.wpIn (Fence.wide.inRound l) n Tryz.prog Q { tmps := (z0 :: z1 :: z2 :: z3 :: .pointer (some ⟨bp, 0, none⟩) :: z5 :: z6 :: z7 :: .string ⟨k.toArray⟩ :: z9 :: z10 :: z11 :: z12 :: z13 :: z14 :: z15 :: z16 :: z17 :: z18 :: z19 :: z20 :: z21 :: z22 :: z23 :: z24 :: z25 :: z26 :: z27 :: z28 :: z29 :: z30 :: z31 :: z32 :: z33 :: z34 :: z35 :: z36 :: z37 :: z38 :: []).toArray, defers := [] } W := by
 have hpl : (piece k).length ≤ 4194305 := by have := piece_le k; omega
 have HIT : Hid (∀ W', Below W.heap.size W W' → Calls Tryz.prog 62 #[.string ⟨k.toArray⟩] W' fun e w' => e = .returned (.string ⟨(piece k).toArray⟩) ∧ Below W'.heap.size W' w') := Lib.hid fun W' hb => quoted_any k (by omega) W' (hG.next hb)
 have HB0 : Hid (Below W.heap.size W W.drew) := Lib.hid (drewN_below W 1)
 have cp0 := cp
 clear hG
 conv => arg 4; whnf
 refine wpIn_region_any (by kernel_rfl) ?_
 try (change wpAnyIn _ _ _ _ _ _ _ _ _ (World.drew _))
 refine wpAnyIn_ready (rs := [0, 1]) (by kernel_rfl) (by simp) ?_
 refine AllReadyIn.cons rfl (fun KK hK => ?_) (AllReadyIn.cons rfl (fun KK hK => ?_) AllReadyIn.nil)
 ·go_simp
  refine hK _ _ ?_
  clear hK KK
  refine wpAnyIn_ready (rs := [1]) (by kernel_rfl) (by simp) ?_
  refine AllReadyIn.cons rfl (fun KK hK => ?_) AllReadyIn.nil
  go_simp
  refine hK _ _ ?_
  clear hK KK
  refine wpAnyIn_ready (rs := [2]) (by kernel_rfl) (by simp) ?_
  refine AllReadyIn.cons rfl (fun KK hK => ?_) AllReadyIn.nil
  go_simp
  refine ⟨trivial, (fun h => by cases h), (CallsIn.inRound l (callsIn_wide.2 (HIT.out _ HB0.out))).mono ?_⟩
  rintro e w2 ⟨rfl, hbn⟩
  dsimp only
  refine hK _ _ ?_
  clear hK KK
  have hb2 : Below W.heap.size W w2 := (drewN_below W 1).trans (hbn.mono (by simp))
  replace cp := (hb2.cell (p := ⟨bp, 0, none⟩) (World.block_lt_of_cell? W _ cp0)).trans cp0
  refine wpAnyIn_ready (rs := [3]) (by kernel_rfl) (by simp) ?_
  refine AllReadyIn.cons rfl (fun KK hK => ?_) AllReadyIn.nil
  go_simp
  rw [if_neg (by first | omega | (simp; omega))]
  go_simp
  refine hK _ _ ?_
  clear hK KK
  try rw [mk_append s (piece k)]
  refine wpAnyIn_ready (rs := [4]) (by kernel_rfl) (by simp) ?_
  refine AllReadyIn.cons rfl (fun KK hK => ?_) AllReadyIn.nil
  go_simp
  refine hK _ _ ?_
  clear hK KK
  refine wpAnyIn_done (by kernel_rfl) ?_ _
  exact hQ _ hb2
 ·go_simp
  refine hK _ _ ?_
  clear hK KK
  refine wpAnyIn_ready (rs := [0, 2]) (by kernel_rfl) (by simp) ?_
  refine AllReadyIn.cons rfl (fun KK hK => ?_) (AllReadyIn.cons rfl (fun KK hK => ?_) AllReadyIn.nil)
  ·go_simp
   refine hK _ _ ?_
   clear hK KK
   refine wpAnyIn_ready (rs := [2]) (by kernel_rfl) (by simp) ?_
   refine AllReadyIn.cons rfl (fun KK hK => ?_) AllReadyIn.nil
   go_simp
   refine ⟨trivial, (fun h => by cases h), (CallsIn.inRound l (callsIn_wide.2 (HIT.out _ HB0.out))).mono ?_⟩
   rintro e w2 ⟨rfl, hbn⟩
   dsimp only
   refine hK _ _ ?_
   clear hK KK
   have hb2 : Below W.heap.size W w2 := (drewN_below W 1).trans (hbn.mono (by simp))
   replace cp := (hb2.cell (p := ⟨bp, 0, none⟩) (World.block_lt_of_cell? W _ cp0)).trans cp0
   refine wpAnyIn_ready (rs := [3]) (by kernel_rfl) (by simp) ?_
   refine AllReadyIn.cons rfl (fun KK hK => ?_) AllReadyIn.nil
   go_simp
   rw [if_neg (by first | omega | (simp; omega))]
   go_simp
   refine hK _ _ ?_
   clear hK KK
   try rw [mk_append s (piece k)]
   refine wpAnyIn_ready (rs := [4]) (by kernel_rfl) (by simp) ?_
   refine AllReadyIn.cons rfl (fun KK hK => ?_) AllReadyIn.nil
   go_simp
   refine hK _ _ ?_
   clear hK KK
   refine wpAnyIn_done (by kernel_rfl) ?_ _
   exact hQ _ hb2
  ·go_simp
   refine ⟨trivial, (fun h => by cases h), (CallsIn.inRound l (callsIn_wide.2 (HIT.out _ HB0.out))).mono ?_⟩
   rintro e w2 ⟨rfl, hbn⟩
   dsimp only
   refine hK _ _ ?_
   clear hK KK
   have hb2 : Below W.heap.size W w2 := (drewN_below W 1).trans (hbn.mono (by simp))
   replace cp := (hb2.cell (p := ⟨bp, 0, none⟩) (World.block_lt_of_cell? W _ cp0)).trans cp0
   refine wpAnyIn_ready (rs := [0]) (by kernel_rfl) (by simp) ?_
   refine AllReadyIn.cons rfl (fun KK hK => ?_) AllReadyIn.nil
   go_simp
   refine hK _ _ ?_
   clear hK KK
   refine wpAnyIn_ready (rs := [3]) (by kernel_rfl) (by simp) ?_
   refine AllReadyIn.cons rfl (fun KK hK => ?_) AllReadyIn.nil
   go_simp
   rw [if_neg (by first | omega | (simp; omega))]
   go_simp
   refine hK _ _ ?_
   clear hK KK
   try rw [mk_append s (piece k)]
   refine wpAnyIn_ready (rs := [4]) (by kernel_rfl) (by simp) ?_
   refine AllReadyIn.cons rfl (fun KK hK => ?_) AllReadyIn.nil
   go_simp
   refine hK _ _ ?_
   clear hK KK
   refine wpAnyIn_done (by kernel_rfl) ?_ _
   exact hQ _ hb2
end Nd
end Go.Proofs.YtlailcmhpnnidaaGreatDoor
