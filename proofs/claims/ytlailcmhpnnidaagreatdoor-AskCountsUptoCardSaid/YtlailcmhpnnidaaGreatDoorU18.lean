/-
  Plain: all values within a tree, with their pointers.
  Pieces of the walk of package pointer's All: the pointer of what is within.
-/
import Derived.Test.YtlailcmhpnnidaaGreatDoorU17
import Derived.Test.YtlailcmhpnnidaaGreatDoorU15
import Derived.Test.YtlailcmhpnnidaaGreatDoorU16
import Derived.Test.YtlailcmhpnnidaaGreatDoorU14
set_option linter.unusedVariables false
set_option linter.unusedSimpArgs false
set_option maxRecDepth 100000
set_option maxHeartbeats 16000000
namespace Go.Proofs.YtlailcmhpnnidaaGreatDoor
open Go Tok
namespace Nd
def idxToks (n : Nat) : List Tx := (List.range n).map fun i : Nat => Lib.itoa (i : Int)
def kidToks : Tr → List Tx
 | .obj ks _ => ks
 | t => idxToks t.kids.length
mutual
def allT : Tx → Tr → List (Tx × Tr)
 | s, .list l => (s, .list l) :: allK s (idxToks l.length) l
 | s, .obj ks l => (s, .obj ks l) :: allK s ks l
 | s, .null => [(s, .null)]
 | s, .flag b => [(s, .flag b)]
 | s, .num x => [(s, .num x)]
 | s, .text t => [(s, .text t)]
def allK : Tx → List Tx → List Tr → List (Tx × Tr)
 | _, _, [] => []
 | s, ks, t :: l => allT (s ++ piece (ks.headD [])) t ++ allK s ks.tail l
end
theorem allT_kids (s : Tx) (t : Tr) : allT s t = (s, t) :: allK s (kidToks t) t.kids := by
 cases t <;> simp [allT, kidToks, Tr.kids, allK]
theorem allK_nil (s : Tx) (ks : List Tx) : allK s ks [] = [] := by
 unfold allK
 rfl
theorem allK_cons (s : Tx) (ks : List Tx) (t : Tr) (l : List Tr) : allK s ks (t :: l) = allT (s ++ piece (ks.headD [])) t ++ allK s ks.tail l := by
 rw [allK]
theorem allK_take : ∀ (l : List Tr) (s : Tx) (ks : List Tx) (k : Nat) (hk : k < l.length), allK s ks (l.take (k + 1)) = allK s ks (l.take k) ++ allT (s ++ piece (ks[k]?.getD [])) l[k]
 | [], s, ks, k, hk => by simp at hk
 | t :: l, s, ks, 0, hk => by
  rw [List.take_succ_cons, List.take_zero, List.take_zero, allK_nil, allK_cons, allK_nil, List.append_nil, List.nil_append]
  cases ks <;> rfl
 | t :: l, s, ks, k + 1, hk => by
  rw [List.take_succ_cons, List.take_succ_cons, allK_cons, allK_cons, allK_take l s ks.tail k (by simpa using hk), List.append_assoc]
  cases ks <;> simp
theorem allT_len : ∀ t : Tr, ∀ s, (allT s t).length = t.nodes := by
 have kids : ∀ (l : List Tr), (∀ x, x ∈ l → ∀ s, (allT s x).length = x.nodes) → ∀ s ks, (allK s ks l).length = nodesL l := by
  intro l
  induction l with
  | nil => intro _ s ks; rw [allK_nil]; rfl
  | cons x l ih =>
   intro h s ks
   rw [allK_cons, List.length_append, h x (by simp), ih (fun y hy => h y (by simp [hy])), nodesL]
 have one : ∀ t : Tr, (∀ x, x ∈ t.kids → ∀ s, (allT s x).length = x.nodes) → ∀ s, (allT s t).length = t.nodes := by
  intro t h s
  rw [allT_kids, List.length_cons, kids _ h]
  cases t <;> simp [Tr.kids, Tr.nodes, nodesL] <;> omega
 intro t
 induction t using Tr.ind with
 | h0 => exact one _ fun x hx => by cases hx
 | h1 b => exact one _ fun x hx => by cases hx
 | h2 x => exact one _ fun x hx => by cases hx
 | h3 s => exact one _ fun x hx => by cases hx
 | h4 l ih => exact one _ ih
 | h5 ks l ih => exact one _ ih
theorem idxTok_at (n k : Nat) (hk : k < n) : (idxToks n)[k]?.getD [] = Lib.itoa (k : Int) := by
 unfold idxToks
 rw [List.getElem?_map, List.getElem?_range hk]
 rfl
theorem flat_id : ∀ l : List UInt8, (∀ c ∈ l, c ≠ 126 ∧ c ≠ 47) → l.flatMap esc = l
 | [], _ => rfl
 | c :: l, h => by
  obtain ⟨h1, h2⟩ := h c (by simp)
  rw [List.flatMap_cons, flat_id l fun d hd => h d (by simp [hd])]
  unfold esc
  rw [if_neg h1, if_neg h2]
  rfl
theorem dec_byte {d : Nat} (h : d < 10) : UInt8.ofNat (48 + d) ≠ 126 ∧ UInt8.ofNat (48 + d) ≠ 47 := by
 have hn := Idx.byte_toNat (n := 48 + d) (by omega)
 constructor
 ·intro e
  rw [e] at hn
  have : (126 : UInt8).toNat = 126 := rfl
  omega
 ·intro e
  rw [e] at hn
  have : (47 : UInt8).toNat = 47 := rfl
  omega
theorem dec_bytes (u : Nat) : ∀ c ∈ Lib.decDigits u, c ≠ 126 ∧ c ≠ 47 := by
 induction u using Nat.strongRecOn with
 | ind u ih =>
  intro c hc
  by_cases h : u < 10
  ·rw [Lib.decDigits_one h, List.mem_singleton] at hc
   rw [hc]
   exact dec_byte h
  ·rw [Idx.dec_big h, List.mem_append, List.mem_singleton] at hc
   rcases hc with hc | hc
   ·exact ih (u / 10) (by omega) c hc
   ·rw [hc]
    exact dec_byte (by omega)
theorem dec_len : ∀ (n u : Nat), u < 10 ^ (n + 1) → (Lib.decDigits u).length ≤ n + 1
 | 0, u, h => by
  rw [Lib.decDigits_one (by omega)]
  simp
 | n + 1, u, h => by
  by_cases h' : u < 10
  ·rw [Lib.decDigits_one h']
   simp
  ·rw [Idx.dec_big h', List.length_append, List.length_singleton]
   have := dec_len n (u / 10) (by
    rw [Nat.pow_succ] at h
    omega)
   omega
theorem piece_itoa (k : Nat) : piece (Lib.itoa (k : Int)) = 47 :: Lib.itoa (k : Int) := by
 unfold piece
 rw [Lib.itoa_nonneg, flat_id _ (dec_bytes k)]
theorem itoa_inj {a b : Nat} (ha : a < 9223372036854775808) (hb : b < 9223372036854775808) (h : Lib.itoa (a : Int) = Lib.itoa (b : Int)) : a = b := by
 rw [Lib.itoa_nonneg, Lib.itoa_nonneg] at h
 have h1 := Idx.loop_dec a ha
 have h2 := Idx.loop_dec b hb
 rw [h, h2] at h1
 injection h1 with h1
 exact h1.symm
def ptrRoom (t : Tr) : Nat := 8 * t.depth + 2 * t.bytes
theorem depthL_mem : ∀ (l : List Tr) (x : Tr), x ∈ l → x.depth ≤ depthL l
 | y :: l, x, h => by
  unfold depthL
  rcases List.mem_cons.1 h with rfl | h
  ·omega
  ·have := depthL_mem l x h
   omega
theorem bytesL_mem : ∀ (l : List Tr) (x : Tr), x ∈ l → x.bytes ≤ bytesL l
 | y :: l, x, h => by
  unfold bytesL
  rcases List.mem_cons.1 h with rfl | h
  ·omega
  ·have := bytesL_mem l x h
   omega
theorem itoa_six (k : Nat) (hk : k < 1000000) : (Lib.itoa (k : Int)).length ≤ 6 := by
 rw [Lib.itoa_nonneg]
 exact dec_len 5 k (by omega)
theorem room_kid (t : Tr) (j : Nat) (hj : j < t.kids.length) (hn : t.kids.length ≤ 65536) : (piece ((kidToks t)[j]?.getD [])).length + ptrRoom t.kids[j] ≤ ptrRoom t := by
 unfold ptrRoom
 cases t with
 | list l =>
  have h1 := depthL_mem l l[j] (List.getElem_mem hj)
  have h2 := bytesL_mem l l[j] (List.getElem_mem hj)
  have h3 : (kidToks (.list l))[j]?.getD [] = Lib.itoa (j : Int) := idxTok_at l.length j hj
  have hn' : l.length ≤ 65536 := hn
  have hj' : j < l.length := hj
  have h4 := itoa_six j (by omega)
  rw [h3, piece_itoa]
  simp only [Tr.kids, Tr.depth, Tr.bytes, List.length_cons]
  omega
 | obj ks l =>
  have h1 := depthL_mem l l[j] (List.getElem_mem hj)
  have h2 := bytesL_mem l l[j] (List.getElem_mem hj)
  have h3 := piece_le ((kidToks (.obj ks l))[j]?.getD [])
  have h5 : ((kidToks (.obj ks l))[j]?.getD []).length ≤ lens ks := by
   simp only [kidToks]
   rcases Nat.lt_or_ge j ks.length with h | h
   ·rw [List.getElem?_eq_getElem h]
    exact lens_at ks j h
   ·rw [List.getElem?_eq_none h]
    simp
  simp only [Tr.kids, Tr.depth, Tr.bytes]
  omega
 | null => simp [Tr.kids] at hj
 | flag b => simp [Tr.kids] at hj
 | num x => simp [Tr.kids] at hj
 | text s => simp [Tr.kids] at hj
theorem room_fit {t : Tr} (h : t.fit = true) : ptrRoom t ≤ 4198400 := by
 have := fit_le h
 unfold ptrRoom
 omega
end Nd
end Go.Proofs.YtlailcmhpnnidaaGreatDoor
namespace Go.Proofs.YtlailcmhpnnidaaGreatDoor
open Go.RowKit Go.Shelf Mem Rg Tok
namespace Nd
attribute [local go_sem] Oper.semAt_some
def paFst : Code → Code
 | .seq a _ => a
 | c => c
def paNxt : Code → Code
 | .seq _ b => b
 | c => c
def paBlk : Code → Code
 | .block _ b => b
 | c => c
def paThn : Code → Code
 | .cond _ a _ => a
 | c => c
def paRb : Code → Code
 | .rangeFunc _ _ _ b => b
 | c => c
noncomputable def wkBody : Code := paRb (paBlk (paNxt (paFst (paNxt (paNxt (paNxt (Tryz.f59.body.getD .skip)))))))
noncomputable def wkR7 : Code := paFst (paBlk wkBody)
noncomputable def wkR9 : Code := paThn (paNxt (paFst (paNxt (paBlk wkBody))))
theorem wk_r7 {n : Nat} {Q : Exit → Act → World → Prop} (l : Nat) (s : Tx) (j : Nat) (bp bi : Nat) (W : World) (hs : s.length ≤ 8388608) (hj : j ≤ 65536) (hT : Tab W) (cp : W.cell? ⟨bp, 0, none⟩ = some (.string ⟨s.toArray⟩)) (ci : W.cell? ⟨bi, 0, none⟩ = some (.int .i64 (j : Nat))) (dg : Tx) (hdg : Lib.itoa (j : Int) = dg) (z0 z1 z2 z3 z5 z6 z8 z9 z10 z11 z12 z13 z14 z15 z16 z17 z18 z19 z20 z21 z22 z23 z24 z25 z26 z27 z28 z29 z30 z31 z32 z33 z34 z35 z36 z37 z38 : Value)
  (hQ : ∀ w2, Below W.heap.size W w2 → Q .normal { tmps := (z0 :: z1 :: z2 :: z3 :: .pointer (some ⟨bp, 0, none⟩) :: z5 :: z6 :: .pointer (some ⟨bi, 0, none⟩) :: z8 :: z9 :: .string ⟨(s ++ 47 :: dg).toArray⟩ :: z11 :: z12 :: z13 :: z14 :: z15 :: z16 :: z17 :: z18 :: z19 :: .string ⟨s.toArray⟩ :: .string ⟨(s ++ [47]).toArray⟩ :: .int .i64 (j : Nat) :: .string ⟨dg.toArray⟩ :: .string ⟨(s ++ 47 :: dg).toArray⟩ :: z25 :: z26 :: z27 :: z28 :: z29 :: z30 :: z31 :: z32 :: z33 :: z34 :: z35 :: z36 :: z37 :: z38 :: []).toArray, defers := [] } w2) :
  wkR7.wpIn (Fence.wide.inRound l) n Tryz.prog Q { tmps := (z0 :: z1 :: z2 :: z3 :: .pointer (some ⟨bp, 0, none⟩) :: z5 :: z6 :: .pointer (some ⟨bi, 0, none⟩) :: z8 :: z9 :: z10 :: z11 :: z12 :: z13 :: z14 :: z15 :: z16 :: z17 :: z18 :: z19 :: z20 :: z21 :: z22 :: z23 :: z24 :: z25 :: z26 :: z27 :: z28 :: z29 :: z30 :: z31 :: z32 :: z33 :: z34 :: z35 :: z36 :: z37 :: z38 :: []).toArray, defers := [] } W := by
 have hdl : dg.length ≤ 6 := by rw [← hdg]; exact itoa_six j (by omega)
 have HIT : Hid (∀ W', Below W.heap.size W W' → Calls Tryz.prog 61 #[.int .i64 (j : Nat)] W' fun e w' => e = .returned (.string ⟨dg.toArray⟩) ∧ Below W'.heap.size W' w') := Lib.hid fun W' hb => by
  have := itoa_any (j : Int) (by omega) (by omega) W' (hT.next hb)
  rw [hdg] at this
  exact this
 have HB0 : Hid (Below W.heap.size W W.drew) := Lib.hid (drewN_below W 1)
 have cp0 := cp
 have ci0 := ci
 clear hT hdg
 conv => arg 4; whnf
 refine wpIn_region_any (by kernel_rfl) ?_
 try (change wpAnyIn _ _ _ _ _ _ _ _ _ (World.drew _))
 refine wpAnyIn_ready (rs := [0, 2]) (by kernel_rfl) (by simp) ?_
 refine AllReadyIn.cons rfl (fun KK hK => ?_) (AllReadyIn.cons rfl (fun KK hK => ?_) AllReadyIn.nil)
 ·go_simp
  refine hK _ _ ?_
  clear hK KK
  refine wpAnyIn_ready (rs := [1, 2]) (by kernel_rfl) (by simp) ?_
  refine AllReadyIn.cons rfl (fun KK hK => ?_) (AllReadyIn.cons rfl (fun KK hK => ?_) AllReadyIn.nil)
  ·go_simp
   rw [if_neg (by first | omega | (simp; omega))]
   go_simp
   refine hK _ _ ?_
   clear hK KK
   try rw [mk_append s [47]]
   refine wpAnyIn_ready (rs := [2]) (by kernel_rfl) (by simp) ?_
   refine AllReadyIn.cons rfl (fun KK hK => ?_) AllReadyIn.nil
   go_simp
   refine hK _ _ ?_
   clear hK KK
   refine wpAnyIn_ready (rs := [3]) (by kernel_rfl) (by simp) ?_
   refine AllReadyIn.cons rfl (fun KK hK => ?_) AllReadyIn.nil
   go_simp
   refine ⟨trivial, (fun h => by cases h), (CallsIn.inRound l (callsIn_wide.2 (HIT.out _ HB0.out))).mono ?_⟩
   rintro e w2 ⟨rfl, hbn⟩
   dsimp only
   refine hK _ _ ?_
   clear hK KK
   have hb2 : Below W.heap.size W w2 := (drewN_below W 1).trans (hbn.mono (by simp))
   replace cp := (hb2.cell (p := ⟨bp, 0, none⟩) (World.block_lt_of_cell? W _ cp0)).trans cp0
   replace ci := (hb2.cell (p := ⟨bi, 0, none⟩) (World.block_lt_of_cell? W _ ci0)).trans ci0
   refine wpAnyIn_ready (rs := [4]) (by kernel_rfl) (by simp) ?_
   refine AllReadyIn.cons rfl (fun KK hK => ?_) AllReadyIn.nil
   go_simp
   rw [if_neg (by first | omega | (simp; omega))]
   go_simp
   refine hK _ _ ?_
   clear hK KK
   try rw [mk_append (s ++ [47]) dg]
   refine wpAnyIn_ready (rs := [5]) (by kernel_rfl) (by simp) ?_
   refine AllReadyIn.cons rfl (fun KK hK => ?_) AllReadyIn.nil
   go_simp
   refine hK _ _ ?_
   clear hK KK
   refine wpAnyIn_done (by kernel_rfl) ?_ _
   exact hQ _ hb2
  ·go_simp
   refine hK _ _ ?_
   clear hK KK
   refine wpAnyIn_ready (rs := [1, 3]) (by kernel_rfl) (by simp) ?_
   refine AllReadyIn.cons rfl (fun KK hK => ?_) (AllReadyIn.cons rfl (fun KK hK => ?_) AllReadyIn.nil)
   ·go_simp
    rw [if_neg (by first | omega | (simp; omega))]
    go_simp
    refine hK _ _ ?_
    clear hK KK
    try rw [mk_append s [47]]
    refine wpAnyIn_ready (rs := [3]) (by kernel_rfl) (by simp) ?_
    refine AllReadyIn.cons rfl (fun KK hK => ?_) AllReadyIn.nil
    go_simp
    refine ⟨trivial, (fun h => by cases h), (CallsIn.inRound l (callsIn_wide.2 (HIT.out _ HB0.out))).mono ?_⟩
    rintro e w2 ⟨rfl, hbn⟩
    dsimp only
    refine hK _ _ ?_
    clear hK KK
    have hb2 : Below W.heap.size W w2 := (drewN_below W 1).trans (hbn.mono (by simp))
    replace cp := (hb2.cell (p := ⟨bp, 0, none⟩) (World.block_lt_of_cell? W _ cp0)).trans cp0
    replace ci := (hb2.cell (p := ⟨bi, 0, none⟩) (World.block_lt_of_cell? W _ ci0)).trans ci0
    refine wpAnyIn_ready (rs := [4]) (by kernel_rfl) (by simp) ?_
    refine AllReadyIn.cons rfl (fun KK hK => ?_) AllReadyIn.nil
    go_simp
    rw [if_neg (by first | omega | (simp; omega))]
    go_simp
    refine hK _ _ ?_
    clear hK KK
    try rw [mk_append (s ++ [47]) dg]
    refine wpAnyIn_ready (rs := [5]) (by kernel_rfl) (by simp) ?_
    refine AllReadyIn.cons rfl (fun KK hK => ?_) AllReadyIn.nil
    go_simp
    refine hK _ _ ?_
    clear hK KK
    refine wpAnyIn_done (by kernel_rfl) ?_ _
    exact hQ _ hb2
   ·go_simp
    refine ⟨trivial, (fun h => by cases h), (CallsIn.inRound l (callsIn_wide.2 (HIT.out _ HB0.out))).mono ?_⟩
    rintro e w2 ⟨rfl, hbn⟩
    dsimp only
    refine hK _ _ ?_
    clear hK KK
    have hb2 : Below W.heap.size W w2 := (drewN_below W 1).trans (hbn.mono (by simp))
    replace cp := (hb2.cell (p := ⟨bp, 0, none⟩) (World.block_lt_of_cell? W _ cp0)).trans cp0
    replace ci := (hb2.cell (p := ⟨bi, 0, none⟩) (World.block_lt_of_cell? W _ ci0)).trans ci0
    refine wpAnyIn_ready (rs := [1]) (by kernel_rfl) (by simp) ?_
    refine AllReadyIn.cons rfl (fun KK hK => ?_) AllReadyIn.nil
    go_simp
    rw [if_neg (by first | omega | (simp; omega))]
    go_simp
    refine hK _ _ ?_
    clear hK KK
    try rw [mk_append s [47]]
    refine wpAnyIn_ready (rs := [4]) (by kernel_rfl) (by simp) ?_
    refine AllReadyIn.cons rfl (fun KK hK => ?_) AllReadyIn.nil
    go_simp
    rw [if_neg (by first | omega | (simp; omega))]
    go_simp
    refine hK _ _ ?_
    clear hK KK
    try rw [mk_append (s ++ [47]) dg]
    refine wpAnyIn_ready (rs := [5]) (by kernel_rfl) (by simp) ?_
    refine AllReadyIn.cons rfl (fun KK hK => ?_) AllReadyIn.nil
    go_simp
    refine hK _ _ ?_
    clear hK KK
    refine wpAnyIn_done (by kernel_rfl) ?_ _
    exact hQ _ hb2
 ·go_simp
  refine hK _ _ ?_
  clear hK KK
  refine wpAnyIn_ready (rs := [0, 3]) (by kernel_rfl) (by simp) ?_
  refine AllReadyIn.cons rfl (fun KK hK => ?_) (AllReadyIn.cons rfl (fun KK hK => ?_) AllReadyIn.nil)
  ·go_simp
   refine hK _ _ ?_
   clear hK KK
   refine wpAnyIn_ready (rs := [1, 3]) (by kernel_rfl) (by simp) ?_
   refine AllReadyIn.cons rfl (fun KK hK => ?_) (AllReadyIn.cons rfl (fun KK hK => ?_) AllReadyIn.nil)
   ·go_simp
    rw [if_neg (by first | omega | (simp; omega))]
    go_simp
    refine hK _ _ ?_
    clear hK KK
    try rw [mk_append s [47]]
    refine wpAnyIn_ready (rs := [3]) (by kernel_rfl) (by simp) ?_
    refine AllReadyIn.cons rfl (fun KK hK => ?_) AllReadyIn.nil
    go_simp
    refine ⟨trivial, (fun h => by cases h), (CallsIn.inRound l (callsIn_wide.2 (HIT.out _ HB0.out))).mono ?_⟩
    rintro e w2 ⟨rfl, hbn⟩
    dsimp only
    refine hK _ _ ?_
    clear hK KK
    have hb2 : Below W.heap.size W w2 := (drewN_below W 1).trans (hbn.mono (by simp))
    replace cp := (hb2.cell (p := ⟨bp, 0, none⟩) (World.block_lt_of_cell? W _ cp0)).trans cp0
    replace ci := (hb2.cell (p := ⟨bi, 0, none⟩) (World.block_lt_of_cell? W _ ci0)).trans ci0
    refine wpAnyIn_ready (rs := [4]) (by kernel_rfl) (by simp) ?_
    refine AllReadyIn.cons rfl (fun KK hK => ?_) AllReadyIn.nil
    go_simp
    rw [if_neg (by first | omega | (simp; omega))]
    go_simp
    refine hK _ _ ?_
    clear hK KK
    try rw [mk_append (s ++ [47]) dg]
    refine wpAnyIn_ready (rs := [5]) (by kernel_rfl) (by simp) ?_
    refine AllReadyIn.cons rfl (fun KK hK => ?_) AllReadyIn.nil
    go_simp
    refine hK _ _ ?_
    clear hK KK
    refine wpAnyIn_done (by kernel_rfl) ?_ _
    exact hQ _ hb2
   ·go_simp
    refine ⟨trivial, (fun h => by cases h), (CallsIn.inRound l (callsIn_wide.2 (HIT.out _ HB0.out))).mono ?_⟩
    rintro e w2 ⟨rfl, hbn⟩
    dsimp only
    refine hK _ _ ?_
    clear hK KK
    have hb2 : Below W.heap.size W w2 := (drewN_below W 1).trans (hbn.mono (by simp))
    replace cp := (hb2.cell (p := ⟨bp, 0, none⟩) (World.block_lt_of_cell? W _ cp0)).trans cp0
    replace ci := (hb2.cell (p := ⟨bi, 0, none⟩) (World.block_lt_of_cell? W _ ci0)).trans ci0
    refine wpAnyIn_ready (rs := [1]) (by kernel_rfl) (by simp) ?_
    refine AllReadyIn.cons rfl (fun KK hK => ?_) AllReadyIn.nil
    go_simp
    rw [if_neg (by first | omega | (simp; omega))]
    go_simp
    refine hK _ _ ?_
    clear hK KK
    try rw [mk_append s [47]]
    refine wpAnyIn_ready (rs := [4]) (by kernel_rfl) (by simp) ?_
    refine AllReadyIn.cons rfl (fun KK hK => ?_) AllReadyIn.nil
    go_simp
    rw [if_neg (by first | omega | (simp; omega))]
    go_simp
    refine hK _ _ ?_
    clear hK KK
    try rw [mk_append (s ++ [47]) dg]
    refine wpAnyIn_ready (rs := [5]) (by kernel_rfl) (by simp) ?_
    refine AllReadyIn.cons rfl (fun KK hK => ?_) AllReadyIn.nil
    go_simp
    refine hK _ _ ?_
    clear hK KK
    refine wpAnyIn_done (by kernel_rfl) ?_ _
    exact hQ _ hb2
  ·go_simp
   refine ⟨trivial, (fun h => by cases h), (CallsIn.inRound l (callsIn_wide.2 (HIT.out _ HB0.out))).mono ?_⟩
   rintro e w2 ⟨rfl, hbn⟩
   dsimp only
   refine hK _ _ ?_
   clear hK KK
   have hb2 : Below W.heap.size W w2 := (drewN_below W 1).trans (hbn.mono (by simp))
   replace cp := (hb2.cell (p := ⟨bp, 0, none⟩) (World.block_lt_of_cell? W _ cp0)).trans cp0
   replace ci := (hb2.cell (p := ⟨bi, 0, none⟩) (World.block_lt_of_cell? W _ ci0)).trans ci0
   refine wpAnyIn_ready (rs := [0]) (by kernel_rfl) (by simp) ?_
   refine AllReadyIn.cons rfl (fun KK hK => ?_) AllReadyIn.nil
   go_simp
   refine hK _ _ ?_
   clear hK KK
   refine wpAnyIn_ready (rs := [1]) (by kernel_rfl) (by simp) ?_
   refine AllReadyIn.cons rfl (fun KK hK => ?_) AllReadyIn.nil
   go_simp
   rw [if_neg (by first | omega | (simp; omega))]
   go_simp
   refine hK _ _ ?_
   clear hK KK
   try rw [mk_append s [47]]
   refine wpAnyIn_ready (rs := [4]) (by kernel_rfl) (by simp) ?_
   refine AllReadyIn.cons rfl (fun KK hK => ?_) AllReadyIn.nil
   go_simp
   rw [if_neg (by first | omega | (simp; omega))]
   go_simp
   refine hK _ _ ?_
   clear hK KK
   try rw [mk_append (s ++ [47]) dg]
   refine wpAnyIn_ready (rs := [5]) (by kernel_rfl) (by simp) ?_
   refine AllReadyIn.cons rfl (fun KK hK => ?_) AllReadyIn.nil
   go_simp
   refine hK _ _ ?_
   clear hK KK
   refine wpAnyIn_done (by kernel_rfl) ?_ _
   exact hQ _ hb2
theorem wk_r9 {n : Nat} {Q : Exit → Act → World → Prop} (l : Nat) (s k : Tx) (bp : Nat) (W : World) (hs : s.length ≤ 8388608) (hk : k.length ≤ 2097152) (hG : Glob W) (cp : W.cell? ⟨bp, 0, none⟩ = some (.string ⟨s.toArray⟩)) (z0 z1 z2 z3 z5 z6 z7 z9 z10 z11 z12 z13 z14 z15 z16 z17 z18 z19 z20 z21 z22 z23 z24 z25 z26 z27 z28 z29 z30 z31 z32 z33 z34 z35 z36 z37 z38 : Value)
  (hQ : ∀ w2, Below W.heap.size W w2 → Q .normal { tmps := (z0 :: z1 :: z2 :: z3 :: .pointer (some ⟨bp, 0, none⟩) :: z5 :: z6 :: z7 :: .string ⟨k.toArray⟩ :: z9 :: .string ⟨(s ++ piece k).toArray⟩ :: z11 :: z12 :: z13 :: z14 :: z15 :: z16 :: z17 :: z18 :: z19 :: z20 :: z21 :: z22 :: z23 :: z24 :: z25 :: z26 :: z27 :: .string ⟨s.toArray⟩ :: .string ⟨k.toArray⟩ :: .string ⟨(piece k).toArray⟩ :: .string ⟨(s ++ piece k).toArray⟩ :: z32 :: z33 :: z34 :: z35 :: z36 :: z37 :: z38 :: []).toArray, defers := [] } w2) :
  wkR9.wpIn (Fence.wide.inRound l) n Tryz.prog Q { tmps := (z0 :: z1 :: z2 :: z3 :: .pointer (some ⟨bp, 0, none⟩) :: z5 :: z6 :: z7 :: .string ⟨k.toArray⟩ :: z9 :: z10 :: z11 :: z12 :: z13 :: z14 :: z15 :: z16 :: z17 :: z18 :: z19 :: z20 :: z21 :: z22 :: z23 :: z24 :: z25 :: z26 :: z27 :: z28 :: z29 :: z30 :: z31 :: z32 :: z33 :: z34 :: z35 :: z36 :: z37 :: z38 :: []).toArray, defers := [] } W := by
 have hpl : (piece k).length ≤ 4194305 := by have := piece_le k; omega
 have HIT : Hid (∀ W', Below W.heap.size W W' → Calls Tryz.prog 62 #[.string ⟨k.toArray⟩] W' fun e w' => e = .returned (.string ⟨(piece k).toArray⟩) ∧ Below W'.heap.size W' w') := Lib.hid fun W' hb => quoted_any k (by omega) W' (hG.next hb)
 have HB0 : Hid (Below W.heap.size W W.drew) := Lib.hid (drewN_below W 1)
 have cp0 := cp
 clear hG
 conv => arg 4; whnf
 refine wpIn_region_any (by kernel_rfl) ?_
 try (change wpAnyIn _ _ _ _ _ _ _ _ _ (World.drew _))
 refine wpAnyIn_ready (rs := [0, 1]) (by kernel_rfl) (by simp) ?_
 refine AllReadyIn.cons rfl (fun KK hK => ?_) (AllReadyIn.cons rfl (fun KK hK => ?_) AllReadyIn.nil)
 ·go_simp
  refine hK _ _ ?_
  clear hK KK
  refine wpAnyIn_ready (rs := [1]) (by kernel_rfl) (by simp) ?_
  refine AllReadyIn.cons rfl (fun KK hK => ?_) AllReadyIn.nil
  go_simp
  refine hK _ _ ?_
  clear hK KK
  refine wpAnyIn_ready (rs := [2]) (by kernel_rfl) (by simp) ?_
  refine AllReadyIn.cons rfl (fun KK hK => ?_) AllReadyIn.nil
  go_simp
  refine ⟨trivial, (fun h => by cases h), (CallsIn.inRound l (callsIn_wide.2 (HIT.out _ HB0.out))).mono ?_⟩
  rintro e w2 ⟨rfl, hbn⟩
  dsimp only
  refine hK _ _ ?_
  clear hK KK
  have hb2 : Below W.heap.size W w2 := (drewN_below W 1).trans (hbn.mono (by simp))
  replace cp := (hb2.cell (p := ⟨bp, 0, none⟩) (World.block_lt_of_cell? W _ cp0)).trans cp0
  refine wpAnyIn_ready (rs := [3]) (by kernel_rfl) (by simp) ?_
  refine AllReadyIn.cons rfl (fun KK hK => ?_) AllReadyIn.nil
  go_simp
  rw [if_neg (by first | omega | (simp; omega))]
  go_simp
  refine hK _ _ ?_
  clear hK KK
  try rw [mk_append s (piece k)]
  refine wpAnyIn_ready (rs := [4]) (by kernel_rfl) (by simp) ?_
  refine AllReadyIn.cons rfl (fun KK hK => ?_) AllReadyIn.nil
  go_simp
  refine hK _ _ ?_
  clear hK KK
  refine wpAnyIn_done (by kernel_rfl) ?_ _
  exact hQ _ hb2
 ·go_simp
  refine hK _ _ ?_
  clear hK KK
  refine wpAnyIn_ready (rs := [0, 2]) (by kernel_rfl) (by simp) ?_
  refine AllReadyIn.cons rfl (fun KK hK => ?_) (AllReadyIn.cons rfl (fun KK hK => ?_) AllReadyIn.nil)
  ·go_simp
   refine hK _ _ ?_
   clear hK KK
   refine wpAnyIn_ready (rs := [2]) (by kernel_rfl) (by simp) ?_
   refine AllReadyIn.cons rfl (fun KK hK => ?_) AllReadyIn.nil
   go_simp
   refine ⟨trivial, (fun h => by cases h), (CallsIn.inRound l (callsIn_wide.2 (HIT.out _ HB0.out))).mono ?_⟩
   rintro e w2 ⟨rfl, hbn⟩
   dsimp only
   refine hK _ _ ?_
   clear hK KK
   have hb2 : Below W.heap.size W w2 := (drewN_below W 1).trans (hbn.mono (by simp))
   replace cp := (hb2.cell (p := ⟨bp, 0, none⟩) (World.block_lt_of_cell? W _ cp0)).trans cp0
   refine wpAnyIn_ready (rs := [3]) (by kernel_rfl) (by simp) ?_
   refine AllReadyIn.cons rfl (fun KK hK => ?_) AllReadyIn.nil
   go_simp
   rw [if_neg (by first | omega | (simp; omega))]
   go_simp
   refine hK _ _ ?_
   clear hK KK
   try rw [mk_append s (piece k)]
   refine wpAnyIn_ready (rs := [4]) (by kernel_rfl) (by simp) ?_
   refine AllReadyIn.cons rfl (fun KK hK => ?_) AllReadyIn.nil
   go_simp
   refine hK _ _ ?_
   clear hK KK
   refine wpAnyIn_done (by kernel_rfl) ?_ _
   exact hQ _ hb2
  ·go_simp
   refine ⟨trivial, (fun h => by cases h), (CallsIn.inRound l (callsIn_wide.2 (HIT.out _ HB0.out))).mono ?_⟩
   rintro e w2 ⟨rfl, hbn⟩
   dsimp only
   refine hK _ _ ?_
   clear hK KK
   have hb2 : Below W.heap.size W w2 := (drewN_below W 1).trans (hbn.mono (by simp))
   replace cp := (hb2.cell (p := ⟨bp, 0, none⟩) (World.block_lt_of_cell? W _ cp0)).trans cp0
   refine wpAnyIn_ready (rs := [0]) (by kernel_rfl) (by simp) ?_
   refine AllReadyIn.cons rfl (fun KK hK => ?_) AllReadyIn.nil
   go_simp
   refine hK _ _ ?_
   clear hK KK
   refine wpAnyIn_ready (rs := [3]) (by kernel_rfl) (by simp) ?_
   refine AllReadyIn.cons rfl (fun KK hK => ?_) AllReadyIn.nil
   go_simp
   rw [if_neg (by first | omega | (simp; omega))]
   go_simp
   refine hK _ _ ?_
   clear hK KK
   try rw [mk_append s (piece k)]
   refine wpAnyIn_ready (rs := [4]) (by kernel_rfl) (by simp) ?_
   refine AllReadyIn.cons rfl (fun KK hK => ?_) AllReadyIn.nil
   go_simp
   refine hK _ _ ?_
   clear hK KK
   refine wpAnyIn_done (by kernel_rfl) ?_ _
   exact hQ _ hb2
end Nd
end Go.Proofs.YtlailcmhpnnidaaGreatDoor
