/-
  The reference's Pair of layer 16.
-/
import Derived.Test.YtbajkglacfheiaaGreatDoorTA32
import Derived.Test.YtbajkglacfheiaaGreatDoorTA27
set_option linter.unusedVariables false
set_option maxRecDepth 100000
set_option maxHeartbeats 16000000
namespace Go.Proofs.YtbajkglacfheiaaGreatDoor
open Go.RowKit Mem Utf Ref3 Idx Tok TokC Ieee
namespace Nd
def pairF (u : Tr) (p : Tx) : (Int × Tx) ⊕ (Nat × Nat) :=
 if u.srt = 5 then
  if u.kids.length = 2 then match badK u.kids 0 with
   | some i => .inl (5, atP p i)
   | none => .inr ((u.kids[0]?.getD Tr.null).nb, (u.kids[1]?.getD Tr.null).nb)
  else .inl (162, p)
 else .inl (5, p)
theorem pairF_sort {u : Tr} {p : Tx} (h : ¬ u.srt = 5) : pairF u p = .inl (5, p) := by
 unfold pairF
 rw [if_neg h]
theorem pairF_two {u : Tr} {p : Tx} (h : u.srt = 5) (h2 : ¬ u.kids.length = 2) : pairF u p = .inl (162, p) := by
 unfold pairF
 rw [if_pos h, if_neg h2]
theorem pairF_bad {u : Tr} {p : Tx} {i : Nat} (h : u.srt = 5) (h2 : u.kids.length = 2) (h3 : badK u.kids 0 = some i) : pairF u p = .inl (5, atP p i) := by
 unfold pairF
 rw [if_pos h, if_pos h2, h3]
theorem pairF_ok {u : Tr} {p : Tx} (h : u.srt = 5) (h2 : u.kids.length = 2) (h3 : badK u.kids 0 = none) : pairF u p = .inr (u.kids[0].nb, u.kids[1].nb) := by
 unfold pairF
 rw [if_pos h, if_pos h2, h3, List.getElem?_eq_getElem (by omega), List.getElem?_eq_getElem (by omega)]
 rfl
theorem pairD_F (u : Tr) (p : Tx) : pairD u p = match pairF u p with
  | .inl x => .inl (trlV x.1 x.2)
  | .inr q => .inr q := by
 unfold pairD pairF
 by_cases h1 : u.srt = 5
 ·rw [if_pos h1, if_pos h1]
  by_cases h2 : u.kids.length = 2
  ·rw [if_pos h2, if_pos h2]
   cases badK u.kids 0 <;> rfl
  ·rw [if_neg h2, if_neg h2]
 ·rw [if_neg h1, if_neg h1]
theorem four_cellB {W : World} {P g o : Nat} {a b c d : Value} (h : g ≠ P) : (four W P a b c d).cell? ⟨g, o, none⟩ = W.cell? ⟨g, o, none⟩ :=
 cell_block ((heap_setCell_other _ ⟨P, 3, none⟩ g d h).trans ((heap_setCell_other _ ⟨P, 2, none⟩ g c h).trans ((heap_setCell_other _ ⟨P, 1, none⟩ g b h).trans (heap_setCell_other _ ⟨P, 0, none⟩ g a h))))
theorem held_four {w W : World} {g ob : Nat} {v4 a b : Value} (h1 : w.heap.size ≠ w.heap.size + 1) (h2 : g ≠ w.heap.size + 1) (h : W.cell? ⟨w.heap.size, 4, none⟩ = some v4 ∧ W.cell? ⟨g, ob + 2, none⟩ = some a ∧ W.cell? ⟨g, ob + 8, none⟩ = some b ∧ W.cell? ⟨g, ob + 6 + 2, none⟩ = some b ∧ Below w.heap.size w W) (x y z t : Value) :
  (four W (w.heap.size + 1) x y z t).cell? ⟨w.heap.size, 4, none⟩ = some v4 ∧ (four W (w.heap.size + 1) x y z t).cell? ⟨g, ob + 2, none⟩ = some a ∧ (four W (w.heap.size + 1) x y z t).cell? ⟨g, ob + 8, none⟩ = some b ∧ (four W (w.heap.size + 1) x y z t).cell? ⟨g, ob + 6 + 2, none⟩ = some b ∧ Below w.heap.size w (four W (w.heap.size + 1) x y z t) :=
 ⟨(four_cellB h1).trans h.1, (four_cellB h2).trans h.2.1, (four_cellB h2).trans h.2.2.1, (four_cellB h2).trans h.2.2.2.1, four_below h.2.2.2.2 (by omega) x y z t⟩
def RPairP (p : Tx) (u : Tr) (w : World) (e : Ending) (w' : World) : Prop :=
 (match pairF u p with
  | .inl x => e = .returned (.tuple #[.int .u64 0, .int .u64 0, .agg #[.int .i64 x.1, .int .i64 0, .bool true, .string ⟨x.2.toArray⟩]])
  | .inr q => e = .returned (.tuple #[.int .u64 (q.1 : Int), .int .u64 (q.2 : Int), .agg #[.int .i64 0, .int .i64 0, .bool false, .string ⟨#[]⟩]])) ∧ Below w.heap.size w w'
theorem rpairP_no {u : Tr} {p q : Tx} {n : Int} {w w' : World} (h : pairF u p = .inl (n, q)) (hb : Below w.heap.size w w') : RPairP p u w (.returned (.tuple #[.int .u64 0, .int .u64 0, .agg #[.int .i64 n, .int .i64 0, .bool true, .string ⟨q.toArray⟩]])) w' := by
 unfold RPairP
 rw [h]
 exact ⟨rfl, hb⟩
theorem rpairP_ok {u : Tr} {p : Tx} {a b : Nat} {w w' : World} (h : pairF u p = .inr (a, b)) (hb : Below w.heap.size w w') : RPairP p u w (.returned (.tuple #[.int .u64 (a : Int), .int .u64 (b : Int), .agg #[.int .i64 0, .int .i64 0, .bool false, .string ⟨#[]⟩]])) w' := by
 unfold RPairP
 rw [h]
 exact ⟨rfl, hb⟩
theorem srt_nb (t : Tr) : ((((t.srt : Nat) : Int) != 3) = !t.isNb) ∧ (t.isNb = true → t.bi = t.nb) := by
 cases t with
 | num x => exact ⟨rfl, fun _ => rfl⟩
 | null => exact ⟨rfl, fun h => by cases h⟩
 | flag b => exact ⟨rfl, fun h => by cases h⟩
 | text s => exact ⟨rfl, fun h => by cases h⟩
 | list l => exact ⟨rfl, fun h => by cases h⟩
 | obj ks l => exact ⟨rfl, fun h => by cases h⟩
theorem rpair_any (u : Tr) (A : Option Addr) (c : Nat) (K : Option Addr) (d : Nat) (p : Tx) (hp : p.length ≤ 8388608) (w : World) (h : RdVA w u ((A, c), (K, d))) : Calls Tryz.prog 68 #[valV u A c K d, .string ⟨p.toArray⟩] w (RPairP p u w) := by
 unfold valV
 obtain ⟨w0, hw0⟩ : ∃ w0, ((w.alloc (.cells #[.int .i64 (u.srt : Nat), .bool u.fl, .int .u64 (u.bi : Nat), .string ⟨u.tx.toArray⟩, .slice A u.kids.length c, .slice K u.kn.length d] 79)).alloc (.cells #[.int .i64 0, .int .i64 0, .bool false, .string ⟨#[]⟩] 81)) = w0 := ⟨_, rfl⟩
 have hb0 : Below w.heap.size w w0 := by rw [← hw0]; exact ((Below.refl _ _).alloc (Nat.le_refl _) _).alloc (by simp) _
 have hv0 : Blk w0 w.heap.size 79 #[.int .i64 (u.srt : Nat), .bool u.fl, .int .u64 (u.bi : Nat), .string ⟨u.tx.toArray⟩, .slice A u.kids.length c, .slice K u.kn.length d] := by rw [← hw0]; exact (Blk.new w _ _).alloc _
 have hf0 : Blk w0 (w.heap.size + 1) 81 #[.int .i64 0, .int .i64 0, .bool false, .string ⟨#[]⟩] := by
  have := Blk.new (w.alloc (.cells #[.int .i64 (u.srt : Nat), .bool u.fl, .int .u64 (u.bi : Nat), .string ⟨u.tx.toArray⟩, .slice A u.kids.length c, .slice K u.kn.length d] 79)) 81 #[.int .i64 0, .int .i64 0, .bool false, .string ⟨#[]⟩]
  rw [World.size_alloc, hw0] at this
  exact this
 have HW0 := Lib.hid hw0
 have HV := Lib.hid hv0
 have HF := Lib.hid hf0
 have HBW := Lib.hid hb0
 have HR := Lib.hid h
 have HPL := Lib.hid hp
 clear hw0 hb0 hv0 hf0 h hp
 go_enter Tryz.func68, Tryz.ntmps68
 go_upto_region 1 with fail
 rw [HW0.out]
 have v0 : w0.cell? ⟨w.heap.size, 0, none⟩ = some (.int .i64 (u.srt : Nat)) := HV.out.cell 0
 have v1 : w0.cell? ⟨w.heap.size, 1, none⟩ = some (.bool u.fl) := HV.out.cell 1
 have v2 : w0.cell? ⟨w.heap.size, 2, none⟩ = some (.int .u64 (u.bi : Nat)) := HV.out.cell 2
 have v3 : w0.cell? ⟨w.heap.size, 3, none⟩ = some (.string ⟨u.tx.toArray⟩) := HV.out.cell 3
 have v4 : w0.cell? ⟨w.heap.size, 4, none⟩ = some (.slice A u.kids.length c) := HV.out.cell 4
 have v5 : w0.cell? ⟨w.heap.size, 5, none⟩ = some (.slice K u.kn.length d) := HV.out.cell 5
 by_cases hs : u.srt = 5
 ·have hsi : ((u.srt : Nat) : Int) = 5 := by omega
  rw [hsi] at v0
  have HS := Lib.hid hs
  clear hs hsi
  by_cases hl : u.kids.length = 2
  ·have HLN := Lib.hid hl
   have hli : ((u.kids.length : Nat) : Int) = 2 := by omega
   obtain ⟨xs, hCs, hLs⟩ := HR.out.kids
   have HCL := Lib.hid (And.intro hCs hLs)
   clear hl hCs hLs
   go_wp2_with fail
   go_loopw [7] (fun c7 wr => ∃ k : Nat, k ≤ 2 ∧ c7 = .int .i64 (k : Int) ∧ Hid (badK u.kids 0 = badK (u.kids.drop k) k ∧ w0 = wr)) (fun c7 _ => 2 - (intOf c7).toNat)
   case atStart => exact ⟨0, by omega, rfl, Lib.hid ⟨rfl, rfl⟩⟩
   case round =>
    obtain ⟨k, hk, rfl, HI⟩ := hrel
    obtain rfl := HI.out.2
    by_cases hlt : k < 2
    ·have hki : (k : Int) < 2 := by omega
     have hk0 : (0 : Int) ≤ (k : Int) := by omega
     have HLT := Lib.hid hlt
     have hltk : k < u.kids.length := by have := HLN.out; omega
     obtain ⟨g, ob, xk, rfl, _, _, hcl, hrx⟩ := cells_at HCL.out.1 HCL.out.2 hltk
     have hcl0 := hcl.below HBW.out
     have k0 := hcl0.c0
     have hsn := srt_nb (u.kids[k]'hltk)
     obtain ⟨y, hy⟩ : ∃ y, u.kids[k]'hltk = y := ⟨_, rfl⟩
     have HY := Lib.hid hy
     rw [hy] at k0 hsn
     have hkl2 : ((u.kids.length : Nat) : Int) = 2 := hli
     clear hcl hcl0 hrx hk hlt hy
     cases hnb : y.isNb with
     | true =>
      rw [hnb] at hsn
      have hsn1 : (((y.srt : Nat) : Int) != 3) = false := hsn.1
      have HX : Hid (badK u.kids 0 = badK (u.kids.drop (k + 1)) (k + 1)) := Lib.hid (HI.out.1.trans (badK_yes hltk (by rw [HY.out]; exact hnb)))
      clear hsn hnb
      go_wp2
      go_roundw
      case rel => exact ⟨k + 1, by have := HLT.out; omega, by go_num, Lib.hid ⟨HX.out, (by first | rfl | trivial)⟩⟩
      case measure => have := HLT.out; simp [intOf]; omega
     | false =>
      rw [hnb] at hsn
      have hsn1 : (((y.srt : Nat) : Int) != 3) = true := hsn.1
      have HPF := Lib.hid (pairF_bad (p := p) HS.out HLN.out (HI.out.1.trans (badK_no hltk (by rw [HY.out]; exact hnb))))
      have HAT := Lib.hid (rat_any p HPL.out k (by have := HLT.out; omega) w0)
      obtain ⟨pk, hpk⟩ : ∃ pk, atP p k = pk := ⟨_, rfl⟩
      rw [hpk] at HPF HAT
      clear hsn hnb hpk
      go_wp2_with fail
      ((with_reducible refine (HAT.out).mono ?_); rintro e w2 ⟨rfl, hb2⟩)
      have HBW := Lib.hid (HBW.out.trans (hb2.mono HBW.out.size))
      have HF := Lib.hid (HF.out.below hb2 HF.out.lt)
      clear hb2
      go_wp2_with fail
      ((with_reducible refine (refTrail16 5 pk _).mono ?_); rintro e w3 ⟨rfl, hw3⟩)
      have hb3 : Below w2.heap.size w2 w3 := by rw [hw3]; exact (Below.refl _ _).alloc (Nat.le_refl _) _
      have HBW := Lib.hid (HBW.out.trans (hb3.mono HBW.out.size))
      have HF := Lib.hid (HF.out.below hb3 HF.out.lt)
      clear hw3 hb3
      have y0 : w3.cell? ⟨w.heap.size + 1, 0, none⟩ = some (.int .i64 0) := HF.out.cell 0
      have y1 : w3.cell? ⟨w.heap.size + 1, 1, none⟩ = some (.int .i64 0) := HF.out.cell 1
      have y2 : w3.cell? ⟨w.heap.size + 1, 2, none⟩ = some (.bool false) := HF.out.cell 2
      have y3 : w3.cell? ⟨w.heap.size + 1, 3, none⟩ = some (.string ⟨#[]⟩) := HF.out.cell 3
      have r0 := HF.out.frozen 0
      have r1 := HF.out.frozen 1
      have r2 := HF.out.frozen 2
      have r3 := HF.out.frozen 3
      have hkf := HF.out.lt
      go_wp2
      have hf := four_blk HF.out (.int .i64 5) (.int .i64 0) (.bool true) (.string ⟨pk.toArray⟩)
      have hbl := four_below HBW.out (show w.heap.size ≤ w.heap.size + 1 by omega) (.int .i64 5) (.int .i64 0) (.bool true) (.string ⟨pk.toArray⟩)
      unfold four at hf hbl
      generalize ((((w3.setCell ⟨w.heap.size + 1, 0, none⟩ (.int .i64 5)).setCell ⟨w.heap.size + 1, 1, none⟩ (.int .i64 0)).setCell ⟨w.heap.size + 1, 2, none⟩ (.bool true)).setCell ⟨w.heap.size + 1, 3, none⟩ (.string ⟨pk.toArray⟩)) = wf at *
      have ee0 : wf.cell? ⟨w.heap.size + 1, 0, none⟩ = some (.int .i64 5) := hf.cell 0
      have ee1 : wf.cell? ⟨w.heap.size + 1, 1, none⟩ = some (.int .i64 0) := hf.cell 1
      have ee2 : wf.cell? ⟨w.heap.size + 1, 2, none⟩ = some (.bool true) := hf.cell 2
      have ee3 : wf.cell? ⟨w.heap.size + 1, 3, none⟩ = some (.string ⟨pk.toArray⟩) := hf.cell 3
      refine bodyPost_ret (v := .tuple #[.int .u64 0, .int .u64 0, .agg #[.int .i64 5, .int .i64 0, .bool true, .string ⟨pk.toArray⟩]]) ?_ rfl (rpairP_no HPF.out hbl)
      simp [results, Tryz.results68, go_sem, ee0, ee1, ee2, ee3]
    ·obtain rfl : k = 2 := by omega
     have h0k : 0 < u.kids.length := by have := HLN.out; omega
     have h1k : 1 < u.kids.length := by have := HLN.out; omega
     obtain ⟨g, ob, xk, hA1, _, _, hcl, _⟩ := cells_at HCL.out.1 HCL.out.2 h0k
     obtain ⟨g2, ob2, xk2, hA2, _, _, hcl2, _⟩ := cells_at HCL.out.1 HCL.out.2 h1k
     have hA3 : some (⟨g, ob, none⟩ : Addr) = some ⟨g2, ob2, none⟩ := hA1.symm.trans hA2
     injection hA3 with hA3
     injection hA3 with hg hob
     subst hg hob hA1
     have hgl : g < w.heap.size := World.block_lt_of_cell? _ _ hcl.c0
     have hk0 := (hcl.below HBW.out).c2
     have hk1 := (hcl2.below HBW.out).c2
     have hbad : badK u.kids 0 = none := HI.out.1.trans (by
      have e := badK_end u.kids
      rw [HLN.out] at e
      exact e)
     have hPK := pairF_ok (p := p) HS.out HLN.out hbad
     have hnb0 : (u.kids[0]'h0k).isNb = true := by
      have e := @badK_no u.kids 0 h0k
      cases hx : (u.kids[0]'h0k).isNb with
      | true => rfl
      | false =>
       have e2 := e hx
       rw [List.drop_zero, hbad] at e2
       cases e2
     have hnb1 : (u.kids[1]'h1k).isNb = true := by
      have e := @badK_no u.kids 1 h1k
      cases hx : (u.kids[1]'h1k).isNb with
      | true => rfl
      | false =>
       have e2 := e hx
       have e3 := @badK_yes u.kids 0 h0k hnb0
       rw [List.drop_zero, hbad] at e3
       rw [← e3] at e2
       cases e2
     rw [(srt_nb _).2 hnb0] at hk0
     rw [(srt_nb _).2 hnb1] at hk1
     obtain ⟨a, ha⟩ : ∃ a, (u.kids[0]'h0k).nb = a := ⟨_, rfl⟩
     obtain ⟨b, hb⟩ : ∃ b, (u.kids[1]'h1k).nb = b := ⟨_, rfl⟩
     have HPK : Hid (pairF u p = .inr (a, b)) := Lib.hid (by rw [← ha, ← hb]; exact hPK)
     rw [ha] at hk0
     rw [hb] at hk1
     have k0 : w0.cell? ⟨g, ob + 2, none⟩ = some (.int .u64 (a : Int)) := hk0
     have k1 : w0.cell? ⟨g, ob + 8, none⟩ = some (.int .u64 (b : Int)) := hk1
     have k2 : w0.cell? ⟨g, ob + 6 + 2, none⟩ = some (.int .u64 (b : Int)) := hk1
     have HGL := Lib.hid hgl
     clear hk0 hk1 hPK hbad hnb0 hnb1 ha hb hA2 hcl hcl2 hk
     have y0 : w0.cell? ⟨w.heap.size + 1, 0, none⟩ = some (.int .i64 0) := HF.out.cell 0
     have y1 : w0.cell? ⟨w.heap.size + 1, 1, none⟩ = some (.int .i64 0) := HF.out.cell 1
     have y2 : w0.cell? ⟨w.heap.size + 1, 2, none⟩ = some (.bool false) := HF.out.cell 2
     have y3 : w0.cell? ⟨w.heap.size + 1, 3, none⟩ = some (.string ⟨#[]⟩) := HF.out.cell 3
     have r0 := HF.out.frozen 0
     have r1 := HF.out.frozen 1
     have r2 := HF.out.frozen 2
     have r3 := HF.out.frozen 3
     have hkf := HF.out.lt
     go_upto_region 10 with fail
     refine wp_region_held_drew (S := (fun w' => w'.cell? ⟨w.heap.size, 4, none⟩ = some (.slice (some ⟨g, ob, none⟩) u.kids.length c) ∧ w'.cell? ⟨g, ob + 2, none⟩ = some (.int .u64 (a : Int)) ∧ w'.cell? ⟨g, ob + 8, none⟩ = some (.int .u64 (b : Int)) ∧ w'.cell? ⟨g, ob + 6 + 2, none⟩ = some (.int .u64 (b : Int)) ∧ Below w.heap.size w w')) (by kernel_rfl) ⟨v4, k0, k1, k2, HBW.out.trans (drewN_below _ 1)⟩ (fun hHeld => ?_)
     refine held_take (i := 0) (v := ?_) (some 34) rfl rfl (by kernel_rfl) (by kernel_rfl) (by kernel_rfl) (fun _ _ _ h => h) (Or.inl ⟨by rfl, ?_⟩) hHeld ?_
     rotate_left
     ·intro w hSw
      try dsimp only at hSw
      go_simp
      try with_reducible rfl
     simp only [Act.put, List.setIfInBounds_toArray, List.set_cons_zero, List.set_cons_succ]
     refine held_take (i := 1) (v := ?_) (some 35) rfl rfl (by kernel_rfl) (by kernel_rfl) (by kernel_rfl) (fun _ _ _ h => h) (Or.inl ⟨by rfl, ?_⟩) hHeld ?_
     rotate_left
     ·intro w hSw
      try dsimp only at hSw
      go_simp
      try with_reducible rfl
     simp only [Act.put, List.setIfInBounds_toArray, List.set_cons_zero, List.set_cons_succ]
     refine held_take (i := 2) (v := ?_) (some 36) rfl rfl (by kernel_rfl) (by kernel_rfl) (by kernel_rfl) (fun _ _ _ h => h) (Or.inl ⟨by rfl, ?_⟩) hHeld ?_
     rotate_left
     ·intro w hSw
      try dsimp only at hSw
      go_simp
      try with_reducible rfl
     simp only [Act.put, List.setIfInBounds_toArray, List.set_cons_zero, List.set_cons_succ]
     refine held_take (i := 3) (v := ?_) (some 37) rfl rfl (by kernel_rfl) (by kernel_rfl) (by kernel_rfl) (fun _ _ _ h => h) (Or.inl ⟨by rfl, ?_⟩) hHeld ?_
     rotate_left
     ·intro w hSw
      try dsimp only at hSw
      go_simp
      try with_reducible rfl
     simp only [Act.put, List.setIfInBounds_toArray, List.set_cons_zero, List.set_cons_succ]
     refine held_take (i := 4) (v := ?_) (some 38) rfl rfl (by kernel_rfl) (by kernel_rfl) (by kernel_rfl) (fun _ _ _ h => h) (Or.inl ⟨by rfl, ?_⟩) hHeld ?_
     rotate_left
     ·intro w hSw
      try dsimp only at hSw
      go_simp
      try with_reducible rfl
     simp only [Act.put, List.setIfInBounds_toArray, List.set_cons_zero, List.set_cons_succ]
     refine held_take (i := 5) (v := ?_) (some 39) rfl rfl (by kernel_rfl) (by kernel_rfl) (by kernel_rfl) (fun _ _ _ h => h) (Or.inl ⟨by rfl, ?_⟩) hHeld ?_
     rotate_left
     ·intro w hSw
      try dsimp only at hSw
      go_simp
      try with_reducible rfl
     simp only [Act.put, List.setIfInBounds_toArray, List.set_cons_zero, List.set_cons_succ]
     refine held_take (i := 6) (v := ?_) (some 40) rfl rfl (by kernel_rfl) (by kernel_rfl) (by kernel_rfl) (fun _ _ _ h => h) (Or.inl ⟨by rfl, ?_⟩) hHeld ?_
     rotate_left
     ·intro w hSw
      try dsimp only at hSw
      go_simp
      try with_reducible rfl
     simp only [Act.put, List.setIfInBounds_toArray, List.set_cons_zero, List.set_cons_succ]
     refine held_take (i := 7) (v := ?_) (some 41) rfl rfl (by kernel_rfl) (by kernel_rfl) (by kernel_rfl) (fun _ _ _ h => h) (Or.inl ⟨by rfl, ?_⟩) hHeld ?_
     rotate_left
     ·intro w hSw
      try dsimp only at hSw
      go_simp
      try with_reducible rfl
     simp only [Act.put, List.setIfInBounds_toArray, List.set_cons_zero, List.set_cons_succ]
     refine held_take (i := 8) (v := ?_) (some 42) rfl rfl (by kernel_rfl) (by kernel_rfl) (by kernel_rfl) (fun _ _ _ h => h) (Or.inl ⟨by rfl, ?_⟩) hHeld ?_
     rotate_left
     ·intro w hSw
      try dsimp only at hSw
      go_simp
      try with_reducible rfl
     simp only [Act.put, List.setIfInBounds_toArray, List.set_cons_zero, List.set_cons_succ]
     refine held_take (i := 9) (v := ?_) (some 43) rfl rfl (by kernel_rfl) (by kernel_rfl) (by kernel_rfl) (fun _ _ _ h => h) (Or.inl ⟨by rfl, ?_⟩) hHeld ?_
     rotate_left
     ·intro w hSw
      try dsimp only at hSw
      go_simp
      try with_reducible rfl
     simp only [Act.put, List.setIfInBounds_toArray, List.set_cons_zero, List.set_cons_succ]
     refine held_take (i := 10) (v := ?_) (some 44) rfl rfl (by kernel_rfl) (by kernel_rfl) (by kernel_rfl) (fun _ _ _ h => h) (Or.inl ⟨by rfl, ?_⟩) hHeld ?_
     rotate_left
     ·intro w hSw
      try dsimp only at hSw
      go_simp
      try with_reducible rfl
     simp only [Act.put, List.setIfInBounds_toArray, List.set_cons_zero, List.set_cons_succ]
     refine held_take (i := 11) (v := ?_) (some 4) rfl rfl (by kernel_rfl) (by kernel_rfl) (by kernel_rfl) (fun _ _ _ h => h) (Or.inl ⟨by rfl, ?_⟩) hHeld ?_
     rotate_left
     ·intro w hSw
      try dsimp only at hSw
      go_simp
      try with_reducible rfl
     simp only [Act.put, List.setIfInBounds_toArray, List.set_cons_zero, List.set_cons_succ]
     refine held_take (i := 12) (v := ?_) (some 5) rfl rfl (by kernel_rfl) (by kernel_rfl) (by kernel_rfl) (fun _ _ _ h => h) (Or.inl ⟨by rfl, ?_⟩) hHeld ?_
     rotate_left
     ·intro w hSw
      try dsimp only at hSw
      go_simp
      try with_reducible rfl
     simp only [Act.put, List.setIfInBounds_toArray, List.set_cons_zero, List.set_cons_succ]
     refine wpAnyH_ready (rs := [13]) (by kernel_rfl) (by simp) ?_
     refine AllReadyH.cons rfl (fun K hK => ?_) AllReadyH.nil
     go_simp
     replace hHeld := held_four (show w.heap.size ≠ w.heap.size + 1 by omega) (show g ≠ w.heap.size + 1 by have := HGL.out; omega) hHeld (.int .i64 0) (.int .i64 0) (.bool false) (.string ⟨#[]⟩)
     refine hK.out _ _ hHeld (fun _ => ?_)
     clear hK K
     refine wpAnyH_done (by kernel_rfl) ?_ _
     go_wp2
     have hf := (four_blk HF.out (.int .i64 0) (.int .i64 0) (.bool false) (.string ⟨#[]⟩)).drew
     have hbl := (four_below HBW.out (show w.heap.size ≤ w.heap.size + 1 by omega) (.int .i64 0) (.int .i64 0) (.bool false) (.string ⟨#[]⟩)).drew
     clear hHeld
     unfold four at hf hbl
     generalize ((((w0.setCell ⟨w.heap.size + 1, 0, none⟩ (.int .i64 0)).setCell ⟨w.heap.size + 1, 1, none⟩ (.int .i64 0)).setCell ⟨w.heap.size + 1, 2, none⟩ (.bool false)).setCell ⟨w.heap.size + 1, 3, none⟩ (.string ⟨#[]⟩)).drew = wf at *
     have ee0 : wf.cell? ⟨w.heap.size + 1, 0, none⟩ = some (.int .i64 0) := hf.cell 0
     have ee1 : wf.cell? ⟨w.heap.size + 1, 1, none⟩ = some (.int .i64 0) := hf.cell 1
     have ee2 : wf.cell? ⟨w.heap.size + 1, 2, none⟩ = some (.bool false) := hf.cell 2
     have ee3 : wf.cell? ⟨w.heap.size + 1, 3, none⟩ = some (.string ⟨#[]⟩) := hf.cell 3
     refine bodyPost_ret (v := .tuple #[.int .u64 (a : Int), .int .u64 (b : Int), .agg #[.int .i64 0, .int .i64 0, .bool false, .string ⟨#[]⟩]]) ?_ rfl (rpairP_ok HPK.out hbl)
     simp [results, Tryz.results68, go_sem, ee0, ee1, ee2, ee3]
  ·have hli : ((u.kids.length : Nat) : Int) ≠ 2 := by omega
   have hlb : (((u.kids.length : Nat) : Int) != 2) = true := by simp; omega
   have HPF := Lib.hid (pairF_two (p := p) HS.out hl)
   clear hl
   go_wp2_with fail
   ((with_reducible refine (refTrail16 162 p _).mono ?_); rintro e w3 ⟨rfl, hw3⟩)
   have hb3 : Below w0.heap.size w0 w3 := by rw [hw3]; exact (Below.refl _ _).alloc (Nat.le_refl _) _
   have HBW := Lib.hid (HBW.out.trans (hb3.mono HBW.out.size))
   have HF := Lib.hid (HF.out.below hb3 HF.out.lt)
   clear hw3 hb3
   have y0 : w3.cell? ⟨w.heap.size + 1, 0, none⟩ = some (.int .i64 0) := HF.out.cell 0
   have y1 : w3.cell? ⟨w.heap.size + 1, 1, none⟩ = some (.int .i64 0) := HF.out.cell 1
   have y2 : w3.cell? ⟨w.heap.size + 1, 2, none⟩ = some (.bool false) := HF.out.cell 2
   have y3 : w3.cell? ⟨w.heap.size + 1, 3, none⟩ = some (.string ⟨#[]⟩) := HF.out.cell 3
   have r0 := HF.out.frozen 0
   have r1 := HF.out.frozen 1
   have r2 := HF.out.frozen 2
   have r3 := HF.out.frozen 3
   have hkf := HF.out.lt
   go_wp2
   have hf := four_blk HF.out (.int .i64 162) (.int .i64 0) (.bool true) (.string ⟨p.toArray⟩)
   have hbl := four_below HBW.out (show w.heap.size ≤ w.heap.size + 1 by omega) (.int .i64 162) (.int .i64 0) (.bool true) (.string ⟨p.toArray⟩)
   unfold four at hf hbl
   generalize ((((w3.setCell ⟨w.heap.size + 1, 0, none⟩ (.int .i64 162)).setCell ⟨w.heap.size + 1, 1, none⟩ (.int .i64 0)).setCell ⟨w.heap.size + 1, 2, none⟩ (.bool true)).setCell ⟨w.heap.size + 1, 3, none⟩ (.string ⟨p.toArray⟩)) = wf at *
   have ee0 : wf.cell? ⟨w.heap.size + 1, 0, none⟩ = some (.int .i64 162) := hf.cell 0
   have ee1 : wf.cell? ⟨w.heap.size + 1, 1, none⟩ = some (.int .i64 0) := hf.cell 1
   have ee2 : wf.cell? ⟨w.heap.size + 1, 2, none⟩ = some (.bool true) := hf.cell 2
   have ee3 : wf.cell? ⟨w.heap.size + 1, 3, none⟩ = some (.string ⟨p.toArray⟩) := hf.cell 3
   refine bodyPost_ret (v := .tuple #[.int .u64 0, .int .u64 0, .agg #[.int .i64 162, .int .i64 0, .bool true, .string ⟨p.toArray⟩]]) ?_ rfl (rpairP_no HPF.out hbl)
   simp [results, Tryz.results68, go_sem, ee0, ee1, ee2, ee3]
 ·have hsi : ((u.srt : Nat) : Int) ≠ 5 := by omega
  have hsb : (((u.srt : Nat) : Int) != 5) = true := by simp; omega
  have HPF := Lib.hid (pairF_sort (p := p) hs)
  clear hs
  go_wp2_with fail
  ((with_reducible refine (refTrail16 5 p _).mono ?_); rintro e w3 ⟨rfl, hw3⟩)
  have hb3 : Below w0.heap.size w0 w3 := by rw [hw3]; exact (Below.refl _ _).alloc (Nat.le_refl _) _
  have HBW := Lib.hid (HBW.out.trans (hb3.mono HBW.out.size))
  have HF := Lib.hid (HF.out.below hb3 HF.out.lt)
  clear hw3 hb3
  have y0 : w3.cell? ⟨w.heap.size + 1, 0, none⟩ = some (.int .i64 0) := HF.out.cell 0
  have y1 : w3.cell? ⟨w.heap.size + 1, 1, none⟩ = some (.int .i64 0) := HF.out.cell 1
  have y2 : w3.cell? ⟨w.heap.size + 1, 2, none⟩ = some (.bool false) := HF.out.cell 2
  have y3 : w3.cell? ⟨w.heap.size + 1, 3, none⟩ = some (.string ⟨#[]⟩) := HF.out.cell 3
  have r0 := HF.out.frozen 0
  have r1 := HF.out.frozen 1
  have r2 := HF.out.frozen 2
  have r3 := HF.out.frozen 3
  have hkf := HF.out.lt
  go_wp2
  have hf := four_blk HF.out (.int .i64 5) (.int .i64 0) (.bool true) (.string ⟨p.toArray⟩)
  have hbl := four_below HBW.out (show w.heap.size ≤ w.heap.size + 1 by omega) (.int .i64 5) (.int .i64 0) (.bool true) (.string ⟨p.toArray⟩)
  unfold four at hf hbl
  generalize ((((w3.setCell ⟨w.heap.size + 1, 0, none⟩ (.int .i64 5)).setCell ⟨w.heap.size + 1, 1, none⟩ (.int .i64 0)).setCell ⟨w.heap.size + 1, 2, none⟩ (.bool true)).setCell ⟨w.heap.size + 1, 3, none⟩ (.string ⟨p.toArray⟩)) = wf at *
  have ee0 : wf.cell? ⟨w.heap.size + 1, 0, none⟩ = some (.int .i64 5) := hf.cell 0
  have ee1 : wf.cell? ⟨w.heap.size + 1, 1, none⟩ = some (.int .i64 0) := hf.cell 1
  have ee2 : wf.cell? ⟨w.heap.size + 1, 2, none⟩ = some (.bool true) := hf.cell 2
  have ee3 : wf.cell? ⟨w.heap.size + 1, 3, none⟩ = some (.string ⟨p.toArray⟩) := hf.cell 3
  refine bodyPost_ret (v := .tuple #[.int .u64 0, .int .u64 0, .agg #[.int .i64 5, .int .i64 0, .bool true, .string ⟨p.toArray⟩]]) ?_ rfl (rpairP_no HPF.out hbl)
  simp [results, Tryz.results68, go_sem, ee0, ee1, ee2, ee3]
end Nd
end Go.Proofs.YtbajkglacfheiaaGreatDoor
