/-
  Walk of the reference of layer 25: read of a list.
-/
import Derived.Test.YtobaldkipnhlpaaGreatDoorS28
import Derived.Test.YtobaldkipnhlpaaGreatDoorS23
import Derived.Test.YtobaldkipnhlpaaGreatDoorS29
set_option linter.unusedVariables false
set_option linter.unusedSimpArgs false
set_option maxRecDepth 100000
set_option maxHeartbeats 16000000
namespace Go.Proofs.YtobaldkipnhlpaaGreatDoor
open Go.RowKit Mem Utf Ref3 Tok Cl
namespace Nd
theorem list_bad {k : Nat} {al : Bool} {l : List Tr} {ts : List Txt} {u : Tr} {r : List Tr} (h : l = ts.map Tr.text ++ u :: r) (hu : u.isTx = false) : listK k al (.list l) = .inl (5, pathAt k ts.length) := by
 have := textsOf_bad ts u r 0 hu
 rw [← h, Nat.zero_add] at this
 rw [listK, this]
theorem list_twice {k : Nat} {al : Bool} {l : List Tr} {ts : List Txt} {i : Nat} (h : l = ts.map Tr.text) (h2 : twiceAt [] ts 0 = some i) : listK k al (.list l) = .inl (101, pathAt k i) := by
 rw [listK, h, textsOf_map]
 dsimp only
 rw [h2]
theorem list_ok {k : Nat} {al : Bool} {l : List Tr} {ts : List Txt} (h : l = ts.map Tr.text) (h2 : twiceAt [] ts 0 = none) : listK k al (.list l) = .inr ts := by
 rw [listK, h, textsOf_map]
 dsimp only
 rw [h2]
theorem twice_lt : ∀ (l p : List Txt) (i j : Nat), twiceAt p l i = some j → j < i + l.length
 | [], p, i, j, h => by cases h
 | s :: l, p, i, j, h => by
  rw [twiceAt] at h
  split at h
  ·injection h with h
   rw [List.length_cons]
   omega
  ·have := twice_lt l _ _ _ h
   rw [List.length_cons]
   omega
theorem path_len {k : Nat} (hk : k < 8) : (path k).length ≤ 1048576 := by
 have := (key_fine hk).2
 show (47 :: key k).length ≤ _
 rw [List.length_cons]
 omega
noncomputable def rreadTail17 : Code := nextOf (nextOf (nextOf (nextOf (nextOf (Tryz.f30.body.getD .skip)))))
def Pl (k : Nat) (al : Bool) : Prop := k = 3 ∧ al = true ∨ k = 6 ∧ al = false
theorem setK_nolist {k : Nat} {al : Bool} (hk : Pl k al) {t : Tr} {y : Trl} (h : listK k al t = .inl y) (c : C) : setK c k t = .inl y := by
 rcases hk with ⟨rfl, rfl⟩ | ⟨rfl, rfl⟩
 ·exact setK_nolist3 h c
 ·exact setK_nolist6 h c
theorem dc_list {k : Nat} {al : Bool} (hk : Pl k al) {c : C} {v4 v7 : Value} {x : Nat → Txt} {n : Nat → Int} {l : Nat → Value} (h : DC c v4 v7 x n l) {t : Tr} {ts : List Txt} (u : Value) (hs : listK k al t = .inr ts) : ∃ c' u4 u7, setK c k t = .inr c' ∧ c'.has = c.has ∧ DC c' u4 u7 x n (upd l k u) ∧ (u4 = v4 ∧ c'.for_ = c.for_ ∨ u4 = u ∧ c'.for_ = ts) ∧ (u7 = v7 ∧ c'.may_ = c.may_ ∨ u7 = u ∧ c'.may_ = ts) := by
 rcases hk with ⟨rfl, rfl⟩ | ⟨rfl, rfl⟩
 ·obtain ⟨c', h1, h2, h3, h4, h5⟩ := dc_list3 h u hs
  exact ⟨c', _, _, h1, h2, h5, .inr ⟨rfl, h3⟩, .inl ⟨rfl, h4⟩⟩
 ·obtain ⟨c', h1, h2, h3, h4, h5⟩ := dc_list6 h u hs
  exact ⟨c', _, _, h1, h2, h5, .inl ⟨rfl, h4⟩, .inr ⟨rfl, h3⟩⟩
theorem rread_tail (b : Nat → Bool) (x : Nat → Txt) (n : Nat → Int) (l : Nat → Value) (k : Nat) (al : Bool) (t : Tr) (A : Option Addr) (c : Nat) (K : Option Addr) (d : Nat) (w w2 : World) (h : RdVA w2 t ((A, c), (K, d))) (hl : ∀ i, i < 8 → (l i).oneCell' = true) (hkn : t.kids.length ≤ 65536) (hk8 : k < 8) (hk : Pl k al) (hna : (t.isTx && al) = false)
  (h1 : Blk w2 w.heap.size 58 (rCells b x n l)) (h2 : Blk w2 (w.heap.size + 1) 34 #[.int .i64 (t.srt : Nat), .bool t.fl, .int .u64 (t.bi : Nat), .string ⟨t.tx.toArray⟩, .slice A t.kids.length c, .slice K t.kn.length d]) (h3 : Blk w2 (w.heap.size + 2) 58 zero32) (h4 : Blk w2 (w.heap.size + 3) 124 #[.int .i64 0, .string ⟨#[]⟩]) (hb : Below w.heap.size w w2) (z0 z2 z5 z7 z10 z11 z12 z13 z14 z15 z16 z17 z18 z19 z20 z21 z22 z23 z24 z25 z26 z27 z28 z29 z30 z31 z32 z33 z34 z35 z36 z37 z38 z39 z40 z41 z42 z43 z44 z45 z46 z47 z48 z49 z50 z51 z52 z53 z54 z55 z56 z57 z58 z59 z60 z61 z62 z63 z64 z65 z66 z67 z68 z69 z70 z71 z72 z73 z74 z75 z76 z77 z78 z79 z80 z81 z82 z83 z84 z85 z86 z87 z88 z89 z90 z91 z92 z93 z94 z95 z96 z97 z98 z99 z100 z101 z102 z103 z104 z105 z106 z107 z108 z109 z110 z111 z112 z113 z114 z115 z116 z117 z118 z119 z120 z121 z122 z123 z124 z125 z126 z127 z128 z129 z130 z131 z132 z133 z134 : Value) :
  Code.wp Tryz.prog rreadTail17 (bodyPost Tryz.prog Tryz.f30 (RReadP b x n l k t w)) { tmps := (z0 :: .int .i64 (k : Int) :: z2 :: .string ⟨(path k).toArray⟩ :: .pointer (some ⟨w.heap.size, 0, none⟩) :: z5 :: .pointer (some ⟨w.heap.size + 1, 0, none⟩) :: z7 :: .pointer (some ⟨w.heap.size + 1 + 1, 0, none⟩) :: .pointer (some ⟨w.heap.size + 1 + 1 + 1, 0, none⟩) :: z10 :: z11 :: z12 :: z13 :: z14 :: z15 :: z16 :: z17 :: z18 :: z19 :: z20 :: z21 :: z22 :: z23 :: z24 :: z25 :: z26 :: z27 :: z28 :: z29 :: z30 :: z31 :: z32 :: z33 :: z34 :: z35 :: z36 :: z37 :: z38 :: z39 :: z40 :: z41 :: z42 :: z43 :: z44 :: z45 :: z46 :: z47 :: z48 :: z49 :: z50 :: z51 :: z52 :: z53 :: z54 :: z55 :: z56 :: z57 :: z58 :: z59 :: z60 :: z61 :: z62 :: z63 :: z64 :: z65 :: z66 :: z67 :: z68 :: z69 :: z70 :: z71 :: z72 :: z73 :: z74 :: z75 :: z76 :: z77 :: z78 :: z79 :: z80 :: z81 :: z82 :: z83 :: z84 :: z85 :: z86 :: z87 :: z88 :: z89 :: z90 :: z91 :: z92 :: z93 :: z94 :: z95 :: z96 :: z97 :: z98 :: z99 :: z100 :: z101 :: z102 :: z103 :: z104 :: z105 :: z106 :: z107 :: z108 :: z109 :: z110 :: z111 :: z112 :: z113 :: z114 :: z115 :: z116 :: z117 :: z118 :: z119 :: z120 :: z121 :: z122 :: z123 :: z124 :: z125 :: z126 :: z127 :: z128 :: z129 :: z130 :: z131 :: z132 :: z133 :: z134 :: []).toArray, defers := [] } w2 := by
 have HR := Lib.hid h
 have HL := Lib.hid hl
 have HKN := Lib.hid hkn
 have HKE := Lib.hid hk
 have HNA := Lib.hid hna
 have H2 := Lib.hid h2
 have H3 := Lib.hid h3
 have H4 := Lib.hid h4
 have HB := Lib.hid hb
 have hR1 := h1
 have v0 := H2.out.cell 0
 have v4 := H2.out.cell 4
 simp at v0 v4
 have H1 := Lib.hid hR1
 have v2 := True.intro
 have v3 := True.intro
 clear h hl hkn hk hna h1 h2 h3 h4 hb
 conv => arg 2; whnf
 have hcs : (∃ L, t = .list L) ∨ (¬ (t.srt : Int) = 5 ∧ listK k al t = .inl (5, path k)) := by
  rcases ls_cases t with h | ⟨s, hts⟩ | ⟨htn2, hs5, he⟩
  ·exact .inl h
  ·refine .inr ⟨by rw [hts]; simp [Tr.srt], ?_⟩
   have hal : al = false := by
    have := HNA.out
    rw [hts] at this
    simpa [Tr.isTx] using this
   rw [hts, hal]
   rfl
  ·exact .inr ⟨hs5, he k al⟩
 rcases hcs with ⟨L, hts⟩ | ⟨hs5, hle⟩
 ·have HTS := Lib.hid (show t = .list t.kids by rw [hts]; rfl)
  have hs5b : ((t.srt : Int) != 5) = false := by rw [hts]; rfl
  clear hts
  obtain ⟨i0, hi0, hz0, hz1, hz2⟩ := info_parts info_str
  go_wp2_with fail
  have hkl : t.kids.length < 1099511627777 := by have := HKN.out; omega
  clear v0 v2 v3 v4
  have HR1 := Lib.hid hR1
  clear hR1
  go_loopw [11, 12, 13] (fun c11 c12 c13 wr => ∃ ts : List Txt, ts.length ≤ t.kids.length ∧ Hid (t.kids.take ts.length = ts.map Tr.text) ∧ c13 = .int .i64 (ts.length : Nat) ∧ c12 = .int .i64 (twV (twiceAt [] ts 0)) ∧ Hid (wr.ownsRow w2.heap.size 9 1 c11 ts.length (ts.map strV) ∧ Below w2.heap.size w2 wr)) (fun _ _ c13 _ => t.kids.length - (intOf c13).toNat)
  case atStart => exact ⟨[], Nat.zero_le _, Lib.hid rfl, rfl, rfl, Lib.hid ⟨World.ownsRow_nil _ _ _ _, Below.refl _ _⟩⟩
  case round =>
   obtain ⟨ts, hk, HTT, rfl, rfl, HI⟩ := hrel
   have v4 := (H2.out.below HI.out.2 H2.out.lt).cell 4
   simp at v4
   have HBW := Lib.hid (HB.out.trans (HI.out.2.mono HB.out.size))
   by_cases hlt : ts.length < t.kids.length
   ·obtain ⟨xs, hC, hL⟩ := (rdva_below HR.out HI.out.2).kids
    obtain ⟨g, o, xk, rfl, _, _, hcl, hrx⟩ := cells_at hC hL hlt
    obtain ⟨⟨A', c'⟩, K', d'⟩ := xk
    obtain ⟨u, hu⟩ : ∃ u, t.kids[ts.length] = u := ⟨_, rfl⟩
    rw [hu] at hcl
    have HU := Lib.hid (show t.kids.take (ts.length + 1) = ts.map Tr.text ++ [u] by rw [List.take_succ_eq_append_getElem hlt, HTT.out, hu])
    have HUD := Lib.hid (show t.kids = ts.map Tr.text ++ u :: t.kids.drop (ts.length + 1) by rw [← HTT.out, ← hu, ← List.drop_eq_getElem_cons hlt, List.take_append_drop])
    obtain ⟨e0, e1, e2, e3, e4, e5⟩ := hcl
    clear hu hC hL hrx e1 e2 e4 e5
    by_cases htx : u.isTx = true
    ·obtain ⟨s, hs⟩ : ∃ s, u = .text s := by
      cases u with
      | text s => exact ⟨s, rfl⟩
      | null => cases htx
      | flag b => cases htx
      | num b => cases htx
      | list b => cases htx
      | obj a b => cases htx
     subst hs
     clear htx
     have e0' : wr.cell? ⟨g, o + ts.length * 6, none⟩ = some (.int .i64 4) := e0
     have e3' : wr.cell? ⟨g, o + ts.length * 6 + 3, none⟩ = some (.string ⟨s.toArray⟩) := e3
     clear e0 e3
     have HTN : Hid (t.kids.take (ts ++ [s]).length = (ts ++ [s]).map Tr.text) := Lib.hid (by rw [List.length_append, List.length_singleton, HU.out]; simp)
     have HSN := Lib.hid (twiceAt_snoc s ts [] 0)
     obtain ⟨A1, q1, hv1⟩ := own_sliceP HI.out.1
     subst hv1
     have hrd : Rd wr (.slice A1 ts.length q1) ts := Rd.of_own HI.out.1
     obtain ⟨T, hT⟩ : ∃ T, twiceAt [] ts 0 = T := ⟨_, rfl⟩
     rw [hT] at HSN
     rw [hT]
     have HT := Lib.hid hT
     have HRD := Lib.hid hrd
     clear hT hrd
     go_wp2_with fail
     ((with_reducible refine (in_any _ ts s _ HRD.out (by omega)).mono ?_); rintro e w5 ⟨rfl, rfl⟩)
     obtain ⟨hin, hbq⟩ : ∃ hin, inB ts s = hin := ⟨_, rfl⟩
     rw [List.nil_append, hbq] at HSN
     rw [hbq]
     clear hbq HU HUD HTT HR
     have hbig : ts.length < 1099511627776 := by omega
     cases T with
     | none =>
      cases hin with
      | true =>
       have HS2 := Lib.hid (show twV (twiceAt [] (ts ++ [s]) 0) = (ts.length : Int) by rw [HSN.out]; simp [twV])
       clear HSN
       dsimp only [twV]
       go_wp2_with (at_builtin; refine wpList_append_own _ rfl (.tmp 111) (.tmp 118) _ rfl w2.heap.size 9 i0 _ 1 16 Tryz.underlying23 hi0 hz0 hz1 hz2 rfl (by omega) (.slice A1 ts.length q1) ts.length (ts.map strV) rfl (own_below HI.out.1 ((Below.refl _ _).alloc (Nat.le_refl _) _)) ⟨wr.heap.size, 0, none⟩ 1 1 [.string ⟨s.toArray⟩] rfl rfl (one_newP _ _ _) (one_cellP _ rfl) (by unfold maxLen; omega) (by omega) (by have := HI.out.2.size; simp; omega) ?_; intro v9 w9 hown9 hgr9 hnil9)
       have hb9 : Below w2.heap.size w2 w9 := (HI.out.2.alloc HI.out.2.size _).grown hgr9 (by have := HI.out.2.size; simp; omega) (fun q hq => (HI.out.1.lt q hq).1)
       have HN : Hid (w9.ownsRow w2.heap.size 9 1 v9 (ts ++ [s]).length ((ts ++ [s]).map strV) ∧ Below w2.heap.size w2 w9) := Lib.hid ⟨by rw [List.length_append, List.map_append]; exact hown9, hb9⟩
       clear hown9 hgr9 hnil9 hb9
       go_wp2
       go_roundw
       case rel => exact ⟨ts ++ [s], by rw [List.length_append, List.length_singleton]; omega, HTN, by rw [List.length_append, List.length_singleton]; go_num, by rw [HS2.out], HN⟩
       case measure => simp [intOf]; omega
      | false =>
       have HS2 := Lib.hid (show twV (twiceAt [] (ts ++ [s]) 0) = -1 by rw [HSN.out]; simp [twV])
       clear HSN
       dsimp only [twV]
       go_wp2_with (at_builtin; refine wpList_append_own _ rfl (.tmp 111) (.tmp 118) _ rfl w2.heap.size 9 i0 _ 1 16 Tryz.underlying23 hi0 hz0 hz1 hz2 rfl (by omega) (.slice A1 ts.length q1) ts.length (ts.map strV) rfl (own_below HI.out.1 ((Below.refl _ _).alloc (Nat.le_refl _) _)) ⟨wr.heap.size, 0, none⟩ 1 1 [.string ⟨s.toArray⟩] rfl rfl (one_newP _ _ _) (one_cellP _ rfl) (by unfold maxLen; omega) (by omega) (by have := HI.out.2.size; simp; omega) ?_; intro v9 w9 hown9 hgr9 hnil9)
       have hb9 : Below w2.heap.size w2 w9 := (HI.out.2.alloc HI.out.2.size _).grown hgr9 (by have := HI.out.2.size; simp; omega) (fun q hq => (HI.out.1.lt q hq).1)
       have HN : Hid (w9.ownsRow w2.heap.size 9 1 v9 (ts ++ [s]).length ((ts ++ [s]).map strV) ∧ Below w2.heap.size w2 w9) := Lib.hid ⟨by rw [List.length_append, List.map_append]; exact hown9, hb9⟩
       clear hown9 hgr9 hnil9 hb9
       go_wp2
       go_roundw
       case rel => exact ⟨ts ++ [s], by rw [List.length_append, List.length_singleton]; omega, HTN, by rw [List.length_append, List.length_singleton]; go_num, by rw [HS2.out], HN⟩
       case measure => simp [intOf]; omega
     | some i =>
      have HS2 := Lib.hid (show twV (twiceAt [] (ts ++ [s]) 0) = (i : Int) by rw [HSN.out]; rfl)
      clear HSN
      cases hin with
      | true =>
       dsimp only [twV]
       go_wp2_with (at_builtin; refine wpList_append_own _ rfl (.tmp 111) (.tmp 118) _ rfl w2.heap.size 9 i0 _ 1 16 Tryz.underlying23 hi0 hz0 hz1 hz2 rfl (by omega) (.slice A1 ts.length q1) ts.length (ts.map strV) rfl (own_below HI.out.1 ((Below.refl _ _).alloc (Nat.le_refl _) _)) ⟨wr.heap.size, 0, none⟩ 1 1 [.string ⟨s.toArray⟩] rfl rfl (one_newP _ _ _) (one_cellP _ rfl) (by unfold maxLen; omega) (by omega) (by have := HI.out.2.size; simp; omega) ?_; intro v9 w9 hown9 hgr9 hnil9)
       have hb9 : Below w2.heap.size w2 w9 := (HI.out.2.alloc HI.out.2.size _).grown hgr9 (by have := HI.out.2.size; simp; omega) (fun q hq => (HI.out.1.lt q hq).1)
       have HN : Hid (w9.ownsRow w2.heap.size 9 1 v9 (ts ++ [s]).length ((ts ++ [s]).map strV) ∧ Below w2.heap.size w2 w9) := Lib.hid ⟨by rw [List.length_append, List.map_append]; exact hown9, hb9⟩
       clear hown9 hgr9 hnil9 hb9
       go_wp2
       go_roundw
       case rel => exact ⟨ts ++ [s], by rw [List.length_append, List.length_singleton]; omega, HTN, by rw [List.length_append, List.length_singleton]; go_num, by rw [HS2.out], HN⟩
       case measure => simp [intOf]; omega
      | false =>
       dsimp only [twV]
       go_wp2_with (at_builtin; refine wpList_append_own _ rfl (.tmp 111) (.tmp 118) _ rfl w2.heap.size 9 i0 _ 1 16 Tryz.underlying23 hi0 hz0 hz1 hz2 rfl (by omega) (.slice A1 ts.length q1) ts.length (ts.map strV) rfl (own_below HI.out.1 ((Below.refl _ _).alloc (Nat.le_refl _) _)) ⟨wr.heap.size, 0, none⟩ 1 1 [.string ⟨s.toArray⟩] rfl rfl (one_newP _ _ _) (one_cellP _ rfl) (by unfold maxLen; omega) (by omega) (by have := HI.out.2.size; simp; omega) ?_; intro v9 w9 hown9 hgr9 hnil9)
       have hb9 : Below w2.heap.size w2 w9 := (HI.out.2.alloc HI.out.2.size _).grown hgr9 (by have := HI.out.2.size; simp; omega) (fun q hq => (HI.out.1.lt q hq).1)
       have HN : Hid (w9.ownsRow w2.heap.size 9 1 v9 (ts ++ [s]).length ((ts ++ [s]).map strV) ∧ Below w2.heap.size w2 w9) := Lib.hid ⟨by rw [List.length_append, List.map_append]; exact hown9, hb9⟩
       clear hown9 hgr9 hnil9 hb9
       go_wp2
       go_roundw
       case rel => exact ⟨ts ++ [s], by rw [List.length_append, List.length_singleton]; omega, HTN, by rw [List.length_append, List.length_singleton]; go_num, by rw [HS2.out], HN⟩
       case measure => simp [intOf]; omega
    ·rw [Bool.not_eq_true] at htx
     have HBAD := Lib.hid (show listK k al t = .inl (5, pathAt k ts.length) by rw [HTS.out]; exact list_bad HUD.out htx)
     have e0' : wr.cell? ⟨g, o + ts.length * 6, none⟩ = some (.int .i64 (u.srt : Nat)) := e0
     have hs4 : ((u.srt : Int) != 4) = true := by cases u <;> simp_all [Tr.isTx, Tr.srt]
     clear e0 e3 htx HU HUD HTT
     have hin : ts.length ≤ 65536 := by have := HKN.out; omega
     go_wp2_with fail
     have h1 : Blk wr w.heap.size 58 (rCells b x n l) := HR1.out.below HI.out.2 HR1.out.lt
     have h3 : Blk wr (w.heap.size + 1 + 1) 58 zero32 := H3.out.below HI.out.2 H3.out.lt
     have h4 : Blk wr (w.heap.size + 1 + 1 + 1) 124 #[.int .i64 0, .string ⟨#[]⟩] := H4.out.below HI.out.2 H4.out.lt
     have hbw := HBW.out
     have hds : (rCells b x n l).size = 32 := rfl
     have hone : ∀ v ∈ (rCells b x n l).toList, v.oneCell' = true := rCells_one HL.out
     obtain ⟨ds, hdsq⟩ : ∃ ds, rCells b x n l = ds := ⟨_, rfl⟩
     rw [hdsq] at h1 hds hone
     have HDSQ := Lib.hid hdsq
     clear hdsq
     have hzi : (Tryz.prog.info? 58).map (·.size) = some ds.size := by rw [hds]; kernel_rfl
     have hzs : ds.size = (zero32 : Array Value).size := hds
     have hld : ∀ W, Blk W w.heap.size 58 ds → (loadVar 58 ⟨w.heap.size, 0, none⟩).run Tryz.prog W = .ok (.agg ds) W := fun W hW => run_loadVar_row W _ 58 58 _ (0, 0) _ hW Tryz.underlying58 rfl hzi
     obtain ⟨b1, hcat1, hcat2⟩ := cat_place (path k) (path_len hk8)
     have hcat3 := hcat2 (ts.length : Nat) (by omega) (by omega)
     clear hcat2
     refine wp_region_noPanic ?_
     refine wp_region_held (S := fun W => Blk W w.heap.size 58 ds) (by kernel_rfl) ?_
     have hS0 : (fun W => Blk W w.heap.size 58 ds) { wr with drawn := wr.drawn + 1 } := h1.drew
     refine wpAnyH_take (i := 0) (v := .agg ds) rfl (by kernel_rfl) (by kernel_rfl) (by kernel_rfl) (fun _ _ _ h => h.elim) (.inl ⟨rfl, fun W hW => ?_⟩) hS0 ?_
     ·have hl := hld W hW
      simp [execOp, Act.eval, Act.put, Instr.loadAt, Instr.sureAddr, hl]
     refine wpAnyH_take (i := 1) (v := .string ⟨(path k).toArray⟩) rfl (by kernel_rfl) (by kernel_rfl) (by kernel_rfl) (fun _ _ _ h => h.elim) (.inl ⟨rfl, fun W hW => ?_⟩) hS0 ?_
     ·simp [execOp, Act.eval, Act.put, go_sem]
     refine wpAnyH_take (i := 2) (v := .string b1) rfl (by kernel_rfl) (by kernel_rfl) (by kernel_rfl) (fun _ _ _ h => h.elim) (.inl ⟨rfl, fun W hW => ?_⟩) hS0 ?_
     ·have hl := hcat1 W
      simp [execOp, Act.eval, Act.put, eqGuard, hl]
     refine wpAnyH_take (i := 3) (v := .int .i64 (ts.length : Nat)) rfl (by kernel_rfl) (by kernel_rfl) (by kernel_rfl) (fun _ _ _ h => h.elim) (.inl ⟨rfl, fun W hW => ?_⟩) hS0 ?_
     ·simp [execOp, Act.eval, Act.put, go_sem]
     refine wpAnyH_all (rs := [4]) (by kernel_rfl) (by decide) (fun i hi => ?_)
     obtain rfl : i = 4 := by simpa using hi
     refine wpOp_step rfl ?_
     intro K' hK'
     go_simp
     refine (figures_any ts.length (by omega) _).mono ?_
     rintro e w9 ⟨rfl, hb9⟩
     have k1 := h1.drew.below hb9 h1.lt
     have k3 := h3.drew.below hb9 h3.lt
     have k4 := h4.drew.below hb9 h4.lt
     have kb := below_chain hbw.drew hbw.size hb9
     have hS1 : (fun W => Blk W w.heap.size 58 ds) w9 := k1
     refine hK' _ _ ⟨hS1, ?_⟩
     clear hK' K'
     refine wpAnyH_take (i := 5) (v := .string ⟨(path k ++ 47 :: Lib.itoa ((ts.length : Nat) : Int)).toArray⟩) rfl (by kernel_rfl) (by kernel_rfl) (by kernel_rfl) (fun _ _ _ h => h.elim) (.inl ⟨rfl, fun W hW => ?_⟩) hS1 ?_
     ·have hl := hcat3 W
      simp [execOp, Act.eval, Act.put, eqGuard, hl]
     refine wpAnyH_take (i := 6) (v := .agg #[.int .i64 5, .string ⟨(path k ++ 47 :: Lib.itoa ((ts.length : Nat) : Int)).toArray⟩]) rfl (by kernel_rfl) (by kernel_rfl) (by kernel_rfl) (fun _ _ _ h => h.elim) (.inl ⟨rfl, fun W hW => ?_⟩) hS1 ?_
     ·simp [execOp, Act.eval, Act.put, go_sem]
     refine wpAnyH_all (rs := [7]) (by kernel_rfl) (by decide) (fun i hi => ?_)
     obtain rfl : i = 7 := by simpa using hi
     refine wpOp_step rfl ?_
     intro K' hK'
     have hst := run_storeVar_row (P := Tryz.prog) w9 (w.heap.size + 1 + 1) 58 58 zero32 ds k3 hzs hone hzi
     have m1 := putCells_far (g := (w.heap.size + 1 + 1)) (by omega) ds.toList w9 0 _ _ k1
     have m3 : Blk (putCells w9 (w.heap.size + 1 + 1) ds.toList 0) (w.heap.size + 1 + 1) 58 ds := blk_stored9 k3 hzs
     have m4 := putCells_far (g := (w.heap.size + 1 + 1)) (by omega) ds.toList w9 0 _ _ k4
     have mb := putCells_below (B := w.heap.size) (g := (w.heap.size + 1 + 1)) (by omega) ds.toList w w9 0 kb
     split
     rotate_left
     ·rename_i hno
      exact absurd rfl hno
     rename_i hyes
     clear hyes
     unfold Oper.wp
     simp [execOp, Act.eval, Act.put, Instr.storeAt, Instr.sureAddr, hst]
     simp only [Oper.upon]
     refine hK' _ _ ⟨m1, ?_⟩
     clear hK' K' hst
     generalize putCells w9 (w.heap.size + 1 + 1) ds.toList 0 = wz at *
     refine wpAnyH_all (rs := [8]) (by kernel_rfl) (by decide) (fun i hi => ?_)
     obtain rfl : i = 8 := by simpa using hi
     refine wpOp_step rfl ?_
     intro K' hK'
     have hst := run_storeVar_row (P := Tryz.prog) wz (w.heap.size + 1 + 1 + 1) 124 124 #[.int .i64 0, .string ⟨#[]⟩] #[.int .i64 5, .string ⟨(path k ++ 47 :: Lib.itoa ((ts.length : Nat) : Int)).toArray⟩] m4 rfl (by simp [Value.oneCell']) (by kernel_rfl)
     have n1 := putCells_far (g := (w.heap.size + 1 + 1 + 1)) (by omega) [.int .i64 5, .string ⟨(path k ++ 47 :: Lib.itoa ((ts.length : Nat) : Int)).toArray⟩] wz 0 _ _ m1
     have n3 := putCells_far (g := (w.heap.size + 1 + 1 + 1)) (by omega) [.int .i64 5, .string ⟨(path k ++ 47 :: Lib.itoa ((ts.length : Nat) : Int)).toArray⟩] wz 0 _ _ m3
     have n4 : Blk (putCells wz (w.heap.size + 1 + 1 + 1) [.int .i64 5, .string ⟨(path k ++ 47 :: Lib.itoa ((ts.length : Nat) : Int)).toArray⟩] 0) (w.heap.size + 1 + 1 + 1) 124 #[.int .i64 5, .string ⟨(path k ++ 47 :: Lib.itoa ((ts.length : Nat) : Int)).toArray⟩] := blk_stored9 (ds := #[.int .i64 5, .string ⟨(path k ++ 47 :: Lib.itoa ((ts.length : Nat) : Int)).toArray⟩]) m4 rfl
     have nb := putCells_below (B := w.heap.size) (g := (w.heap.size + 1 + 1 + 1)) (by omega) [.int .i64 5, .string ⟨(path k ++ 47 :: Lib.itoa ((ts.length : Nat) : Int)).toArray⟩] w wz 0 mb
     split
     rotate_left
     ·rename_i hno
      exact absurd rfl hno
     rename_i hyes
     clear hyes
     unfold Oper.wp
     simp [execOp, Act.eval, Act.put, Instr.storeAt, Instr.sureAddr, hst]
     simp only [Oper.upon]
     refine hK' _ _ ⟨n1, ?_⟩
     clear hK' K' hst
     generalize putCells wz (w.heap.size + 1 + 1 + 1) [.int .i64 5, .string ⟨(path k ++ 47 :: Lib.itoa ((ts.length : Nat) : Int)).toArray⟩] 0 = wf at *
     refine wpAnyH_done (by kernel_rfl) ?_ _
     refine NoPanic.normal ?_
     go_wp2_with fail
     have l1 := run_loadVar_row (P := Tryz.prog) wf (w.heap.size + 1 + 1) 58 58 ds (0, 0) _ n3 Tryz.underlying58 rfl hzi
     have l2 := run_loadVar_row (P := Tryz.prog) wf (w.heap.size + 1 + 1 + 1) 124 124 #[.int .i64 5, .string ⟨(path k ++ 47 :: Lib.itoa ((ts.length : Nat) : Int)).toArray⟩] (0, 0) _ n4 Tryz.underlying124 rfl (by kernel_rfl)
     refine bodyPost_ret (v := .tuple #[.agg ds, .agg #[.int .i64 5, .string ⟨(path k ++ 47 :: Lib.itoa ((ts.length : Nat) : Int)).toArray⟩]]) (by simp [results, Tryz.results30, asAddr, l1, l2]) rfl ⟨nb, x, n, l, 5, pathAt k ts.length, by rw [HDSQ.out]; rfl, HL.out, by refine .inl ⟨by decide, fun c => ?_⟩; exact setK_nolist HKE.out HBAD.out c⟩
   ·have hle : ts.length = t.kids.length := by omega
    have hel : t.kids = ts.map Tr.text := by rw [← HTT.out, hle, List.take_length]
    have HEL := Lib.hid hel
    obtain ⟨T, hT⟩ : ∃ T, twiceAt [] ts 0 = T := ⟨_, rfl⟩
    rw [hT]
    have hin : ts.length ≤ 65536 := by have := HKN.out; omega
    clear hel HTT hle
    cases T with
    | some i =>
     have HBAD := Lib.hid (show listK k al t = .inl (101, pathAt k i) by rw [HTS.out]; exact list_twice HEL.out hT)
     have hil : i < 0 + ts.length := twice_lt _ _ _ _ hT
     have hin2 : i ≤ 65536 := by omega
     clear hT hin hil
     dsimp only [twV]
     have hge : ((i : Int) ≥ 0) = True := by simp
     go_wp2_with fail
     have h1 : Blk wr w.heap.size 58 (rCells b x n l) := HR1.out.below HI.out.2 HR1.out.lt
     have h3 : Blk wr (w.heap.size + 1 + 1) 58 zero32 := H3.out.below HI.out.2 H3.out.lt
     have h4 : Blk wr (w.heap.size + 1 + 1 + 1) 124 #[.int .i64 0, .string ⟨#[]⟩] := H4.out.below HI.out.2 H4.out.lt
     have hbw := HBW.out
     have hds : (rCells b x n l).size = 32 := rfl
     have hone : ∀ v ∈ (rCells b x n l).toList, v.oneCell' = true := rCells_one HL.out
     obtain ⟨ds, hdsq⟩ : ∃ ds, rCells b x n l = ds := ⟨_, rfl⟩
     rw [hdsq] at h1 hds hone
     have HDSQ := Lib.hid hdsq
     clear hdsq
     have hzi : (Tryz.prog.info? 58).map (·.size) = some ds.size := by rw [hds]; kernel_rfl
     have hzs : ds.size = (zero32 : Array Value).size := hds
     have hld : ∀ W, Blk W w.heap.size 58 ds → (loadVar 58 ⟨w.heap.size, 0, none⟩).run Tryz.prog W = .ok (.agg ds) W := fun W hW => run_loadVar_row W _ 58 58 _ (0, 0) _ hW Tryz.underlying58 rfl hzi
     obtain ⟨b1, hcat1, hcat2⟩ := cat_place (path k) (path_len hk8)
     have hcat3 := hcat2 (i : Nat) (by omega) (by omega)
     clear hcat2
     refine wp_region_noPanic ?_
     refine wp_region_held (S := fun W => Blk W w.heap.size 58 ds) (by kernel_rfl) ?_
     have hS0 : (fun W => Blk W w.heap.size 58 ds) { wr with drawn := wr.drawn + 1 } := h1.drew
     refine wpAnyH_take (i := 0) (v := .agg ds) rfl (by kernel_rfl) (by kernel_rfl) (by kernel_rfl) (fun _ _ _ h => h.elim) (.inl ⟨rfl, fun W hW => ?_⟩) hS0 ?_
     ·have hl := hld W hW
      simp [execOp, Act.eval, Act.put, Instr.loadAt, Instr.sureAddr, hl]
     refine wpAnyH_take (i := 1) (v := .string ⟨(path k).toArray⟩) rfl (by kernel_rfl) (by kernel_rfl) (by kernel_rfl) (fun _ _ _ h => h.elim) (.inl ⟨rfl, fun W hW => ?_⟩) hS0 ?_
     ·simp [execOp, Act.eval, Act.put, go_sem]
     refine wpAnyH_take (i := 2) (v := .string b1) rfl (by kernel_rfl) (by kernel_rfl) (by kernel_rfl) (fun _ _ _ h => h.elim) (.inl ⟨rfl, fun W hW => ?_⟩) hS0 ?_
     ·have hl := hcat1 W
      simp [execOp, Act.eval, Act.put, eqGuard, hl]
     refine wpAnyH_take (i := 3) (v := .int .i64 (i : Nat)) rfl (by kernel_rfl) (by kernel_rfl) (by kernel_rfl) (fun _ _ _ h => h.elim) (.inl ⟨rfl, fun W hW => ?_⟩) hS0 ?_
     ·simp [execOp, Act.eval, Act.put, go_sem]
     refine wpAnyH_all (rs := [4]) (by kernel_rfl) (by decide) (fun i hi => ?_)
     obtain rfl : i = 4 := by simpa using hi
     refine wpOp_step rfl ?_
     intro K' hK'
     go_simp
     refine (figures_any i (by omega) _).mono ?_
     rintro e w9 ⟨rfl, hb9⟩
     have k1 := h1.drew.below hb9 h1.lt
     have k3 := h3.drew.below hb9 h3.lt
     have k4 := h4.drew.below hb9 h4.lt
     have kb := below_chain hbw.drew hbw.size hb9
     have hS1 : (fun W => Blk W w.heap.size 58 ds) w9 := k1
     refine hK' _ _ ⟨hS1, ?_⟩
     clear hK' K'
     refine wpAnyH_take (i := 5) (v := .string ⟨(path k ++ 47 :: Lib.itoa ((i : Nat) : Int)).toArray⟩) rfl (by kernel_rfl) (by kernel_rfl) (by kernel_rfl) (fun _ _ _ h => h.elim) (.inl ⟨rfl, fun W hW => ?_⟩) hS1 ?_
     ·have hl := hcat3 W
      simp [execOp, Act.eval, Act.put, eqGuard, hl]
     refine wpAnyH_take (i := 6) (v := .agg #[.int .i64 101, .string ⟨(path k ++ 47 :: Lib.itoa ((i : Nat) : Int)).toArray⟩]) rfl (by kernel_rfl) (by kernel_rfl) (by kernel_rfl) (fun _ _ _ h => h.elim) (.inl ⟨rfl, fun W hW => ?_⟩) hS1 ?_
     ·simp [execOp, Act.eval, Act.put, go_sem]
     refine wpAnyH_all (rs := [7]) (by kernel_rfl) (by decide) (fun i hi => ?_)
     obtain rfl : i = 7 := by simpa using hi
     refine wpOp_step rfl ?_
     intro K' hK'
     have hst := run_storeVar_row (P := Tryz.prog) w9 (w.heap.size + 1 + 1) 58 58 zero32 ds k3 hzs hone hzi
     have m1 := putCells_far (g := (w.heap.size + 1 + 1)) (by omega) ds.toList w9 0 _ _ k1
     have m3 : Blk (putCells w9 (w.heap.size + 1 + 1) ds.toList 0) (w.heap.size + 1 + 1) 58 ds := blk_stored9 k3 hzs
     have m4 := putCells_far (g := (w.heap.size + 1 + 1)) (by omega) ds.toList w9 0 _ _ k4
     have mb := putCells_below (B := w.heap.size) (g := (w.heap.size + 1 + 1)) (by omega) ds.toList w w9 0 kb
     split
     rotate_left
     ·rename_i hno
      exact absurd rfl hno
     rename_i hyes
     clear hyes
     unfold Oper.wp
     simp [execOp, Act.eval, Act.put, Instr.storeAt, Instr.sureAddr, hst]
     simp only [Oper.upon]
     refine hK' _ _ ⟨m1, ?_⟩
     clear hK' K' hst
     generalize putCells w9 (w.heap.size + 1 + 1) ds.toList 0 = wz at *
     refine wpAnyH_all (rs := [8]) (by kernel_rfl) (by decide) (fun i hi => ?_)
     obtain rfl : i = 8 := by simpa using hi
     refine wpOp_step rfl ?_
     intro K' hK'
     have hst := run_storeVar_row (P := Tryz.prog) wz (w.heap.size + 1 + 1 + 1) 124 124 #[.int .i64 0, .string ⟨#[]⟩] #[.int .i64 101, .string ⟨(path k ++ 47 :: Lib.itoa ((i : Nat) : Int)).toArray⟩] m4 rfl (by simp [Value.oneCell']) (by kernel_rfl)
     have n1 := putCells_far (g := (w.heap.size + 1 + 1 + 1)) (by omega) [.int .i64 101, .string ⟨(path k ++ 47 :: Lib.itoa ((i : Nat) : Int)).toArray⟩] wz 0 _ _ m1
     have n3 := putCells_far (g := (w.heap.size + 1 + 1 + 1)) (by omega) [.int .i64 101, .string ⟨(path k ++ 47 :: Lib.itoa ((i : Nat) : Int)).toArray⟩] wz 0 _ _ m3
     have n4 : Blk (putCells wz (w.heap.size + 1 + 1 + 1) [.int .i64 101, .string ⟨(path k ++ 47 :: Lib.itoa ((i : Nat) : Int)).toArray⟩] 0) (w.heap.size + 1 + 1 + 1) 124 #[.int .i64 101, .string ⟨(path k ++ 47 :: Lib.itoa ((i : Nat) : Int)).toArray⟩] := blk_stored9 (ds := #[.int .i64 101, .string ⟨(path k ++ 47 :: Lib.itoa ((i : Nat) : Int)).toArray⟩]) m4 rfl
     have nb := putCells_below (B := w.heap.size) (g := (w.heap.size + 1 + 1 + 1)) (by omega) [.int .i64 101, .string ⟨(path k ++ 47 :: Lib.itoa ((i : Nat) : Int)).toArray⟩] w wz 0 mb
     split
     rotate_left
     ·rename_i hno
      exact absurd rfl hno
     rename_i hyes
     clear hyes
     unfold Oper.wp
     simp [execOp, Act.eval, Act.put, Instr.storeAt, Instr.sureAddr, hst]
     simp only [Oper.upon]
     refine hK' _ _ ⟨n1, ?_⟩
     clear hK' K' hst
     generalize putCells wz (w.heap.size + 1 + 1 + 1) [.int .i64 101, .string ⟨(path k ++ 47 :: Lib.itoa ((i : Nat) : Int)).toArray⟩] 0 = wf at *
     refine wpAnyH_done (by kernel_rfl) ?_ _
     refine NoPanic.normal ?_
     go_wp2_with fail
     have l1 := run_loadVar_row (P := Tryz.prog) wf (w.heap.size + 1 + 1) 58 58 ds (0, 0) _ n3 Tryz.underlying58 rfl hzi
     have l2 := run_loadVar_row (P := Tryz.prog) wf (w.heap.size + 1 + 1 + 1) 124 124 #[.int .i64 101, .string ⟨(path k ++ 47 :: Lib.itoa ((i : Nat) : Int)).toArray⟩] (0, 0) _ n4 Tryz.underlying124 rfl (by kernel_rfl)
     refine bodyPost_ret (v := .tuple #[.agg ds, .agg #[.int .i64 101, .string ⟨(path k ++ 47 :: Lib.itoa ((i : Nat) : Int)).toArray⟩]]) (by simp [results, Tryz.results30, asAddr, l1, l2]) rfl ⟨nb, x, n, l, 101, pathAt k i, by rw [HDSQ.out]; rfl, HL.out, by refine .inl ⟨by decide, fun c => ?_⟩; exact setK_nolist HKE.out HBAD.out c⟩
    | none =>
     have HOK := Lib.hid (show listK k al t = .inr ts by rw [HTS.out]; exact list_ok HEL.out hT)
     clear hT
     dsimp only [twV]
     obtain ⟨A1, q1, hv1⟩ := own_sliceP HI.out.1
     subst hv1
     have hlt4 : w.heap.size + 4 ≤ w2.heap.size := by have := H4.out.lt; omega
     have hR2 := HR1.out.below HI.out.2 HR1.out.lt
     have c0 := rCells_at_l hR2 hk8
     have z0 := hR2.frozen (24 + k)
     have hR3 := hR2.put (24 + k) (.slice A1 ts.length q1)
     rw [rCells_l b x n l hk8 (.slice A1 ts.length q1)] at hR3
     have HD := Lib.hid hR3
     replace H3 := Lib.hid ((H3.out.below HI.out.2 H3.out.lt).far (p := ⟨w.heap.size, 24 + k, none⟩) (by show w.heap.size + 2 ≠ w.heap.size; omega) (.slice A1 ts.length q1))
     replace H4 := Lib.hid ((H4.out.below HI.out.2 H4.out.lt).far (p := ⟨w.heap.size, 24 + k, none⟩) (by show w.heap.size + 3 ≠ w.heap.size; omega) (.slice A1 ts.length q1))
     have HOW := Lib.hid (own_frame HI.out.1 hlt4 (w' := (wr).setCell ⟨w.heap.size, 24 + k, none⟩ (.slice A1 ts.length q1)) (fun g t cs hg hB => hB.far (by show g ≠ w.heap.size; omega) _))
     replace HB := Lib.hid (HBW.out.setCell (p := ⟨w.heap.size, 24 + k, none⟩) (Nat.le_refl _) (.slice A1 ts.length q1))
     have HL2 := Lib.hid (upd_one HL.out k (u := (.slice A1 ts.length q1)) rfl)
     clear hR2 hR3 hlt4
     have hneg : ((-1 : Int) ≥ 0) = False := by simp
     clear H1 H2
     have hds : (rCells b x n (upd l k (.slice A1 ts.length q1))).size = 32 := rfl
     have hone : ∀ v ∈ (rCells b x n (upd l k (.slice A1 ts.length q1))).toList, v.oneCell' = true := rCells_one HL2.out
     have hD := HD.out
     have hDS : Hid (∃ x' n' l', rCells b x n (upd l k (.slice A1 ts.length q1)) = rCells b x' n' l' ∧ rCells b x n (upd l k (.slice A1 ts.length q1)) = rCells b x n (upd l k (.slice A1 ts.length q1))) := Lib.hid ⟨_, _, _, rfl, rfl⟩
     generalize hdsq : rCells b x n (upd l k (.slice A1 ts.length q1)) = ds at *
     have HDSQ := Lib.hid hdsq
     clear hdsq hDS
     have h3 : Blk (wr.setCell ⟨w.heap.size, 24 + k, none⟩ (.slice A1 ts.length q1)) (w.heap.size + 1 + 1) 58 zero32 := H3.out
     have h4 : Blk (wr.setCell ⟨w.heap.size, 24 + k, none⟩ (.slice A1 ts.length q1)) (w.heap.size + 1 + 1 + 1) 124 #[.int .i64 0, .string ⟨#[]⟩] := H4.out
     have hzi : (Tryz.prog.info? 58).map (·.size) = some ds.size := by rw [hds]; kernel_rfl
     have hzs : ds.size = (zero32 : Array Value).size := hds
     have hb3 : Blk (putCells (wr.setCell ⟨w.heap.size, 24 + k, none⟩ (.slice A1 ts.length q1)) (w.heap.size + 1 + 1) ds.toList 0) (w.heap.size + 1 + 1) 58 ds := blk_stored9 h3 hzs
     have hb4 : Blk (putCells (wr.setCell ⟨w.heap.size, 24 + k, none⟩ (.slice A1 ts.length q1)) (w.heap.size + 1 + 1) ds.toList 0) (w.heap.size + 1 + 1 + 1) 124 #[.int .i64 0, .string ⟨#[]⟩] := putCells_far (by omega) ds.toList (wr.setCell ⟨w.heap.size, 24 + k, none⟩ (.slice A1 ts.length q1)) 0 _ _ h4
     have hbb : Below w.heap.size w (putCells (wr.setCell ⟨w.heap.size, 24 + k, none⟩ (.slice A1 ts.length q1)) (w.heap.size + 1 + 1) ds.toList 0) := putCells_below (by omega) ds.toList w (wr.setCell ⟨w.heap.size, 24 + k, none⟩ (.slice A1 ts.length q1)) 0 HB.out
     have t0 := hb4.cell 0
     have t1 := hb4.cell 1
     have f0 := hb4.frozen 0
     have f1 := hb4.frozen 1
     simp at t0 t1
     have hb5 := (hb4.put 0 (.int .i64 0)).put 1 (.string ⟨#[]⟩)
     have hb6 := (hb3.far (p := ⟨(w.heap.size + 1 + 1 + 1), 0, none⟩) (by show (w.heap.size + 1 + 1) ≠ (w.heap.size + 1 + 1 + 1); omega) (.int .i64 0)).far (p := ⟨(w.heap.size + 1 + 1 + 1), 1, none⟩) (by show (w.heap.size + 1 + 1) ≠ (w.heap.size + 1 + 1 + 1); omega) (.string ⟨#[]⟩)
     have hb7 := (hbb.setCell (p := ⟨(w.heap.size + 1 + 1 + 1), 0, none⟩) (by show w.heap.size ≤ (w.heap.size + 1 + 1 + 1); omega) (.int .i64 0)).setCell (p := ⟨(w.heap.size + 1 + 1 + 1), 1, none⟩) (by show w.heap.size ≤ (w.heap.size + 1 + 1 + 1); omega) (.string ⟨#[]⟩)
     have HF := Lib.hid (And.intro hb5 (And.intro hb6 hb7))
     have HFR : Hid (∀ g t cs, w.heap.size + 4 ≤ g → Blk (wr.setCell ⟨w.heap.size, 24 + k, none⟩ (.slice A1 ts.length q1)) g t cs → Blk (((putCells (wr.setCell ⟨w.heap.size, 24 + k, none⟩ (.slice A1 ts.length q1)) (w.heap.size + 1 + 1) ds.toList 0).setCell ⟨(w.heap.size + 1 + 1 + 1), 0, none⟩ (.int .i64 0)).setCell ⟨(w.heap.size + 1 + 1 + 1), 1, none⟩ (.string ⟨#[]⟩)) g t cs) := Lib.hid (fun g t cs hg hB => ((putCells_far (by omega) ds.toList (wr.setCell ⟨w.heap.size, 24 + k, none⟩ (.slice A1 ts.length q1)) 0 _ _ hB).far (p := ⟨(w.heap.size + 1 + 1 + 1), 0, none⟩) (by show g ≠ (w.heap.size + 1 + 1 + 1); omega) _).far (p := ⟨(w.heap.size + 1 + 1 + 1), 1, none⟩) (by show g ≠ (w.heap.size + 1 + 1 + 1); omega) _)
     have hDu := hD
     unfold Blk at hDu
     clear hb3 hb4 hb5 hb6 hb7 hbb H3 H4 HD
     go_wp2_with (first | refine wpList_load_row rfl 58 (.tmp 4) rfl _ rfl 58 _ (0, 0) _ hDu Tryz.underlying58 rfl hzi ?_ | refine wpList_store_row rfl 58 (.tmp 8) (.tmp 133) rfl (w.heap.size + 1 + 1) 58 zero32 ds rfl rfl h3 hzs hone hzi rfl ?_)
     obtain ⟨g5, g6, g7⟩ := HF.out
     clear c0 z0 v4 HF t0 t1 f0 f1 h3 h4 hD hDu
     generalize (((putCells (wr.setCell ⟨w.heap.size, 24 + k, none⟩ (.slice A1 ts.length q1)) (w.heap.size + 1 + 1) ds.toList 0).setCell ⟨(w.heap.size + 1 + 1 + 1), 0, none⟩ (.int .i64 0)).setCell ⟨(w.heap.size + 1 + 1 + 1), 1, none⟩ (.string ⟨#[]⟩)) = Wf at *
     have l1 := run_loadVar_row (P := Tryz.prog) Wf (w.heap.size + 1 + 1) 58 58 ds (0, 0) _ g6 Tryz.underlying58 rfl hzi
     have g5' : Blk Wf (w.heap.size + 1 + 1 + 1) 124 #[.int .i64 0, .string ⟨#[]⟩] := g5
     have l2 := run_loadVar_row (P := Tryz.prog) Wf (w.heap.size + 1 + 1 + 1) 124 124 #[.int .i64 0, .string ⟨#[]⟩] (0, 0) _ g5' Tryz.underlying124 rfl (by kernel_rfl)
     refine bodyPost_ret (v := .tuple #[.agg ds, .agg #[.int .i64 0, .string ⟨#[]⟩]]) (by simp [results, Tryz.results30, asAddr, l1, l2]) rfl ⟨g7, x, n, upd l k (.slice A1 ts.length q1), 0, [], by rw [HDSQ.out], HL2.out, by refine .inr ⟨rfl, (by obtain ⟨c', _, _, h1, _⟩ := dc_list HKE.out dc_zero (.slice A1 ts.length q1) HOK.out; exact ⟨_, c', h1⟩), fun c v4 v7 h => ?_⟩; obtain ⟨c', u4, u7, h1, h2, h5, h3, h4⟩ := dc_list HKE.out h (.slice A1 ts.length q1) HOK.out; exact ⟨c', u4, u7, h1, h2, h5, h3.imp id (fun ⟨e1, e2⟩ => by rw [e1, e2]; exact own_frame HOW.out (by omega) HFR.out), h4.imp id (fun ⟨e1, e2⟩ => by rw [e1, e2]; exact own_frame HOW.out (by omega) HFR.out)⟩⟩
 ·have HLE := Lib.hid hle
  have HD := Lib.hid hR1
  have HL2 := HL
  clear hR1
  have hs5b : ((t.srt : Int) != 5) = true := by simpa using hs5
  go_upto_region 18 with fail
  generalize w2 = W3 at *
  clear H1 H2 v0 v2 v3 v4
  have hds : (rCells b x n l).size = 32 := rfl
  have hone : ∀ v ∈ (rCells b x n l).toList, v.oneCell' = true := rCells_one HL2.out
  have hD := HD.out
  have hDS : Hid (∃ x' n' l', rCells b x n l = rCells b x' n' l' ∧ rCells b x n l = rCells b x n l) := Lib.hid ⟨_, _, _, rfl, rfl⟩
  generalize hdsq : rCells b x n l = ds at *
  have HDSQ := Lib.hid hdsq
  clear hdsq hDS
  have h3 : Blk W3 (w.heap.size + 1 + 1) 58 zero32 := H3.out
  have h4 : Blk W3 (w.heap.size + 1 + 1 + 1) 124 #[.int .i64 0, .string ⟨#[]⟩] := H4.out
  have hzi : (Tryz.prog.info? 58).map (·.size) = some ds.size := by rw [hds]; kernel_rfl
  have hzs : ds.size = (zero32 : Array Value).size := hds
  have hb3 : Blk (putCells W3 (w.heap.size + 1 + 1) ds.toList 0) (w.heap.size + 1 + 1) 58 ds := blk_stored9 h3 hzs
  have hb4 : Blk (putCells W3 (w.heap.size + 1 + 1) ds.toList 0) (w.heap.size + 1 + 1 + 1) 124 #[.int .i64 0, .string ⟨#[]⟩] := putCells_far (by omega) ds.toList W3 0 _ _ h4
  have hbb : Below w.heap.size w (putCells W3 (w.heap.size + 1 + 1) ds.toList 0) := putCells_below (by omega) ds.toList w W3 0 HB.out
  have t0 := hb4.cell 0
  have t1 := hb4.cell 1
  have f0 := hb4.frozen 0
  have f1 := hb4.frozen 1
  simp at t0 t1
  have hb5 := (hb4.put 0 (.int .i64 5)).put 1 (.string ⟨(path k).toArray⟩)
  have hb6 := (hb3.far (p := ⟨(w.heap.size + 1 + 1 + 1), 0, none⟩) (by show (w.heap.size + 1 + 1) ≠ (w.heap.size + 1 + 1 + 1); omega) (.int .i64 5)).far (p := ⟨(w.heap.size + 1 + 1 + 1), 1, none⟩) (by show (w.heap.size + 1 + 1) ≠ (w.heap.size + 1 + 1 + 1); omega) (.string ⟨(path k).toArray⟩)
  have hb7 := (hbb.setCell (p := ⟨(w.heap.size + 1 + 1 + 1), 0, none⟩) (by show w.heap.size ≤ (w.heap.size + 1 + 1 + 1); omega) (.int .i64 5)).setCell (p := ⟨(w.heap.size + 1 + 1 + 1), 1, none⟩) (by show w.heap.size ≤ (w.heap.size + 1 + 1 + 1); omega) (.string ⟨(path k).toArray⟩)
  have HF := Lib.hid (And.intro hb5 (And.intro hb6 hb7))
  have HFR : Hid (∀ g t cs, w.heap.size + 4 ≤ g → Blk W3 g t cs → Blk (((putCells W3 (w.heap.size + 1 + 1) ds.toList 0).setCell ⟨(w.heap.size + 1 + 1 + 1), 0, none⟩ (.int .i64 5)).setCell ⟨(w.heap.size + 1 + 1 + 1), 1, none⟩ (.string ⟨(path k).toArray⟩)) g t cs) := Lib.hid (fun g t cs hg hB => ((putCells_far (by omega) ds.toList W3 0 _ _ hB).far (p := ⟨(w.heap.size + 1 + 1 + 1), 0, none⟩) (by show g ≠ (w.heap.size + 1 + 1 + 1); omega) _).far (p := ⟨(w.heap.size + 1 + 1 + 1), 1, none⟩) (by show g ≠ (w.heap.size + 1 + 1 + 1); omega) _)
  have hDu := hD
  unfold Blk at hDu
  clear hb3 hb4 hb5 hb6 hb7 hbb H3 H4 HD
  go_wp2_with (first | refine wpList_load_row rfl 58 (.tmp 4) rfl _ rfl 58 _ (0, 0) _ hDu Tryz.underlying58 rfl hzi ?_ | refine wpList_store_row rfl 58 (.tmp 8) (.tmp 74) rfl (w.heap.size + 1 + 1) 58 zero32 ds rfl rfl h3 hzs hone hzi rfl ?_)
  obtain ⟨g5, g6, g7⟩ := HF.out
  clear HF t0 t1 f0 f1 h3 h4 hD hDu
  generalize (((putCells W3 (w.heap.size + 1 + 1) ds.toList 0).setCell ⟨(w.heap.size + 1 + 1 + 1), 0, none⟩ (.int .i64 5)).setCell ⟨(w.heap.size + 1 + 1 + 1), 1, none⟩ (.string ⟨(path k).toArray⟩)) = Wf at *
  have l1 := run_loadVar_row (P := Tryz.prog) Wf (w.heap.size + 1 + 1) 58 58 ds (0, 0) _ g6 Tryz.underlying58 rfl hzi
  have g5' : Blk Wf (w.heap.size + 1 + 1 + 1) 124 #[.int .i64 5, .string ⟨(path k).toArray⟩] := g5
  have l2 := run_loadVar_row (P := Tryz.prog) Wf (w.heap.size + 1 + 1 + 1) 124 124 #[.int .i64 5, .string ⟨(path k).toArray⟩] (0, 0) _ g5' Tryz.underlying124 rfl (by kernel_rfl)
  refine bodyPost_ret (v := .tuple #[.agg ds, .agg #[.int .i64 5, .string ⟨(path k).toArray⟩]]) (by simp [results, Tryz.results30, asAddr, l1, l2]) rfl ⟨g7, x, n, l, 5, path k, by rw [HDSQ.out], HL2.out, by refine .inl ⟨by decide, fun c => ?_⟩; exact setK_nolist HKE.out HLE.out c⟩
theorem rread_list3 (b : Nat → Bool) (x : Nat → Txt) (n : Nat → Int) (l : Nat → Value) (k : Nat) (t : Tr) (A : Option Addr) (c : Nat) (K : Option Addr) (d : Nat) (w : World) (h : RdVA w t ((A, c), (K, d))) (hl : ∀ i, i < 8 → (l i).oneCell' = true) (hbi : t.bi < 18446744073709551616) (hkn : t.kids.length ≤ 65536) (htx : t.tx.length ≤ 4398046511104) (hk : k = 3) :
  Calls Tryz.prog 30 #[.agg (rCells b x n l), .int .i64 (k : Int), valV t A c K d, .string ⟨(path k).toArray⟩] w (RReadP b x n l k t w) := by
 have hba : Below w.heap.size w ((((w.alloc (.cells (rc32 b x n l) 58)).alloc (.cells #[.int .i64 (t.srt : Nat), .bool t.fl, .int .u64 (t.bi : Nat), .string ⟨t.tx.toArray⟩, .slice A t.kids.length c, .slice K t.kn.length d] 34)).alloc (.cells zero32 58)).alloc (.cells #[.int .i64 0, .string ⟨#[]⟩] 124)) := ((((Below.refl _ _).alloc (Nat.le_refl _) _).alloc (by simp) _).alloc (by simp; omega) _).alloc (by simp; omega) _
 have hB1 : Blk ((((w.alloc (.cells (rc32 b x n l) 58)).alloc (.cells #[.int .i64 (t.srt : Nat), .bool t.fl, .int .u64 (t.bi : Nat), .string ⟨t.tx.toArray⟩, .slice A t.kids.length c, .slice K t.kn.length d] 34)).alloc (.cells zero32 58)).alloc (.cells #[.int .i64 0, .string ⟨#[]⟩] 124)) w.heap.size 58 (rc32 b x n l) := ((Blk.new w 58 (rc32 b x n l)).alloc _ |>.alloc _).alloc _
 have hB2 : Blk ((((w.alloc (.cells (rc32 b x n l) 58)).alloc (.cells #[.int .i64 (t.srt : Nat), .bool t.fl, .int .u64 (t.bi : Nat), .string ⟨t.tx.toArray⟩, .slice A t.kids.length c, .slice K t.kn.length d] 34)).alloc (.cells zero32 58)).alloc (.cells #[.int .i64 0, .string ⟨#[]⟩] 124)) (w.heap.size + 1) 34 #[.int .i64 (t.srt : Nat), .bool t.fl, .int .u64 (t.bi : Nat), .string ⟨t.tx.toArray⟩, .slice A t.kids.length c, .slice K t.kn.length d] := by
  have := ((Blk.new (w.alloc (.cells (rc32 b x n l) 58)) 34 #[.int .i64 (t.srt : Nat), .bool t.fl, .int .u64 (t.bi : Nat), .string ⟨t.tx.toArray⟩, .slice A t.kids.length c, .slice K t.kn.length d]).alloc (.cells zero32 58)).alloc (.cells #[.int .i64 0, .string ⟨#[]⟩] 124)
  rwa [World.size_alloc] at this
 have hB3 : Blk ((((w.alloc (.cells (rc32 b x n l) 58)).alloc (.cells #[.int .i64 (t.srt : Nat), .bool t.fl, .int .u64 (t.bi : Nat), .string ⟨t.tx.toArray⟩, .slice A t.kids.length c, .slice K t.kn.length d] 34)).alloc (.cells zero32 58)).alloc (.cells #[.int .i64 0, .string ⟨#[]⟩] 124)) (w.heap.size + 2) 58 zero32 := by
  have := (Blk.new ((w.alloc (.cells (rc32 b x n l) 58)).alloc (.cells #[.int .i64 (t.srt : Nat), .bool t.fl, .int .u64 (t.bi : Nat), .string ⟨t.tx.toArray⟩, .slice A t.kids.length c, .slice K t.kn.length d] 34)) 58 zero32).alloc (.cells #[.int .i64 0, .string ⟨#[]⟩] 124)
  rwa [World.size_alloc, World.size_alloc] at this
 have hB4 : Blk ((((w.alloc (.cells (rc32 b x n l) 58)).alloc (.cells #[.int .i64 (t.srt : Nat), .bool t.fl, .int .u64 (t.bi : Nat), .string ⟨t.tx.toArray⟩, .slice A t.kids.length c, .slice K t.kn.length d] 34)).alloc (.cells zero32 58)).alloc (.cells #[.int .i64 0, .string ⟨#[]⟩] 124)) (w.heap.size + 3) 124 #[.int .i64 0, .string ⟨#[]⟩] := by
  have := Blk.new (((w.alloc (.cells (rc32 b x n l) 58)).alloc (.cells #[.int .i64 (t.srt : Nat), .bool t.fl, .int .u64 (t.bi : Nat), .string ⟨t.tx.toArray⟩, .slice A t.kids.length c, .slice K t.kn.length d] 34)).alloc (.cells zero32 58)) 124 #[.int .i64 0, .string ⟨#[]⟩]
  rwa [World.size_alloc, World.size_alloc, World.size_alloc] at this
 have HR := Lib.hid (rdva_below h hba)
 have HL := Lib.hid hl
 have HB := Lib.hid hba
 have H1 := Lib.hid hB1
 have H2 := Lib.hid hB2
 have H3 := Lib.hid hB3
 have H4 := Lib.hid hB4
 have HKE := Lib.hid hk
 clear hk
 have HBI := Lib.hid hbi
 have HKN := Lib.hid hkn
 have HTX := Lib.hid htx
 clear h hl hba hB1 hB2 hB3 hB4 hbi hkn htx
 unfold rCells
 go_enter Tryz.func30, Tryz.ntmps30
 go_upto_region 1 with fail
 generalize ((((w.alloc (.cells (rc32 b x n l) 58)).alloc (.cells #[.int .i64 (t.srt : Nat), .bool t.fl, .int .u64 (t.bi : Nat), .string ⟨t.tx.toArray⟩, .slice A t.kids.length c, .slice K t.kn.length d] 34)).alloc (.cells zero32 58)).alloc (.cells #[.int .i64 0, .string ⟨#[]⟩] 124)) = w1 at *
 go_wp2_with fail
 have hk8 : k < 8 := by have := HKE.out; omega
 ((with_reducible refine (refKinds_any _).mono ?_); rintro e w2 ⟨rfl, hb⟩)
 have hki := kind_index k hk8
 have hko : kindOf k = 3 := by have hk := HKE.out; subst hk <;> rfl
 rw [hko] at hki
 clear hko
 replace HR := Lib.hid (rdva_below HR.out hb)
 replace H1 := Lib.hid (H1.out.below hb H1.out.lt)
 replace H2 := Lib.hid (H2.out.below hb H2.out.lt)
 replace H3 := Lib.hid (H3.out.below hb H3.out.lt)
 replace H4 := Lib.hid (H4.out.below hb H4.out.lt)
 replace HB := Lib.hid (HB.out.trans (hb.mono HB.out.size))
 clear hb
 have hR1 : Blk w2 w.heap.size 58 (rCells b x n l) := H1.out
 have v0 := H2.out.cell 0
 have v2 := H2.out.cell 2
 have v3 := H2.out.cell 3
 have v4 := H2.out.cell 4
 simp at v0 v2 v3 v4
 rcases tx_cases t with ⟨s, hts⟩ | ⟨htn, _⟩
 ·have HTS := Lib.hid (show t = .text t.tx by rw [hts]; rfl)
  have hsr : ((t.srt : Int) == 4) = true := by rw [hts]; rfl
  have hlt4 : w.heap.size + 4 ≤ w2.heap.size := by have := H4.out.lt; omega
  clear hts
  have hba2 : Below w2.heap.size w2 (w2.alloc (.cells #[.string ⟨t.tx.toArray⟩] 9)) := (Below.refl _ _).alloc (Nat.le_refl _) _
  have hOW : ((w2.alloc (.cells #[.string ⟨t.tx.toArray⟩] 9))).ownsRow w2.heap.size 9 1 (.slice (some ⟨w2.heap.size, 0, none⟩) 1 1) 1 [.string ⟨t.tx.toArray⟩] := World.ownsRow_lit w2 #[.string ⟨t.tx.toArray⟩] 1 (Nat.le_refl _) (by unfold maxLen; omega) rfl
  have hR2 := hR1.below hba2 hR1.lt
  have c0 := rCells_at_l hR2 hk8
  have z0 := hR2.frozen (24 + k)
  have hR3 := hR2.put (24 + k) (.slice (some ⟨w2.heap.size, 0, none⟩) 1 1)
  rw [rCells_l b x n l hk8 (.slice (some ⟨w2.heap.size, 0, none⟩) 1 1)] at hR3
  have HD := Lib.hid hR3
  replace H3 := Lib.hid ((H3.out.below hba2 H3.out.lt).far (p := ⟨w.heap.size, 24 + k, none⟩) (by show w.heap.size + 2 ≠ w.heap.size; omega) (.slice (some ⟨w2.heap.size, 0, none⟩) 1 1))
  replace H4 := Lib.hid ((H4.out.below hba2 H4.out.lt).far (p := ⟨w.heap.size, 24 + k, none⟩) (by show w.heap.size + 3 ≠ w.heap.size; omega) (.slice (some ⟨w2.heap.size, 0, none⟩) 1 1))
  have hlt2 := hR1.lt
  have HOW := Lib.hid (own_frame hOW hlt4 (w' := ((w2.alloc (.cells #[.string ⟨t.tx.toArray⟩] 9))).setCell ⟨w.heap.size, 24 + k, none⟩ (.slice (some ⟨w2.heap.size, 0, none⟩) 1 1)) (fun g t cs hg hB => hB.far (by show g ≠ w.heap.size; omega) _))
  replace HB := Lib.hid ((HB.out.trans (hba2.mono HB.out.size)).setCell (p := ⟨w.heap.size, 24 + k, none⟩) (Nat.le_refl _) (.slice (some ⟨w2.heap.size, 0, none⟩) 1 1))
  have HL2 := Lib.hid (upd_one HL.out k (u := (.slice (some ⟨w2.heap.size, 0, none⟩) 1 1)) rfl)
  clear hR1 hR2 hR3 hOW hba2 hlt2 hlt4
  go_upto_region 16 with fail
  generalize ((w2.alloc (.cells #[.string ⟨t.tx.toArray⟩] 9))).setCell ⟨w.heap.size, 24 + k, none⟩ (.slice (some ⟨w2.heap.size, 0, none⟩) 1 1) = W3 at *
  clear H1 H2 c0 z0 v0 v2 v3 v4
  have hds : (rCells b x n (upd l k (.slice (some ⟨w2.heap.size, 0, none⟩) 1 1))).size = 32 := rfl
  have hone : ∀ v ∈ (rCells b x n (upd l k (.slice (some ⟨w2.heap.size, 0, none⟩) 1 1))).toList, v.oneCell' = true := rCells_one HL2.out
  have hD := HD.out
  have hDS : Hid (∃ x' n' l', rCells b x n (upd l k (.slice (some ⟨w2.heap.size, 0, none⟩) 1 1)) = rCells b x' n' l' ∧ rCells b x n (upd l k (.slice (some ⟨w2.heap.size, 0, none⟩) 1 1)) = rCells b x n (upd l k (.slice (some ⟨w2.heap.size, 0, none⟩) 1 1))) := Lib.hid ⟨_, _, _, rfl, rfl⟩
  generalize hdsq : rCells b x n (upd l k (.slice (some ⟨w2.heap.size, 0, none⟩) 1 1)) = ds at *
  have HDSQ := Lib.hid hdsq
  clear hdsq hDS
  have h3 : Blk W3 (w.heap.size + 1 + 1) 58 zero32 := H3.out
  have h4 : Blk W3 (w.heap.size + 1 + 1 + 1) 124 #[.int .i64 0, .string ⟨#[]⟩] := H4.out
  have hzi : (Tryz.prog.info? 58).map (·.size) = some ds.size := by rw [hds]; kernel_rfl
  have hzs : ds.size = (zero32 : Array Value).size := hds
  have hb3 : Blk (putCells W3 (w.heap.size + 1 + 1) ds.toList 0) (w.heap.size + 1 + 1) 58 ds := blk_stored9 h3 hzs
  have hb4 : Blk (putCells W3 (w.heap.size + 1 + 1) ds.toList 0) (w.heap.size + 1 + 1 + 1) 124 #[.int .i64 0, .string ⟨#[]⟩] := putCells_far (by omega) ds.toList W3 0 _ _ h4
  have hbb : Below w.heap.size w (putCells W3 (w.heap.size + 1 + 1) ds.toList 0) := putCells_below (by omega) ds.toList w W3 0 HB.out
  have t0 := hb4.cell 0
  have t1 := hb4.cell 1
  have f0 := hb4.frozen 0
  have f1 := hb4.frozen 1
  simp at t0 t1
  have hb5 := (hb4.put 0 (.int .i64 0)).put 1 (.string ⟨#[]⟩)
  have hb6 := (hb3.far (p := ⟨(w.heap.size + 1 + 1 + 1), 0, none⟩) (by show (w.heap.size + 1 + 1) ≠ (w.heap.size + 1 + 1 + 1); omega) (.int .i64 0)).far (p := ⟨(w.heap.size + 1 + 1 + 1), 1, none⟩) (by show (w.heap.size + 1 + 1) ≠ (w.heap.size + 1 + 1 + 1); omega) (.string ⟨#[]⟩)
  have hb7 := (hbb.setCell (p := ⟨(w.heap.size + 1 + 1 + 1), 0, none⟩) (by show w.heap.size ≤ (w.heap.size + 1 + 1 + 1); omega) (.int .i64 0)).setCell (p := ⟨(w.heap.size + 1 + 1 + 1), 1, none⟩) (by show w.heap.size ≤ (w.heap.size + 1 + 1 + 1); omega) (.string ⟨#[]⟩)
  have HF := Lib.hid (And.intro hb5 (And.intro hb6 hb7))
  have HFR : Hid (∀ g t cs, w.heap.size + 4 ≤ g → Blk W3 g t cs → Blk (((putCells W3 (w.heap.size + 1 + 1) ds.toList 0).setCell ⟨(w.heap.size + 1 + 1 + 1), 0, none⟩ (.int .i64 0)).setCell ⟨(w.heap.size + 1 + 1 + 1), 1, none⟩ (.string ⟨#[]⟩)) g t cs) := Lib.hid (fun g t cs hg hB => ((putCells_far (by omega) ds.toList W3 0 _ _ hB).far (p := ⟨(w.heap.size + 1 + 1 + 1), 0, none⟩) (by show g ≠ (w.heap.size + 1 + 1 + 1); omega) _).far (p := ⟨(w.heap.size + 1 + 1 + 1), 1, none⟩) (by show g ≠ (w.heap.size + 1 + 1 + 1); omega) _)
  have hDu := hD
  unfold Blk at hDu
  clear hb3 hb4 hb5 hb6 hb7 hbb H3 H4 HD
  go_wp2_with (first | refine wpList_load_row rfl 58 (.tmp 4) rfl _ rfl 58 _ (0, 0) _ hDu Tryz.underlying58 rfl hzi ?_ | refine wpList_store_row rfl 58 (.tmp 8) (.tmp 69) rfl (w.heap.size + 1 + 1) 58 zero32 ds rfl rfl h3 hzs hone hzi rfl ?_)
  obtain ⟨g5, g6, g7⟩ := HF.out
  clear HF t0 t1 f0 f1 h3 h4 hD hDu
  generalize (((putCells W3 (w.heap.size + 1 + 1) ds.toList 0).setCell ⟨(w.heap.size + 1 + 1 + 1), 0, none⟩ (.int .i64 0)).setCell ⟨(w.heap.size + 1 + 1 + 1), 1, none⟩ (.string ⟨#[]⟩)) = Wf at *
  have l1 := run_loadVar_row (P := Tryz.prog) Wf (w.heap.size + 1 + 1) 58 58 ds (0, 0) _ g6 Tryz.underlying58 rfl hzi
  have g5' : Blk Wf (w.heap.size + 1 + 1 + 1) 124 #[.int .i64 0, .string ⟨#[]⟩] := g5
  have l2 := run_loadVar_row (P := Tryz.prog) Wf (w.heap.size + 1 + 1 + 1) 124 124 #[.int .i64 0, .string ⟨#[]⟩] (0, 0) _ g5' Tryz.underlying124 rfl (by kernel_rfl)
  refine bodyPost_ret (v := .tuple #[.agg ds, .agg #[.int .i64 0, .string ⟨#[]⟩]]) (by simp [results, Tryz.results30, asAddr, l1, l2]) rfl ⟨g7, x, n, upd l k (.slice (some ⟨w2.heap.size, 0, none⟩) 1 1), 0, [], by rw [HDSQ.out], HL2.out, by refine .inr ⟨rfl, (by rw [HTS.out]; have hk := HKE.out; subst hk; obtain ⟨c', h1, _⟩ := dc_list3 dc_zero (t := .text t.tx) (ts := [t.tx]) (.slice (some ⟨w2.heap.size, 0, none⟩) 1 1) rfl; exact ⟨_, c', h1⟩), fun c v4 v7 h => ?_⟩; rw [HTS.out]; have hk := HKE.out; subst hk; obtain ⟨c', h1, h2, h3, h4, h5⟩ := dc_list3 h (t := .text t.tx) (ts := [t.tx]) (.slice (some ⟨w2.heap.size, 0, none⟩) 1 1) rfl; exact ⟨c', (.slice (some ⟨w2.heap.size, 0, none⟩) 1 1), v7, h1, h2, h5, .inr (by rw [h3]; exact own_frame HOW.out (by omega) HFR.out), .inl ⟨rfl, h4⟩⟩⟩
 ·have hsr : ((t.srt : Int) == 4) = false := by cases t <;> simp_all [Tr.isTx, Tr.srt]
  have HTN := Lib.hid htn
  clear htn
  go_upto_if 62 with fail
  go_cut [] (fun wx => wx = w2)
  case rest =>
   subst hcut
   go_step
   exact rread_tail b x n l k true t A c K d w _ HR.out HL.out HKN.out hk8 (.inl ⟨HKE.out, rfl⟩) (by rw [HTN.out]; rfl) H1.out H2.out H3.out H4.out HB.out _ _ _ _ _ _ _ _ _ _ _ _ _ _ _ _ _ _ _ _ _ _ _ _ _ _ _ _ _ _ _ _ _ _ _ _ _ _ _ _ _ _ _ _ _ _ _ _ _ _ _ _ _ _ _ _ _ _ _ _ _ _ _ _ _ _ _ _ _ _ _ _ _ _ _ _ _ _ _ _ _ _ _ _ _ _ _ _ _ _ _ _ _ _ _ _ _ _ _ _ _ _ _ _ _ _ _ _ _ _ _ _ _ _ _ _ _ _ _ _ _ _ _ _ _ _ _ _ _
  go_step
  go_wp2_with fail
  go_meet
  exact rfl
theorem rread_list6 (b : Nat → Bool) (x : Nat → Txt) (n : Nat → Int) (l : Nat → Value) (k : Nat) (t : Tr) (A : Option Addr) (c : Nat) (K : Option Addr) (d : Nat) (w : World) (h : RdVA w t ((A, c), (K, d))) (hl : ∀ i, i < 8 → (l i).oneCell' = true) (hbi : t.bi < 18446744073709551616) (hkn : t.kids.length ≤ 65536) (htx : t.tx.length ≤ 4398046511104) (hk : k = 6) :
  Calls Tryz.prog 30 #[.agg (rCells b x n l), .int .i64 (k : Int), valV t A c K d, .string ⟨(path k).toArray⟩] w (RReadP b x n l k t w) := by
 have hba : Below w.heap.size w ((((w.alloc (.cells (rc32 b x n l) 58)).alloc (.cells #[.int .i64 (t.srt : Nat), .bool t.fl, .int .u64 (t.bi : Nat), .string ⟨t.tx.toArray⟩, .slice A t.kids.length c, .slice K t.kn.length d] 34)).alloc (.cells zero32 58)).alloc (.cells #[.int .i64 0, .string ⟨#[]⟩] 124)) := ((((Below.refl _ _).alloc (Nat.le_refl _) _).alloc (by simp) _).alloc (by simp; omega) _).alloc (by simp; omega) _
 have hB1 : Blk ((((w.alloc (.cells (rc32 b x n l) 58)).alloc (.cells #[.int .i64 (t.srt : Nat), .bool t.fl, .int .u64 (t.bi : Nat), .string ⟨t.tx.toArray⟩, .slice A t.kids.length c, .slice K t.kn.length d] 34)).alloc (.cells zero32 58)).alloc (.cells #[.int .i64 0, .string ⟨#[]⟩] 124)) w.heap.size 58 (rc32 b x n l) := ((Blk.new w 58 (rc32 b x n l)).alloc _ |>.alloc _).alloc _
 have hB2 : Blk ((((w.alloc (.cells (rc32 b x n l) 58)).alloc (.cells #[.int .i64 (t.srt : Nat), .bool t.fl, .int .u64 (t.bi : Nat), .string ⟨t.tx.toArray⟩, .slice A t.kids.length c, .slice K t.kn.length d] 34)).alloc (.cells zero32 58)).alloc (.cells #[.int .i64 0, .string ⟨#[]⟩] 124)) (w.heap.size + 1) 34 #[.int .i64 (t.srt : Nat), .bool t.fl, .int .u64 (t.bi : Nat), .string ⟨t.tx.toArray⟩, .slice A t.kids.length c, .slice K t.kn.length d] := by
  have := ((Blk.new (w.alloc (.cells (rc32 b x n l) 58)) 34 #[.int .i64 (t.srt : Nat), .bool t.fl, .int .u64 (t.bi : Nat), .string ⟨t.tx.toArray⟩, .slice A t.kids.length c, .slice K t.kn.length d]).alloc (.cells zero32 58)).alloc (.cells #[.int .i64 0, .string ⟨#[]⟩] 124)
  rwa [World.size_alloc] at this
 have hB3 : Blk ((((w.alloc (.cells (rc32 b x n l) 58)).alloc (.cells #[.int .i64 (t.srt : Nat), .bool t.fl, .int .u64 (t.bi : Nat), .string ⟨t.tx.toArray⟩, .slice A t.kids.length c, .slice K t.kn.length d] 34)).alloc (.cells zero32 58)).alloc (.cells #[.int .i64 0, .string ⟨#[]⟩] 124)) (w.heap.size + 2) 58 zero32 := by
  have := (Blk.new ((w.alloc (.cells (rc32 b x n l) 58)).alloc (.cells #[.int .i64 (t.srt : Nat), .bool t.fl, .int .u64 (t.bi : Nat), .string ⟨t.tx.toArray⟩, .slice A t.kids.length c, .slice K t.kn.length d] 34)) 58 zero32).alloc (.cells #[.int .i64 0, .string ⟨#[]⟩] 124)
  rwa [World.size_alloc, World.size_alloc] at this
 have hB4 : Blk ((((w.alloc (.cells (rc32 b x n l) 58)).alloc (.cells #[.int .i64 (t.srt : Nat), .bool t.fl, .int .u64 (t.bi : Nat), .string ⟨t.tx.toArray⟩, .slice A t.kids.length c, .slice K t.kn.length d] 34)).alloc (.cells zero32 58)).alloc (.cells #[.int .i64 0, .string ⟨#[]⟩] 124)) (w.heap.size + 3) 124 #[.int .i64 0, .string ⟨#[]⟩] := by
  have := Blk.new (((w.alloc (.cells (rc32 b x n l) 58)).alloc (.cells #[.int .i64 (t.srt : Nat), .bool t.fl, .int .u64 (t.bi : Nat), .string ⟨t.tx.toArray⟩, .slice A t.kids.length c, .slice K t.kn.length d] 34)).alloc (.cells zero32 58)) 124 #[.int .i64 0, .string ⟨#[]⟩]
  rwa [World.size_alloc, World.size_alloc, World.size_alloc] at this
 have HR := Lib.hid (rdva_below h hba)
 have HL := Lib.hid hl
 have HB := Lib.hid hba
 have H1 := Lib.hid hB1
 have H2 := Lib.hid hB2
 have H3 := Lib.hid hB3
 have H4 := Lib.hid hB4
 have HKE := Lib.hid hk
 clear hk
 have HBI := Lib.hid hbi
 have HKN := Lib.hid hkn
 have HTX := Lib.hid htx
 clear h hl hba hB1 hB2 hB3 hB4 hbi hkn htx
 unfold rCells
 go_enter Tryz.func30, Tryz.ntmps30
 go_upto_region 1 with fail
 generalize ((((w.alloc (.cells (rc32 b x n l) 58)).alloc (.cells #[.int .i64 (t.srt : Nat), .bool t.fl, .int .u64 (t.bi : Nat), .string ⟨t.tx.toArray⟩, .slice A t.kids.length c, .slice K t.kn.length d] 34)).alloc (.cells zero32 58)).alloc (.cells #[.int .i64 0, .string ⟨#[]⟩] 124)) = w1 at *
 go_wp2_with fail
 have hk8 : k < 8 := by have := HKE.out; omega
 ((with_reducible refine (refKinds_any _).mono ?_); rintro e w2 ⟨rfl, hb⟩)
 have hki := kind_index k hk8
 have hko : kindOf k = 4 := by have hk := HKE.out; subst hk <;> rfl
 rw [hko] at hki
 clear hko
 replace HR := Lib.hid (rdva_below HR.out hb)
 replace H1 := Lib.hid (H1.out.below hb H1.out.lt)
 replace H2 := Lib.hid (H2.out.below hb H2.out.lt)
 replace H3 := Lib.hid (H3.out.below hb H3.out.lt)
 replace H4 := Lib.hid (H4.out.below hb H4.out.lt)
 replace HB := Lib.hid (HB.out.trans (hb.mono HB.out.size))
 clear hb
 have hR1 : Blk w2 w.heap.size 58 (rCells b x n l) := H1.out
 have v0 := H2.out.cell 0
 have v2 := H2.out.cell 2
 have v3 := H2.out.cell 3
 have v4 := H2.out.cell 4
 simp at v0 v2 v3 v4
 go_upto_if 62 with fail
 go_cut [] (fun wx => wx = w2)
 case rest =>
  subst hcut
  go_step
  exact rread_tail b x n l k false t A c K d w _ HR.out HL.out HKN.out hk8 (.inr ⟨HKE.out, rfl⟩) (Bool.and_false _) H1.out H2.out H3.out H4.out HB.out _ _ _ _ _ _ _ _ _ _ _ _ _ _ _ _ _ _ _ _ _ _ _ _ _ _ _ _ _ _ _ _ _ _ _ _ _ _ _ _ _ _ _ _ _ _ _ _ _ _ _ _ _ _ _ _ _ _ _ _ _ _ _ _ _ _ _ _ _ _ _ _ _ _ _ _ _ _ _ _ _ _ _ _ _ _ _ _ _ _ _ _ _ _ _ _ _ _ _ _ _ _ _ _ _ _ _ _ _ _ _ _ _ _ _ _ _ _ _ _ _ _ _ _ _ _ _ _ _
 go_step
 go_wp2_with fail
 go_meet
 exact rfl
end Nd
end Go.Proofs.YtobaldkipnhlpaaGreatDoor
