/-
  Walks of the reference of layer 10: Do. Walks of the reference of layer 10: Do, whole. Walks of the reference of layer 10: every step. Walks of the reference of layer 10: Build.
-/
import Derived.Test.YtbajkglacfheiaaGreatDoorTA24
import Derived.Test.YtbajkglacfheiaaGreatDoorTA22
import Derived.Test.YtbajkglacfheiaaGreatDoorTA9
set_option linter.unusedVariables false
set_option maxRecDepth 100000
set_option maxHeartbeats 16000000
namespace Go.Proofs.YtbajkglacfheiaaGreatDoor
open Go.RowKit Mem Ref3
namespace Nd
theorem do_t10 (B N n m : Nat) (l : List Tr) (xs : List X4) (v : Value) (P b3 : Nat) (s : Stp) (K : Option Addr) (q : Nat) (AT : Option Addr) (cT BT : Nat) (r : Int × List Tr) (w0 wr : World) (hr : Row0 B N n m l xs v w0) (hg : GoodS s n m l) (h : MidS B N n m l xs v P b3 s K q AT cT BT w0 wr) (hP : w0.heap.size ≤ P) (h3 : (mkT s (l.drop m)).fit = false → r = (3, l)) (h0 : (mkT s (l.drop m)).fit = true → r = (0, l.take m ++ [mkT s (l.drop m)])) (z1 z2 z4 z5 z9 z10 z11 z12 z13 z14 z15 z16 z17 z18 z19 z20 z21 z22 z23 z24 z25 z26 z27 z28 z29 z30 z31 z32 z33 z34 z35 z36 z37 z38 z39 z40 z41 z42 z43 z44 z45 z46 z47 z48 z49 z50 z51 z52 z53 z54 z55 z56 z57 z58 z59 z60 z61 z62 z63 z64 z65 z66 z67 z68 z69 z70 z71 z72 z73 z74 z75 z76 z77 z78 z79 z80 z81 z82 z83 z84 z85 z86 z87 z88 z89 z90 z91 z92 z93 z94 : Value) :
  Code.wp Tryz.prog doT10 (bodyPost Tryz.prog Tryz.f142 (DoP B r w0)) { tmps := (v :: z1 :: z2 :: .pointer (some ⟨b3, 0, none⟩) :: z4 :: z5 :: .int .i64 n :: .pointer (some ⟨P, 0, none⟩) :: .slice AT n cT :: z9 :: z10 :: z11 :: z12 :: z13 :: z14 :: z15 :: z16 :: z17 :: z18 :: z19 :: z20 :: z21 :: z22 :: z23 :: z24 :: z25 :: z26 :: z27 :: z28 :: z29 :: z30 :: z31 :: z32 :: z33 :: z34 :: z35 :: z36 :: z37 :: z38 :: z39 :: z40 :: z41 :: z42 :: z43 :: z44 :: z45 :: z46 :: z47 :: z48 :: z49 :: z50 :: z51 :: z52 :: z53 :: z54 :: z55 :: z56 :: z57 :: z58 :: z59 :: z60 :: z61 :: z62 :: z63 :: z64 :: z65 :: z66 :: z67 :: z68 :: z69 :: z70 :: z71 :: z72 :: z73 :: z74 :: z75 :: z76 :: z77 :: z78 :: z79 :: z80 :: z81 :: z82 :: z83 :: z84 :: z85 :: z86 :: z87 :: z88 :: z89 :: z90 :: z91 :: z92 :: z93 :: z94 :: []).toArray, defers := [] } wr := by
 by_cases h5 : s.sort = 5
 ·exact do_t10_list B N n m l xs v P b3 s K q AT cT BT r w0 wr hr hg h hP h3 h0 h5 _ _ _ _ _ _ _ _ _ _ _ _ _ _ _ _ _ _ _ _ _ _ _ _ _ _ _ _ _ _ _ _ _ _ _ _ _ _ _ _ _ _ _ _ _ _ _ _ _ _ _ _ _ _ _ _ _ _ _ _ _ _ _ _ _ _ _ _ _ _ _ _ _ _ _ _ _ _ _ _ _ _ _ _ _ _ _ _ _ _
 ·by_cases h6 : s.sort = 6
  ·exact do_t10_obj B N n m l xs v P b3 s K q AT cT BT r w0 wr hr hg h hP h3 h0 h6 _ _ _ _ _ _ _ _ _ _ _ _ _ _ _ _ _ _ _ _ _ _ _ _ _ _ _ _ _ _ _ _ _ _ _ _ _ _ _ _ _ _ _ _ _ _ _ _ _ _ _ _ _ _ _ _ _ _ _ _ _ _ _ _ _ _ _ _ _ _ _ _ _ _ _ _ _ _ _ _ _ _ _ _ _ _ _ _ _ _
  ·exact do_t10_plain B N n m l xs v P b3 s K q AT cT BT r w0 wr hr hg h hP h3 h0 h5 h6 _ _ _ _ _ _ _ _ _ _ _ _ _ _ _ _ _ _ _ _ _ _ _ _ _ _ _ _ _ _ _ _ _ _ _ _ _ _ _ _ _ _ _ _ _ _ _ _ _ _ _ _ _ _ _ _ _ _ _ _ _ _ _ _ _ _ _ _ _ _ _ _ _ _ _ _ _ _ _ _ _ _ _ _ _ _ _ _ _ _
theorem below_all {B : Nat} {w w' : World} (h : Below B w w') : Below B w w' := h
theorem do_t9_some (B N n m : Nat) (l : List Tr) (xs : List X4) (P b3 : Nat) (s : Stp) (K : Option Addr) (q : Nat) (r : Int × List Tr) (w0 wr : World) (hg : GoodS s n m l) (hP : w0.heap.size ≤ P) (h3 : (mkT s (l.drop m)).fit = false → r = (3, l)) (h0 : (mkT s (l.drop m)).fit = true → r = (0, l.take m ++ [mkT s (l.drop m)])) (g cap : Nat) (hcap : N ≤ cap) (hr : Row0 B N n m l xs (.slice (some ⟨g, 0, none⟩) N cap) w0) (h : PreS B N n m l xs (.slice (some ⟨g, 0, none⟩) N cap) P b3 s K q w0 wr) (z1 z2 z4 z5 z8 z9 z10 z11 z12 z13 z14 z15 z16 z17 z18 z19 z20 z21 z22 z23 z24 z25 z26 z27 z28 z29 z30 z31 z32 z33 z34 z35 z36 z37 z38 z39 z40 z41 z42 z43 z44 z45 z46 z47 z48 z49 z50 z51 z52 z53 z54 z55 z56 z57 z58 z59 z60 z61 z62 z63 z64 z65 z66 z67 z68 z69 z70 z71 z72 z73 z74 z75 z76 z77 z78 z79 z80 z81 z82 z83 z84 z85 z86 z87 z88 z89 z90 z91 z92 z93 z94 : Value) :
  Code.wp Tryz.prog doT9 (bodyPost Tryz.prog Tryz.f142 (DoP B r w0)) { tmps := (.slice (some ⟨g, 0, none⟩) N cap :: z1 :: z2 :: .pointer (some ⟨b3, 0, none⟩) :: z4 :: z5 :: .int .i64 n :: .pointer (some ⟨P, 0, none⟩) :: z8 :: z9 :: z10 :: z11 :: z12 :: z13 :: z14 :: z15 :: z16 :: z17 :: z18 :: z19 :: z20 :: z21 :: z22 :: z23 :: z24 :: z25 :: z26 :: z27 :: z28 :: z29 :: z30 :: z31 :: z32 :: z33 :: z34 :: z35 :: z36 :: z37 :: z38 :: z39 :: z40 :: z41 :: z42 :: z43 :: z44 :: z45 :: z46 :: z47 :: z48 :: z49 :: z50 :: z51 :: z52 :: z53 :: z54 :: z55 :: z56 :: z57 :: z58 :: z59 :: z60 :: z61 :: z62 :: z63 :: z64 :: z65 :: z66 :: z67 :: z68 :: z69 :: z70 :: z71 :: z72 :: z73 :: z74 :: z75 :: z76 :: z77 :: z78 :: z79 :: z80 :: z81 :: z82 :: z83 :: z84 :: z85 :: z86 :: z87 :: z88 :: z89 :: z90 :: z91 :: z92 :: z93 :: z94 :: []).toArray, defers := [] } wr := by
 have HR := Lib.hid hr
 have HP := Lib.hid h
 have H30 := Lib.hid (And.intro h3 h0)
 have HG := Lib.hid hg
 have hPlt := h.bl.lt
 obtain ⟨v0, hv0, hx0, hx1, hx2⟩ := info_parts info_val
 have hmk : (wr.alloc (.cells #[] 79)).ownsRow wr.heap.size 79 6 (.slice (some ⟨wr.heap.size, 0, none⟩) 0 0) 0 [] := World.ownsRow_made wr #[] 0 (Nat.le_refl _) (Nat.zero_le _) (by simp)
 have hbm : Below wr.heap.size wr (wr.alloc (.cells #[] 79)) := (Below.refl _ _).alloc (Nat.le_refl _) _
 have HMK := Lib.hid (And.intro hmk hbm)
 clear hmk hbm hr h h3 h0 hg
 conv => arg 2; whnf
 apply wp_seq_k
 intro K1 hK1
 go_cut [8] (fun c8 wx => ∃ (AT : Option Addr) (cT : Nat), c8 = .slice AT n cT ∧ Hid (MidS B N n m l xs (.slice (some ⟨g, 0, none⟩) N cap) P b3 s K q AT cT wr.heap.size w0 wx))
 case first =>
  have hnm := HR.out.nm
  have hln := HR.out.ln
  have hle := HR.out.le
  have hw0 : IntKind.i64.wrap (m : Int) = (m : Int) := IntWalk.i64_in _ (by omega)
  have hmN : ((m : Int) ≤ (N : Int)) = True := eq_true (by omega)
  have hxl := HR.out.rd.len
  by_cases hn0 : n = 0
  ·subst hn0
   obtain rfl : m = N := by omega
   have hdr : l.drop m = [] := List.drop_eq_nil_of_le (by omega)
   have HDR := Lib.hid hdr
   clear hnm hdr hln hxl
   by_cases hcm : cap = m
   ·subst hcm
    go_wp2_with (at_builtin; refine wpList_app_nothing rfl _ _ 76 rfl 79 v0 Tryz.underlying76 hv0 (some ⟨wr.heap.size, 0, none⟩) 0 0 (Nat.le_refl _) rfl _ _ rfl ?_)
    go_meet
    refine ⟨_, _, rfl, Lib.hid ⟨⟨HP.out.bl.below HMK.out.2 hPlt, HP.out.st.below HMK.out.2, HP.out.be.trans (HMK.out.2.mono HP.out.be.size), HP.out.ne⟩, ?_, hPlt⟩⟩
    rw [HDR.out]
    exact HMK.out.1
   ·have hcT : (cap = m) = False := eq_false hcm
    clear hcm
    go_wp2_with (at_builtin; refine wpList_app_nothing rfl _ _ 76 rfl 79 v0 Tryz.underlying76 hv0 (some ⟨wr.heap.size, 0, none⟩) 0 0 (Nat.le_refl _) rfl _ _ rfl ?_)
    go_meet
    refine ⟨_, _, rfl, Lib.hid ⟨⟨HP.out.bl.below HMK.out.2 hPlt, HP.out.st.below HMK.out.2, HP.out.be.trans (HMK.out.2.mono HP.out.be.size), HP.out.ne⟩, ?_, hPlt⟩⟩
    rw [HDR.out]
    exact HMK.out.1
  ·have hd0 : (N : Int) - (n : Int) = (m : Int) := by omega
   have hNm : N - m = n := by omega
   have hcm : (cap = m) = False := eq_false (by omega)
   have hdl : (cellsV (l.drop m) (xs.drop m)).length = n * 6 := by rw [cellsV_len _ _ (by rw [List.length_drop, List.length_drop, hxl]), List.length_drop, hln, hNm]
   have hnews : ∀ j u, (cellsV (l.drop m) (xs.drop m))[j]? = some u → (wr.alloc (.cells #[] 79)).cell? ((⟨g, m * 6, none⟩ : Addr).add j) = some u := fun j u hj => by
    have e1 : (⟨g, m * 6, none⟩ : Addr).add j = ⟨g, m * 6 + j, none⟩ := Addr.add_lit ..
    have hjl : j < n * 6 := by
     rcases Nat.lt_or_ge j (n * 6) with h1 | h1
     ·exact h1
     ·rw [List.getElem?_eq_none (by omega)] at hj
      cases hj
    have hown := own_below (own_below HR.out.own (below_all HP.out.be)) HMK.out.2
    rw [e1, hown.cellAt (m * 6 + j) (by omega)]
    rw [cellsV_drop m l xs hxl, List.getElem?_drop] at hj
    exact hj
   have HNW := Lib.hid (And.intro hdl hnews)
   have hn6 : n ≤ 65536 := by omega
   clear hnm hdl hnews hln hxl
   go_wp2_with (at_builtin; refine wpList_append_own_at _ rfl _ _ 76 rfl wr.heap.size 79 v0 _ 6 88 Tryz.underlying76 hv0 hx0 hx1 hx2 rfl (by omega) (.slice (some ⟨wr.heap.size, 0, none⟩) 0 0) 0 [] rfl HMK.out.1 ⟨g, m * 6, none⟩ n (cap - m) (cellsV (l.drop m) (xs.drop m)) rfl HNW.out.1 HNW.out.2 (cellsV_one _ _) (by unfold maxLen; omega) (by omega) (by simp) ?_; intro v9 w9 hown9 hgr9 hnil9 hat9)
   have hb9 : Below wr.heap.size wr w9 := HMK.out.2.grown hgr9 HMK.out.2.size (fun k e => own_base HMK.out.1 k e)
   rw [Nat.zero_add, List.nil_append] at hown9
   obtain ⟨AT, cT, rfl⟩ := own_slice hown9
   go_meet
   exact ⟨AT, cT, rfl, Lib.hid ⟨⟨HP.out.bl.below hb9 hPlt, HP.out.st.below hb9, HP.out.be.trans (hb9.mono HP.out.be.size), HP.out.ne⟩, hown9, hPlt⟩⟩
 case rest =>
  obtain ⟨AT, cT, rfl, HM⟩ := hcut
  go_step
  exact do_t10 B N n m l xs _ P b3 s K q AT cT wr.heap.size r w0 _ HR.out HG.out HM.out hP H30.out.1 H30.out.2 _ _ _ _ _ _ _ _ _ _ _ _ _ _ _ _ _ _ _ _ _ _ _ _ _ _ _ _ _ _ _ _ _ _ _ _ _ _ _ _ _ _ _ _ _ _ _ _ _ _ _ _ _ _ _ _ _ _ _ _ _ _ _ _ _ _ _ _ _ _ _ _ _ _ _ _ _ _ _ _ _ _ _ _ _ _ _ _ _ _
theorem do_t9_nil (B : Nat) (l : List Tr) (xs : List X4) (P b3 : Nat) (s : Stp) (K : Option Addr) (q : Nat) (r : Int × List Tr) (w0 wr : World) (hg : GoodS s 0 0 l) (hP : w0.heap.size ≤ P) (h3 : (mkT s (l.drop 0)).fit = false → r = (3, l)) (h0 : (mkT s (l.drop 0)).fit = true → r = (0, l.take 0 ++ [mkT s (l.drop 0)])) (hr : Row0 B 0 0 0 l xs (.slice none 0 0) w0) (h : PreS B 0 0 0 l xs (.slice none 0 0) P b3 s K q w0 wr) (z1 z2 z4 z5 z8 z9 z10 z11 z12 z13 z14 z15 z16 z17 z18 z19 z20 z21 z22 z23 z24 z25 z26 z27 z28 z29 z30 z31 z32 z33 z34 z35 z36 z37 z38 z39 z40 z41 z42 z43 z44 z45 z46 z47 z48 z49 z50 z51 z52 z53 z54 z55 z56 z57 z58 z59 z60 z61 z62 z63 z64 z65 z66 z67 z68 z69 z70 z71 z72 z73 z74 z75 z76 z77 z78 z79 z80 z81 z82 z83 z84 z85 z86 z87 z88 z89 z90 z91 z92 z93 z94 : Value) :
  Code.wp Tryz.prog doT9 (bodyPost Tryz.prog Tryz.f142 (DoP B r w0)) { tmps := (.slice none 0 0 :: z1 :: z2 :: .pointer (some ⟨b3, 0, none⟩) :: z4 :: z5 :: .int .i64 0 :: .pointer (some ⟨P, 0, none⟩) :: z8 :: z9 :: z10 :: z11 :: z12 :: z13 :: z14 :: z15 :: z16 :: z17 :: z18 :: z19 :: z20 :: z21 :: z22 :: z23 :: z24 :: z25 :: z26 :: z27 :: z28 :: z29 :: z30 :: z31 :: z32 :: z33 :: z34 :: z35 :: z36 :: z37 :: z38 :: z39 :: z40 :: z41 :: z42 :: z43 :: z44 :: z45 :: z46 :: z47 :: z48 :: z49 :: z50 :: z51 :: z52 :: z53 :: z54 :: z55 :: z56 :: z57 :: z58 :: z59 :: z60 :: z61 :: z62 :: z63 :: z64 :: z65 :: z66 :: z67 :: z68 :: z69 :: z70 :: z71 :: z72 :: z73 :: z74 :: z75 :: z76 :: z77 :: z78 :: z79 :: z80 :: z81 :: z82 :: z83 :: z84 :: z85 :: z86 :: z87 :: z88 :: z89 :: z90 :: z91 :: z92 :: z93 :: z94 :: []).toArray, defers := [] } wr := by
 have HR := Lib.hid hr
 have HP := Lib.hid h
 have H30 := Lib.hid (And.intro h3 h0)
 have HG := Lib.hid hg
 have hPlt := h.bl.lt
 obtain ⟨v0, hv0, hx0, hx1, hx2⟩ := info_parts info_val
 have hmk : (wr.alloc (.cells #[] 79)).ownsRow wr.heap.size 79 6 (.slice (some ⟨wr.heap.size, 0, none⟩) 0 0) 0 [] := World.ownsRow_made wr #[] 0 (Nat.le_refl _) (Nat.zero_le _) (by simp)
 have hbm : Below wr.heap.size wr (wr.alloc (.cells #[] 79)) := (Below.refl _ _).alloc (Nat.le_refl _) _
 have HMK := Lib.hid (And.intro hmk hbm)
 clear hmk hbm hr h h3 h0 hg
 conv => arg 2; whnf
 apply wp_seq_k
 intro K1 hK1
 go_cut [8] (fun c8 wx => ∃ (AT : Option Addr) (cT : Nat), c8 = .slice AT 0 cT ∧ Hid (MidS B 0 0 0 l xs (.slice none 0 0) P b3 s K q AT cT wr.heap.size w0 wx))
 case first =>
  have hw0 : IntKind.i64.wrap 0 = 0 := by decide
  go_wp2_with (at_builtin; refine wpList_app_nothing rfl _ _ 76 rfl 79 v0 Tryz.underlying76 hv0 (some ⟨wr.heap.size, 0, none⟩) 0 0 (Nat.le_refl _) rfl _ _ rfl ?_)
  go_meet
  refine ⟨_, _, rfl, Lib.hid ⟨⟨HP.out.bl.below HMK.out.2 hPlt, HP.out.st.below HMK.out.2, HP.out.be.trans (HMK.out.2.mono HP.out.be.size), HP.out.ne⟩, ?_, hPlt⟩⟩
  have hln := HR.out.ln
  rw [List.length_eq_zero_iff.1 hln]
  exact HMK.out.1
 case rest =>
  obtain ⟨AT, cT, rfl, HM⟩ := hcut
  go_step
  exact do_t10 B 0 0 0 l xs _ P b3 s K q AT cT wr.heap.size r w0 _ HR.out HG.out HM.out hP H30.out.1 H30.out.2 _ _ _ _ _ _ _ _ _ _ _ _ _ _ _ _ _ _ _ _ _ _ _ _ _ _ _ _ _ _ _ _ _ _ _ _ _ _ _ _ _ _ _ _ _ _ _ _ _ _ _ _ _ _ _ _ _ _ _ _ _ _ _ _ _ _ _ _ _ _ _ _ _ _ _ _ _ _ _ _ _ _ _ _ _ _ _ _ _ _
end Nd
end Go.Proofs.YtbajkglacfheiaaGreatDoor
namespace Go.Proofs.YtbajkglacfheiaaGreatDoor
open Go.RowKit Mem Ref3
namespace Nd
theorem do_t9 (B N n m : Nat) (l : List Tr) (xs : List X4) (P b3 : Nat) (s : Stp) (K : Option Addr) (q : Nat) (r : Int × List Tr) (w0 wr : World) (hg : GoodS s n m l) (hP : w0.heap.size ≤ P) (h3 : (mkT s (l.drop m)).fit = false → r = (3, l)) (h0 : (mkT s (l.drop m)).fit = true → r = (0, l.take m ++ [mkT s (l.drop m)])) (v : Value) (hr : Row0 B N n m l xs v w0) (h : PreS B N n m l xs v P b3 s K q w0 wr) (z1 z2 z4 z5 z8 z9 z10 z11 z12 z13 z14 z15 z16 z17 z18 z19 z20 z21 z22 z23 z24 z25 z26 z27 z28 z29 z30 z31 z32 z33 z34 z35 z36 z37 z38 z39 z40 z41 z42 z43 z44 z45 z46 z47 z48 z49 z50 z51 z52 z53 z54 z55 z56 z57 z58 z59 z60 z61 z62 z63 z64 z65 z66 z67 z68 z69 z70 z71 z72 z73 z74 z75 z76 z77 z78 z79 z80 z81 z82 z83 z84 z85 z86 z87 z88 z89 z90 z91 z92 z93 z94 : Value) :
  Code.wp Tryz.prog doT9 (bodyPost Tryz.prog Tryz.f142 (DoP B r w0)) { tmps := (v :: z1 :: z2 :: .pointer (some ⟨b3, 0, none⟩) :: z4 :: z5 :: .int .i64 n :: .pointer (some ⟨P, 0, none⟩) :: z8 :: z9 :: z10 :: z11 :: z12 :: z13 :: z14 :: z15 :: z16 :: z17 :: z18 :: z19 :: z20 :: z21 :: z22 :: z23 :: z24 :: z25 :: z26 :: z27 :: z28 :: z29 :: z30 :: z31 :: z32 :: z33 :: z34 :: z35 :: z36 :: z37 :: z38 :: z39 :: z40 :: z41 :: z42 :: z43 :: z44 :: z45 :: z46 :: z47 :: z48 :: z49 :: z50 :: z51 :: z52 :: z53 :: z54 :: z55 :: z56 :: z57 :: z58 :: z59 :: z60 :: z61 :: z62 :: z63 :: z64 :: z65 :: z66 :: z67 :: z68 :: z69 :: z70 :: z71 :: z72 :: z73 :: z74 :: z75 :: z76 :: z77 :: z78 :: z79 :: z80 :: z81 :: z82 :: z83 :: z84 :: z85 :: z86 :: z87 :: z88 :: z89 :: z90 :: z91 :: z92 :: z93 :: z94 :: []).toArray, defers := [] } wr := by
 have hnm := hr.nm
 rcases Joins.ownsRow_forms hr.own with ⟨rfl, h0N⟩ | ⟨g, cap, rfl, _⟩
 ·obtain rfl : N = 0 := h0N
  obtain rfl : m = 0 := by omega
  obtain rfl : n = 0 := by omega
  exact do_t9_nil B l xs P b3 s K q r w0 wr hg hP h3 h0 hr h _ _ _ _ _ _ _ _ _ _ _ _ _ _ _ _ _ _ _ _ _ _ _ _ _ _ _ _ _ _ _ _ _ _ _ _ _ _ _ _ _ _ _ _ _ _ _ _ _ _ _ _ _ _ _ _ _ _ _ _ _ _ _ _ _ _ _ _ _ _ _ _ _ _ _ _ _ _ _ _ _ _ _ _ _ _ _ _ _ _ _
 ·have hcap : N ≤ cap := by
   rcases hr.own.2 with ⟨hv, _⟩ | ⟨g', cap', cur, hv, _, _, h1, _⟩
   ·cases hv
   ·injection hv with _ _ e
    omega
  exact do_t9_some B N n m l xs P b3 s K q r w0 wr hg hP h3 h0 g cap hcap hr h _ _ _ _ _ _ _ _ _ _ _ _ _ _ _ _ _ _ _ _ _ _ _ _ _ _ _ _ _ _ _ _ _ _ _ _ _ _ _ _ _ _ _ _ _ _ _ _ _ _ _ _ _ _ _ _ _ _ _ _ _ _ _ _ _ _ _ _ _ _ _ _ _ _ _ _ _ _ _ _ _ _ _ _ _ _ _ _ _ _ _
noncomputable def doT5 : Code := nextOf (nextOf (nextOf (nextOf (nextOf (Tryz.f142.body.getD .skip)))))
theorem do_t7 (B N n m : Nat) (l : List Tr) (xs : List X4) (v : Value) (b3 : Nat) (s : Stp) (K : Option Addr) (q : Nat) (r : Int × List Tr) (w0 wr : World) (hr : Row0 B N n m l xs v w0) (hg : GoodS s n m l) (hst : CellS wr b3 0 s K q) (hbe : Below w0.heap.size w0 wr) (h3 : (mkT s (l.drop m)).fit = false → r = (3, l)) (h0 : (mkT s (l.drop m)).fit = true → r = (0, l.take m ++ [mkT s (l.drop m)])) (z1 z2 z4 z5 z7 z8 z9 z10 z11 z12 z13 z14 z15 z16 z17 z18 z19 z20 z21 z22 z23 z24 z25 z26 z27 z28 z29 z30 z31 z32 z33 z34 z35 z36 z37 z38 z39 z40 z41 z42 z43 z44 z45 z46 z47 z48 z49 z50 z51 z52 z53 z54 z55 z56 z57 z58 z59 z60 z61 z62 z63 z64 z65 z66 z67 z68 z69 z70 z71 z72 z73 z74 z75 z76 z77 z78 z79 z80 z81 z82 z83 z84 z85 z86 z87 z88 z89 z90 z91 z92 z93 z94 : Value) :
  Code.wp Tryz.prog doT7 (bodyPost Tryz.prog Tryz.f142 (DoP B r w0)) { tmps := (v :: z1 :: z2 :: .pointer (some ⟨b3, 0, none⟩) :: z4 :: z5 :: .int .i64 n :: z7 :: z8 :: z9 :: z10 :: z11 :: z12 :: z13 :: z14 :: z15 :: z16 :: z17 :: z18 :: z19 :: z20 :: z21 :: z22 :: z23 :: z24 :: z25 :: z26 :: z27 :: z28 :: z29 :: z30 :: z31 :: z32 :: z33 :: z34 :: z35 :: z36 :: z37 :: z38 :: z39 :: z40 :: z41 :: z42 :: z43 :: z44 :: z45 :: z46 :: z47 :: z48 :: z49 :: z50 :: z51 :: z52 :: z53 :: z54 :: z55 :: z56 :: z57 :: z58 :: z59 :: z60 :: z61 :: z62 :: z63 :: z64 :: z65 :: z66 :: z67 :: z68 :: z69 :: z70 :: z71 :: z72 :: z73 :: z74 :: z75 :: z76 :: z77 :: z78 :: z79 :: z80 :: z81 :: z82 :: z83 :: z84 :: z85 :: z86 :: z87 :: z88 :: z89 :: z90 :: z91 :: z92 :: z93 :: z94 :: []).toArray, defers := [] } wr := by
 have hb3 : b3 < wr.heap.size := World.block_lt_of_cell? _ _ hst.c0
 have hws := hbe.size
 have k0 : wr.cell? ⟨b3, 0, none⟩ = some (.int .i64 s.sort) := hst.c0
 have k1 : wr.cell? ⟨b3, 1, none⟩ = some (.bool s.flag) := hst.c1
 have k3 : wr.cell? ⟨b3, 3, none⟩ = some (.string ⟨s.text.toArray⟩) := hst.c3
 have hba : Below wr.heap.size wr (wr.alloc (.cells #[.int .i64 s.sort, .bool s.flag, .int .u64 0, .string ⟨s.text.toArray⟩, .slice none 0 0, .slice none 0 0] 79)) := (Below.refl _ _).alloc (Nat.le_refl _) _
 have HNB : Hid (Blk (wr.alloc (.cells #[.int .i64 s.sort, .bool s.flag, .int .u64 0, .string ⟨s.text.toArray⟩, .slice none 0 0, .slice none 0 0] 79)) wr.heap.size 79 #[.int .i64 s.sort, .bool s.flag, .int .u64 0, .string ⟨s.text.toArray⟩, .slice none 0 0, .slice none 0 0] ∧ CellS (wr.alloc (.cells #[.int .i64 s.sort, .bool s.flag, .int .u64 0, .string ⟨s.text.toArray⟩, .slice none 0 0, .slice none 0 0] 79)) b3 0 s K q ∧ Below w0.heap.size w0 (wr.alloc (.cells #[.int .i64 s.sort, .bool s.flag, .int .u64 0, .string ⟨s.text.toArray⟩, .slice none 0 0, .slice none 0 0] 79))) := Lib.hid ⟨Blk.new wr _ _, hst.below hba, hbe.trans (hba.mono hws)⟩
 have HR := Lib.hid hr
 have HG := Lib.hid hg
 have H30 := Lib.hid (And.intro h3 h0)
 clear hst hbe hba hr hg h3 h0
 conv => arg 2; whnf
 apply wp_seq_k
 intro K1 hK1
 go_cut [7] (fun c7 wx => c7 = .pointer (some ⟨wr.heap.size, 0, none⟩) ∧ Hid (Blk wx wr.heap.size 79 #[.int .i64 s.sort, .bool s.flag, .int .u64 0, .string ⟨s.text.toArray⟩, .slice none 0 0, .slice none 0 0] ∧ CellS wx b3 0 s K q ∧ Below w0.heap.size w0 wx))
 case first =>
  go_wp2_with fail
  go_meet
  exact ⟨rfl, HNB⟩
 case rest =>
  obtain ⟨rfl, HC⟩ := hcut
  clear HNB k0 k1 k3
  have hne : b3 ≠ wr.heap.size := by omega
  generalize wr.heap.size = P at *
  have k0 : wc.cell? ⟨b3, 0, none⟩ = some (.int .i64 s.sort) := HC.out.2.1.c0
  have k2 : wc.cell? ⟨b3, 2, none⟩ = some (.int .u64 (s.bits : Nat)) := HC.out.2.1.c2
  go_step
  apply wp_seq_k
  intro K2 hK2
  go_cut [] (fun wx => Hid (PreS B N n m l xs v P b3 s K q w0 wx))
  case first =>
   by_cases hs3 : s.sort = 3
   ·have e3 : (s.sort == 3) = true := by simp [hs3]
    have HNM := Lib.hid (fun W => num_any s.bits W HG.out.fine.bits)
    have hfl : s.flag = false ∧ s.text = [] := by
     obtain ⟨u1, u2, u3, u4, u5, u6, u7, u8⟩ := used_shape HG.out.used
     exact ⟨u4 (by omega), u6 (by omega)⟩
    have HFL := Lib.hid (And.intro hs3 hfl)
    clear hs3 hfl
    go_wp2_with fail
    refine (HNM.out _).mono ?_
    rintro e w2 ⟨rfl, hb2⟩
    have hbl2 := HC.out.1.below hb2 HC.out.1.lt
    have HS2 := Lib.hid (HC.out.2.1.below hb2)
    have HB2 := Lib.hid (HC.out.2.2.trans (hb2.mono HC.out.2.2.size))
    have HBL := Lib.hid hbl2
    have p0 : w2.cell? ⟨P, 0, none⟩ = some (.int .i64 s.sort) := hbl2.cell 0
    have p1 : w2.cell? ⟨P, 1, none⟩ = some (.bool s.flag) := hbl2.cell 1
    have p2 : w2.cell? ⟨P, 2, none⟩ = some (.int .u64 0) := hbl2.cell 2
    have p3 : w2.cell? ⟨P, 3, none⟩ = some (.string ⟨s.text.toArray⟩) := hbl2.cell 3
    have p4 : w2.cell? ⟨P, 4, none⟩ = some (.slice none 0 0) := hbl2.cell 4
    have p5 : w2.cell? ⟨P, 5, none⟩ = some (.slice none 0 0) := hbl2.cell 5
    have q0 := hbl2.frozen 0
    have q1 := hbl2.frozen 1
    have q2 := hbl2.frozen 2
    have q3 := hbl2.frozen 3
    have q4 := hbl2.frozen 4
    have q5 := hbl2.frozen 5
    clear hbl2 hb2 k0 k2
    go_wp2_with fail
    go_meet
    obtain ⟨hs3, hf, ht⟩ := HFL.out
    have hg6 := grown_put (grown_put (grown_put (grown_put (grown_put (grown_put (grown_refl w2 (some P)) 0 (.int .i64 3)) 1 (.bool false)) 2 (.int .u64 (normB s.bits : Nat))) 3 (.string ⟨#[]⟩)) 4 (.slice none 0 0)) 5 (.slice none 0 0)
    have hmv : ∀ ob, (((((((w2.setCell ⟨P, 0, none⟩ (.int .i64 3)).setCell ⟨P, 1, none⟩ (.bool false)).setCell ⟨P, 2, none⟩ (.int .u64 (normB s.bits : Nat))).setCell ⟨P, 3, none⟩ (.string ⟨#[]⟩)).setCell ⟨P, 4, none⟩ (.slice none 0 0)).setCell ⟨P, 5, none⟩ (.slice none 0 0)).cell? ⟨b3, ob, none⟩) = w2.cell? ⟨b3, ob, none⟩ := fun ob => cell_block (hg6.block b3 (World.block_lt_of_cell? _ _ HS2.out.c0) (by intro e; injection e with e; exact hne e))
    have hk0 : s.keys = [] := by
     obtain ⟨u1, u2, u3, u4, u5, u6, u7, u8⟩ := used_shape HG.out.used
     exact List.length_eq_zero_iff.1 (u8 (by omega))
    refine Lib.hid ⟨?_, ⟨(hmv _).trans HS2.out.c0, (hmv _).trans HS2.out.c1, (hmv _).trans HS2.out.c2, (hmv _).trans HS2.out.c3, (hmv _).trans HS2.out.c4, (hmv _).trans HS2.out.c5, ⟨_, _, rfl, .inl hk0⟩, HS2.out.kc⟩, HB2.out.grown hg6 HB2.out.size (fun k e => by injection e; omega), hne⟩
    have hbf := (((((HBL.out.put 0 (.int .i64 3)).put 1 (.bool false)).put 2 (.int .u64 (normB s.bits : Nat))).put 3 (.string ⟨#[]⟩)).put 4 (.slice none 0 0)).put 5 (.slice none 0 0)
    unfold nbS
    rw [if_pos hs3, hs3, hf, ht]
    exact hbf
   ·have e3 : (s.sort == 3) = false := by simp [hs3]
    have hnb : nbS s = 0 := by unfold nbS; rw [if_neg hs3]
    have HPR : Hid (PreS B N n m l xs v P b3 s K q w0 wc) := Lib.hid ⟨by rw [hnb]; exact HC.out.1, HC.out.2.1, HC.out.2.2, hne⟩
    clear hs3 hnb
    go_wp2_with fail
    go_meet
    exact HPR
  case rest =>
   go_step
   exact do_t9 B N n m l xs P b3 s K q r w0 _ HG.out (by omega) H30.out.1 H30.out.2 v HR.out hcut.out _ _ _ _ _ _ _ _ _ _ _ _ _ _ _ _ _ _ _ _ _ _ _ _ _ _ _ _ _ _ _ _ _ _ _ _ _ _ _ _ _ _ _ _ _ _ _ _ _ _ _ _ _ _ _ _ _ _ _ _ _ _ _ _ _ _ _ _ _ _ _ _ _ _ _ _ _ _ _ _ _ _ _ _ _ _ _ _ _ _ _
def Stp.Cnt (s : Stp) : Prop := -9223372036854775808 ≤ s.count ∧ s.count ≤ 9223372036854775807
theorem do_t5 (B N : Nat) (l : List Tr) (xs : List X4) (v : Value) (b3 : Nat) (s : Stp) (K : Option Addr) (q : Nat) (w0 wr : World) (hown : w0.ownsRow B 79 6 v N (cellsV l xs)) (hrd : RdVL (fun k => B ≤ k ∧ some k ≠ v.ownBlock) w0 l xs) (hln : l.length = N) (hle : N ≤ 65536) (hbs : B ≤ w0.heap.size) (hok : OkL l) (hu : usedB s.sort s.flag s.bits s.text s.count s.keys.length = true) (hF : s.Fine) (hC : s.Cnt) (hk : KeysOk s.keys) (hnd : s.keys.Nodup) (hr1 : ¬ (s.sort = 3 ∧ finB s.bits = false)) (hr2 : rightB s.text = true ∧ s.keys.all rightB = true)
  (hst : CellS wr b3 0 s K q) (hbe : Below w0.heap.size w0 wr) (z1 z2 z4 z5 z6 z7 z8 z9 z10 z11 z12 z13 z14 z15 z16 z17 z18 z19 z20 z21 z22 z23 z24 z25 z26 z27 z28 z29 z30 z31 z32 z33 z34 z35 z36 z37 z38 z39 z40 z41 z42 z43 z44 z45 z46 z47 z48 z49 z50 z51 z52 z53 z54 z55 z56 z57 z58 z59 z60 z61 z62 z63 z64 z65 z66 z67 z68 z69 z70 z71 z72 z73 z74 z75 z76 z77 z78 z79 z80 z81 z82 z83 z84 z85 z86 z87 z88 z89 z90 z91 z92 z93 z94 : Value) :
  Code.wp Tryz.prog doT5 (bodyPost Tryz.prog Tryz.f142 (DoP B (refDo l s) w0)) { tmps := (v :: z1 :: z2 :: .pointer (some ⟨b3, 0, none⟩) :: z4 :: z5 :: z6 :: z7 :: z8 :: z9 :: z10 :: z11 :: z12 :: z13 :: z14 :: z15 :: z16 :: z17 :: z18 :: z19 :: z20 :: z21 :: z22 :: z23 :: z24 :: z25 :: z26 :: z27 :: z28 :: z29 :: z30 :: z31 :: z32 :: z33 :: z34 :: z35 :: z36 :: z37 :: z38 :: z39 :: z40 :: z41 :: z42 :: z43 :: z44 :: z45 :: z46 :: z47 :: z48 :: z49 :: z50 :: z51 :: z52 :: z53 :: z54 :: z55 :: z56 :: z57 :: z58 :: z59 :: z60 :: z61 :: z62 :: z63 :: z64 :: z65 :: z66 :: z67 :: z68 :: z69 :: z70 :: z71 :: z72 :: z73 :: z74 :: z75 :: z76 :: z77 :: z78 :: z79 :: z80 :: z81 :: z82 :: z83 :: z84 :: z85 :: z86 :: z87 :: z88 :: z89 :: z90 :: z91 :: z92 :: z93 :: z94 :: []).toArray, defers := [] } wr := by
 obtain ⟨u1, u2, u3, u4, u5, u6, u7, u8⟩ := used_shape hu
 obtain ⟨n, hn⟩ : ∃ n, n = s.count.toNat + s.keys.length := ⟨_, rfl⟩
 have hc2 := hC.2
 have hkn := hF.kn
 have hsum : IntKind.i64.wrap (s.count + (s.keys.length : Int)) = ((n : Nat) : Int) := by
  by_cases h6 : s.sort = 6
  ·have := u7 (by omega)
   rw [IntWalk.i64_in _ (by omega)]
   omega
  ·have := u8 h6
   rw [IntWalk.i64_in _ (by omega)]
   omega
 have hsix : s.sort = 6 → n = s.keys.length := fun h => by have := u7 (by omega); omega
 have hrow : VRow B l v wr := VRow.below ⟨xs, by rw [hln]; exact hown, hrd⟩ hbe
 have k4 : wr.cell? ⟨b3, 4, none⟩ = some (.int .i64 s.count) := hst.c4
 have k5 : wr.cell? ⟨b3, 5, none⟩ = some (.slice K s.keys.length q) := hst.c5
 have hv0 := own_slice hown
 obtain ⟨Av, qv, rfl⟩ := hv0
 have HD : Hid (refDo l s = if l.length < n then (102, l) else if (mkT s (l.drop (l.length - n))).fit = true then (0, l.take (l.length - n) ++ [mkT s (l.drop (l.length - n))]) else (3, l)) := Lib.hid (by
  unfold refDo
  rw [if_neg (by rw [hu]; decide), if_neg hr1, if_neg (not_not_intro hr2), if_neg (not_not_intro hnd), hn])
 have HU := Lib.hid hu
 have HF := Lib.hid hF
 have HK := Lib.hid (And.intro hk hnd)
 have HS := Lib.hid hst
 have HBE := Lib.hid hbe
 have HOW := Lib.hid (And.intro hown hrd)
 have HRW := Lib.hid hrow
 have H6 := Lib.hid hsix
 have HOK := Lib.hid hok
 clear hu hF hC hk hnd hst hbe hown hrd hrow hsix hn u1 u2 u3 u4 u5 u6 u7 u8 hc2 hkn hr1 hr2 hok
 conv => arg 2; whnf
 apply wp_seq_k
 intro K1 hK1
 go_cut [6] (fun c6 wx => c6 = .int .i64 n ∧ wx = wr)
 case first =>
  go_wp2_with fail
  go_meet
  exact ⟨rfl, rfl⟩
 case rest =>
  obtain ⟨rfl, rfl⟩ := hcut
  clear k4 k5 hsum
  go_step
  by_cases hlt : N < n
  ·have hd : ((N : Int) < (n : Int)) = True := eq_true (by omega)
   have HR : Hid (refDo l s = (102, l)) := Lib.hid (by rw [HD.out, if_pos (by omega)])
   clear hlt HD
   go_wp2
   refine bodyPost_ret (results_two (t := 4) (u := 5) rfl _ _ _) rfl ?_
   rw [HR.out]
   exact ⟨⟨_, rfl, HRW.out⟩, HBE.out.mono hbs⟩
  ·have hd : ((N : Int) < (n : Int)) = False := eq_false (by omega)
   obtain ⟨m, hm⟩ : ∃ m, N = n + m := ⟨N - n, by omega⟩
   have hlm : l.length - n = m := by omega
   have HR3 : Hid ((mkT s (l.drop m)).fit = false → refDo l s = (3, l)) := Lib.hid fun h => by rw [HD.out, if_neg (by omega), hlm, if_neg (by rw [h]; decide)]
   have HR0 : Hid ((mkT s (l.drop m)).fit = true → refDo l s = (0, l.take m ++ [mkT s (l.drop m)])) := Lib.hid fun h => by rw [HD.out, if_neg (by omega), hlm, if_pos h]
   have HM := Lib.hid hm
   clear hlt HD hm hlm
   apply wp_seq_k
   intro K2 hK2
   go_cut [] (fun wx => wx = wc)
   case first =>
    go_wp2_with fail
    go_meet
    rfl
   case rest =>
    subst hcut
    go_step
    exact do_t7 B N n m l xs _ b3 s K q _ w0 _ ⟨HOW.out.1, HOW.out.2, hln, HM.out, hle, hbs, HOK.out⟩ ⟨HU.out, HF.out, HK.out.1, HK.out.2, H6.out⟩ HS.out HBE.out HR3.out HR0.out _ _ _ _ _ _ _ _ _ _ _ _ _ _ _ _ _ _ _ _ _ _ _ _ _ _ _ _ _ _ _ _ _ _ _ _ _ _ _ _ _ _ _ _ _ _ _ _ _ _ _ _ _ _ _ _ _ _ _ _ _ _ _ _ _ _ _ _ _ _ _ _ _ _ _ _ _ _ _ _ _ _ _ _ _ _ _ _ _ _ _ _
end Nd
end Go.Proofs.YtbajkglacfheiaaGreatDoor
namespace Go.Proofs.YtbajkglacfheiaaGreatDoor
open Go.RowKit Mem Ref3
namespace Nd
theorem refDo_any (B N : Nat) (l : List Tr) (v : Value) (s : Stp) (K : Option Addr) (q : Nat) (w : World) (hrow : VRow B l v w) (hln : l.length = N) (hle : N ≤ 65536) (hbs : B ≤ w.heap.size) (hok : OkL l) (hF : s.Fine) (hC : s.Cnt) (hk : RdK w (.slice K s.keys.length q) s.keys) (hq : s.keys.length ≤ q) :
  Calls Tryz.prog 142 #[v, .agg #[.int .i64 s.sort, .bool s.flag, .int .u64 (s.bits : Int), .string ⟨s.text.toArray⟩, .int .i64 s.count, .slice K s.keys.length q]] w (DoP B (refDo l s) w) := by
 obtain ⟨xs, hown, hrd⟩ := hrow
 rw [hln] at hown
 obtain ⟨Av, qv, rfl⟩ := own_slice hown
 have hba : Below w.heap.size w (w.alloc (.cells #[.int .i64 s.sort, .bool s.flag, .int .u64 (s.bits : Int), .string ⟨s.text.toArray⟩, .int .i64 s.count, .slice K s.keys.length q] 240)) := (Below.refl _ _).alloc (Nat.le_refl _) _
 have hB3 := Blk.new w 240 #[.int .i64 s.sort, .bool s.flag, .int .u64 (s.bits : Int), .string ⟨s.text.toArray⟩, .int .i64 s.count, .slice K s.keys.length q]
 have hst : CellS (w.alloc (.cells #[.int .i64 s.sort, .bool s.flag, .int .u64 (s.bits : Int), .string ⟨s.text.toArray⟩, .int .i64 s.count, .slice K s.keys.length q] 240)) w.heap.size 0 s K q := ⟨hB3.cell 0, hB3.cell 1, hB3.cell 2, hB3.cell 3, hB3.cell 4, hB3.cell 5, hk.below hba, hq⟩
 have HST := Lib.hid (And.intro hst hba)
 have HOW := Lib.hid (And.intro hown hrd)
 have HOK := Lib.hid hok
 have HF := Lib.hid (And.intro hF hC)
 have hret : ∀ (e : Int) W, Below w.heap.size w W → refDo l s = (e, l) → DoP B (refDo l s) w (.returned (.tuple #[.slice Av N qv, .int .i64 e])) W := fun e W hW he => by
  rw [he]
  exact ⟨⟨_, rfl, VRow.below ⟨xs, by rw [hln]; exact hown, hrd⟩ hW⟩, hW.mono hbs⟩
 have HRET := Lib.hid hret
 clear hown hrd hba hB3 hst hk hq hok hF hC hret
 go_enter Tryz.func142, Tryz.ntmps142
 conv => arg 2; whnf
 apply wp_seq_k
 intro K0 hK0
 go_cut [3] (fun c3 wx => c3 = .pointer (some ⟨w.heap.size, 0, none⟩) ∧ Hid (CellS wx w.heap.size 0 s K q ∧ Below w.heap.size w wx))
 case first =>
  go_wp2_with fail
  go_meet
  exact ⟨rfl, HST⟩
 case rest =>
  obtain ⟨rfl, HS⟩ := hcut
  clear HST
  generalize hb3 : w.heap.size = b3 at *
  go_step
  -- the step is one
  apply wp_seq_k
  intro K1 hK1
  obtain ⟨k0, k1, k2, k3, k4, k5, _, _⟩ := HS.out.1
  simp only [Nat.zero_add] at k0 k1 k2 k3 k4 k5
  go_cut [] (fun wx => Hid (CellS wx b3 0 s K q ∧ Below b3 w wx ∧ usedB s.sort s.flag s.bits s.text s.count s.keys.length = true))
  case first =>
   go_wp2_with fail
   refine (rused_any s.sort s.flag s.bits s.text s.count K s.keys.length q _).mono ?_
   rintro e w2 ⟨rfl, hb2⟩
   have HS2 := Lib.hid (And.intro (HS.out.1.below hb2) (HS.out.2.trans (hb2.mono (by have := HS.out.2.size; omega))))
   clear hb2 k0 k1 k2 k3 k4 k5
   cases hus : usedB s.sort s.flag s.bits s.text s.count s.keys.length with
   | false =>
    have HR : Hid (refDo l s = (2, l)) := Lib.hid (by unfold refDo; rw [if_pos hus])
    clear hus
    go_wp2
    refine bodyPost_ret (results_two (t := 4) (u := 5) rfl _ _ _) rfl ?_
    exact HRET.out 2 _ HS2.out.2 HR.out
   | true =>
    have HU := Lib.hid hus
    clear hus
    go_wp2_with fail
    go_meet
    exact Lib.hid ⟨HS2.out.1, HS2.out.2, HU.out⟩
  case rest =>
   clear HS k0 k1 k2 k3 k4 k5
   have HS : Hid (CellS wc b3 0 s K q ∧ Below b3 w wc) := Lib.hid ⟨hcut.out.1, hcut.out.2.1⟩
   have HU := Lib.hid hcut.out.2.2
   clear hcut
   go_step
   -- a number that is one
   apply wp_seq_k
   intro K2 hK2
   obtain ⟨k0, k1, k2, k3, k4, k5, _, _⟩ := HS.out.1
   simp only [Nat.zero_add] at k0 k1 k2 k3 k4 k5
   go_cut [] (fun wx => wx = wc ∧ Hid (¬ (s.sort = 3 ∧ finB s.bits = false)))
   case first =>
    by_cases hs3 : s.sort = 3
    ·have e3 : (s.sort == 3) = true := by simp [hs3]
     have HFN := Lib.hid (finite_any s.bits HF.out.1.bits)
     have HS3 := Lib.hid hs3
     clear hs3
     go_wp2_with fail
     refine (HFN.out _).mono ?_
     rintro e w' ⟨rfl, rfl⟩
     cases hfb : finB s.bits with
     | false =>
      have HR : Hid (refDo l s = (104, l)) := Lib.hid (by unfold refDo; rw [if_neg (by rw [HU.out]; decide), if_pos ⟨HS3.out, hfb⟩])
      clear hfb
      go_wp2
      refine bodyPost_ret (results_two (t := 4) (u := 5) rfl _ _ _) rfl ?_
      exact HRET.out 104 _ HS.out.2 HR.out
     | true =>
      have HN : Hid (¬ (s.sort = 3 ∧ finB s.bits = false)) := Lib.hid fun h => by rw [hfb] at h; exact absurd h.2 (by decide)
      clear hfb
      go_wp2_with fail
      go_meet
      exact ⟨rfl, HN⟩
    ·have e3 : (s.sort == 3) = false := by simp [hs3]
     have HN : Hid (¬ (s.sort = 3 ∧ finB s.bits = false)) := Lib.hid fun h => hs3 h.1
     clear hs3
     go_wp2_with fail
     go_meet
     exact ⟨rfl, HN⟩
   case rest =>
    obtain ⟨rfl, HN3⟩ := hcut
    go_step
    -- right texts
    apply wp_seq_k
    intro K3 hK3
    go_cut [] (fun wx => wx = wc ∧ Hid (rightB s.text = true ∧ s.keys.all rightB = true))
    case first =>
     have HRT := Lib.hid (fun W => refRight_tx s.text W HF.out.1.text)
     have HRK := Lib.hid (rright_any K q s.keys wc HS.out.1.ks HF.out.1.kl HF.out.1.kn)
     go_wp2_with fail
     refine (HRT.out _).mono ?_
     rintro e w' ⟨rfl, rfl⟩
     cases hrt : rightB s.text with
     | false =>
      have HR : Hid (refDo l s = (100, l)) := Lib.hid (by unfold refDo; rw [if_neg (by rw [HU.out]; decide), if_neg HN3.out, if_pos (by rw [hrt]; simp)])
      clear hrt
      go_wp2
      refine bodyPost_ret (results_two (t := 4) (u := 5) rfl _ _ _) rfl ?_
      exact HRET.out 100 _ HS.out.2 HR.out
     | true =>
      have HT := Lib.hid hrt
      clear hrt
      go_wp2_with fail
      refine HRK.out.mono ?_
      rintro e w' ⟨rfl, rfl⟩
      cases hrk : s.keys.all rightB with
      | false =>
       have HR : Hid (refDo l s = (100, l)) := Lib.hid (by unfold refDo; rw [if_neg (by rw [HU.out]; decide), if_neg HN3.out, if_pos (by rw [hrk]; simp)])
       clear hrk
       go_wp2
       refine bodyPost_ret (results_two (t := 4) (u := 5) rfl _ _ _) rfl ?_
       exact HRET.out 100 _ HS.out.2 HR.out
      | true =>
       have HKA := Lib.hid hrk
       clear hrk
       go_wp2_with fail
       go_meet
       exact ⟨rfl, Lib.hid ⟨HT.out, HKA.out⟩⟩
    case rest =>
     obtain ⟨rfl, HRR⟩ := hcut
     have hkok : KeysOk s.keys := fun k hk => ⟨List.all_eq_true.1 HRR.out.2 k hk, HF.out.1.kl k hk⟩
     have HKO := Lib.hid hkok
     clear hkok
     go_step
     -- no key twice
     apply wp_seq_k
     intro K4 hK4
     go_cut [] (fun wx => Hid (CellS wx b3 0 s K q ∧ Below b3 w wx ∧ s.keys.Nodup))
     case first =>
      have HTW := Lib.hid (twice_any K q s.keys.length s.keys wc rfl HS.out.1.ks HS.out.1.kc HKO.out HF.out.1.kn)
      go_wp2_with fail
      refine HTW.out.mono ?_
      rintro e w2 ⟨rfl, hb2⟩
      have HS2 := Lib.hid (And.intro (HS.out.1.below hb2) (HS.out.2.trans (hb2.mono (by have := HS.out.2.size; omega))))
      clear hb2 k0 k1 k2 k3 k4 k5
      by_cases hnd : s.keys.Nodup
      ·have HND := Lib.hid hnd
       have hdf : decide (¬ s.keys.Nodup) = false := decide_eq_false (by simpa using hnd)
       rw [hdf]
       clear hnd hdf
       go_wp2_with fail
       go_meet
       exact Lib.hid ⟨HS2.out.1, HS2.out.2, HND.out⟩
      ·have HR : Hid (refDo l s = (101, l)) := Lib.hid (by unfold refDo; rw [if_neg (by rw [HU.out]; decide), if_neg HN3.out, if_neg (not_not_intro HRR.out), if_pos hnd])
       have hdt : decide (¬ s.keys.Nodup) = true := decide_eq_true hnd
       rw [hdt]
       clear hnd hdt
       go_wp2
       refine bodyPost_ret (results_two (t := 4) (u := 5) rfl _ _ _) rfl ?_
       exact HRET.out 101 _ HS2.out.2 HR.out
     case rest =>
      obtain ⟨h1, h2, h3⟩ := hcut.out
      go_step
      subst hb3
      exact do_t5 B N l xs _ _ s K q w _ HOW.out.1 HOW.out.2 hln hle hbs HOK.out HU.out HF.out.1 HF.out.2 HKO.out h3 HN3.out HRR.out h1 h2 _ _ _ _ _ _ _ _ _ _ _ _ _ _ _ _ _ _ _ _ _ _ _ _ _ _ _ _ _ _ _ _ _ _ _ _ _ _ _ _ _ _ _ _ _ _ _ _ _ _ _ _ _ _ _ _ _ _ _ _ _ _ _ _ _ _ _ _ _ _ _ _ _ _ _ _ _ _ _ _ _ _ _ _ _ _ _ _ _ _ _ _ _
end Nd
end Go.Proofs.YtbajkglacfheiaaGreatDoor
namespace Go.Proofs.YtbajkglacfheiaaGreatDoor
open Go.RowKit Mem Ref3
namespace Nd
abbrev noVal : Value := .agg #[.int .i64 0, .bool false, .int .u64 0, .string ⟨#[]⟩, .slice none 0 0, .slice none 0 0]
def RBuildP (ss : List Stp) (w : World) (e : Ending) (w' : World) : Prop :=
 Below w.heap.size w w' ∧ match buildT ss with
  | .inl (n, i) => e = .returned (.tuple #[noVal, .int .i64 n, .int .i64 i])
  | .inr t => ∃ A c K d, e = .returned (.tuple #[valV t A c K d, .int .i64 0, .int .i64 0]) ∧ RdV (fun k => w.heap.size ≤ k) w' t ((A, c), (K, d))
abbrev six (w : World) (P : Nat) (a b c d e f : Value) : World := (((((w.setCell ⟨P, 0, none⟩ a).setCell ⟨P, 1, none⟩ b).setCell ⟨P, 2, none⟩ c).setCell ⟨P, 3, none⟩ d).setCell ⟨P, 4, none⟩ e).setCell ⟨P, 5, none⟩ f
theorem six_grown (w : World) (P : Nat) (a b c d e f : Value) : w.grownBy (six w P a b c d e f) (some P) := grown_put (grown_put (grown_put (grown_put (grown_put (grown_put (grown_refl w _) 0 _) 1 _) 2 _) 3 _) 4 _) 5 _
theorem six_blk {w : World} {P : Nat} {t : TypeId} {z0 z1 z2 z3 z4 z5 : Value} (h : Blk w P t #[z0, z1, z2, z3, z4, z5]) (a b c d e f : Value) : Blk (six w P a b c d e f) P t #[a, b, c, d, e, f] := (((((h.put 0 a).put 1 b).put 2 c).put 3 d).put 4 e).put 5 f
theorem refBuild_long (v : Value) (ss : List Stp) (w : World) (hS : RdS w v ss) (hn : 65536 < ss.length) :
  Calls Tryz.prog 102 #[v] w (RBuildP ss w) := by
 obtain ⟨A, c, rfl, _⟩ := hS
 have hB : Hid (buildT ss = .inl (3, -1)) := Lib.hid (by unfold buildT; rw [if_pos hn])
 have hd : ((65536 : Int) < (ss.length : Int)) = True := eq_true (by omega)
 have hba : ∀ o, Below w.heap.size w (w.alloc o) := fun o => (Below.refl _ _).alloc (Nat.le_refl _) _
 clear hn
 go_enter Tryz.func102, Tryz.ntmps102
 go_wp2
 refine bodyPost_ret (v := .tuple #[noVal, .int .i64 3, .int .i64 (-1)]) ?_ rfl ⟨hba _, ?_⟩
 ·simp [results, Tryz.results102, go_sem]
 ·rw [hB.out]
theorem vrow_one {B : Nat} {t : Tr} {v : Value} {w : World} (h : VRow B [t] v w) : ∃ g cap A c K d, v = .slice (some ⟨g, 0, none⟩) 1 cap ∧ CellsV w g 0 t ((A, c), (K, d)) ∧ RdV (fun k => B ≤ k) w t ((A, c), (K, d)) := by
 obtain ⟨xs, hown, hrd⟩ := h
 have hl := hrd.len
 obtain ⟨x, rfl⟩ : ∃ x, xs = [x] := by
  match xs, hl with
  | [x], _ => exact ⟨x, rfl⟩
 obtain ⟨⟨A, c⟩, K, d⟩ := x
 have hr := hrd.at (j := 0) rfl rfl
 rcases hown.2 with ⟨_, h0⟩ | ⟨g, cap, cur, hv, _, hg, _, _, hs, ht⟩
 ·cases h0
 ·refine ⟨g, cap, A, c, K, d, hv, ?_, RdV.move (fun k hk hs => ⟨hs.1, rfl⟩) _ _ hr⟩
  have hc : ∀ i u, (cellV t ((A, c), (K, d)))[i]? = some u → i < 6 → w.cell? ⟨g, 0 + i, none⟩ = some u := fun i u hu hi => by
   rw [cell_of_row w g _ cur _ _ hg, Nat.zero_add]
   have h2 : (cur.toList.take ([t].length * 6))[i]? = some u := by
    rw [ht]
    show (cellV t ((A, c), (K, d)) ++ [])[i]? = some u
    rw [List.append_nil]
    exact hu
   rw [List.getElem?_take, if_pos (by simp; omega)] at h2
   simpa using h2
  exact ⟨hc 0 _ rfl (by omega), hc 1 _ rfl (by omega), hc 2 _ rfl (by omega), hc 3 _ rfl (by omega), hc 4 _ rfl (by omega), hc 5 _ rfl (by omega)⟩
theorem refBuild_any (v : Value) (ss : List Stp) (w : World) (hS : RdS w v ss) (hF : ∀ s ∈ ss, s.Fine) (hC : ∀ s ∈ ss, s.Cnt) (hn : ss.length ≤ 65536) :
  Calls Tryz.prog 102 #[v] w (RBuildP ss w) := by
 have hba : Below w.heap.size w (w.alloc (.cells #[.int .i64 0, .bool false, .int .u64 0, .string ⟨#[]⟩, .slice none 0 0, .slice none 0 0] 79)) := (Below.refl _ _).alloc (Nat.le_refl _) _
 have hB2 := Blk.new w 79 #[.int .i64 0, .bool false, .int .u64 0, .string ⟨#[]⟩, .slice none 0 0, .slice none 0 0]
 have hS1 := hS.below hba
 obtain ⟨A, c, rfl, _⟩ := hS
 have HS := Lib.hid hS1
 have HF := Lib.hid (And.intro hF hC)
 have HB2 := Lib.hid hB2
 have HBA := Lib.hid hba
 have hsz : (w.alloc (.cells #[.int .i64 0, .bool false, .int .u64 0, .string ⟨#[]⟩, .slice none 0 0, .slice none 0 0] 79)).heap.size = w.heap.size + 1 := by simp
 have hd : ((65536 : Int) < (ss.length : Int)) = False := eq_false (by omega)
 have HN := Lib.hid hn
 clear hF hC hba hB2 hS1 hn
 go_enter Tryz.func102, Tryz.ntmps102
 go_wp2_with fail
 generalize w.alloc (.cells #[.int .i64 0, .bool false, .int .u64 0, .string ⟨#[]⟩, .slice none 0 0, .slice none 0 0] 79) = w1 at *
 go_loopw [5, 6] (fun c5 c6 wr => ∃ (k : Nat) (l : List Tr), k ≤ ss.length ∧ c6 = .int .i64 k ∧ l.length ≤ k ∧ Hid (runT [] ss 0 = runT l (ss.drop k) k) ∧ Hid (VRow w1.heap.size l c5 wr ∧ OkL l) ∧ Hid (Below w1.heap.size w1 wr)) (fun _ c6 _ => ss.length - (intOf c6).toNat)
 case atStart => exact ⟨0, [], Nat.zero_le _, rfl, Nat.zero_le _, Lib.hid rfl, Lib.hid ⟨vrow_nil _ _, by unfold OkL; trivial⟩, Lib.hid (Below.refl _ _)⟩
 case round =>
  obtain ⟨k, l, hk, rfl, hlk, HR, HX, HB⟩ := hrel
  have hws := HB.out.size
  have hblk := HB2.out.below HB.out (by omega)
  have HBK := Lib.hid hblk
  have hbw : Below w.heap.size w wr := HBA.out.trans (HB.out.mono (by omega))
  have HBW := Lib.hid hbw
  have HSIX := Lib.hid (fun a b c d e f => hbw.grown (six_grown wr w.heap.size a b c d e f) hbw.size (fun k e => by injection e; omega))
  clear hblk hbw
  by_cases hlt : k < ss.length
  ·have hcs : ∃ g o K q, A = some ⟨g, o, none⟩ ∧ CellS wr g (o + k * 6) ss[k] K q := by
    obtain ⟨A', c', e', h'⟩ := HS.out
    injection e' with e1 e2 e3
    rcases h' with h' | ⟨g, o, hA, hc⟩
    ·rw [h'] at hlt
     simp at hlt
    ·obtain ⟨K, q, h⟩ := hc k _ (List.getElem?_eq_getElem hlt)
     exact ⟨g, o, K, q, by rw [e1, hA], h.below HB.out⟩
   obtain ⟨g, o, K, q, rfl, hCS⟩ := hcs
   have HC := Lib.hid hCS
   obtain ⟨c0, c1, c2, c3, c4, c5, ck, cq⟩ := hCS
   have hfine := HF.out.1 _ (List.getElem_mem hlt)
   have hcnt := HF.out.2 _ (List.getElem_mem hlt)
   have hdr : ss.drop k = ss[k] :: ss.drop (k + 1) := List.drop_eq_getElem_cons hlt
   have HDR := Lib.hid hdr
   have HFI := Lib.hid (And.intro hfine hcnt)
   clear hdr hfine hcnt ck cq
   generalize ss[k] = s at *
   have hln := HN.out
   have HD := Lib.hid (refDo_any w1.heap.size l.length l u5 s K q wr HX.out.1 rfl (by omega) hws HX.out.2 HFI.out.1 HFI.out.2 HC.out.ks HC.out.kc)
   have hdl := doT_len l s
   have hRD := refDo_doT l s
   have hokn := doT_ok l s HFI.out.1 HX.out.2
   obtain ⟨xs5, ho5, _⟩ := HX.out.1
   obtain ⟨A5, q5, rfl⟩ := own_slice ho5
   rw [hRD] at HD
   clear hRD hln ho5
   go_wp2_with fail
   refine HD.out.mono ?_
   rintro e w2 ⟨⟨v2, rfl, hv2⟩, hb2⟩
   have HV2 := Lib.hid (And.intro hv2 hokn)
   have hb12 := HB.out.trans hb2
   have HB12 := Lib.hid hb12
   have hblk2 := HB2.out.below hb12 (by omega)
   have HBK2 := Lib.hid hblk2
   have hbw2 : Below w.heap.size w w2 := HBA.out.trans (hb12.mono (by omega))
   have HSIX2 := Lib.hid (fun a b c d e f => hbw2.grown (six_grown w2 w.heap.size a b c d e f) hbw2.size (fun k e => by injection e; omega))
   clear hv2 hokn hb2 hb12 hbw2 HD c0 c1 c2 c3 c4 c5
   by_cases h0 : (doT l s).1 = 0
   ·have HR2 : Hid (runT [] ss 0 = runT (doT l s).2 (ss.drop (k + 1)) (k + 1)) := Lib.hid (by rw [HR.out, HDR.out, runT, if_pos h0])
    have hz : ((doT l s).1 != 0) = false := by simp [h0]
    clear h0
    generalize (doT l s).2 = l2 at *
    generalize (doT l s).1 = m at *
    have hkb : k < 1048577 := by have := HN.out; omega
    clear hblk2
    go_wp2
    go_roundw
    case rel => exact ⟨k + 1, l2, by omega, by go_num, by omega, HR2, HV2, HB12⟩
    case measure => simp [intOf]; omega
   ·have HR2 : Hid (buildT ss = .inl ((doT l s).1, (k : Int))) := Lib.hid (by
     unfold buildT
     rw [if_neg (by have := HN.out; omega), HR.out, HDR.out, runT, if_neg h0])
    have hz : ((doT l s).1 != 0) = true := by simp [h0]
    clear h0
    generalize (doT l s).1 = m at *
    have p0 : w2.cell? ⟨w.heap.size, 0, none⟩ = some (.int .i64 0) := hblk2.cell 0
    have p1 : w2.cell? ⟨w.heap.size, 1, none⟩ = some (.bool false) := hblk2.cell 1
    have p2 : w2.cell? ⟨w.heap.size, 2, none⟩ = some (.int .u64 0) := hblk2.cell 2
    have p3 : w2.cell? ⟨w.heap.size, 3, none⟩ = some (.string ⟨#[]⟩) := hblk2.cell 3
    have p4 : w2.cell? ⟨w.heap.size, 4, none⟩ = some (.slice none 0 0) := hblk2.cell 4
    have p5 : w2.cell? ⟨w.heap.size, 5, none⟩ = some (.slice none 0 0) := hblk2.cell 5
    have q0 := hblk2.frozen 0
    have q1 := hblk2.frozen 1
    have q2 := hblk2.frozen 2
    have q3 := hblk2.frozen 3
    have q4 := hblk2.frozen 4
    have q5 := hblk2.frozen 5
    clear hblk2
    go_wp2
    have hf := six_blk HBK2.out (.int .i64 0) (.bool false) (.int .u64 0) (.string ⟨#[]⟩) (.slice none 0 0) (.slice none 0 0)
    have hbel := HSIX2.out (.int .i64 0) (.bool false) (.int .u64 0) (.string ⟨#[]⟩) (.slice none 0 0) (.slice none 0 0)
    unfold six at hf hbel
    generalize (((((w2.setCell ⟨w.heap.size, 0, none⟩ (.int .i64 0)).setCell ⟨w.heap.size, 1, none⟩ (.bool false)).setCell ⟨w.heap.size, 2, none⟩ (.int .u64 0)).setCell ⟨w.heap.size, 3, none⟩ (.string ⟨#[]⟩)).setCell ⟨w.heap.size, 4, none⟩ (.slice none 0 0)).setCell ⟨w.heap.size, 5, none⟩ (.slice none 0 0) = wf at *
    have d0 : wf.cell? ⟨w.heap.size, 0, none⟩ = some (.int .i64 0) := hf.cell 0
    have d1 : wf.cell? ⟨w.heap.size, 1, none⟩ = some (.bool false) := hf.cell 1
    have d2 : wf.cell? ⟨w.heap.size, 2, none⟩ = some (.int .u64 0) := hf.cell 2
    have d3 : wf.cell? ⟨w.heap.size, 3, none⟩ = some (.string ⟨#[]⟩) := hf.cell 3
    have d4 : wf.cell? ⟨w.heap.size, 4, none⟩ = some (.slice none 0 0) := hf.cell 4
    have d5 : wf.cell? ⟨w.heap.size, 5, none⟩ = some (.slice none 0 0) := hf.cell 5
    refine bodyPost_ret (v := .tuple #[noVal, .int .i64 m, .int .i64 k]) ?_ rfl ⟨hbel, ?_⟩
    ·simp [results, Tryz.results102, go_sem, d0, d1, d2, d3, d4, d5]
    ·rw [HR2.out]
  ·have hkn : k = ss.length := by omega
   subst hkn
   have hdr : ss.drop ss.length = [] := List.drop_eq_nil_of_le (Nat.le_refl _)
   have HR2 : Hid (runT [] ss 0 = .inr l) := Lib.hid (by rw [HR.out, hdr, runT])
   clear hdr HR
   have hblk := HBK.out
   have p0 : wr.cell? ⟨w.heap.size, 0, none⟩ = some (.int .i64 0) := hblk.cell 0
   have p1 : wr.cell? ⟨w.heap.size, 1, none⟩ = some (.bool false) := hblk.cell 1
   have p2 : wr.cell? ⟨w.heap.size, 2, none⟩ = some (.int .u64 0) := hblk.cell 2
   have p3 : wr.cell? ⟨w.heap.size, 3, none⟩ = some (.string ⟨#[]⟩) := hblk.cell 3
   have p4 : wr.cell? ⟨w.heap.size, 4, none⟩ = some (.slice none 0 0) := hblk.cell 4
   have p5 : wr.cell? ⟨w.heap.size, 5, none⟩ = some (.slice none 0 0) := hblk.cell 5
   have q0 := hblk.frozen 0
   have q1 := hblk.frozen 1
   have q2 := hblk.frozen 2
   have q3 := hblk.frozen 3
   have q4 := hblk.frozen 4
   have q5 := hblk.frozen 5
   clear hblk
   by_cases h1 : l.length = 1
   ·obtain ⟨t, rfl⟩ : ∃ t, l = [t] := by
     match l, h1 with
     | [t], _ => exact ⟨t, rfl⟩
    have HT : Hid (buildT ss = .inr t) := Lib.hid (by unfold buildT; rw [if_neg (by have := HN.out; omega), HR2.out])
    obtain ⟨g, cap, A', c', K', d', rfl, hcv, hrd⟩ := vrow_one HX.out.1
    obtain ⟨x0, x1, x2, x3, x4, x5⟩ := hcv
    simp only [Nat.zero_add] at x0 x1 x2 x3 x4 x5
    -- the nested values lie elsewhere
    have hgB : w1.heap.size ≤ g := by
     obtain ⟨_, ho, _⟩ := HX.out.1
     exact own_base ho g rfl
    have hne : w.heap.size ≠ g := by omega
    have HRD := Lib.hid hrd
    clear HR2 h1 hrd
    go_wp2
    have hf := six_blk HBK.out (.int .i64 (t.srt : Nat)) (.bool t.fl) (.int .u64 (t.bi : Nat)) (.string ⟨t.tx.toArray⟩) (.slice A' t.kids.length c') (.slice K' t.kn.length d')
    have hbel := HSIX.out (.int .i64 (t.srt : Nat)) (.bool t.fl) (.int .u64 (t.bi : Nat)) (.string ⟨t.tx.toArray⟩) (.slice A' t.kids.length c') (.slice K' t.kn.length d')
    have hg6 := six_grown wr w.heap.size (.int .i64 (t.srt : Nat)) (.bool t.fl) (.int .u64 (t.bi : Nat)) (.string ⟨t.tx.toArray⟩) (.slice A' t.kids.length c') (.slice K' t.kn.length d')
    unfold six at hf hbel hg6
    generalize (((((wr.setCell ⟨w.heap.size, 0, none⟩ (.int .i64 (t.srt : Nat))).setCell ⟨w.heap.size, 1, none⟩ (.bool t.fl)).setCell ⟨w.heap.size, 2, none⟩ (.int .u64 (t.bi : Nat))).setCell ⟨w.heap.size, 3, none⟩ (.string ⟨t.tx.toArray⟩)).setCell ⟨w.heap.size, 4, none⟩ (.slice A' t.kids.length c')).setCell ⟨w.heap.size, 5, none⟩ (.slice K' t.kn.length d') = wf at *
    have d0 : wf.cell? ⟨w.heap.size, 0, none⟩ = some (.int .i64 (t.srt : Nat)) := hf.cell 0
    have d1 : wf.cell? ⟨w.heap.size, 1, none⟩ = some (.bool t.fl) := hf.cell 1
    have d2 : wf.cell? ⟨w.heap.size, 2, none⟩ = some (.int .u64 (t.bi : Nat)) := hf.cell 2
    have d3 : wf.cell? ⟨w.heap.size, 3, none⟩ = some (.string ⟨t.tx.toArray⟩) := hf.cell 3
    have d4 : wf.cell? ⟨w.heap.size, 4, none⟩ = some (.slice A' t.kids.length c') := hf.cell 4
    have d5 : wf.cell? ⟨w.heap.size, 5, none⟩ = some (.slice K' t.kn.length d') := hf.cell 5
    refine bodyPost_ret (v := .tuple #[valV t A' c' K' d', .int .i64 0, .int .i64 0]) ?_ rfl ⟨hbel, ?_⟩
    ·simp [results, Tryz.results102, go_sem, d0, d1, d2, d3, d4, d5]
    ·rw [HT.out]
     exact ⟨A', c', K', d', rfl, RdV.move (fun k hk hs => ⟨by have h9 : w1.heap.size ≤ k := hs; show w.heap.size ≤ k; omega, hg6.block k hk (by intro e; injection e with e; omega)⟩) _ _ HRD.out⟩
   ·have HT : Hid (buildT ss = .inl (103, ss.length)) := Lib.hid (by
     unfold buildT
     rw [if_neg (by have := HN.out; omega), HR2.out]
     match l, h1 with
     | [], _ => rfl
     | _ :: _ :: _, _ => rfl)
    have hz : ((l.length : Int) != 1) = true := by simp; omega
    obtain ⟨xs5, ho5, _⟩ := HX.out.1
    obtain ⟨A5, q5, rfl⟩ := own_slice ho5
    clear HR2 h1 ho5
    go_wp2
    have hf := six_blk HBK.out (.int .i64 0) (.bool false) (.int .u64 0) (.string ⟨#[]⟩) (.slice none 0 0) (.slice none 0 0)
    have hbel := HSIX.out (.int .i64 0) (.bool false) (.int .u64 0) (.string ⟨#[]⟩) (.slice none 0 0) (.slice none 0 0)
    unfold six at hf hbel
    generalize (((((wr.setCell ⟨w.heap.size, 0, none⟩ (.int .i64 0)).setCell ⟨w.heap.size, 1, none⟩ (.bool false)).setCell ⟨w.heap.size, 2, none⟩ (.int .u64 0)).setCell ⟨w.heap.size, 3, none⟩ (.string ⟨#[]⟩)).setCell ⟨w.heap.size, 4, none⟩ (.slice none 0 0)).setCell ⟨w.heap.size, 5, none⟩ (.slice none 0 0) = wf at *
    have d0 : wf.cell? ⟨w.heap.size, 0, none⟩ = some (.int .i64 0) := hf.cell 0
    have d1 : wf.cell? ⟨w.heap.size, 1, none⟩ = some (.bool false) := hf.cell 1
    have d2 : wf.cell? ⟨w.heap.size, 2, none⟩ = some (.int .u64 0) := hf.cell 2
    have d3 : wf.cell? ⟨w.heap.size, 3, none⟩ = some (.string ⟨#[]⟩) := hf.cell 3
    have d4 : wf.cell? ⟨w.heap.size, 4, none⟩ = some (.slice none 0 0) := hf.cell 4
    have d5 : wf.cell? ⟨w.heap.size, 5, none⟩ = some (.slice none 0 0) := hf.cell 5
    refine bodyPost_ret (v := .tuple #[noVal, .int .i64 103, .int .i64 ss.length]) ?_ rfl ⟨hbel, ?_⟩
    ·simp [results, Tryz.results102, go_sem, d0, d1, d2, d3, d4, d5]
    ·rw [HT.out]
end Nd
end Go.Proofs.YtbajkglacfheiaaGreatDoor
