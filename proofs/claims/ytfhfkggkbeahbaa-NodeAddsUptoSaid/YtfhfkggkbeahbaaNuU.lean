/-
  The walk of the law NodeAdds.
-/
import Derived.Test.YtfhfkggkbeahbaaNuV
import Derived.Test.YtfhfkggkbeahbaaNbA
namespace Go.Proofs.Ytfhfkggkbeahbaa
open Go.RowKit Go.Shelf Mem
set_option linter.unusedVariables false
set_option linter.unusedSimpArgs false
namespace Nd
attribute [local go_sem] Oper.semAt_some

set_option maxRecDepth 100000 in
def AdInv (w3 : World) (NN g9 q9 : Nat) (a' : Act) (w' : World) : Prop := ∃ z0 z1 z2 z3 z4 z5 z6 z7 z8 z9 z10 z11 z12 z13 z14 z15 z16 z17 z18 z19 z20 z21 z22 z23 z24 z25 z26 z27 z28 z29 z30 z31 z32 z33 z34 z38 z39 z40 z41 z42 z43 z44 z45 z46 z47 z48 z49 z50 z51 z52 z53 z54 z55 z56 z57 z58 z59 z60 z61 z62 z63 z64 z65 z66 z67 z68 z69 z70 z71 z72 z73 z74 z75 z76 z77 z78 z79 z80 z81 z82 z83 z84 z85 z86 z87 z88 z89 z90 z91 z92 z93 z94 z95 z96 z97 z98 z99 z100 z101 z102 z103 z104 z105 z106 : Value, ∃ (ds : List Nat) (k : Nat), k ≤ NN ∧ (Below w3.heap.size w3 w' ∧ MarksOk w3.heap.size ds w') ∧ a' = { tmps := (z0 :: z1 :: z2 :: z3 :: z4 :: z5 :: z6 :: z7 :: z8 :: z9 :: z10 :: z11 :: z12 :: z13 :: z14 :: z15 :: z16 :: z17 :: z18 :: z19 :: z20 :: z21 :: z22 :: z23 :: z24 :: z25 :: z26 :: z27 :: z28 :: z29 :: z30 :: z31 :: z32 :: z33 :: z34 :: (.slice (some ⟨g9, 0, none⟩) NN q9) :: (.int .i64 (NN : Nat)) :: (.int .i64 (k : Nat)) :: z38 :: z39 :: z40 :: z41 :: z42 :: z43 :: z44 :: z45 :: z46 :: z47 :: z48 :: z49 :: z50 :: z51 :: z52 :: z53 :: z54 :: z55 :: z56 :: z57 :: z58 :: z59 :: z60 :: z61 :: z62 :: z63 :: z64 :: z65 :: z66 :: z67 :: z68 :: z69 :: z70 :: z71 :: z72 :: z73 :: z74 :: z75 :: z76 :: z77 :: z78 :: z79 :: z80 :: z81 :: z82 :: z83 :: z84 :: z85 :: z86 :: z87 :: z88 :: z89 :: z90 :: z91 :: z92 :: z93 :: z94 :: z95 :: z96 :: z97 :: z98 :: z99 :: z100 :: z101 :: z102 :: z103 :: z104 :: z105 :: z106 :: []).toArray, defers := marks ds }
def adMu (NN : Nat) (a' : Act) (_ : World) : Nat := NN - (intOf (a'.tmps.getD 37 undef)).toNat
set_option maxRecDepth 100000 in
set_option maxHeartbeats 4000000 in
theorem adInv_to (w3 : World) (NN g9 q9 : Nat) (z0 z1 z2 z3 z4 z5 z6 z7 z8 z9 z10 z11 z12 z13 z14 z15 z16 z17 z18 z19 z20 z21 z22 z23 z24 z25 z26 z27 z28 z29 z30 z31 z32 z33 z34 z38 z39 z40 z41 z42 z43 z44 z45 z46 z47 z48 z49 z50 z51 z52 z53 z54 z55 z56 z57 z58 z59 z60 z61 z62 z63 z64 z65 z66 z67 z68 z69 z70 z71 z72 z73 z74 z75 z76 z77 z78 z79 z80 z81 z82 z83 z84 z85 z86 z87 z88 z89 z90 z91 z92 z93 z94 z95 z96 z97 z98 z99 z100 z101 z102 z103 z104 z105 z106 : Value) (ds : List Nat) (k : Nat) (w' : World) (hk : k ≤ NN) (h1 : Below w3.heap.size w3 w') (h2 : MarksOk w3.heap.size ds w') : AdInv w3 NN g9 q9 { tmps := (z0 :: z1 :: z2 :: z3 :: z4 :: z5 :: z6 :: z7 :: z8 :: z9 :: z10 :: z11 :: z12 :: z13 :: z14 :: z15 :: z16 :: z17 :: z18 :: z19 :: z20 :: z21 :: z22 :: z23 :: z24 :: z25 :: z26 :: z27 :: z28 :: z29 :: z30 :: z31 :: z32 :: z33 :: z34 :: (.slice (some ⟨g9, 0, none⟩) NN q9) :: (.int .i64 (NN : Nat)) :: (.int .i64 (k : Nat)) :: z38 :: z39 :: z40 :: z41 :: z42 :: z43 :: z44 :: z45 :: z46 :: z47 :: z48 :: z49 :: z50 :: z51 :: z52 :: z53 :: z54 :: z55 :: z56 :: z57 :: z58 :: z59 :: z60 :: z61 :: z62 :: z63 :: z64 :: z65 :: z66 :: z67 :: z68 :: z69 :: z70 :: z71 :: z72 :: z73 :: z74 :: z75 :: z76 :: z77 :: z78 :: z79 :: z80 :: z81 :: z82 :: z83 :: z84 :: z85 :: z86 :: z87 :: z88 :: z89 :: z90 :: z91 :: z92 :: z93 :: z94 :: z95 :: z96 :: z97 :: z98 :: z99 :: z100 :: z101 :: z102 :: z103 :: z104 :: z105 :: z106 :: []).toArray, defers := marks ds } w' :=
  ⟨z0, z1, z2, z3, z4, z5, z6, z7, z8, z9, z10, z11, z12, z13, z14, z15, z16, z17, z18, z19, z20, z21, z22, z23, z24, z25, z26, z27, z28, z29, z30, z31, z32, z33, z34, z38, z39, z40, z41, z42, z43, z44, z45, z46, z47, z48, z49, z50, z51, z52, z53, z54, z55, z56, z57, z58, z59, z60, z61, z62, z63, z64, z65, z66, z67, z68, z69, z70, z71, z72, z73, z74, z75, z76, z77, z78, z79, z80, z81, z82, z83, z84, z85, z86, z87, z88, z89, z90, z91, z92, z93, z94, z95, z96, z97, z98, z99, z100, z101, z102, z103, z104, z105, z106, ds, k, hk, ⟨h1, h2⟩, rfl⟩
set_option maxRecDepth 100000 in
set_option maxHeartbeats 16000000 in
theorem nodeAdds_any (v : Value) (ss : List Stp) (w : World) (hS : RdS w v ss) (hF : ∀ s ∈ ss, s.Fine) :
    Calls Try.prog 4 #[v] w fun e w' => e = .returned (.bool true) ∧ Below w.heap.size w w' := by
  have HS := Lib.hid hS
  have HF := Lib.hid hF
  have q1 := err_ne_nil
  have q2 := err_ne_held
  obtain ⟨A, c, rfl, _⟩ := hS
  clear hF
  refine (callsIn_wide (n := 6)).1 ?_
  refine callsIn_of_wp_marks Try.func4 rfl trivial ?_ rfl
  simp only [Try.ntmps4, List.size_toArray, List.length_cons, List.length_nil, Nat.reduceAdd, Nat.reduceSub, Array.replicate_succ, Array.replicate_zero, List.push_toArray, List.append_toArray, List.nil_append, List.cons_append]
  gi_wp2_with fail
  refine ⟨trivial, (callsIn_wide.2 (build_all _ ss _ HS.out HF.out)).mono ?_⟩
  rintro e w1 hP
  obtain ⟨hb1, hP⟩ := hP
  cases hbt : buildT ss with
  | inl ni =>
    obtain ⟨n, i⟩ := ni
    rw [hbt] at hP
    simp only at hP
    subst hP
    obtain ⟨tx, ux, hsp⟩ := sp_form n i
    rw [hsp]
    clear hsp hbt
    gi_wp2_with fail
    refine ⟨trivial, (callsIn_wide.2 (wakes_any _)).mono ?_⟩
    rintro e w3 ⟨rfl, hb3⟩
    have hbw3 := hb1.trans (hb3.mono hb1.size)
    clear hb1 hb3
    gi_wp2
    exact ⟨_, results_tmp rfl _ _ _, rfl, hbw3⟩
  | inr t =>
    rw [hbt] at hP
    simp only at hP
    obtain ⟨g, rfl, hT⟩ := hP
    have hok := buildT_ok HF.out hbt
    have HOK := Lib.hid hok
    obtain ⟨_, hfit, vt, hBt, hrt⟩ := hT
    have hrt1 : RdT (fun k => k < w1.heap.size) w1 t vt := RdT.move (fun j hj hs => ⟨hj, rfl⟩) _ _ hrt
    obtain ⟨tt, ut, rfl⟩ := hrt.iface
    have HBT := Lib.hid hBt
    have HRT := Lib.hid hrt1
    clear hbt hok hBt hrt hrt1 hfit
    gi_wp2_with fail
    refine ⟨trivial, (callsIn_wide.2 (root_any g _ tt ut _ HBT.out)).mono ?_⟩
    rintro e w2 ⟨rfl, hb2⟩
    have HRT2 := Lib.hid (RdT.move (S' := fun k => k < w1.heap.size) (w' := w2) (fun j hj hs => ⟨hs, hb2.block j hj⟩) _ _ HRT.out)
    have hbw2 := hb1.trans (hb2.mono hb1.size)
    have hs12 := hb2.size
    clear hb2 hb1 HRT HBT
    gi_wp2_with fail
    refine ⟨trivial, (callsIn_wide.2 (refs_any t (fit_le HOK.out.2).1 _ _ _ HRT2.out)).mono ?_⟩
    rintro e w3 ⟨v9, vs, rfl, ho9, hl9, hb3⟩
    have hbw3 := hbw2.trans (hb3.mono hbw2.size)
    have hs23 := hb3.size
    clear hb3 hbw2 HRT2
    obtain ⟨A9, q9, rfl⟩ := own_slice ho9
    have hpos := nodes_pos t
    have hle := (fit_le HOK.out.2).1
    have hg9 : ∃ g9, A9 = some ⟨g9, 0, none⟩ := by
      rcases ho9.2 with ⟨_, h0⟩ | ⟨g, cap, cur, hv, _⟩
      · omega
      · injection hv with e1 _ _
        exact ⟨g, e1⟩
    obtain ⟨g9, rfl⟩ := hg9
    have hlt9 : g9 < w3.heap.size := (own_block_ge' ho9)
    obtain ⟨NN, hNN⟩ : ∃ NN, t.nodes = NN := ⟨_, rfl⟩
    have hc9 : Hid (∀ p, p < NN → ∃ x tx ux, w3.cell? ⟨g9, p, none⟩ = some (.iface tx ux) ∧ RdT (fun k => k < w1.heap.size) w3 x (.iface tx ux) ∧ x.Ok ∧ x.fit = true) := Lib.hid fun p hp => by
      have hlen := hl9.len
      have hsl : t.subs.length = NN := by rw [subs_len, hNN]
      have hvp : vs[p]? = some (vs[p]'(by omega)) := List.getElem?_eq_getElem (by omega)
      have hrd := hl9.at (List.getElem?_eq_getElem (by omega : p < t.subs.length)) hvp
      obtain ⟨tx, ux, he⟩ := hrd.iface
      have hcell := ho9.cellAt p (by have := ho9.1; omega)
      refine ⟨t.subs[p]'(by omega), tx, ux, ?_, by rw [← he]; exact hrd, subs_ok t HOK.out.1 HOK.out.2 _ (List.getElem_mem _)⟩
      rw [hcell, hvp, he]
    rw [hNN] at hpos hle ⊢
    clear hNN ho9 hl9
    gi_wp2_with fail
    refine wpIn_loop (AdInv w3 NN g9 q9) (adMu NN) ?_ ?_
    · exact adInv_to w3 NN g9 q9 _ _ _ _ _ _ _ _ _ _ _ _ _ _ _ _ _ _ _ _ _ _ _ _ _ _ _ _ _ _ _ _ _ _ _ _ _ _ _ _ _ _ _ _ _ _ _ _ _ _ _ _ _ _ _ _ _ _ _ _ _ _ _ _ _ _ _ _ _ _ _ _ _ _ _ _ _ _ _ _ _ _ _ _ _ _ _ _ _ _ _ _ _ _ _ _ _ _ _ _ _ _ _ _ [] 0 w3 (Nat.zero_le _) (Below.refl _ _) (marksOk_nil _ _)
    · rintro a' wr hI
      unfold AdInv at hI
      obtain ⟨z0, z1, z2, z3, z4, z5, z6, z7, z8, z9, z10, z11, z12, z13, z14, z15, z16, z17, z18, z19, z20, z21, z22, z23, z24, z25, z26, z27, z28, z29, z30, z31, z32, z33, z34, z38, z39, z40, z41, z42, z43, z44, z45, z46, z47, z48, z49, z50, z51, z52, z53, z54, z55, z56, z57, z58, z59, z60, z61, z62, z63, z64, z65, z66, z67, z68, z69, z70, z71, z72, z73, z74, z75, z76, z77, z78, z79, z80, z81, z82, z83, z84, z85, z86, z87, z88, z89, z90, z91, z92, z93, z94, z95, z96, z97, z98, z99, z100, z101, z102, z103, z104, z105, z106, ds, k, hk, ⟨hbr, hm⟩, rfl⟩ := hI
      have hsr := hbr.size
      by_cases hlt : k < NN
      · obtain ⟨x, tx, ux, hcx, hrx, hxo, hxf⟩ := hc9.out k hlt
        have hcx' := (hbr.cell (p := ⟨g9, k, none⟩) hlt9).trans hcx
        have hrx' : RdT (fun k => k < w1.heap.size) wr x (.iface tx ux) := RdT.move (fun j hj hs => ⟨hs, hbr.block j (by omega)⟩) _ _ hrx
        refine adds_round NN g9 q9 w1.heap.size w3 wr k hlt hle x tx ux hcx' hrx' ⟨hxo, hxf⟩ (by omega) hbr ds hm z0 z1 z2 z3 z4 z5 z6 z7 z8 z9 z10 z11 z12 z13 z14 z15 z16 z17 z18 z19 z20 z21 z22 z23 z24 z25 z26 z27 z28 z29 z30 z31 z32 z33 z34 z38 z39 z40 z41 z42 z43 z44 z45 z46 z47 z48 z49 z50 z51 z52 z53 z54 z55 z56 z57 z58 z59 z60 z61 z62 z63 z64 z65 z66 z67 z68 z69 z70 z71 z72 z73 z74 z75 z76 z77 z78 z79 z80 z81 z82 z83 z84 z85 z86 z87 z88 z89 z90 z91 z92 z93 z94 z95 z96 z97 z98 z99 z100 z101 z102 z103 z104 z105 z106 _ _ ?_
        intro y0 y1 y2 y3 y4 y5 y6 y7 y8 y9 y10 y11 y12 y13 y14 y15 y16 y17 y18 y19 y20 y21 y22 y23 y24 y25 y26 y27 y28 y29 y30 y31 y32 y33 y34 y38 y39 y40 y41 y42 y43 y44 y45 y46 y47 y48 y49 y50 y51 y52 y53 y54 y55 y56 y57 y58 y59 y60 y61 y62 y63 y64 y65 y66 y67 y68 y69 y70 y71 y72 y73 y74 y75 y76 y77 y78 y79 y80 y81 y82 y83 y84 y85 y86 y87 y88 y89 y90 y91 y92 y93 y94 y95 y96 y97 y98 y99 y100 y101 y102 y103 y104 y105 y106 ds' w' h1 h2
        exact ⟨adInv_to w3 NN g9 q9 y0 y1 y2 y3 y4 y5 y6 y7 y8 y9 y10 y11 y12 y13 y14 y15 y16 y17 y18 y19 y20 y21 y22 y23 y24 y25 y26 y27 y28 y29 y30 y31 y32 y33 y34 y38 y39 y40 y41 y42 y43 y44 y45 y46 y47 y48 y49 y50 y51 y52 y53 y54 y55 y56 y57 y58 y59 y60 y61 y62 y63 y64 y65 y66 y67 y68 y69 y70 y71 y72 y73 y74 y75 y76 y77 y78 y79 y80 y81 y82 y83 y84 y85 y86 y87 y88 y89 y90 y91 y92 y93 y94 y95 y96 y97 y98 y99 y100 y101 y102 y103 y104 y105 y106 ds' (k + 1) w' hlt h1 h2, by unfold adMu; simp [intOf]; omega⟩
      · obtain rfl : k = NN := by omega
        have HM := Lib.hid hm
        have hs03 := hbw3.size
        clear hm
        gi_wp2_with fail
        refine ⟨trivial, (callsIn_wide.2 (wakes_any _)).mono ?_⟩
        rintro e w4 ⟨rfl, hb4⟩
        have hm4 := HM.out.below hb4
        have hbf := hbw3.trans ((hbr.trans (hb4.mono hbr.size)).mono hbw3.size)
        have HMF := Lib.hid (And.intro hm4 hbf)
        clear hm4 hbf hb4 hbw3 hbr HM
        gi_wp2
        exact leaves_marks ds w4 HMF.out.1 fun w' hb => ⟨_, results_tmp rfl _ _ _, rfl, HMF.out.2.trans (hb.mono (by omega))⟩
end Nd
end Go.Proofs.Ytfhfkggkbeahbaa
