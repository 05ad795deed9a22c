/-
  The walk of the law NodeFull.
-/
import Derived.Test.YtfhfkggkbeahbaaNuI
namespace Go.Proofs.Ytfhfkggkbeahbaa
open Go.RowKit Mem
set_option linter.unusedVariables false
namespace Nd

noncomputable def nfT3 : Code := nextOf (nextOf (nextOf (Try.f3.body.getD .skip)))
noncomputable def nfT4 : Code := nextOf nfT3
noncomputable def nfT5 : Code := nextOf nfT4
noncomputable def nfT7 : Code := nextOf (nextOf nfT5)
noncomputable def nfT8 : Code := nextOf nfT7
theorem rwx_nil (w : World) : RwX w.heap.size 74 (w.heap.size + 1) [] (w.alloc (.cells #[.slice none 0 0] 74)) :=
  ⟨.slice none 0 0, [], Blk.new _ _ _, World.ownsRow_nil _ _ _ _, by unfold RdL; rfl, by simp, by omega, by simp⟩
theorem nf_k (n : Int) : ∃ k : Nat, 1 ≤ k ∧ k < 65536 ∧ wrap64 (wrap64 ((IntKind.u64.wrap n).tmod 65535) + 1) = (k : Int) := by
  have h : 0 ≤ IntKind.u64.wrap n := by simp [IntKind.wrap, IntKind.bits, IntKind.signed]; omega
  rw [Int.tmod_eq_emod_of_nonneg h]
  generalize IntKind.u64.wrap n = m at *
  refine ⟨(m % 65535 + 1).toNat, by omega, by omega, ?_⟩
  unfold wrap64
  omega
def nullSs : List Stp := [nullS]
theorem nullSs_build : buildT nullSs = .inr .null := by rfl
theorem nullSs_fine : ∀ s ∈ nullSs, s.Fine := by
  intro s hs
  simp [nullSs] at hs
  subst hs
  exact null_fine
abbrev nullCells : Array Value := #[.int .i64 1, .bool false, .int .u64 0, .string ⟨([] : Tx).toArray⟩, .int .i64 0, .slice none 0 0]
theorem nullSs_rd (w : World) (t : TypeId) : RdS (w.alloc (.cells nullCells t)) (.slice (some ⟨w.heap.size, 0, none⟩) 1 1) nullSs := by
  have hB := Blk.new w t nullCells
  refine ⟨_, _, rfl, .inr ⟨w.heap.size, 0, rfl, fun j s hs => ?_⟩⟩
  match j, hs with
  | 0, hs =>
    injection hs with hs
    subst hs
    exact ⟨none, 0, hB.cell 0, hB.cell 1, hB.cell 2, hB.cell 3, hB.cell 4, hB.cell 5, rdk_nil _⟩

set_option maxRecDepth 100000 in
set_option maxHeartbeats 16000000 in
theorem nf_tail8 (Q : Ending → World → Prop) (w0 : World) (p : Nat) (hQ : ∀ w', Below p w0 w' → Q (.returned (.bool true)) w') (N : Nat) (hN : N = 65536) (k : Nat) (h1 : 1 ≤ k) (h2 : k < N) (n : Int) (x : Nat) (ty : TypeId) (B : Nat) (w : World) (hR : RwY w0 p ty B (List.replicate N .null) w) (z2 z3 z4 z6 z7 z8 z10 z11 z12 z13 z14 z15 z16 z17 z18 z19 z20 z21 z22 z23 z24 z25 z26 z27 z28 z29 z30 z31 z32 z33 z34 z35 z36 z37 z38 z39 z40 z41 z42 z43 z44 z45 z46 z47 z48 z49 z50 z51 z52 z53 z54 z55 z56 z57 z58 z59 z60 z61 z62 z63 z64 z65 z66 z67 z68 z69 z70 z71 z72 z73 z74 z75 z76 z77 z78 z79 z80 z81 z82 z83 z84 z85 z86 z87 z88 z89 z90 z91 z92 z93 z94 z95 z96 z97 z98 z99 z100 z101 z102 z103 z104 z105 z106 z107 z108 z109 z110 z111 z112 : Value) :
    Code.wp Try.prog nfT8 (bodyPost Try.prog Try.f3 Q) { tmps := ((.int .i64 n) :: (.float .f64 x) :: z2 :: z3 :: z4 :: (.pointer (some ⟨p, 0, none⟩)) :: z6 :: z7 :: z8 :: (.int .i64 k) :: z10 :: z11 :: z12 :: z13 :: z14 :: z15 :: z16 :: z17 :: z18 :: z19 :: z20 :: z21 :: z22 :: z23 :: z24 :: z25 :: z26 :: z27 :: z28 :: z29 :: z30 :: z31 :: z32 :: z33 :: z34 :: z35 :: z36 :: z37 :: z38 :: z39 :: z40 :: z41 :: z42 :: z43 :: z44 :: z45 :: z46 :: z47 :: z48 :: z49 :: z50 :: z51 :: z52 :: z53 :: z54 :: z55 :: z56 :: z57 :: z58 :: z59 :: z60 :: z61 :: z62 :: z63 :: z64 :: z65 :: z66 :: z67 :: z68 :: z69 :: z70 :: z71 :: z72 :: z73 :: z74 :: z75 :: z76 :: z77 :: z78 :: z79 :: z80 :: z81 :: z82 :: z83 :: z84 :: z85 :: z86 :: z87 :: z88 :: z89 :: z90 :: z91 :: z92 :: z93 :: z94 :: z95 :: z96 :: z97 :: z98 :: z99 :: z100 :: z101 :: z102 :: z103 :: z104 :: z105 :: z106 :: z107 :: z108 :: z109 :: z110 :: z111 :: z112 :: []).toArray, defers := [] } w := by
  have HR := Lib.hid hR
  have HQ := Lib.hid hQ
  have h65 : ((65536 : Int)) = ((N : Nat) : Int) := by omega
  have hl0 : stepT (List.replicate N .null) (listS 65536) = (3, List.replicate N .null) := by
    rw [h65]
    exact (stepT_list (List.replicate N .null) N).trans (listT_full N hN)
  have HL := Lib.hid hl0
  have HK := Lib.hid ((stepT_list (List.replicate N .null) k).trans (listT_some N k hN h1 h2))
  have HM := Lib.hid (And.intro (ok_nul k) (show (Tr.list (List.replicate k .null)).fit = true by rw [fit_nul]; exact decide_eq_true (by omega)))
  have q1 := err_ne_nil
  have HN := Lib.hid (And.intro hN (And.intro h1 h2))
  have hl3 : IntKind.i64.wrap (65536 - (k : Int)) = ((N - k : Nat) : Int) := by rw [IntWalk.i64_in _ (by omega)]; omega
  have hl4 : IntKind.i64.wrap (((N - k : Nat) : Int) + 1) = ((N - k + 1 : Nat) : Int) := by rw [IntWalk.i64_in _ (by omega)]; omega
  have H34 := Lib.hid (And.intro hl3 hl4)
  clear hR h65 hl0 hl3 hl4 hN h1 h2
  conv => arg 2; whnf
  apply wp_seq_k
  intro K1 hK1
  go_cut [] (fun wx => RwY w0 p ty B (List.replicate (N - k) .null ++ [.list (List.replicate k .null)]) wx)
  case rest =>
    have HR2 := Lib.hid hcut
    clear hcut
    go_step
    go_wp2_with fail
    ((with_reducible refine (mk_top p ty B _ _ _ HR2.out.row (by simp; have := HN.out; omega) HM.out.1 HM.out.2).mono ?_); rintro e w2 ⟨u, rfl, htd, hb2⟩)
    have hbe := HR2.out.bel.trans (hb2.mono (by have := HR2.out.row.plt; omega))
    have HBE := Lib.hid hbe
    clear hb2 hbe
    unfold TdT at htd
    obtain ⟨sl, vs, rfl, hrow, hl⟩ := htd
    have hlen := TdL.len hl
    obtain ⟨A, c, rfl, hA⟩ := hrow
    have hlen2 : vs.length = k := by simpa using hlen
    rw [hlen2]
    have hta : ∀ W, (Instr.typeAssert (.iface 53 (.slice A k c)) 56 53 true).run Try.prog W = .ok (.tuple #[.slice A k c, .bool true]) W := fun W => by kernel_rfl
    clear hA hl hlen
    go_wp2
    first | exact HBE.out | exact HQ.out _ HBE.out
  go_wp2_with fail
  ((with_reducible refine (g_list _ HR.out (by simp; have := HN.out; omega)).mono ?_); rintro e w1 ⟨rfl, hR1⟩)
  rw [HL.out] at hR1 ⊢
  dsimp only at hR1 ⊢
  rw [show errV 3 = errN 3 from rfl]
  have HR1 := Lib.hid hR1
  clear hR1
  go_wp2_with fail
  ((with_reducible refine (number_same 3 _).mono ?_); rintro e w2 ⟨rfl, rfl⟩)
  go_wp2_with fail
  ((with_reducible refine (g_list _ HR1.out (by simp; have := HN.out; omega)).mono ?_); rintro e w3 ⟨rfl, hR3⟩)
  rw [HK.out] at hR3 ⊢
  dsimp only at hR3 ⊢
  rw [show errV 0 = .nilIface from rfl]
  have HR3 := Lib.hid hR3
  clear hR3
  go_wp2_with fail
  ((with_reducible refine (f_len HR3.out).mono ?_); rintro e w4 ⟨rfl, rfl⟩)
  simp only [List.length_append, List.length_replicate, List.length_cons, List.length_nil, Nat.zero_add]
  have hl3 := H34.out.1
  have hl4 := H34.out.2
  go_wp2
  go_meet
  exact HR3.out
set_option maxRecDepth 100000 in
set_option maxHeartbeats 16000000 in
theorem nf_tail7 (Q : Ending → World → Prop) (w0 : World) (p : Nat) (hQ : ∀ w', Below p w0 w' → Q (.returned (.bool true)) w') (N : Nat) (hN : N = 65536) (n : Int) (x : Nat) (ty : TypeId) (B : Nat) (w : World) (hR : RwY w0 p ty B (List.replicate N .null) w) (z2 z3 z4 z6 z7 z8 z9 z10 z11 z12 z13 z14 z15 z16 z17 z18 z19 z20 z21 z22 z23 z24 z25 z26 z27 z28 z29 z30 z31 z32 z33 z34 z35 z36 z37 z38 z39 z40 z41 z42 z43 z44 z45 z46 z47 z48 z49 z50 z51 z52 z53 z54 z55 z56 z57 z58 z59 z60 z61 z62 z63 z64 z65 z66 z67 z68 z69 z70 z71 z72 z73 z74 z75 z76 z77 z78 z79 z80 z81 z82 z83 z84 z85 z86 z87 z88 z89 z90 z91 z92 z93 z94 z95 z96 z97 z98 z99 z100 z101 z102 z103 z104 z105 z106 z107 z108 z109 z110 z111 z112 : Value) :
    Code.wp Try.prog nfT7 (bodyPost Try.prog Try.f3 Q) { tmps := ((.int .i64 n) :: (.float .f64 x) :: z2 :: z3 :: z4 :: (.pointer (some ⟨p, 0, none⟩)) :: z6 :: z7 :: z8 :: z9 :: z10 :: z11 :: z12 :: z13 :: z14 :: z15 :: z16 :: z17 :: z18 :: z19 :: z20 :: z21 :: z22 :: z23 :: z24 :: z25 :: z26 :: z27 :: z28 :: z29 :: z30 :: z31 :: z32 :: z33 :: z34 :: z35 :: z36 :: z37 :: z38 :: z39 :: z40 :: z41 :: z42 :: z43 :: z44 :: z45 :: z46 :: z47 :: z48 :: z49 :: z50 :: z51 :: z52 :: z53 :: z54 :: z55 :: z56 :: z57 :: z58 :: z59 :: z60 :: z61 :: z62 :: z63 :: z64 :: z65 :: z66 :: z67 :: z68 :: z69 :: z70 :: z71 :: z72 :: z73 :: z74 :: z75 :: z76 :: z77 :: z78 :: z79 :: z80 :: z81 :: z82 :: z83 :: z84 :: z85 :: z86 :: z87 :: z88 :: z89 :: z90 :: z91 :: z92 :: z93 :: z94 :: z95 :: z96 :: z97 :: z98 :: z99 :: z100 :: z101 :: z102 :: z103 :: z104 :: z105 :: z106 :: z107 :: z108 :: z109 :: z110 :: z111 :: z112 :: []).toArray, defers := [] } w := by
  have HR := Lib.hid hR
  have HQ := Lib.hid hQ
  have HN := Lib.hid hN
  clear hR hQ hN
  conv => arg 2; whnf
  apply wp_seq_k
  intro K1 hK1
  go_cut [9] (fun c9 wx => ∃ k : Nat, 1 ≤ k ∧ k < N ∧ c9 = .int .i64 k ∧ wx = w)
  case rest =>
    obtain ⟨k, h1, h2, rfl, rfl⟩ := hcut
    go_step
    exact nf_tail8 Q w0 p HQ.out N HN.out k h1 h2 n x ty B wc HR.out _ _ _ _ _ _ _ _ _ _ _ _ _ _ _ _ _ _ _ _ _ _ _ _ _ _ _ _ _ _ _ _ _ _ _ _ _ _ _ _ _ _ _ _ _ _ _ _ _ _ _ _ _ _ _ _ _ _ _ _ _ _ _ _ _ _ _ _ _ _ _ _ _ _ _ _ _ _ _ _ _ _ _ _ _ _ _ _ _ _ _ _ _ _ _ _ _ _ _ _ _ _ _ _ _ _ _ _ _
  go_wp2_with fail
  go_meet
  obtain ⟨k, h1, h2, hk⟩ := nf_k n
  exact ⟨k, h1, by have := HN.out; omega, by rw [hk], rfl⟩
set_option maxRecDepth 100000 in
set_option maxHeartbeats 16000000 in
theorem nf_tail5 (Q : Ending → World → Prop) (w0 : World) (p : Nat) (hQ : ∀ w', Below p w0 w' → Q (.returned (.bool true)) w') (N : Nat) (hN : N = 65536) (n : Int) (x : Nat) (ty : TypeId) (B : Nat) (w : World) (hR : RwY w0 p ty B (List.replicate N .null) w) (z2 z3 z4 z6 z7 z8 z9 z10 z11 z12 z13 z14 z15 z16 z17 z18 z19 z20 z21 z22 z23 z24 z25 z26 z27 z28 z29 z30 z31 z32 z33 z34 z35 z36 z37 z38 z39 z40 z41 z42 z43 z44 z45 z46 z47 z48 z49 z50 z51 z52 z53 z54 z55 z56 z57 z58 z59 z60 z61 z62 z63 z64 z65 z66 z67 z68 z69 z70 z71 z72 z73 z74 z75 z76 z77 z78 z79 z80 z81 z82 z83 z84 z85 z86 z87 z88 z89 z90 z91 z92 z93 z94 z95 z96 z97 z98 z99 z100 z101 z102 z103 z104 z105 z106 z107 z108 z109 z110 z111 z112 : Value) :
    Code.wp Try.prog nfT5 (bodyPost Try.prog Try.f3 Q) { tmps := ((.int .i64 n) :: (.float .f64 x) :: z2 :: z3 :: z4 :: (.pointer (some ⟨p, 0, none⟩)) :: z6 :: z7 :: z8 :: z9 :: z10 :: z11 :: z12 :: z13 :: z14 :: z15 :: z16 :: z17 :: z18 :: z19 :: z20 :: z21 :: z22 :: z23 :: z24 :: z25 :: z26 :: z27 :: z28 :: z29 :: z30 :: z31 :: z32 :: z33 :: z34 :: z35 :: z36 :: z37 :: z38 :: z39 :: z40 :: z41 :: z42 :: z43 :: z44 :: z45 :: z46 :: z47 :: z48 :: z49 :: z50 :: z51 :: z52 :: z53 :: z54 :: z55 :: z56 :: z57 :: z58 :: z59 :: z60 :: z61 :: z62 :: z63 :: z64 :: z65 :: z66 :: z67 :: z68 :: z69 :: z70 :: z71 :: z72 :: z73 :: z74 :: z75 :: z76 :: z77 :: z78 :: z79 :: z80 :: z81 :: z82 :: z83 :: z84 :: z85 :: z86 :: z87 :: z88 :: z89 :: z90 :: z91 :: z92 :: z93 :: z94 :: z95 :: z96 :: z97 :: z98 :: z99 :: z100 :: z101 :: z102 :: z103 :: z104 :: z105 :: z106 :: z107 :: z108 :: z109 :: z110 :: z111 :: z112 :: []).toArray, defers := [] } w := by
  have HR := Lib.hid hR
  have HQ := Lib.hid hQ
  have HN := Lib.hid hN
  have q1 := err_ne_nil
  clear hR hQ hN
  conv => arg 2; whnf
  apply wp_seq_k
  intro K1 hK1
  go_cut [7, 8] (fun c7 c8 wx => ∃ g, c7 = .pointer (some ⟨g, 0, none⟩) ∧ c8 = .nilIface ∧ Hid (Blk wx g 81 #[.iface 112 (.agg #[])]) ∧ Hid (RwY w0 p ty B (List.replicate N .null) wx))
  case rest =>
    obtain ⟨g, rfl, rfl, HT, HR1⟩ := hcut
    go_step
    apply wp_seq_k
    intro K2 hK2
    go_cut [] (fun wx => Hid (RwY w0 p ty B (List.replicate N .null) wx))
    case rest =>
      go_step
      exact nf_tail7 Q w0 p HQ.out N HN.out n x ty B wc hcut.out _ _ _ _ _ _ _ _ _ _ _ _ _ _ _ _ _ _ _ _ _ _ _ _ _ _ _ _ _ _ _ _ _ _ _ _ _ _ _ _ _ _ _ _ _ _ _ _ _ _ _ _ _ _ _ _ _ _ _ _ _ _ _ _ _ _ _ _ _ _ _ _ _ _ _ _ _ _ _ _ _ _ _ _ _ _ _ _ _ _ _ _ _ _ _ _ _ _ _ _ _ _ _ _ _ _ _ _ _ _
    go_wp2_with fail
    ((with_reducible refine (root_any g _ _ _ _ HT.out).mono ?_); rintro e w2 ⟨rfl, hb2⟩)
    have HR2 := Lib.hid (HR1.out.below hb2)
    clear hb2
    go_wp2_with fail
    ((with_reducible refine (f_copy HR2.out (by simp; have := HN.out; omega) _ _).mono ?_); rintro e w3 ⟨rfl, hR3⟩)
    have HR3 := Lib.hid hR3
    clear hR3
    go_wp2_with fail
    ((with_reducible refine (number_same 3 _).mono ?_); rintro e w4 ⟨rfl, rfl⟩)
    go_wp2_with fail
    ((with_reducible refine (f_copy0 HR3.out).mono ?_); rintro e w5 ⟨rfl, hR5⟩)
    have HR5 := Lib.hid hR5
    clear hR5
    go_wp2_with fail
    ((with_reducible refine (number_same 4 _).mono ?_); rintro e w6 ⟨rfl, rfl⟩)
    go_wp2_with fail
    go_meet
    exact HR5
  go_wp2_with fail
  ((with_reducible refine (build_any _ nullSs _ (nullSs_rd w _) nullSs_fine (by decide)).mono ?_); intro e w1 hP)
  obtain ⟨hb1, hP⟩ := hP
  simp only [nullSs_build] at hP
  obtain ⟨g, rfl, _, _, v, hBg, hv⟩ := hP
  unfold RdT at hv
  subst hv
  have HB := Lib.hid hBg
  have HR1 := Lib.hid (HR.out.below (((Below.refl _ _).alloc (Nat.le_refl _) _).trans (hb1.mono (by simp))))
  clear hb1 hBg
  go_wp2
  go_meet
  exact ⟨g, rfl, rfl, HB, HR1⟩
set_option maxRecDepth 100000 in
set_option maxHeartbeats 16000000 in
theorem nf_tail4 (Q : Ending → World → Prop) (w0 : World) (p : Nat) (hQ : ∀ w', Below p w0 w' → Q (.returned (.bool true)) w') (N : Nat) (hN : N = 65536) (n : Int) (x : Nat) (ty : TypeId) (B : Nat) (w : World) (hR : RwY w0 p ty B (List.replicate N .null) w) (z2 z3 z4 z6 z7 z8 z9 z10 z11 z12 z13 z14 z15 z16 z17 z18 z19 z20 z21 z22 z23 z24 z25 z26 z27 z28 z29 z30 z31 z32 z33 z34 z35 z36 z37 z38 z39 z40 z41 z42 z43 z44 z45 z46 z47 z48 z49 z50 z51 z52 z53 z54 z55 z56 z57 z58 z59 z60 z61 z62 z63 z64 z65 z66 z67 z68 z69 z70 z71 z72 z73 z74 z75 z76 z77 z78 z79 z80 z81 z82 z83 z84 z85 z86 z87 z88 z89 z90 z91 z92 z93 z94 z95 z96 z97 z98 z99 z100 z101 z102 z103 z104 z105 z106 z107 z108 z109 z110 z111 z112 : Value) :
    Code.wp Try.prog nfT4 (bodyPost Try.prog Try.f3 Q) { tmps := ((.int .i64 n) :: (.float .f64 x) :: z2 :: z3 :: z4 :: (.pointer (some ⟨p, 0, none⟩)) :: z6 :: z7 :: z8 :: z9 :: z10 :: z11 :: z12 :: z13 :: z14 :: z15 :: z16 :: z17 :: z18 :: z19 :: z20 :: z21 :: z22 :: z23 :: z24 :: z25 :: z26 :: z27 :: z28 :: z29 :: z30 :: z31 :: z32 :: z33 :: z34 :: z35 :: z36 :: z37 :: z38 :: z39 :: z40 :: z41 :: z42 :: z43 :: z44 :: z45 :: z46 :: z47 :: z48 :: z49 :: z50 :: z51 :: z52 :: z53 :: z54 :: z55 :: z56 :: z57 :: z58 :: z59 :: z60 :: z61 :: z62 :: z63 :: z64 :: z65 :: z66 :: z67 :: z68 :: z69 :: z70 :: z71 :: z72 :: z73 :: z74 :: z75 :: z76 :: z77 :: z78 :: z79 :: z80 :: z81 :: z82 :: z83 :: z84 :: z85 :: z86 :: z87 :: z88 :: z89 :: z90 :: z91 :: z92 :: z93 :: z94 :: z95 :: z96 :: z97 :: z98 :: z99 :: z100 :: z101 :: z102 :: z103 :: z104 :: z105 :: z106 :: z107 :: z108 :: z109 :: z110 :: z111 :: z112 :: []).toArray, defers := [] } w := by
  have HR := Lib.hid hR
  have HQ := Lib.hid hQ
  have HN := Lib.hid hN
  have HL := Lib.hid (show 65536 ≤ (List.replicate N Tr.null).length by simp; omega)
  have HL2 := Lib.hid (show (((List.replicate N Tr.null).length : Nat) : Int) = 65536 by simp; omega)
  clear hR hQ hN
  conv => arg 2; whnf
  apply wp_seq_k
  intro K1 hK1
  go_cut [] (fun wx => Hid (RwY w0 p ty B (List.replicate N .null) wx))
  case rest =>
    go_step
    exact nf_tail5 Q w0 p HQ.out N HN.out n x ty B wc hcut.out _ _ _ _ _ _ _ _ _ _ _ _ _ _ _ _ _ _ _ _ _ _ _ _ _ _ _ _ _ _ _ _ _ _ _ _ _ _ _ _ _ _ _ _ _ _ _ _ _ _ _ _ _ _ _ _ _ _ _ _ _ _ _ _ _ _ _ _ _ _ _ _ _ _ _ _ _ _ _ _ _ _ _ _ _ _ _ _ _ _ _ _ _ _ _ _ _ _ _ _ _ _ _ _ _ _ _ _ _ _
  go_wp2_with fail
  ((with_reducible refine (f_null HR.out HL.out).mono ?_); rintro e w1 ⟨rfl, hR⟩)
  have HR1 := Lib.hid hR
  clear hR
  go_wp2_with fail
  ((with_reducible refine (number_same 3 _).mono ?_); rintro e v1 ⟨rfl, rfl⟩)
  go_wp2_with fail
  ((with_reducible refine (f_flag HR1.out HL.out true).mono ?_); rintro e w2 ⟨rfl, hR⟩)
  have HR2 := Lib.hid hR
  clear hR
  go_wp2_with fail
  ((with_reducible refine (number_same 3 _).mono ?_); rintro e v2 ⟨rfl, rfl⟩)
  go_wp2_with fail
  ((with_reducible refine (f_num HR2.out HL.out x).mono ?_); rintro e w3 ⟨rfl, hR⟩)
  have HR3 := Lib.hid hR
  clear hR
  go_wp2_with fail
  ((with_reducible refine (number_same 3 _).mono ?_); rintro e v3 ⟨rfl, rfl⟩)
  go_wp2_with fail
  ((with_reducible refine (f_text HR3.out HL.out [255]).mono ?_); rintro e w4 ⟨rfl, hR⟩)
  have HR4 := Lib.hid hR
  clear hR
  go_wp2_with fail
  ((with_reducible refine (number_same 3 _).mono ?_); rintro e v4 ⟨rfl, rfl⟩)
  go_wp2_with fail
  ((with_reducible refine (f_len HR4.out).mono ?_); rintro e v5 ⟨rfl, rfl⟩)
  rw [HL2.out]
  go_wp2
  go_meet
  exact HR4
set_option maxRecDepth 100000 in
set_option maxHeartbeats 16000000 in
theorem nf_tail3 (Q : Ending → World → Prop) (w0 : World) (p : Nat) (hQ : ∀ w', Below p w0 w' → Q (.returned (.bool true)) w') (N : Nat) (hN : N = 65536) (n : Int) (x : Nat) (ty : TypeId) (B : Nat) (w : World) (hR : RwY w0 p ty B [] w) (z2 z3 z4 z6 z7 z8 z9 z10 z11 z12 z13 z14 z15 z16 z17 z18 z19 z20 z21 z22 z23 z24 z25 z26 z27 z28 z29 z30 z31 z32 z33 z34 z35 z36 z37 z38 z39 z40 z41 z42 z43 z44 z45 z46 z47 z48 z49 z50 z51 z52 z53 z54 z55 z56 z57 z58 z59 z60 z61 z62 z63 z64 z65 z66 z67 z68 z69 z70 z71 z72 z73 z74 z75 z76 z77 z78 z79 z80 z81 z82 z83 z84 z85 z86 z87 z88 z89 z90 z91 z92 z93 z94 z95 z96 z97 z98 z99 z100 z101 z102 z103 z104 z105 z106 z107 z108 z109 z110 z111 z112 : Value) :
    Code.wp Try.prog nfT3 (bodyPost Try.prog Try.f3 Q) { tmps := ((.int .i64 n) :: (.float .f64 x) :: z2 :: z3 :: z4 :: (.pointer (some ⟨p, 0, none⟩)) :: z6 :: z7 :: z8 :: z9 :: z10 :: z11 :: z12 :: z13 :: z14 :: z15 :: z16 :: z17 :: z18 :: z19 :: z20 :: z21 :: z22 :: z23 :: z24 :: z25 :: z26 :: z27 :: z28 :: z29 :: z30 :: z31 :: z32 :: z33 :: z34 :: z35 :: z36 :: z37 :: z38 :: z39 :: z40 :: z41 :: z42 :: z43 :: z44 :: z45 :: z46 :: z47 :: z48 :: z49 :: z50 :: z51 :: z52 :: z53 :: z54 :: z55 :: z56 :: z57 :: z58 :: z59 :: z60 :: z61 :: z62 :: z63 :: z64 :: z65 :: z66 :: z67 :: z68 :: z69 :: z70 :: z71 :: z72 :: z73 :: z74 :: z75 :: z76 :: z77 :: z78 :: z79 :: z80 :: z81 :: z82 :: z83 :: z84 :: z85 :: z86 :: z87 :: z88 :: z89 :: z90 :: z91 :: z92 :: z93 :: z94 :: z95 :: z96 :: z97 :: z98 :: z99 :: z100 :: z101 :: z102 :: z103 :: z104 :: z105 :: z106 :: z107 :: z108 :: z109 :: z110 :: z111 :: z112 :: []).toArray, defers := [] } w := by
  have HR := Lib.hid hR
  have HQ := Lib.hid hQ
  have HN := Lib.hid hN
  have q1 := err_ne_nil
  clear hR hQ hN
  conv => arg 2; whnf
  apply wp_seq_k
  intro K1 hK1
  go_cut [] (fun wx => Hid (RwY w0 p ty B (List.replicate N .null) wx))
  case rest =>
    go_step
    exact nf_tail4 Q w0 p HQ.out N HN.out n x ty B wc hcut.out _ _ _ _ _ _ _ _ _ _ _ _ _ _ _ _ _ _ _ _ _ _ _ _ _ _ _ _ _ _ _ _ _ _ _ _ _ _ _ _ _ _ _ _ _ _ _ _ _ _ _ _ _ _ _ _ _ _ _ _ _ _ _ _ _ _ _ _ _ _ _ _ _ _ _ _ _ _ _ _ _ _ _ _ _ _ _ _ _ _ _ _ _ _ _ _ _ _ _ _ _ _ _ _ _ _ _ _ _ _
  go_wp2
  go_loopw [6] (fun c6 wr => ∃ k : Nat, c6 = .int .i64 k ∧ Hid (k ≤ 65536 ∧ RwY w0 p ty B (List.replicate k .null) wr)) (fun c6 _ => 65536 - (intOf c6).toNat)
  case atStart => exact ⟨0, rfl, Lib.hid ⟨by omega, HR.out⟩⟩
  case round =>
    obtain ⟨k, rfl, HH⟩ := hrel
    by_cases hlt : k < N
    · have hd : decide ((k : Int) < 65536) = true := decide_eq_true (by have := HN.out; omega)
      have hwr : IntKind.i64.wrap ((k : Int) + 1) = ((k + 1 : Nat) : Int) := by rw [IntWalk.i64_in _ (by have := HN.out; omega)]; omega
      have HK := Lib.hid hlt
      clear hlt
      go_wp2_with fail
      ((with_reducible refine (g_null HH.out.2 (by simp; exact HH.out.1)).mono ?_); rintro e w1 ⟨rfl, hR1⟩)
      rw [stepT_nul k (by have := HN.out; have := HK.out; omega)] at hR1 ⊢
      dsimp only at hR1 ⊢
      rw [show errV 0 = .nilIface from rfl]
      have HR1 := Lib.hid hR1
      clear hR1
      go_wp2
      go_roundw
      case rel => exact ⟨k + 1, rfl, Lib.hid ⟨by have := HN.out; have := HK.out; omega, HR1.out⟩⟩
      case measure =>
        have := HN.out
        have := HK.out
        simp [intOf]
        omega
    · have hd : decide ((k : Int) < 65536) = false := decide_eq_false (by have := HN.out; omega)
      have he : k = N := by have := HN.out; have := HH.out.1; omega
      clear hlt
      subst he
      go_wp2_with fail
      go_meet
      exact Lib.hid HH.out.2
set_option maxRecDepth 100000 in
set_option maxHeartbeats 16000000 in
theorem nodeFull_any (n : Int) (x : Nat) (w : World) : Calls Try.prog 3 #[.int .i64 n, .float .f64 x] w fun e w' => e = .returned (.bool true) ∧ Below w.heap.size w w' := by
  obtain ⟨N, hN⟩ : ∃ N : Nat, N = 65536 := ⟨_, rfl⟩
  have HN := Lib.hid hN
  have q1 := err_ne_nil
  clear hN
  go_enter Try.func3, Try.ntmps3
  apply wp_seq_k
  intro K0 hK0
  go_cut [4] (fun c4 wx => c4 = .bool false ∧ w = wx)
  case rest =>
    obtain ⟨rfl, rfl⟩ := hcut
    go_step
    apply wp_seq_k
    intro K1 hK1
    go_cut [5] (fun c5 wx => c5 = .pointer (some ⟨w.heap.size, 0, none⟩) ∧ Hid (RwY w w.heap.size 74 (w.heap.size + 1) [] wx))
    case rest =>
      obtain ⟨rfl, HR⟩ := hcut
      go_step
      apply wp_seq_k
      intro K2 hK2
      go_cut [] (fun wx => Hid (RwY w w.heap.size 74 (w.heap.size + 1) [] wx))
      case rest =>
        go_step
        exact nf_tail3 _ w w.heap.size (fun w' hb => ⟨rfl, hb⟩) N HN.out n x _ _ wc hcut.out _ _ _ _ _ _ _ _ _ _ _ _ _ _ _ _ _ _ _ _ _ _ _ _ _ _ _ _ _ _ _ _ _ _ _ _ _ _ _ _ _ _ _ _ _ _ _ _ _ _ _ _ _ _ _ _ _ _ _ _ _ _ _ _ _ _ _ _ _ _ _ _ _ _ _ _ _ _ _ _ _ _ _ _ _ _ _ _ _ _ _ _ _ _ _ _ _ _ _ _ _ _ _ _ _ _ _ _ _ _
      go_wp2_with fail
      ((with_reducible refine (wakes_any _).mono ?_); rintro e w2 ⟨rfl, hb⟩)
      have HR2 := Lib.hid (HR.out.below hb)
      clear hb
      go_wp2
      go_meet
      exact HR2
    go_wp2_with fail
    ((with_reducible refine (mnew_any _).mono ?_); rintro e w2 ⟨rfl, rfl⟩)
    go_wp2
    go_meet
    exact ⟨rfl, Lib.hid ⟨rwx_nil _, (Below.refl _ _).alloc (Nat.le_refl _) _⟩⟩
  go_wp2_with fail
  go_meet
  exact ⟨rfl, rfl⟩
end Nd
end Go.Proofs.Ytfhfkggkbeahbaa
