/-
  Walks of package node: object behind its map.
-/
import Derived.Test.YtfhfkggkbeahbaaNtV
namespace Go.Proofs.Ytfhfkggkbeahbaa
open Go.RowKit Mem
set_option linter.unusedVariables false
namespace Nd

/-- a slice of keys that came in -/
def RdK (w : World) (v : Value) (ks : List Tx) : Prop := ∃ A c, v = .slice A ks.length c ∧ (ks = [] ∨ ∃ g o, A = some ⟨g, o, none⟩ ∧ ∀ (j : Nat) (t : Tx), ks[j]? = some t → w.cell? ⟨g, o + j, none⟩ = some (txV t))
theorem RdK.below {w w' : World} {v : Value} {ks : List Tx} (h : RdK w v ks) (hb : Below w.heap.size w w') : RdK w' v ks := by
  obtain ⟨A, c, hv, h⟩ := h
  refine ⟨A, c, hv, ?_⟩
  rcases h with h | ⟨g, o, hA, hc⟩
  · exact .inl h
  · refine .inr ⟨g, o, hA, fun j t ht => ?_⟩
    have h1 := hc j t ht
    have hlt : g < w.heap.size := World.block_lt_of_cell? w _ h1
    exact ((old hb).1 g _ hlt).trans h1
theorem clone_keys (v : Value) (ks : List Tx) (w : World) (hR : RdK w v ks) (hn : ks.length ≤ 1099511627776) :
    Calls Try.prog 49 #[v] w fun e w' => ∃ v', e = .returned v' ∧ w'.ownsRow w.heap.size 9 1 v' ks.length (ks.map txV) ∧ Below w.heap.size w w' := by
  obtain ⟨A, c, rfl, h⟩ := hR
  rcases A with _ | a
  · rcases h with rfl | ⟨g, o, h, _⟩
    · refine (Try.slices_Clone_string_nil 0 c w).mono ?_
      rintro e w' ⟨rfl, rfl⟩
      exact ⟨_, rfl, World.ownsRow_nil _ _ _ _, Below.refl _ _⟩
    · cases h
  · rcases h with rfl | ⟨g, o, h, hc⟩
    · refine (Try.slices_Clone_string_zero a c w).mono ?_
      rintro e w' ⟨v', rfl, ho, _, hb⟩
      exact ⟨v', rfl, ho, hb⟩
    · injection h with h
      subst h
      refine (Try.slices_Clone_string g o ks.length c (ks.map fun t => ⟨t.toArray⟩) w (by simp) (by omega) ?_).mono ?_
      · intro j hj
        have hj' : j < ks.length := by simpa using hj
        rw [hc j ks[j] (List.getElem?_eq_getElem hj'), List.getD_eq_getElem?_getD, List.getElem?_map, List.getElem?_eq_getElem hj']
        rfl
      · rintro e w' ⟨v', rfl, ho, _, hb⟩
        refine ⟨v', rfl, ?_, hb⟩
        have e1 : ((ks.map fun t => (⟨t.toArray⟩ : ByteArray)).take ks.length).map Value.string = ks.map txV := by
          rw [List.take_of_length_le (by simp), List.map_map]
          rfl
        rw [e1] at ho
        exact ho
theorem sortK_nil : sortK [] = [] := by simp [sortK]
set_option maxRecDepth 100000 in
set_option maxHeartbeats 16000000 in
theorem sort_own (v : Value) (base : Nat) (ks : List Tx) (W : World) (ho : W.ownsRow base 9 1 v ks.length (ks.map txV)) (hr : ∀ k ∈ ks, rightB k = true ∧ k.length ≤ 1099511627776) (hn : ks.length ≤ 1099511627776) :
    Calls Try.prog 50 #[v, .func (.func 51) #[] #[]] W fun e w' => e = .returned (.tuple #[]) ∧ Row (fun k => v.ownBlock = some k) w' 9 v ((sortK ks).map txV) ∧ W.grownBy w' v.ownBlock := by
  have none : ks = [] → ∀ A c, v = .slice A 0 c → Calls Try.prog 50 #[v, .func (.func 51) #[] #[]] W fun e w' => e = .returned (.tuple #[]) ∧ W = w' := by
    rintro rfl A c rfl
    exact (Try.slices_SortFunc_none (α := Unit) A c _ W).mono fun e w' h => ⟨h.1, h.2.symm⟩
  have hrow := row_of_own ho
  rcases ho.2 with ⟨rfl, h0⟩ | ⟨g, cap, cur, rfl, _, hg, hn1, hc, hs, ht⟩
  · have hk : ks = [] := List.length_eq_zero_iff.1 h0
    refine (none hk Option.none 0 rfl).mono ?_
    rintro e w' ⟨rfl, rfl⟩
    subst hk
    rw [sortK_nil]
    exact ⟨rfl, hrow, grown_refl _ _⟩
  · by_cases hk : ks = []
    · refine (none hk (some ⟨g, 0, Option.none⟩) cap (by rw [hk]; rfl)).mono ?_
      rintro e w' ⟨rfl, rfl⟩
      subst hk
      rw [sortK_nil]
      exact ⟨rfl, hrow, grown_refl _ _⟩
    · refine (sort_keys g cap ks cur W hr hn hg ?_).mono ?_
      · intro j x hx
        rw [← ht, List.getElem?_take] at hx
        split at hx
        · simpa using hx
        · cases hx
      · rintro e w' ⟨rfl, ⟨cur', hB', _, hc'⟩, hgr⟩
        refine ⟨rfl, ⟨some ⟨g, 0, Option.none⟩, cap, by rw [List.length_map, sortK_len], .inr ⟨g, 0, cur', rfl, rfl, hB', fun j x hx => by rw [Nat.zero_add]; exact hc' j x hx⟩⟩, hgr⟩
set_option maxRecDepth 100000 in
set_option maxHeartbeats 16000000 in
theorem obj_tail2_few (p : Nat) (ty : TypeId) (B : Nat) (X : Nat → Prop) (l : List Tr) (v : Value) (xs : List Value) (ks : List Tx) (w : World) (kv : Value) (Mb : Nat) (w0 : World) (hR : Rw p ty B X l v xs w) (hb : Below w.heap.size w w0) (hkv : ∃ A c, kv = .slice A ks.length c) (hkr : ks.all rightB = true) (hkd : ks.Nodup) (hmx : ks.length ≤ 1099511627776) (hl : l.length < ks.length) (z2 z3 z4 z5 z8 z9 z10 z11 z12 z13 z14 z15 z16 z17 z18 z19 z20 z21 z22 z23 z24 z25 z26 z27 z28 z29 z30 z31 z32 z33 z34 z35 z36 z37 z38 z39 z40 z41 z42 z43 z44 z45 z46 z47 z48 z49 z50 z51 z52 z53 z54 z55 z56 z57 z58 z59 z60 z61 z62 z63 z64 z65 z66 z67 z68 z69 z70 z71 z72 z73 z74 z75 z76 z77 z78 z79 z80 z81 z82 z83 z84 z85 z86 z87 z88 z89 z90 z91 z92 z93 z94 z95 z96 z97 : Value) :
    Code.wp Try.prog objT2 (bodyPost Try.prog Try.f43 (ObjP p ty B X l v ks w)) { tmps := ((.pointer (some ⟨p, 0, none⟩)) :: (kv) :: z2 :: z3 :: z4 :: z5 :: (.map (some Mb)) :: (.int .i64 (lens ks : Int)) :: z8 :: z9 :: z10 :: z11 :: z12 :: z13 :: z14 :: z15 :: z16 :: z17 :: z18 :: z19 :: z20 :: z21 :: z22 :: z23 :: z24 :: z25 :: z26 :: z27 :: z28 :: z29 :: z30 :: z31 :: z32 :: z33 :: z34 :: z35 :: z36 :: z37 :: z38 :: z39 :: z40 :: z41 :: z42 :: z43 :: z44 :: z45 :: z46 :: z47 :: z48 :: z49 :: z50 :: z51 :: z52 :: z53 :: z54 :: z55 :: z56 :: z57 :: z58 :: z59 :: z60 :: z61 :: z62 :: z63 :: z64 :: z65 :: z66 :: z67 :: z68 :: z69 :: z70 :: z71 :: z72 :: z73 :: z74 :: z75 :: z76 :: z77 :: z78 :: z79 :: z80 :: z81 :: z82 :: z83 :: z84 :: z85 :: z86 :: z87 :: z88 :: z89 :: z90 :: z91 :: z92 :: z93 :: z94 :: z95 :: z96 :: z97 :: []).toArray, defers := [] } w0 := by
  obtain ⟨A, c, rfl⟩ := hkv
  obtain ⟨A1, q1, hv1⟩ := own_slice hR.own
  have hBv := (hR.below hb).bl
  rw [hv1] at hBv
  have hot := objT_102 hkr hkd hl
  have HOT := Lib.hid hot
  have HR := Lib.hid hR
  have HB := Lib.hid hb
  have HBV := Lib.hid hBv
  clear hot hR hb hBv hkr hkd
  conv => arg 2; whnf
  go_wp2_with fail
  ((with_reducible refine (take_few p ty A1 l.length q1 _ _ HBV.out (by omega)).mono ?_); rintro e w' ⟨rfl, rfl⟩)
  go_wp2
  exact ⟨rfl, .inl ⟨102, by rw [HOT.out], by decide, rfl, HB.out⟩⟩
set_option maxRecDepth 100000 in
set_option maxHeartbeats 16000000 in
theorem obj_tail2_ok (p : Nat) (ty : TypeId) (B : Nat) (X : Nat → Prop) (l : List Tr) (v : Value) (xs : List Value) (ks : List Tx) (w : World) (kv : Value) (Mb : Nat) (w0 : World) (hR : Rw p ty B X l v xs w) (hX : ∀ k, X k → k < w.heap.size) (hb : Below w.heap.size w w0) (hkv : RdK w kv ks) (hkr : ks.all rightB = true) (hkd : ks.Nodup) (hkl : ∀ k ∈ ks, k.length ≤ 1099511627776) (hbk : lens ks ≤ 1099511627776) (hmx : l.length ≤ 65536) (hl : ks.length ≤ l.length)
    (hM : w0.ownsMap Try.prog 9 (plainElem Try.prog 3) Mb ks.length (mapD ks ks.length)) (z2 z3 z4 z5 z8 z9 z10 z11 z12 z13 z14 z15 z16 z17 z18 z19 z20 z21 z22 z23 z24 z25 z26 z27 z28 z29 z30 z31 z32 z33 z34 z35 z36 z37 z38 z39 z40 z41 z42 z43 z44 z45 z46 z47 z48 z49 z50 z51 z52 z53 z54 z55 z56 z57 z58 z59 z60 z61 z62 z63 z64 z65 z66 z67 z68 z69 z70 z71 z72 z73 z74 z75 z76 z77 z78 z79 z80 z81 z82 z83 z84 z85 z86 z87 z88 z89 z90 z91 z92 z93 z94 z95 z96 z97 : Value) :
    Code.wp Try.prog objT2 (bodyPost Try.prog Try.f43 (ObjP p ty B X l v ks w)) { tmps := ((.pointer (some ⟨p, 0, none⟩)) :: (kv) :: z2 :: z3 :: z4 :: z5 :: (.map (some Mb)) :: (.int .i64 (lens ks : Int)) :: z8 :: z9 :: z10 :: z11 :: z12 :: z13 :: z14 :: z15 :: z16 :: z17 :: z18 :: z19 :: z20 :: z21 :: z22 :: z23 :: z24 :: z25 :: z26 :: z27 :: z28 :: z29 :: z30 :: z31 :: z32 :: z33 :: z34 :: z35 :: z36 :: z37 :: z38 :: z39 :: z40 :: z41 :: z42 :: z43 :: z44 :: z45 :: z46 :: z47 :: z48 :: z49 :: z50 :: z51 :: z52 :: z53 :: z54 :: z55 :: z56 :: z57 :: z58 :: z59 :: z60 :: z61 :: z62 :: z63 :: z64 :: z65 :: z66 :: z67 :: z68 :: z69 :: z70 :: z71 :: z72 :: z73 :: z74 :: z75 :: z76 :: z77 :: z78 :: z79 :: z80 :: z81 :: z82 :: z83 :: z84 :: z85 :: z86 :: z87 :: z88 :: z89 :: z90 :: z91 :: z92 :: z93 :: z94 :: z95 :: z96 :: z97 :: []).toArray, defers := [] } w0 := by
  have hkv0 := hkv
  obtain ⟨A, c, rfl, hka⟩ := hkv
  have HKV := Lib.hid (hkv0.below hb)
  have HK := Lib.hid (And.intro hkr (And.intro hkd hkl))
  have HR := Lib.hid hR
  have HX := Lib.hid hX
  have HB := Lib.hid hb
  have HM := Lib.hid hM
  have hs0 := hb.size
  have hR0 := hR.below hb
  have HR0 := Lib.hid hR0
  clear hkr hkd hkl hR hX hb hM hkv0 hka hR0
  conv => arg 2; whnf
  apply wp_seq_k
  intro K1 hK1
  go_wp2_with fail
  ((with_reducible refine (take_ok p ty B v l.length ks.length xs _ HR0.out.bl HR0.out.own hl (by omega) HR0.out.rd.ones).mono ?_); rintro e w2 ⟨v2, rfl, ho2, hb2⟩)
  obtain ⟨A2, q2, rfl⟩ := own_slice ho2
  have HO2 := Lib.hid ho2
  have HB2 := Lib.hid hb2
  clear ho2 hb2
  go_wp2_with fail
  have hs2 := HB2.out.size
  have hxl : (xs.drop (l.length - ks.length)).length = ks.length := by have := HO2.out.1; simpa using this
  have hdl : (l.drop (l.length - ks.length)).length = ks.length := by rw [List.length_drop]; omega
  have hSx : ∀ j, w.heap.size ≤ j → Sx B X v j := fun j hj => ⟨by have := HR.out.le; omega, fun hx => by have := HX.out j hx; omega, fun e => by have := (HR.out.vlt j e.symm).2; omega⟩
  have hRow : Row (Sx B X v) w2 46 (.slice A2 ks.length q2) (xs.drop (l.length - ks.length)) := (row_of_own HO2.out).mono fun j hj => hSx j (by have := (HO2.out.lt j hj).1; omega)
  have hRd : RdL (Sx B X v) w2 (l.drop (l.length - ks.length)) (xs.drop (l.length - ks.length)) := (HR0.out.below HB2.out).rd.drop (l.length - ks.length)
  have HRow := Lib.hid hRow
  have HRd := Lib.hid hRd
  have HSx := Lib.hid hSx
  have HDL := Lib.hid hdl
  clear hRow hRd hSx hxl hdl
  ((with_reducible refine (summed_any _ _ _ (l.drop (l.length - ks.length)) (lens ks) _ HRow.out HRd.out hbk (by rw [HDL.out]; omega) (fun t ht => HR.out.fit t (List.mem_of_mem_drop ht))).mono ?_); rintro e w3 ⟨rfl, hb3⟩)
  have hs3 := hb3.size
  have HB3 := Lib.hid hb3
  have e1 : ((1 + nodesL (l.drop (l.length - ks.length)) : Nat) : Int) = ((mkObj ks (l.drop (l.length - ks.length))).nodes : Int) := by rw [mkObj_nodes ks HK.out.2.1 _ HDL.out]
  have e2 : ((lens ks + bytesL (l.drop (l.length - ks.length)) : Nat) : Int) = ((mkObj ks (l.drop (l.length - ks.length))).bytes : Int) := by rw [mkObj_bytes ks HK.out.2.1 _ HDL.out]
  have e3 : ((depthL (l.drop (l.length - ks.length)) + 1 : Nat) : Int) = ((mkObj ks (l.drop (l.length - ks.length))).depth : Int) := by rw [mkObj_depth ks HK.out.2.1 _ HDL.out]
  have HE1 := Lib.hid e1
  have HE2 := Lib.hid e2
  have HE3 := Lib.hid e3
  clear hb3 e1 e2 e3
  rw [HE1.out, HE2.out, HE3.out]
  clear HE1 HE2 HE3
  go_wp2_with fail
  ((with_reducible refine (clone_keys (.slice A ks.length c) ks _ ((HKV.out.below HB2.out).below HB3.out) (by omega)).mono ?_); rintro e w4 ⟨v4, rfl, ho4, hb4⟩)
  obtain ⟨K4, q4, rfl⟩ := own_slice ho4
  have hs4 := hb4.size
  have HO4 := Lib.hid ho4
  have HB4 := Lib.hid hb4
  have hB5 := Blk.new w4 128 #[.int .i64 ((mkObj ks (l.drop (l.length - ks.length))).nodes : Int), .int .i64 ((mkObj ks (l.drop (l.length - ks.length))).bytes : Int), .int .i64 ((mkObj ks (l.drop (l.length - ks.length))).depth : Int), .slice K4 ks.length q4, .slice none 0 0]
  have HB5 := Lib.hid hB5
  have a3 := hB5.cell 3
  have hbel5 : Below w.heap.size w (w4.alloc (.cells #[.int .i64 ((mkObj ks (l.drop (l.length - ks.length))).nodes : Int), .int .i64 ((mkObj ks (l.drop (l.length - ks.length))).bytes : Int), .int .i64 ((mkObj ks (l.drop (l.length - ks.length))).depth : Int), .slice K4 ks.length q4, .slice none 0 0] 128)) :=
    (((HB.out.trans (HB2.out.mono hs0)).trans (HB3.out.mono (by omega))).trans (HB4.out.mono (by omega))).alloc (by omega) _
  have HBEL5 := Lib.hid hbel5
  clear ho4 hb4 hB5 hbel5
  obtain ⟨n1, hn1⟩ : ∃ n, ((mkObj ks (l.drop (l.length - ks.length))).nodes : Int) = n := ⟨_, rfl⟩
  obtain ⟨b1, hn2⟩ : ∃ n, ((mkObj ks (l.drop (l.length - ks.length))).bytes : Int) = n := ⟨_, rfl⟩
  obtain ⟨e1, hn3⟩ : ∃ n, ((mkObj ks (l.drop (l.length - ks.length))).depth : Int) = n := ⟨_, rfl⟩
  have HN1 := Lib.hid hn1
  have HN2 := Lib.hid hn2
  have HN3 := Lib.hid hn3
  rw [hn1, hn2, hn3] at HB5 HBEL5 a3 ⊢
  clear hn1 hn2 hn3
  go_wp2_with fail
  have ho5 := HO4.out.alloc (.cells #[.int .i64 n1, .int .i64 b1, .int .i64 e1, .slice K4 ks.length q4, .slice none 0 0] 128)
  ((with_reducible refine (sort_own (.slice K4 ks.length q4) _ ks _ ho5 (fun k hk => ⟨List.all_eq_true.1 HK.out.1 k hk, HK.out.2.2 k hk⟩) (by omega)).mono ?_); rintro e w5 ⟨rfl, hrow5, hgr5⟩)
  have hv4 := HO4.out.lt
  have hsa : (w4.alloc (.cells #[.int .i64 n1, .int .i64 b1, .int .i64 e1, .slice K4 ks.length q4, .slice none 0 0] 128)).heap.size = w4.heap.size + 1 := by simp
  have hS : ObjS p ty B X l v xs ks w A2 K4 q2 q4 Mb w4.heap.size w5 := by
    have hall : w0.grownBy w5 (Value.slice K4 ks.length q4).ownBlock := grown_trans (grown_of_below ((HB2.out.trans (HB3.out.mono hs2)).trans ((HB4.out.mono (by omega)).alloc (by omega) _)) _) hgr5
    refine ⟨HR.out, ?_, HX.out, hl, hmx, HK.out.1, HK.out.2.1, HK.out.2.2, ?_, ?_, ?_, ?_, by omega⟩
    · refine HBEL5.out.trans ⟨hgr5.os, hgr5.tape, hgr5.output, hgr5.size, fun j hj => hgr5.block j (by omega) (fun e => ?_)⟩
      have := (hv4 j e.symm).1
      omega
    · refine (row_of_own HO2.out).move fun j hj hs => ⟨HSx.out j (by have := (HO2.out.lt j hs).1; omega), ?_⟩
      have h1 : w5.heap[j]? = _ := hgr5.block j (by omega) (fun e => by have := (hv4 j e.symm).1; omega)
      rw [h1]
      exact (((HB3.out.trans (HB4.out.mono hs3)).alloc (by omega) _).block j hj)
    · refine hrow5.mono fun j hj => ⟨HSx.out j (by have := (hv4 j hj).1; omega), ?_⟩
      have := (hv4 j hj).2
      omega
    · exact HM.out.kept hall (fun e => by have h1 := (hv4 Mb e.symm).1; have h2 := HM.out.lt; omega)
    · rw [HN1.out, HN2.out, HN3.out]
      exact HB5.out.only hgr5 (fun e => by have := (hv4 _ e.symm).2; omega)
  clear hrow5 hgr5 ho5 HB5 HBEL5
  dsimp only
  go_step
  go_step
  go_step
  go_step
  exact obj_tail3 p ty B X l v xs ks w A2 K4 q2 q4 Mb w4.heap.size w5 hS _ _ _ _ _ _ _ _ _ _ _ _ _ _ _ _ _ _ _ _ _ _ _ _ _ _ _ _ _ _ _ _ _ _ _ _ _ _ _ _ _ _ _ _ _ _ _ _ _ _ _ _ _ _ _ _ _ _ _ _ _ _ _ _ _ _ _ _ _ _ _ _ _ _ _ _ _ _ _ _ _ _ _ _ _ _ _ _ _ _ _ _ _ _
end Nd
end Go.Proofs.Ytfhfkggkbeahbaa
