/-
  Walks of package node: object.
-/
import Derived.Test.YtfhfkggkbeahbaaNtX
namespace Go.Proofs.Ytfhfkggkbeahbaa
open Go.RowKit Mem
set_option linter.unusedVariables false
namespace Nd

set_option maxRecDepth 100000 in
set_option maxHeartbeats 16000000 in
theorem obj_tail1 (p : Nat) (ty : TypeId) (B : Nat) (X : Nat → Prop) (l : List Tr) (v : Value) (xs : List Value) (ks : List Tx) (w : World) (kv : Value) (w0 : World) (hR : Rw p ty B X l v xs w) (hX : ∀ k, X k → k < w.heap.size) (hb : Below w.heap.size w w0) (hkv : RdK w kv ks) (hkr : ks.all rightB = true) (hkl : ∀ k ∈ ks, k.length ≤ 1099511627776) (hbk : lens ks ≤ 1099511627776) (hkn : ks.length ≤ 1099511627776) (hmx : l.length ≤ 65536) (z2 z3 z4 z5 z6 z7 z8 z9 z10 z11 z12 z13 z14 z15 z16 z17 z18 z19 z20 z21 z22 z23 z24 z25 z26 z27 z28 z29 z30 z31 z32 z33 z34 z35 z36 z37 z38 z39 z40 z41 z42 z43 z44 z45 z46 z47 z48 z49 z50 z51 z52 z53 z54 z55 z56 z57 z58 z59 z60 z61 z62 z63 z64 z65 z66 z67 z68 z69 z70 z71 z72 z73 z74 z75 z76 z77 z78 z79 z80 z81 z82 z83 z84 z85 z86 z87 z88 z89 z90 z91 z92 z93 z94 z95 z96 z97 : Value) :
    Code.wp Try.prog objT1 (bodyPost Try.prog Try.f43 (ObjP p ty B X l v ks w)) { tmps := ((.pointer (some ⟨p, 0, none⟩)) :: (kv) :: z2 :: z3 :: z4 :: z5 :: z6 :: z7 :: z8 :: z9 :: z10 :: z11 :: z12 :: z13 :: z14 :: z15 :: z16 :: z17 :: z18 :: z19 :: z20 :: z21 :: z22 :: z23 :: z24 :: z25 :: z26 :: z27 :: z28 :: z29 :: z30 :: z31 :: z32 :: z33 :: z34 :: z35 :: z36 :: z37 :: z38 :: z39 :: z40 :: z41 :: z42 :: z43 :: z44 :: z45 :: z46 :: z47 :: z48 :: z49 :: z50 :: z51 :: z52 :: z53 :: z54 :: z55 :: z56 :: z57 :: z58 :: z59 :: z60 :: z61 :: z62 :: z63 :: z64 :: z65 :: z66 :: z67 :: z68 :: z69 :: z70 :: z71 :: z72 :: z73 :: z74 :: z75 :: z76 :: z77 :: z78 :: z79 :: z80 :: z81 :: z82 :: z83 :: z84 :: z85 :: z86 :: z87 :: z88 :: z89 :: z90 :: z91 :: z92 :: z93 :: z94 :: z95 :: z96 :: z97 :: []).toArray, defers := [] } w0 := by
  have hmm := @run_makeMap Try.prog
  have hown := World.ownsMap_made w0 Try.prog 9 (plainElem (H := Unit) Try.prog 3)
  have hb1 := hb.alloc hb.size (.map #[] 0)
  have hs := hb.size
  have hkv2 := (hkv.below hb).below ((Below.refl _ w0).alloc (Nat.le_refl _) (.map #[] 0))
  have HO := Lib.hid hown
  have HB1 := Lib.hid hb1
  have HKV2 := Lib.hid hkv
  have HK := Lib.hid (And.intro hkr hkl)
  have HR := Lib.hid hR
  have HX := Lib.hid hX
  clear hown hb1 hkv2 hkr hkl hR hX hkv hb
  conv => arg 2; whnf
  apply wp_seq_k
  intro K1 hK1
  go_cut [6] (fun c6 wx => c6 = .map (some w0.heap.size) ∧ wx = w0.alloc (.map #[] 0))
  case rest =>
    obtain ⟨rfl, rfl⟩ := hcut
    go_step
    apply wp_seq_k
    intro K2 hK2
    go_cut [7] (fun c7 wx => c7 = .int .i64 0 ∧ wx = w0.alloc (.map #[] 0))
    case rest =>
      obtain ⟨rfl, rfl⟩ := hcut
      go_step
      exact obj_tail1b p ty B X l v xs ks w kv w0.heap.size (w0.alloc (.map #[] 0)) HR.out HX.out HB1.out HKV2.out HK.out.1 HK.out.2 hbk hkn hmx HO.out hs _ _ _ _ _ _ _ _ _ _ _ _ _ _ _ _ _ _ _ _ _ _ _ _ _ _ _ _ _ _ _ _ _ _ _ _ _ _ _ _ _ _ _ _ _ _ _ _ _ _ _ _ _ _ _ _ _ _ _ _ _ _ _ _ _ _ _ _ _ _ _ _ _ _ _ _ _ _ _ _ _ _ _ _ _ _ _ _ _ _ _ _ _ _
    go_wp2_with fail
    go_meet
    exact ⟨rfl, rfl⟩
  go_wp2_with fail
  go_meet
  exact ⟨rfl, rfl⟩
set_option maxRecDepth 100000 in
set_option maxHeartbeats 16000000 in
theorem object_any (p : Nat) (ty : TypeId) (B : Nat) (X : Nat → Prop) (l : List Tr) (v : Value) (xs : List Value) (ks : List Tx) (w : World) (kv : Value) (hR : Rw p ty B X l v xs w) (hX : ∀ k, X k → k < w.heap.size) (hkv : RdK w kv ks) (hkl : ∀ k ∈ ks, k.length ≤ 1099511627776) (hbk : lens ks ≤ 1099511627776) (hkn : ks.length ≤ 1099511627776) (hmx : l.length ≤ 65536) :
    Calls Try.prog 43 #[.pointer (some ⟨p, 0, none⟩), kv] w (ObjP p ty B X l v ks w) := by
  have hkv0 := hkv
  obtain ⟨A, c, rfl, hka⟩ := hkv
  have HKV := Lib.hid hkv0
  have HK := Lib.hid hkl
  have HR := Lib.hid hR
  have HX := Lib.hid hX
  clear hkl hR hX hkv0 hka
  go_enter Try.func43, Try.ntmps43
  apply wp_seq_k
  intro K1 hK1
  go_cut [] (fun wx => ks.all rightB = true ∧ Below w.heap.size w wx)
  case rest =>
    obtain ⟨har, hbx⟩ := hcut
    go_step
    exact obj_tail1 p ty B X l v xs ks w (.slice A ks.length c) wc HR.out HX.out hbx HKV.out har HK.out hbk hkn hmx _ _ _ _ _ _ _ _ _ _ _ _ _ _ _ _ _ _ _ _ _ _ _ _ _ _ _ _ _ _ _ _ _ _ _ _ _ _ _ _ _ _ _ _ _ _ _ _ _ _ _ _ _ _ _ _ _ _ _ _ _ _ _ _ _ _ _ _ _ _ _ _ _ _ _ _ _ _ _ _ _ _ _ _ _ _ _ _ _ _ _ _ _ _ _ _
  go_wp2
  go_loopw [18] (fun c18 wr => ∃ k : Nat, k ≤ ks.length ∧ c18 = .int .i64 k ∧ Hid ((ks.take k).all rightB = true) ∧ Below w.heap.size w wr) (fun c18 _ => ks.length - (intOf c18).toNat)
  case atStart => exact ⟨0, by omega, rfl, Lib.hid (by simp), Below.refl _ _⟩
  case round =>
    obtain ⟨k, hk, rfl, HN, hbr⟩ := hrel
    by_cases hlt : k < ks.length
    · have hkeys : ∃ gk ok, A = some ⟨gk, ok, none⟩ ∧ wr.cell? ⟨gk, ok + k, none⟩ = some (.string ⟨ks[k].toArray⟩) := by
        obtain ⟨A', c', e', h'⟩ := HKV.out.below hbr
        injection e' with e1 e2 e3
        rcases h' with h' | ⟨g, o, hA, hc⟩
        · rw [h'] at hlt
          simp at hlt
        · exact ⟨g, o, by rw [e1, hA], hc k _ (List.getElem?_eq_getElem hlt)⟩
      obtain ⟨gk, ok, rfl, hkc⟩ := hkeys
      have htl := HK.out _ (List.getElem_mem hlt)
      by_cases hr : rightB ks[k] = true
      · have HND := Lib.hid (all_snoc hlt HN.out hr)
        have HRR := Lib.hid hr
        clear hr
        generalize ks[k] = t at *
        go_wp2_with fail
        ((with_reducible refine (right_tx t _ (by omega)).mono ?_); rw [HRR.out]; rintro e w1 ⟨rfl, hb1⟩)
        go_wp2_with fail
        ((with_reducible refine (refuse_yes 100 _).mono ?_); rintro e w' ⟨rfl, rfl⟩)
        have hbr2 := hbr.trans (hb1.mono hbr.size)
        clear hb1
        go_wp2
        go_roundw
        case rel => exact ⟨k + 1, by omega, by go_num, HND, hbr2⟩
        case measure => simp [intOf]; omega
      · have hr2 : rightB ks[k] = false := by simpa using hr
        have HOT := Lib.hid (objT_100 (R := rightB) (l := l) k hlt hr2)
        have HRR := Lib.hid hr2
        clear hr hr2
        generalize ks[k] = t at *
        go_wp2_with fail
        ((with_reducible refine (right_tx t _ (by omega)).mono ?_); rw [HRR.out]; rintro e w1 ⟨rfl, hb1⟩)
        go_wp2_with fail
        ((with_reducible refine (refuse_no 100 _).mono ?_); rintro e w' ⟨rfl, rfl⟩)
        have hbr2 := hbr.trans (hb1.mono hbr.size)
        clear hb1
        go_wp2
        exact ⟨rfl, .inl ⟨100, by rw [HOT.out], by decide, rfl, hbr2⟩⟩
    · have hkn2 : k = ks.length := by omega
      subst hkn2
      have hnd := HN.out
      rw [List.take_length] at hnd
      have HN2 := Lib.hid hnd
      clear hnd
      go_wp2_with fail
      go_meet
      exact ⟨HN2.out, hbr⟩
end Nd
end Go.Proofs.Ytfhfkggkbeahbaa
