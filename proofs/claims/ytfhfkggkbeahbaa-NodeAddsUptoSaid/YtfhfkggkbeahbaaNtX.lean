/-
  Walks of package node: object's map.
-/
import Derived.Test.YtfhfkggkbeahbaaNtW
namespace Go.Proofs.Ytfhfkggkbeahbaa
open Go.RowKit Mem
set_option linter.unusedVariables false
namespace Nd

noncomputable def objT1b : Code := nextOf (nextOf objT1)
set_option maxRecDepth 100000 in
set_option maxHeartbeats 16000000 in
theorem obj_tail1b (p : Nat) (ty : TypeId) (B : Nat) (X : Nat → Prop) (l : List Tr) (v : Value) (xs : List Value) (ks : List Tx) (w : World) (kv : Value) (Mb : Nat) (w0 : World) (hR : Rw p ty B X l v xs w) (hX : ∀ k, X k → k < w.heap.size) (hb : Below w.heap.size w w0) (hkv : RdK w kv ks) (hkr : ks.all rightB = true) (hkl : ∀ k ∈ ks, k.length ≤ 1099511627776) (hbk : lens ks ≤ 1099511627776) (hkn : ks.length ≤ 1099511627776) (hmx : l.length ≤ 65536)
    (hM : w0.ownsMap Try.prog 9 (plainElem Try.prog 3) Mb 0 (mapD ks 0)) (hMb : w.heap.size ≤ Mb) (z2 z3 z4 z5 z8 z9 z10 z11 z12 z13 z14 z15 z16 z17 z18 z19 z20 z21 z22 z23 z24 z25 z26 z27 z28 z29 z30 z31 z32 z33 z34 z35 z36 z37 z38 z39 z40 z41 z42 z43 z44 z45 z46 z47 z48 z49 z50 z51 z52 z53 z54 z55 z56 z57 z58 z59 z60 z61 z62 z63 z64 z65 z66 z67 z68 z69 z70 z71 z72 z73 z74 z75 z76 z77 z78 z79 z80 z81 z82 z83 z84 z85 z86 z87 z88 z89 z90 z91 z92 z93 z94 z95 z96 z97 : Value) :
    Code.wp Try.prog objT1b (bodyPost Try.prog Try.f43 (ObjP p ty B X l v ks w)) { tmps := ((.pointer (some ⟨p, 0, none⟩)) :: (kv) :: z2 :: z3 :: z4 :: z5 :: (.map (some Mb)) :: (.int .i64 0) :: z8 :: z9 :: z10 :: z11 :: z12 :: z13 :: z14 :: z15 :: z16 :: z17 :: z18 :: z19 :: z20 :: z21 :: z22 :: z23 :: z24 :: z25 :: z26 :: z27 :: z28 :: z29 :: z30 :: z31 :: z32 :: z33 :: z34 :: z35 :: z36 :: z37 :: z38 :: z39 :: z40 :: z41 :: z42 :: z43 :: z44 :: z45 :: z46 :: z47 :: z48 :: z49 :: z50 :: z51 :: z52 :: z53 :: z54 :: z55 :: z56 :: z57 :: z58 :: z59 :: z60 :: z61 :: z62 :: z63 :: z64 :: z65 :: z66 :: z67 :: z68 :: z69 :: z70 :: z71 :: z72 :: z73 :: z74 :: z75 :: z76 :: z77 :: z78 :: z79 :: z80 :: z81 :: z82 :: z83 :: z84 :: z85 :: z86 :: z87 :: z88 :: z89 :: z90 :: z91 :: z92 :: z93 :: z94 :: z95 :: z96 :: z97 :: []).toArray, defers := [] } w0 := by
  have hkv0 := hkv
  obtain ⟨A, c, rfl, hka⟩ := hkv
  have HKV := Lib.hid hkv0
  have HKA := Lib.hid hka
  have HK := Lib.hid (And.intro hkr hkl)
  have HR := Lib.hid hR
  have HX := Lib.hid hX
  have HB := Lib.hid hb
  have HM := Lib.hid hM
  clear hkr hkl hR hX hb hM hkv0 hka
  conv => arg 2; whnf
  apply wp_seq_k
  intro K1 hK1
  go_cut [7] (fun c7 wx => c7 = .int .i64 (lens ks : Int) ∧ ks.Nodup ∧ Below w.heap.size w wx ∧ wx.ownsMap Try.prog 9 (plainElem Try.prog 3) Mb ks.length (mapD ks ks.length))
  case rest =>
    obtain ⟨rfl, hnd, hbx, hmx2⟩ := hcut
    go_step
    by_cases hl : l.length < ks.length
    · exact obj_tail2_few p ty B X l v xs ks w (.slice A ks.length c) Mb wc HR.out hbx ⟨A, c, rfl⟩ HK.out.1 hnd hkn hl _ _ _ _ _ _ _ _ _ _ _ _ _ _ _ _ _ _ _ _ _ _ _ _ _ _ _ _ _ _ _ _ _ _ _ _ _ _ _ _ _ _ _ _ _ _ _ _ _ _ _ _ _ _ _ _ _ _ _ _ _ _ _ _ _ _ _ _ _ _ _ _ _ _ _ _ _ _ _ _ _ _ _ _ _ _ _ _ _ _ _ _ _ _
    · exact obj_tail2_ok p ty B X l v xs ks w (.slice A ks.length c) Mb wc HR.out HX.out hbx HKV.out HK.out.1 hnd HK.out.2 hbk hmx (by omega) hmx2 _ _ _ _ _ _ _ _ _ _ _ _ _ _ _ _ _ _ _ _ _ _ _ _ _ _ _ _ _ _ _ _ _ _ _ _ _ _ _ _ _ _ _ _ _ _ _ _ _ _ _ _ _ _ _ _ _ _ _ _ _ _ _ _ _ _ _ _ _ _ _ _ _ _ _ _ _ _ _ _ _ _ _ _ _ _ _ _ _ _ _ _ _ _
  go_wp2
  go_loopw [7, 29] (fun c7 c29 wr => ∃ k : Nat, k ≤ ks.length ∧ c29 = .int .i64 k ∧ c7 = .int .i64 (lens (ks.take k) : Int) ∧ Hid ((ks.take k).Nodup) ∧ Below w.heap.size w wr ∧ Hid (wr.ownsMap Try.prog 9 (plainElem Try.prog 3) Mb k (mapD ks k))) (fun _ c29 _ => ks.length - (intOf c29).toNat)
  case atStart => exact ⟨0, by omega, rfl, rfl, Lib.hid (by simp), HB.out, HM⟩
  case round =>
    obtain ⟨k, hk, rfl, rfl, HN, hbr, HMk⟩ := hrel
    by_cases hlt : k < ks.length
    · have hkeys : ∃ gk ok, A = some ⟨gk, ok, none⟩ ∧ wr.cell? ⟨gk, ok + k, none⟩ = some (.string ⟨ks[k].toArray⟩) := by
        obtain ⟨A', c', e', h'⟩ := HKV.out.below hbr
        injection e' with e1 e2 e3
        rcases h' with h' | ⟨g, o, hA, hc⟩
        · rw [h'] at hlt
          simp at hlt
        · exact ⟨g, o, by rw [e1, hA], hc k _ (List.getElem?_eq_getElem hlt)⟩
      obtain ⟨gk, ok, rfl, hkc⟩ := hkeys
      have hkey := key_of ks[k] (HK.out.2 _ (List.getElem_mem hlt))
      have hhas := mapD_has ks ks[k] k hk
      have hls := lens_snoc ks k hlt
      have hlb := lens_le ks k
      have hpt : mapD ks (k + 1) = (mapD ks k).put (klit ks[k]) (.lit (.int .i64 (k : Int))) := by
        show (mapD ks k).put (klit (ks.getD k [])) _ = _
        have hg : ks.getD k [] = ks[k] := by rw [List.getD_eq_getElem?_getD, List.getElem?_eq_getElem hlt]; rfl
        rw [hg]
      have HPT := Lib.hid hpt
      have HKEY := Lib.hid hkey
      have HLS := Lib.hid hls
      clear hpt hkey hls
      by_cases hm : ks[k] ∈ ks.take k
      · rw [decide_eq_true hm] at hhas
        have hot := objT_101 (R := rightB) (l := l) HK.out.1 k hlt hm
        have HOT := Lib.hid hot
        clear hot hm
        have HH := Lib.hid hhas
        clear hhas
        generalize ks[k] = t at *
        go_wp2_with (at_lookup; refine wpList_lookup_own_ok_int _ rfl _ _ 133 rfl 9 3 .i64 str_law Try.underlying133 Try.underlying3 (zero_int _) Mb k (mapD ks k) rfl HMk.out _ (klit t) rfl HKEY.out ?_; rw [HH.out]; intro cx hat hwc)
        ((with_reducible refine (refuse_no 101 _).mono ?_); rintro e w' ⟨rfl, rfl⟩)
        go_wp2
        exact ⟨rfl, .inl ⟨101, by rw [HOT.out], by decide, rfl, hbr⟩⟩
      · rw [decide_eq_false hm] at hhas
        have hnd := nodup_snoc hlt HN.out hm
        have HND := Lib.hid hnd
        have HH := Lib.hid hhas
        have htl := HK.out.2 _ (List.getElem_mem hlt)
        clear hhas hm hnd
        generalize ks[k] = t at *
        go_wp2_with (at_lookup; refine wpList_lookup_own_ok_int _ rfl _ _ 133 rfl 9 3 .i64 str_law Try.underlying133 Try.underlying3 (zero_int _) Mb k (mapD ks k) rfl HMk.out _ (klit t) rfl HKEY.out ?_; rw [HH.out]; intro cx hat hwc)
        ((with_reducible refine (refuse_yes 101 _).mono ?_); rintro e w' ⟨rfl, rfl⟩)
        go_wp2_with (at_mapUpdate; refine wpList_mapUpdate_own _ rfl _ _ _ 133 rfl 9 3 str_law Try.underlying133 _ Mb k _ rfl HMk.out (by unfold maxLen; omega) _ _ (klit t) rfl rfl HKEY.out _ [] (plainElem_int Try.underlying3 (WalkArith.wf_i64 (by omega))) ?_; intro w1 hown1 hgr1; clear hat hwc)
        have hown2 := hown1
        rw [← HPT.out] at hown2
        have HO2 := Lib.hid hown2
        clear hown1 hown2
        have hbr2 : Below w.heap.size w w1 := hbr.trans (below_of_grown hgr1 hMb hbr.size)
        clear hgr1
        go_roundw
        case rel => exact ⟨k + 1, by omega, by go_num, by rw [HLS.out]; go_num, HND, hbr2, HO2⟩
        case measure => simp [intOf]; omega
    · have hkn2 : k = ks.length := by omega
      subst hkn2
      have hnd := HN.out
      have hmm := HMk.out
      rw [List.take_length] at hnd
      have e9 : lens (ks.take ks.length) = lens ks := by rw [List.take_length]
      rw [e9]
      clear e9
      have HN2 := Lib.hid hnd
      clear hnd hmm
      go_wp2_with fail
      go_meet
      exact ⟨rfl, HN2.out, hbr, HMk.out⟩
end Nd
end Go.Proofs.Ytfhfkggkbeahbaa
