/-
  The walk of the law NodeSteps.
-/
import Derived.Test.YtfhfkggkbeahbaaGreatGJ
import Derived.Test.YtfhfkggkbeahbaaGreatGG
import Derived.Test.YtfhfkggkbeahbaaGreatGF
namespace Go.Proofs.YtfhfkggkbeahbaaGreat
open Go.RowKit Mem
set_option linter.unusedVariables false
namespace Nd

theorem run_cons {l : List Tr} {s : Stp} {ss : List Stp} {i : Nat} {r : List Tr} (h : runT l (s :: ss) i = .inr r) : (doT l s).1 = 0 ∧ runT (doT l s).2 ss (i + 1) = .inr r := by
  unfold runT at h
  split at h
  · rename_i h0
    exact ⟨h0, h⟩
  · cases h
theorem doT_used {l : List Tr} {s : Stp} (h : (doT l s).1 = 0) : usedB s.sort s.flag s.bits s.text s.count s.keys.length = true := by
  cases hu : usedB s.sort s.flag s.bits s.text s.count s.keys.length with
  | true => rfl
  | false =>
    unfold doT at h
    rw [if_pos hu] at h
    cases h
theorem stp_shape (s : Stp) (h : usedB s.sort s.flag s.bits s.text s.count s.keys.length = true) : s = nullS ∨ (∃ b, s = flagS b) ∨ (∃ x, s = numS x) ∨ (∃ t, s = textS t) ∨ (∃ n, s = listS n) ∨ ∃ ks, s = objS ks := by
  obtain ⟨h1, h2, h3, h4, h5, h6, h7, h8⟩ := used_shape h
  obtain ⟨so, f, b, t, c, ks⟩ := s
  simp only at *
  have hcase : so = 1 ∨ so = 2 ∨ so = 3 ∨ so = 4 ∨ so = 5 ∨ so = 6 := by omega
  have hk : so ≠ 6 → ks = [] := fun e => List.length_eq_zero_iff.1 (h8 e)
  rcases hcase with rfl | rfl | rfl | rfl | rfl | rfl
  · rw [h4 (by decide), h5 (by decide), h6 (by decide), h7 (by decide), hk (by decide)]
    exact .inl rfl
  · rw [h5 (by decide), h6 (by decide), h7 (by decide), hk (by decide)]
    exact .inr (.inl ⟨f, rfl⟩)
  · rw [h4 (by decide), h6 (by decide), h7 (by decide), hk (by decide)]
    exact .inr (.inr (.inl ⟨b, rfl⟩))
  · rw [h4 (by decide), h5 (by decide), h7 (by decide), hk (by decide)]
    exact .inr (.inr (.inr (.inl ⟨t, rfl⟩)))
  · rw [h4 (by decide), h5 (by decide), h6 (by decide), hk (by decide)]
    exact .inr (.inr (.inr (.inr (.inl ⟨c, rfl⟩))))
  · rw [h4 (by decide), h5 (by decide), h6 (by decide), h7 (by decide)]
    exact .inr (.inr (.inr (.inr (.inr ⟨ks, rfl⟩))))
theorem stepT_do (l : List Tr) (s : Stp) (h : l.length < 65536) (h0 : (doT l s).1 = 0) : stepT l s = (0, (doT l s).2) := by
  unfold stepT
  rw [if_neg (by omega)]
  exact Prod.ext h0 rfl
theorem buildT_run {ss : List Stp} {t : Tr} (h : buildT ss = .inr t) : ss.length ≤ 65536 ∧ runT [] ss 0 = .inr [t] := by
  unfold buildT at h
  split at h
  · cases h
  · refine ⟨by omega, ?_⟩
    split at h
    · cases h
    · rename_i t' hr
      injection h with h
      rw [hr, h]
    · cases h
theorem tree_below {B g : Nat} {t : Tr} {W W' : World} (h : TreeAt B W g t) (hb : Below W.heap.size W W') : TreeAt B W' g t := by
  obtain ⟨h1, h2, v, hB, hr⟩ := h
  exact ⟨h1, h2, v, (hb.block g hB.lt).trans hB, RdT.move (fun j hj hs => ⟨hs, hb.block j hj⟩) _ _ hr⟩
theorem rds_at {w wr : World} {A : Option Addr} {c k : Nat} {ss : List Stp} (h : RdS w (.slice A ss.length c) ss) (hb : Below w.heap.size w wr) (hlt : k < ss.length) : ∃ g o K q, A = some ⟨g, o, none⟩ ∧ CellS wr g (o + k * 6) ss[k] K q := by
  obtain ⟨A', c', e', h'⟩ := h
  injection e' with e1 e2 e3
  rcases h' with h' | ⟨g, o, hA, hc⟩
  · rw [h'] at hlt
    simp at hlt
  · obtain ⟨K, q, h⟩ := hc k _ (List.getElem?_eq_getElem hlt)
    exact ⟨g, o, K, q, by rw [e1, hA], h.below hb⟩
theorem rwx_new (w : World) : RwX w.heap.size 98 (w.heap.size + 1) [] (w.alloc (.cells #[.slice none 0 0] 98)) :=
  ⟨.slice none 0 0, [], Blk.new _ _ _, World.ownsRow_nil _ _ _ _, by unfold RdL; rfl, by simp, by omega, by simp⟩
set_option maxRecDepth 100000 in
set_option maxHeartbeats 16000000 in
theorem nodeSteps_any (v : Value) (ss : List Stp) (w : World) (hS : RdS w v ss) (hF : ∀ s ∈ ss, s.Fine) :
    Calls Tryz.prog 5 #[v] w fun e w' => e = .returned (.bool true) ∧ Below w.heap.size w w' := by
  have HS := Lib.hid hS
  have HF := Lib.hid hF
  have q1 := err_ne_nil
  have q2 := err_ne_held
  obtain ⟨A, c, rfl, _⟩ := hS
  clear hF
  go_enter Tryz.func5, Tryz.ntmps5
  go_wp2_with fail
  ((with_reducible refine (build_all _ ss _ HS.out HF.out).mono ?_); intro e w1 hP)
  obtain ⟨hb1, hP⟩ := hP
  have hnew : Below w1.heap.size w1 (w1.alloc (.cells #[.slice none 0 0] 98)) := (Below.refl _ _).alloc (Nat.le_refl _) _
  have HX0 := Lib.hid (rwx_new w1)
  have hsz1 : (w1.alloc (.cells #[.slice none 0 0] 98)).heap.size = w1.heap.size + 1 := by simp
  cases hbt : buildT ss with
  | inl ni =>
    obtain ⟨n, i⟩ := ni
    rw [hbt] at hP
    simp only at hP
    subst hP
    obtain ⟨tx, ux, hsp⟩ := sp_form n i
    rw [hsp]
    clear hsp hbt hsz1
    go_wp2_with fail
    ((with_reducible refine (mnew_any _).mono ?_); rintro e w2 ⟨rfl, rfl⟩)
    go_wp2_with fail
    ((with_reducible refine (wakes_any _).mono ?_); rintro e w3 ⟨rfl, hb3⟩)
    have hbw3 := hb1.trans ((hnew.trans (hb3.mono hnew.size)).mono hb1.size)
    clear hb1 hb3 hnew
    go_wp2
    go_ret
    exact ⟨rfl, hbw3⟩
  | inr t =>
    rw [hbt] at hP
    simp only at hP
    obtain ⟨g, rfl, hT⟩ := hP
    have hok := buildT_ok HF.out hbt
    obtain ⟨hlen, hrun⟩ := buildT_run hbt
    have HOK := Lib.hid hok
    have HT := Lib.hid hT
    have HRUN := Lib.hid hrun
    clear hbt hok hT hrun
    go_wp2_with fail
    ((with_reducible refine (mnew_any _).mono ?_); rintro e w2 ⟨rfl, rfl⟩)
    go_wp2_with fail
    ((with_reducible refine (wakes_any _).mono ?_); rintro e w3 ⟨rfl, hb3⟩)
    have HX3 := Lib.hid (HX0.out.below hb3)
    have hb13 : Below w1.heap.size w1 w3 := hnew.trans (hb3.mono hnew.size)
    have hsz3 : w1.heap.size < w3.heap.size := by have := hb3.size; omega
    have hw1 := hb1.size
    clear hb3 hnew HX0 hsz1
    go_wp2_with fail
    go_loopw [28] (fun c28 wr => ∃ (k : Nat) (l : List Tr), k ≤ ss.length ∧ c28 = .int .i64 k ∧ l.length ≤ k ∧ Hid (runT l (ss.drop k) k = .inr [t]) ∧ Hid (RwX w1.heap.size 98 (w1.heap.size + 1) l wr) ∧ Below w1.heap.size w1 wr ∧ w1.heap.size < wr.heap.size) (fun c28 _ => ss.length - (intOf c28).toNat)
    case atStart => exact ⟨0, [], by omega, rfl, by simp, HRUN, HX3, hb13, hsz3⟩
    case round =>
      obtain ⟨k, l, hk, rfl, hlk, HR, HX, hbr, hsz⟩ := hrel
      have hbwr := hb1.trans (hbr.mono hw1)
      by_cases hlt : k < ss.length
      · obtain ⟨gs, os, K, q, rfl, hC⟩ := rds_at HS.out hbwr hlt
        have hdr : ss.drop k = ss[k] :: ss.drop (k + 1) := List.drop_eq_getElem_cons hlt
        have hru := HR.out
        rw [hdr] at hru
        obtain ⟨h0, hru2⟩ := run_cons hru
        have hfine := HF.out _ (List.getElem_mem hlt)
        have hdl := doT_len l ss[k]
        have hst := stepT_do l ss[k] (by omega) h0
        have hsh := stp_shape _ (doT_used h0)
        clear hdr hru HR
        generalize ss[k] = s at *
        have HFI := Lib.hid hfine
        have HR2 := Lib.hid hru2
        have HST := Lib.hid hst
        clear hfine hru2 hst h0
        generalize (doT l s).2 = l2 at *
        have hl2 : l2.length ≤ k + 1 := by omega
        clear hdl
        rcases hsh with rfl | ⟨x, rfl⟩ | ⟨x, rfl⟩ | ⟨x, rfl⟩ | ⟨x, rfl⟩ | ⟨x, rfl⟩
        · obtain ⟨c0, c1, c2, c3, c4, c5, ck⟩ := hC
          dsimp only [nullS] at c0 c1 c2 c3 c4 c5 ck
          try simp only [List.length_nil] at c5
          rw [show (((0 : Nat) : Nat) : Int) = 0 from rfl] at c2
          have hba : Below wr.heap.size wr (wr.alloc (.cells #[.int .i64 1, .bool false, .int .u64 0, .string ⟨([] : Tx).toArray⟩, .int .i64 0, .slice K 0 q] 54)) := (Below.refl _ _).alloc (Nat.le_refl _) _
          have HXA := Lib.hid (HX.out.below hba)
          have hbr1 := hbr.trans (hba.mono hbr.size)
          have hsa := hba.size
          clear ck hba
          go_wp2_with fail
          ((with_reducible refine (mk_null w1.heap.size 98 (w1.heap.size + 1) l _ HXA.out (by omega)).mono ?_); rintro e w5 ⟨rfl, hx5, hb5⟩)
          rw [HST.out] at hx5 ⊢
          dsimp only at hx5 ⊢
          rw [show errV 0 = .nilIface from rfl]
          have HX5 := Lib.hid hx5
          have hbr5 := hbr1.trans hb5
          have hsz5 : w1.heap.size < w5.heap.size := by have := hb5.size; omega
          clear hx5 hb5 hbr1 hsa
          go_wp2
          go_roundw
          case rel => exact ⟨k + 1, l2, by omega, by go_num, hl2, HR2, HX5, hbr5, hsz5⟩
          case measure => simp [intOf]; omega
        · obtain ⟨c0, c1, c2, c3, c4, c5, ck⟩ := hC
          dsimp only [flagS] at c0 c1 c2 c3 c4 c5 ck
          try simp only [List.length_nil] at c5
          rw [show (((0 : Nat) : Nat) : Int) = 0 from rfl] at c2
          have hba : Below wr.heap.size wr (wr.alloc (.cells #[.int .i64 2, .bool x, .int .u64 0, .string ⟨([] : Tx).toArray⟩, .int .i64 0, .slice K 0 q] 54)) := (Below.refl _ _).alloc (Nat.le_refl _) _
          have HXA := Lib.hid (HX.out.below hba)
          have hbr1 := hbr.trans (hba.mono hbr.size)
          have hsa := hba.size
          clear ck hba
          go_wp2_with fail
          ((with_reducible refine (mk_flag x w1.heap.size 98 (w1.heap.size + 1) l _ HXA.out (by omega)).mono ?_); rintro e w5 ⟨rfl, hx5, hb5⟩)
          rw [HST.out] at hx5 ⊢
          dsimp only at hx5 ⊢
          rw [show errV 0 = .nilIface from rfl]
          have HX5 := Lib.hid hx5
          have hbr5 := hbr1.trans hb5
          have hsz5 : w1.heap.size < w5.heap.size := by have := hb5.size; omega
          clear hx5 hb5 hbr1 hsa
          go_wp2
          go_roundw
          case rel => exact ⟨k + 1, l2, by omega, by go_num, hl2, HR2, HX5, hbr5, hsz5⟩
          case measure => simp [intOf]; omega
        · obtain ⟨c0, c1, c2, c3, c4, c5, ck⟩ := hC
          dsimp only [numS] at c0 c1 c2 c3 c4 c5 ck
          try simp only [List.length_nil] at c5
          have hfr := fromBits x
          have hba : Below wr.heap.size wr (wr.alloc (.cells #[.int .i64 3, .bool false, .int .u64 (x : Int), .string ⟨([] : Tx).toArray⟩, .int .i64 0, .slice K 0 q] 54)) := (Below.refl _ _).alloc (Nat.le_refl _) _
          have HXA := Lib.hid (HX.out.below hba)
          have hbr1 := hbr.trans (hba.mono hbr.size)
          have hsa := hba.size
          have HXF : Hid (x < 18446744073709551616) := Lib.hid HFI.out.bits
          clear ck hba
          go_wp2_with fail
          ((with_reducible refine (mk_num x HXF.out w1.heap.size 98 (w1.heap.size + 1) l _ HXA.out (by omega)).mono ?_); rintro e w5 ⟨rfl, hx5, hb5⟩)
          rw [HST.out] at hx5 ⊢
          dsimp only at hx5 ⊢
          rw [show errV 0 = .nilIface from rfl]
          have HX5 := Lib.hid hx5
          have hbr5 := hbr1.trans hb5
          have hsz5 : w1.heap.size < w5.heap.size := by have := hb5.size; omega
          clear hx5 hb5 hbr1 hsa
          go_wp2
          go_roundw
          case rel => exact ⟨k + 1, l2, by omega, by go_num, hl2, HR2, HX5, hbr5, hsz5⟩
          case measure => simp [intOf]; omega
        · obtain ⟨c0, c1, c2, c3, c4, c5, ck⟩ := hC
          dsimp only [textS] at c0 c1 c2 c3 c4 c5 ck
          try simp only [List.length_nil] at c5
          rw [show (((0 : Nat) : Nat) : Int) = 0 from rfl] at c2
          have hba : Below wr.heap.size wr (wr.alloc (.cells #[.int .i64 4, .bool false, .int .u64 0, .string ⟨x.toArray⟩, .int .i64 0, .slice K 0 q] 54)) := (Below.refl _ _).alloc (Nat.le_refl _) _
          have HXA := Lib.hid (HX.out.below hba)
          have hbr1 := hbr.trans (hba.mono hbr.size)
          have hsa := hba.size
          have HXF : Hid (x.length ≤ 1099511627776) := Lib.hid HFI.out.text
          clear ck hba
          go_wp2_with fail
          ((with_reducible refine (mk_text x HXF.out w1.heap.size 98 (w1.heap.size + 1) l _ HXA.out (by omega)).mono ?_); rintro e w5 ⟨rfl, hx5, hb5⟩)
          rw [HST.out] at hx5 ⊢
          dsimp only at hx5 ⊢
          rw [show errV 0 = .nilIface from rfl]
          have HX5 := Lib.hid hx5
          have hbr5 := hbr1.trans hb5
          have hsz5 : w1.heap.size < w5.heap.size := by have := hb5.size; omega
          clear hx5 hb5 hbr1 hsa
          go_wp2
          go_roundw
          case rel => exact ⟨k + 1, l2, by omega, by go_num, hl2, HR2, HX5, hbr5, hsz5⟩
          case measure => simp [intOf]; omega
        · obtain ⟨c0, c1, c2, c3, c4, c5, ck⟩ := hC
          dsimp only [listS] at c0 c1 c2 c3 c4 c5 ck
          try simp only [List.length_nil] at c5
          rw [show (((0 : Nat) : Nat) : Int) = 0 from rfl] at c2
          have hba : Below wr.heap.size wr (wr.alloc (.cells #[.int .i64 5, .bool false, .int .u64 0, .string ⟨([] : Tx).toArray⟩, .int .i64 x, .slice K 0 q] 54)) := (Below.refl _ _).alloc (Nat.le_refl _) _
          have HXA := Lib.hid (HX.out.below hba)
          have hbr1 := hbr.trans (hba.mono hbr.size)
          have hsa := hba.size
          clear ck hba
          go_wp2_with fail
          ((with_reducible refine (mk_list x w1.heap.size 98 (w1.heap.size + 1) l _ HXA.out (by omega)).mono ?_); rintro e w5 ⟨rfl, hx5, hb5⟩)
          rw [HST.out] at hx5 ⊢
          dsimp only at hx5 ⊢
          rw [show errV 0 = .nilIface from rfl]
          have HX5 := Lib.hid hx5
          have hbr5 := hbr1.trans hb5
          have hsz5 : w1.heap.size < w5.heap.size := by have := hb5.size; omega
          clear hx5 hb5 hbr1 hsa
          go_wp2
          go_roundw
          case rel => exact ⟨k + 1, l2, by omega, by go_num, hl2, HR2, HX5, hbr5, hsz5⟩
          case measure => simp [intOf]; omega
        · obtain ⟨c0, c1, c2, c3, c4, c5, ck⟩ := hC
          dsimp only [objS] at c0 c1 c2 c3 c4 c5 ck
          skip
          rw [show (((0 : Nat) : Nat) : Int) = 0 from rfl] at c2
          have hba : Below wr.heap.size wr (wr.alloc (.cells #[.int .i64 6, .bool false, .int .u64 0, .string ⟨([] : Tx).toArray⟩, .int .i64 0, .slice K x.length q] 54)) := (Below.refl _ _).alloc (Nat.le_refl _) _
          have HXA := Lib.hid (HX.out.below hba)
          have hbr1 := hbr.trans (hba.mono hbr.size)
          have hsa := hba.size
          have HKA := Lib.hid (ck.below hba)
          clear ck hba
          go_wp2_with fail
          ((with_reducible refine (mk_obj x K q HFI.out w1.heap.size 98 (w1.heap.size + 1) l _ HXA.out HKA.out (by omega)).mono ?_); rintro e w5 ⟨rfl, hx5, hb5⟩)
          rw [HST.out] at hx5 ⊢
          dsimp only at hx5 ⊢
          rw [show errV 0 = .nilIface from rfl]
          have HX5 := Lib.hid hx5
          have hbr5 := hbr1.trans hb5
          have hsz5 : w1.heap.size < w5.heap.size := by have := hb5.size; omega
          clear hx5 hb5 hbr1 hsa
          go_wp2
          go_roundw
          case rel => exact ⟨k + 1, l2, by omega, by go_num, hl2, HR2, HX5, hbr5, hsz5⟩
          case measure => simp [intOf]; omega
      · obtain rfl : k = ss.length := by omega
        have hru := HR.out
        rw [List.drop_eq_nil_of_le (Nat.le_refl _)] at hru
        unfold runT at hru
        injection hru with hru
        subst hru
        have hTr := tree_below HT.out hbr
        have HTR := Lib.hid hTr
        clear HR hTr
        go_wp2_with fail
        ((with_reducible refine (mk_tree w1.heap.size _ _ t _ HX.out).mono ?_); rintro e w4 ⟨⟨g4, rfl, hT4⟩, hb4⟩)
        have HT4 := Lib.hid hT4
        have HTR4 := Lib.hid (tree_below HTR.out hb4)
        have HX4 := Lib.hid (HX.out.below hb4)
        have hbw4 := hbwr.trans (hb4.mono hbwr.size)
        clear hT4 hb4 HX HTR hbwr
        go_wp2_with fail
        ((with_reducible refine (tsame_any _ _ g4 g t t _ HT4.out HTR4.out HOK.out.1 HOK.out.1).mono ?_); rintro e w6 ⟨rfl, hb6⟩)
        rw [eqT_refl t HOK.out.1]
        have HX6 := Lib.hid (HX4.out.below hb6)
        have hbw6 := hbw4.trans (hb6.mono hbw4.size)
        clear hb6 hbw4 HX4
        obtain ⟨A6, q6, hB6⟩ := HX6.out.slice
        have HB6 := Lib.hid hB6
        clear hB6
        go_wp2_with fail
        ((with_reducible refine (mlen_any _ _ _ _ _ _ HB6.out).mono ?_); rintro e w7 ⟨rfl, rfl⟩)
        go_wp2
        go_ret
        exact ⟨rfl, hbw6⟩
end Nd
end Go.Proofs.YtfhfkggkbeahbaaGreat
