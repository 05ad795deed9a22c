/-
  The law AskTells: its start.
-/
import Derived.Test.YtlailcmhpnnidaaGreatDoorS33
set_option linter.unusedVariables false
set_option linter.unusedSimpArgs false
set_option maxRecDepth 100000
set_option maxHeartbeats 16000000
namespace Go.Proofs.YtlailcmhpnnidaaGreatDoor
open Go.RowKit Mem Utf Ref3 Idx Tok TokC
namespace Nd
theorem look_le (t : Tr) (l : List UInt8) : lookK (some t) l ≤ 8 := by
 unfold lookK
 dsimp only
 cases parseS (wrong l) l with
 | error x => exact Nat.le_refl _
 | ok ts =>
  dsimp only
  cases leadT t ts 0 with
  | inl n => dsimp only; omega
  | inr u => dsimp only; cases u <;> simp [Tr.srt]
theorem wrong14_any (n : Int) (w : World) : Calls Tryz.prog 14 #[.int .i64 n, .int .i64 1] w (BoolR (!decide (1 ≤ n ∧ n ≤ 11)) w) := by
 by_cases h1 : n < 1
 ·have e : decide (1 ≤ n ∧ n ≤ 11) = false := decide_eq_false (by omega)
  rw [e]
  exact wrong14_lo n h1 w
 ·by_cases h2 : n ≤ 11
  ·have e : decide (1 ≤ n ∧ n ≤ 11) = true := decide_eq_true (by omega)
   rw [e]
   exact wrong14_no n (by omega) h2 w
  ·have e : decide (1 ≤ n ∧ n ≤ 11) = false := decide_eq_false (by omega)
   rw [e]
   exact wrong14_hi n (by omega) w
theorem tells_none (v : Value) (l : List UInt8) (n : Int) (ss : List Stp) (w : World) (hS : RdS w v ss) (hF : ∀ s ∈ ss, s.Fine) (hC : ∀ s ∈ ss, s.Cnt) (hn : ss.length ≤ 1048576) (hl : l.length ≤ 2097152) (hG : Glob w) (hT : Tab w) (x : Int × Int) (hb : buildT ss = .inl x) : Calls Tryz.prog 4 #[v, .string ⟨l.toArray⟩, .int .i64 n] w (TrueT w) := by
 obtain ⟨vA, vc, rfl, _⟩ := id hS
 have HM := Lib.hid (made_law _ ss _ hS hF hC hn)
 have HF := Lib.hid hF
 have HL := Lib.hid hl
 have HG := Lib.hid hG
 have HT := Lib.hid hT
 have HBT := Lib.hid hb
 clear hS hF hC hl hG hT hn hb
 go_enter Tryz.func4, Tryz.ntmps4
 go_wp2_with fail
 (refine HM.out.mono ?_; rintro e w1 ⟨hb1, he⟩)
 rw [HBT.out] at he
 obtain rfl := he
 have hb2 := hb1.alloc hb1.size (.cells #[.int .i64 0, .bool false, .int .u64 0, .string ⟨#[]⟩, .slice none 0 0, .slice none 0 0] 28)
 have HB := Lib.hid hb2
 have HG2 := Lib.hid (HG.out.next hb2)
 have HT2 := Lib.hid (HT.out.next hb2)
 have hBK := Blk.new w1 28 #[.int .i64 0, .bool false, .int .u64 0, .string ⟨#[]⟩, .slice none 0 0, .slice none 0 0]
 have y0 := hBK.cell 0
 have y1 := hBK.cell 1
 have y2 := hBK.cell 2
 have y3 := hBK.cell 3
 have y4 := hBK.cell 4
 have y5 := hBK.cell 5
 simp only [List.getElem?_toArray, List.getElem?_cons_zero, List.getElem?_cons_succ] at y0 y1 y2 y3 y4 y5
 have hwb : wantB 0 n = false := by unfold wantB holdB; simp
 have HWB := Lib.hid hwb
 clear hb1 hb2 hBK hwb HG HT
 go_upto_region 2 with fail
 generalize (w1.alloc (.cells #[.int .i64 0, .bool false, .int .u64 0, .string ⟨#[]⟩, .slice none 0 0, .slice none 0 0] 28)) = w2 at *
 go_wp2_with fail
 clear y0 y1 y2 y3 y4 y5
 ((with_reducible refine (told14_no 0 false 0 ⟨#[]⟩ none none 0 0 0 0 ⟨l.toArray⟩ w2).mono ?_); rintro e w3 ⟨rfl, hb3⟩)
 have HB3 := Lib.hid (HB.out.trans (hb3.mono HB.out.size))
 have HG3 := Lib.hid (HG2.out.next hb3)
 have HT3 := Lib.hid (HT2.out.next hb3)
 clear hb3 HB HG2 HT2
 go_upto_region 3 with fail
 go_cut [11] (fun c11 wx => c11 = .bool false ∧ wx = w3)
 case rest =>
  obtain ⟨rfl, rfl⟩ := hcut
  go_wp2_with fail
  ((with_reducible refine (tell_nil l _ n).mono ?_); rintro e w4 ⟨rfl, hb4⟩)
  have HB4 := Lib.hid (HB3.out.trans (hb4.mono HB3.out.size))
  have HG4 := Lib.hid (HG3.out.next hb4)
  have HT4 := Lib.hid (HT3.out.next hb4)
  clear hb4 HB3 HG3 HT3
  go_wp2_with fail
  ((with_reducible refine (size_nil l w4).mono ?_); rintro e w5 ⟨rfl, hb5⟩)
  have HB5 := Lib.hid (HB4.out.trans (hb5.mono HB4.out.size))
  have HG5 := Lib.hid (HG4.out.next hb5)
  have HT5 := Lib.hid (HT4.out.next hb5)
  clear hb5 HB4 HG4 HT4
  go_wp2_with fail
  ((with_reducible refine (works_any _ HG5.out HT5.out).mono ?_); rintro e w9 ⟨rfl, hb9⟩)
  have HZ := Lib.hid (HB5.out.trans (hb9.mono HB5.out.size))
  clear hb9
  go_wp2
  go_ret
  exact ⟨rfl, HZ.out⟩
 by_cases hr : 1 ≤ n ∧ n ≤ 11
 ·obtain ⟨m, rfl⟩ : ∃ m : Nat, n = (m : Int) := ⟨n.toNat, by omega⟩
  have HR := Lib.hid hr
  have hhb : holdB 0 m = false := by unfold holdB; simp
  have HH0 : Hid (∀ W, Calls Tryz.prog 15 #[.int .i64 0, .int .i64 (m : Nat)] W (BoolR (holdB 0 m) W)) := Lib.hid fun W => holds14 0 m (by decide) (by omega) W
  clear hr
  go_wp2_with fail
  ((with_reducible refine (wrong14_no (m : Int) HR.out.1 HR.out.2 _).mono ?_); rintro e w4 ⟨rfl, rfl⟩)
  go_wp2_with fail
  ((with_reducible refine (HH0.out _).mono ?_); rintro e w4 ⟨rfl, rfl⟩)
  rw [hhb]
  clear HR hhb
  go_wp2_with fail
  go_meet
  exact ⟨rfl, rfl⟩
 ·have HW := Lib.hid (decide_eq_false hr)
  clear hr
  go_wp2_with fail
  ((with_reducible refine (wrong14_any n _).mono ?_); rintro e w4 ⟨rfl, rfl⟩)
  rw [HW.out]
  clear HW
  go_wp2_with fail
  go_meet
  exact ⟨rfl, rfl⟩
theorem tells_some (v : Value) (l : List UInt8) (n : Int) (ss : List Stp) (w : World) (hS : RdS w v ss) (hF : ∀ s ∈ ss, s.Fine) (hC : ∀ s ∈ ss, s.Cnt) (hn : ss.length ≤ 1048576) (hl : l.length ≤ 2097152) (hG : Glob w) (hT : Tab w) (t : Tr) (hb : buildT ss = .inr t) : Calls Tryz.prog 4 #[v, .string ⟨l.toArray⟩, .int .i64 n] w (TrueT w) := by
 obtain ⟨vA, vc, rfl, _⟩ := id hS
 have HM := Lib.hid (made_law _ ss _ hS hF hC hn)
 have HF := Lib.hid hF
 have HL := Lib.hid hl
 have HG := Lib.hid hG
 have HT := Lib.hid hT
 have HBT := Lib.hid hb
 clear hS hF hC hl hG hT hn hb
 go_enter Tryz.func4, Tryz.ntmps4
 go_wp2_with fail
 (refine HM.out.mono ?_; rintro e w1 ⟨hb1, he⟩)
 rw [HBT.out] at he
 obtain ⟨g, A, c, K, d, rfl, hrv, hTA⟩ := he
 obtain ⟨_, hfit, tv, hblk, hrd0⟩ := hTA
 have hba : Below w1.heap.size w1 (w1.alloc (.cells #[.int .i64 (t.srt : Nat), .bool t.fl, .int .u64 (t.bi : Nat), .string ⟨t.tx.toArray⟩, .slice A t.kids.length c, .slice K t.kn.length d] 28)) := (Below.refl _ _).alloc (Nat.le_refl _) _
 have HE : Hid (TlE l t g tv A c K d w1.heap.size w w1 (w1.alloc (.cells #[.int .i64 (t.srt : Nat), .bool t.fl, .int .u64 (t.bi : Nat), .string ⟨t.tx.toArray⟩, .slice A t.kids.length c, .slice K t.kn.length d] 28))) := Lib.hid ⟨hblk, RdT.toA hrd0, hrv, hba, (buildT_ok HF.out HBT.out).1, hfit, HL.out, (HG.out.next hb1).next hba, (HT.out.next hb1).next hba, Blk.new w1 28 _, hb1.trans (hba.mono hb1.size)⟩
 clear hb1 hba hblk hrd0 hrv HM HG HT HL
 go_upto_region 2 with fail
 generalize (w1.alloc (.cells #[.int .i64 (t.srt : Nat), .bool t.fl, .int .u64 (t.bi : Nat), .string ⟨t.tx.toArray⟩, .slice A t.kids.length c, .slice K t.kn.length d] 28)) = w2 at *
 have y0 := HE.out.box.cell 0
 have y1 := HE.out.box.cell 1
 have y2 := HE.out.box.cell 2
 have y3 := HE.out.box.cell 3
 have y4 := HE.out.box.cell 4
 have y5 := HE.out.box.cell 5
 simp at y0 y1 y2 y3 y4 y5
 go_wp2_with fail
 clear y0 y1 y2 y3 y4 y5
 ((with_reducible refine (told14_yes t A c K d l w1 w2 HE.out.rv HE.out.bw1 HE.out.ok HE.out.fit (by have := HE.out.len; omega)).mono ?_); rintro e w3 ⟨rfl, hb3⟩)
 replace HE := Lib.hid (HE.out.step hb3)
 obtain ⟨k, hk⟩ : ∃ k, lookK (some t) l = k := ⟨_, rfl⟩
 rw [hk]
 have HK := Lib.hid hk
 obtain ⟨b, hbw⟩ : ∃ b, wantB k n = b := ⟨_, rfl⟩
 have HW := Lib.hid hbw
 clear hb3 hk hbw
 go_upto_region 3 with fail
 go_cut [11] (fun c11 wx => c11 = .bool b ∧ wx = w3)
 case rest =>
  obtain ⟨rfl, rfl⟩ := hcut
  go_wp2_with fail
  ((with_reducible refine (tell_some g t tv l w1 _ HE.out.blk HE.out.rd HE.out.bw1 HE.out.ok HE.out.fit (by have := HE.out.len; omega) HE.out.glob HE.out.tab n).mono ?_); rintro e w4 ⟨y, hq, rfl⟩)
  rw [HK.out, HW.out]
  replace HE := Lib.hid (HE.out.step hq.2)
  have HQ := Lib.hid hq.1
  clear hq
  have HCA : Hid (∀ (W : World), TlE l t g tv A c K d w1.heap.size w w1 W → ∀ (z0 z2 z3 z4 z5 z6 z9 z11 z12 z13 z14 z15 z16 z17 z18 z19 z20 z21 z22 z23 z24 z25 z26 z27 z28 z29 z30 z31 z32 z33 z34 z35 z36 z37 z38 z39 z40 z41 z42 z43 z44 z45 z46 z47 z48 z49 z50 z51 z52 z53 z54 z55 z56 z57 z58 z59 z60 z61 z62 z63 z64 z65 z66 z67 z68 z69 z70 z71 z72 z73 z74 z75 z76 z77 z78 z79 z80 z81 z82 z83 z84 z85 z86 z87 z88 z89 z90 z91 z92 z93 z94 z95 z96 z97 z98 z99 z100 z101 z102 z103 z104 z105 z106 z107 z108 z109 z110 z111 z112 z113 z114 z115 z116 z117 z118 z119 z120 z121 z122 z123 z124 z125 z126 z127 z128 z129 z130 z131 z132 z133 z134 z135 z136 z137 z138 z139 z140 z141 z142 z143 z144 z145 z146 z147 z148 z149 z150 z151 z152 z153 z154 z155 z156 z157 z158 z159 z160 z161 z162 z163 z164 z165 z166 z167 z168 z169 z170 z171 z172 z173 z174 z175 : Value), Code.wp Tryz.prog tlTailC (bodyPost Tryz.prog Tryz.f4 (TrueT w)) { tmps := (z0 :: .string ⟨l.toArray⟩ :: z2 :: z3 :: z4 :: z5 :: z6 :: .pointer (some ⟨g, 0, none⟩) :: .pointer (some ⟨w1.heap.size, 0, none⟩) :: z9 :: .int .i64 (k : Nat) :: z11 :: z12 :: z13 :: z14 :: z15 :: z16 :: z17 :: z18 :: z19 :: z20 :: z21 :: z22 :: z23 :: z24 :: z25 :: z26 :: z27 :: z28 :: z29 :: z30 :: z31 :: z32 :: z33 :: z34 :: z35 :: z36 :: z37 :: z38 :: z39 :: z40 :: z41 :: z42 :: z43 :: z44 :: z45 :: z46 :: z47 :: z48 :: z49 :: z50 :: z51 :: z52 :: z53 :: z54 :: z55 :: z56 :: z57 :: z58 :: z59 :: z60 :: z61 :: z62 :: z63 :: z64 :: z65 :: z66 :: z67 :: z68 :: z69 :: z70 :: z71 :: z72 :: z73 :: z74 :: z75 :: z76 :: z77 :: z78 :: z79 :: z80 :: z81 :: z82 :: z83 :: z84 :: z85 :: z86 :: z87 :: z88 :: z89 :: z90 :: z91 :: z92 :: z93 :: z94 :: z95 :: z96 :: z97 :: z98 :: z99 :: z100 :: z101 :: z102 :: z103 :: z104 :: z105 :: z106 :: z107 :: z108 :: z109 :: z110 :: z111 :: z112 :: z113 :: z114 :: z115 :: z116 :: z117 :: z118 :: z119 :: z120 :: z121 :: z122 :: z123 :: z124 :: z125 :: z126 :: z127 :: z128 :: z129 :: z130 :: z131 :: z132 :: z133 :: z134 :: z135 :: z136 :: z137 :: z138 :: z139 :: z140 :: z141 :: z142 :: z143 :: z144 :: z145 :: z146 :: z147 :: z148 :: z149 :: z150 :: z151 :: z152 :: z153 :: z154 :: z155 :: z156 :: z157 :: z158 :: z159 :: z160 :: z161 :: z162 :: z163 :: z164 :: z165 :: z166 :: z167 :: z168 :: z169 :: z170 :: z171 :: z172 :: z173 :: z174 :: z175 :: []).toArray, defers := [] } W) := Lib.hid fun W h => by intros; exact tc_any l t g tv A c K d w1.heap.size w w1 W k h HK.out _ _ _ _ _ _ _ _ _ _ _ _ _ _ _ _ _ _ _ _ _ _ _ _ _ _ _ _ _ _ _ _ _ _ _ _ _ _ _ _ _ _ _ _ _ _ _ _ _ _ _ _ _ _ _ _ _ _ _ _ _ _ _ _ _ _ _ _ _ _ _ _ _ _ _ _ _ _ _ _ _ _ _ _ _ _ _ _ _ _ _ _ _ _ _ _ _ _ _ _ _ _ _ _ _ _ _ _ _ _ _ _ _ _ _ _ _ _ _ _ _ _ _ _ _ _ _ _ _ _ _ _ _ _ _ _ _ _ _ _ _ _ _ _ _ _ _ _ _ _ _ _ _ _ _ _ _ _ _ _ _ _ _ _ _ _ _ _ _ _ _ _
  cases b with
  | false =>
   have q1 : ∀ W, (binOp .neq 35 .nilIface .nilIface).run Tryz.prog W = .ok (.bool false) W := fun W => by kernel_rfl
   unfold TellV
   rw [if_neg (by decide)]
   go_upto_if 63 with fail
   go_cut [] (fun wx => wx = w4)
   case rest =>
    subst hcut
    go_step
    exact ta_skip l t g tv A c K d w1.heap.size w w1 _ k false .nilIface (.inr rfl) (fun z0 z2 z3 z4 z5 z6 z9 z11 z14 z15 z16 z17 z18 z19 z20 z21 z22 z23 z24 z25 z26 z27 z28 z29 z30 z31 z32 z33 z34 z35 z36 z37 z38 z39 z40 z41 z42 z43 z44 z45 z46 z47 z48 z49 z50 z51 z52 z53 z54 z55 z56 z57 z58 z59 z60 z61 z62 z63 z64 z65 z66 z67 z68 z69 z70 z71 z72 z73 z74 z75 z76 z77 z78 z79 z80 z81 z82 z83 z84 z85 z86 z87 z88 z89 z90 z91 z92 z93 z94 z95 z96 z97 z98 z99 z100 z101 z102 z103 z104 z105 z106 z107 z108 z109 z110 z111 z112 z113 z114 z115 z116 z117 z118 z119 z120 z121 z122 z123 z124 z125 z126 z127 z128 z129 z130 z131 z132 z133 z134 z135 z136 z137 z138 z139 z140 z141 z142 z143 z144 z145 z146 z147 z148 z149 z150 z151 z152 z153 z154 z155 z156 z157 z158 z159 z160 z161 z162 z163 z164 z165 z166 z167 z168 z169 z170 z171 z172 z173 z174 z175 => tb_skip l t g tv A c K d w1.heap.size w w1 _ k false HE.out (.inr rfl) HCA.out _ _ _ _ _ _ _ _ _ _ _ _ _ _ _ _ _ _ _ _ _ _ _ _ _ _ _ _ _ _ _ _ _ _ _ _ _ _ _ _ _ _ _ _ _ _ _ _ _ _ _ _ _ _ _ _ _ _ _ _ _ _ _ _ _ _ _ _ _ _ _ _ _ _ _ _ _ _ _ _ _ _ _ _ _ _ _ _ _ _ _ _ _ _ _ _ _ _ _ _ _ _ _ _ _ _ _ _ _ _ _ _ _ _ _ _ _ _ _ _ _ _ _ _ _ _ _ _ _ _ _ _ _ _ _ _ _ _ _ _ _ _ _ _ _ _ _ _ _ _ _ _ _ _ _ _ _ _ _ _ _ _ _ _ _ _ _ _ _ _ _) _ _ _ _ _ _ _ _ _ _ _ _ _ _ _ _ _ _ _ _ _ _ _ _ _ _ _ _ _ _ _ _ _ _ _ _ _ _ _ _ _ _ _ _ _ _ _ _ _ _ _ _ _ _ _ _ _ _ _ _ _ _ _ _ _ _ _ _ _ _ _ _ _ _ _ _ _ _ _ _ _ _ _ _ _ _ _ _ _ _ _ _ _ _ _ _ _ _ _ _ _ _ _ _ _ _ _ _ _ _ _ _ _ _ _ _ _ _ _ _ _ _ _ _ _ _ _ _ _ _ _ _ _ _ _ _ _ _ _ _ _ _ _ _ _ _ _ _ _ _ _ _ _ _ _ _ _ _ _ _ _ _ _ _ _ _ _ _ _ _
   go_wp2_with fail
   go_meet
   exact rfl
  | true =>
   unfold TellV
   rw [if_pos rfl]
   have hk0 := HK.out
   unfold lookK at hk0
   dsimp only at hk0
   have hq := HQ.out
   cases hp : parseS (wrong l) l with
   | error x =>
    rw [hp] at hk0 hq
    dsimp only at hk0 hq
    injection hq with hq
    subst hq
    subst hk0
    have HP := Lib.hid hp
    clear hp
    go_upto_if 63 with fail
    go_cut [] (fun wx => wx = w4)
    case rest =>
     subst hcut
     go_step
     exact ta_skip l t g tv A c K d w1.heap.size w w1 _ 8 true _ (.inl (by decide)) (fun z0 z2 z3 z4 z5 z6 z9 z11 z14 z15 z16 z17 z18 z19 z20 z21 z22 z23 z24 z25 z26 z27 z28 z29 z30 z31 z32 z33 z34 z35 z36 z37 z38 z39 z40 z41 z42 z43 z44 z45 z46 z47 z48 z49 z50 z51 z52 z53 z54 z55 z56 z57 z58 z59 z60 z61 z62 z63 z64 z65 z66 z67 z68 z69 z70 z71 z72 z73 z74 z75 z76 z77 z78 z79 z80 z81 z82 z83 z84 z85 z86 z87 z88 z89 z90 z91 z92 z93 z94 z95 z96 z97 z98 z99 z100 z101 z102 z103 z104 z105 z106 z107 z108 z109 z110 z111 z112 z113 z114 z115 z116 z117 z118 z119 z120 z121 z122 z123 z124 z125 z126 z127 z128 z129 z130 z131 z132 z133 z134 z135 z136 z137 z138 z139 z140 z141 z142 z143 z144 z145 z146 z147 z148 z149 z150 z151 z152 z153 z154 z155 z156 z157 z158 z159 z160 z161 z162 z163 z164 z165 z166 z167 z168 z169 z170 z171 z172 z173 z174 z175 => tb_gone l t g tv A c K d w1.heap.size w w1 _ x HE.out HP.out HCA.out _ _ _ _ _ _ _ _ _ _ _ _ _ _ _ _ _ _ _ _ _ _ _ _ _ _ _ _ _ _ _ _ _ _ _ _ _ _ _ _ _ _ _ _ _ _ _ _ _ _ _ _ _ _ _ _ _ _ _ _ _ _ _ _ _ _ _ _ _ _ _ _ _ _ _ _ _ _ _ _ _ _ _ _ _ _ _ _ _ _ _ _ _ _ _ _ _ _ _ _ _ _ _ _ _ _ _ _ _ _ _ _ _ _ _ _ _ _ _ _ _ _ _ _ _ _ _ _ _ _ _ _ _ _ _ _ _ _ _ _ _ _ _ _ _ _ _ _ _ _ _ _ _ _ _ _ _ _ _ _ _ _ _ _ _ _ _ _ _ _) _ _ _ _ _ _ _ _ _ _ _ _ _ _ _ _ _ _ _ _ _ _ _ _ _ _ _ _ _ _ _ _ _ _ _ _ _ _ _ _ _ _ _ _ _ _ _ _ _ _ _ _ _ _ _ _ _ _ _ _ _ _ _ _ _ _ _ _ _ _ _ _ _ _ _ _ _ _ _ _ _ _ _ _ _ _ _ _ _ _ _ _ _ _ _ _ _ _ _ _ _ _ _ _ _ _ _ _ _ _ _ _ _ _ _ _ _ _ _ _ _ _ _ _ _ _ _ _ _ _ _ _ _ _ _ _ _ _ _ _ _ _ _ _ _ _ _ _ _ _ _ _ _ _ _ _ _ _ _ _ _ _ _ _ _ _ _ _ _ _
    go_wp2_with fail
    go_meet
    exact rfl
   | ok ts =>
    rw [hp] at hk0 hq
    dsimp only at hk0 hq
    cases hle : leadT t ts 0 with
    | inl m =>
     rw [hle] at hk0 hq
     obtain ⟨gl, hy, hLo⟩ := hq
     injection hy with hy
     subst hy
     dsimp only at hk0
     subst hk0
     have HP := Lib.hid (And.intro hp hle)
     have HLo := Lib.hid hLo
     clear hp hle hLo
     go_upto_if 63 with fail
     go_cut [] (fun wx => wx = w4)
     case rest =>
      subst hcut
      go_step
      exact ta_skip l t g tv A c K d w1.heap.size w w1 _ 7 true _ (.inl (by decide)) (fun z0 z2 z3 z4 z5 z6 z9 z11 z14 z15 z16 z17 z18 z19 z20 z21 z22 z23 z24 z25 z26 z27 z28 z29 z30 z31 z32 z33 z34 z35 z36 z37 z38 z39 z40 z41 z42 z43 z44 z45 z46 z47 z48 z49 z50 z51 z52 z53 z54 z55 z56 z57 z58 z59 z60 z61 z62 z63 z64 z65 z66 z67 z68 z69 z70 z71 z72 z73 z74 z75 z76 z77 z78 z79 z80 z81 z82 z83 z84 z85 z86 z87 z88 z89 z90 z91 z92 z93 z94 z95 z96 z97 z98 z99 z100 z101 z102 z103 z104 z105 z106 z107 z108 z109 z110 z111 z112 z113 z114 z115 z116 z117 z118 z119 z120 z121 z122 z123 z124 z125 z126 z127 z128 z129 z130 z131 z132 z133 z134 z135 z136 z137 z138 z139 z140 z141 z142 z143 z144 z145 z146 z147 z148 z149 z150 z151 z152 z153 z154 z155 z156 z157 z158 z159 z160 z161 z162 z163 z164 z165 z166 z167 z168 z169 z170 z171 z172 z173 z174 z175 => tb_lost l t g tv A c K d w1.heap.size w w1 _ ts m gl HE.out HLo.out HP.out HCA.out _ _ _ _ _ _ _ _ _ _ _ _ _ _ _ _ _ _ _ _ _ _ _ _ _ _ _ _ _ _ _ _ _ _ _ _ _ _ _ _ _ _ _ _ _ _ _ _ _ _ _ _ _ _ _ _ _ _ _ _ _ _ _ _ _ _ _ _ _ _ _ _ _ _ _ _ _ _ _ _ _ _ _ _ _ _ _ _ _ _ _ _ _ _ _ _ _ _ _ _ _ _ _ _ _ _ _ _ _ _ _ _ _ _ _ _ _ _ _ _ _ _ _ _ _ _ _ _ _ _ _ _ _ _ _ _ _ _ _ _ _ _ _ _ _ _ _ _ _ _ _ _ _ _ _ _ _ _ _ _ _ _ _ _ _ _ _ _ _ _) _ _ _ _ _ _ _ _ _ _ _ _ _ _ _ _ _ _ _ _ _ _ _ _ _ _ _ _ _ _ _ _ _ _ _ _ _ _ _ _ _ _ _ _ _ _ _ _ _ _ _ _ _ _ _ _ _ _ _ _ _ _ _ _ _ _ _ _ _ _ _ _ _ _ _ _ _ _ _ _ _ _ _ _ _ _ _ _ _ _ _ _ _ _ _ _ _ _ _ _ _ _ _ _ _ _ _ _ _ _ _ _ _ _ _ _ _ _ _ _ _ _ _ _ _ _ _ _ _ _ _ _ _ _ _ _ _ _ _ _ _ _ _ _ _ _ _ _ _ _ _ _ _ _ _ _ _ _ _ _ _ _ _ _ _ _ _ _ _ _
     go_wp2_with fail
     go_meet
     exact rfl
    | inr u =>
     rw [hle] at hk0 hq
     dsimp only at hk0
     obtain ⟨x, hy, hTd⟩ := hq
     injection hy with hy
     subst hy
     obtain ⟨T1, U1, rfl⟩ := TdT.iface hTd
     have HTd := Lib.hid hTd
     have HP := Lib.hid (And.intro hk0 (And.intro hp hle))
     have HS : Hid (k < 7) := Lib.hid (by rw [← hk0]; cases u <;> simp [Tr.srt])
     clear hk0 hp hle hTd
     go_upto_if 63 with fail
     go_cut [] (fun wx => wx = w4)
     case rest =>
      subst hcut
      go_step
      exact ta_some l t g tv A c K d w1.heap.size w w1 _ k u T1 U1 ts HE.out HP.out HTd.out (fun W h z0 z2 z3 z4 z5 z6 z9 z11 z14 z15 z16 z17 z18 z19 z20 z21 z22 z23 z24 z25 z26 z27 z28 z29 z30 z31 z32 z33 z34 z35 z36 z37 z38 z39 z40 z41 z42 z43 z44 z45 z46 z47 z48 z49 z50 z51 z52 z53 z54 z55 z56 z57 z58 z59 z60 z61 z62 z63 z64 z65 z66 z67 z68 z69 z70 z71 z72 z73 z74 z75 z76 z77 z78 z79 z80 z81 z82 z83 z84 z85 z86 z87 z88 z89 z90 z91 z92 z93 z94 z95 z96 z97 z98 z99 z100 z101 z102 z103 z104 z105 z106 z107 z108 z109 z110 z111 z112 z113 z114 z115 z116 z117 z118 z119 z120 z121 z122 z123 z124 z125 z126 z127 z128 z129 z130 z131 z132 z133 z134 z135 z136 z137 z138 z139 z140 z141 z142 z143 z144 z145 z146 z147 z148 z149 z150 z151 z152 z153 z154 z155 z156 z157 z158 z159 z160 z161 z162 z163 z164 z165 z166 z167 z168 z169 z170 z171 z172 z173 z174 z175 => tb_skip l t g tv A c K d w1.heap.size w w1 W k true h (.inl HS.out) HCA.out _ _ _ _ _ _ _ _ _ _ _ _ _ _ _ _ _ _ _ _ _ _ _ _ _ _ _ _ _ _ _ _ _ _ _ _ _ _ _ _ _ _ _ _ _ _ _ _ _ _ _ _ _ _ _ _ _ _ _ _ _ _ _ _ _ _ _ _ _ _ _ _ _ _ _ _ _ _ _ _ _ _ _ _ _ _ _ _ _ _ _ _ _ _ _ _ _ _ _ _ _ _ _ _ _ _ _ _ _ _ _ _ _ _ _ _ _ _ _ _ _ _ _ _ _ _ _ _ _ _ _ _ _ _ _ _ _ _ _ _ _ _ _ _ _ _ _ _ _ _ _ _ _ _ _ _ _ _ _ _ _ _ _ _ _ _ _ _ _ _ _) _ _ _ _ _ _ _ _ _ _ _ _ _ _ _ _ _ _ _ _ _ _ _ _ _ _ _ _ _ _ _ _ _ _ _ _ _ _ _ _ _ _ _ _ _ _ _ _ _ _ _ _ _ _ _ _ _ _ _ _ _ _ _ _ _ _ _ _ _ _ _ _ _ _ _ _ _ _ _ _ _ _ _ _ _ _ _ _ _ _ _ _ _ _ _ _ _ _ _ _ _ _ _ _ _ _ _ _ _ _ _ _ _ _ _ _ _ _ _ _ _ _ _ _ _ _ _ _ _ _ _ _ _ _ _ _ _ _ _ _ _ _ _ _ _ _ _ _ _ _ _ _ _ _ _ _ _ _ _ _ _ _ _ _ _ _ _ _ _ _
     go_wp2_with fail
     go_meet
     exact rfl
 by_cases hr : 1 ≤ n ∧ n ≤ 11
 ·obtain ⟨m, rfl⟩ : ∃ m : Nat, n = (m : Int) := ⟨n.toNat, by omega⟩
  have HR := Lib.hid hr
  have hhb : holdB k m = b := by
   have := HW.out
   unfold wantB at this
   rw [decide_eq_true hr, Bool.true_and, Int.toNat_natCast] at this
   exact this
  have HK8 : Hid (k ≤ 8) := Lib.hid (by rw [← HK.out]; exact look_le t l)
  clear hr HW
  go_wp2_with fail
  ((with_reducible refine (wrong14_no (m : Int) HR.out.1 HR.out.2 _).mono ?_); rintro e w4 ⟨rfl, rfl⟩)
  go_wp2_with fail
  ((with_reducible refine (holds14 k m HK8.out (by have := HR.out; omega) _).mono ?_); rintro e w4 ⟨rfl, rfl⟩)
  rw [hhb]
  clear HR hhb
  go_wp2_with fail
  go_meet
  exact ⟨rfl, rfl⟩
 ·have hbf : b = false := by rw [← HW.out]; unfold wantB; rw [decide_eq_false hr]; rfl
  subst hbf
  have HX := Lib.hid (decide_eq_false hr)
  clear hr HW
  go_wp2_with fail
  ((with_reducible refine (wrong14_any n _).mono ?_); rintro e w4 ⟨rfl, rfl⟩)
  rw [HX.out]
  clear HX
  go_wp2_with fail
  go_meet
  exact ⟨rfl, rfl⟩
theorem tells_any (v : Value) (l : List UInt8) (n : Int) (ss : List Stp) (w : World) (hS : RdS w v ss) (hF : ∀ s ∈ ss, s.Fine) (hC : ∀ s ∈ ss, s.Cnt) (hn : ss.length ≤ 1048576) (hl : l.length ≤ 2097152) (hG : Glob w) (hT : Tab w) : Calls Tryz.prog 4 #[v, .string ⟨l.toArray⟩, .int .i64 n] w (TrueT w) := by
 cases hb : buildT ss with
 | inl x => exact tells_none v l n ss w hS hF hC hn hl hG hT x hb
 | inr t => exact tells_some v l n ss w hS hF hC hn hl hG hT t hb
end Nd
end Go.Proofs.YtlailcmhpnnidaaGreatDoor
