/-
  The law ClaimsReads: its end; what was read is spoiled.
-/
import Derived.Test.YtobaldkipnhlpaaGreatDoorS42
set_option linter.unusedVariables false
set_option linter.unusedSimpArgs false
set_option maxRecDepth 100000
set_option maxHeartbeats 16000000
namespace Go.Proofs.YtobaldkipnhlpaaGreatDoor
open Go.RowKit Mem Utf Ref3 Idx Tok TokC Cl
namespace Nd
noncomputable def rdTail18 : Code := nextOf (nextOf (nextOf (nextOf (nextOf (nextOf (nextOf (nextOf (nextOf (nextOf (nextOf (nextOf (nextOf (Tryz.f3.body.getD .skip)))))))))))))
noncomputable def rdTail27 : Code := nextOf (nextOf (nextOf (nextOf (nextOf (nextOf (nextOf (nextOf (nextOf (nextOf (nextOf (nextOf (nextOf (nextOf (Tryz.f3.body.getD .skip))))))))))))))
theorem rd_end (c : C) (r : R) (U1 U2 U3 D0 D4 D7 : Option Addr) (j1 j2 j3 D0q D4q D7q : Nat) (y x4 x7 vt : Value) (gC gW gD Bv : Nat) (w W : World) (hR : RuAt W r (.slice U1 r.by_.length j1) (.slice U2 r.need.length j2) (.slice U3 r.may_.length j3)) (hBR : Blk W w.heap.size 25 #[.int .i64 r.now, .int .i64 r.slack, .string ⟨r.who.toArray⟩, .slice U1 r.by_.length j1, .slice U2 r.need.length j2, .slice U3 r.may_.length j3]) (hB : Below w.heap.size w W) (hW : Blk W gW 58 (dCells (is c) c x4 x7)) (hX : ClAt W c y x4 x7) (hD : Blk W gD 38 #[.slice D0 c.has.length D0q, .string ⟨c.about.toArray⟩, .int .i64 c.at_, .string ⟨c.by_.toArray⟩, .slice D4 c.for_.length D4q, .int .i64 c.from_, .string ⟨c.id_.toArray⟩, .slice D7 c.may_.length D7q, .int .i64 c.until_]) (hDA : ClAt W c (.slice D0 c.has.length D0q) (.slice D4 c.for_.length D4q) (.slice D7 c.may_.length D7q)) (hV : VerdV Bv W vt (judgeP c r)) (hm : mayB c = true) (z0 z1 z2 z4 z5 z6 z7 z8 z10 z12 z13 z15 z17 z18 z19 z20 z21 z22 z23 z24 z25 z26 z27 z28 z29 z30 z31 z32 z33 z34 z35 z36 z37 z38 z39 z40 z41 z42 z43 z44 z45 z46 z47 z48 z49 z50 z51 z52 z53 z54 z55 z56 z57 z58 z59 z60 z61 z62 z63 z64 z65 z66 z67 z68 z69 z70 z71 z72 z73 z74 z75 z76 z77 z78 z79 z80 z81 z82 z83 z84 z85 z86 z87 z88 z89 z90 z91 z92 z93 z94 z95 z96 z97 z98 z99 z100 z101 z102 z103 z104 z105 z106 z107 z108 z109 z110 z111 z112 z113 z114 z115 z116 z117 z118 z119 z120 z121 z122 z123 z124 z125 z126 z127 z128 z129 z130 z131 z132 z133 z134 z135 z136 z137 z138 z139 z140 z141 z142 z143 z144 z145 z146 z147 z148 z149 z150 z151 z152 z153 z154 z155 z156 z157 z158 z159 z160 z161 z162 z163 z164 z165 z166 z167 z168 z169 z170 z171 z172 z173 z174 z175 z176 z177 z178 z179 z180 z181 z182 z183 z184 z185 z186 z187 z188 z189 : Value) :
  Code.wp Tryz.prog rdTail27 (bodyPost Tryz.prog Tryz.f3 (TrueC w)) { tmps := (z0 :: z1 :: z2 :: .pointer (some ⟨w.heap.size, 0, none⟩) :: z4 :: z5 :: z6 :: z7 :: z8 :: .pointer (some ⟨gC, 0, none⟩) :: z10 :: vt :: z12 :: z13 :: .pointer (some ⟨gW, 0, none⟩) :: z15 :: .pointer (some ⟨gD, 0, none⟩) :: z17 :: z18 :: z19 :: z20 :: z21 :: z22 :: z23 :: z24 :: z25 :: z26 :: z27 :: z28 :: z29 :: z30 :: z31 :: z32 :: z33 :: z34 :: z35 :: z36 :: z37 :: z38 :: z39 :: z40 :: z41 :: z42 :: z43 :: z44 :: z45 :: z46 :: z47 :: z48 :: z49 :: z50 :: z51 :: z52 :: z53 :: z54 :: z55 :: z56 :: z57 :: z58 :: z59 :: z60 :: z61 :: z62 :: z63 :: z64 :: z65 :: z66 :: z67 :: z68 :: z69 :: z70 :: z71 :: z72 :: z73 :: z74 :: z75 :: z76 :: z77 :: z78 :: z79 :: z80 :: z81 :: z82 :: z83 :: z84 :: z85 :: z86 :: z87 :: z88 :: z89 :: z90 :: z91 :: z92 :: z93 :: z94 :: z95 :: z96 :: z97 :: z98 :: z99 :: z100 :: z101 :: z102 :: z103 :: z104 :: z105 :: z106 :: z107 :: z108 :: z109 :: z110 :: z111 :: z112 :: z113 :: z114 :: z115 :: z116 :: z117 :: z118 :: z119 :: z120 :: z121 :: z122 :: z123 :: z124 :: z125 :: z126 :: z127 :: z128 :: z129 :: z130 :: z131 :: z132 :: z133 :: z134 :: z135 :: z136 :: z137 :: z138 :: z139 :: z140 :: z141 :: z142 :: z143 :: z144 :: z145 :: z146 :: z147 :: z148 :: z149 :: z150 :: z151 :: z152 :: z153 :: z154 :: z155 :: z156 :: z157 :: z158 :: z159 :: z160 :: z161 :: z162 :: z163 :: z164 :: z165 :: z166 :: z167 :: z168 :: z169 :: z170 :: z171 :: z172 :: z173 :: z174 :: z175 :: z176 :: z177 :: z178 :: z179 :: z180 :: z181 :: z182 :: z183 :: z184 :: z185 :: z186 :: z187 :: z188 :: z189 :: []).toArray, defers := [] } W := by
 have HR := Lib.hid hR
 have HBR := Lib.hid hBR
 have HB := Lib.hid hB
 have HW := Lib.hid hW
 have HX := Lib.hid hX
 have HD := Lib.hid hD
 have HDA := Lib.hid hDA
 have HV := Lib.hid hV
 have HM := Lib.hid hm
 have hzi : (Tryz.prog.info? 58).map (·.size) = some (dCells (is c) c x4 x7).size := by kernel_rfl
 have HAR : ∀ W, ClAt W c (.slice D0 c.has.length D0q) (.slice D4 c.for_.length D4q) (.slice D7 c.may_.length D7q) → ClAt W c y x4 x7 → Calls Tryz.prog 14 #[.agg #[.slice D0 c.has.length D0q, .string ⟨c.about.toArray⟩, .int .i64 c.at_, .string ⟨c.by_.toArray⟩, .slice D4 c.for_.length D4q, .int .i64 c.from_, .string ⟨c.id_.toArray⟩, .slice D7 c.may_.length D7q, .int .i64 c.until_], .agg (dCells (is c) c x4 x7)] W (TrueC W) := fun W h1 h2 => are25_any c _ _ _ x4 x7 W h1 HM.out h2.for_ h2.may
 have HJ0 : ∀ W, ClAt W c y x4 x7 → RuAt W r (.slice U1 r.by_.length j1) (.slice U2 r.need.length j2) (.slice U3 r.may_.length j3) → fit c r = true → Calls Tryz.prog 18 #[.agg (dCells (is c) c x4 x7), .agg #[.int .i64 r.now, .int .i64 r.slack, .string ⟨r.who.toArray⟩, .slice U1 r.by_.length j1, .slice U2 r.need.length j2, .slice U3 r.may_.length j3]] W (RefJudgeP c r W) := fun W h1 h2 hf => refJudge_any c r y x4 x7 _ _ _ W h1 h2 hf
 clear hR hBR hB hW hX hD hDA hV hm
 generalize hds : (dCells (is c) c x4 x7) = ds at *
 have HAR := Lib.hid HAR
 have HJ := Lib.hid HJ0
 clear hds HJ0
 conv => arg 2; whnf
 have hCC := HW.out
 unfold Blk at hCC
 obtain ⟨c0, c1, c2, c3, c4, c5, c6, c7, c8⟩ := C9 HD.out
 go_wp2_with (refine wpList_load_row rfl 58 (.tmp 14) rfl gW rfl 58 ds (0, 0) _ hCC Tryz.underlying58 rfl hzi ?_)
 clear c0 c1 c2 c3 c4 c5 c6 c7 c8 hCC
 ((with_reducible refine (HAR.out _ HDA.out HX.out).mono ?_); rintro e w2 ⟨rfl, hb⟩)
 replace HR := Lib.hid (HR.out.below hb)
 replace HBR := Lib.hid (HBR.out.below hb HBR.out.lt)
 replace HW := Lib.hid (HW.out.below hb HW.out.lt)
 replace HX := Lib.hid (HX.out.below hb)
 replace HD := Lib.hid (HD.out.below hb HD.out.lt)
 replace HDA := Lib.hid (HDA.out.below hb)
 replace HV := Lib.hid (HV.out.below hb)
 replace HB := Lib.hid (HB.out.trans (hb.mono HB.out.size))
 clear hb
 have d0 := HBR.out.cell 0
 have d1 := HBR.out.cell 1
 have d2 := HBR.out.cell 2
 have d3 := HBR.out.cell 3
 have d4 := HBR.out.cell 4
 have d5 := HBR.out.cell 5
 simp at d0 d1 d2 d3 d4 d5
 go_wp2_with fail
 clear d0 d1 d2 d3 d4 d5
 ((with_reducible refine (rules_any r U1 U2 U3 _ _ _ j1 j2 j3 w2).mono ?_); rintro e w3 ⟨rfl, hb⟩)
 obtain ⟨bt, hbt⟩ : ∃ b, (Cl.isTime r.now && Cl.isTime r.slack) = b := ⟨_, rfl⟩
 rw [hbt]
 have HBT := Lib.hid hbt
 clear hbt
 replace HR := Lib.hid (HR.out.below hb)
 replace HBR := Lib.hid (HBR.out.below hb HBR.out.lt)
 replace HW := Lib.hid (HW.out.below hb HW.out.lt)
 replace HX := Lib.hid (HX.out.below hb)
 replace HD := Lib.hid (HD.out.below hb HD.out.lt)
 replace HDA := Lib.hid (HDA.out.below hb)
 replace HV := Lib.hid (HV.out.below hb)
 replace HB := Lib.hid (HB.out.trans (hb.mono HB.out.size))
 clear hb
 have hb : Below w3.heap.size w3 (w3.alloc (.cells #[.int .i64 r.now, .int .i64 r.slack, .string ⟨r.who.toArray⟩, .slice U1 r.by_.length j1, .slice U2 r.need.length j2, .slice U3 r.may_.length j3] 66)) := (Below.refl _ _).alloc (Nat.le_refl _) _
 have HQ := Lib.hid (Blk.new w3 66 #[.int .i64 r.now, .int .i64 r.slack, .string ⟨r.who.toArray⟩, .slice U1 r.by_.length j1, .slice U2 r.need.length j2, .slice U3 r.may_.length j3])
 replace HR := Lib.hid (HR.out.below hb)
 replace HBR := Lib.hid (HBR.out.below hb HBR.out.lt)
 replace HW := Lib.hid (HW.out.below hb HW.out.lt)
 replace HX := Lib.hid (HX.out.below hb)
 replace HD := Lib.hid (HD.out.below hb HD.out.lt)
 replace HDA := Lib.hid (HDA.out.below hb)
 replace HV := Lib.hid (HV.out.below hb)
 replace HB := Lib.hid (HB.out.trans (hb.mono HB.out.size))
 clear hb
 cases bt with
 | false =>
  have hf : fit c r = false := by rw [fit, HBT.out, Bool.and_false]
  have hv := HV.out
  rw [judgeP_unfit hf] at hv
  obtain ⟨b, hbb, rfl, hBk⟩ := (hv : ∃ b, Bv ≤ b ∧ vt = .iface 44 (.pointer (some ⟨b, 0, none⟩)) ∧ Blk (w3.alloc (.cells #[.int .i64 r.now, .int .i64 r.slack, .string ⟨r.who.toArray⟩, .slice U1 r.by_.length j1, .slice U2 r.need.length j2, .slice U3 r.may_.length j3] 66)) b 52 #[.iface 49 (.int .i64 2)])
  have HK := Lib.hid hBk
  clear hf hBk HV
  go_wp2_with fail
  generalize (w3.alloc (.cells #[.int .i64 r.now, .int .i64 r.slack, .string ⟨r.who.toArray⟩, .slice U1 r.by_.length j1, .slice U2 r.need.length j2, .slice U3 r.may_.length j3] 66)) = w4 at *
  ((with_reducible refine (broken_any b w4 HK.out).mono ?_); rintro e w5 ⟨rfl, hb⟩)
  have HB9 := Lib.hid (HB.out.trans (hb.mono HB.out.size))
  go_wp2
  go_ret
  exact ⟨rfl, HB9.out⟩
 | true =>
  have hf : fit c r = true := by rw [fit, HM.out, HBT.out]; rfl
  have HFT := Lib.hid hf
  clear hf
  go_upto_region 32 with fail
  generalize (w3.alloc (.cells #[.int .i64 r.now, .int .i64 r.slack, .string ⟨r.who.toArray⟩, .slice U1 r.by_.length j1, .slice U2 r.need.length j2, .slice U3 r.may_.length j3] 66)) = w4 at *
  have hCC := HW.out
  unfold Blk at hCC
  have d0 := HQ.out.cell 0
  have d1 := HQ.out.cell 1
  have d2 := HQ.out.cell 2
  have d3 := HQ.out.cell 3
  have d4 := HQ.out.cell 4
  have d5 := HQ.out.cell 5
  simp at d0 d1 d2 d3 d4 d5
  go_wp2_with (refine wpList_load_row rfl 58 (.tmp 14) rfl gW rfl 58 ds (0, 0) _ hCC Tryz.underlying58 rfl hzi ?_)
  clear d0 d1 d2 d3 d4 d5 hCC
  ((with_reducible refine (HJ.out _ HX.out HR.out HFT.out).mono ?_); rintro e w5 ⟨u, rfl, hu, hb⟩)
  have hv := HV.out.below hb
  rw [judgeP_fit HFT.out] at hv
  have HB9 := Lib.hid (HB.out.trans (hb.mono HB.out.size))
  have HL := Lib.hid (And.intro HX.out.nfor HR.out.nmay)
  have HVU := Lib.hid (And.intro hv hu)
  clear hv hu hb
  go_wp2_with fail
  ((with_reducible refine (verdict_any Bv vt u (judge0 c r) w5 HVU.out.1 HVU.out.2 (judge0_kind c r) (judge0_len HL.out.1 HL.out.2)).mono ?_); rintro e w6 ⟨rfl, hb⟩)
  have HB8 := Lib.hid (HB9.out.trans (hb.mono HB9.out.size))
  go_wp2
  go_ret
  exact ⟨rfl, HB8.out⟩
def Slots (a b : Nat) (w : World) (v : Value) (n : Nat) : Prop := n = 0 ∨ ∃ g cap cs, v = .slice (some ⟨g, 0, none⟩) n cap ∧ a ≤ g ∧ g < b ∧ Blk w g 9 cs ∧ n ≤ cs.size
theorem slots_own {a b : Nat} {w : World} {v : Value} {n : Nat} {xs : List Value} (h : w.ownsRow a 9 1 v n xs) (hb : w.heap.size ≤ b) : Slots a b w v n := by
 obtain ⟨h1, h2⟩ := h
 rcases h2 with ⟨_, h2⟩ | ⟨g, cap, cur, e, hg, hB, hle, hmax, hsz, _⟩
 ·exact .inl h2
 ·have hlt : g < w.heap.size := Blk.lt (t := 9) (cs := cur) hB
  exact .inr ⟨g, cap, cur, e, hg, by omega, hB, by omega⟩
theorem slots_put {a b : Nat} {w : World} {v : Value} {n : Nat} (h : Slots a b w v n) (g i : Nat) (x : Value) : Slots a b (w.setCell ⟨g, i, none⟩ x) v n := by
 rcases h with h | ⟨g', cap, cs, hv, h1, h2, hB, hn⟩
 ·exact .inl h
 ·by_cases hg : g' = g
  ·subst hg
   exact .inr ⟨g', cap, _, hv, h1, h2, hB.put i x, by rw [Array.size_setIfInBounds]; exact hn⟩
  ·exact .inr ⟨g', cap, cs, hv, h1, h2, hB.far (p := ⟨g, i, none⟩) hg x, hn⟩
structure SpR (a b : Nat) (W : World) (v0 : Value) (n0 : Nat) (v4 : Value) (n4 : Nat) (v7 : Value) (n7 : Nat) (w : World) : Prop where
 bel : Below a W w
 far : ∀ g t cs, b ≤ g → Blk W g t cs → Blk w g t cs
 s0 : Slots a b w v0 n0
 s4 : Slots a b w v4 n4
 s7 : Slots a b w v7 n7
theorem SpR.put {a b : Nat} {W w : World} {v0 v4 v7 : Value} {n0 n4 n7 : Nat} (h : SpR a b W v0 n0 v4 n4 v7 n7 w) {g : Nat} (h1 : a ≤ g) (h2 : g < b) (i : Nat) (x : Value) : SpR a b W v0 n0 v4 n4 v7 n7 (w.setCell ⟨g, i, none⟩ x) :=
 ⟨h.bel.setCell (p := ⟨g, i, none⟩) h1 x, fun g' t cs hg hB => (h.far g' t cs hg hB).far (p := ⟨g, i, none⟩) (by show g' ≠ g; omega) x, slots_put h.s0 g i x, slots_put h.s4 g i x, slots_put h.s7 g i x⟩
theorem verdV_sp {B : Nat} {W w : World} {v : Value} {x : Verd} (h : VerdV B W v x) {b : Nat} (hb : b ≤ B) (hf : ∀ g t cs, b ≤ g → Blk W g t cs → Blk w g t cs) : VerdV B w v x := by
 obtain ⟨k, t, s, l⟩ := x
 unfold VerdV at h ⊢
 split <;> simp_all only
 ·obtain ⟨g, h1, rfl, h3⟩ := h
  exact ⟨g, h1, rfl, hf _ _ _ (by omega) h3⟩
 ·obtain ⟨y, rfl, h3⟩ := h
  exact ⟨y, rfl, own_frameS h3 (Nat.le_refl _) (fun g t cs hg => hf g t cs (by omega))⟩
 ·obtain ⟨y, rfl, h3⟩ := h
  exact ⟨y, rfl, own_frameS h3 (Nat.le_refl _) (fun g t cs hg => hf g t cs (by omega))⟩
theorem i3_0 (a b c : Value) (W : World) : (Instr.index 64 (.agg #[a, b, c]) (.int .i64 0)).run Tryz.prog W = .ok a W := by kernel_rfl
theorem i3_1 (a b c : Value) (W : World) : (Instr.index 64 (.agg #[a, b, c]) (.int .i64 1)).run Tryz.prog W = .ok b W := by kernel_rfl
theorem i3_2 (a b c : Value) (W : World) : (Instr.index 64 (.agg #[a, b, c]) (.int .i64 2)).run Tryz.prog W = .ok c W := by kernel_rfl
theorem rd_spoil (c : C) (r : R) (U1 U2 U3 D0 D4 D7 : Option Addr) (j1 j2 j3 D0q D4q D7q : Nat) (y x4 x7 vt : Value) (gC gW gD Bv : Nat) (w W : World) (B0 B4 B7 : Option Addr) (B0q B4q B7q a b : Nat) (hCb : b ≤ gC) (hWb : b ≤ gW) (hDb : b ≤ gD) (hVb : b ≤ Bv) (ha : w.heap.size + 1 ≤ a) (hR : RuAt w r (.slice U1 r.by_.length j1) (.slice U2 r.need.length j2) (.slice U3 r.may_.length j3)) (hBR : Blk W w.heap.size 25 #[.int .i64 r.now, .int .i64 r.slack, .string ⟨r.who.toArray⟩, .slice U1 r.by_.length j1, .slice U2 r.need.length j2, .slice U3 r.may_.length j3]) (hB : Below w.heap.size w W) (hW : Blk W gW 58 (dCells (is c) c x4 x7)) (ho0 : OwnT b W (.slice D0 c.has.length D0q) c.has) (ho4 : OwnT b W (.slice D4 c.for_.length D4q) c.for_) (ho7 : OwnT b W (.slice D7 c.may_.length D7q) c.may_) (hx4 : OwnT b W x4 c.for_) (hx7 : OwnT b W x7 c.may_) (hfit : FitC c) (hnh : c.has.length ≤ 8)
  (hC : Blk W gC 38 #[.slice B0 c.has.length B0q, .string ⟨c.about.toArray⟩, .int .i64 c.at_, .string ⟨c.by_.toArray⟩, .slice B4 c.for_.length B4q, .int .i64 c.from_, .string ⟨c.id_.toArray⟩, .slice B7 c.may_.length B7q, .int .i64 c.until_]) (hs0 : Slots a b W (.slice B0 c.has.length B0q) c.has.length) (hs4 : Slots a b W (.slice B4 c.for_.length B4q) c.for_.length) (hs7 : Slots a b W (.slice B7 c.may_.length B7q) c.may_.length)
  (hD : Blk W gD 38 #[.slice D0 c.has.length D0q, .string ⟨c.about.toArray⟩, .int .i64 c.at_, .string ⟨c.by_.toArray⟩, .slice D4 c.for_.length D4q, .int .i64 c.from_, .string ⟨c.id_.toArray⟩, .slice D7 c.may_.length D7q, .int .i64 c.until_]) (hV : VerdV Bv W vt (judgeP c r)) (hm : mayB c = true) (z0 z1 z2 z4 z5 z6 z7 z8 z10 z12 z13 z15 z17 z18 z19 z20 z21 z22 z23 z24 z25 z26 z27 z28 z29 z30 z31 z32 z33 z34 z35 z36 z37 z38 z39 z40 z41 z42 z43 z44 z45 z46 z47 z48 z49 z50 z51 z52 z53 z54 z55 z56 z57 z58 z59 z60 z61 z62 z63 z64 z65 z66 z67 z68 z69 z70 z71 z72 z73 z74 z75 z76 z77 z78 z79 z80 z81 z82 z83 z84 z85 z86 z87 z88 z89 z90 z91 z92 z93 z94 z95 z96 z97 z98 z99 z100 z101 z102 z103 z104 z105 z106 z107 z108 z109 z110 z111 z112 z113 z114 z115 z116 z117 z118 z119 z120 z121 z122 z123 z124 z125 z126 z127 z128 z129 z130 z131 z132 z133 z134 z135 z136 z137 z138 z139 z140 z141 z142 z143 z144 z145 z146 z147 z148 z149 z150 z151 z152 z153 z154 z155 z156 z157 z158 z159 z160 z161 z162 z163 z164 z165 z166 z167 z168 z169 z170 z171 z172 z173 z174 z175 z176 z177 z178 z179 z180 z181 z182 z183 z184 z185 z186 z187 z188 z189 : Value) :
  Code.wp Tryz.prog rdTail18 (bodyPost Tryz.prog Tryz.f3 (TrueC w)) { tmps := (z0 :: z1 :: z2 :: .pointer (some ⟨w.heap.size, 0, none⟩) :: z4 :: z5 :: z6 :: z7 :: z8 :: .pointer (some ⟨gC, 0, none⟩) :: z10 :: vt :: z12 :: z13 :: .pointer (some ⟨gW, 0, none⟩) :: z15 :: .pointer (some ⟨gD, 0, none⟩) :: z17 :: z18 :: z19 :: z20 :: z21 :: z22 :: z23 :: z24 :: z25 :: z26 :: z27 :: z28 :: z29 :: z30 :: z31 :: z32 :: z33 :: z34 :: z35 :: z36 :: z37 :: z38 :: z39 :: z40 :: z41 :: z42 :: z43 :: z44 :: z45 :: z46 :: z47 :: z48 :: z49 :: z50 :: z51 :: z52 :: z53 :: z54 :: z55 :: z56 :: z57 :: z58 :: z59 :: z60 :: z61 :: z62 :: z63 :: z64 :: z65 :: z66 :: z67 :: z68 :: z69 :: z70 :: z71 :: z72 :: z73 :: z74 :: z75 :: z76 :: z77 :: z78 :: z79 :: z80 :: z81 :: z82 :: z83 :: z84 :: z85 :: z86 :: z87 :: z88 :: z89 :: z90 :: z91 :: z92 :: z93 :: z94 :: z95 :: z96 :: z97 :: z98 :: z99 :: z100 :: z101 :: z102 :: z103 :: z104 :: z105 :: z106 :: z107 :: z108 :: z109 :: z110 :: z111 :: z112 :: z113 :: z114 :: z115 :: z116 :: z117 :: z118 :: z119 :: z120 :: z121 :: z122 :: z123 :: z124 :: z125 :: z126 :: z127 :: z128 :: z129 :: z130 :: z131 :: z132 :: z133 :: z134 :: z135 :: z136 :: z137 :: z138 :: z139 :: z140 :: z141 :: z142 :: z143 :: z144 :: z145 :: z146 :: z147 :: z148 :: z149 :: z150 :: z151 :: z152 :: z153 :: z154 :: z155 :: z156 :: z157 :: z158 :: z159 :: z160 :: z161 :: z162 :: z163 :: z164 :: z165 :: z166 :: z167 :: z168 :: z169 :: z170 :: z171 :: z172 :: z173 :: z174 :: z175 :: z176 :: z177 :: z178 :: z179 :: z180 :: z181 :: z182 :: z183 :: z184 :: z185 :: z186 :: z187 :: z188 :: z189 :: []).toArray, defers := [] } W := by
 have HS : Hid (SpR a b W (.slice B0 c.has.length B0q) c.has.length (.slice B4 c.for_.length B4q) c.for_.length (.slice B7 c.may_.length B7q) c.may_.length W) := Lib.hid ⟨Below.refl _ _, fun _ _ _ _ h => h, hs0, hs4, hs7⟩
 have HNN := Lib.hid (show c.has.length < 65537 ∧ c.for_.length < 65537 ∧ c.may_.length < 65537 from ⟨by omega, by have := hfit.for_.1; omega, by have := hfit.may_.1; omega⟩)
 obtain ⟨c0, c1, c2, c3, c4, c5, c6, c7, c8⟩ := C9 hC
 have HX := Lib.hid (And.intro hCb (And.intro hWb (And.intro hDb (And.intro hVb ha))))
 have HR := Lib.hid hR
 have HBR := Lib.hid hBR
 have HB := Lib.hid hB
 have HW := Lib.hid hW
 have HO := Lib.hid (And.intro ho0 (And.intro ho4 (And.intro ho7 (And.intro hx4 hx7))))
 have HFI := Lib.hid (And.intro hfit hnh)
 have HD := Lib.hid hD
 have HV := Lib.hid hV
 have HM := Lib.hid hm
 clear hCb hWb hDb hVb ha hR hBR hB hW ho0 ho4 ho7 hx4 hx7 hfit hnh hC hs0 hs4 hs7 hD hV hm
 conv => arg 2; whnf
 apply wp_seq_k
 intro K9 hK9
 go_cut [] (fun wx => Hid (SpR a b W (.slice B0 c.has.length B0q) c.has.length (.slice B4 c.for_.length B4q) c.for_.length (.slice B7 c.may_.length B7q) c.may_.length wx))
 case rest =>
  have hb := hcut.out.bel
  have hf := hcut.out.far
  have hfr := fun (v : Value) (l : List Txt) (h : OwnT b W v l) => own_frameS h (Nat.le_refl b) (fun g t cs hg => hf g t cs hg)
  obtain ⟨hCb, hWb, hDb, hVb, ha⟩ := HX.out
  obtain ⟨ho0, ho4, ho7, hx4, hx7⟩ := HO.out
  have hbw := HB.out.trans (hb.mono (Nat.le_of_succ_le ha))
  go_step
  exact rd_end c r U1 U2 U3 D0 D4 D7 j1 j2 j3 D0q D4q D7q (.slice D0 c.has.length D0q) x4 x7 vt gC gW gD Bv w _ (HR.out.below hbw) ((hb.block _ (by omega)).trans HBR.out) hbw (hf _ _ _ hWb HW.out) (clAt_own (hfr _ _ ho0) (hfr _ _ hx4) (hfr _ _ hx7) HFI.out.1 HFI.out.2) (hf _ _ _ hDb HD.out) (clAt_own (hfr _ _ ho0) (hfr _ _ ho4) (hfr _ _ ho7) HFI.out.1 HFI.out.2) (verdV_sp HV.out hVb hf) HM.out _ _ _ _ _ _ _ _ _ _ _ _ _ _ _ _ _ _ _ _ _ _ _ _ _ _ _ _ _ _ _ _ _ _ _ _ _ _ _ _ _ _ _ _ _ _ _ _ _ _ _ _ _ _ _ _ _ _ _ _ _ _ _ _ _ _ _ _ _ _ _ _ _ _ _ _ _ _ _ _ _ _ _ _ _ _ _ _ _ _ _ _ _ _ _ _ _ _ _ _ _ _ _ _ _ _ _ _ _ _ _ _ _ _ _ _ _ _ _ _ _ _ _ _ _ _ _ _ _ _ _ _ _ _ _ _ _ _ _ _ _ _ _ _ _ _ _ _ _ _ _ _ _ _ _ _ _ _ _ _ _ _ _ _ _ _ _ _ _ _ _ _ _ _ _ _ _ _ _ _ _ _ _ _ _
 clear HX HR HBR HB HW HO HFI HD HV HM
 go_wp2_with fail
 clear c0 c1 c2 c3 c4 c5 c6 c7 c8
 go_loopw [159] (fun c159 wx => ∃ i : Int, 0 ≤ i ∧ i ≤ 3 ∧ c159 = .int .i64 i ∧ Hid (SpR a b W (.slice B0 c.has.length B0q) c.has.length (.slice B4 c.for_.length B4q) c.for_.length (.slice B7 c.may_.length B7q) c.may_.length wx)) (fun c159 _ => (3 - intOf c159).toNat)
 case atStart => exact ⟨0, by omega, by omega, rfl, HS⟩
 case round =>
  clear HS
  obtain ⟨i, hi0, hi, rfl, HS⟩ := hrel
  by_cases h0 : i = 0
  ·subst h0
   clear hi hi0
   have hix := i3_0
   have hnn := HNN.out.1
   go_wp2_with fail
   go_loopw [164] (fun c164 wx => ∃ j : Nat, j ≤ c.has.length ∧ c164 = .int .i64 (j : Nat) ∧ Hid (SpR a b W (.slice B0 c.has.length B0q) c.has.length (.slice B4 c.for_.length B4q) c.for_.length (.slice B7 c.may_.length B7q) c.may_.length wx)) (fun c164 _ => c.has.length - (intOf c164).toNat)
   case atStart => exact ⟨0, by omega, rfl, HS⟩
   case round =>
    clear HS
    obtain ⟨j, hj, rfl, HS⟩ := hrel
    by_cases hlt : j < c.has.length
    ·obtain ⟨g, cs, hA, hB, hsz, hg1, hg2⟩ : ∃ g cs, B0 = some ⟨g, 0, none⟩ ∧ Blk wr g 9 cs ∧ c.has.length ≤ cs.size ∧ a ≤ g ∧ g < b := by
      rcases HS.out.s0 with h | ⟨g, cap, cs, hv, h1, h2, hB, hn⟩
      ·omega
      ·injection hv with hv
       exact ⟨g, cs, hv, hB, hn, h1, h2⟩
     subst hA
     obtain ⟨uj, hcell⟩ : ∃ u, wr.cell? ⟨g, j, none⟩ = some u := ⟨cs[j]'(by omega), by rw [hB.cell j, Array.getElem?_eq_getElem]⟩
     have hfz := hB.frozen j
     have hs2 := Lib.hid (HS.out.put hg1 hg2 j (.string ⟨#[33]⟩))
     have hi0' : (0 : Int) ≤ (j : Int) := by omega
     have hi1 : (j : Int) < (c.has.length : Int) := by omega
     clear HS hB hsz hg1 hg2
     go_wp2
     go_roundw
     case rel => exact ⟨j + 1, by omega, by go_num, hs2⟩
     case measure => simp [intOf]; omega
    ·obtain rfl : j = c.has.length := by omega
     clear hlt hj
     go_wp2
     go_roundw
     case rel => exact ⟨1, by omega, by omega, by go_num, HS⟩
     case measure => simp [intOf]
  ·by_cases h1 : i = 1
   ·subst h1
    clear hi hi0 h0
    have hix := i3_1
    have hnn := HNN.out.2.1
    go_wp2_with fail
    go_loopw [164] (fun c164 wx => ∃ j : Nat, j ≤ c.for_.length ∧ c164 = .int .i64 (j : Nat) ∧ Hid (SpR a b W (.slice B0 c.has.length B0q) c.has.length (.slice B4 c.for_.length B4q) c.for_.length (.slice B7 c.may_.length B7q) c.may_.length wx)) (fun c164 _ => c.for_.length - (intOf c164).toNat)
    case atStart => exact ⟨0, by omega, rfl, HS⟩
    case round =>
     clear HS
     obtain ⟨j, hj, rfl, HS⟩ := hrel
     by_cases hlt : j < c.for_.length
     ·obtain ⟨g, cs, hA, hB, hsz, hg1, hg2⟩ : ∃ g cs, B4 = some ⟨g, 0, none⟩ ∧ Blk wr g 9 cs ∧ c.for_.length ≤ cs.size ∧ a ≤ g ∧ g < b := by
       rcases HS.out.s4 with h | ⟨g, cap, cs, hv, h1, h2, hB, hn⟩
       ·omega
       ·injection hv with hv
        exact ⟨g, cs, hv, hB, hn, h1, h2⟩
      subst hA
      obtain ⟨uj, hcell⟩ : ∃ u, wr.cell? ⟨g, j, none⟩ = some u := ⟨cs[j]'(by omega), by rw [hB.cell j, Array.getElem?_eq_getElem]⟩
      have hfz := hB.frozen j
      have hs2 := Lib.hid (HS.out.put hg1 hg2 j (.string ⟨#[33]⟩))
      have hi0' : (0 : Int) ≤ (j : Int) := by omega
      have hi1 : (j : Int) < (c.for_.length : Int) := by omega
      clear HS hB hsz hg1 hg2
      go_wp2
      go_roundw
      case rel => exact ⟨j + 1, by omega, by go_num, hs2⟩
      case measure => simp [intOf]; omega
     ·obtain rfl : j = c.for_.length := by omega
      clear hlt hj
      go_wp2
      go_roundw
      case rel => exact ⟨2, by omega, by omega, by go_num, HS⟩
      case measure => simp [intOf]
   ·by_cases h2 : i = 2
    ·subst h2
     clear hi hi0 h0 h1
     have hix := i3_2
     have hnn := HNN.out.2.2
     go_wp2_with fail
     go_loopw [164] (fun c164 wx => ∃ j : Nat, j ≤ c.may_.length ∧ c164 = .int .i64 (j : Nat) ∧ Hid (SpR a b W (.slice B0 c.has.length B0q) c.has.length (.slice B4 c.for_.length B4q) c.for_.length (.slice B7 c.may_.length B7q) c.may_.length wx)) (fun c164 _ => c.may_.length - (intOf c164).toNat)
     case atStart => exact ⟨0, by omega, rfl, HS⟩
     case round =>
      clear HS
      obtain ⟨j, hj, rfl, HS⟩ := hrel
      by_cases hlt : j < c.may_.length
      ·obtain ⟨g, cs, hA, hB, hsz, hg1, hg2⟩ : ∃ g cs, B7 = some ⟨g, 0, none⟩ ∧ Blk wr g 9 cs ∧ c.may_.length ≤ cs.size ∧ a ≤ g ∧ g < b := by
        rcases HS.out.s7 with h | ⟨g, cap, cs, hv, h1, h2, hB, hn⟩
        ·omega
        ·injection hv with hv
         exact ⟨g, cs, hv, hB, hn, h1, h2⟩
       subst hA
       obtain ⟨uj, hcell⟩ : ∃ u, wr.cell? ⟨g, j, none⟩ = some u := ⟨cs[j]'(by omega), by rw [hB.cell j, Array.getElem?_eq_getElem]⟩
       have hfz := hB.frozen j
       have hs2 := Lib.hid (HS.out.put hg1 hg2 j (.string ⟨#[33]⟩))
       have hi0' : (0 : Int) ≤ (j : Int) := by omega
       have hi1 : (j : Int) < (c.may_.length : Int) := by omega
       clear HS hB hsz hg1 hg2
       go_wp2
       go_roundw
       case rel => exact ⟨j + 1, by omega, by go_num, hs2⟩
       case measure => simp [intOf]; omega
      ·obtain rfl : j = c.may_.length := by omega
       clear hlt hj
       go_wp2
       go_roundw
       case rel => exact ⟨3, by omega, by omega, by go_num, HS⟩
       case measure => simp [intOf]
    ·obtain rfl : i = 3 := by omega
     clear hi hi0 h0 h1 h2
     go_wp2
     go_meet
     exact HS
end Nd
end Go.Proofs.YtobaldkipnhlpaaGreatDoor
