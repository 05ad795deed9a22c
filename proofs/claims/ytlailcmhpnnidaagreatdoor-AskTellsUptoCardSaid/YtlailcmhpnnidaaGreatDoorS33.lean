/-
  The law AskTells: its middle parts.
-/
import Derived.Test.YtlailcmhpnnidaaGreatDoorS32
set_option linter.unusedVariables false
set_option linter.unusedSimpArgs false
set_option maxRecDepth 100000
set_option maxHeartbeats 16000000
namespace Go.Proofs.YtlailcmhpnnidaaGreatDoor
open Go.RowKit Mem Utf Ref3 Idx Tok TokC
namespace Nd
theorem tb_skip (l : List UInt8) (t : Tr) (g : Nat) (tv : Value) (A : Option Addr) (c : Nat) (K : Option Addr) (d b8 : Nat) (w w1 W : World) (k : Nat) (b : Bool) (hE : TlE l t g tv A c K d b8 w w1 W) (hs : k < 7 ∨ b = false) (hC : ∀ (W : World), TlE l t g tv A c K d b8 w w1 W → ∀ (z0 z2 z3 z4 z5 z6 z9 z11 z12 z13 z14 z15 z16 z17 z18 z19 z20 z21 z22 z23 z24 z25 z26 z27 z28 z29 z30 z31 z32 z33 z34 z35 z36 z37 z38 z39 z40 z41 z42 z43 z44 z45 z46 z47 z48 z49 z50 z51 z52 z53 z54 z55 z56 z57 z58 z59 z60 z61 z62 z63 z64 z65 z66 z67 z68 z69 z70 z71 z72 z73 z74 z75 z76 z77 z78 z79 z80 z81 z82 z83 z84 z85 z86 z87 z88 z89 z90 z91 z92 z93 z94 z95 z96 z97 z98 z99 z100 z101 z102 z103 z104 z105 z106 z107 z108 z109 z110 z111 z112 z113 z114 z115 z116 z117 z118 z119 z120 z121 z122 z123 z124 z125 z126 z127 z128 z129 z130 z131 z132 z133 z134 z135 z136 z137 z138 z139 z140 z141 z142 z143 z144 z145 z146 z147 z148 z149 z150 z151 z152 z153 z154 z155 z156 z157 z158 z159 z160 z161 z162 z163 z164 z165 z166 z167 z168 z169 z170 z171 z172 z173 z174 z175 : Value), Code.wp Tryz.prog tlTailC (bodyPost Tryz.prog Tryz.f4 (TrueT w)) { tmps := (z0 :: .string ⟨l.toArray⟩ :: z2 :: z3 :: z4 :: z5 :: z6 :: .pointer (some ⟨g, 0, none⟩) :: .pointer (some ⟨b8, 0, none⟩) :: z9 :: .int .i64 (k : Nat) :: z11 :: z12 :: z13 :: z14 :: z15 :: z16 :: z17 :: z18 :: z19 :: z20 :: z21 :: z22 :: z23 :: z24 :: z25 :: z26 :: z27 :: z28 :: z29 :: z30 :: z31 :: z32 :: z33 :: z34 :: z35 :: z36 :: z37 :: z38 :: z39 :: z40 :: z41 :: z42 :: z43 :: z44 :: z45 :: z46 :: z47 :: z48 :: z49 :: z50 :: z51 :: z52 :: z53 :: z54 :: z55 :: z56 :: z57 :: z58 :: z59 :: z60 :: z61 :: z62 :: z63 :: z64 :: z65 :: z66 :: z67 :: z68 :: z69 :: z70 :: z71 :: z72 :: z73 :: z74 :: z75 :: z76 :: z77 :: z78 :: z79 :: z80 :: z81 :: z82 :: z83 :: z84 :: z85 :: z86 :: z87 :: z88 :: z89 :: z90 :: z91 :: z92 :: z93 :: z94 :: z95 :: z96 :: z97 :: z98 :: z99 :: z100 :: z101 :: z102 :: z103 :: z104 :: z105 :: z106 :: z107 :: z108 :: z109 :: z110 :: z111 :: z112 :: z113 :: z114 :: z115 :: z116 :: z117 :: z118 :: z119 :: z120 :: z121 :: z122 :: z123 :: z124 :: z125 :: z126 :: z127 :: z128 :: z129 :: z130 :: z131 :: z132 :: z133 :: z134 :: z135 :: z136 :: z137 :: z138 :: z139 :: z140 :: z141 :: z142 :: z143 :: z144 :: z145 :: z146 :: z147 :: z148 :: z149 :: z150 :: z151 :: z152 :: z153 :: z154 :: z155 :: z156 :: z157 :: z158 :: z159 :: z160 :: z161 :: z162 :: z163 :: z164 :: z165 :: z166 :: z167 :: z168 :: z169 :: z170 :: z171 :: z172 :: z173 :: z174 :: z175 :: []).toArray, defers := [] } W) (z0 z2 z3 z4 z5 z6 z9 z11 z12 z14 z15 z16 z17 z18 z19 z20 z21 z22 z23 z24 z25 z26 z27 z28 z29 z30 z31 z32 z33 z34 z35 z36 z37 z38 z39 z40 z41 z42 z43 z44 z45 z46 z47 z48 z49 z50 z51 z52 z53 z54 z55 z56 z57 z58 z59 z60 z61 z62 z63 z64 z65 z66 z67 z68 z69 z70 z71 z72 z73 z74 z75 z76 z77 z78 z79 z80 z81 z82 z83 z84 z85 z86 z87 z88 z89 z90 z91 z92 z93 z94 z95 z96 z97 z98 z99 z100 z101 z102 z103 z104 z105 z106 z107 z108 z109 z110 z111 z112 z113 z114 z115 z116 z117 z118 z119 z120 z121 z122 z123 z124 z125 z126 z127 z128 z129 z130 z131 z132 z133 z134 z135 z136 z137 z138 z139 z140 z141 z142 z143 z144 z145 z146 z147 z148 z149 z150 z151 z152 z153 z154 z155 z156 z157 z158 z159 z160 z161 z162 z163 z164 z165 z166 z167 z168 z169 z170 z171 z172 z173 z174 z175 : Value) :
  Code.wp Tryz.prog tlTailB (bodyPost Tryz.prog Tryz.f4 (TrueT w)) { tmps := (z0 :: .string ⟨l.toArray⟩ :: z2 :: z3 :: z4 :: z5 :: z6 :: .pointer (some ⟨g, 0, none⟩) :: .pointer (some ⟨b8, 0, none⟩) :: z9 :: .int .i64 (k : Nat) :: z11 :: z12 :: .bool b :: z14 :: z15 :: z16 :: z17 :: z18 :: z19 :: z20 :: z21 :: z22 :: z23 :: z24 :: z25 :: z26 :: z27 :: z28 :: z29 :: z30 :: z31 :: z32 :: z33 :: z34 :: z35 :: z36 :: z37 :: z38 :: z39 :: z40 :: z41 :: z42 :: z43 :: z44 :: z45 :: z46 :: z47 :: z48 :: z49 :: z50 :: z51 :: z52 :: z53 :: z54 :: z55 :: z56 :: z57 :: z58 :: z59 :: z60 :: z61 :: z62 :: z63 :: z64 :: z65 :: z66 :: z67 :: z68 :: z69 :: z70 :: z71 :: z72 :: z73 :: z74 :: z75 :: z76 :: z77 :: z78 :: z79 :: z80 :: z81 :: z82 :: z83 :: z84 :: z85 :: z86 :: z87 :: z88 :: z89 :: z90 :: z91 :: z92 :: z93 :: z94 :: z95 :: z96 :: z97 :: z98 :: z99 :: z100 :: z101 :: z102 :: z103 :: z104 :: z105 :: z106 :: z107 :: z108 :: z109 :: z110 :: z111 :: z112 :: z113 :: z114 :: z115 :: z116 :: z117 :: z118 :: z119 :: z120 :: z121 :: z122 :: z123 :: z124 :: z125 :: z126 :: z127 :: z128 :: z129 :: z130 :: z131 :: z132 :: z133 :: z134 :: z135 :: z136 :: z137 :: z138 :: z139 :: z140 :: z141 :: z142 :: z143 :: z144 :: z145 :: z146 :: z147 :: z148 :: z149 :: z150 :: z151 :: z152 :: z153 :: z154 :: z155 :: z156 :: z157 :: z158 :: z159 :: z160 :: z161 :: z162 :: z163 :: z164 :: z165 :: z166 :: z167 :: z168 :: z169 :: z170 :: z171 :: z172 :: z173 :: z174 :: z175 :: []).toArray, defers := [] } W := by
 have HE := Lib.hid hE
 have HS := Lib.hid hs
 have HCC := Lib.hid hC
 clear hE hs hC
 conv => arg 2; whnf
 apply wp_seq_k
 intro K9 hK9
 go_cut [] (fun wx => TlE l t g tv A c K d b8 w w1 wx)
 case rest =>
  go_step
  exact HCC.out _ hcut _ _ _ _ _ _ _ _ _ _ _ _ _ _ _ _ _ _ _ _ _ _ _ _ _ _ _ _ _ _ _ _ _ _ _ _ _ _ _ _ _ _ _ _ _ _ _ _ _ _ _ _ _ _ _ _ _ _ _ _ _ _ _ _ _ _ _ _ _ _ _ _ _ _ _ _ _ _ _ _ _ _ _ _ _ _ _ _ _ _ _ _ _ _ _ _ _ _ _ _ _ _ _ _ _ _ _ _ _ _ _ _ _ _ _ _ _ _ _ _ _ _ _ _ _ _ _ _ _ _ _ _ _ _ _ _ _ _ _ _ _ _ _ _ _ _ _ _ _ _ _ _ _ _ _ _ _ _ _ _ _ _ _ _ _ _ _ _ _ _ _ _
 by_cases h7 : k < 7
 ·have e7 : ((k : Int) ≥ 7) = False := by simp; omega
  clear HS HCC
  go_wp2_with fail
  go_meet
  exact HE.out
 ·have hbf : b = false := HS.out.resolve_left h7
  subst hbf
  have e7 : ((k : Int) ≥ 7) = True := by simp; omega
  clear HS HCC
  go_wp2_with fail
  go_meet
  exact HE.out
theorem tb_gone (l : List UInt8) (t : Tr) (g : Nat) (tv : Value) (A : Option Addr) (c : Nat) (K : Option Addr) (d b8 : Nat) (w w1 W : World) (x : Int × Int) (hE : TlE l t g tv A c K d b8 w w1 W) (hp : parseS (wrong l) l = .error x) (hC : ∀ (W : World), TlE l t g tv A c K d b8 w w1 W → ∀ (z0 z2 z3 z4 z5 z6 z9 z11 z12 z13 z14 z15 z16 z17 z18 z19 z20 z21 z22 z23 z24 z25 z26 z27 z28 z29 z30 z31 z32 z33 z34 z35 z36 z37 z38 z39 z40 z41 z42 z43 z44 z45 z46 z47 z48 z49 z50 z51 z52 z53 z54 z55 z56 z57 z58 z59 z60 z61 z62 z63 z64 z65 z66 z67 z68 z69 z70 z71 z72 z73 z74 z75 z76 z77 z78 z79 z80 z81 z82 z83 z84 z85 z86 z87 z88 z89 z90 z91 z92 z93 z94 z95 z96 z97 z98 z99 z100 z101 z102 z103 z104 z105 z106 z107 z108 z109 z110 z111 z112 z113 z114 z115 z116 z117 z118 z119 z120 z121 z122 z123 z124 z125 z126 z127 z128 z129 z130 z131 z132 z133 z134 z135 z136 z137 z138 z139 z140 z141 z142 z143 z144 z145 z146 z147 z148 z149 z150 z151 z152 z153 z154 z155 z156 z157 z158 z159 z160 z161 z162 z163 z164 z165 z166 z167 z168 z169 z170 z171 z172 z173 z174 z175 : Value), Code.wp Tryz.prog tlTailC (bodyPost Tryz.prog Tryz.f4 (TrueT w)) { tmps := (z0 :: .string ⟨l.toArray⟩ :: z2 :: z3 :: z4 :: z5 :: z6 :: .pointer (some ⟨g, 0, none⟩) :: .pointer (some ⟨b8, 0, none⟩) :: z9 :: .int .i64 8 :: z11 :: z12 :: z13 :: z14 :: z15 :: z16 :: z17 :: z18 :: z19 :: z20 :: z21 :: z22 :: z23 :: z24 :: z25 :: z26 :: z27 :: z28 :: z29 :: z30 :: z31 :: z32 :: z33 :: z34 :: z35 :: z36 :: z37 :: z38 :: z39 :: z40 :: z41 :: z42 :: z43 :: z44 :: z45 :: z46 :: z47 :: z48 :: z49 :: z50 :: z51 :: z52 :: z53 :: z54 :: z55 :: z56 :: z57 :: z58 :: z59 :: z60 :: z61 :: z62 :: z63 :: z64 :: z65 :: z66 :: z67 :: z68 :: z69 :: z70 :: z71 :: z72 :: z73 :: z74 :: z75 :: z76 :: z77 :: z78 :: z79 :: z80 :: z81 :: z82 :: z83 :: z84 :: z85 :: z86 :: z87 :: z88 :: z89 :: z90 :: z91 :: z92 :: z93 :: z94 :: z95 :: z96 :: z97 :: z98 :: z99 :: z100 :: z101 :: z102 :: z103 :: z104 :: z105 :: z106 :: z107 :: z108 :: z109 :: z110 :: z111 :: z112 :: z113 :: z114 :: z115 :: z116 :: z117 :: z118 :: z119 :: z120 :: z121 :: z122 :: z123 :: z124 :: z125 :: z126 :: z127 :: z128 :: z129 :: z130 :: z131 :: z132 :: z133 :: z134 :: z135 :: z136 :: z137 :: z138 :: z139 :: z140 :: z141 :: z142 :: z143 :: z144 :: z145 :: z146 :: z147 :: z148 :: z149 :: z150 :: z151 :: z152 :: z153 :: z154 :: z155 :: z156 :: z157 :: z158 :: z159 :: z160 :: z161 :: z162 :: z163 :: z164 :: z165 :: z166 :: z167 :: z168 :: z169 :: z170 :: z171 :: z172 :: z173 :: z174 :: z175 :: []).toArray, defers := [] } W) (z0 z2 z3 z4 z5 z6 z9 z11 z14 z15 z16 z17 z18 z19 z20 z21 z22 z23 z24 z25 z26 z27 z28 z29 z30 z31 z32 z33 z34 z35 z36 z37 z38 z39 z40 z41 z42 z43 z44 z45 z46 z47 z48 z49 z50 z51 z52 z53 z54 z55 z56 z57 z58 z59 z60 z61 z62 z63 z64 z65 z66 z67 z68 z69 z70 z71 z72 z73 z74 z75 z76 z77 z78 z79 z80 z81 z82 z83 z84 z85 z86 z87 z88 z89 z90 z91 z92 z93 z94 z95 z96 z97 z98 z99 z100 z101 z102 z103 z104 z105 z106 z107 z108 z109 z110 z111 z112 z113 z114 z115 z116 z117 z118 z119 z120 z121 z122 z123 z124 z125 z126 z127 z128 z129 z130 z131 z132 z133 z134 z135 z136 z137 z138 z139 z140 z141 z142 z143 z144 z145 z146 z147 z148 z149 z150 z151 z152 z153 z154 z155 z156 z157 z158 z159 z160 z161 z162 z163 z164 z165 z166 z167 z168 z169 z170 z171 z172 z173 z174 z175 : Value) :
  Code.wp Tryz.prog tlTailB (bodyPost Tryz.prog Tryz.f4 (TrueT w)) { tmps := (z0 :: .string ⟨l.toArray⟩ :: z2 :: z3 :: z4 :: z5 :: z6 :: .pointer (some ⟨g, 0, none⟩) :: .pointer (some ⟨b8, 0, none⟩) :: z9 :: .int .i64 8 :: z11 :: .iface 53 (.pointer none) :: .bool true :: z14 :: z15 :: z16 :: z17 :: z18 :: z19 :: z20 :: z21 :: z22 :: z23 :: z24 :: z25 :: z26 :: z27 :: z28 :: z29 :: z30 :: z31 :: z32 :: z33 :: z34 :: z35 :: z36 :: z37 :: z38 :: z39 :: z40 :: z41 :: z42 :: z43 :: z44 :: z45 :: z46 :: z47 :: z48 :: z49 :: z50 :: z51 :: z52 :: z53 :: z54 :: z55 :: z56 :: z57 :: z58 :: z59 :: z60 :: z61 :: z62 :: z63 :: z64 :: z65 :: z66 :: z67 :: z68 :: z69 :: z70 :: z71 :: z72 :: z73 :: z74 :: z75 :: z76 :: z77 :: z78 :: z79 :: z80 :: z81 :: z82 :: z83 :: z84 :: z85 :: z86 :: z87 :: z88 :: z89 :: z90 :: z91 :: z92 :: z93 :: z94 :: z95 :: z96 :: z97 :: z98 :: z99 :: z100 :: z101 :: z102 :: z103 :: z104 :: z105 :: z106 :: z107 :: z108 :: z109 :: z110 :: z111 :: z112 :: z113 :: z114 :: z115 :: z116 :: z117 :: z118 :: z119 :: z120 :: z121 :: z122 :: z123 :: z124 :: z125 :: z126 :: z127 :: z128 :: z129 :: z130 :: z131 :: z132 :: z133 :: z134 :: z135 :: z136 :: z137 :: z138 :: z139 :: z140 :: z141 :: z142 :: z143 :: z144 :: z145 :: z146 :: z147 :: z148 :: z149 :: z150 :: z151 :: z152 :: z153 :: z154 :: z155 :: z156 :: z157 :: z158 :: z159 :: z160 :: z161 :: z162 :: z163 :: z164 :: z165 :: z166 :: z167 :: z168 :: z169 :: z170 :: z171 :: z172 :: z173 :: z174 :: z175 :: []).toArray, defers := [] } W := by
 have HE := Lib.hid hE
 have HP := Lib.hid hp
 have HCC := Lib.hid hC
 clear hE hp hC
 conv => arg 2; whnf
 apply wp_seq_k
 intro K9 hK9
 go_cut [] (fun wx => TlE l t g tv A c K d b8 w w1 wx)
 case rest =>
  go_step
  exact HCC.out _ hcut _ _ _ _ _ _ _ _ _ _ _ _ _ _ _ _ _ _ _ _ _ _ _ _ _ _ _ _ _ _ _ _ _ _ _ _ _ _ _ _ _ _ _ _ _ _ _ _ _ _ _ _ _ _ _ _ _ _ _ _ _ _ _ _ _ _ _ _ _ _ _ _ _ _ _ _ _ _ _ _ _ _ _ _ _ _ _ _ _ _ _ _ _ _ _ _ _ _ _ _ _ _ _ _ _ _ _ _ _ _ _ _ _ _ _ _ _ _ _ _ _ _ _ _ _ _ _ _ _ _ _ _ _ _ _ _ _ _ _ _ _ _ _ _ _ _ _ _ _ _ _ _ _ _ _ _ _ _ _ _ _ _ _ _ _ _ _ _ _ _ _ _
 clear HCC
 have t1 := wa_7_11
 have hpa : ∀ W, Calls Tryz.prog 19 #[.string ⟨l.toArray⟩] W (RefParseP l W) := fun W => refParse_any ⟨l.toArray⟩ (by have := HE.out.len; show l.toArray.size ≤ _; simp; omega) W
 have HPA := Lib.hid hpa
 clear hpa
 go_wp2_with fail
 ((with_reducible refine (HPA.out W).mono ?_); rintro e w2 ⟨hb2, herr, hok⟩)
 obtain rfl := herr x HP.out
 clear herr hok
 have HRN : Hid (Rd w2 (.slice none 0 0) ([] : List Tx)) := Lib.hid ⟨none, 0, rfl, fun j h => by simp at h⟩
 replace HE := Lib.hid (HE.out.step hb2)
 clear HPA
 clear hb2
 have HLD : Hid (Calls Tryz.prog 20 #[valV t A c K d, .slice none 0 0] w2 (RLeadP w1 t [] w2)) := Lib.hid (rlead_any t A c K d none 0 [] w1 w2 HE.out.rv HE.out.bw1 HE.out.ok HE.out.fit HRN.out (fun x h => by simp at h) (by simp))
 have y0 := HE.out.box.cell 0
 have y1 := HE.out.box.cell 1
 have y2 := HE.out.box.cell 2
 have y3 := HE.out.box.cell 3
 have y4 := HE.out.box.cell 4
 have y5 := HE.out.box.cell 5
 simp at y0 y1 y2 y3 y4 y5
 go_wp2_with fail
 clear y0 y1 y2 y3 y4 y5
 ((with_reducible refine HLD.out.mono ?_); rintro e w3 ⟨he, hb3⟩)
 rw [lead_nil] at he
 obtain ⟨A2, c2, K2, d2, rfl, _⟩ := he
 replace HE := Lib.hid ((HE.out.step hb3).new (.cells #[.int .i64 (t.srt : Nat), .bool t.fl, .int .u64 (t.bi : Nat), .string ⟨t.tx.toArray⟩, .slice A2 t.kids.length c2, .slice K2 t.kn.length d2] 28))
 clear hb3
 go_wp2_with fail
 go_meet
 exact HE.out
theorem tb_lost (l : List UInt8) (t : Tr) (g : Nat) (tv : Value) (A : Option Addr) (c : Nat) (K : Option Addr) (d b8 : Nat) (w w1 W : World) (ts : List (List UInt8)) (n gl : Nat) (hE : TlE l t g tv A c K d b8 w w1 W) (hL : Blk W gl 60 #[.int .i64 n]) (hp : parseS (wrong l) l = .ok ts ∧ leadT t ts 0 = .inl n) (hC : ∀ (W : World), TlE l t g tv A c K d b8 w w1 W → ∀ (z0 z2 z3 z4 z5 z6 z9 z11 z12 z13 z14 z15 z16 z17 z18 z19 z20 z21 z22 z23 z24 z25 z26 z27 z28 z29 z30 z31 z32 z33 z34 z35 z36 z37 z38 z39 z40 z41 z42 z43 z44 z45 z46 z47 z48 z49 z50 z51 z52 z53 z54 z55 z56 z57 z58 z59 z60 z61 z62 z63 z64 z65 z66 z67 z68 z69 z70 z71 z72 z73 z74 z75 z76 z77 z78 z79 z80 z81 z82 z83 z84 z85 z86 z87 z88 z89 z90 z91 z92 z93 z94 z95 z96 z97 z98 z99 z100 z101 z102 z103 z104 z105 z106 z107 z108 z109 z110 z111 z112 z113 z114 z115 z116 z117 z118 z119 z120 z121 z122 z123 z124 z125 z126 z127 z128 z129 z130 z131 z132 z133 z134 z135 z136 z137 z138 z139 z140 z141 z142 z143 z144 z145 z146 z147 z148 z149 z150 z151 z152 z153 z154 z155 z156 z157 z158 z159 z160 z161 z162 z163 z164 z165 z166 z167 z168 z169 z170 z171 z172 z173 z174 z175 : Value), Code.wp Tryz.prog tlTailC (bodyPost Tryz.prog Tryz.f4 (TrueT w)) { tmps := (z0 :: .string ⟨l.toArray⟩ :: z2 :: z3 :: z4 :: z5 :: z6 :: .pointer (some ⟨g, 0, none⟩) :: .pointer (some ⟨b8, 0, none⟩) :: z9 :: .int .i64 7 :: z11 :: z12 :: z13 :: z14 :: z15 :: z16 :: z17 :: z18 :: z19 :: z20 :: z21 :: z22 :: z23 :: z24 :: z25 :: z26 :: z27 :: z28 :: z29 :: z30 :: z31 :: z32 :: z33 :: z34 :: z35 :: z36 :: z37 :: z38 :: z39 :: z40 :: z41 :: z42 :: z43 :: z44 :: z45 :: z46 :: z47 :: z48 :: z49 :: z50 :: z51 :: z52 :: z53 :: z54 :: z55 :: z56 :: z57 :: z58 :: z59 :: z60 :: z61 :: z62 :: z63 :: z64 :: z65 :: z66 :: z67 :: z68 :: z69 :: z70 :: z71 :: z72 :: z73 :: z74 :: z75 :: z76 :: z77 :: z78 :: z79 :: z80 :: z81 :: z82 :: z83 :: z84 :: z85 :: z86 :: z87 :: z88 :: z89 :: z90 :: z91 :: z92 :: z93 :: z94 :: z95 :: z96 :: z97 :: z98 :: z99 :: z100 :: z101 :: z102 :: z103 :: z104 :: z105 :: z106 :: z107 :: z108 :: z109 :: z110 :: z111 :: z112 :: z113 :: z114 :: z115 :: z116 :: z117 :: z118 :: z119 :: z120 :: z121 :: z122 :: z123 :: z124 :: z125 :: z126 :: z127 :: z128 :: z129 :: z130 :: z131 :: z132 :: z133 :: z134 :: z135 :: z136 :: z137 :: z138 :: z139 :: z140 :: z141 :: z142 :: z143 :: z144 :: z145 :: z146 :: z147 :: z148 :: z149 :: z150 :: z151 :: z152 :: z153 :: z154 :: z155 :: z156 :: z157 :: z158 :: z159 :: z160 :: z161 :: z162 :: z163 :: z164 :: z165 :: z166 :: z167 :: z168 :: z169 :: z170 :: z171 :: z172 :: z173 :: z174 :: z175 :: []).toArray, defers := [] } W) (z0 z2 z3 z4 z5 z6 z9 z11 z14 z15 z16 z17 z18 z19 z20 z21 z22 z23 z24 z25 z26 z27 z28 z29 z30 z31 z32 z33 z34 z35 z36 z37 z38 z39 z40 z41 z42 z43 z44 z45 z46 z47 z48 z49 z50 z51 z52 z53 z54 z55 z56 z57 z58 z59 z60 z61 z62 z63 z64 z65 z66 z67 z68 z69 z70 z71 z72 z73 z74 z75 z76 z77 z78 z79 z80 z81 z82 z83 z84 z85 z86 z87 z88 z89 z90 z91 z92 z93 z94 z95 z96 z97 z98 z99 z100 z101 z102 z103 z104 z105 z106 z107 z108 z109 z110 z111 z112 z113 z114 z115 z116 z117 z118 z119 z120 z121 z122 z123 z124 z125 z126 z127 z128 z129 z130 z131 z132 z133 z134 z135 z136 z137 z138 z139 z140 z141 z142 z143 z144 z145 z146 z147 z148 z149 z150 z151 z152 z153 z154 z155 z156 z157 z158 z159 z160 z161 z162 z163 z164 z165 z166 z167 z168 z169 z170 z171 z172 z173 z174 z175 : Value) :
  Code.wp Tryz.prog tlTailB (bodyPost Tryz.prog Tryz.f4 (TrueT w)) { tmps := (z0 :: .string ⟨l.toArray⟩ :: z2 :: z3 :: z4 :: z5 :: z6 :: .pointer (some ⟨g, 0, none⟩) :: .pointer (some ⟨b8, 0, none⟩) :: z9 :: .int .i64 7 :: z11 :: .iface 53 (.pointer (some ⟨gl, 0, none⟩)) :: .bool true :: z14 :: z15 :: z16 :: z17 :: z18 :: z19 :: z20 :: z21 :: z22 :: z23 :: z24 :: z25 :: z26 :: z27 :: z28 :: z29 :: z30 :: z31 :: z32 :: z33 :: z34 :: z35 :: z36 :: z37 :: z38 :: z39 :: z40 :: z41 :: z42 :: z43 :: z44 :: z45 :: z46 :: z47 :: z48 :: z49 :: z50 :: z51 :: z52 :: z53 :: z54 :: z55 :: z56 :: z57 :: z58 :: z59 :: z60 :: z61 :: z62 :: z63 :: z64 :: z65 :: z66 :: z67 :: z68 :: z69 :: z70 :: z71 :: z72 :: z73 :: z74 :: z75 :: z76 :: z77 :: z78 :: z79 :: z80 :: z81 :: z82 :: z83 :: z84 :: z85 :: z86 :: z87 :: z88 :: z89 :: z90 :: z91 :: z92 :: z93 :: z94 :: z95 :: z96 :: z97 :: z98 :: z99 :: z100 :: z101 :: z102 :: z103 :: z104 :: z105 :: z106 :: z107 :: z108 :: z109 :: z110 :: z111 :: z112 :: z113 :: z114 :: z115 :: z116 :: z117 :: z118 :: z119 :: z120 :: z121 :: z122 :: z123 :: z124 :: z125 :: z126 :: z127 :: z128 :: z129 :: z130 :: z131 :: z132 :: z133 :: z134 :: z135 :: z136 :: z137 :: z138 :: z139 :: z140 :: z141 :: z142 :: z143 :: z144 :: z145 :: z146 :: z147 :: z148 :: z149 :: z150 :: z151 :: z152 :: z153 :: z154 :: z155 :: z156 :: z157 :: z158 :: z159 :: z160 :: z161 :: z162 :: z163 :: z164 :: z165 :: z166 :: z167 :: z168 :: z169 :: z170 :: z171 :: z172 :: z173 :: z174 :: z175 :: []).toArray, defers := [] } W := by
 have HE := Lib.hid hE
 have HP := Lib.hid hp
 have HCC := Lib.hid hC
 clear hE hp hC
 conv => arg 2; whnf
 apply wp_seq_k
 intro K9 hK9
 go_cut [] (fun wx => TlE l t g tv A c K d b8 w w1 wx)
 case rest =>
  go_step
  exact HCC.out _ hcut _ _ _ _ _ _ _ _ _ _ _ _ _ _ _ _ _ _ _ _ _ _ _ _ _ _ _ _ _ _ _ _ _ _ _ _ _ _ _ _ _ _ _ _ _ _ _ _ _ _ _ _ _ _ _ _ _ _ _ _ _ _ _ _ _ _ _ _ _ _ _ _ _ _ _ _ _ _ _ _ _ _ _ _ _ _ _ _ _ _ _ _ _ _ _ _ _ _ _ _ _ _ _ _ _ _ _ _ _ _ _ _ _ _ _ _ _ _ _ _ _ _ _ _ _ _ _ _ _ _ _ _ _ _ _ _ _ _ _ _ _ _ _ _ _ _ _ _ _ _ _ _ _ _ _ _ _ _ _ _ _ _ _ _ _ _ _ _ _ _ _ _
 clear HCC
 have t1 := wa_7_11
 have hpa : ∀ W, Calls Tryz.prog 19 #[.string ⟨l.toArray⟩] W (RefParseP l W) := fun W => refParse_any ⟨l.toArray⟩ (by have := HE.out.len; show l.toArray.size ≤ _; simp; omega) W
 have HPA := Lib.hid hpa
 clear hpa
 go_wp2_with fail
 ((with_reducible refine (HPA.out W).mono ?_); rintro e w2 ⟨hb2, herr, hok⟩)
 obtain ⟨v, rfl, hown⟩ := hok ts HP.out.1
 obtain ⟨TA, tc, rfl⟩ := own_slice hown
 have HRD := Lib.hid (Rd.of_own hown : Rd w2 (.slice TA ts.length tc) ts)
 have HTF := Lib.hid (toks_fine HP.out.1)
 have HLO := Lib.hid (hL.below hb2 hL.lt)
 clear herr hok hown hL
 replace HE := Lib.hid (HE.out.step hb2)
 clear HPA
 clear hb2
 have y0 := HE.out.box.cell 0
 have y1 := HE.out.box.cell 1
 have y2 := HE.out.box.cell 2
 have y3 := HE.out.box.cell 3
 have y4 := HE.out.box.cell 4
 have y5 := HE.out.box.cell 5
 simp at y0 y1 y2 y3 y4 y5
 go_wp2_with fail
 clear y0 y1 y2 y3 y4 y5
 ((with_reducible refine (rlead_any t A c K d TA tc ts w1 w2 HE.out.rv HE.out.bw1 HE.out.ok HE.out.fit HRD.out (fun x hx => by have := (HTF.out.1 x hx).2; have := HE.out.len; omega) HTF.out.2.1).mono ?_); rintro e w3 ⟨he, hb3⟩)
 rw [HP.out.2] at he
 obtain rfl := he
 have hl3 := HLO.out.below hb3 HLO.out.lt
 have HLX := Lib.hid (hl3.alloc (.cells #[.int .i64 0, .bool false, .int .u64 0, .string ⟨#[]⟩, .slice none 0 0, .slice none 0 0] 28))
 have hcl := HLX.out.cell 0
 simp at hcl
 have e1 : ((n : Int) != (n : Int)) = false := by simp
 replace HE := Lib.hid ((HE.out.step hb3).new (.cells #[.int .i64 0, .bool false, .int .u64 0, .string ⟨#[]⟩, .slice none 0 0, .slice none 0 0] 28))
 clear hb3 hl3 HLO HLX HRD HTF
 go_wp2_with fail
 go_meet
 exact HE.out
theorem ta_skip (l : List UInt8) (t : Tr) (g : Nat) (tv : Value) (A : Option Addr) (c : Nat) (K : Option Addr) (d b8 : Nat) (w w1 W : World) (k : Nat) (b : Bool) (y : Value) (hs : 7 ≤ k ∨ b = false) (hB : ∀ (z0 z2 z3 z4 z5 z6 z9 z11 z14 z15 z16 z17 z18 z19 z20 z21 z22 z23 z24 z25 z26 z27 z28 z29 z30 z31 z32 z33 z34 z35 z36 z37 z38 z39 z40 z41 z42 z43 z44 z45 z46 z47 z48 z49 z50 z51 z52 z53 z54 z55 z56 z57 z58 z59 z60 z61 z62 z63 z64 z65 z66 z67 z68 z69 z70 z71 z72 z73 z74 z75 z76 z77 z78 z79 z80 z81 z82 z83 z84 z85 z86 z87 z88 z89 z90 z91 z92 z93 z94 z95 z96 z97 z98 z99 z100 z101 z102 z103 z104 z105 z106 z107 z108 z109 z110 z111 z112 z113 z114 z115 z116 z117 z118 z119 z120 z121 z122 z123 z124 z125 z126 z127 z128 z129 z130 z131 z132 z133 z134 z135 z136 z137 z138 z139 z140 z141 z142 z143 z144 z145 z146 z147 z148 z149 z150 z151 z152 z153 z154 z155 z156 z157 z158 z159 z160 z161 z162 z163 z164 z165 z166 z167 z168 z169 z170 z171 z172 z173 z174 z175 : Value), Code.wp Tryz.prog tlTailB (bodyPost Tryz.prog Tryz.f4 (TrueT w)) { tmps := (z0 :: .string ⟨l.toArray⟩ :: z2 :: z3 :: z4 :: z5 :: z6 :: .pointer (some ⟨g, 0, none⟩) :: .pointer (some ⟨b8, 0, none⟩) :: z9 :: .int .i64 (k : Nat) :: z11 :: y :: .bool b :: z14 :: z15 :: z16 :: z17 :: z18 :: z19 :: z20 :: z21 :: z22 :: z23 :: z24 :: z25 :: z26 :: z27 :: z28 :: z29 :: z30 :: z31 :: z32 :: z33 :: z34 :: z35 :: z36 :: z37 :: z38 :: z39 :: z40 :: z41 :: z42 :: z43 :: z44 :: z45 :: z46 :: z47 :: z48 :: z49 :: z50 :: z51 :: z52 :: z53 :: z54 :: z55 :: z56 :: z57 :: z58 :: z59 :: z60 :: z61 :: z62 :: z63 :: z64 :: z65 :: z66 :: z67 :: z68 :: z69 :: z70 :: z71 :: z72 :: z73 :: z74 :: z75 :: z76 :: z77 :: z78 :: z79 :: z80 :: z81 :: z82 :: z83 :: z84 :: z85 :: z86 :: z87 :: z88 :: z89 :: z90 :: z91 :: z92 :: z93 :: z94 :: z95 :: z96 :: z97 :: z98 :: z99 :: z100 :: z101 :: z102 :: z103 :: z104 :: z105 :: z106 :: z107 :: z108 :: z109 :: z110 :: z111 :: z112 :: z113 :: z114 :: z115 :: z116 :: z117 :: z118 :: z119 :: z120 :: z121 :: z122 :: z123 :: z124 :: z125 :: z126 :: z127 :: z128 :: z129 :: z130 :: z131 :: z132 :: z133 :: z134 :: z135 :: z136 :: z137 :: z138 :: z139 :: z140 :: z141 :: z142 :: z143 :: z144 :: z145 :: z146 :: z147 :: z148 :: z149 :: z150 :: z151 :: z152 :: z153 :: z154 :: z155 :: z156 :: z157 :: z158 :: z159 :: z160 :: z161 :: z162 :: z163 :: z164 :: z165 :: z166 :: z167 :: z168 :: z169 :: z170 :: z171 :: z172 :: z173 :: z174 :: z175 :: []).toArray, defers := [] } W) (z0 z2 z3 z4 z5 z6 z9 z11 z14 z15 z16 z17 z18 z19 z20 z21 z22 z23 z24 z25 z26 z27 z28 z29 z30 z31 z32 z33 z34 z35 z36 z37 z38 z39 z40 z41 z42 z43 z44 z45 z46 z47 z48 z49 z50 z51 z52 z53 z54 z55 z56 z57 z58 z59 z60 z61 z62 z63 z64 z65 z66 z67 z68 z69 z70 z71 z72 z73 z74 z75 z76 z77 z78 z79 z80 z81 z82 z83 z84 z85 z86 z87 z88 z89 z90 z91 z92 z93 z94 z95 z96 z97 z98 z99 z100 z101 z102 z103 z104 z105 z106 z107 z108 z109 z110 z111 z112 z113 z114 z115 z116 z117 z118 z119 z120 z121 z122 z123 z124 z125 z126 z127 z128 z129 z130 z131 z132 z133 z134 z135 z136 z137 z138 z139 z140 z141 z142 z143 z144 z145 z146 z147 z148 z149 z150 z151 z152 z153 z154 z155 z156 z157 z158 z159 z160 z161 z162 z163 z164 z165 z166 z167 z168 z169 z170 z171 z172 z173 z174 z175 : Value) :
  Code.wp Tryz.prog tlTailA (bodyPost Tryz.prog Tryz.f4 (TrueT w)) { tmps := (z0 :: .string ⟨l.toArray⟩ :: z2 :: z3 :: z4 :: z5 :: z6 :: .pointer (some ⟨g, 0, none⟩) :: .pointer (some ⟨b8, 0, none⟩) :: z9 :: .int .i64 (k : Nat) :: z11 :: y :: .bool b :: z14 :: z15 :: z16 :: z17 :: z18 :: z19 :: z20 :: z21 :: z22 :: z23 :: z24 :: z25 :: z26 :: z27 :: z28 :: z29 :: z30 :: z31 :: z32 :: z33 :: z34 :: z35 :: z36 :: z37 :: z38 :: z39 :: z40 :: z41 :: z42 :: z43 :: z44 :: z45 :: z46 :: z47 :: z48 :: z49 :: z50 :: z51 :: z52 :: z53 :: z54 :: z55 :: z56 :: z57 :: z58 :: z59 :: z60 :: z61 :: z62 :: z63 :: z64 :: z65 :: z66 :: z67 :: z68 :: z69 :: z70 :: z71 :: z72 :: z73 :: z74 :: z75 :: z76 :: z77 :: z78 :: z79 :: z80 :: z81 :: z82 :: z83 :: z84 :: z85 :: z86 :: z87 :: z88 :: z89 :: z90 :: z91 :: z92 :: z93 :: z94 :: z95 :: z96 :: z97 :: z98 :: z99 :: z100 :: z101 :: z102 :: z103 :: z104 :: z105 :: z106 :: z107 :: z108 :: z109 :: z110 :: z111 :: z112 :: z113 :: z114 :: z115 :: z116 :: z117 :: z118 :: z119 :: z120 :: z121 :: z122 :: z123 :: z124 :: z125 :: z126 :: z127 :: z128 :: z129 :: z130 :: z131 :: z132 :: z133 :: z134 :: z135 :: z136 :: z137 :: z138 :: z139 :: z140 :: z141 :: z142 :: z143 :: z144 :: z145 :: z146 :: z147 :: z148 :: z149 :: z150 :: z151 :: z152 :: z153 :: z154 :: z155 :: z156 :: z157 :: z158 :: z159 :: z160 :: z161 :: z162 :: z163 :: z164 :: z165 :: z166 :: z167 :: z168 :: z169 :: z170 :: z171 :: z172 :: z173 :: z174 :: z175 :: []).toArray, defers := [] } W := by
 have HS := Lib.hid hs
 have HBB := Lib.hid hB
 clear hs hB
 conv => arg 2; whnf
 apply wp_seq_k
 intro K9 hK9
 go_cut [] (fun wx => wx = W)
 case rest =>
  subst hcut
  go_step
  exact HBB.out  _ _ _ _ _ _ _ _ _ _ _ _ _ _ _ _ _ _ _ _ _ _ _ _ _ _ _ _ _ _ _ _ _ _ _ _ _ _ _ _ _ _ _ _ _ _ _ _ _ _ _ _ _ _ _ _ _ _ _ _ _ _ _ _ _ _ _ _ _ _ _ _ _ _ _ _ _ _ _ _ _ _ _ _ _ _ _ _ _ _ _ _ _ _ _ _ _ _ _ _ _ _ _ _ _ _ _ _ _ _ _ _ _ _ _ _ _ _ _ _ _ _ _ _ _ _ _ _ _ _ _ _ _ _ _ _ _ _ _ _ _ _ _ _ _ _ _ _ _ _ _ _ _ _ _ _ _ _ _ _ _ _ _ _ _ _ _ _ _ _
 clear HBB
 by_cases h0 : 1 ≤ k
 ·have e0 : ((k : Int) ≥ 1) = True := by simp; omega
  by_cases h7 : k ≤ 6
  ·have hbf : b = false := HS.out.resolve_left (by omega)
   subst hbf
   have e7 : ((k : Int) ≤ 6) = True := by simp; omega
   clear HS
   go_wp2_with fail
   go_meet
   exact rfl
  ·have e7 : ((k : Int) ≤ 6) = False := by simp; omega
   clear HS
   go_wp2_with fail
   go_meet
   exact rfl
 ·have e0 : ((k : Int) ≥ 1) = False := by simp; omega
  clear HS
  go_wp2_with fail
  go_meet
  exact rfl
theorem ta_some (l : List UInt8) (t : Tr) (g : Nat) (tv : Value) (A : Option Addr) (c : Nat) (K : Option Addr) (d b8 : Nat) (w w1 W : World) (k : Nat) (u : Tr) (T1 : TypeId) (U1 : Value) (ts : List (List UInt8)) (hE : TlE l t g tv A c K d b8 w w1 W) (hk : u.srt = k ∧ parseS (wrong l) l = .ok ts ∧ leadT t ts 0 = .inr u) (hT : TdA W u (.iface T1 U1)) (hB : ∀ W, TlE l t g tv A c K d b8 w w1 W → ∀ (z0 z2 z3 z4 z5 z6 z9 z11 z14 z15 z16 z17 z18 z19 z20 z21 z22 z23 z24 z25 z26 z27 z28 z29 z30 z31 z32 z33 z34 z35 z36 z37 z38 z39 z40 z41 z42 z43 z44 z45 z46 z47 z48 z49 z50 z51 z52 z53 z54 z55 z56 z57 z58 z59 z60 z61 z62 z63 z64 z65 z66 z67 z68 z69 z70 z71 z72 z73 z74 z75 z76 z77 z78 z79 z80 z81 z82 z83 z84 z85 z86 z87 z88 z89 z90 z91 z92 z93 z94 z95 z96 z97 z98 z99 z100 z101 z102 z103 z104 z105 z106 z107 z108 z109 z110 z111 z112 z113 z114 z115 z116 z117 z118 z119 z120 z121 z122 z123 z124 z125 z126 z127 z128 z129 z130 z131 z132 z133 z134 z135 z136 z137 z138 z139 z140 z141 z142 z143 z144 z145 z146 z147 z148 z149 z150 z151 z152 z153 z154 z155 z156 z157 z158 z159 z160 z161 z162 z163 z164 z165 z166 z167 z168 z169 z170 z171 z172 z173 z174 z175 : Value), Code.wp Tryz.prog tlTailB (bodyPost Tryz.prog Tryz.f4 (TrueT w)) { tmps := (z0 :: .string ⟨l.toArray⟩ :: z2 :: z3 :: z4 :: z5 :: z6 :: .pointer (some ⟨g, 0, none⟩) :: .pointer (some ⟨b8, 0, none⟩) :: z9 :: .int .i64 (k : Nat) :: z11 :: .iface T1 U1 :: .bool true :: z14 :: z15 :: z16 :: z17 :: z18 :: z19 :: z20 :: z21 :: z22 :: z23 :: z24 :: z25 :: z26 :: z27 :: z28 :: z29 :: z30 :: z31 :: z32 :: z33 :: z34 :: z35 :: z36 :: z37 :: z38 :: z39 :: z40 :: z41 :: z42 :: z43 :: z44 :: z45 :: z46 :: z47 :: z48 :: z49 :: z50 :: z51 :: z52 :: z53 :: z54 :: z55 :: z56 :: z57 :: z58 :: z59 :: z60 :: z61 :: z62 :: z63 :: z64 :: z65 :: z66 :: z67 :: z68 :: z69 :: z70 :: z71 :: z72 :: z73 :: z74 :: z75 :: z76 :: z77 :: z78 :: z79 :: z80 :: z81 :: z82 :: z83 :: z84 :: z85 :: z86 :: z87 :: z88 :: z89 :: z90 :: z91 :: z92 :: z93 :: z94 :: z95 :: z96 :: z97 :: z98 :: z99 :: z100 :: z101 :: z102 :: z103 :: z104 :: z105 :: z106 :: z107 :: z108 :: z109 :: z110 :: z111 :: z112 :: z113 :: z114 :: z115 :: z116 :: z117 :: z118 :: z119 :: z120 :: z121 :: z122 :: z123 :: z124 :: z125 :: z126 :: z127 :: z128 :: z129 :: z130 :: z131 :: z132 :: z133 :: z134 :: z135 :: z136 :: z137 :: z138 :: z139 :: z140 :: z141 :: z142 :: z143 :: z144 :: z145 :: z146 :: z147 :: z148 :: z149 :: z150 :: z151 :: z152 :: z153 :: z154 :: z155 :: z156 :: z157 :: z158 :: z159 :: z160 :: z161 :: z162 :: z163 :: z164 :: z165 :: z166 :: z167 :: z168 :: z169 :: z170 :: z171 :: z172 :: z173 :: z174 :: z175 :: []).toArray, defers := [] } W) (z0 z2 z3 z4 z5 z6 z9 z11 z14 z15 z16 z17 z18 z19 z20 z21 z22 z23 z24 z25 z26 z27 z28 z29 z30 z31 z32 z33 z34 z35 z36 z37 z38 z39 z40 z41 z42 z43 z44 z45 z46 z47 z48 z49 z50 z51 z52 z53 z54 z55 z56 z57 z58 z59 z60 z61 z62 z63 z64 z65 z66 z67 z68 z69 z70 z71 z72 z73 z74 z75 z76 z77 z78 z79 z80 z81 z82 z83 z84 z85 z86 z87 z88 z89 z90 z91 z92 z93 z94 z95 z96 z97 z98 z99 z100 z101 z102 z103 z104 z105 z106 z107 z108 z109 z110 z111 z112 z113 z114 z115 z116 z117 z118 z119 z120 z121 z122 z123 z124 z125 z126 z127 z128 z129 z130 z131 z132 z133 z134 z135 z136 z137 z138 z139 z140 z141 z142 z143 z144 z145 z146 z147 z148 z149 z150 z151 z152 z153 z154 z155 z156 z157 z158 z159 z160 z161 z162 z163 z164 z165 z166 z167 z168 z169 z170 z171 z172 z173 z174 z175 : Value) :
  Code.wp Tryz.prog tlTailA (bodyPost Tryz.prog Tryz.f4 (TrueT w)) { tmps := (z0 :: .string ⟨l.toArray⟩ :: z2 :: z3 :: z4 :: z5 :: z6 :: .pointer (some ⟨g, 0, none⟩) :: .pointer (some ⟨b8, 0, none⟩) :: z9 :: .int .i64 (k : Nat) :: z11 :: .iface T1 U1 :: .bool true :: z14 :: z15 :: z16 :: z17 :: z18 :: z19 :: z20 :: z21 :: z22 :: z23 :: z24 :: z25 :: z26 :: z27 :: z28 :: z29 :: z30 :: z31 :: z32 :: z33 :: z34 :: z35 :: z36 :: z37 :: z38 :: z39 :: z40 :: z41 :: z42 :: z43 :: z44 :: z45 :: z46 :: z47 :: z48 :: z49 :: z50 :: z51 :: z52 :: z53 :: z54 :: z55 :: z56 :: z57 :: z58 :: z59 :: z60 :: z61 :: z62 :: z63 :: z64 :: z65 :: z66 :: z67 :: z68 :: z69 :: z70 :: z71 :: z72 :: z73 :: z74 :: z75 :: z76 :: z77 :: z78 :: z79 :: z80 :: z81 :: z82 :: z83 :: z84 :: z85 :: z86 :: z87 :: z88 :: z89 :: z90 :: z91 :: z92 :: z93 :: z94 :: z95 :: z96 :: z97 :: z98 :: z99 :: z100 :: z101 :: z102 :: z103 :: z104 :: z105 :: z106 :: z107 :: z108 :: z109 :: z110 :: z111 :: z112 :: z113 :: z114 :: z115 :: z116 :: z117 :: z118 :: z119 :: z120 :: z121 :: z122 :: z123 :: z124 :: z125 :: z126 :: z127 :: z128 :: z129 :: z130 :: z131 :: z132 :: z133 :: z134 :: z135 :: z136 :: z137 :: z138 :: z139 :: z140 :: z141 :: z142 :: z143 :: z144 :: z145 :: z146 :: z147 :: z148 :: z149 :: z150 :: z151 :: z152 :: z153 :: z154 :: z155 :: z156 :: z157 :: z158 :: z159 :: z160 :: z161 :: z162 :: z163 :: z164 :: z165 :: z166 :: z167 :: z168 :: z169 :: z170 :: z171 :: z172 :: z173 :: z174 :: z175 :: []).toArray, defers := [] } W := by
 have HE := Lib.hid hE
 have HK := Lib.hid hk
 have HBB := Lib.hid hB
 have HT := Lib.hid hT
 have hk1 : 1 ≤ k ∧ k ≤ 6 := by rw [← hk.1]; cases u <;> simp [Tr.srt]
 have e0 : ((k : Int) ≥ 1) = True := by simp; omega
 have e7 : ((k : Int) ≤ 6) = True := by simp; omega
 clear hE hk hB hT hk1
 conv => arg 2; whnf
 apply wp_seq_k
 intro K9 hK9
 go_cut [] (fun wx => TlE l t g tv A c K d b8 w w1 wx)
 case rest =>
  go_step
  exact HBB.out _ hcut _ _ _ _ _ _ _ _ _ _ _ _ _ _ _ _ _ _ _ _ _ _ _ _ _ _ _ _ _ _ _ _ _ _ _ _ _ _ _ _ _ _ _ _ _ _ _ _ _ _ _ _ _ _ _ _ _ _ _ _ _ _ _ _ _ _ _ _ _ _ _ _ _ _ _ _ _ _ _ _ _ _ _ _ _ _ _ _ _ _ _ _ _ _ _ _ _ _ _ _ _ _ _ _ _ _ _ _ _ _ _ _ _ _ _ _ _ _ _ _ _ _ _ _ _ _ _ _ _ _ _ _ _ _ _ _ _ _ _ _ _ _ _ _ _ _ _ _ _ _ _ _ _ _ _ _ _ _ _ _ _ _ _ _ _ _ _ _ _ _
 clear HBB
 have y0 := HE.out.box.cell 0
 have y1 := HE.out.box.cell 1
 have y2 := HE.out.box.cell 2
 have y3 := HE.out.box.cell 3
 have y4 := HE.out.box.cell 4
 have y5 := HE.out.box.cell 5
 simp at y0 y1 y2 y3 y4 y5
 go_wp2_with fail
 clear y0 y1 y2 y3 y4 y5
 ((with_reducible refine (rffind_any t A c K d l w1 W HE.out.rv HE.out.bw1 HE.out.ok HE.out.fit (by have := HE.out.len; omega)).mono ?_); rintro e w3 ⟨he, hb3⟩)
 rw [HK.out.2.1] at he
 dsimp only at he
 rw [HK.out.2.2] at he
 dsimp only at he
 obtain ⟨A2, c2, K2, d2, rfl, hru, huo⟩ := he
 have hb33 : Below W.heap.size W ((w3.alloc (.cells #[.int .i64 (u.srt : Nat), .bool u.fl, .int .u64 (u.bi : Nat), .string ⟨u.tx.toArray⟩, .slice A2 u.kids.length c2, .slice K2 u.kn.length d2] 28)).alloc (.cells #[.int .i64 0, .int .i64 0, .bool false, .string ⟨#[]⟩] 49)) := (hb3.alloc hb3.size _).alloc (by have := hb3.size; simp; omega) _
 have HU := Lib.hid ((Blk.new w3 28 #[.int .i64 (u.srt : Nat), .bool u.fl, .int .u64 (u.bi : Nat), .string ⟨u.tx.toArray⟩, .slice A2 u.kids.length c2, .slice K2 u.kn.length d2]).alloc (.cells #[.int .i64 0, .int .i64 0, .bool false, .string ⟨#[]⟩] 49))
 have HUO := Lib.hid huo
 have HRU := Lib.hid (rdva_below (rdva_below hru HE.out.bw1) hb33)
 have HTU := Lib.hid (tda_below HT.out hb33)
 replace HE := Lib.hid (HE.out.step hb33)
 clear hb3 hb33 hru huo HT
 go_upto_region 9 with fail
 generalize hw4 : ((w3.alloc (.cells #[.int .i64 (u.srt : Nat), .bool u.fl, .int .u64 (u.bi : Nat), .string ⟨u.tx.toArray⟩, .slice A2 u.kids.length c2, .slice K2 u.kn.length d2] 28)).alloc (.cells #[.int .i64 0, .int .i64 0, .bool false, .string ⟨#[]⟩] 49)) = w4 at *
 clear hw4
 have u0 := HU.out.cell 0
 have u1 := HU.out.cell 1
 have u2 := HU.out.cell 2
 have u3 := HU.out.cell 3
 have u4 := HU.out.cell 4
 have u5 := HU.out.cell 5
 simp at u0 u1 u2 u3 u4 u5
 go_wp2_with fail
 ((with_reducible refine (same14_any u HUO.out.1 (fit_le HUO.out.2).1 (.iface T1 U1) ((A2, c2), (K2, d2)) w4 HTU.out HRU.out).mono ?_); rintro e w5 ⟨rfl, hb5⟩)
 replace HE := Lib.hid (HE.out.step hb5)
 clear hb5 u0 u1 u2 u3 u4 u5
 go_wp2_with fail
 go_meet
 exact HE.out
theorem tc_any (l : List UInt8) (t : Tr) (g : Nat) (tv : Value) (A : Option Addr) (c : Nat) (K : Option Addr) (d b8 : Nat) (w w1 W : World) (k : Nat) (hE : TlE l t g tv A c K d b8 w w1 W) (hk : lookK (some t) l = k) (z0 z2 z3 z4 z5 z6 z9 z11 z12 z13 z14 z15 z16 z17 z18 z19 z20 z21 z22 z23 z24 z25 z26 z27 z28 z29 z30 z31 z32 z33 z34 z35 z36 z37 z38 z39 z40 z41 z42 z43 z44 z45 z46 z47 z48 z49 z50 z51 z52 z53 z54 z55 z56 z57 z58 z59 z60 z61 z62 z63 z64 z65 z66 z67 z68 z69 z70 z71 z72 z73 z74 z75 z76 z77 z78 z79 z80 z81 z82 z83 z84 z85 z86 z87 z88 z89 z90 z91 z92 z93 z94 z95 z96 z97 z98 z99 z100 z101 z102 z103 z104 z105 z106 z107 z108 z109 z110 z111 z112 z113 z114 z115 z116 z117 z118 z119 z120 z121 z122 z123 z124 z125 z126 z127 z128 z129 z130 z131 z132 z133 z134 z135 z136 z137 z138 z139 z140 z141 z142 z143 z144 z145 z146 z147 z148 z149 z150 z151 z152 z153 z154 z155 z156 z157 z158 z159 z160 z161 z162 z163 z164 z165 z166 z167 z168 z169 z170 z171 z172 z173 z174 z175 : Value) :
  Code.wp Tryz.prog tlTailC (bodyPost Tryz.prog Tryz.f4 (TrueT w)) { tmps := (z0 :: .string ⟨l.toArray⟩ :: z2 :: z3 :: z4 :: z5 :: z6 :: .pointer (some ⟨g, 0, none⟩) :: .pointer (some ⟨b8, 0, none⟩) :: z9 :: .int .i64 (k : Nat) :: z11 :: z12 :: z13 :: z14 :: z15 :: z16 :: z17 :: z18 :: z19 :: z20 :: z21 :: z22 :: z23 :: z24 :: z25 :: z26 :: z27 :: z28 :: z29 :: z30 :: z31 :: z32 :: z33 :: z34 :: z35 :: z36 :: z37 :: z38 :: z39 :: z40 :: z41 :: z42 :: z43 :: z44 :: z45 :: z46 :: z47 :: z48 :: z49 :: z50 :: z51 :: z52 :: z53 :: z54 :: z55 :: z56 :: z57 :: z58 :: z59 :: z60 :: z61 :: z62 :: z63 :: z64 :: z65 :: z66 :: z67 :: z68 :: z69 :: z70 :: z71 :: z72 :: z73 :: z74 :: z75 :: z76 :: z77 :: z78 :: z79 :: z80 :: z81 :: z82 :: z83 :: z84 :: z85 :: z86 :: z87 :: z88 :: z89 :: z90 :: z91 :: z92 :: z93 :: z94 :: z95 :: z96 :: z97 :: z98 :: z99 :: z100 :: z101 :: z102 :: z103 :: z104 :: z105 :: z106 :: z107 :: z108 :: z109 :: z110 :: z111 :: z112 :: z113 :: z114 :: z115 :: z116 :: z117 :: z118 :: z119 :: z120 :: z121 :: z122 :: z123 :: z124 :: z125 :: z126 :: z127 :: z128 :: z129 :: z130 :: z131 :: z132 :: z133 :: z134 :: z135 :: z136 :: z137 :: z138 :: z139 :: z140 :: z141 :: z142 :: z143 :: z144 :: z145 :: z146 :: z147 :: z148 :: z149 :: z150 :: z151 :: z152 :: z153 :: z154 :: z155 :: z156 :: z157 :: z158 :: z159 :: z160 :: z161 :: z162 :: z163 :: z164 :: z165 :: z166 :: z167 :: z168 :: z169 :: z170 :: z171 :: z172 :: z173 :: z174 :: z175 :: []).toArray, defers := [] } W := by
 have hk0 := hk
 unfold lookK at hk0
 dsimp only at hk0
 cases hp : parseS (wrong l) l with
 | error x =>
  rw [hp] at hk0
  dsimp only at hk0
  exact tc_none l t g tv A c K d b8 w w1 W k hE hk (by omega) (by omega) _ _ _ _ _ _ _ _ _ _ _ _ _ _ _ _ _ _ _ _ _ _ _ _ _ _ _ _ _ _ _ _ _ _ _ _ _ _ _ _ _ _ _ _ _ _ _ _ _ _ _ _ _ _ _ _ _ _ _ _ _ _ _ _ _ _ _ _ _ _ _ _ _ _ _ _ _ _ _ _ _ _ _ _ _ _ _ _ _ _ _ _ _ _ _ _ _ _ _ _ _ _ _ _ _ _ _ _ _ _ _ _ _ _ _ _ _ _ _ _ _ _ _ _ _ _ _ _ _ _ _ _ _ _ _ _ _ _ _ _ _ _ _ _ _ _ _ _ _ _ _ _ _ _ _ _ _ _ _ _ _ _ _ _ _ _ _ _ _ _ _ _
 | ok ts =>
  rw [hp] at hk0
  dsimp only at hk0
  cases hle : leadT t ts 0 with
  | inl n =>
   rw [hle] at hk0
   dsimp only at hk0
   exact tc_none l t g tv A c K d b8 w w1 W k hE hk (by omega) (by omega) _ _ _ _ _ _ _ _ _ _ _ _ _ _ _ _ _ _ _ _ _ _ _ _ _ _ _ _ _ _ _ _ _ _ _ _ _ _ _ _ _ _ _ _ _ _ _ _ _ _ _ _ _ _ _ _ _ _ _ _ _ _ _ _ _ _ _ _ _ _ _ _ _ _ _ _ _ _ _ _ _ _ _ _ _ _ _ _ _ _ _ _ _ _ _ _ _ _ _ _ _ _ _ _ _ _ _ _ _ _ _ _ _ _ _ _ _ _ _ _ _ _ _ _ _ _ _ _ _ _ _ _ _ _ _ _ _ _ _ _ _ _ _ _ _ _ _ _ _ _ _ _ _ _ _ _ _ _ _ _ _ _ _ _ _ _ _ _ _ _ _ _
  | inr u =>
   rw [hle] at hk0
   dsimp only at hk0
   have hu := lead_ok ts t u 0 hE.ok hE.fit hle
   have hn := (fit_le hu.2).1
   cases u with
   | list us =>
    have h5 : k = 5 := by rw [← hk0]; rfl
    subst h5
    have hll := nodes_len us
    unfold Tr.nodes at hn
    exact tc_list l t g tv A c K d b8 w w1 W ts us hE hp hle (by omega) _ _ _ _ _ _ _ _ _ _ _ _ _ _ _ _ _ _ _ _ _ _ _ _ _ _ _ _ _ _ _ _ _ _ _ _ _ _ _ _ _ _ _ _ _ _ _ _ _ _ _ _ _ _ _ _ _ _ _ _ _ _ _ _ _ _ _ _ _ _ _ _ _ _ _ _ _ _ _ _ _ _ _ _ _ _ _ _ _ _ _ _ _ _ _ _ _ _ _ _ _ _ _ _ _ _ _ _ _ _ _ _ _ _ _ _ _ _ _ _ _ _ _ _ _ _ _ _ _ _ _ _ _ _ _ _ _ _ _ _ _ _ _ _ _ _ _ _ _ _ _ _ _ _ _ _ _ _ _ _ _ _ _ _ _ _ _ _ _ _ _ _
   | obj ks us =>
    have h6 : k = 6 := by rw [← hk0]; rfl
    subst h6
    have hll := nodes_len us
    unfold Tr.nodes at hn
    have hks := hu.1
    unfold Tr.Ok at hks
    exact tc_obj l t g tv A c K d b8 w w1 W ts ks us hE hp hle ⟨by omega, by omega⟩ _ _ _ _ _ _ _ _ _ _ _ _ _ _ _ _ _ _ _ _ _ _ _ _ _ _ _ _ _ _ _ _ _ _ _ _ _ _ _ _ _ _ _ _ _ _ _ _ _ _ _ _ _ _ _ _ _ _ _ _ _ _ _ _ _ _ _ _ _ _ _ _ _ _ _ _ _ _ _ _ _ _ _ _ _ _ _ _ _ _ _ _ _ _ _ _ _ _ _ _ _ _ _ _ _ _ _ _ _ _ _ _ _ _ _ _ _ _ _ _ _ _ _ _ _ _ _ _ _ _ _ _ _ _ _ _ _ _ _ _ _ _ _ _ _ _ _ _ _ _ _ _ _ _ _ _ _ _ _ _ _ _ _ _ _ _ _ _ _ _ _ _
   | null => exact tc_none l t g tv A c K d b8 w w1 W k hE hk (by rw [← hk0]; simp [Tr.srt]) (by rw [← hk0]; simp [Tr.srt]) _ _ _ _ _ _ _ _ _ _ _ _ _ _ _ _ _ _ _ _ _ _ _ _ _ _ _ _ _ _ _ _ _ _ _ _ _ _ _ _ _ _ _ _ _ _ _ _ _ _ _ _ _ _ _ _ _ _ _ _ _ _ _ _ _ _ _ _ _ _ _ _ _ _ _ _ _ _ _ _ _ _ _ _ _ _ _ _ _ _ _ _ _ _ _ _ _ _ _ _ _ _ _ _ _ _ _ _ _ _ _ _ _ _ _ _ _ _ _ _ _ _ _ _ _ _ _ _ _ _ _ _ _ _ _ _ _ _ _ _ _ _ _ _ _ _ _ _ _ _ _ _ _ _ _ _ _ _ _ _ _ _ _ _ _ _ _ _ _ _ _ _
   | flag b => exact tc_none l t g tv A c K d b8 w w1 W k hE hk (by rw [← hk0]; simp [Tr.srt]) (by rw [← hk0]; simp [Tr.srt]) _ _ _ _ _ _ _ _ _ _ _ _ _ _ _ _ _ _ _ _ _ _ _ _ _ _ _ _ _ _ _ _ _ _ _ _ _ _ _ _ _ _ _ _ _ _ _ _ _ _ _ _ _ _ _ _ _ _ _ _ _ _ _ _ _ _ _ _ _ _ _ _ _ _ _ _ _ _ _ _ _ _ _ _ _ _ _ _ _ _ _ _ _ _ _ _ _ _ _ _ _ _ _ _ _ _ _ _ _ _ _ _ _ _ _ _ _ _ _ _ _ _ _ _ _ _ _ _ _ _ _ _ _ _ _ _ _ _ _ _ _ _ _ _ _ _ _ _ _ _ _ _ _ _ _ _ _ _ _ _ _ _ _ _ _ _ _ _ _ _ _ _
   | num x => exact tc_none l t g tv A c K d b8 w w1 W k hE hk (by rw [← hk0]; simp [Tr.srt]) (by rw [← hk0]; simp [Tr.srt]) _ _ _ _ _ _ _ _ _ _ _ _ _ _ _ _ _ _ _ _ _ _ _ _ _ _ _ _ _ _ _ _ _ _ _ _ _ _ _ _ _ _ _ _ _ _ _ _ _ _ _ _ _ _ _ _ _ _ _ _ _ _ _ _ _ _ _ _ _ _ _ _ _ _ _ _ _ _ _ _ _ _ _ _ _ _ _ _ _ _ _ _ _ _ _ _ _ _ _ _ _ _ _ _ _ _ _ _ _ _ _ _ _ _ _ _ _ _ _ _ _ _ _ _ _ _ _ _ _ _ _ _ _ _ _ _ _ _ _ _ _ _ _ _ _ _ _ _ _ _ _ _ _ _ _ _ _ _ _ _ _ _ _ _ _ _ _ _ _ _ _ _
   | text s => exact tc_none l t g tv A c K d b8 w w1 W k hE hk (by rw [← hk0]; simp [Tr.srt]) (by rw [← hk0]; simp [Tr.srt]) _ _ _ _ _ _ _ _ _ _ _ _ _ _ _ _ _ _ _ _ _ _ _ _ _ _ _ _ _ _ _ _ _ _ _ _ _ _ _ _ _ _ _ _ _ _ _ _ _ _ _ _ _ _ _ _ _ _ _ _ _ _ _ _ _ _ _ _ _ _ _ _ _ _ _ _ _ _ _ _ _ _ _ _ _ _ _ _ _ _ _ _ _ _ _ _ _ _ _ _ _ _ _ _ _ _ _ _ _ _ _ _ _ _ _ _ _ _ _ _ _ _ _ _ _ _ _ _ _ _ _ _ _ _ _ _ _ _ _ _ _ _ _ _ _ _ _ _ _ _ _ _ _ _ _ _ _ _ _ _ _ _ _ _ _ _ _ _ _ _ _ _
end Nd
end Go.Proofs.YtlailcmhpnnidaaGreatDoor
