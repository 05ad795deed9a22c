/-
  The law AskTells: its end.
-/
import Derived.Test.YtlailcmhpnnidaaGreatDoorS31
import Derived.Test.YtlailcmhpnnidaaGreatDoorS29
set_option linter.unusedVariables false
set_option linter.unusedSimpArgs false
set_option maxRecDepth 100000
set_option maxHeartbeats 16000000
namespace Go.Proofs.YtlailcmhpnnidaaGreatDoor
open Go.RowKit Mem Utf Ref3 Idx Tok TokC
namespace Nd
def TrueT (w : World) (e : Ending) (w' : World) : Prop := e = .returned (.bool true) ∧ Below w.heap.size w w'
noncomputable def tlTailC : Code := nextOf (nextOf (nextOf (nextOf (nextOf (nextOf (nextOf (nextOf (Tryz.f4.body.getD .skip))))))))
noncomputable def tlTailB : Code := nextOf (nextOf (nextOf (nextOf (nextOf (nextOf (nextOf (Tryz.f4.body.getD .skip)))))))
noncomputable def tlTailA : Code := nextOf (nextOf (nextOf (nextOf (nextOf (nextOf (Tryz.f4.body.getD .skip))))))
structure TlE (l : List UInt8) (t : Tr) (g : Nat) (tv : Value) (A : Option Addr) (c : Nat) (K : Option Addr) (d b8 : Nat) (w w1 W : World) : Prop where
 blk : Blk w1 g 155 #[tv]
 rd : RdA w1 t tv
 rv : RdVA w1 t ((A, c), (K, d))
 bw1 : Below w1.heap.size w1 W
 ok : t.Ok
 fit : t.fit = true
 len : l.length ≤ 2097152
 glob : Glob W
 tab : Tab W
 box : Blk W b8 28 #[.int .i64 (t.srt : Nat), .bool t.fl, .int .u64 (t.bi : Nat), .string ⟨t.tx.toArray⟩, .slice A t.kids.length c, .slice K t.kn.length d]
 bw : Below w.heap.size w W
theorem TlE.step {l : List UInt8} {t : Tr} {g : Nat} {tv : Value} {A : Option Addr} {c : Nat} {K : Option Addr} {d b8 : Nat} {w w1 W : World} {W' : World} (h : TlE l t g tv A c K d b8 w w1 W) (hb : Below W.heap.size W W') : TlE l t g tv A c K d b8 w w1 W' :=
 ⟨h.blk, h.rd, h.rv, h.bw1.trans (hb.mono h.bw1.size), h.ok, h.fit, h.len, h.glob.next hb, h.tab.next hb, h.box.below hb h.box.lt, h.bw.trans (hb.mono h.bw.size)⟩
theorem TlE.new {l : List UInt8} {t : Tr} {g : Nat} {tv : Value} {A : Option Addr} {c : Nat} {K : Option Addr} {d b8 : Nat} {w w1 W : World} (h : TlE l t g tv A c K d b8 w w1 W) (o : Obj) : TlE l t g tv A c K d b8 w w1 (W.alloc o) := h.step ((Below.refl _ _).alloc (Nat.le_refl _) _)
theorem tc_none (l : List UInt8) (t : Tr) (g : Nat) (tv : Value) (A : Option Addr) (c : Nat) (K : Option Addr) (d b8 : Nat) (w w1 W : World) (k : Nat) (hE : TlE l t g tv A c K d b8 w w1 W) (hk : lookK (some t) l = k) (h5 : k ≠ 5) (h6 : k ≠ 6) (z0 z2 z3 z4 z5 z6 z9 z11 z12 z13 z14 z15 z16 z17 z18 z19 z20 z21 z22 z23 z24 z25 z26 z27 z28 z29 z30 z31 z32 z33 z34 z35 z36 z37 z38 z39 z40 z41 z42 z43 z44 z45 z46 z47 z48 z49 z50 z51 z52 z53 z54 z55 z56 z57 z58 z59 z60 z61 z62 z63 z64 z65 z66 z67 z68 z69 z70 z71 z72 z73 z74 z75 z76 z77 z78 z79 z80 z81 z82 z83 z84 z85 z86 z87 z88 z89 z90 z91 z92 z93 z94 z95 z96 z97 z98 z99 z100 z101 z102 z103 z104 z105 z106 z107 z108 z109 z110 z111 z112 z113 z114 z115 z116 z117 z118 z119 z120 z121 z122 z123 z124 z125 z126 z127 z128 z129 z130 z131 z132 z133 z134 z135 z136 z137 z138 z139 z140 z141 z142 z143 z144 z145 z146 z147 z148 z149 z150 z151 z152 z153 z154 z155 z156 z157 z158 z159 z160 z161 z162 z163 z164 z165 z166 z167 z168 z169 z170 z171 z172 z173 z174 z175 : Value) :
  Code.wp Tryz.prog tlTailC (bodyPost Tryz.prog Tryz.f4 (TrueT w)) { tmps := (z0 :: .string ⟨l.toArray⟩ :: z2 :: z3 :: z4 :: z5 :: z6 :: .pointer (some ⟨g, 0, none⟩) :: .pointer (some ⟨b8, 0, none⟩) :: z9 :: .int .i64 (k : Nat) :: z11 :: z12 :: z13 :: z14 :: z15 :: z16 :: z17 :: z18 :: z19 :: z20 :: z21 :: z22 :: z23 :: z24 :: z25 :: z26 :: z27 :: z28 :: z29 :: z30 :: z31 :: z32 :: z33 :: z34 :: z35 :: z36 :: z37 :: z38 :: z39 :: z40 :: z41 :: z42 :: z43 :: z44 :: z45 :: z46 :: z47 :: z48 :: z49 :: z50 :: z51 :: z52 :: z53 :: z54 :: z55 :: z56 :: z57 :: z58 :: z59 :: z60 :: z61 :: z62 :: z63 :: z64 :: z65 :: z66 :: z67 :: z68 :: z69 :: z70 :: z71 :: z72 :: z73 :: z74 :: z75 :: z76 :: z77 :: z78 :: z79 :: z80 :: z81 :: z82 :: z83 :: z84 :: z85 :: z86 :: z87 :: z88 :: z89 :: z90 :: z91 :: z92 :: z93 :: z94 :: z95 :: z96 :: z97 :: z98 :: z99 :: z100 :: z101 :: z102 :: z103 :: z104 :: z105 :: z106 :: z107 :: z108 :: z109 :: z110 :: z111 :: z112 :: z113 :: z114 :: z115 :: z116 :: z117 :: z118 :: z119 :: z120 :: z121 :: z122 :: z123 :: z124 :: z125 :: z126 :: z127 :: z128 :: z129 :: z130 :: z131 :: z132 :: z133 :: z134 :: z135 :: z136 :: z137 :: z138 :: z139 :: z140 :: z141 :: z142 :: z143 :: z144 :: z145 :: z146 :: z147 :: z148 :: z149 :: z150 :: z151 :: z152 :: z153 :: z154 :: z155 :: z156 :: z157 :: z158 :: z159 :: z160 :: z161 :: z162 :: z163 :: z164 :: z165 :: z166 :: z167 :: z168 :: z169 :: z170 :: z171 :: z172 :: z173 :: z174 :: z175 :: []).toArray, defers := [] } W := by
 have HE := Lib.hid hE
 have HK := Lib.hid hk
 have HN := Lib.hid (And.intro h5 h6)
 have e5 : ((k : Int) != 5) = true := by rw [bne_iff_ne]; omega
 have e6 : ((k : Int) != 6) = true := by rw [bne_iff_ne]; omega
 clear hE hk h5 h6
 conv => arg 2; whnf
 go_wp2_with fail
 ((with_reducible refine (size_none g t tv l w1 W HE.out.blk HE.out.rd HE.out.bw1 HE.out.ok HE.out.fit (by have := HE.out.len; omega) HE.out.glob HE.out.tab (by rw [HK.out]; exact HN.out)).mono ?_); rintro e w2 ⟨rfl, hb2⟩)
 replace HE := Lib.hid (HE.out.step hb2)
 clear hb2
 go_wp2_with fail
 ((with_reducible refine (works_any _ HE.out.glob HE.out.tab).mono ?_); rintro e w9 ⟨rfl, hb9⟩)
 have HF := Lib.hid (HE.out.step hb9).bw
 clear hb9 HE
 go_wp2
 go_ret
 exact ⟨rfl, HF.out⟩
theorem rdk_nil14 (w : World) (K : Option Addr) (d : Nat) : RdK w (.slice K 0 d) [] := ⟨K, d, rfl, .inl rfl⟩
theorem tc_list (l : List UInt8) (t : Tr) (g : Nat) (tv : Value) (A : Option Addr) (c : Nat) (K : Option Addr) (d b8 : Nat) (w w1 W : World) (ts : List (List UInt8)) (us : List Tr) (hE : TlE l t g tv A c K d b8 w w1 W) (hp : parseS (wrong l) l = .ok ts) (hle : leadT t ts 0 = .inr (.list us)) (hn : us.length ≤ 1048576) (z0 z2 z3 z4 z5 z6 z9 z11 z12 z13 z14 z15 z16 z17 z18 z19 z20 z21 z22 z23 z24 z25 z26 z27 z28 z29 z30 z31 z32 z33 z34 z35 z36 z37 z38 z39 z40 z41 z42 z43 z44 z45 z46 z47 z48 z49 z50 z51 z52 z53 z54 z55 z56 z57 z58 z59 z60 z61 z62 z63 z64 z65 z66 z67 z68 z69 z70 z71 z72 z73 z74 z75 z76 z77 z78 z79 z80 z81 z82 z83 z84 z85 z86 z87 z88 z89 z90 z91 z92 z93 z94 z95 z96 z97 z98 z99 z100 z101 z102 z103 z104 z105 z106 z107 z108 z109 z110 z111 z112 z113 z114 z115 z116 z117 z118 z119 z120 z121 z122 z123 z124 z125 z126 z127 z128 z129 z130 z131 z132 z133 z134 z135 z136 z137 z138 z139 z140 z141 z142 z143 z144 z145 z146 z147 z148 z149 z150 z151 z152 z153 z154 z155 z156 z157 z158 z159 z160 z161 z162 z163 z164 z165 z166 z167 z168 z169 z170 z171 z172 z173 z174 z175 : Value) :
  Code.wp Tryz.prog tlTailC (bodyPost Tryz.prog Tryz.f4 (TrueT w)) { tmps := (z0 :: .string ⟨l.toArray⟩ :: z2 :: z3 :: z4 :: z5 :: z6 :: .pointer (some ⟨g, 0, none⟩) :: .pointer (some ⟨b8, 0, none⟩) :: z9 :: .int .i64 5 :: z11 :: z12 :: z13 :: z14 :: z15 :: z16 :: z17 :: z18 :: z19 :: z20 :: z21 :: z22 :: z23 :: z24 :: z25 :: z26 :: z27 :: z28 :: z29 :: z30 :: z31 :: z32 :: z33 :: z34 :: z35 :: z36 :: z37 :: z38 :: z39 :: z40 :: z41 :: z42 :: z43 :: z44 :: z45 :: z46 :: z47 :: z48 :: z49 :: z50 :: z51 :: z52 :: z53 :: z54 :: z55 :: z56 :: z57 :: z58 :: z59 :: z60 :: z61 :: z62 :: z63 :: z64 :: z65 :: z66 :: z67 :: z68 :: z69 :: z70 :: z71 :: z72 :: z73 :: z74 :: z75 :: z76 :: z77 :: z78 :: z79 :: z80 :: z81 :: z82 :: z83 :: z84 :: z85 :: z86 :: z87 :: z88 :: z89 :: z90 :: z91 :: z92 :: z93 :: z94 :: z95 :: z96 :: z97 :: z98 :: z99 :: z100 :: z101 :: z102 :: z103 :: z104 :: z105 :: z106 :: z107 :: z108 :: z109 :: z110 :: z111 :: z112 :: z113 :: z114 :: z115 :: z116 :: z117 :: z118 :: z119 :: z120 :: z121 :: z122 :: z123 :: z124 :: z125 :: z126 :: z127 :: z128 :: z129 :: z130 :: z131 :: z132 :: z133 :: z134 :: z135 :: z136 :: z137 :: z138 :: z139 :: z140 :: z141 :: z142 :: z143 :: z144 :: z145 :: z146 :: z147 :: z148 :: z149 :: z150 :: z151 :: z152 :: z153 :: z154 :: z155 :: z156 :: z157 :: z158 :: z159 :: z160 :: z161 :: z162 :: z163 :: z164 :: z165 :: z166 :: z167 :: z168 :: z169 :: z170 :: z171 :: z172 :: z173 :: z174 :: z175 :: []).toArray, defers := [] } W := by
 have HE := Lib.hid hE
 have HP := Lib.hid (And.intro hp (And.intro hle hn))
 clear hE hp hle hn
 conv => arg 2; whnf
 go_wp2_with fail
 ((with_reducible refine (size_list g t tv l w1 W HE.out.blk HE.out.rd HE.out.bw1 HE.out.ok HE.out.fit (by have := HE.out.len; omega) HE.out.glob HE.out.tab ts us HP.out.1 HP.out.2.1).mono ?_); rintro e w2 ⟨rfl, hb2⟩)
 replace HE := Lib.hid (HE.out.step hb2)
 clear hb2
 have y0 := HE.out.box.cell 0
 have y1 := HE.out.box.cell 1
 have y2 := HE.out.box.cell 2
 have y3 := HE.out.box.cell 3
 have y4 := HE.out.box.cell 4
 have y5 := HE.out.box.cell 5
 simp at y0 y1 y2 y3 y4 y5
 go_wp2_with fail
 clear y0 y1 y2 y3 y4 y5
 ((with_reducible refine (rffind_any t A c K d l w1 w2 HE.out.rv HE.out.bw1 HE.out.ok HE.out.fit (by have := HE.out.len; omega)).mono ?_); rintro e w3 ⟨he, hb3⟩)
 rw [HP.out.1] at he
 dsimp only at he
 rw [HP.out.2.1] at he
 dsimp only at he
 obtain ⟨A2, c2, K2, d2, rfl, hru, _⟩ := he
 have hb33 : Below w2.heap.size w2 ((w3.alloc (.cells #[.int .i64 ((Tr.list us).srt : Nat), .bool (Tr.list us).fl, .int .u64 ((Tr.list us).bi : Nat), .string ⟨(Tr.list us).tx.toArray⟩, .slice A2 (Tr.list us).kids.length c2, .slice K2 (Tr.list us).kn.length d2] 28)).alloc (.cells #[.int .i64 0, .int .i64 0, .bool false, .string ⟨#[]⟩] 49)) := (hb3.alloc hb3.size _).alloc (by have := hb3.size; simp; omega) _
 have HU := Lib.hid ((Blk.new w3 28 #[.int .i64 ((Tr.list us).srt : Nat), .bool (Tr.list us).fl, .int .u64 ((Tr.list us).bi : Nat), .string ⟨(Tr.list us).tx.toArray⟩, .slice A2 (Tr.list us).kids.length c2, .slice K2 (Tr.list us).kn.length d2]).alloc (.cells #[.int .i64 0, .int .i64 0, .bool false, .string ⟨#[]⟩] 49))
 replace HE := Lib.hid (HE.out.step hb33)
 clear hb3 hb33
 go_upto_region 21 with fail
 generalize hw4 : ((w3.alloc (.cells #[.int .i64 ((Tr.list us).srt : Nat), .bool (Tr.list us).fl, .int .u64 ((Tr.list us).bi : Nat), .string ⟨(Tr.list us).tx.toArray⟩, .slice A2 (Tr.list us).kids.length c2, .slice K2 (Tr.list us).kn.length d2] 28)).alloc (.cells #[.int .i64 0, .int .i64 0, .bool false, .string ⟨#[]⟩] 49)) = w4 at *
 clear hw4
 have u4 := HU.out.cell 4
 have u5 := HU.out.cell 5
 simp at u4 u5
 have e1 : ((us.length : Int) == ((Tr.list us).kids.length : Int)) = true := by simp [Tr.kids]
 have HRL : Hid (RdK w4 (.slice K2 (Tr.list us).kn.length d2) []) := Lib.hid (rdk_nil14 w4 K2 d2)
 go_wp2_with fail
 ((with_reducible refine (keys_equal [] [] _ _ w4 (rdk_nil14 w4 none 0) HRL.out rfl (by decide)).mono ?_); rintro e w6 ⟨he6, hb6⟩)
 rw [decide_eq_true rfl] at he6
 obtain rfl := he6
 replace HE := Lib.hid (HE.out.step hb6)
 clear hb6
 go_wp2_with fail
 ((with_reducible refine (works_any _ HE.out.glob HE.out.tab).mono ?_); rintro e w9 ⟨rfl, hb9⟩)
 have HF := Lib.hid (HE.out.step hb9).bw
 clear hb9 HE
 go_wp2
 go_ret
 exact ⟨rfl, HF.out⟩
theorem tc_obj (l : List UInt8) (t : Tr) (g : Nat) (tv : Value) (A : Option Addr) (c : Nat) (K : Option Addr) (d b8 : Nat) (w w1 W : World) (ts : List (List UInt8)) (ks : List Tx) (us : List Tr) (hE : TlE l t g tv A c K d b8 w w1 W) (hp : parseS (wrong l) l = .ok ts) (hle : leadT t ts 0 = .inr (.obj ks us)) (hn : us.length ≤ 1048576 ∧ ks.length ≤ 1048576) (z0 z2 z3 z4 z5 z6 z9 z11 z12 z13 z14 z15 z16 z17 z18 z19 z20 z21 z22 z23 z24 z25 z26 z27 z28 z29 z30 z31 z32 z33 z34 z35 z36 z37 z38 z39 z40 z41 z42 z43 z44 z45 z46 z47 z48 z49 z50 z51 z52 z53 z54 z55 z56 z57 z58 z59 z60 z61 z62 z63 z64 z65 z66 z67 z68 z69 z70 z71 z72 z73 z74 z75 z76 z77 z78 z79 z80 z81 z82 z83 z84 z85 z86 z87 z88 z89 z90 z91 z92 z93 z94 z95 z96 z97 z98 z99 z100 z101 z102 z103 z104 z105 z106 z107 z108 z109 z110 z111 z112 z113 z114 z115 z116 z117 z118 z119 z120 z121 z122 z123 z124 z125 z126 z127 z128 z129 z130 z131 z132 z133 z134 z135 z136 z137 z138 z139 z140 z141 z142 z143 z144 z145 z146 z147 z148 z149 z150 z151 z152 z153 z154 z155 z156 z157 z158 z159 z160 z161 z162 z163 z164 z165 z166 z167 z168 z169 z170 z171 z172 z173 z174 z175 : Value) :
  Code.wp Tryz.prog tlTailC (bodyPost Tryz.prog Tryz.f4 (TrueT w)) { tmps := (z0 :: .string ⟨l.toArray⟩ :: z2 :: z3 :: z4 :: z5 :: z6 :: .pointer (some ⟨g, 0, none⟩) :: .pointer (some ⟨b8, 0, none⟩) :: z9 :: .int .i64 6 :: z11 :: z12 :: z13 :: z14 :: z15 :: z16 :: z17 :: z18 :: z19 :: z20 :: z21 :: z22 :: z23 :: z24 :: z25 :: z26 :: z27 :: z28 :: z29 :: z30 :: z31 :: z32 :: z33 :: z34 :: z35 :: z36 :: z37 :: z38 :: z39 :: z40 :: z41 :: z42 :: z43 :: z44 :: z45 :: z46 :: z47 :: z48 :: z49 :: z50 :: z51 :: z52 :: z53 :: z54 :: z55 :: z56 :: z57 :: z58 :: z59 :: z60 :: z61 :: z62 :: z63 :: z64 :: z65 :: z66 :: z67 :: z68 :: z69 :: z70 :: z71 :: z72 :: z73 :: z74 :: z75 :: z76 :: z77 :: z78 :: z79 :: z80 :: z81 :: z82 :: z83 :: z84 :: z85 :: z86 :: z87 :: z88 :: z89 :: z90 :: z91 :: z92 :: z93 :: z94 :: z95 :: z96 :: z97 :: z98 :: z99 :: z100 :: z101 :: z102 :: z103 :: z104 :: z105 :: z106 :: z107 :: z108 :: z109 :: z110 :: z111 :: z112 :: z113 :: z114 :: z115 :: z116 :: z117 :: z118 :: z119 :: z120 :: z121 :: z122 :: z123 :: z124 :: z125 :: z126 :: z127 :: z128 :: z129 :: z130 :: z131 :: z132 :: z133 :: z134 :: z135 :: z136 :: z137 :: z138 :: z139 :: z140 :: z141 :: z142 :: z143 :: z144 :: z145 :: z146 :: z147 :: z148 :: z149 :: z150 :: z151 :: z152 :: z153 :: z154 :: z155 :: z156 :: z157 :: z158 :: z159 :: z160 :: z161 :: z162 :: z163 :: z164 :: z165 :: z166 :: z167 :: z168 :: z169 :: z170 :: z171 :: z172 :: z173 :: z174 :: z175 :: []).toArray, defers := [] } W := by
 have HE := Lib.hid hE
 have HP := Lib.hid (And.intro hp (And.intro hle hn))
 clear hE hp hle hn
 conv => arg 2; whnf
 go_wp2_with fail
 ((with_reducible refine (size_obj g t tv l w1 W HE.out.blk HE.out.rd HE.out.bw1 HE.out.ok HE.out.fit (by have := HE.out.len; omega) HE.out.glob HE.out.tab ts ks us HP.out.2.2.1 HP.out.1 HP.out.2.1).mono ?_); rintro e w2 ⟨⟨uK, rfl, hK2⟩, hb2⟩)
 replace HE := Lib.hid (HE.out.step hb2)
 obtain ⟨A4, c4, rfl, _⟩ := id hK2
 have HK := Lib.hid hK2
 clear hK2
 clear hb2
 have y0 := HE.out.box.cell 0
 have y1 := HE.out.box.cell 1
 have y2 := HE.out.box.cell 2
 have y3 := HE.out.box.cell 3
 have y4 := HE.out.box.cell 4
 have y5 := HE.out.box.cell 5
 simp at y0 y1 y2 y3 y4 y5
 go_wp2_with fail
 clear y0 y1 y2 y3 y4 y5
 ((with_reducible refine (rffind_any t A c K d l w1 w2 HE.out.rv HE.out.bw1 HE.out.ok HE.out.fit (by have := HE.out.len; omega)).mono ?_); rintro e w3 ⟨he, hb3⟩)
 rw [HP.out.1] at he
 dsimp only at he
 rw [HP.out.2.1] at he
 dsimp only at he
 obtain ⟨A2, c2, K2, d2, rfl, hru, _⟩ := he
 have hb33 : Below w2.heap.size w2 ((w3.alloc (.cells #[.int .i64 ((Tr.obj ks us).srt : Nat), .bool (Tr.obj ks us).fl, .int .u64 ((Tr.obj ks us).bi : Nat), .string ⟨(Tr.obj ks us).tx.toArray⟩, .slice A2 (Tr.obj ks us).kids.length c2, .slice K2 (Tr.obj ks us).kn.length d2] 28)).alloc (.cells #[.int .i64 0, .int .i64 0, .bool false, .string ⟨#[]⟩] 49)) := (hb3.alloc hb3.size _).alloc (by have := hb3.size; simp; omega) _
 have HU := Lib.hid ((Blk.new w3 28 #[.int .i64 ((Tr.obj ks us).srt : Nat), .bool (Tr.obj ks us).fl, .int .u64 ((Tr.obj ks us).bi : Nat), .string ⟨(Tr.obj ks us).tx.toArray⟩, .slice A2 (Tr.obj ks us).kids.length c2, .slice K2 (Tr.obj ks us).kn.length d2]).alloc (.cells #[.int .i64 0, .int .i64 0, .bool false, .string ⟨#[]⟩] 49))
 unfold RdVA RdV at hru
 have HRK := Lib.hid (rdk_cells (cellsA_below (cellsA_below hru.1 HE.out.bw1) hb33) d2)
 have HKK := Lib.hid (HK.out.below hb33)
 clear hru
 replace HE := Lib.hid (HE.out.step hb33)
 clear hb3 hb33
 go_upto_region 21 with fail
 generalize hw4 : ((w3.alloc (.cells #[.int .i64 ((Tr.obj ks us).srt : Nat), .bool (Tr.obj ks us).fl, .int .u64 ((Tr.obj ks us).bi : Nat), .string ⟨(Tr.obj ks us).tx.toArray⟩, .slice A2 (Tr.obj ks us).kids.length c2, .slice K2 (Tr.obj ks us).kn.length d2] 28)).alloc (.cells #[.int .i64 0, .int .i64 0, .bool false, .string ⟨#[]⟩] 49)) = w4 at *
 clear hw4
 have u4 := HU.out.cell 4
 have u5 := HU.out.cell 5
 simp at u4 u5
 have e1 : ((us.length : Int) == ((Tr.obj ks us).kids.length : Int)) = true := by simp [Tr.kids]
 have HRO : Hid (RdK w4 (.slice K2 (Tr.obj ks us).kn.length d2) ks) := Lib.hid HRK.out
 go_wp2_with fail
 ((with_reducible refine (keys_equal ks ks _ _ w4 HKK.out HRO.out rfl HP.out.2.2.2).mono ?_); rintro e w6 ⟨he6, hb6⟩)
 rw [decide_eq_true rfl] at he6
 obtain rfl := he6
 replace HE := Lib.hid (HE.out.step hb6)
 clear hb6
 go_wp2_with fail
 ((with_reducible refine (works_any _ HE.out.glob HE.out.tab).mono ?_); rintro e w9 ⟨rfl, hb9⟩)
 have HF := Lib.hid (HE.out.step hb9).bw
 clear hb9 HE
 go_wp2
 go_ret
 exact ⟨rfl, HF.out⟩
end Nd
end Go.Proofs.YtlailcmhpnnidaaGreatDoor
