/-
  The statement ClaimsTimes of layer 25: its walk, its end (printed by wip/gen_clt.py).
-/
import Derived.Test.YtnondmeafilplaaGreatDoorClTA
import Derived.Test.YtnondmeafilplaaGreatDoorClCh
import Derived.Test.YtnondmeafilplaaGreatDoorClSd
namespace Go.Proofs.YtnondmeafilplaaGreatDoor
open Go.RowKit Mem Utf Ref3 Tok Cl
set_option linter.unusedVariables false

/-- the memory of the statement -/
structure TSt (w : World) (CC RC LC : Array Value) (g : Nat) (wr : World) : Prop where
  mC : Blk wr w.heap.size 44 CC
  mR : Blk wr (w.heap.size + 1) 25 RC
  mL : Blk wr g 25 LC
  gB : w.heap.size + 1 < g
  bel : Below w.heap.size w wr
theorem TSt.below {w wr w' : World} {CC RC LC : Array Value} {g : Nat} (h : TSt w CC RC LC g wr) (hb : Below wr.heap.size wr w') : TSt w CC RC LC g w' :=
  ⟨h.mC.below hb h.mC.lt, h.mR.below hb h.mR.lt, h.mL.below hb h.mL.lt, h.gB, below_chain h.bel h.bel.size hb⟩
theorem TSt.alloc {w wr : World} {CC RC LC : Array Value} {g : Nat} (h : TSt w CC RC LC g wr) (o : Obj) : TSt w CC RC LC g (wr.alloc o) :=
  h.below ((Below.refl _ _).alloc (Nat.le_refl _) _)
/-- the forms of a verdict -/
def VForm (v : Value) (x : Verd) : Prop :=
  (x.kind = 1 ∧ v = .iface 85 (.agg #[.int .i64 x.time])) ∨ (∃ p, x.kind ≠ 1 ∧ v = .iface 92 (.pointer (some p))) ∨
  (∃ n, x.kind ≠ 1 ∧ v = .iface 71 (.agg #[.int .i64 n])) ∨ (∃ n, x.kind ≠ 1 ∧ v = .iface 64 (.agg #[.int .i64 n])) ∨
  (∃ s, x.kind ≠ 1 ∧ v = .iface 100 (.agg #[.string s])) ∨ (∃ s, x.kind ≠ 1 ∧ v = .iface 102 (.agg #[.string s])) ∨
  (∃ s, x.kind ≠ 1 ∧ v = .iface 66 (.agg #[s])) ∨ (∃ s, x.kind ≠ 1 ∧ v = .iface 68 (.agg #[s]))
theorem vform {B : Nat} {v : Value} {x : Verd} {w : World} (h : VerdV B w v x) (h7 : x.kind ≤ 7) : VForm v x := by
  obtain ⟨k, t, s, l⟩ := x
  simp only [] at h7
  have h8 : k = 0 ∨ k = 1 ∨ k = 2 ∨ k = 3 ∨ k = 4 ∨ k = 5 ∨ k = 6 ∨ k = 7 := by omega
  unfold VerdV at h
  unfold VForm
  rcases h8 with rfl | rfl | rfl | rfl | rfl | rfl | rfl | rfl <;> simp only [] at h
  · obtain ⟨b, _, rfl, _⟩ := h
    exact .inr (.inl ⟨_, (by simp only []; decide), rfl⟩)
  · exact .inl ⟨rfl, h⟩
  · exact .inr (.inr (.inl ⟨_, (by simp only []; decide), h⟩))
  · exact .inr (.inr (.inr (.inl ⟨_, (by simp only []; decide), h⟩)))
  · exact .inr (.inr (.inr (.inr (.inl ⟨_, (by simp only []; decide), h⟩))))
  · exact .inr (.inr (.inr (.inr (.inr (.inl ⟨_, (by simp only []; decide), h⟩)))))
  · obtain ⟨y, rfl, _⟩ := h
    exact .inr (.inr (.inr (.inr (.inr (.inr (.inl ⟨_, (by simp only []; decide), rfl⟩))))))
  · obtain ⟨y, rfl, _⟩ := h
    exact .inr (.inr (.inr (.inr (.inr (.inr (.inr ⟨_, (by simp only []; decide), rfl⟩))))))
noncomputable def tmTail6 : Code := nextOf (nextOf (nextOf (nextOf (nextOf (nextOf (nextOf (nextOf (nextOf (nextOf (nextOf (nextOf (nextOf (nextOf (nextOf (Tryz.f7.body.getD .skip)))))))))))))))

set_option maxRecDepth 100000 in
set_option maxHeartbeats 8000000 in
theorem tm_tail6 (c : C) (r : R) (x : Int) (A1 A2 A3 B1 B2 B3 : Option Addr) (k1 k2 k3 j1 j2 j3 g : Nat) (v : Value) (pt : Int) (w : World) (K1 : Int) (wr : World)
    (h : ClAt w c (.slice A1 c.has.length k1) (.slice A2 c.for_.length k2) (.slice A3 c.may_.length k3)) (hr : RuAt w r (.slice B1 r.by_.length j1) (.slice B2 r.need.length j2) (.slice B3 r.may_.length j3))
    (GV : Hid (∀ W, Calls Tryz.prog 26 #[v] W fun e w' => e = .returned (.int .i64 K1) ∧ W = w')) (HX4 : Hid (kindP (judgeP c { r with now := pt }) ≠ K1)) (HX12 : Hid (r.now < pt ∧ pt ≤ 9007199254740991))
    (hs : TSt w #[(.slice A1 c.has.length k1), .string ⟨c.about.toArray⟩, .int .i64 c.at_, .string ⟨c.by_.toArray⟩, (.slice A2 c.for_.length k2), .int .i64 c.from_, .string ⟨c.id_.toArray⟩, (.slice A3 c.may_.length k3), .int .i64 c.until_] #[.int .i64 r.now, .int .i64 r.slack, .string ⟨r.who.toArray⟩, (.slice B1 r.by_.length j1), (.slice B2 r.need.length j2), (.slice B3 r.may_.length j3)] #[.int .i64 x, .int .i64 r.slack, .string ⟨r.who.toArray⟩, (.slice B1 r.by_.length j1), (.slice B2 r.need.length j2), (.slice B3 r.may_.length j3)] g wr) (z0 z1 z2 z5 z6 z9 z11 z12 z13 z14 z15 z16 z17 z18 z19 z20 z21 z22 z23 z24 z25 z26 z27 z28 z29 z30 z31 z32 z33 z34 z35 z36 z37 z38 z39 z40 z41 z42 z43 z44 z45 z46 z47 z48 z49 z50 z51 z52 z53 z54 z55 z56 z57 z58 z59 z60 z61 z62 z63 z64 z65 z66 z67 z68 z69 z70 z71 z72 z73 z74 z75 z76 z77 z78 z79 z80 z81 z82 z83 z84 z85 z86 z87 z88 z89 z90 z91 z92 z93 z94 z95 z96 z97 z98 z99 z100 z101 z102 z103 z104 z105 z106 z107 z108 z109 z110 z111 z112 z113 z114 z115 z116 z117 z118 z119 z120 z121 z122 z123 z124 z125 z126 z127 z128 z129 z130 z131 z132 z133 z134 z135 z136 z137 z138 z139 z140 z141 z142 z143 z144 z145 z146 z147 z148 z149 z150 z151 z152 z153 z154 z155 z156 z157 z158 z159 z160 z161 z162 z163 z164 z165 z166 z167 z168 : Value) :
    Code.wp Tryz.prog tmTail6 (bodyPost Tryz.prog Tryz.f7 (fun e w' => e = .returned (.bool true) ∧ Below w.heap.size w w')) { tmps := (z0 :: z1 :: z2 :: .pointer (some ⟨w.heap.size, 0, none⟩) :: .pointer (some ⟨w.heap.size + 1, 0, none⟩) :: z5 :: z6 :: v :: .int .i64 pt :: z9 :: .pointer (some ⟨g, 0, none⟩) :: z11 :: z12 :: z13 :: z14 :: z15 :: z16 :: z17 :: z18 :: z19 :: z20 :: z21 :: z22 :: z23 :: z24 :: z25 :: z26 :: z27 :: z28 :: z29 :: z30 :: z31 :: z32 :: z33 :: z34 :: z35 :: z36 :: z37 :: z38 :: z39 :: z40 :: z41 :: z42 :: z43 :: z44 :: z45 :: z46 :: z47 :: z48 :: z49 :: z50 :: z51 :: z52 :: z53 :: z54 :: z55 :: z56 :: z57 :: z58 :: z59 :: z60 :: z61 :: z62 :: z63 :: z64 :: z65 :: z66 :: z67 :: z68 :: z69 :: z70 :: z71 :: z72 :: z73 :: z74 :: z75 :: z76 :: z77 :: z78 :: z79 :: z80 :: z81 :: z82 :: z83 :: z84 :: z85 :: z86 :: z87 :: z88 :: z89 :: z90 :: z91 :: z92 :: z93 :: z94 :: z95 :: z96 :: z97 :: z98 :: z99 :: z100 :: z101 :: z102 :: z103 :: z104 :: z105 :: z106 :: z107 :: z108 :: z109 :: z110 :: z111 :: z112 :: z113 :: z114 :: z115 :: z116 :: z117 :: z118 :: z119 :: z120 :: z121 :: z122 :: z123 :: z124 :: z125 :: z126 :: z127 :: z128 :: z129 :: z130 :: z131 :: z132 :: z133 :: z134 :: z135 :: z136 :: z137 :: z138 :: z139 :: z140 :: z141 :: z142 :: z143 :: z144 :: z145 :: z146 :: z147 :: z148 :: z149 :: z150 :: z151 :: z152 :: z153 :: z154 :: z155 :: z156 :: z157 :: z158 :: z159 :: z160 :: z161 :: z162 :: z163 :: z164 :: z165 :: z166 :: z167 :: z168 :: []).toArray, defers := [] } wr := by
  have hL5 : Blk (wr.setCell ⟨g, 0, none⟩ (.int .i64 pt)) g 25 #[.int .i64 pt, .int .i64 r.slack, .string ⟨r.who.toArray⟩, (.slice B1 r.by_.length j1), (.slice B2 r.need.length j2), (.slice B3 r.may_.length j3)] := hs.mL.put 0 _
  have hC5 : Blk (wr.setCell ⟨g, 0, none⟩ (.int .i64 pt)) w.heap.size 44 #[(.slice A1 c.has.length k1), .string ⟨c.about.toArray⟩, .int .i64 c.at_, .string ⟨c.by_.toArray⟩, (.slice A2 c.for_.length k2), .int .i64 c.from_, .string ⟨c.id_.toArray⟩, (.slice A3 c.may_.length k3), .int .i64 c.until_] := hs.mC.far (by have := hs.gB; show w.heap.size ≠ g; omega) _
  have hbw5 : Below w.heap.size w (wr.setCell ⟨g, 0, none⟩ (.int .i64 pt)) := hs.bel.setCell (by have := hs.gB; show w.heap.size ≤ g; omega) _
  obtain ⟨g0, g1, g2, g3, g4, g5⟩ := C6 hs.mL
  have hfr0 := hs.mL.frozen 0
  clear hs
  conv => arg 2; whnf
  go_upto_region 26 with fail
  clear g0 g1 g2 g3 g4 g5 hfr0
  generalize wr.setCell ⟨g, 0, none⟩ (.int .i64 pt) = w5 at *
  obtain ⟨f0, f1, f2, f3, f4, f5⟩ := C6 hL5
  obtain ⟨e0, e1, e2, e3, e4, e5, e6, e7, e88⟩ := C9 hC5
  clear hL5 hC5
  go_wp2_with fail
  refine (judge_any c { r with now := pt } _ _ _ _ _ _ _ (h.below hbw5) (ru_now pt (hr.below hbw5))).mono ?_
  rintro e w6 ⟨v6, rfl, hv6, hb6⟩
  have hk7 := judgeP_kind c { r with now := pt }
  have hkk := (vfacts hv6 hk7).kind
  have hbw6 := below_chain hbw5 hbw5.size hb6
  have hne := HX4.out
  clear hbw5 hb6 e0 e1 e2 e3 e4 e5 e6 e7 e88 f0 f1 f2 f3 f4 f5 hv6 hk7 HX4
  generalize kindP (judgeP c { r with now := pt }) = K6 at *
  have e8 : (K6 != K1) = true := by simpa using hne
  clear hne
  go_wp2_with fail
  refine (hkk _).mono ?_
  rintro e w' ⟨rfl, rfl⟩
  go_wp2_with fail
  refine (GV.out _).mono ?_
  rintro e w' ⟨rfl, rfl⟩
  go_wp2
  go_ret
  exact ⟨rfl, hbw6⟩

noncomputable def tmTail5 : Code := nextOf (nextOf (nextOf (nextOf (nextOf (nextOf (nextOf (nextOf (nextOf (nextOf (nextOf (nextOf (nextOf (nextOf (Tryz.f7.body.getD .skip))))))))))))))
noncomputable def tmTail4 : Code := nextOf (nextOf (nextOf (nextOf (nextOf (nextOf (nextOf (nextOf (nextOf (nextOf (nextOf (nextOf (nextOf (Tryz.f7.body.getD .skip)))))))))))))

set_option maxRecDepth 100000 in
set_option maxHeartbeats 8000000 in
theorem tm_tail5 (c : C) (r : R) (x : Int) (A1 A2 A3 B1 B2 B3 : Option Addr) (k1 k2 k3 j1 j2 j3 g : Nat) (v y : Value) (pt : Int) (ok : Bool) (w wr : World)
    (h : ClAt w c (.slice A1 c.has.length k1) (.slice A2 c.for_.length k2) (.slice A3 c.may_.length k3)) (hr : RuAt w r (.slice B1 r.by_.length j1) (.slice B2 r.need.length j2) (.slice B3 r.may_.length j3))
    (hv : VFacts v (judgeP c r)) (hy : VFacts y (judgeP c { r with now := x })) (HY : Hid (VForm y (judgeP c { r with now := x }))) (HCH : Hid (changeP c r = (pt, ok))) (HOK : Hid (TimesOk c r x)) (HB : Hid (0 ≤ r.now ∧ r.now ≤ x ∧ x ≤ 9007199254740991 ∧ 0 ≤ r.slack ∧ r.slack ≤ 9007199254740991))
    (hs : TSt w #[(.slice A1 c.has.length k1), .string ⟨c.about.toArray⟩, .int .i64 c.at_, .string ⟨c.by_.toArray⟩, (.slice A2 c.for_.length k2), .int .i64 c.from_, .string ⟨c.id_.toArray⟩, (.slice A3 c.may_.length k3), .int .i64 c.until_] #[.int .i64 r.now, .int .i64 r.slack, .string ⟨r.who.toArray⟩, (.slice B1 r.by_.length j1), (.slice B2 r.need.length j2), (.slice B3 r.may_.length j3)] #[.int .i64 x, .int .i64 r.slack, .string ⟨r.who.toArray⟩, (.slice B1 r.by_.length j1), (.slice B2 r.need.length j2), (.slice B3 r.may_.length j3)] g wr) (hok : ok = true) (z0 z1 z2 z5 z6 z12 z13 z14 z15 z16 z17 z18 z19 z20 z21 z22 z23 z24 z25 z26 z27 z28 z29 z30 z31 z32 z33 z34 z35 z36 z37 z38 z39 z40 z41 z42 z43 z44 z45 z46 z47 z48 z49 z50 z51 z52 z53 z54 z55 z56 z57 z58 z59 z60 z61 z62 z63 z64 z65 z66 z67 z68 z69 z70 z71 z72 z73 z74 z75 z76 z77 z78 z79 z80 z81 z82 z83 z84 z85 z86 z87 z88 z89 z90 z91 z92 z93 z94 z95 z96 z97 z98 z99 z100 z101 z102 z103 z104 z105 z106 z107 z108 z109 z110 z111 z112 z113 z114 z115 z116 z117 z118 z119 z120 z121 z122 z123 z124 z125 z126 z127 z128 z129 z130 z131 z132 z133 z134 z135 z136 z137 z138 z139 z140 z141 z142 z143 z144 z145 z146 z147 z148 z149 z150 z151 z152 z153 z154 z155 z156 z157 z158 z159 z160 z161 z162 z163 z164 z165 z166 z167 z168 : Value) :
    Code.wp Tryz.prog tmTail5 (bodyPost Tryz.prog Tryz.f7 (fun e w' => e = .returned (.bool true) ∧ Below w.heap.size w w')) { tmps := (z0 :: z1 :: z2 :: .pointer (some ⟨w.heap.size, 0, none⟩) :: .pointer (some ⟨w.heap.size + 1, 0, none⟩) :: z5 :: z6 :: v :: .int .i64 pt :: .bool ok :: .pointer (some ⟨g, 0, none⟩) :: y :: z12 :: z13 :: z14 :: z15 :: z16 :: z17 :: z18 :: z19 :: z20 :: z21 :: z22 :: z23 :: z24 :: z25 :: z26 :: z27 :: z28 :: z29 :: z30 :: z31 :: z32 :: z33 :: z34 :: z35 :: z36 :: z37 :: z38 :: z39 :: z40 :: z41 :: z42 :: z43 :: z44 :: z45 :: z46 :: z47 :: z48 :: z49 :: z50 :: z51 :: z52 :: z53 :: z54 :: z55 :: z56 :: z57 :: z58 :: z59 :: z60 :: z61 :: z62 :: z63 :: z64 :: z65 :: z66 :: z67 :: z68 :: z69 :: z70 :: z71 :: z72 :: z73 :: z74 :: z75 :: z76 :: z77 :: z78 :: z79 :: z80 :: z81 :: z82 :: z83 :: z84 :: z85 :: z86 :: z87 :: z88 :: z89 :: z90 :: z91 :: z92 :: z93 :: z94 :: z95 :: z96 :: z97 :: z98 :: z99 :: z100 :: z101 :: z102 :: z103 :: z104 :: z105 :: z106 :: z107 :: z108 :: z109 :: z110 :: z111 :: z112 :: z113 :: z114 :: z115 :: z116 :: z117 :: z118 :: z119 :: z120 :: z121 :: z122 :: z123 :: z124 :: z125 :: z126 :: z127 :: z128 :: z129 :: z130 :: z131 :: z132 :: z133 :: z134 :: z135 :: z136 :: z137 :: z138 :: z139 :: z140 :: z141 :: z142 :: z143 :: z144 :: z145 :: z146 :: z147 :: z148 :: z149 :: z150 :: z151 :: z152 :: z153 :: z154 :: z155 :: z156 :: z157 :: z158 :: z159 :: z160 :: z161 :: z162 :: z163 :: z164 :: z165 :: z166 :: z167 :: z168 :: []).toArray, defers := [] } wr := by
  subst hok
  obtain ⟨hx1, hx2, hx3, hx4⟩ := (show r.now < pt ∧ pt ≤ 9007199254740991 ∧ (x < pt → kindP (judgeP c r) = kindP (judgeP c { r with now := x })) ∧ kindP (judgeP c { r with now := pt }) ≠ kindP (judgeP c r) from by
    have := HOK.out.yes
    rw [HCH.out] at this
    exact this rfl)
  have hkv := hv.kind
  have hky := hy.kind
  obtain ⟨K1, hK1⟩ : ∃ k, kindP (judgeP c r) = k := ⟨_, rfl⟩
  obtain ⟨K2, hK2⟩ : ∃ k, kindP (judgeP c { r with now := x }) = k := ⟨_, rfl⟩
  rw [hK1] at hx3 hx4 hkv
  rw [hK2] at hx3 hky
  have GV := Lib.hid hkv
  have GY := Lib.hid hky
  have HX3 := Lib.hid hx3
  have HX4 := Lib.hid hx4
  have HX12 := Lib.hid (And.intro hx1 hx2)
  clear hkv hky hK1 hK2 hx3 hx4 hx1 hx2
  conv => arg 2; whnf
  apply wp_seq_k
  intro K9 hK9
  go_cut [] (fun wx => wx = wr)
  case rest =>
    subst hcut
    go_step
    exact tm_tail6 c r x A1 A2 A3 B1 B2 B3 k1 k2 k3 j1 j2 j3 g v pt w K1 _ h hr GV HX4 HX12 hs _ _ _ _ _ _ _ _ _ _ _ _ _ _ _ _ _ _ _ _ _ _ _ _ _ _ _ _ _ _ _ _ _ _ _ _ _ _ _ _ _ _ _ _ _ _ _ _ _ _ _ _ _ _ _ _ _ _ _ _ _ _ _ _ _ _ _ _ _ _ _ _ _ _ _ _ _ _ _ _ _ _ _ _ _ _ _ _ _ _ _ _ _ _ _ _ _ _ _ _ _ _ _ _ _ _ _ _ _ _ _ _ _ _ _ _ _ _ _ _ _ _ _ _ _ _ _ _ _ _ _ _ _ _ _ _ _ _ _ _ _ _ _ _ _ _ _ _ _ _ _ _ _ _ _ _ _ _ _ _ _ _ _ _
  obtain ⟨f0, f1, f2, f3, f4, f5⟩ := C6 hs.mR
  obtain ⟨g0, g1, g2, g3, g4, g5⟩ := C6 hs.mL
  clear f1 f2 f3 f4 f5 g1 g2 g3 g4 g5
  obtain ⟨hx1, hx2⟩ := HX12.out
  have d1 : decide (pt ≤ r.now) = false := decide_eq_false (by omega)
  have d2 : decide (9007199254740991 < pt) = false := decide_eq_false (by omega)
  by_cases hlt : x < pt
  · have e1 : (K1 != K2) = false := by rw [HX3.out hlt]; simp
    go_wp2_with fail
    refine (GV.out _).mono ?_
    rintro e w' ⟨rfl, rfl⟩
    go_wp2_with fail
    refine (GY.out _).mono ?_
    rintro e w' ⟨rfl, rfl⟩
    go_wp2_with fail
    go_meet
    exact rfl
  · go_wp2_with fail
    go_meet
    exact rfl

end Go.Proofs.YtnondmeafilplaaGreatDoor
