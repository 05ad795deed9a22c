/-
  The statement ClaimsTimes of layer 25: its walk, Holds (printed by wip/gen_clt.py).
-/
import Derived.Test.YtnondmeafilplaaGreatDoorClTC
namespace Go.Proofs.YtnondmeafilplaaGreatDoor
open Go.RowKit Mem Utf Ref3 Tok Cl
set_option linter.unusedVariables false

noncomputable def tmTail3 : Code := nextOf (nextOf (nextOf (nextOf (nextOf (nextOf (nextOf (nextOf (nextOf (nextOf (nextOf (nextOf (Tryz.f7.body.getD .skip))))))))))))

set_option maxRecDepth 100000 in
set_option maxHeartbeats 8000000 in
theorem tm_tail3 (c : C) (r : R) (x : Int) (A1 A2 A3 B1 B2 B3 : Option Addr) (k1 k2 k3 j1 j2 j3 g : Nat) (v y : Value) (pt : Int) (ok : Bool) (w wr : World)
    (h : ClAt w c (.slice A1 c.has.length k1) (.slice A2 c.for_.length k2) (.slice A3 c.may_.length k3)) (hr : RuAt w r (.slice B1 r.by_.length j1) (.slice B2 r.need.length j2) (.slice B3 r.may_.length j3))
    (hv : VFacts v (judgeP c r)) (hy : VFacts y (judgeP c { r with now := x })) (HY : Hid (VForm y (judgeP c { r with now := x }))) (HCH : Hid (changeP c r = (pt, ok))) (HOK : Hid (TimesOk c r x)) (HB : Hid (0 ≤ r.now ∧ r.now ≤ x ∧ x ≤ 9007199254740991 ∧ 0 ≤ r.slack ∧ r.slack ≤ 9007199254740991))
    (hs : TSt w #[(.slice A1 c.has.length k1), .string ⟨c.about.toArray⟩, .int .i64 c.at_, .string ⟨c.by_.toArray⟩, (.slice A2 c.for_.length k2), .int .i64 c.from_, .string ⟨c.id_.toArray⟩, (.slice A3 c.may_.length k3), .int .i64 c.until_] #[.int .i64 r.now, .int .i64 r.slack, .string ⟨r.who.toArray⟩, (.slice B1 r.by_.length j1), (.slice B2 r.need.length j2), (.slice B3 r.may_.length j3)] #[.int .i64 x, .int .i64 r.slack, .string ⟨r.who.toArray⟩, (.slice B1 r.by_.length j1), (.slice B2 r.need.length j2), (.slice B3 r.may_.length j3)] g wr) (z0 z1 z2 z5 z6 z12 z13 z14 z15 z16 z17 z18 z19 z20 z21 z22 z23 z24 z25 z26 z27 z28 z29 z30 z31 z32 z33 z34 z35 z36 z37 z38 z39 z40 z41 z42 z43 z44 z45 z46 z47 z48 z49 z50 z51 z52 z53 z54 z55 z56 z57 z58 z59 z60 z61 z62 z63 z64 z65 z66 z67 z68 z69 z70 z71 z72 z73 z74 z75 z76 z77 z78 z79 z80 z81 z82 z83 z84 z85 z86 z87 z88 z89 z90 z91 z92 z93 z94 z95 z96 z97 z98 z99 z100 z101 z102 z103 z104 z105 z106 z107 z108 z109 z110 z111 z112 z113 z114 z115 z116 z117 z118 z119 z120 z121 z122 z123 z124 z125 z126 z127 z128 z129 z130 z131 z132 z133 z134 z135 z136 z137 z138 z139 z140 z141 z142 z143 z144 z145 z146 z147 z148 z149 z150 z151 z152 z153 z154 z155 z156 z157 z158 z159 z160 z161 z162 z163 z164 z165 z166 z167 z168 : Value) :
    Code.wp Tryz.prog tmTail3 (bodyPost Tryz.prog Tryz.f7 (fun e w' => e = .returned (.bool true) ∧ Below w.heap.size w w')) { tmps := (z0 :: z1 :: z2 :: .pointer (some ⟨w.heap.size, 0, none⟩) :: .pointer (some ⟨w.heap.size + 1, 0, none⟩) :: z5 :: z6 :: v :: .int .i64 pt :: .bool ok :: .pointer (some ⟨g, 0, none⟩) :: y :: z12 :: z13 :: z14 :: z15 :: z16 :: z17 :: z18 :: z19 :: z20 :: z21 :: z22 :: z23 :: z24 :: z25 :: z26 :: z27 :: z28 :: z29 :: z30 :: z31 :: z32 :: z33 :: z34 :: z35 :: z36 :: z37 :: z38 :: z39 :: z40 :: z41 :: z42 :: z43 :: z44 :: z45 :: z46 :: z47 :: z48 :: z49 :: z50 :: z51 :: z52 :: z53 :: z54 :: z55 :: z56 :: z57 :: z58 :: z59 :: z60 :: z61 :: z62 :: z63 :: z64 :: z65 :: z66 :: z67 :: z68 :: z69 :: z70 :: z71 :: z72 :: z73 :: z74 :: z75 :: z76 :: z77 :: z78 :: z79 :: z80 :: z81 :: z82 :: z83 :: z84 :: z85 :: z86 :: z87 :: z88 :: z89 :: z90 :: z91 :: z92 :: z93 :: z94 :: z95 :: z96 :: z97 :: z98 :: z99 :: z100 :: z101 :: z102 :: z103 :: z104 :: z105 :: z106 :: z107 :: z108 :: z109 :: z110 :: z111 :: z112 :: z113 :: z114 :: z115 :: z116 :: z117 :: z118 :: z119 :: z120 :: z121 :: z122 :: z123 :: z124 :: z125 :: z126 :: z127 :: z128 :: z129 :: z130 :: z131 :: z132 :: z133 :: z134 :: z135 :: z136 :: z137 :: z138 :: z139 :: z140 :: z141 :: z142 :: z143 :: z144 :: z145 :: z146 :: z147 :: z148 :: z149 :: z150 :: z151 :: z152 :: z153 :: z154 :: z155 :: z156 :: z157 :: z158 :: z159 :: z160 :: z161 :: z162 :: z163 :: z164 :: z165 :: z166 :: z167 :: z168 :: []).toArray, defers := [] } wr := by
  conv => arg 2; whnf
  apply wp_seq_k
  intro K9 hK9
  go_cut [] (fun wx => TSt w #[(.slice A1 c.has.length k1), .string ⟨c.about.toArray⟩, .int .i64 c.at_, .string ⟨c.by_.toArray⟩, (.slice A2 c.for_.length k2), .int .i64 c.from_, .string ⟨c.id_.toArray⟩, (.slice A3 c.may_.length k3), .int .i64 c.until_] #[.int .i64 r.now, .int .i64 r.slack, .string ⟨r.who.toArray⟩, (.slice B1 r.by_.length j1), (.slice B2 r.need.length j2), (.slice B3 r.may_.length j3)] #[.int .i64 x, .int .i64 r.slack, .string ⟨r.who.toArray⟩, (.slice B1 r.by_.length j1), (.slice B2 r.need.length j2), (.slice B3 r.may_.length j3)] g wx)
  case rest =>
    go_step
    exact tm_tail4 c r x A1 A2 A3 B1 B2 B3 k1 k2 k3 j1 j2 j3 g v y _ _ w _ h hr hv hy HY HCH HOK HB hcut _ _ _ _ _ _ _ _ _ _ _ _ _ _ _ _ _ _ _ _ _ _ _ _ _ _ _ _ _ _ _ _ _ _ _ _ _ _ _ _ _ _ _ _ _ _ _ _ _ _ _ _ _ _ _ _ _ _ _ _ _ _ _ _ _ _ _ _ _ _ _ _ _ _ _ _ _ _ _ _ _ _ _ _ _ _ _ _ _ _ _ _ _ _ _ _ _ _ _ _ _ _ _ _ _ _ _ _ _ _ _ _ _ _ _ _ _ _ _ _ _ _ _ _ _ _ _ _ _ _ _ _ _ _ _ _ _ _ _ _ _ _ _ _ _ _ _ _ _ _ _ _ _ _ _ _ _ _ _ _ _ _
  clear hr h
  by_cases hk : (judgeP c r).kind = 1
  · have hf := hv.holds_yes hk
    obtain ⟨b1, b2, b3, b4, b5⟩ := HB.out
    obtain ⟨ht1, ht2⟩ := HOK.out.time
    have ho := HOK.out.holds hk
    obtain ⟨tm, htm⟩ : ∃ t, (judgeP c r).time = t := ⟨_, rfl⟩
    rw [htm] at hf ht1 ht2 ho
    have HO := Lib.hid ho
    clear hk htm hv hy ho HB HOK
    by_cases h0 : 0 ≤ tm
    · have d0 : decide (0 ≤ tm) = true := decide_eq_true h0
      have wr1 : IntKind.i64.wrap (tm + r.slack) = tm + r.slack := by rw [IntKind.wrap_i64]; omega
      have hZ := Blk.new wr 85 #[.int .i64 tm]
      have g0 : (wr.alloc (.cells #[.int .i64 tm] 85)).cell? ⟨wr.heap.size, 0, none⟩ = some (.int .i64 tm) := hZ.cell 0
      obtain ⟨f0, f1, f2, f3, f4, f5⟩ := C6 (hs.alloc (.cells #[.int .i64 tm] 85)).mL
      have HS := Lib.hid hs
      rcases HY.out with ⟨hk1, rfl⟩ | ⟨p, hk1, rfl⟩ | ⟨n, hk1, rfl⟩ | ⟨n, hk1, rfl⟩ | ⟨s, hk1, rfl⟩ | ⟨s, hk1, rfl⟩ | ⟨s, hk1, rfl⟩ | ⟨s, hk1, rfl⟩
      · have hx := HO.out h0 hk1
        have d1 : decide (tm + r.slack ≤ x) = false := decide_eq_false (by omega)
        generalize (judgeP c { r with now := x }).time = ty at *
        clear HY HO hk1
        go_wp2_with fail
        refine (good1_any _ _).mono ?_
        rintro e w7 ⟨rfl, hb7⟩
        have hs7 := (hs.alloc _).below hb7
        have hZ7 := hZ.below hb7 hZ.lt
        clear f0 f1 f2 f3 f4 f5 g0
        obtain ⟨f0, f1, f2, f3, f4, f5⟩ := C6 hs7.mL
        have g0 : w7.cell? ⟨wr.heap.size, 0, none⟩ = some (.int .i64 tm) := hZ7.cell 0
        clear f2 f3 f4 f5
        go_wp2_with fail
        go_meet
        exact hs7
      · clear HY HO hk1
        go_wp2_with fail
        refine (good8_any _ _).mono ?_
        rintro e w7 ⟨rfl, rfl⟩
        go_wp2_with fail
        go_meet
        exact hs.alloc _
      · clear HY HO hk1
        go_wp2_with fail
        refine (good2_any _ _).mono ?_
        rintro e w7 ⟨rfl, hb7⟩
        go_wp2_with fail
        go_meet
        exact (hs.alloc _).below hb7
      · clear HY HO hk1
        go_wp2_with fail
        refine (good3_any _ _).mono ?_
        rintro e w7 ⟨rfl, hb7⟩
        go_wp2_with fail
        go_meet
        exact (hs.alloc _).below hb7
      · clear HY HO hk1
        go_wp2_with fail
        refine (good4_any _ _).mono ?_
        rintro e w7 ⟨rfl, hb7⟩
        go_wp2_with fail
        go_meet
        exact (hs.alloc _).below hb7
      · clear HY HO hk1
        go_wp2_with fail
        refine (good5_any _ _).mono ?_
        rintro e w7 ⟨rfl, hb7⟩
        go_wp2_with fail
        go_meet
        exact (hs.alloc _).below hb7
      · clear HY HO hk1
        go_wp2_with fail
        refine (good6_any _ _).mono ?_
        rintro e w7 ⟨rfl, hb7⟩
        go_wp2_with fail
        go_meet
        exact (hs.alloc _).below hb7
      · clear HY HO hk1
        go_wp2_with fail
        refine (good7_any _ _).mono ?_
        rintro e w7 ⟨rfl, hb7⟩
        go_wp2_with fail
        go_meet
        exact (hs.alloc _).below hb7
    · have d0 : decide (0 ≤ tm) = false := decide_eq_false h0
      go_wp2_with fail
      go_meet
      exact hs.alloc _
  · have hf := hv.holds_no hk
    clear hk hv hy HB HOK
    go_wp2_with fail
    go_meet
    exact hs.alloc _

end Go.Proofs.YtnondmeafilplaaGreatDoor
