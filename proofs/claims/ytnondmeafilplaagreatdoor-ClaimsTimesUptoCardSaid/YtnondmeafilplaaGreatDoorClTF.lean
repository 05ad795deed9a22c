/-
  The statement ClaimsTimes of layer 25: its walk, Final (printed by wip/gen_clt.py).
-/
import Derived.Test.YtnondmeafilplaaGreatDoorClTE
namespace Go.Proofs.YtnondmeafilplaaGreatDoor
open Go.RowKit Mem Utf Ref3 Tok Cl
set_option linter.unusedVariables false

noncomputable def tmTail1 : Code := nextOf (nextOf (nextOf (nextOf (nextOf (nextOf (nextOf (nextOf (Tryz.f7.body.getD .skip))))))))

set_option maxRecDepth 100000 in
set_option maxHeartbeats 8000000 in
theorem tm_tail1 (c : C) (r : R) (x : Int) (A1 A2 A3 B1 B2 B3 : Option Addr) (k1 k2 k3 j1 j2 j3 g : Nat) (v y : Value) (pt : Int) (ok : Bool) (w wr : World)
    (h : ClAt w c (.slice A1 c.has.length k1) (.slice A2 c.for_.length k2) (.slice A3 c.may_.length k3)) (hr : RuAt w r (.slice B1 r.by_.length j1) (.slice B2 r.need.length j2) (.slice B3 r.may_.length j3))
    (hv : VFacts v (judgeP c r)) (hy : VFacts y (judgeP c { r with now := x })) (HY : Hid (VForm y (judgeP c { r with now := x }))) (HCH : Hid (changeP c r = (pt, ok))) (HOK : Hid (TimesOk c r x)) (HB : Hid (0 ≤ r.now ∧ r.now ≤ x ∧ x ≤ 9007199254740991 ∧ 0 ≤ r.slack ∧ r.slack ≤ 9007199254740991))
    (hs : TSt w #[(.slice A1 c.has.length k1), .string ⟨c.about.toArray⟩, .int .i64 c.at_, .string ⟨c.by_.toArray⟩, (.slice A2 c.for_.length k2), .int .i64 c.from_, .string ⟨c.id_.toArray⟩, (.slice A3 c.may_.length k3), .int .i64 c.until_] #[.int .i64 r.now, .int .i64 r.slack, .string ⟨r.who.toArray⟩, (.slice B1 r.by_.length j1), (.slice B2 r.need.length j2), (.slice B3 r.may_.length j3)] #[.int .i64 x, .int .i64 r.slack, .string ⟨r.who.toArray⟩, (.slice B1 r.by_.length j1), (.slice B2 r.need.length j2), (.slice B3 r.may_.length j3)] g wr) (z0 z1 z2 z5 z6 z12 z13 z14 z15 z16 z17 z18 z19 z20 z21 z22 z23 z24 z25 z26 z27 z28 z29 z30 z31 z32 z33 z34 z35 z36 z37 z38 z39 z40 z41 z42 z43 z44 z45 z46 z47 z48 z49 z50 z51 z52 z53 z54 z55 z56 z57 z58 z59 z60 z61 z62 z63 z64 z65 z66 z67 z68 z69 z70 z71 z72 z73 z74 z75 z76 z77 z78 z79 z80 z81 z82 z83 z84 z85 z86 z87 z88 z89 z90 z91 z92 z93 z94 z95 z96 z97 z98 z99 z100 z101 z102 z103 z104 z105 z106 z107 z108 z109 z110 z111 z112 z113 z114 z115 z116 z117 z118 z119 z120 z121 z122 z123 z124 z125 z126 z127 z128 z129 z130 z131 z132 z133 z134 z135 z136 z137 z138 z139 z140 z141 z142 z143 z144 z145 z146 z147 z148 z149 z150 z151 z152 z153 z154 z155 z156 z157 z158 z159 z160 z161 z162 z163 z164 z165 z166 z167 z168 : Value) :
    Code.wp Tryz.prog tmTail1 (bodyPost Tryz.prog Tryz.f7 (fun e w' => e = .returned (.bool true) ∧ Below w.heap.size w w')) { tmps := (z0 :: z1 :: z2 :: .pointer (some ⟨w.heap.size, 0, none⟩) :: .pointer (some ⟨w.heap.size + 1, 0, none⟩) :: z5 :: z6 :: v :: .int .i64 pt :: .bool ok :: .pointer (some ⟨g, 0, none⟩) :: y :: z12 :: z13 :: z14 :: z15 :: z16 :: z17 :: z18 :: z19 :: z20 :: z21 :: z22 :: z23 :: z24 :: z25 :: z26 :: z27 :: z28 :: z29 :: z30 :: z31 :: z32 :: z33 :: z34 :: z35 :: z36 :: z37 :: z38 :: z39 :: z40 :: z41 :: z42 :: z43 :: z44 :: z45 :: z46 :: z47 :: z48 :: z49 :: z50 :: z51 :: z52 :: z53 :: z54 :: z55 :: z56 :: z57 :: z58 :: z59 :: z60 :: z61 :: z62 :: z63 :: z64 :: z65 :: z66 :: z67 :: z68 :: z69 :: z70 :: z71 :: z72 :: z73 :: z74 :: z75 :: z76 :: z77 :: z78 :: z79 :: z80 :: z81 :: z82 :: z83 :: z84 :: z85 :: z86 :: z87 :: z88 :: z89 :: z90 :: z91 :: z92 :: z93 :: z94 :: z95 :: z96 :: z97 :: z98 :: z99 :: z100 :: z101 :: z102 :: z103 :: z104 :: z105 :: z106 :: z107 :: z108 :: z109 :: z110 :: z111 :: z112 :: z113 :: z114 :: z115 :: z116 :: z117 :: z118 :: z119 :: z120 :: z121 :: z122 :: z123 :: z124 :: z125 :: z126 :: z127 :: z128 :: z129 :: z130 :: z131 :: z132 :: z133 :: z134 :: z135 :: z136 :: z137 :: z138 :: z139 :: z140 :: z141 :: z142 :: z143 :: z144 :: z145 :: z146 :: z147 :: z148 :: z149 :: z150 :: z151 :: z152 :: z153 :: z154 :: z155 :: z156 :: z157 :: z158 :: z159 :: z160 :: z161 :: z162 :: z163 :: z164 :: z165 :: z166 :: z167 :: z168 :: []).toArray, defers := [] } wr := by
  obtain ⟨q1, hf⟩ := hv.fin
  obtain ⟨q2, hg⟩ := hy.fin
  have hfs : decide ((judgeP c r).kind ≠ 1 ∧ (judgeP c r).kind ≠ 2) = true → decide ((judgeP c { r with now := x }).kind ≠ 1 ∧ (judgeP c { r with now := x }).kind ≠ 2) = true := by
    intro h1
    have h2 := of_decide_eq_true h1
    exact decide_eq_true (HOK.out.fin h2.1 h2.2)
  generalize decide ((judgeP c r).kind ≠ 1 ∧ (judgeP c r).kind ≠ 2) = bf at *
  generalize decide ((judgeP c { r with now := x }).kind ≠ 1 ∧ (judgeP c { r with now := x }).kind ≠ 2) = bs at *
  conv => arg 2; whnf
  cases bf with
  | false =>
    clear hfs
    go_upto_if 73 with fail
    go_cut [] (fun wx => wx = wr)
    case rest =>
      subst hcut
      go_step
      exact tm_tail2 c r x A1 A2 A3 B1 B2 B3 k1 k2 k3 j1 j2 j3 g v y _ _ w _ h hr hv hy HY HCH HOK HB hs _ _ _ _ _ _ _ _ _ _ _ _ _ _ _ _ _ _ _ _ _ _ _ _ _ _ _ _ _ _ _ _ _ _ _ _ _ _ _ _ _ _ _ _ _ _ _ _ _ _ _ _ _ _ _ _ _ _ _ _ _ _ _ _ _ _ _ _ _ _ _ _ _ _ _ _ _ _ _ _ _ _ _ _ _ _ _ _ _ _ _ _ _ _ _ _ _ _ _ _ _ _ _ _ _ _ _ _ _ _ _ _ _ _ _ _ _ _ _ _ _ _ _ _ _ _ _ _ _ _ _ _ _ _ _ _ _ _ _ _ _ _ _ _ _ _ _ _ _ _ _ _ _ _ _ _ _ _ _ _ _ _
    go_wp2_with fail
    go_meet
    exact rfl
  | true =>
    obtain rfl := hfs rfl
    clear hfs
    go_upto_if 73 with fail
    go_cut [] (fun wx => wx = wr)
    case rest =>
      subst hcut
      go_step
      exact tm_tail2 c r x A1 A2 A3 B1 B2 B3 k1 k2 k3 j1 j2 j3 g v y _ _ w _ h hr hv hy HY HCH HOK HB hs _ _ _ _ _ _ _ _ _ _ _ _ _ _ _ _ _ _ _ _ _ _ _ _ _ _ _ _ _ _ _ _ _ _ _ _ _ _ _ _ _ _ _ _ _ _ _ _ _ _ _ _ _ _ _ _ _ _ _ _ _ _ _ _ _ _ _ _ _ _ _ _ _ _ _ _ _ _ _ _ _ _ _ _ _ _ _ _ _ _ _ _ _ _ _ _ _ _ _ _ _ _ _ _ _ _ _ _ _ _ _ _ _ _ _ _ _ _ _ _ _ _ _ _ _ _ _ _ _ _ _ _ _ _ _ _ _ _ _ _ _ _ _ _ _ _ _ _ _ _ _ _ _ _ _ _ _ _ _ _ _ _
    go_wp2_with fail
    go_meet
    exact rfl

end Go.Proofs.YtnondmeafilplaaGreatDoor
