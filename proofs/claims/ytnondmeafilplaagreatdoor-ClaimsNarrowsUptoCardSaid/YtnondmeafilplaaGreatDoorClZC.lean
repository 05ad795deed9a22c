/-
  The statement ClaimsNarrows of layer 25: what it does with the verdicts (printed by wip/gen_clz.py).
-/
import Derived.Test.YtnondmeafilplaaGreatDoorClZB
namespace Go.Proofs.YtnondmeafilplaaGreatDoor
open Go.RowKit Mem Utf Ref3 Tok Cl
set_option linter.unusedVariables false

noncomputable def nzTail3 : Code := nextOf (nextOf (nextOf (nextOf (nextOf (nextOf (nextOf (Tryz.f5.body.getD .skip)))))))
theorem vf2 {v : Value} {x : Verd} (h : VFacts2 v x) (b1 b2 b3 b4 : Bool) (h1 : decide (x.kind = 3) = b1) (h2 : decide (x.kind = 6) = b2) (h3 : decide (x.kind = 7) = b3) (h4 : decide (x.kind = 2) = b4) :
    ∃ y1 y2 y3 y4, (∀ W, (Instr.typeAssert v 27 64 true).run Tryz.prog W = .ok (.tuple #[y1, .bool b1]) W) ∧ (∀ W, (Instr.typeAssert v 27 66 true).run Tryz.prog W = .ok (.tuple #[y2, .bool b2]) W) ∧
      (∀ W, (Instr.typeAssert v 27 68 true).run Tryz.prog W = .ok (.tuple #[y3, .bool b3]) W) ∧ (∀ W, (Instr.typeAssert v 27 71 true).run Tryz.prog W = .ok (.tuple #[y4, .bool b4]) W) := by
  obtain ⟨y1, e1⟩ := h.over
  obtain ⟨y2, e2⟩ := h.other
  obtain ⟨y3, e3⟩ := h.barred
  obtain ⟨y4, e4⟩ := h.early
  rw [h1] at e1
  rw [h2] at e2
  rw [h3] at e3
  rw [h4] at e4
  exact ⟨y1, y2, y3, y4, e1, e2, e3, e4⟩
set_option maxRecDepth 100000 in
set_option maxHeartbeats 8000000 in
theorem nz_over (c m o : C) (r : R) (A1 A2 A3 B1 B2 B3 D1 D2 D3 E1 E2 E3 : Option Addr) (k1 k2 k3 j1 j2 j3 i1 i2 i3 q1 q2 q3 g3 g4 g5 g6 : Nat) (v y : Value) (w wr : World) (ho : ClAt w o (.slice D1 o.has.length i1) (.slice D2 o.for_.length i2) (.slice D3 o.may_.length i3)) (HV : Hid (VFacts2 v (judgeP o r))) (HY : Hid (VFormN y (judgeP c r))) (HN : Hid (NarOk c o r)) (hk : (judgeP o r).kind = 3) (hs : NzEnd w #[(.slice A1 c.has.length k1), .string ⟨c.about.toArray⟩, .int .i64 c.at_, .string ⟨c.by_.toArray⟩, (.slice A2 c.for_.length k2), .int .i64 c.from_, .string ⟨c.id_.toArray⟩, (.slice A3 c.may_.length k3), .int .i64 c.until_] #[(.slice B1 m.has.length j1), .string ⟨m.about.toArray⟩, .int .i64 m.at_, .string ⟨m.by_.toArray⟩, (.slice B2 m.for_.length j2), .int .i64 m.from_, .string ⟨m.id_.toArray⟩, (.slice B3 m.may_.length j3), .int .i64 m.until_] #[(.slice D1 o.has.length i1), .string ⟨o.about.toArray⟩, .int .i64 o.at_, .string ⟨o.by_.toArray⟩, (.slice D2 o.for_.length i2), .int .i64 o.from_, .string ⟨o.id_.toArray⟩, (.slice D3 o.may_.length i3), .int .i64 o.until_] #[.int .i64 r.now, .int .i64 r.slack, .string ⟨r.who.toArray⟩, (.slice E1 r.by_.length q1), (.slice E2 r.need.length q2), (.slice E3 r.may_.length q3)] g3 g4 g5 g6 wr) (z0 z1 z2 z3 z4 z6 z7 z8 z9 z10 z13 z14 z15 z16 z17 z18 z19 z20 z21 z22 z23 z24 z25 z26 z27 z28 z29 z30 z31 z32 z33 z34 z35 z36 z37 z38 z39 z40 z41 z42 z43 z44 z45 z46 z47 z48 z49 z50 z51 z52 z53 z54 z55 z56 z57 z58 z59 z60 z61 z62 z63 z64 z65 z66 z67 z68 z69 z70 z71 z72 z73 z74 z75 z76 z77 z78 z79 z80 z81 z82 z83 z84 z85 z86 z87 z88 z89 z90 z91 z92 z93 z94 z95 : Value) :
    Code.wp Tryz.prog nzTail3 (bodyPost Tryz.prog Tryz.f5 (fun e w' => e = .returned (.bool true) ∧ Below w.heap.size w w')) { tmps := (z0 :: z1 :: z2 :: z3 :: z4 :: .pointer (some ⟨g5, 0, none⟩) :: z6 :: z7 :: z8 :: z9 :: z10 :: v :: y :: z13 :: z14 :: z15 :: z16 :: z17 :: z18 :: z19 :: z20 :: z21 :: z22 :: z23 :: z24 :: z25 :: z26 :: z27 :: z28 :: z29 :: z30 :: z31 :: z32 :: z33 :: z34 :: z35 :: z36 :: z37 :: z38 :: z39 :: z40 :: z41 :: z42 :: z43 :: z44 :: z45 :: z46 :: z47 :: z48 :: z49 :: z50 :: z51 :: z52 :: z53 :: z54 :: z55 :: z56 :: z57 :: z58 :: z59 :: z60 :: z61 :: z62 :: z63 :: z64 :: z65 :: z66 :: z67 :: z68 :: z69 :: z70 :: z71 :: z72 :: z73 :: z74 :: z75 :: z76 :: z77 :: z78 :: z79 :: z80 :: z81 :: z82 :: z83 :: z84 :: z85 :: z86 :: z87 :: z88 :: z89 :: z90 :: z91 :: z92 :: z93 :: z94 :: z95 :: []).toArray, defers := [] } wr := by
  obtain ⟨y1, y2, y3, y4, e1, e2, e3, e4⟩ := vf2 HV.out true false false false (decide_eq_true hk) (decide_eq_false (by rw [hk]; decide)) (decide_eq_false (by rw [hk]; decide)) (decide_eq_false (by rw [hk]; decide))
  have hne := HN.out.a (.inl hk)
  have hbw := hs.bel
  clear hk HV HN e3 e4 ho hs
  conv => arg 2; whnf
  rcases HY.out with ⟨hk1, _⟩ | ⟨p, hk1, rfl⟩ | ⟨n, hk1, rfl⟩ | ⟨n, hk1, rfl⟩ | ⟨s, hk1, rfl⟩ | ⟨s, hk1, rfl⟩ | ⟨s, hk1, rfl⟩ | ⟨s, hk1, rfl⟩
  · exact absurd hk1 hne
  · clear HY hne hk1

    go_wp2_with fail
    refine (good8_any _ _).mono ?_
    rintro e w7 ⟨rfl, rfl⟩
    go_wp2
    go_ret
    exact ⟨rfl, hbw⟩
  · clear HY hne hk1

    go_wp2_with fail
    refine (good2_any _ _).mono ?_
    rintro e w7 ⟨rfl, hb7⟩
    go_wp2
    go_ret
    exact ⟨rfl, below_chain hbw (hbw).size hb7⟩
  · clear HY hne hk1

    go_wp2_with fail
    refine (good3_any _ _).mono ?_
    rintro e w7 ⟨rfl, hb7⟩
    go_wp2
    go_ret
    exact ⟨rfl, below_chain hbw (hbw).size hb7⟩
  · clear HY hne hk1

    go_wp2_with fail
    refine (good4_any _ _).mono ?_
    rintro e w7 ⟨rfl, hb7⟩
    go_wp2
    go_ret
    exact ⟨rfl, below_chain hbw (hbw).size hb7⟩
  · clear HY hne hk1

    go_wp2_with fail
    refine (good5_any _ _).mono ?_
    rintro e w7 ⟨rfl, hb7⟩
    go_wp2
    go_ret
    exact ⟨rfl, below_chain hbw (hbw).size hb7⟩
  · clear HY hne hk1

    go_wp2_with fail
    refine (good6_any _ _).mono ?_
    rintro e w7 ⟨rfl, hb7⟩
    go_wp2
    go_ret
    exact ⟨rfl, below_chain hbw (hbw).size hb7⟩
  · clear HY hne hk1

    go_wp2_with fail
    refine (good7_any _ _).mono ?_
    rintro e w7 ⟨rfl, hb7⟩
    go_wp2
    go_ret
    exact ⟨rfl, below_chain hbw (hbw).size hb7⟩

set_option maxRecDepth 100000 in
set_option maxHeartbeats 8000000 in
theorem nz_other (c m o : C) (r : R) (A1 A2 A3 B1 B2 B3 D1 D2 D3 E1 E2 E3 : Option Addr) (k1 k2 k3 j1 j2 j3 i1 i2 i3 q1 q2 q3 g3 g4 g5 g6 : Nat) (v y : Value) (w wr : World) (ho : ClAt w o (.slice D1 o.has.length i1) (.slice D2 o.for_.length i2) (.slice D3 o.may_.length i3)) (HV : Hid (VFacts2 v (judgeP o r))) (HY : Hid (VFormN y (judgeP c r))) (HN : Hid (NarOk c o r)) (hk : (judgeP o r).kind = 6) (hs : NzEnd w #[(.slice A1 c.has.length k1), .string ⟨c.about.toArray⟩, .int .i64 c.at_, .string ⟨c.by_.toArray⟩, (.slice A2 c.for_.length k2), .int .i64 c.from_, .string ⟨c.id_.toArray⟩, (.slice A3 c.may_.length k3), .int .i64 c.until_] #[(.slice B1 m.has.length j1), .string ⟨m.about.toArray⟩, .int .i64 m.at_, .string ⟨m.by_.toArray⟩, (.slice B2 m.for_.length j2), .int .i64 m.from_, .string ⟨m.id_.toArray⟩, (.slice B3 m.may_.length j3), .int .i64 m.until_] #[(.slice D1 o.has.length i1), .string ⟨o.about.toArray⟩, .int .i64 o.at_, .string ⟨o.by_.toArray⟩, (.slice D2 o.for_.length i2), .int .i64 o.from_, .string ⟨o.id_.toArray⟩, (.slice D3 o.may_.length i3), .int .i64 o.until_] #[.int .i64 r.now, .int .i64 r.slack, .string ⟨r.who.toArray⟩, (.slice E1 r.by_.length q1), (.slice E2 r.need.length q2), (.slice E3 r.may_.length q3)] g3 g4 g5 g6 wr) (z0 z1 z2 z3 z4 z6 z7 z8 z9 z10 z13 z14 z15 z16 z17 z18 z19 z20 z21 z22 z23 z24 z25 z26 z27 z28 z29 z30 z31 z32 z33 z34 z35 z36 z37 z38 z39 z40 z41 z42 z43 z44 z45 z46 z47 z48 z49 z50 z51 z52 z53 z54 z55 z56 z57 z58 z59 z60 z61 z62 z63 z64 z65 z66 z67 z68 z69 z70 z71 z72 z73 z74 z75 z76 z77 z78 z79 z80 z81 z82 z83 z84 z85 z86 z87 z88 z89 z90 z91 z92 z93 z94 z95 : Value) :
    Code.wp Tryz.prog nzTail3 (bodyPost Tryz.prog Tryz.f5 (fun e w' => e = .returned (.bool true) ∧ Below w.heap.size w w')) { tmps := (z0 :: z1 :: z2 :: z3 :: z4 :: .pointer (some ⟨g5, 0, none⟩) :: z6 :: z7 :: z8 :: z9 :: z10 :: v :: y :: z13 :: z14 :: z15 :: z16 :: z17 :: z18 :: z19 :: z20 :: z21 :: z22 :: z23 :: z24 :: z25 :: z26 :: z27 :: z28 :: z29 :: z30 :: z31 :: z32 :: z33 :: z34 :: z35 :: z36 :: z37 :: z38 :: z39 :: z40 :: z41 :: z42 :: z43 :: z44 :: z45 :: z46 :: z47 :: z48 :: z49 :: z50 :: z51 :: z52 :: z53 :: z54 :: z55 :: z56 :: z57 :: z58 :: z59 :: z60 :: z61 :: z62 :: z63 :: z64 :: z65 :: z66 :: z67 :: z68 :: z69 :: z70 :: z71 :: z72 :: z73 :: z74 :: z75 :: z76 :: z77 :: z78 :: z79 :: z80 :: z81 :: z82 :: z83 :: z84 :: z85 :: z86 :: z87 :: z88 :: z89 :: z90 :: z91 :: z92 :: z93 :: z94 :: z95 :: []).toArray, defers := [] } wr := by
  obtain ⟨y1, y2, y3, y4, e1, e2, e3, e4⟩ := vf2 HV.out false true false false (decide_eq_false (by rw [hk]; decide)) (decide_eq_true hk) (decide_eq_false (by rw [hk]; decide)) (decide_eq_false (by rw [hk]; decide))
  have hne := HN.out.a (.inr hk)
  have hbw := hs.bel
  clear hk HV HN e3 e4 ho hs
  conv => arg 2; whnf
  rcases HY.out with ⟨hk1, _⟩ | ⟨p, hk1, rfl⟩ | ⟨n, hk1, rfl⟩ | ⟨n, hk1, rfl⟩ | ⟨s, hk1, rfl⟩ | ⟨s, hk1, rfl⟩ | ⟨s, hk1, rfl⟩ | ⟨s, hk1, rfl⟩
  · exact absurd hk1 hne
  · clear HY hne hk1

    go_wp2_with fail
    refine (good8_any _ _).mono ?_
    rintro e w7 ⟨rfl, rfl⟩
    go_wp2
    go_ret
    exact ⟨rfl, hbw⟩
  · clear HY hne hk1

    go_wp2_with fail
    refine (good2_any _ _).mono ?_
    rintro e w7 ⟨rfl, hb7⟩
    go_wp2
    go_ret
    exact ⟨rfl, below_chain hbw (hbw).size hb7⟩
  · clear HY hne hk1

    go_wp2_with fail
    refine (good3_any _ _).mono ?_
    rintro e w7 ⟨rfl, hb7⟩
    go_wp2
    go_ret
    exact ⟨rfl, below_chain hbw (hbw).size hb7⟩
  · clear HY hne hk1

    go_wp2_with fail
    refine (good4_any _ _).mono ?_
    rintro e w7 ⟨rfl, hb7⟩
    go_wp2
    go_ret
    exact ⟨rfl, below_chain hbw (hbw).size hb7⟩
  · clear HY hne hk1

    go_wp2_with fail
    refine (good5_any _ _).mono ?_
    rintro e w7 ⟨rfl, hb7⟩
    go_wp2
    go_ret
    exact ⟨rfl, below_chain hbw (hbw).size hb7⟩
  · clear HY hne hk1

    go_wp2_with fail
    refine (good6_any _ _).mono ?_
    rintro e w7 ⟨rfl, hb7⟩
    go_wp2
    go_ret
    exact ⟨rfl, below_chain hbw (hbw).size hb7⟩
  · clear HY hne hk1

    go_wp2_with fail
    refine (good7_any _ _).mono ?_
    rintro e w7 ⟨rfl, hb7⟩
    go_wp2
    go_ret
    exact ⟨rfl, below_chain hbw (hbw).size hb7⟩

set_option maxRecDepth 100000 in
set_option maxHeartbeats 8000000 in
theorem nz_barred (c m o : C) (r : R) (A1 A2 A3 B1 B2 B3 D1 D2 D3 E1 E2 E3 : Option Addr) (k1 k2 k3 j1 j2 j3 i1 i2 i3 q1 q2 q3 g3 g4 g5 g6 : Nat) (v y : Value) (w wr : World) (ho : ClAt w o (.slice D1 o.has.length i1) (.slice D2 o.for_.length i2) (.slice D3 o.may_.length i3)) (HV : Hid (VFacts2 v (judgeP o r))) (HY : Hid (VFormN y (judgeP c r))) (HN : Hid (NarOk c o r)) (hk : (judgeP o r).kind = 7) (hs : NzEnd w #[(.slice A1 c.has.length k1), .string ⟨c.about.toArray⟩, .int .i64 c.at_, .string ⟨c.by_.toArray⟩, (.slice A2 c.for_.length k2), .int .i64 c.from_, .string ⟨c.id_.toArray⟩, (.slice A3 c.may_.length k3), .int .i64 c.until_] #[(.slice B1 m.has.length j1), .string ⟨m.about.toArray⟩, .int .i64 m.at_, .string ⟨m.by_.toArray⟩, (.slice B2 m.for_.length j2), .int .i64 m.from_, .string ⟨m.id_.toArray⟩, (.slice B3 m.may_.length j3), .int .i64 m.until_] #[(.slice D1 o.has.length i1), .string ⟨o.about.toArray⟩, .int .i64 o.at_, .string ⟨o.by_.toArray⟩, (.slice D2 o.for_.length i2), .int .i64 o.from_, .string ⟨o.id_.toArray⟩, (.slice D3 o.may_.length i3), .int .i64 o.until_] #[.int .i64 r.now, .int .i64 r.slack, .string ⟨r.who.toArray⟩, (.slice E1 r.by_.length q1), (.slice E2 r.need.length q2), (.slice E3 r.may_.length q3)] g3 g4 g5 g6 wr) (z0 z1 z2 z3 z4 z6 z7 z8 z9 z10 z13 z14 z15 z16 z17 z18 z19 z20 z21 z22 z23 z24 z25 z26 z27 z28 z29 z30 z31 z32 z33 z34 z35 z36 z37 z38 z39 z40 z41 z42 z43 z44 z45 z46 z47 z48 z49 z50 z51 z52 z53 z54 z55 z56 z57 z58 z59 z60 z61 z62 z63 z64 z65 z66 z67 z68 z69 z70 z71 z72 z73 z74 z75 z76 z77 z78 z79 z80 z81 z82 z83 z84 z85 z86 z87 z88 z89 z90 z91 z92 z93 z94 z95 : Value) :
    Code.wp Tryz.prog nzTail3 (bodyPost Tryz.prog Tryz.f5 (fun e w' => e = .returned (.bool true) ∧ Below w.heap.size w w')) { tmps := (z0 :: z1 :: z2 :: z3 :: z4 :: .pointer (some ⟨g5, 0, none⟩) :: z6 :: z7 :: z8 :: z9 :: z10 :: v :: y :: z13 :: z14 :: z15 :: z16 :: z17 :: z18 :: z19 :: z20 :: z21 :: z22 :: z23 :: z24 :: z25 :: z26 :: z27 :: z28 :: z29 :: z30 :: z31 :: z32 :: z33 :: z34 :: z35 :: z36 :: z37 :: z38 :: z39 :: z40 :: z41 :: z42 :: z43 :: z44 :: z45 :: z46 :: z47 :: z48 :: z49 :: z50 :: z51 :: z52 :: z53 :: z54 :: z55 :: z56 :: z57 :: z58 :: z59 :: z60 :: z61 :: z62 :: z63 :: z64 :: z65 :: z66 :: z67 :: z68 :: z69 :: z70 :: z71 :: z72 :: z73 :: z74 :: z75 :: z76 :: z77 :: z78 :: z79 :: z80 :: z81 :: z82 :: z83 :: z84 :: z85 :: z86 :: z87 :: z88 :: z89 :: z90 :: z91 :: z92 :: z93 :: z94 :: z95 :: []).toArray, defers := [] } wr := by
  obtain ⟨y1, y2, y3, y4, e1, e2, e3, e4⟩ := vf2 HV.out false false true false (decide_eq_false (by rw [hk]; decide)) (decide_eq_false (by rw [hk]; decide)) (decide_eq_true hk) (decide_eq_false (by rw [hk]; decide))
  have hne := fun hb => HN.out.b hk hb
  have hbw := hs.bel
  obtain ⟨c0, c1, c2, c3, c4, c5, c6, c7, c8⟩ := C9 hs.b5
  clear hk HV HN
  conv => arg 2; whnf
  go_wp2_with fail
  refine (there_any o _ _ _ (key 6) _ (ho.below hbw)).mono ?_
  rintro e w1 ⟨rfl, hb1⟩
  have hbw1 := below_chain hbw hbw.size hb1
  clear hs ho c0 c1 c2 c3 c4 c5 c6 c7 c8 e1 e2 e3 e4 hbw hb1
  generalize inB o.has (key 6) = b at *
  cases b with
  | false =>
    clear hne
    go_wp2
    go_ret
    exact ⟨rfl, hbw1⟩
  | true =>
    replace hne := hne rfl
    rcases HY.out with ⟨hk1, _⟩ | ⟨p, hk1, rfl⟩ | ⟨n, hk1, rfl⟩ | ⟨n, hk1, rfl⟩ | ⟨s, hk1, rfl⟩ | ⟨s, hk1, rfl⟩ | ⟨s, hk1, rfl⟩ | ⟨s, hk1, rfl⟩
    · exact absurd hk1 hne
    · clear HY hne hk1

      go_wp2_with fail
      refine (good8_any _ _).mono ?_
      rintro e w7 ⟨rfl, rfl⟩
      go_wp2
      go_ret
      exact ⟨rfl, hbw1⟩
    · clear HY hne hk1

      go_wp2_with fail
      refine (good2_any _ _).mono ?_
      rintro e w7 ⟨rfl, hb7⟩
      go_wp2
      go_ret
      exact ⟨rfl, below_chain hbw1 (hbw1).size hb7⟩
    · clear HY hne hk1

      go_wp2_with fail
      refine (good3_any _ _).mono ?_
      rintro e w7 ⟨rfl, hb7⟩
      go_wp2
      go_ret
      exact ⟨rfl, below_chain hbw1 (hbw1).size hb7⟩
    · clear HY hne hk1

      go_wp2_with fail
      refine (good4_any _ _).mono ?_
      rintro e w7 ⟨rfl, hb7⟩
      go_wp2
      go_ret
      exact ⟨rfl, below_chain hbw1 (hbw1).size hb7⟩
    · clear HY hne hk1

      go_wp2_with fail
      refine (good5_any _ _).mono ?_
      rintro e w7 ⟨rfl, hb7⟩
      go_wp2
      go_ret
      exact ⟨rfl, below_chain hbw1 (hbw1).size hb7⟩
    · clear HY hne hk1

      go_wp2_with fail
      refine (good6_any _ _).mono ?_
      rintro e w7 ⟨rfl, hb7⟩
      go_wp2
      go_ret
      exact ⟨rfl, below_chain hbw1 (hbw1).size hb7⟩
    · clear HY hne hk1

      go_wp2_with fail
      refine (good7_any _ _).mono ?_
      rintro e w7 ⟨rfl, hb7⟩
      go_wp2
      go_ret
      exact ⟨rfl, below_chain hbw1 (hbw1).size hb7⟩

set_option maxRecDepth 100000 in
set_option maxHeartbeats 8000000 in
theorem nz_early (c m o : C) (r : R) (A1 A2 A3 B1 B2 B3 D1 D2 D3 E1 E2 E3 : Option Addr) (k1 k2 k3 j1 j2 j3 i1 i2 i3 q1 q2 q3 g3 g4 g5 g6 : Nat) (v y : Value) (w wr : World) (ho : ClAt w o (.slice D1 o.has.length i1) (.slice D2 o.for_.length i2) (.slice D3 o.may_.length i3)) (HV : Hid (VFacts2 v (judgeP o r))) (HY : Hid (VFormN y (judgeP c r))) (HN : Hid (NarOk c o r)) (hk : (judgeP o r).kind = 2) (hs : NzEnd w #[(.slice A1 c.has.length k1), .string ⟨c.about.toArray⟩, .int .i64 c.at_, .string ⟨c.by_.toArray⟩, (.slice A2 c.for_.length k2), .int .i64 c.from_, .string ⟨c.id_.toArray⟩, (.slice A3 c.may_.length k3), .int .i64 c.until_] #[(.slice B1 m.has.length j1), .string ⟨m.about.toArray⟩, .int .i64 m.at_, .string ⟨m.by_.toArray⟩, (.slice B2 m.for_.length j2), .int .i64 m.from_, .string ⟨m.id_.toArray⟩, (.slice B3 m.may_.length j3), .int .i64 m.until_] #[(.slice D1 o.has.length i1), .string ⟨o.about.toArray⟩, .int .i64 o.at_, .string ⟨o.by_.toArray⟩, (.slice D2 o.for_.length i2), .int .i64 o.from_, .string ⟨o.id_.toArray⟩, (.slice D3 o.may_.length i3), .int .i64 o.until_] #[.int .i64 r.now, .int .i64 r.slack, .string ⟨r.who.toArray⟩, (.slice E1 r.by_.length q1), (.slice E2 r.need.length q2), (.slice E3 r.may_.length q3)] g3 g4 g5 g6 wr) (z0 z1 z2 z3 z4 z6 z7 z8 z9 z10 z13 z14 z15 z16 z17 z18 z19 z20 z21 z22 z23 z24 z25 z26 z27 z28 z29 z30 z31 z32 z33 z34 z35 z36 z37 z38 z39 z40 z41 z42 z43 z44 z45 z46 z47 z48 z49 z50 z51 z52 z53 z54 z55 z56 z57 z58 z59 z60 z61 z62 z63 z64 z65 z66 z67 z68 z69 z70 z71 z72 z73 z74 z75 z76 z77 z78 z79 z80 z81 z82 z83 z84 z85 z86 z87 z88 z89 z90 z91 z92 z93 z94 z95 : Value) :
    Code.wp Tryz.prog nzTail3 (bodyPost Tryz.prog Tryz.f5 (fun e w' => e = .returned (.bool true) ∧ Below w.heap.size w w')) { tmps := (z0 :: z1 :: z2 :: z3 :: z4 :: .pointer (some ⟨g5, 0, none⟩) :: z6 :: z7 :: z8 :: z9 :: z10 :: v :: y :: z13 :: z14 :: z15 :: z16 :: z17 :: z18 :: z19 :: z20 :: z21 :: z22 :: z23 :: z24 :: z25 :: z26 :: z27 :: z28 :: z29 :: z30 :: z31 :: z32 :: z33 :: z34 :: z35 :: z36 :: z37 :: z38 :: z39 :: z40 :: z41 :: z42 :: z43 :: z44 :: z45 :: z46 :: z47 :: z48 :: z49 :: z50 :: z51 :: z52 :: z53 :: z54 :: z55 :: z56 :: z57 :: z58 :: z59 :: z60 :: z61 :: z62 :: z63 :: z64 :: z65 :: z66 :: z67 :: z68 :: z69 :: z70 :: z71 :: z72 :: z73 :: z74 :: z75 :: z76 :: z77 :: z78 :: z79 :: z80 :: z81 :: z82 :: z83 :: z84 :: z85 :: z86 :: z87 :: z88 :: z89 :: z90 :: z91 :: z92 :: z93 :: z94 :: z95 :: []).toArray, defers := [] } wr := by
  obtain ⟨y1, y2, y3, y4, e1, e2, e3, e4⟩ := vf2 HV.out false false false true (decide_eq_false (by rw [hk]; decide)) (decide_eq_false (by rw [hk]; decide)) (decide_eq_false (by rw [hk]; decide)) (decide_eq_true hk)
  have hne := fun hb => HN.out.e hk hb
  have hbw := hs.bel
  obtain ⟨c0, c1, c2, c3, c4, c5, c6, c7, c8⟩ := C9 hs.b5
  clear hk HV HN
  conv => arg 2; whnf
  go_wp2_with fail
  refine (there_any o _ _ _ (key 1) _ (ho.below hbw)).mono ?_
  rintro e w1 ⟨rfl, hb1⟩
  have hbw1 := below_chain hbw hbw.size hb1
  clear hs ho c0 c1 c2 c3 c4 c5 c6 c7 c8 e1 e2 e3 e4 hbw hb1
  generalize inB o.has (key 1) = b at *
  cases b with
  | true =>
    clear hne
    go_wp2
    go_ret
    exact ⟨rfl, hbw1⟩
  | false =>
    replace hne := hne rfl
    rcases HY.out with ⟨hk1, _⟩ | ⟨p, hk1, rfl⟩ | ⟨n, hk1, rfl⟩ | ⟨n, hk1, rfl⟩ | ⟨s, hk1, rfl⟩ | ⟨s, hk1, rfl⟩ | ⟨s, hk1, rfl⟩ | ⟨s, hk1, rfl⟩
    · exact absurd hk1 hne
    · clear HY hne hk1

      go_wp2_with fail
      refine (good8_any _ _).mono ?_
      rintro e w7 ⟨rfl, rfl⟩
      go_wp2
      go_ret
      exact ⟨rfl, hbw1⟩
    · clear HY hne hk1

      go_wp2_with fail
      refine (good2_any _ _).mono ?_
      rintro e w7 ⟨rfl, hb7⟩
      go_wp2
      go_ret
      exact ⟨rfl, below_chain hbw1 (hbw1).size hb7⟩
    · clear HY hne hk1

      go_wp2_with fail
      refine (good3_any _ _).mono ?_
      rintro e w7 ⟨rfl, hb7⟩
      go_wp2
      go_ret
      exact ⟨rfl, below_chain hbw1 (hbw1).size hb7⟩
    · clear HY hne hk1

      go_wp2_with fail
      refine (good4_any _ _).mono ?_
      rintro e w7 ⟨rfl, hb7⟩
      go_wp2
      go_ret
      exact ⟨rfl, below_chain hbw1 (hbw1).size hb7⟩
    · clear HY hne hk1

      go_wp2_with fail
      refine (good5_any _ _).mono ?_
      rintro e w7 ⟨rfl, hb7⟩
      go_wp2
      go_ret
      exact ⟨rfl, below_chain hbw1 (hbw1).size hb7⟩
    · clear HY hne hk1

      go_wp2_with fail
      refine (good6_any _ _).mono ?_
      rintro e w7 ⟨rfl, hb7⟩
      go_wp2
      go_ret
      exact ⟨rfl, below_chain hbw1 (hbw1).size hb7⟩
    · clear HY hne hk1

      go_wp2_with fail
      refine (good7_any _ _).mono ?_
      rintro e w7 ⟨rfl, hb7⟩
      go_wp2
      go_ret
      exact ⟨rfl, below_chain hbw1 (hbw1).size hb7⟩

set_option maxRecDepth 100000 in
set_option maxHeartbeats 8000000 in
theorem nz_rest (c m o : C) (r : R) (A1 A2 A3 B1 B2 B3 D1 D2 D3 E1 E2 E3 : Option Addr) (k1 k2 k3 j1 j2 j3 i1 i2 i3 q1 q2 q3 g3 g4 g5 g6 : Nat) (v y : Value) (w wr : World) (ho : ClAt w o (.slice D1 o.has.length i1) (.slice D2 o.for_.length i2) (.slice D3 o.may_.length i3)) (HV : Hid (VFacts2 v (judgeP o r))) (HY : Hid (VFormN y (judgeP c r))) (HN : Hid (NarOk c o r)) (hk3 : (judgeP o r).kind ≠ 3) (hk6 : (judgeP o r).kind ≠ 6) (hk7 : (judgeP o r).kind ≠ 7) (hk2 : (judgeP o r).kind ≠ 2) (hs : NzEnd w #[(.slice A1 c.has.length k1), .string ⟨c.about.toArray⟩, .int .i64 c.at_, .string ⟨c.by_.toArray⟩, (.slice A2 c.for_.length k2), .int .i64 c.from_, .string ⟨c.id_.toArray⟩, (.slice A3 c.may_.length k3), .int .i64 c.until_] #[(.slice B1 m.has.length j1), .string ⟨m.about.toArray⟩, .int .i64 m.at_, .string ⟨m.by_.toArray⟩, (.slice B2 m.for_.length j2), .int .i64 m.from_, .string ⟨m.id_.toArray⟩, (.slice B3 m.may_.length j3), .int .i64 m.until_] #[(.slice D1 o.has.length i1), .string ⟨o.about.toArray⟩, .int .i64 o.at_, .string ⟨o.by_.toArray⟩, (.slice D2 o.for_.length i2), .int .i64 o.from_, .string ⟨o.id_.toArray⟩, (.slice D3 o.may_.length i3), .int .i64 o.until_] #[.int .i64 r.now, .int .i64 r.slack, .string ⟨r.who.toArray⟩, (.slice E1 r.by_.length q1), (.slice E2 r.need.length q2), (.slice E3 r.may_.length q3)] g3 g4 g5 g6 wr) (z0 z1 z2 z3 z4 z6 z7 z8 z9 z10 z13 z14 z15 z16 z17 z18 z19 z20 z21 z22 z23 z24 z25 z26 z27 z28 z29 z30 z31 z32 z33 z34 z35 z36 z37 z38 z39 z40 z41 z42 z43 z44 z45 z46 z47 z48 z49 z50 z51 z52 z53 z54 z55 z56 z57 z58 z59 z60 z61 z62 z63 z64 z65 z66 z67 z68 z69 z70 z71 z72 z73 z74 z75 z76 z77 z78 z79 z80 z81 z82 z83 z84 z85 z86 z87 z88 z89 z90 z91 z92 z93 z94 z95 : Value) :
    Code.wp Tryz.prog nzTail3 (bodyPost Tryz.prog Tryz.f5 (fun e w' => e = .returned (.bool true) ∧ Below w.heap.size w w')) { tmps := (z0 :: z1 :: z2 :: z3 :: z4 :: .pointer (some ⟨g5, 0, none⟩) :: z6 :: z7 :: z8 :: z9 :: z10 :: v :: y :: z13 :: z14 :: z15 :: z16 :: z17 :: z18 :: z19 :: z20 :: z21 :: z22 :: z23 :: z24 :: z25 :: z26 :: z27 :: z28 :: z29 :: z30 :: z31 :: z32 :: z33 :: z34 :: z35 :: z36 :: z37 :: z38 :: z39 :: z40 :: z41 :: z42 :: z43 :: z44 :: z45 :: z46 :: z47 :: z48 :: z49 :: z50 :: z51 :: z52 :: z53 :: z54 :: z55 :: z56 :: z57 :: z58 :: z59 :: z60 :: z61 :: z62 :: z63 :: z64 :: z65 :: z66 :: z67 :: z68 :: z69 :: z70 :: z71 :: z72 :: z73 :: z74 :: z75 :: z76 :: z77 :: z78 :: z79 :: z80 :: z81 :: z82 :: z83 :: z84 :: z85 :: z86 :: z87 :: z88 :: z89 :: z90 :: z91 :: z92 :: z93 :: z94 :: z95 :: []).toArray, defers := [] } wr := by
  obtain ⟨y1, y2, y3, y4, e1, e2, e3, e4⟩ := vf2 HV.out false false false false (decide_eq_false hk3) (decide_eq_false hk6) (decide_eq_false hk7) (decide_eq_false hk2)
  have hbw := hs.bel
  clear HV HN HY ho hs hk3 hk6 hk7 hk2
  conv => arg 2; whnf
  go_wp2
  go_ret
  exact ⟨rfl, hbw⟩

set_option maxRecDepth 100000 in
set_option maxHeartbeats 8000000 in
theorem nz_tail3 (c m o : C) (r : R) (A1 A2 A3 B1 B2 B3 D1 D2 D3 E1 E2 E3 : Option Addr) (k1 k2 k3 j1 j2 j3 i1 i2 i3 q1 q2 q3 g3 g4 g5 g6 : Nat) (v y : Value) (w wr : World) (ho : ClAt w o (.slice D1 o.has.length i1) (.slice D2 o.for_.length i2) (.slice D3 o.may_.length i3)) (HV : Hid (VFacts2 v (judgeP o r))) (HY : Hid (VFormN y (judgeP c r))) (HN : Hid (NarOk c o r)) (hs : NzEnd w #[(.slice A1 c.has.length k1), .string ⟨c.about.toArray⟩, .int .i64 c.at_, .string ⟨c.by_.toArray⟩, (.slice A2 c.for_.length k2), .int .i64 c.from_, .string ⟨c.id_.toArray⟩, (.slice A3 c.may_.length k3), .int .i64 c.until_] #[(.slice B1 m.has.length j1), .string ⟨m.about.toArray⟩, .int .i64 m.at_, .string ⟨m.by_.toArray⟩, (.slice B2 m.for_.length j2), .int .i64 m.from_, .string ⟨m.id_.toArray⟩, (.slice B3 m.may_.length j3), .int .i64 m.until_] #[(.slice D1 o.has.length i1), .string ⟨o.about.toArray⟩, .int .i64 o.at_, .string ⟨o.by_.toArray⟩, (.slice D2 o.for_.length i2), .int .i64 o.from_, .string ⟨o.id_.toArray⟩, (.slice D3 o.may_.length i3), .int .i64 o.until_] #[.int .i64 r.now, .int .i64 r.slack, .string ⟨r.who.toArray⟩, (.slice E1 r.by_.length q1), (.slice E2 r.need.length q2), (.slice E3 r.may_.length q3)] g3 g4 g5 g6 wr) (z0 z1 z2 z3 z4 z6 z7 z8 z9 z10 z13 z14 z15 z16 z17 z18 z19 z20 z21 z22 z23 z24 z25 z26 z27 z28 z29 z30 z31 z32 z33 z34 z35 z36 z37 z38 z39 z40 z41 z42 z43 z44 z45 z46 z47 z48 z49 z50 z51 z52 z53 z54 z55 z56 z57 z58 z59 z60 z61 z62 z63 z64 z65 z66 z67 z68 z69 z70 z71 z72 z73 z74 z75 z76 z77 z78 z79 z80 z81 z82 z83 z84 z85 z86 z87 z88 z89 z90 z91 z92 z93 z94 z95 : Value) :
    Code.wp Tryz.prog nzTail3 (bodyPost Tryz.prog Tryz.f5 (fun e w' => e = .returned (.bool true) ∧ Below w.heap.size w w')) { tmps := (z0 :: z1 :: z2 :: z3 :: z4 :: .pointer (some ⟨g5, 0, none⟩) :: z6 :: z7 :: z8 :: z9 :: z10 :: v :: y :: z13 :: z14 :: z15 :: z16 :: z17 :: z18 :: z19 :: z20 :: z21 :: z22 :: z23 :: z24 :: z25 :: z26 :: z27 :: z28 :: z29 :: z30 :: z31 :: z32 :: z33 :: z34 :: z35 :: z36 :: z37 :: z38 :: z39 :: z40 :: z41 :: z42 :: z43 :: z44 :: z45 :: z46 :: z47 :: z48 :: z49 :: z50 :: z51 :: z52 :: z53 :: z54 :: z55 :: z56 :: z57 :: z58 :: z59 :: z60 :: z61 :: z62 :: z63 :: z64 :: z65 :: z66 :: z67 :: z68 :: z69 :: z70 :: z71 :: z72 :: z73 :: z74 :: z75 :: z76 :: z77 :: z78 :: z79 :: z80 :: z81 :: z82 :: z83 :: z84 :: z85 :: z86 :: z87 :: z88 :: z89 :: z90 :: z91 :: z92 :: z93 :: z94 :: z95 :: []).toArray, defers := [] } wr := by
  by_cases h3 : (judgeP o r).kind = 3
  · exact nz_over c m o r A1 A2 A3 B1 B2 B3 D1 D2 D3 E1 E2 E3 k1 k2 k3 j1 j2 j3 i1 i2 i3 q1 q2 q3 g3 g4 g5 g6 v y w wr ho HV HY HN h3 hs _ _ _ _ _ _ _ _ _ _ _ _ _ _ _ _ _ _ _ _ _ _ _ _ _ _ _ _ _ _ _ _ _ _ _ _ _ _ _ _ _ _ _ _ _ _ _ _ _ _ _ _ _ _ _ _ _ _ _ _ _ _ _ _ _ _ _ _ _ _ _ _ _ _ _ _ _ _ _ _ _ _ _ _ _ _ _ _ _ _ _ _ _
  by_cases h6 : (judgeP o r).kind = 6
  · exact nz_other c m o r A1 A2 A3 B1 B2 B3 D1 D2 D3 E1 E2 E3 k1 k2 k3 j1 j2 j3 i1 i2 i3 q1 q2 q3 g3 g4 g5 g6 v y w wr ho HV HY HN h6 hs _ _ _ _ _ _ _ _ _ _ _ _ _ _ _ _ _ _ _ _ _ _ _ _ _ _ _ _ _ _ _ _ _ _ _ _ _ _ _ _ _ _ _ _ _ _ _ _ _ _ _ _ _ _ _ _ _ _ _ _ _ _ _ _ _ _ _ _ _ _ _ _ _ _ _ _ _ _ _ _ _ _ _ _ _ _ _ _ _ _ _ _ _
  by_cases h7 : (judgeP o r).kind = 7
  · exact nz_barred c m o r A1 A2 A3 B1 B2 B3 D1 D2 D3 E1 E2 E3 k1 k2 k3 j1 j2 j3 i1 i2 i3 q1 q2 q3 g3 g4 g5 g6 v y w wr ho HV HY HN h7 hs _ _ _ _ _ _ _ _ _ _ _ _ _ _ _ _ _ _ _ _ _ _ _ _ _ _ _ _ _ _ _ _ _ _ _ _ _ _ _ _ _ _ _ _ _ _ _ _ _ _ _ _ _ _ _ _ _ _ _ _ _ _ _ _ _ _ _ _ _ _ _ _ _ _ _ _ _ _ _ _ _ _ _ _ _ _ _ _ _ _ _ _ _
  by_cases h2 : (judgeP o r).kind = 2
  · exact nz_early c m o r A1 A2 A3 B1 B2 B3 D1 D2 D3 E1 E2 E3 k1 k2 k3 j1 j2 j3 i1 i2 i3 q1 q2 q3 g3 g4 g5 g6 v y w wr ho HV HY HN h2 hs _ _ _ _ _ _ _ _ _ _ _ _ _ _ _ _ _ _ _ _ _ _ _ _ _ _ _ _ _ _ _ _ _ _ _ _ _ _ _ _ _ _ _ _ _ _ _ _ _ _ _ _ _ _ _ _ _ _ _ _ _ _ _ _ _ _ _ _ _ _ _ _ _ _ _ _ _ _ _ _ _ _ _ _ _ _ _ _ _ _ _ _ _
  exact nz_rest c m o r A1 A2 A3 B1 B2 B3 D1 D2 D3 E1 E2 E3 k1 k2 k3 j1 j2 j3 i1 i2 i3 q1 q2 q3 g3 g4 g5 g6 v y w wr ho HV HY HN h3 h6 h7 h2 hs _ _ _ _ _ _ _ _ _ _ _ _ _ _ _ _ _ _ _ _ _ _ _ _ _ _ _ _ _ _ _ _ _ _ _ _ _ _ _ _ _ _ _ _ _ _ _ _ _ _ _ _ _ _ _ _ _ _ _ _ _ _ _ _ _ _ _ _ _ _ _ _ _ _ _ _ _ _ _ _ _ _ _ _ _ _ _ _ _ _ _ _ _

end Go.Proofs.YtnondmeafilplaaGreatDoor
