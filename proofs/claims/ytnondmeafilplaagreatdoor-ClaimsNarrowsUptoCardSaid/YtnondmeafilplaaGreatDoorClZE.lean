/-
  The statement ClaimsNarrows of layer 25: its tests of errors (printed by wip/gen_clz.py).
-/
import Derived.Test.YtnondmeafilplaaGreatDoorClZD
namespace Go.Proofs.YtnondmeafilplaaGreatDoor
open Go.RowKit Mem Utf Ref3 Tok Cl
set_option linter.unusedVariables false

noncomputable def nzTail2c : Code := nextOf (nextOf (nextOf (nextOf (nextOf (nextOf (Tryz.f5.body.getD .skip))))))
noncomputable def nzTail2b : Code := nextOf (nextOf (nextOf (nextOf (nextOf (Tryz.f5.body.getD .skip)))))
noncomputable def nzTail2a : Code := nextOf (nextOf (nextOf (nextOf (Tryz.f5.body.getD .skip))))
theorem nil_ne (W : World) : (binOp .neq 53 .nilIface .nilIface).run Tryz.prog W = .ok (.bool false) W := by kernel_rfl
theorem some_ne (t : TypeId) (x : Value) (W : World) : (binOp .neq 53 (.iface t x) .nilIface).run Tryz.prog W = .ok (.bool true) W := by kernel_rfl
theorem some_eq (t : TypeId) (x : Value) (W : World) : (binOp .eql 53 (.iface t x) .nilIface).run Tryz.prog W = .ok (.bool false) W := by kernel_rfl
set_option maxRecDepth 100000 in
set_option maxHeartbeats 8000000 in
theorem nz_tail2c (c m o : C) (r : R) (A1 A2 A3 B1 B2 B3 D1 D2 D3 E1 E2 E3 : Option Addr) (k1 k2 k3 j1 j2 j3 i1 i2 i3 q1 q2 q3 g3 g4 g5 g6 : Nat) (w wr : World) (hc : ClAt w c (.slice A1 c.has.length k1) (.slice A2 c.for_.length k2) (.slice A3 c.may_.length k3)) (hm : ClAt w m (.slice B1 m.has.length j1) (.slice B2 m.for_.length j2) (.slice B3 m.may_.length j3)) (ho : ClAt w o (.slice D1 o.has.length i1) (.slice D2 o.for_.length i2) (.slice D3 o.may_.length i3)) (hr : RuAt w r (.slice E1 r.by_.length q1) (.slice E2 r.need.length q2) (.slice E3 r.may_.length q3)) (HN : Hid (NarOk c o r)) (hs : NzEnd w #[(.slice A1 c.has.length k1), .string ⟨c.about.toArray⟩, .int .i64 c.at_, .string ⟨c.by_.toArray⟩, (.slice A2 c.for_.length k2), .int .i64 c.from_, .string ⟨c.id_.toArray⟩, (.slice A3 c.may_.length k3), .int .i64 c.until_] #[(.slice B1 m.has.length j1), .string ⟨m.about.toArray⟩, .int .i64 m.at_, .string ⟨m.by_.toArray⟩, (.slice B2 m.for_.length j2), .int .i64 m.from_, .string ⟨m.id_.toArray⟩, (.slice B3 m.may_.length j3), .int .i64 m.until_] #[(.slice D1 o.has.length i1), .string ⟨o.about.toArray⟩, .int .i64 o.at_, .string ⟨o.by_.toArray⟩, (.slice D2 o.for_.length i2), .int .i64 o.from_, .string ⟨o.id_.toArray⟩, (.slice D3 o.may_.length i3), .int .i64 o.until_] #[.int .i64 r.now, .int .i64 r.slack, .string ⟨r.who.toArray⟩, (.slice E1 r.by_.length q1), (.slice E2 r.need.length q2), (.slice E3 r.may_.length q3)] g3 g4 g5 g6 wr) (z0 z1 z2 z4 z7 z8 z9 z10 z11 z12 z13 z14 z15 z16 z17 z18 z19 z20 z21 z22 z23 z24 z25 z26 z27 z28 z29 z30 z31 z32 z33 z34 z35 z36 z37 z38 z39 z40 z41 z42 z43 z44 z45 z46 z47 z48 z49 z50 z51 z52 z53 z54 z55 z56 z57 z58 z59 z60 z61 z62 z63 z64 z65 z66 z67 z68 z69 z70 z71 z72 z73 z74 z75 z76 z77 z78 z79 z80 z81 z82 z83 z84 z85 z86 z87 z88 z89 z90 z91 z92 z93 z94 z95 : Value) :
    Code.wp Tryz.prog nzTail2c (bodyPost Tryz.prog Tryz.f5 (fun e w' => e = .returned (.bool true) ∧ Below w.heap.size w w')) { tmps := (z0 :: z1 :: z2 :: .pointer (some ⟨g3, 0, none⟩) :: z4 :: .pointer (some ⟨g5, 0, none⟩) :: .pointer (some ⟨g6, 0, none⟩) :: z7 :: z8 :: z9 :: z10 :: z11 :: z12 :: z13 :: z14 :: z15 :: z16 :: z17 :: z18 :: z19 :: z20 :: z21 :: z22 :: z23 :: z24 :: z25 :: z26 :: z27 :: z28 :: z29 :: z30 :: z31 :: z32 :: z33 :: z34 :: z35 :: z36 :: z37 :: z38 :: z39 :: z40 :: z41 :: z42 :: z43 :: z44 :: z45 :: z46 :: z47 :: z48 :: z49 :: z50 :: z51 :: z52 :: z53 :: z54 :: z55 :: z56 :: z57 :: z58 :: z59 :: z60 :: z61 :: z62 :: z63 :: z64 :: z65 :: z66 :: z67 :: z68 :: z69 :: z70 :: z71 :: z72 :: z73 :: z74 :: z75 :: z76 :: z77 :: z78 :: z79 :: z80 :: z81 :: z82 :: z83 :: z84 :: z85 :: z86 :: z87 :: z88 :: z89 :: z90 :: z91 :: z92 :: z93 :: z94 :: z95 :: []).toArray, defers := [] } wr := by
  conv => arg 2; whnf
  apply wp_seq_k
  intro K9 hK9
  go_cut [11, 12] (fun c11 c12 wx => Hid (VFacts2 c11 (judgeP o r)) ∧ Hid (VFormN c12 (judgeP c r)) ∧ NzEnd w #[(.slice A1 c.has.length k1), .string ⟨c.about.toArray⟩, .int .i64 c.at_, .string ⟨c.by_.toArray⟩, (.slice A2 c.for_.length k2), .int .i64 c.from_, .string ⟨c.id_.toArray⟩, (.slice A3 c.may_.length k3), .int .i64 c.until_] #[(.slice B1 m.has.length j1), .string ⟨m.about.toArray⟩, .int .i64 m.at_, .string ⟨m.by_.toArray⟩, (.slice B2 m.for_.length j2), .int .i64 m.from_, .string ⟨m.id_.toArray⟩, (.slice B3 m.may_.length j3), .int .i64 m.until_] #[(.slice D1 o.has.length i1), .string ⟨o.about.toArray⟩, .int .i64 o.at_, .string ⟨o.by_.toArray⟩, (.slice D2 o.for_.length i2), .int .i64 o.from_, .string ⟨o.id_.toArray⟩, (.slice D3 o.may_.length i3), .int .i64 o.until_] #[.int .i64 r.now, .int .i64 r.slack, .string ⟨r.who.toArray⟩, (.slice E1 r.by_.length q1), (.slice E2 r.need.length q2), (.slice E3 r.may_.length q3)] g3 g4 g5 g6 wx)
  case rest =>
    obtain ⟨HV, HY, hs2⟩ := hcut
    go_step
    exact nz_tail3 c m o r A1 A2 A3 B1 B2 B3 D1 D2 D3 E1 E2 E3 k1 k2 k3 j1 j2 j3 i1 i2 i3 q1 q2 q3 g3 g4 g5 g6 _ _ w _ ho HV HY HN hs2 _ _ _ _ _ _ _ _ _ _ _ _ _ _ _ _ _ _ _ _ _ _ _ _ _ _ _ _ _ _ _ _ _ _ _ _ _ _ _ _ _ _ _ _ _ _ _ _ _ _ _ _ _ _ _ _ _ _ _ _ _ _ _ _ _ _ _ _ _ _ _ _ _ _ _ _ _ _ _ _ _ _ _ _ _ _ _ _ _ _ _ _ _
  refine wp_region_noPanic ?_
  refine wp_region_held (S := fun W => NzEnd w #[(.slice A1 c.has.length k1), .string ⟨c.about.toArray⟩, .int .i64 c.at_, .string ⟨c.by_.toArray⟩, (.slice A2 c.for_.length k2), .int .i64 c.from_, .string ⟨c.id_.toArray⟩, (.slice A3 c.may_.length k3), .int .i64 c.until_] #[(.slice B1 m.has.length j1), .string ⟨m.about.toArray⟩, .int .i64 m.at_, .string ⟨m.by_.toArray⟩, (.slice B2 m.for_.length j2), .int .i64 m.from_, .string ⟨m.id_.toArray⟩, (.slice B3 m.may_.length j3), .int .i64 m.until_] #[(.slice D1 o.has.length i1), .string ⟨o.about.toArray⟩, .int .i64 o.at_, .string ⟨o.by_.toArray⟩, (.slice D2 o.for_.length i2), .int .i64 o.from_, .string ⟨o.id_.toArray⟩, (.slice D3 o.may_.length i3), .int .i64 o.until_] #[.int .i64 r.now, .int .i64 r.slack, .string ⟨r.who.toArray⟩, (.slice E1 r.by_.length q1), (.slice E2 r.need.length q2), (.slice E3 r.may_.length q3)] g3 g4 g5 g6 W) (by kernel_rfl) ?_
  refine nz_reg8 c m o r A1 A2 A3 B1 B2 B3 D1 D2 D3 E1 E2 E3 k1 k2 k3 j1 j2 j3 i1 i2 i3 q1 q2 q3 g3 g4 g5 g6 w _ hc ho hr _ _ _ _ _ _ _ _ _ _ _ _ _ _ _ _ _ _ _ _ _ _ _ _ _ _ _ _ _ _ _ _ _ _ _ _ _ _ _ _ _ _ _ _ _ _ _ _ _ _ _ _ _ _ _ _ _ _ _ _ _ _ _ _ _ _ _ _ _ _ _ _ _ _ _ _ _ _ _ _ _ _ _ _ _ _ _ _ _ _ _ _ _ ?_ _ ⟨hs.b3, hs.b4, hs.b5, hs.b6, hs.bel.drew⟩
  intro v y W HV HY hS
  unfold nzFrame
  go_wp2_with fail
  go_meet
  exact ⟨HV, HY, hS⟩

set_option maxRecDepth 100000 in
set_option maxHeartbeats 8000000 in
theorem nz_tail2b (c m o : C) (r : R) (A1 A2 A3 B1 B2 B3 D1 D2 D3 E1 E2 E3 : Option Addr) (k1 k2 k3 j1 j2 j3 i1 i2 i3 q1 q2 q3 g3 g4 g5 g6 : Nat) (gv : Value) (w wr : World) (hc : ClAt w c (.slice A1 c.has.length k1) (.slice A2 c.for_.length k2) (.slice A3 c.may_.length k3)) (hm : ClAt w m (.slice B1 m.has.length j1) (.slice B2 m.for_.length j2) (.slice B3 m.may_.length j3)) (ho : ClAt w o (.slice D1 o.has.length i1) (.slice D2 o.for_.length i2) (.slice D3 o.may_.length i3)) (hr : RuAt w r (.slice E1 r.by_.length q1) (.slice E2 r.need.length q2) (.slice E3 r.may_.length q3)) (HG : Hid ((gv = .nilIface ∧ mayB c = true ∧ mayB o = true ∧ Inside c o) ∨ ((∃ t x, gv = .iface t x) ∧ ¬ (mayB c = true ∧ mayB o = true ∧ Inside c o)))) (hs : NzEnd w #[(.slice A1 c.has.length k1), .string ⟨c.about.toArray⟩, .int .i64 c.at_, .string ⟨c.by_.toArray⟩, (.slice A2 c.for_.length k2), .int .i64 c.from_, .string ⟨c.id_.toArray⟩, (.slice A3 c.may_.length k3), .int .i64 c.until_] #[(.slice B1 m.has.length j1), .string ⟨m.about.toArray⟩, .int .i64 m.at_, .string ⟨m.by_.toArray⟩, (.slice B2 m.for_.length j2), .int .i64 m.from_, .string ⟨m.id_.toArray⟩, (.slice B3 m.may_.length j3), .int .i64 m.until_] #[(.slice D1 o.has.length i1), .string ⟨o.about.toArray⟩, .int .i64 o.at_, .string ⟨o.by_.toArray⟩, (.slice D2 o.for_.length i2), .int .i64 o.from_, .string ⟨o.id_.toArray⟩, (.slice D3 o.may_.length i3), .int .i64 o.until_] #[.int .i64 r.now, .int .i64 r.slack, .string ⟨r.who.toArray⟩, (.slice E1 r.by_.length q1), (.slice E2 r.need.length q2), (.slice E3 r.may_.length q3)] g3 g4 g5 g6 wr) (z0 z1 z2 z4 z7 z8 z10 z11 z12 z13 z14 z15 z16 z17 z18 z19 z20 z21 z22 z23 z24 z25 z26 z27 z28 z29 z30 z31 z32 z33 z34 z35 z36 z37 z38 z39 z40 z41 z42 z43 z44 z45 z46 z47 z48 z49 z50 z51 z52 z53 z54 z55 z56 z57 z58 z59 z60 z61 z62 z63 z64 z65 z66 z67 z68 z69 z70 z71 z72 z73 z74 z75 z76 z77 z78 z79 z80 z81 z82 z83 z84 z85 z86 z87 z88 z89 z90 z91 z92 z93 z94 z95 : Value) :
    Code.wp Tryz.prog nzTail2b (bodyPost Tryz.prog Tryz.f5 (fun e w' => e = .returned (.bool true) ∧ Below w.heap.size w w')) { tmps := (z0 :: z1 :: z2 :: .pointer (some ⟨g3, 0, none⟩) :: z4 :: .pointer (some ⟨g5, 0, none⟩) :: .pointer (some ⟨g6, 0, none⟩) :: z7 :: z8 :: gv :: z10 :: z11 :: z12 :: z13 :: z14 :: z15 :: z16 :: z17 :: z18 :: z19 :: z20 :: z21 :: z22 :: z23 :: z24 :: z25 :: z26 :: z27 :: z28 :: z29 :: z30 :: z31 :: z32 :: z33 :: z34 :: z35 :: z36 :: z37 :: z38 :: z39 :: z40 :: z41 :: z42 :: z43 :: z44 :: z45 :: z46 :: z47 :: z48 :: z49 :: z50 :: z51 :: z52 :: z53 :: z54 :: z55 :: z56 :: z57 :: z58 :: z59 :: z60 :: z61 :: z62 :: z63 :: z64 :: z65 :: z66 :: z67 :: z68 :: z69 :: z70 :: z71 :: z72 :: z73 :: z74 :: z75 :: z76 :: z77 :: z78 :: z79 :: z80 :: z81 :: z82 :: z83 :: z84 :: z85 :: z86 :: z87 :: z88 :: z89 :: z90 :: z91 :: z92 :: z93 :: z94 :: z95 :: []).toArray, defers := [] } wr := by
  have f1 := nil_ne
  have f2 := some_ne
  conv => arg 2; whnf
  rcases HG.out with ⟨rfl, _, _, hin⟩ | ⟨⟨t, x, rfl⟩, _⟩
  · have HN := Lib.hid (nar_ok r hin)
    clear hin
    apply wp_seq_k
    intro K9 hK9
    go_cut [] (fun wx => wx = wr)
    case rest =>
      subst hcut
      go_step
      exact nz_tail2c c m o r A1 A2 A3 B1 B2 B3 D1 D2 D3 E1 E2 E3 k1 k2 k3 j1 j2 j3 i1 i2 i3 q1 q2 q3 g3 g4 g5 g6 w _ hc hm ho hr HN hs _ _ _ _ _ _ _ _ _ _ _ _ _ _ _ _ _ _ _ _ _ _ _ _ _ _ _ _ _ _ _ _ _ _ _ _ _ _ _ _ _ _ _ _ _ _ _ _ _ _ _ _ _ _ _ _ _ _ _ _ _ _ _ _ _ _ _ _ _ _ _ _ _ _ _ _ _ _ _ _ _ _ _ _ _ _ _ _ _ _ _ _ _
    clear hc hm ho hr
    go_wp2_with fail
    go_meet
    exact rfl
  · have hbw := hs.bel
    clear hc hm ho hr hs
    go_wp2
    go_ret
    exact ⟨rfl, hbw⟩

set_option maxRecDepth 100000 in
set_option maxHeartbeats 8000000 in
theorem nz_tail2a (c m o : C) (r : R) (A1 A2 A3 B1 B2 B3 D1 D2 D3 E1 E2 E3 : Option Addr) (k1 k2 k3 j1 j2 j3 i1 i2 i3 q1 q2 q3 g3 g4 g5 g6 : Nat) (ev fv gv sv : Value) (w wr : World) (hc : ClAt w c (.slice A1 c.has.length k1) (.slice A2 c.for_.length k2) (.slice A3 c.may_.length k3)) (hm : ClAt w m (.slice B1 m.has.length j1) (.slice B2 m.for_.length j2) (.slice B3 m.may_.length j3)) (ho : ClAt w o (.slice D1 o.has.length i1) (.slice D2 o.for_.length i2) (.slice D3 o.may_.length i3)) (hr : RuAt w r (.slice E1 r.by_.length q1) (.slice E2 r.need.length q2) (.slice E3 r.may_.length q3)) (HE : Hid ((ev = .nilIface ∧ mayB c = true ∧ mayB m = true ∧ Inside c m) ∨ ((∃ t x, ev = .iface t x) ∧ ¬ (mayB c = true ∧ mayB m = true ∧ Inside c m)))) (HF : Hid ((fv = .nilIface ∧ mayB m = true ∧ mayB o = true ∧ Inside m o) ∨ ((∃ t x, fv = .iface t x) ∧ ¬ (mayB m = true ∧ mayB o = true ∧ Inside m o)))) (HG : Hid ((gv = .nilIface ∧ mayB c = true ∧ mayB o = true ∧ Inside c o) ∨ ((∃ t x, gv = .iface t x) ∧ ¬ (mayB c = true ∧ mayB o = true ∧ Inside c o)))) (HSf : Hid (sv = .nilIface ∨ sv = .iface 46 (.int .i64 2))) (hs : NzEnd w #[(.slice A1 c.has.length k1), .string ⟨c.about.toArray⟩, .int .i64 c.at_, .string ⟨c.by_.toArray⟩, (.slice A2 c.for_.length k2), .int .i64 c.from_, .string ⟨c.id_.toArray⟩, (.slice A3 c.may_.length k3), .int .i64 c.until_] #[(.slice B1 m.has.length j1), .string ⟨m.about.toArray⟩, .int .i64 m.at_, .string ⟨m.by_.toArray⟩, (.slice B2 m.for_.length j2), .int .i64 m.from_, .string ⟨m.id_.toArray⟩, (.slice B3 m.may_.length j3), .int .i64 m.until_] #[(.slice D1 o.has.length i1), .string ⟨o.about.toArray⟩, .int .i64 o.at_, .string ⟨o.by_.toArray⟩, (.slice D2 o.for_.length i2), .int .i64 o.from_, .string ⟨o.id_.toArray⟩, (.slice D3 o.may_.length i3), .int .i64 o.until_] #[.int .i64 r.now, .int .i64 r.slack, .string ⟨r.who.toArray⟩, (.slice E1 r.by_.length q1), (.slice E2 r.need.length q2), (.slice E3 r.may_.length q3)] g3 g4 g5 g6 wr) (z0 z1 z2 z4 z11 z12 z13 z14 z15 z16 z17 z18 z19 z20 z21 z22 z23 z24 z25 z26 z27 z28 z29 z30 z31 z32 z33 z34 z35 z36 z37 z38 z39 z40 z41 z42 z43 z44 z45 z46 z47 z48 z49 z50 z51 z52 z53 z54 z55 z56 z57 z58 z59 z60 z61 z62 z63 z64 z65 z66 z67 z68 z69 z70 z71 z72 z73 z74 z75 z76 z77 z78 z79 z80 z81 z82 z83 z84 z85 z86 z87 z88 z89 z90 z91 z92 z93 z94 z95 : Value) :
    Code.wp Tryz.prog nzTail2a (bodyPost Tryz.prog Tryz.f5 (fun e w' => e = .returned (.bool true) ∧ Below w.heap.size w w')) { tmps := (z0 :: z1 :: z2 :: .pointer (some ⟨g3, 0, none⟩) :: z4 :: .pointer (some ⟨g5, 0, none⟩) :: .pointer (some ⟨g6, 0, none⟩) :: ev :: fv :: gv :: sv :: z11 :: z12 :: z13 :: z14 :: z15 :: z16 :: z17 :: z18 :: z19 :: z20 :: z21 :: z22 :: z23 :: z24 :: z25 :: z26 :: z27 :: z28 :: z29 :: z30 :: z31 :: z32 :: z33 :: z34 :: z35 :: z36 :: z37 :: z38 :: z39 :: z40 :: z41 :: z42 :: z43 :: z44 :: z45 :: z46 :: z47 :: z48 :: z49 :: z50 :: z51 :: z52 :: z53 :: z54 :: z55 :: z56 :: z57 :: z58 :: z59 :: z60 :: z61 :: z62 :: z63 :: z64 :: z65 :: z66 :: z67 :: z68 :: z69 :: z70 :: z71 :: z72 :: z73 :: z74 :: z75 :: z76 :: z77 :: z78 :: z79 :: z80 :: z81 :: z82 :: z83 :: z84 :: z85 :: z86 :: z87 :: z88 :: z89 :: z90 :: z91 :: z92 :: z93 :: z94 :: z95 :: []).toArray, defers := [] } wr := by
  have f1 := nil_ne
  have f2 := some_ne
  have f3 := nil_eq
  have f4 := some_eq
  conv => arg 2; whnf
  apply wp_seq_k
  intro K9 hK9
  go_cut [] (fun wx => NzEnd w #[(.slice A1 c.has.length k1), .string ⟨c.about.toArray⟩, .int .i64 c.at_, .string ⟨c.by_.toArray⟩, (.slice A2 c.for_.length k2), .int .i64 c.from_, .string ⟨c.id_.toArray⟩, (.slice A3 c.may_.length k3), .int .i64 c.until_] #[(.slice B1 m.has.length j1), .string ⟨m.about.toArray⟩, .int .i64 m.at_, .string ⟨m.by_.toArray⟩, (.slice B2 m.for_.length j2), .int .i64 m.from_, .string ⟨m.id_.toArray⟩, (.slice B3 m.may_.length j3), .int .i64 m.until_] #[(.slice D1 o.has.length i1), .string ⟨o.about.toArray⟩, .int .i64 o.at_, .string ⟨o.by_.toArray⟩, (.slice D2 o.for_.length i2), .int .i64 o.from_, .string ⟨o.id_.toArray⟩, (.slice D3 o.may_.length i3), .int .i64 o.until_] #[.int .i64 r.now, .int .i64 r.slack, .string ⟨r.who.toArray⟩, (.slice E1 r.by_.length q1), (.slice E2 r.need.length q2), (.slice E3 r.may_.length q3)] g3 g4 g5 g6 wx)
  case rest =>
    go_step
    exact nz_tail2b c m o r A1 A2 A3 B1 B2 B3 D1 D2 D3 E1 E2 E3 k1 k2 k3 j1 j2 j3 i1 i2 i3 q1 q2 q3 g3 g4 g5 g6 gv w _ hc hm ho hr HG hcut _ _ _ _ _ _ _ _ _ _ _ _ _ _ _ _ _ _ _ _ _ _ _ _ _ _ _ _ _ _ _ _ _ _ _ _ _ _ _ _ _ _ _ _ _ _ _ _ _ _ _ _ _ _ _ _ _ _ _ _ _ _ _ _ _ _ _ _ _ _ _ _ _ _ _ _ _ _ _ _ _ _ _ _ _ _ _ _ _ _ _ _
  clear hc hm ho hr
  go_wp2_with fail
  refine (wakes25_any _).mono ?_
  rintro e w1 ⟨rfl, hb1⟩
  have hs1 := hs.below hb1
  clear hs hb1
  rcases HSf.out with rfl | rfl
  · clear HSf
    rcases HE.out with ⟨rfl, m1, m2, n1⟩ | ⟨⟨t, x, rfl⟩, _⟩
    · rcases HF.out with ⟨rfl, m3, m4, n2⟩ | ⟨⟨t, x, rfl⟩, _⟩
      · obtain rfl : gv = .nilIface := by
          rcases HG.out with ⟨h, _⟩ | ⟨_, h⟩
          · exact h
          · exact absurd ⟨m1, m4, inside_trans n1 n2⟩ h
        clear HE HF HG m1 m2 m3 m4 n1 n2
        go_wp2_with fail

        go_meet
        exact hs1
      · clear HE HF m1 m2 n1
        go_wp2_with fail

        go_meet
        exact hs1
    · clear HE HF
      go_wp2_with fail

      go_meet
      exact hs1
  · clear HSf
    rcases HE.out with ⟨rfl, m1, m2, n1⟩ | ⟨⟨t, x, rfl⟩, _⟩
    · rcases HF.out with ⟨rfl, m3, m4, n2⟩ | ⟨⟨t, x, rfl⟩, _⟩
      · obtain rfl : gv = .nilIface := by
          rcases HG.out with ⟨h, _⟩ | ⟨_, h⟩
          · exact h
          · exact absurd ⟨m1, m4, inside_trans n1 n2⟩ h
        clear HE HF HG m1 m2 m3 m4 n1 n2
        go_wp2_with fail
        refine (number25_any 2 _).mono ?_
        rintro e w' ⟨rfl, rfl⟩
        go_wp2_with fail
        go_meet
        exact hs1
      · clear HE HF m1 m2 n1
        go_wp2_with fail
        refine (number25_any 2 _).mono ?_
        rintro e w' ⟨rfl, rfl⟩
        go_wp2_with fail
        go_meet
        exact hs1
    · clear HE HF
      go_wp2_with fail
      refine (number25_any 2 _).mono ?_
      rintro e w' ⟨rfl, rfl⟩
      go_wp2_with fail
      go_meet
      exact hs1

end Go.Proofs.YtnondmeafilplaaGreatDoor
