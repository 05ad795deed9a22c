/-
  The statement ClaimsNarrows of layer 25: its start (printed by wip/gen_clz.py).
-/
import Derived.Test.YtnondmeafilplaaGreatDoorClZE
namespace Go.Proofs.YtnondmeafilplaaGreatDoor
open Go.RowKit Mem Utf Ref3 Tok Cl
set_option linter.unusedVariables false

set_option maxRecDepth 100000 in
set_option maxHeartbeats 8000000 in
theorem claimsNarrows_any (c m o : C) (r : R) (v1 v2 v3 y1 y2 y3 t1 t2 t3 u1 u2 u3 : Value) (w : World) (hc : ClAt w c v1 v2 v3) (hm : ClAt w m y1 y2 y3) (ho : ClAt w o t1 t2 t3) (hr : RuAt w r u1 u2 u3) (hg : Glob w) :
    Calls Tryz.prog 5 #[.agg #[v1, .string ⟨c.about.toArray⟩, .int .i64 c.at_, .string ⟨c.by_.toArray⟩, v2, .int .i64 c.from_, .string ⟨c.id_.toArray⟩, v3, .int .i64 c.until_, y1, .string ⟨m.about.toArray⟩, .int .i64 m.at_, .string ⟨m.by_.toArray⟩, y2, .int .i64 m.from_, .string ⟨m.id_.toArray⟩, y3, .int .i64 m.until_, t1, .string ⟨o.about.toArray⟩, .int .i64 o.at_, .string ⟨o.by_.toArray⟩, t2, .int .i64 o.from_, .string ⟨o.id_.toArray⟩, t3, .int .i64 o.until_, .int .i64 r.now, .int .i64 r.slack, .string ⟨r.who.toArray⟩, u1, u2, u3]] w (fun e w' => e = .returned (.bool true) ∧ Below w.heap.size w w') := by
  have hzm : 1 < w.heap.size := by
    obtain ⟨mx, hmx⟩ := hg
    exact World.block_lt_of_cell? w _ hmx
  obtain ⟨A1, k1, eA1, _⟩ := hc.has
  obtain ⟨A2, k2, eA2, _⟩ := hc.for_
  obtain ⟨A3, k3, eA3, _⟩ := hc.may
  obtain ⟨B1, j1, eB1, _⟩ := hm.has
  obtain ⟨B2, j2, eB2, _⟩ := hm.for_
  obtain ⟨B3, j3, eB3, _⟩ := hm.may
  obtain ⟨D1, i1, eD1, _⟩ := ho.has
  obtain ⟨D2, i2, eD2, _⟩ := ho.for_
  obtain ⟨D3, i3, eD3, _⟩ := ho.may
  obtain ⟨E1, q1, eE1, _⟩ := hr.by_
  obtain ⟨E2, q2, eE2, _⟩ := hr.need
  obtain ⟨E3, q3, eE3, _⟩ := hr.may
  subst eA1 eA2 eA3 eB1 eB2 eB3 eD1 eD2 eD3 eE1 eE2 eE3
  have hS0 : NzS w #[(.slice A1 c.has.length k1), .string ⟨c.about.toArray⟩, .int .i64 c.at_, .string ⟨c.by_.toArray⟩, (.slice A2 c.for_.length k2), .int .i64 c.from_, .string ⟨c.id_.toArray⟩, (.slice A3 c.may_.length k3), .int .i64 c.until_, (.slice B1 m.has.length j1), .string ⟨m.about.toArray⟩, .int .i64 m.at_, .string ⟨m.by_.toArray⟩, (.slice B2 m.for_.length j2), .int .i64 m.from_, .string ⟨m.id_.toArray⟩, (.slice B3 m.may_.length j3), .int .i64 m.until_, (.slice D1 o.has.length i1), .string ⟨o.about.toArray⟩, .int .i64 o.at_, .string ⟨o.by_.toArray⟩, (.slice D2 o.for_.length i2), .int .i64 o.from_, .string ⟨o.id_.toArray⟩, (.slice D3 o.may_.length i3), .int .i64 o.until_, .int .i64 r.now, .int .i64 r.slack, .string ⟨r.who.toArray⟩, (.slice E1 r.by_.length q1), (.slice E2 r.need.length q2), (.slice E3 r.may_.length q3)] (w.alloc (.cells #[(.slice A1 c.has.length k1), .string ⟨c.about.toArray⟩, .int .i64 c.at_, .string ⟨c.by_.toArray⟩, (.slice A2 c.for_.length k2), .int .i64 c.from_, .string ⟨c.id_.toArray⟩, (.slice A3 c.may_.length k3), .int .i64 c.until_, (.slice B1 m.has.length j1), .string ⟨m.about.toArray⟩, .int .i64 m.at_, .string ⟨m.by_.toArray⟩, (.slice B2 m.for_.length j2), .int .i64 m.from_, .string ⟨m.id_.toArray⟩, (.slice B3 m.may_.length j3), .int .i64 m.until_, (.slice D1 o.has.length i1), .string ⟨o.about.toArray⟩, .int .i64 o.at_, .string ⟨o.by_.toArray⟩, (.slice D2 o.for_.length i2), .int .i64 o.from_, .string ⟨o.id_.toArray⟩, (.slice D3 o.may_.length i3), .int .i64 o.until_, .int .i64 r.now, .int .i64 r.slack, .string ⟨r.who.toArray⟩, (.slice E1 r.by_.length q1), (.slice E2 r.need.length q2), (.slice E3 r.may_.length q3)] 61)) := ⟨Blk.new w 61 _, (Below.refl _ _).alloc (Nat.le_refl _) _⟩
  go_enter Tryz.func5, Tryz.ntmps5
  go_upto_region 1 with fail
  go_cut [3, 4, 5, 6] (fun c3 c4 c5 c6 wx => ∃ g3 g4 g5 g6, c3 = .pointer (some ⟨g3, 0, none⟩) ∧ c4 = .pointer (some ⟨g4, 0, none⟩) ∧ c5 = .pointer (some ⟨g5, 0, none⟩) ∧ c6 = .pointer (some ⟨g6, 0, none⟩) ∧ NzEnd w #[(.slice A1 c.has.length k1), .string ⟨c.about.toArray⟩, .int .i64 c.at_, .string ⟨c.by_.toArray⟩, (.slice A2 c.for_.length k2), .int .i64 c.from_, .string ⟨c.id_.toArray⟩, (.slice A3 c.may_.length k3), .int .i64 c.until_] #[(.slice B1 m.has.length j1), .string ⟨m.about.toArray⟩, .int .i64 m.at_, .string ⟨m.by_.toArray⟩, (.slice B2 m.for_.length j2), .int .i64 m.from_, .string ⟨m.id_.toArray⟩, (.slice B3 m.may_.length j3), .int .i64 m.until_] #[(.slice D1 o.has.length i1), .string ⟨o.about.toArray⟩, .int .i64 o.at_, .string ⟨o.by_.toArray⟩, (.slice D2 o.for_.length i2), .int .i64 o.from_, .string ⟨o.id_.toArray⟩, (.slice D3 o.may_.length i3), .int .i64 o.until_] #[.int .i64 r.now, .int .i64 r.slack, .string ⟨r.who.toArray⟩, (.slice E1 r.by_.length q1), (.slice E2 r.need.length q2), (.slice E3 r.may_.length q3)] g3 g4 g5 g6 wx)
  case first =>
    refine wp_region_noPanic ?_
    refine wp_region_held (S := NzS w #[(.slice A1 c.has.length k1), .string ⟨c.about.toArray⟩, .int .i64 c.at_, .string ⟨c.by_.toArray⟩, (.slice A2 c.for_.length k2), .int .i64 c.from_, .string ⟨c.id_.toArray⟩, (.slice A3 c.may_.length k3), .int .i64 c.until_, (.slice B1 m.has.length j1), .string ⟨m.about.toArray⟩, .int .i64 m.at_, .string ⟨m.by_.toArray⟩, (.slice B2 m.for_.length j2), .int .i64 m.from_, .string ⟨m.id_.toArray⟩, (.slice B3 m.may_.length j3), .int .i64 m.until_, (.slice D1 o.has.length i1), .string ⟨o.about.toArray⟩, .int .i64 o.at_, .string ⟨o.by_.toArray⟩, (.slice D2 o.for_.length i2), .int .i64 o.from_, .string ⟨o.id_.toArray⟩, (.slice D3 o.may_.length i3), .int .i64 o.until_, .int .i64 r.now, .int .i64 r.slack, .string ⟨r.who.toArray⟩, (.slice E1 r.by_.length q1), (.slice E2 r.need.length q2), (.slice E3 r.may_.length q3)]) (by kernel_rfl) ?_
    refine nz_region w #[(.slice A1 c.has.length k1), .string ⟨c.about.toArray⟩, .int .i64 c.at_, .string ⟨c.by_.toArray⟩, (.slice A2 c.for_.length k2), .int .i64 c.from_, .string ⟨c.id_.toArray⟩, (.slice A3 c.may_.length k3), .int .i64 c.until_, (.slice B1 m.has.length j1), .string ⟨m.about.toArray⟩, .int .i64 m.at_, .string ⟨m.by_.toArray⟩, (.slice B2 m.for_.length j2), .int .i64 m.from_, .string ⟨m.id_.toArray⟩, (.slice B3 m.may_.length j3), .int .i64 m.until_, (.slice D1 o.has.length i1), .string ⟨o.about.toArray⟩, .int .i64 o.at_, .string ⟨o.by_.toArray⟩, (.slice D2 o.for_.length i2), .int .i64 o.from_, .string ⟨o.id_.toArray⟩, (.slice D3 o.may_.length i3), .int .i64 o.until_, .int .i64 r.now, .int .i64 r.slack, .string ⟨r.who.toArray⟩, (.slice E1 r.by_.length q1), (.slice E2 r.need.length q2), (.slice E3 r.may_.length q3)] [(.slice A1 c.has.length k1), .string ⟨c.about.toArray⟩, .int .i64 c.at_, .string ⟨c.by_.toArray⟩, (.slice A2 c.for_.length k2), .int .i64 c.from_, .string ⟨c.id_.toArray⟩, (.slice A3 c.may_.length k3), .int .i64 c.until_] [(.slice B1 m.has.length j1), .string ⟨m.about.toArray⟩, .int .i64 m.at_, .string ⟨m.by_.toArray⟩, (.slice B2 m.for_.length j2), .int .i64 m.from_, .string ⟨m.id_.toArray⟩, (.slice B3 m.may_.length j3), .int .i64 m.until_] [(.slice D1 o.has.length i1), .string ⟨o.about.toArray⟩, .int .i64 o.at_, .string ⟨o.by_.toArray⟩, (.slice D2 o.for_.length i2), .int .i64 o.from_, .string ⟨o.id_.toArray⟩, (.slice D3 o.may_.length i3), .int .i64 o.until_] [.int .i64 r.now, .int .i64 r.slack, .string ⟨r.who.toArray⟩, (.slice E1 r.by_.length q1), (.slice E2 r.need.length q2), (.slice E3 r.may_.length q3)] _ _ _ _ _ _ _ _ _ _ _ _ _ _ _ _ _ _ _ _ _ _ _ _ _ _ _ _ _ _ _ _ _ _ _ _ _ _ _ _ _ _ _ _ _ _ _ _ _ _ _ _ _ _ _ _ _ _ _ _ _ _ _ _ _ _ _ _ _ _ _ _ _ _ _ _ _ _ _ _ _ _ _ _ _ _ _ _ _ _ _ _ _ _ _ _ rfl ⟨rfl, rfl, rfl, rfl⟩ ⟨by simp [Value.oneCell'], by simp [Value.oneCell'], by simp [Value.oneCell'], by simp [Value.oneCell']⟩ ?_ _ ⟨hS0.1.drew, hS0.2.drew⟩
    intro g3 g4 g5 g6 W h
    unfold nzFrame
    go_wp2_with fail
    go_meet
    exact ⟨g3, g4, g5, g6, rfl, rfl, rfl, rfl, h⟩
  case rest =>
    clear hS0
    obtain ⟨g3, g4, g5, g6, rfl, rfl, rfl, rfl, hs1⟩ := hcut
    go_upto_region 2 with fail
    go_cut [7, 8, 9] (fun c7 c8 c9 wx => Hid ((c7 = .nilIface ∧ mayB c = true ∧ mayB m = true ∧ Inside c m) ∨ ((∃ t x, c7 = .iface t x) ∧ ¬ (mayB c = true ∧ mayB m = true ∧ Inside c m))) ∧ Hid ((c8 = .nilIface ∧ mayB m = true ∧ mayB o = true ∧ Inside m o) ∨ ((∃ t x, c8 = .iface t x) ∧ ¬ (mayB m = true ∧ mayB o = true ∧ Inside m o))) ∧ Hid ((c9 = .nilIface ∧ mayB c = true ∧ mayB o = true ∧ Inside c o) ∨ ((∃ t x, c9 = .iface t x) ∧ ¬ (mayB c = true ∧ mayB o = true ∧ Inside c o))) ∧ NzEnd w #[(.slice A1 c.has.length k1), .string ⟨c.about.toArray⟩, .int .i64 c.at_, .string ⟨c.by_.toArray⟩, (.slice A2 c.for_.length k2), .int .i64 c.from_, .string ⟨c.id_.toArray⟩, (.slice A3 c.may_.length k3), .int .i64 c.until_] #[(.slice B1 m.has.length j1), .string ⟨m.about.toArray⟩, .int .i64 m.at_, .string ⟨m.by_.toArray⟩, (.slice B2 m.for_.length j2), .int .i64 m.from_, .string ⟨m.id_.toArray⟩, (.slice B3 m.may_.length j3), .int .i64 m.until_] #[(.slice D1 o.has.length i1), .string ⟨o.about.toArray⟩, .int .i64 o.at_, .string ⟨o.by_.toArray⟩, (.slice D2 o.for_.length i2), .int .i64 o.from_, .string ⟨o.id_.toArray⟩, (.slice D3 o.may_.length i3), .int .i64 o.until_] #[.int .i64 r.now, .int .i64 r.slack, .string ⟨r.who.toArray⟩, (.slice E1 r.by_.length q1), (.slice E2 r.need.length q2), (.slice E3 r.may_.length q3)] g3 g4 g5 g6 wx)
    case first =>
      refine wp_region_noPanic ?_
      refine wp_region_held (S := fun W => NzEnd w #[(.slice A1 c.has.length k1), .string ⟨c.about.toArray⟩, .int .i64 c.at_, .string ⟨c.by_.toArray⟩, (.slice A2 c.for_.length k2), .int .i64 c.from_, .string ⟨c.id_.toArray⟩, (.slice A3 c.may_.length k3), .int .i64 c.until_] #[(.slice B1 m.has.length j1), .string ⟨m.about.toArray⟩, .int .i64 m.at_, .string ⟨m.by_.toArray⟩, (.slice B2 m.for_.length j2), .int .i64 m.from_, .string ⟨m.id_.toArray⟩, (.slice B3 m.may_.length j3), .int .i64 m.until_] #[(.slice D1 o.has.length i1), .string ⟨o.about.toArray⟩, .int .i64 o.at_, .string ⟨o.by_.toArray⟩, (.slice D2 o.for_.length i2), .int .i64 o.from_, .string ⟨o.id_.toArray⟩, (.slice D3 o.may_.length i3), .int .i64 o.until_] #[.int .i64 r.now, .int .i64 r.slack, .string ⟨r.who.toArray⟩, (.slice E1 r.by_.length q1), (.slice E2 r.need.length q2), (.slice E3 r.may_.length q3)] g3 g4 g5 g6 W) (by kernel_rfl) ?_
      refine nz_reg2 c m o r A1 A2 A3 B1 B2 B3 D1 D2 D3 E1 E2 E3 k1 k2 k3 j1 j2 j3 i1 i2 i3 q1 q2 q3 g3 g4 g5 g6 w _ hc hm ho hg hzm _ _ _ _ _ _ _ _ _ _ _ _ _ _ _ _ _ _ _ _ _ _ _ _ _ _ _ _ _ _ _ _ _ _ _ _ _ _ _ _ _ _ _ _ _ _ _ _ _ _ _ _ _ _ _ _ _ _ _ _ _ _ _ _ _ _ _ _ _ _ _ _ _ _ _ _ _ _ _ _ _ _ _ _ _ _ _ _ _ _ _ _ _ ?_ _ ⟨hs1.b3, hs1.b4, hs1.b5, hs1.b6, hs1.bel.drew⟩
      intro ev fv gv W HE HF HG hS
      unfold nzFrame
      go_wp2_with fail
      go_meet
      exact ⟨HE, HF, HG, hS⟩
    case rest =>
      clear hs1
      obtain ⟨HE, HF, HG, hs2⟩ := hcut
      go_upto_region 3 with fail
      go_cut [10] (fun c10 wx => Hid (c10 = .nilIface ∨ c10 = .iface 46 (.int .i64 2)) ∧ NzEnd w #[(.slice A1 c.has.length k1), .string ⟨c.about.toArray⟩, .int .i64 c.at_, .string ⟨c.by_.toArray⟩, (.slice A2 c.for_.length k2), .int .i64 c.from_, .string ⟨c.id_.toArray⟩, (.slice A3 c.may_.length k3), .int .i64 c.until_] #[(.slice B1 m.has.length j1), .string ⟨m.about.toArray⟩, .int .i64 m.at_, .string ⟨m.by_.toArray⟩, (.slice B2 m.for_.length j2), .int .i64 m.from_, .string ⟨m.id_.toArray⟩, (.slice B3 m.may_.length j3), .int .i64 m.until_] #[(.slice D1 o.has.length i1), .string ⟨o.about.toArray⟩, .int .i64 o.at_, .string ⟨o.by_.toArray⟩, (.slice D2 o.for_.length i2), .int .i64 o.from_, .string ⟨o.id_.toArray⟩, (.slice D3 o.may_.length i3), .int .i64 o.until_] #[.int .i64 r.now, .int .i64 r.slack, .string ⟨r.who.toArray⟩, (.slice E1 r.by_.length q1), (.slice E2 r.need.length q2), (.slice E3 r.may_.length q3)] g3 g4 g5 g6 wx)
      case first =>
        obtain ⟨e0, e1, e2, e3, e4, e5, e6, e7, e8⟩ := C9 hs2.b3
        go_wp2_with fail
        refine (within_any c c _ _ _ _ _ _ _ (hc.below hs2.bel) (hc.below hs2.bel) (hg.below hs2.bel hzm)).mono ?_
        intro e w3 hW
        obtain ⟨sv, rfl, hE, hb⟩ := within_val hW
        have HSf := Lib.hid (wi_self hE)
        have hs3 := hs2.below hb
        clear hW hE hb e0 e1 e2 e3 e4 e5 e6 e7 e8 HE HF HG
        go_wp2_with fail
        go_meet
        exact ⟨HSf, hs3⟩
      case rest =>
        clear hs2
        obtain ⟨HSf, hs3⟩ := hcut
        go_step
        exact nz_tail2a c m o r A1 A2 A3 B1 B2 B3 D1 D2 D3 E1 E2 E3 k1 k2 k3 j1 j2 j3 i1 i2 i3 q1 q2 q3 g3 g4 g5 g6 _ _ _ _ w _ hc hm ho hr HE HF HG HSf hs3 _ _ _ _ _ _ _ _ _ _ _ _ _ _ _ _ _ _ _ _ _ _ _ _ _ _ _ _ _ _ _ _ _ _ _ _ _ _ _ _ _ _ _ _ _ _ _ _ _ _ _ _ _ _ _ _ _ _ _ _ _ _ _ _ _ _ _ _ _ _ _ _ _ _ _ _ _ _ _ _ _ _ _ _ _ _ _ _ _
end Go.Proofs.YtnondmeafilplaaGreatDoor
