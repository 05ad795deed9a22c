/-
  Walk of the statements' own function same of layer 25.
-/
import Derived.Test.YtbcckpnngonoeaaGreatDoorCsC
import Derived.Test.YtbcckpnngonoeaaGreatDoorCvM
namespace Go.Proofs.YtbcckpnngonoeaaGreatDoor
open Go.RowKit Mem Utf Ref3 Idx Tok TokC Cl
set_option linter.unusedVariables false
set_option linter.unusedSimpArgs false
namespace Nd
def TrueC (w : World) (e : Ending) (w' : World) : Prop := e = .returned (.bool true) ∧ Below w.heap.size w w'
set_option maxRecDepth 100000 in
set_option maxHeartbeats 16000000 in
theorem same25_any (c : C) (v0 v4 v7 u0 u4 u7 : Value) (w : World) (h1 : ClAt w c v0 v4 v7) (h2 : ClAt w c u0 u4 u7) :
    Calls Tryz.prog 17 #[.agg #[v0, .string ⟨c.about.toArray⟩, .int .i64 c.at_, .string ⟨c.by_.toArray⟩, v4, .int .i64 c.from_, .string ⟨c.id_.toArray⟩, v7, .int .i64 c.until_], .agg #[u0, .string ⟨c.about.toArray⟩, .int .i64 c.at_, .string ⟨c.by_.toArray⟩, u4, .int .i64 c.from_, .string ⟨c.id_.toArray⟩, u7, .int .i64 c.until_]] w (TrueC w) := by
  have hba : Below w.heap.size w ((w.alloc (.cells #[v0, .string ⟨c.about.toArray⟩, .int .i64 c.at_, .string ⟨c.by_.toArray⟩, v4, .int .i64 c.from_, .string ⟨c.id_.toArray⟩, v7, .int .i64 c.until_] 24)).alloc (.cells #[u0, .string ⟨c.about.toArray⟩, .int .i64 c.at_, .string ⟨c.by_.toArray⟩, u4, .int .i64 c.from_, .string ⟨c.id_.toArray⟩, u7, .int .i64 c.until_] 24)) := ((Below.refl _ _).alloc (Nat.le_refl _) _).alloc (by simp) _
  have hb1 : Blk ((w.alloc (.cells #[v0, .string ⟨c.about.toArray⟩, .int .i64 c.at_, .string ⟨c.by_.toArray⟩, v4, .int .i64 c.from_, .string ⟨c.id_.toArray⟩, v7, .int .i64 c.until_] 24)).alloc (.cells #[u0, .string ⟨c.about.toArray⟩, .int .i64 c.at_, .string ⟨c.by_.toArray⟩, u4, .int .i64 c.from_, .string ⟨c.id_.toArray⟩, u7, .int .i64 c.until_] 24)) w.heap.size 24 #[v0, .string ⟨c.about.toArray⟩, .int .i64 c.at_, .string ⟨c.by_.toArray⟩, v4, .int .i64 c.from_, .string ⟨c.id_.toArray⟩, v7, .int .i64 c.until_] := (Blk.new w 24 #[v0, .string ⟨c.about.toArray⟩, .int .i64 c.at_, .string ⟨c.by_.toArray⟩, v4, .int .i64 c.from_, .string ⟨c.id_.toArray⟩, v7, .int .i64 c.until_]).alloc _
  have hb2 : Blk ((w.alloc (.cells #[v0, .string ⟨c.about.toArray⟩, .int .i64 c.at_, .string ⟨c.by_.toArray⟩, v4, .int .i64 c.from_, .string ⟨c.id_.toArray⟩, v7, .int .i64 c.until_] 24)).alloc (.cells #[u0, .string ⟨c.about.toArray⟩, .int .i64 c.at_, .string ⟨c.by_.toArray⟩, u4, .int .i64 c.from_, .string ⟨c.id_.toArray⟩, u7, .int .i64 c.until_] 24)) (w.heap.size + 1) 24 #[u0, .string ⟨c.about.toArray⟩, .int .i64 c.at_, .string ⟨c.by_.toArray⟩, u4, .int .i64 c.from_, .string ⟨c.id_.toArray⟩, u7, .int .i64 c.until_] := by
    have := Blk.new (w.alloc (.cells #[v0, .string ⟨c.about.toArray⟩, .int .i64 c.at_, .string ⟨c.by_.toArray⟩, v4, .int .i64 c.from_, .string ⟨c.id_.toArray⟩, v7, .int .i64 c.until_] 24)) 24 #[u0, .string ⟨c.about.toArray⟩, .int .i64 c.at_, .string ⟨c.by_.toArray⟩, u4, .int .i64 c.from_, .string ⟨c.id_.toArray⟩, u7, .int .i64 c.until_]
    rwa [World.size_alloc] at this
  have H1 := Lib.hid (h1.below hba)
  have H2 := Lib.hid (h2.below hba)
  have HB := Lib.hid hba
  have HX := Lib.hid hb1
  have HY := Lib.hid hb2
  have hN := Lib.hid (show c.has.length ≤ 140737488355328 ∧ c.for_.length ≤ 140737488355328 ∧ c.may_.length ≤ 140737488355328 from ⟨by have := h1.nhas; omega, by have := h1.nfor; omega, by have := h1.nmay; omega⟩)
  have e1 : (c.at_ == c.at_) = true := by simp
  have e2 : (c.from_ == c.from_) = true := by simp
  have e3 : (c.until_ == c.until_) = true := by simp
  have e4 : (c.about == c.about) = true := by simp
  have e5 : (c.by_ == c.by_) = true := by simp
  have e6 : (c.id_ == c.id_) = true := by simp
  clear h1 h2 hba hb1 hb2
  go_enter Tryz.func17, Tryz.ntmps17
  go_wp2_with fail
  generalize ((w.alloc (.cells #[v0, .string ⟨c.about.toArray⟩, .int .i64 c.at_, .string ⟨c.by_.toArray⟩, v4, .int .i64 c.from_, .string ⟨c.id_.toArray⟩, v7, .int .i64 c.until_] 24)).alloc (.cells #[u0, .string ⟨c.about.toArray⟩, .int .i64 c.at_, .string ⟨c.by_.toArray⟩, u4, .int .i64 c.from_, .string ⟨c.id_.toArray⟩, u7, .int .i64 c.until_] 24)) = w1 at *
  ((with_reducible refine (texts25_any v0 u0 c.has c.has w1 H1.out.has H2.out.has hN.out.1 hN.out.1).mono ?_); rintro e w2 ⟨rfl, hb⟩)
  rw [show decide (c.has = c.has) = true from decide_eq_true rfl]
  replace H1 := Lib.hid (H1.out.below hb)
  replace H2 := Lib.hid (H2.out.below hb)
  replace HX := Lib.hid (HX.out.below hb HX.out.lt)
  replace HY := Lib.hid (HY.out.below hb HY.out.lt)
  replace HB := Lib.hid (HB.out.trans (hb.mono HB.out.size))
  clear hb
  obtain ⟨c0, c1, c2, c3, c4, c5, c6, c7, c8⟩ := C9 HX.out
  obtain ⟨d0, d1, d2, d3, d4, d5, d6, d7, d8⟩ := C9 HY.out
  go_wp2_with fail
  clear c0 c1 c2 c3 c4 c5 c6 c7 c8 d0 d1 d2 d3 d4 d5 d6 d7 d8
  ((with_reducible refine (texts25_any v4 u4 c.for_ c.for_ w2 H1.out.for_ H2.out.for_ hN.out.2.1 hN.out.2.1).mono ?_); rintro e w3 ⟨rfl, hb⟩)
  rw [show decide (c.for_ = c.for_) = true from decide_eq_true rfl]
  replace H1 := Lib.hid (H1.out.below hb)
  replace H2 := Lib.hid (H2.out.below hb)
  replace HX := Lib.hid (HX.out.below hb HX.out.lt)
  replace HY := Lib.hid (HY.out.below hb HY.out.lt)
  replace HB := Lib.hid (HB.out.trans (hb.mono HB.out.size))
  clear hb
  obtain ⟨c0, c1, c2, c3, c4, c5, c6, c7, c8⟩ := C9 HX.out
  obtain ⟨d0, d1, d2, d3, d4, d5, d6, d7, d8⟩ := C9 HY.out
  go_wp2_with fail
  clear c0 c1 c2 c3 c4 c5 c6 c7 c8 d0 d1 d2 d3 d4 d5 d6 d7 d8
  ((with_reducible refine (texts25_any v7 u7 c.may_ c.may_ w3 H1.out.may H2.out.may hN.out.2.2 hN.out.2.2).mono ?_); rintro e w4 ⟨rfl, hb⟩)
  rw [show decide (c.may_ = c.may_) = true from decide_eq_true rfl]
  replace H1 := Lib.hid (H1.out.below hb)
  replace H2 := Lib.hid (H2.out.below hb)
  replace HX := Lib.hid (HX.out.below hb HX.out.lt)
  replace HY := Lib.hid (HY.out.below hb HY.out.lt)
  replace HB := Lib.hid (HB.out.trans (hb.mono HB.out.size))
  clear hb
  obtain ⟨c0, c1, c2, c3, c4, c5, c6, c7, c8⟩ := C9 HX.out
  obtain ⟨d0, d1, d2, d3, d4, d5, d6, d7, d8⟩ := C9 HY.out
  go_wp2
  go_ret
  exact ⟨rfl, HB.out⟩
theorem zero_at (w : World) : ClAt w cZero (.slice none 0 0) (.slice none 0 0) (.slice none 0 0) := clAt_own (own_nil w.heap.size w) (own_nil w.heap.size w) (own_nil w.heap.size w) fit_zero (Nat.zero_le _)
theorem same25_zero {d : C} (hd : d = cZero) (y0 y4 y7 : Value) (w : World) (h : ClAt w d y0 y4 y7) :
    Calls Tryz.prog 17 #[.agg #[y0, .string ⟨d.about.toArray⟩, .int .i64 d.at_, .string ⟨d.by_.toArray⟩, y4, .int .i64 d.from_, .string ⟨d.id_.toArray⟩, y7, .int .i64 d.until_], .agg #[.slice none 0 0, .string ⟨#[]⟩, .int .i64 0, .string ⟨#[]⟩, .slice none 0 0, .int .i64 0, .string ⟨#[]⟩, .slice none 0 0, .int .i64 0]] w (TrueC w) := by
  subst hd
  exact same25_any cZero y0 y4 y7 (.slice none 0 0) (.slice none 0 0) (.slice none 0 0) w h (zero_at w)
end Nd
end Go.Proofs.YtbcckpnngonoeaaGreatDoor

