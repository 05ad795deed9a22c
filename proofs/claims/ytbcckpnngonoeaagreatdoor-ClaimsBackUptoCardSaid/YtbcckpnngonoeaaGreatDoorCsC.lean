/-
  Walk of package claims: Tree (printed by wip/gen_csc.py).
-/
import Derived.Test.YtbcckpnngonoeaaGreatDoorCsB
import Derived.Test.YtbcckpnngonoeaaGreatDoorCvW
namespace Go.Proofs.YtbcckpnngonoeaaGreatDoor
open Go.RowKit Mem Utf Ref3 Idx Tok TokC Cl
set_option linter.unusedVariables false
set_option linter.unusedSimpArgs false
namespace Nd
/-- what Tree comes to -/
def TreeP (o : Option Tr) (r : R) (w : World) (e : Ending) (w' : World) : Prop :=
  (∃ v, e = .returned v ∧ (o = none ∧ v = .iface 42 (.pointer none) ∨ (∃ c, readO o = some c ∧ VerdV w.heap.size w' v (judgeP c r)) ∨
    o ≠ none ∧ readO o = none ∧ ∃ b er, w.heap.size ≤ b ∧ v = .iface 42 (.pointer (some ⟨b, 0, none⟩)) ∧ Blk w' b 50 #[er] ∧ ErrO o w.heap.size w' er)) ∧ Below w.heap.size w w'
theorem ErrO.base {o : Option Tr} {B B' : Nat} {w : World} {er : Value} (h : ErrO o B w er) (hB : B' ≤ B) : ErrO o B' w er := by
  unfold ErrO at h ⊢
  cases o with
  | none => exact h
  | some t =>
    dsimp only at h ⊢
    split at h
    · rename_i hs
      rw [if_pos hs]
      obtain ⟨va, h, ho⟩ := h
      exact ⟨va, h, own_baseR ho hB⟩
    · rename_i hs
      rw [if_neg hs]
      exact h
theorem VerdV.base {B B' : Nat} {w : World} {v : Value} {x : Verd} (h : VerdV B w v x) (hB : B' ≤ B) : VerdV B' w v x := by
  unfold VerdV at h ⊢
  revert h
  generalize x.kind = k
  rcases k with _ | _ | _ | _ | _ | _ | _ | k
  · rintro ⟨b, h1, h2⟩
    exact ⟨b, Nat.le_trans hB h1, h2⟩
  · exact fun h => h
  · exact fun h => h
  · exact fun h => h
  · exact fun h => h
  · exact fun h => h
  · rintro ⟨s, h1, h2⟩
    exact ⟨s, h1, own_baseR h2 hB⟩
  · rintro ⟨s, h1, h2⟩
    exact ⟨s, h1, own_baseR h2 hB⟩
set_option maxRecDepth 100000 in
set_option maxHeartbeats 16000000 in
theorem tree_none (r : R) (u1 u2 u3 : Value) (w : World) : Calls Tryz.prog 8 #[.pointer none, .agg #[.int .i64 r.now, .int .i64 r.slack, .string ⟨r.who.toArray⟩, u1, u2, u3]] w (TreeP none r w) := by
  have hb : Below w.heap.size w (w.alloc (.cells #[.int .i64 r.now, .int .i64 r.slack, .string ⟨r.who.toArray⟩, u1, u2, u3] 27)) := (Below.refl _ _).alloc (Nat.le_refl _) _
  go_enter Tryz.func8, Tryz.ntmps8
  go_wp2
  exact bodyPost_ret (by simp [results, Tryz.results8, go_sem]) rfl ⟨⟨_, rfl, .inl ⟨rfl, rfl⟩⟩, hb⟩
set_option maxRecDepth 100000 in
set_option maxHeartbeats 16000000 in
theorem tree_some (t : Tr) (g : Nat) (r : R) (u1 u2 u3 : Value) (w : World) (hT : TreO w (some t) (.pointer (some ⟨g, 0, none⟩))) (hr : RuAt w r u1 u2 u3) (hA : TabP w) : Calls Tryz.prog 8 #[.pointer (some ⟨g, 0, none⟩), .agg #[.int .i64 r.now, .int .i64 r.slack, .string ⟨r.who.toArray⟩, u1, u2, u3]] w (TreeP (some t) r w) := by
  have hb : Below w.heap.size w (w.alloc (.cells #[.int .i64 r.now, .int .i64 r.slack, .string ⟨r.who.toArray⟩, u1, u2, u3] 27)) := (Below.refl _ _).alloc (Nat.le_refl _) _
  have HT := Lib.hid hT
  have HR := Lib.hid hr
  have HA := Lib.hid hA
  have HB := Lib.hid hb
  have HRB := Lib.hid (Blk.new w 27 #[.int .i64 r.now, .int .i64 r.slack, .string ⟨r.who.toArray⟩, u1, u2, u3])
  have q1 := err_ne_nil
  have q2 := err_ne_held
  clear hT hr hA hb
  go_enter Tryz.func8, Tryz.ntmps8
  go_wp2_with fail
  ((with_reducible refine (readO_any (some t) _ w _ HT.out HB.out (HA.out.next HB.out)).mono ?_); rintro e w2 ⟨⟨c, v0, v4, v7, er, rfl, hC, h0, h4, h7, hE⟩, hb2⟩)
  have HC := Lib.hid hC
  have HE := Lib.hid hE
  have HB2 := Lib.hid (HB.out.trans (hb2.mono HB.out.size))
  have HRB2 := Lib.hid (HRB.out.below hb2 HRB.out.lt)
  have hrl := HRB2.out.lt
  have c0 := HRB2.out.cell 0
  have c1 := HRB2.out.cell 1
  have c2 := HRB2.out.cell 2
  have c3 := HRB2.out.cell 3
  have c4 := HRB2.out.cell 4
  have c5 := HRB2.out.cell 5
  simp at c0 c1 c2 c3 c4 c5
  obtain ⟨B0, r0, hv0⟩ := own_sliceP h0
  subst hv0
  obtain ⟨B4, r4, hv4⟩ := own_sliceP h4
  subst hv4
  obtain ⟨B7, r7, hv7⟩ := own_sliceP h7
  subst hv7
  clear hC hE hb2 h0 h4 h7
  unfold clCells
  rcases HE.out with ⟨rfl, hro⟩ | ⟨hro, rfl, hE⟩
  · have hb3 : Below w2.heap.size w2 (w2.alloc (.cells #[.slice B0 c.has.length r0, .string ⟨c.about.toArray⟩, .int .i64 c.at_, .string ⟨c.by_.toArray⟩, .slice B4 c.for_.length r4, .int .i64 c.from_, .string ⟨c.id_.toArray⟩, .slice B7 c.may_.length r7, .int .i64 c.until_] 24)) := (Below.refl _ _).alloc (Nat.le_refl _) _
    have HB3 := Lib.hid (HB2.out.trans (hb3.mono HB2.out.size))
    have HC3 := Lib.hid (HC.out.below hb3)
    have HR3 := Lib.hid (HR.out.below HB3.out)
    clear hb3
    go_wp2_with fail
    ((with_reducible refine (judge_any c r _ _ _ u1 u2 u3 _ HC3.out HR3.out).mono ?_); rintro e w4 ⟨v, rfl, hV, hb4⟩)
    go_wp2
    exact bodyPost_ret (by simp [results, Tryz.results8, go_sem]) rfl ⟨⟨v, rfl, .inr (.inl ⟨c, hro, hV.base HB3.out.size⟩)⟩, HB3.out.trans (hb4.mono HB3.out.size)⟩
  · obtain ⟨T, u, rfl⟩ := hE.iface
    have hsz := HB2.out.size
    go_wp2
    have hb3 : ∀ cs ds, Below w2.heap.size w2 ((w2.alloc (.cells cs 24)).alloc (.cells ds 50)) := fun cs ds => ((Below.refl _ _).alloc (Nat.le_refl _) _).alloc (by simp) _
    refine bodyPost_ret (by simp [results, Tryz.results8, go_sem]) rfl ⟨⟨_, rfl, .inr (.inr ⟨by simp, hro, w2.heap.size + 1, .iface T u, by omega, rfl, ?_, (hE.base HB.out.size).below (hb3 _ _)⟩)⟩, HB2.out.trans ((hb3 _ _).mono hsz)⟩
    have := Blk.new (w2.alloc (.cells #[.slice B0 cZero.has.length r0, .string ⟨cZero.about.toArray⟩, .int .i64 cZero.at_, .string ⟨cZero.by_.toArray⟩, .slice B4 cZero.for_.length r4, .int .i64 cZero.from_, .string ⟨cZero.id_.toArray⟩, .slice B7 cZero.may_.length r7, .int .i64 cZero.until_] 24)) 50 #[.iface T u]
    rwa [World.size_alloc] at this
end Nd
end Go.Proofs.YtbcckpnngonoeaaGreatDoor

