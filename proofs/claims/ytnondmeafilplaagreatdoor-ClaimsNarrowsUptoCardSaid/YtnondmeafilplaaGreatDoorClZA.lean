/-
  The statement ClaimsNarrows of layer 25: what a verdict answers to it; what it asks, in plain words (printed by wip/gen_clz.py).
-/
import Derived.Test.YtnondmeafilplaaGreatDoorClNa
import Derived.Test.YtnondmeafilplaaGreatDoorClNP
import Derived.Test.YtnondmeafilplaaGreatDoorClVY
import Derived.Test.YtnondmeafilplaaGreatDoorClSd
namespace Go.Proofs.YtnondmeafilplaaGreatDoor
open Go.RowKit Mem Utf Ref3 Tok Cl
set_option linter.unusedVariables false

theorem vover_0 (n : Int) (w : World) : (Instr.typeAssert (.iface 85 (.agg #[.int .i64 n])) 27 64 true).run Tryz.prog w = .ok (.tuple #[.agg #[.int .i64 0], .bool false]) w := by kernel_rfl
theorem vother_0 (n : Int) (w : World) : (Instr.typeAssert (.iface 85 (.agg #[.int .i64 n])) 27 66 true).run Tryz.prog w = .ok (.tuple #[.agg #[.slice none 0 0], .bool false]) w := by kernel_rfl
theorem vbarred_0 (n : Int) (w : World) : (Instr.typeAssert (.iface 85 (.agg #[.int .i64 n])) 27 68 true).run Tryz.prog w = .ok (.tuple #[.agg #[.slice none 0 0], .bool false]) w := by kernel_rfl
theorem vearly_0 (n : Int) (w : World) : (Instr.typeAssert (.iface 85 (.agg #[.int .i64 n])) 27 71 true).run Tryz.prog w = .ok (.tuple #[.agg #[.int .i64 0], .bool false]) w := by kernel_rfl
theorem vover_1 (n : Int) (w : World) : (Instr.typeAssert (.iface 71 (.agg #[.int .i64 n])) 27 64 true).run Tryz.prog w = .ok (.tuple #[.agg #[.int .i64 0], .bool false]) w := by kernel_rfl
theorem vother_1 (n : Int) (w : World) : (Instr.typeAssert (.iface 71 (.agg #[.int .i64 n])) 27 66 true).run Tryz.prog w = .ok (.tuple #[.agg #[.slice none 0 0], .bool false]) w := by kernel_rfl
theorem vbarred_1 (n : Int) (w : World) : (Instr.typeAssert (.iface 71 (.agg #[.int .i64 n])) 27 68 true).run Tryz.prog w = .ok (.tuple #[.agg #[.slice none 0 0], .bool false]) w := by kernel_rfl
theorem vearly_1 (n : Int) (w : World) : (Instr.typeAssert (.iface 71 (.agg #[.int .i64 n])) 27 71 true).run Tryz.prog w = .ok (.tuple #[.agg #[.int .i64 n], .bool true]) w := by kernel_rfl
theorem vover_2 (n : Int) (w : World) : (Instr.typeAssert (.iface 64 (.agg #[.int .i64 n])) 27 64 true).run Tryz.prog w = .ok (.tuple #[.agg #[.int .i64 n], .bool true]) w := by kernel_rfl
theorem vother_2 (n : Int) (w : World) : (Instr.typeAssert (.iface 64 (.agg #[.int .i64 n])) 27 66 true).run Tryz.prog w = .ok (.tuple #[.agg #[.slice none 0 0], .bool false]) w := by kernel_rfl
theorem vbarred_2 (n : Int) (w : World) : (Instr.typeAssert (.iface 64 (.agg #[.int .i64 n])) 27 68 true).run Tryz.prog w = .ok (.tuple #[.agg #[.slice none 0 0], .bool false]) w := by kernel_rfl
theorem vearly_2 (n : Int) (w : World) : (Instr.typeAssert (.iface 64 (.agg #[.int .i64 n])) 27 71 true).run Tryz.prog w = .ok (.tuple #[.agg #[.int .i64 0], .bool false]) w := by kernel_rfl
theorem vover_3 (s : ByteArray) (w : World) : (Instr.typeAssert (.iface 100 (.agg #[.string s])) 27 64 true).run Tryz.prog w = .ok (.tuple #[.agg #[.int .i64 0], .bool false]) w := by kernel_rfl
theorem vother_3 (s : ByteArray) (w : World) : (Instr.typeAssert (.iface 100 (.agg #[.string s])) 27 66 true).run Tryz.prog w = .ok (.tuple #[.agg #[.slice none 0 0], .bool false]) w := by kernel_rfl
theorem vbarred_3 (s : ByteArray) (w : World) : (Instr.typeAssert (.iface 100 (.agg #[.string s])) 27 68 true).run Tryz.prog w = .ok (.tuple #[.agg #[.slice none 0 0], .bool false]) w := by kernel_rfl
theorem vearly_3 (s : ByteArray) (w : World) : (Instr.typeAssert (.iface 100 (.agg #[.string s])) 27 71 true).run Tryz.prog w = .ok (.tuple #[.agg #[.int .i64 0], .bool false]) w := by kernel_rfl
theorem vover_4 (s : ByteArray) (w : World) : (Instr.typeAssert (.iface 102 (.agg #[.string s])) 27 64 true).run Tryz.prog w = .ok (.tuple #[.agg #[.int .i64 0], .bool false]) w := by kernel_rfl
theorem vother_4 (s : ByteArray) (w : World) : (Instr.typeAssert (.iface 102 (.agg #[.string s])) 27 66 true).run Tryz.prog w = .ok (.tuple #[.agg #[.slice none 0 0], .bool false]) w := by kernel_rfl
theorem vbarred_4 (s : ByteArray) (w : World) : (Instr.typeAssert (.iface 102 (.agg #[.string s])) 27 68 true).run Tryz.prog w = .ok (.tuple #[.agg #[.slice none 0 0], .bool false]) w := by kernel_rfl
theorem vearly_4 (s : ByteArray) (w : World) : (Instr.typeAssert (.iface 102 (.agg #[.string s])) 27 71 true).run Tryz.prog w = .ok (.tuple #[.agg #[.int .i64 0], .bool false]) w := by kernel_rfl
theorem vover_5 (y : Value) (w : World) : (Instr.typeAssert (.iface 66 (.agg #[y])) 27 64 true).run Tryz.prog w = .ok (.tuple #[.agg #[.int .i64 0], .bool false]) w := by kernel_rfl
theorem vother_5 (y : Value) (w : World) : (Instr.typeAssert (.iface 66 (.agg #[y])) 27 66 true).run Tryz.prog w = .ok (.tuple #[.agg #[y], .bool true]) w := by kernel_rfl
theorem vbarred_5 (y : Value) (w : World) : (Instr.typeAssert (.iface 66 (.agg #[y])) 27 68 true).run Tryz.prog w = .ok (.tuple #[.agg #[.slice none 0 0], .bool false]) w := by kernel_rfl
theorem vearly_5 (y : Value) (w : World) : (Instr.typeAssert (.iface 66 (.agg #[y])) 27 71 true).run Tryz.prog w = .ok (.tuple #[.agg #[.int .i64 0], .bool false]) w := by kernel_rfl
theorem vover_6 (y : Value) (w : World) : (Instr.typeAssert (.iface 68 (.agg #[y])) 27 64 true).run Tryz.prog w = .ok (.tuple #[.agg #[.int .i64 0], .bool false]) w := by kernel_rfl
theorem vother_6 (y : Value) (w : World) : (Instr.typeAssert (.iface 68 (.agg #[y])) 27 66 true).run Tryz.prog w = .ok (.tuple #[.agg #[.slice none 0 0], .bool false]) w := by kernel_rfl
theorem vbarred_6 (y : Value) (w : World) : (Instr.typeAssert (.iface 68 (.agg #[y])) 27 68 true).run Tryz.prog w = .ok (.tuple #[.agg #[y], .bool true]) w := by kernel_rfl
theorem vearly_6 (y : Value) (w : World) : (Instr.typeAssert (.iface 68 (.agg #[y])) 27 71 true).run Tryz.prog w = .ok (.tuple #[.agg #[.int .i64 0], .bool false]) w := by kernel_rfl
theorem vover_7 (p : Addr) (w : World) : (Instr.typeAssert (.iface 92 (.pointer (some p))) 27 64 true).run Tryz.prog w = .ok (.tuple #[.agg #[.int .i64 0], .bool false]) w := by kernel_rfl
theorem vother_7 (p : Addr) (w : World) : (Instr.typeAssert (.iface 92 (.pointer (some p))) 27 66 true).run Tryz.prog w = .ok (.tuple #[.agg #[.slice none 0 0], .bool false]) w := by kernel_rfl
theorem vbarred_7 (p : Addr) (w : World) : (Instr.typeAssert (.iface 92 (.pointer (some p))) 27 68 true).run Tryz.prog w = .ok (.tuple #[.agg #[.slice none 0 0], .bool false]) w := by kernel_rfl
theorem vearly_7 (p : Addr) (w : World) : (Instr.typeAssert (.iface 92 (.pointer (some p))) 27 71 true).run Tryz.prog w = .ok (.tuple #[.agg #[.int .i64 0], .bool false]) w := by kernel_rfl

/-- what a verdict answers to the statement ClaimsNarrows -/
structure VFacts2 (v : Value) (x : Verd) : Prop where
  over : ∃ z, ∀ W, (Instr.typeAssert v 27 64 true).run Tryz.prog W = .ok (.tuple #[z, .bool (decide (x.kind = 3))]) W
  other : ∃ z, ∀ W, (Instr.typeAssert v 27 66 true).run Tryz.prog W = .ok (.tuple #[z, .bool (decide (x.kind = 6))]) W
  barred : ∃ z, ∀ W, (Instr.typeAssert v 27 68 true).run Tryz.prog W = .ok (.tuple #[z, .bool (decide (x.kind = 7))]) W
  early : ∃ z, ∀ W, (Instr.typeAssert v 27 71 true).run Tryz.prog W = .ok (.tuple #[z, .bool (decide (x.kind = 2))]) W
theorem vfacts2 {B : Nat} {v : Value} {x : Verd} {w : World} (h : VerdV B w v x) (h7 : x.kind ≤ 7) : VFacts2 v x := by
  obtain ⟨k, t, s, l⟩ := x
  simp only [] at h7
  have h8 : k = 0 ∨ k = 1 ∨ k = 2 ∨ k = 3 ∨ k = 4 ∨ k = 5 ∨ k = 6 ∨ k = 7 := by omega
  unfold VerdV at h
  rcases h8 with rfl | rfl | rfl | rfl | rfl | rfl | rfl | rfl <;> simp only [] at h
  · obtain ⟨b, _, rfl, _⟩ := h
    exact ⟨⟨_, fun W => vover_7 _ W⟩, ⟨_, fun W => vother_7 _ W⟩, ⟨_, fun W => vbarred_7 _ W⟩, ⟨_, fun W => vearly_7 _ W⟩⟩
  · subst h
    exact ⟨⟨_, fun W => vover_0 _ W⟩, ⟨_, fun W => vother_0 _ W⟩, ⟨_, fun W => vbarred_0 _ W⟩, ⟨_, fun W => vearly_0 _ W⟩⟩
  · subst h
    exact ⟨⟨_, fun W => vover_1 _ W⟩, ⟨_, fun W => vother_1 _ W⟩, ⟨_, fun W => vbarred_1 _ W⟩, ⟨_, fun W => vearly_1 _ W⟩⟩
  · subst h
    exact ⟨⟨_, fun W => vover_2 _ W⟩, ⟨_, fun W => vother_2 _ W⟩, ⟨_, fun W => vbarred_2 _ W⟩, ⟨_, fun W => vearly_2 _ W⟩⟩
  · subst h
    exact ⟨⟨_, fun W => vover_3 _ W⟩, ⟨_, fun W => vother_3 _ W⟩, ⟨_, fun W => vbarred_3 _ W⟩, ⟨_, fun W => vearly_3 _ W⟩⟩
  · subst h
    exact ⟨⟨_, fun W => vover_4 _ W⟩, ⟨_, fun W => vother_4 _ W⟩, ⟨_, fun W => vbarred_4 _ W⟩, ⟨_, fun W => vearly_4 _ W⟩⟩
  · obtain ⟨y, rfl, _⟩ := h
    exact ⟨⟨_, fun W => vover_5 _ W⟩, ⟨_, fun W => vother_5 _ W⟩, ⟨_, fun W => vbarred_5 _ W⟩, ⟨_, fun W => vearly_5 _ W⟩⟩
  · obtain ⟨y, rfl, _⟩ := h
    exact ⟨⟨_, fun W => vover_6 _ W⟩, ⟨_, fun W => vother_6 _ W⟩, ⟨_, fun W => vbarred_6 _ W⟩, ⟨_, fun W => vearly_6 _ W⟩⟩

/-- the forms of a verdict -/
def VFormN (v : Value) (x : Verd) : Prop :=
  (x.kind = 1 ∧ v = .iface 85 (.agg #[.int .i64 x.time])) ∨ (∃ p, x.kind ≠ 1 ∧ v = .iface 92 (.pointer (some p))) ∨
  (∃ n, x.kind ≠ 1 ∧ v = .iface 71 (.agg #[.int .i64 n])) ∨ (∃ n, x.kind ≠ 1 ∧ v = .iface 64 (.agg #[.int .i64 n])) ∨
  (∃ s, x.kind ≠ 1 ∧ v = .iface 100 (.agg #[.string s])) ∨ (∃ s, x.kind ≠ 1 ∧ v = .iface 102 (.agg #[.string s])) ∨
  (∃ s, x.kind ≠ 1 ∧ v = .iface 66 (.agg #[s])) ∨ (∃ s, x.kind ≠ 1 ∧ v = .iface 68 (.agg #[s]))
theorem vformN {B : Nat} {v : Value} {x : Verd} {w : World} (h : VerdV B w v x) (h7 : x.kind ≤ 7) : VFormN v x := by
  obtain ⟨k, t, s, l⟩ := x
  simp only [] at h7
  have h8 : k = 0 ∨ k = 1 ∨ k = 2 ∨ k = 3 ∨ k = 4 ∨ k = 5 ∨ k = 6 ∨ k = 7 := by omega
  unfold VerdV at h
  unfold VFormN
  rcases h8 with rfl | rfl | rfl | rfl | rfl | rfl | rfl | rfl <;> simp only [] at h
  · obtain ⟨b, _, rfl, _⟩ := h
    exact .inr (.inl ⟨_, (by simp only []; decide), rfl⟩)
  · exact .inl ⟨rfl, h⟩
  · exact .inr (.inr (.inl ⟨_, (by simp only []; decide), h⟩))
  · exact .inr (.inr (.inr (.inl ⟨_, (by simp only []; decide), h⟩)))
  · exact .inr (.inr (.inr (.inr (.inl ⟨_, (by simp only []; decide), h⟩))))
  · exact .inr (.inr (.inr (.inr (.inr (.inl ⟨_, (by simp only []; decide), h⟩)))))
  · obtain ⟨y, rfl, _⟩ := h
    exact .inr (.inr (.inr (.inr (.inr (.inr (.inl ⟨_, (by simp only []; decide), rfl⟩))))))
  · obtain ⟨y, rfl, _⟩ := h
    exact .inr (.inr (.inr (.inr (.inr (.inr (.inr ⟨_, (by simp only []; decide), rfl⟩))))))

/-- the error of claims that are held against others: none, or one -/
theorem wi_forms {c o : C} {B : Nat} {w : World} {ev : Value} (h : WiE c o B w ev) : (ev = .nilIface ∧ mayB c = true ∧ mayB o = true ∧ Inside c o) ∨ ((∃ t x, ev = .iface t x) ∧ ¬ (mayB c = true ∧ mayB o = true ∧ Inside c o)) := by
  obtain ⟨h1, h2, h3⟩ := h
  cases hm : (mayB c && mayB o) with
  | false =>
    refine .inr ⟨⟨_, _, h1 hm⟩, fun ⟨a, b, _⟩ => ?_⟩
    rw [a, b] at hm
    cases hm
  | true =>
    obtain ⟨a, b⟩ := Bool.and_eq_true_iff.1 hm
    by_cases hl : badL c o = []
    · exact .inl ⟨h2 hm hl, a, b, badL_nil.1 hl⟩
    · obtain ⟨v, e, _⟩ := h3 hm hl
      exact .inr ⟨⟨_, _, e⟩, fun ⟨_, _, hi⟩ => hl (badL_nil.2 hi)⟩
theorem wi_self {c : C} {B : Nat} {w : World} {ev : Value} (h : WiE c c B w ev) : ev = .nilIface ∨ ev = .iface 46 (.int .i64 2) := by
  obtain ⟨h1, h2, _⟩ := h
  cases hm : (mayB c && mayB c) with
  | false => exact .inr (h1 hm)
  | true => exact .inl (h2 hm (badL_nil.2 (inside_self c)))
/-- what the statement asks of verdicts on who is within others -/
structure NarOk (c o : C) (r : R) : Prop where
  a : (judgeP o r).kind = 3 ∨ (judgeP o r).kind = 6 → (judgeP c r).kind ≠ 1
  b : (judgeP o r).kind = 7 → inB o.has (key 6) = true → (judgeP c r).kind ≠ 1
  e : (judgeP o r).kind = 2 → inB o.has (key 1) = false → (judgeP c r).kind ≠ 1
theorem nar_ok {c o : C} (r : R) (hi : Inside c o) : NarOk c o r := by
  have key : ∀ k, k ≠ 0 → (judgeP o r).kind = k → (judge0 o r).kind = k := by
    intro k h0 hk
    cases hf : fit o r with
    | true => rw [judgeP_fit hf] at hk; exact hk
    | false => rw [judgeP_unfit (by simp [hf])] at hk; exact absurd hk.symm h0
  have key2 : (judge0 c r).kind ≠ 1 → (judgeP c r).kind ≠ 1 := by
    intro h1
    cases hf : fit c r with
    | true => rw [judgeP_fit hf]; exact h1
    | false => rw [judgeP_unfit (by simp [hf])]; decide
  refine ⟨fun h => ?_, fun h hm => ?_, fun h hm => ?_⟩
  · rcases h with h | h
    · exact key2 (over_inside hi (key 3 (by decide) h))
    · exact key2 (other_inside hi (key 6 (by decide) h))
  · exact key2 (barred_inside hi (key 7 (by decide) h) hm)
  · exact key2 (early_inside hi (key 2 (by decide) h) hm)
end Go.Proofs.YtnondmeafilplaaGreatDoor
