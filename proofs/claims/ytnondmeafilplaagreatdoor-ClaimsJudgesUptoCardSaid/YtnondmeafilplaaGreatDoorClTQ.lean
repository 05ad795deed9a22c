/-
  Plain law of layer 25: what Change tells is so; what is final stays final.
-/
import Derived.Test.YtnondmeafilplaaGreatDoorClTP
namespace Go.Proofs.YtnondmeafilplaaGreatDoor
open Go.RowKit Ref3 Tok
set_option linter.unusedVariables false
namespace Cl
theorem startP_in {c : C} (h : mayB c = true) : 0 ≤ (startP c).1 ∧ (startP c).1 ≤ 9007199254740991 := by
  obtain ⟨h1, h2, h3⟩ := may_times h
  rw [isTime_iff] at h1 h2 h3
  unfold startP
  split
  · split <;> omega
  · split <;> omega
theorem fit_parts {c : C} {r : R} (h : fit c r = true) : mayB c = true ∧ (0 ≤ r.now ∧ r.now ≤ 9007199254740991) ∧ (0 ≤ r.slack ∧ r.slack ≤ 9007199254740991) := by
  unfold fit at h
  rw [Bool.and_eq_true, Bool.and_eq_true, isTime_iff, isTime_iff] at h
  exact h
theorem timesW_fit {c : C} {r : R} (h : fit c r = true) : timesW c r = (if (startP c).2 = true then [(startP c).1 - r.slack] else []) ++ (if inB c.has (key 7) = true then [c.until_ + r.slack] else []) := by
  obtain ⟨h1, h2, h3⟩ := fit_parts h
  have h4 := startP_in h1
  have h5 := (may_times h1).2.2
  rw [isTime_iff] at h5
  unfold timesW
  rw [show wrap64 ((startP c).1 - r.slack) = (startP c).1 - r.slack by unfold wrap64; omega, show wrap64 (c.until_ + r.slack) = c.until_ + r.slack by unfold wrap64; omega]
theorem preN_le {c : C} {r : R} {n : Nat} (h : preN c r = some n) : 4 ≤ n ∧ n ≤ 6 := by
  unfold preN at h
  split at h
  · injection h; omega
  · split at h
    · injection h; omega
    · split at h
      · injection h; omega
      · cases h
theorem baseN_is (c : C) (r : R) : baseN c r = 1 ∨ baseN c r = 7 := by
  unfold baseN
  split
  · exact .inl rfl
  · exact .inr rfl
theorem Kj_le (c : C) (r : R) (x : Int) : Kj c r x ≤ 7 := (judge0_kind c { r with now := x }).2
/-- the two ways of the types -/
theorem Kj_ways (c : C) (r : R) : (∃ n, 4 ≤ n ∧ n ≤ 6 ∧ Kj c r = fun _ => n) ∨ Kj c r = Kf (startP c).2 (inB c.has (key 7)) ((startP c).1 - r.slack) (c.until_ + r.slack) (baseN c r) := by
  cases hp : preN c r with
  | some n => exact .inl ⟨n, (preN_le hp).1, (preN_le hp).2, funext fun x => by rw [Kj_eq, hp]⟩
  | none => exact .inr (funext fun x => by rw [Kj_eq, hp])
theorem changeP_ok {c : C} {r : R} (h : fit c r = true) {t : Int} {ok : Bool} (e : changeP c r = (t, ok)) : ChOk (Kj c r) r.now t ok := by
  obtain ⟨h1, h2, h3⟩ := fit_parts h
  unfold changeP at e
  have hk : kindP (judgeP c r) = (Kj c r r.now : Int) := kindP_fit (x := r.now) h (by rw [isTime_iff]; exact h2)
  have hl := changeL_K h (Kj_le c r r.now) (sort2 (timesW c r)) r.now
  have e2 : changeK (Kj c r) (Kj c r r.now) r.now (sort2 (timesW c r)) = (t, ok) := by
    rw [← hl, ← e, hk]
  rw [timesW_fit h] at e2
  rcases Kj_ways c r with ⟨n, _, _, hK⟩ | hK
  · rw [hK] at e2 ⊢
    obtain ⟨rfl, rfl⟩ := ch_const n _ _ _ _ e2
    exact ⟨(fun h => by cases h), fun _ => ⟨rfl, fun _ _ _ => rfl⟩⟩
  · rw [hK] at e2 ⊢
    revert e2
    cases (startP c).2 with
    | false =>
      cases inB c.has (key 7) with
      | false => exact fun e2 => ch_none _ _ _ _ h2.1 h2.2 _ _ e2
      | true => exact fun e2 => ch_u _ _ _ _ h2.1 h2.2 _ _ e2
    | true =>
      cases inB c.has (key 7) with
      | false => exact fun e2 => ch_s _ _ _ _ h2.1 h2.2 _ _ e2
      | true => exact fun e2 => ch_su _ _ _ _ h2.1 h2.2 _ _ e2
theorem kind2_time {c : C} {r : R} (h : (judge0 c r).kind = 2) : (judge0 c r).time = (startP c).1 := by
  have h5 : (judge5 c r).kind ≠ 2 := by unfold judge5; split <;> simp
  have h4 : (judge4 c r).kind ≠ 2 := by unfold judge4; split; simp; exact h5
  unfold judge0 judge1 judge2 judge3 at h ⊢
  split at h
  · simp at h
  · split at h
    · simp at h
    · split at h
      · simp at h
      · split at h
        · rename_i a b d e
          simp [b, d, e]
        · exact absurd h h4
theorem kind1_time {c : C} {r : R} (h : (judge0 c r).kind = 1) : (judge0 c r).time = if inB c.has (key 7) = true then c.until_ else -1 := by
  unfold judge0 judge1 judge2 judge3 judge4 judge5 at h ⊢
  split at h
  · simp at h
  · split at h
    · simp at h
    · split at h
      · simp at h
      · split at h
        · simp at h
        · split at h
          · simp at h
          · split at h
            · rename_i a b d e f g
              simp [b, d, e, f, g]
            · simp at h
theorem judgeP_unfit {c : C} {r : R} (h : ¬ fit c r = true) : judgeP c r = ⟨0, 0, [], []⟩ := by rw [judgeP, if_neg h]
theorem changeL_8 (c : C) : ∀ (l : List Int) (r : R), changeL c 8 r l = (0, false)
  | [], r => rfl
  | t :: l, r => by
    rw [changeL, if_pos (.inr (.inr rfl))]
    exact changeL_8 c l r
/-- what the law asks of a verdict, of a later one, and of the change that is told -/
structure TimesOk (c : C) (r : R) (x : Int) : Prop where
  fin : (judgeP c r).kind ≠ 1 → (judgeP c r).kind ≠ 2 → (judgeP c { r with now := x }).kind ≠ 1 ∧ (judgeP c { r with now := x }).kind ≠ 2
  early : (judgeP c r).kind = 2 → ((judgeP c { r with now := x }).kind = 2 ↔ x + r.slack < (judgeP c r).time)
  same : (judgeP c r).kind = 2 → (judgeP c { r with now := x }).kind = 2 → (judgeP c { r with now := x }).time = (judgeP c r).time
  holds : (judgeP c r).kind = 1 → 0 ≤ (judgeP c r).time → (judgeP c { r with now := x }).kind = 1 → x < (judgeP c r).time + r.slack
  time : 0 ≤ (judgeP c r).time + 1 ∧ (judgeP c r).time ≤ 9007199254740991
  no : (changeP c r).2 = false → (changeP c r).1 = 0 ∧ kindP (judgeP c r) = kindP (judgeP c { r with now := x })
  yes : (changeP c r).2 = true → r.now < (changeP c r).1 ∧ (changeP c r).1 ≤ 9007199254740991 ∧ (x < (changeP c r).1 → kindP (judgeP c r) = kindP (judgeP c { r with now := x })) ∧ kindP (judgeP c { r with now := (changeP c r).1 }) ≠ kindP (judgeP c r)
theorem judge0_time {c : C} {r : R} (h : mayB c = true) : 0 ≤ (judge0 c r).time + 1 ∧ (judge0 c r).time ≤ 9007199254740991 := by
  have h1 := startP_in h
  have h2 := (may_times h).2.2
  rw [isTime_iff] at h2
  unfold judge0 judge1 judge2 judge3 judge4 judge5
  repeat' (split)
  all_goals (simp only; omega)
theorem times_ok (c : C) (r : R) (x : Int) (hn : isTime r.now = true) (hs : isTime r.slack = true) (hx : r.now ≤ x) (hx2 : x ≤ 9007199254740991) : TimesOk c r x := by
  have hxt : isTime x = true := by
    rw [isTime_iff] at hn ⊢
    omega
  by_cases hf : fit c r = true
  · have hf2 := fit_now hf hxt
    obtain ⟨hm, hn1, hs1⟩ := fit_parts hf
    have kx : ∀ y, (judge0 c { r with now := y }).kind = Kj c r y := fun y => rfl
    have k0 : (judge0 c r).kind = Kj c r r.now := rfl
    have hb := baseN_is c r
    obtain ⟨t, ok, he⟩ : ∃ t ok, changeP c r = (t, ok) := ⟨_, _, rfl⟩
    have hch := changeP_ok hf he
    have q0 : kindP (judgeP c r) = (Kj c r r.now : Int) := kindP_fit (x := r.now) hf hn
    have q1 : ∀ y, isTime y = true → kindP (judgeP c { r with now := y }) = (Kj c r y : Int) := fun y hy => kindP_fit hf hy
    constructor
    · rw [judgeP_fit hf, judgeP_fit hf2, kx x, k0]
      rcases Kj_ways c r with ⟨n, hn4, hn6, hK⟩ | hK
      · rw [hK]; intro h1 h2; exact ⟨h1, h2⟩
      · rw [hK]
        unfold Kf
        grind
    · rw [judgeP_fit hf, judgeP_fit hf2, kx x, k0]
      intro h2
      rw [kind2_time (by rw [k0]; exact h2)]
      rcases Kj_ways c r with ⟨n, hn4, hn6, hK⟩ | hK
      · rw [hK] at h2; replace h2 : n = 2 := h2; omega
      · rw [hK] at h2 ⊢
        unfold Kf at h2 ⊢
        grind
    · rw [judgeP_fit hf, judgeP_fit hf2]
      intro h1 h2
      rw [kind2_time h1, kind2_time h2]
    · rw [judgeP_fit hf, judgeP_fit hf2, kx x, k0]
      intro h1 h2 h3
      rw [kind1_time (by rw [k0]; exact h1)] at h2 ⊢
      rcases Kj_ways c r with ⟨n, hn4, hn6, hK⟩ | hK
      · rw [hK] at h1; replace h1 : n = 1 := h1; omega
      · rw [hK] at h1 h3
        unfold Kf at h1 h3
        grind
    · rw [judgeP_fit hf]
      exact judge0_time hm
    · rw [he]
      intro h1
      obtain ⟨h2, h3⟩ := hch.2 h1
      exact ⟨h2, by rw [q0, q1 x hxt, h3 x hx hx2]⟩
    · rw [he]
      intro h1
      obtain ⟨h2, h3, h4, h5⟩ := hch.1 h1
      refine ⟨h2, h3, fun h6 => by rw [q0, q1 x hxt, h5 x hx h6], ?_⟩
      show kindP (judgeP c { r with now := t }) ≠ _
      rw [q0, q1 t (by rw [isTime_iff]; omega)]
      omega
  · have hf2 : ¬ fit c { r with now := x } = true := fun h => hf (fit_now (r := { r with now := x }) (x := r.now) h hn)
    have he : changeP c r = (0, false) := by
      unfold changeP
      rw [judgeP_unfit hf]
      exact changeL_8 c _ r
    constructor
    · rw [judgeP_unfit hf, judgeP_unfit hf2]
      intro _ _
      exact ⟨by decide, by decide⟩
    · rw [judgeP_unfit hf]
      intro h; cases h
    · rw [judgeP_unfit hf]
      intro h; cases h
    · rw [judgeP_unfit hf]
      intro h; cases h
    · rw [judgeP_unfit hf]
      exact ⟨by decide, by decide⟩
    · rw [he, judgeP_unfit hf, judgeP_unfit hf2]
      exact fun _ => ⟨rfl, rfl⟩
    · rw [he]
      intro h; cases h
end Cl
end Go.Proofs.YtnondmeafilplaaGreatDoor
