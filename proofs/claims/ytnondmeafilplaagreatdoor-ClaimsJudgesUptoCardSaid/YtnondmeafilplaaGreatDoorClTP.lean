/-
  Plain law of layer 25: when a verdict of another type comes.
-/
import Derived.Test.YtnondmeafilplaaGreatDoorClCh
import Derived.Test.YtnondmeafilplaaGreatDoorClNP
namespace Go.Proofs.YtnondmeafilplaaGreatDoor
open Go.RowKit Ref3 Tok
set_option linter.unusedVariables false
namespace Cl
/-- the first time at which the type is another one -/
def changeK (K : Int → Nat) (n : Nat) : Int → List Int → Int × Bool
  | _, [] => (0, false)
  | now, t :: l => if t ≤ now ∨ isTime t = false then changeK K n now l else if K t = n then changeK K n t l else (t, true)
/-- the type of what is asked by the clock alone -/
def Kf (hs hu : Bool) (s u : Int) (b : Nat) (x : Int) : Nat := if hs = true ∧ x < s then 2 else if hu = true ∧ u ≤ x then 3 else b
theorem isTime_no {t : Int} : isTime t = false ↔ t < 0 ∨ 9007199254740991 < t := by
  unfold isTime
  rw [decide_eq_false_iff_not]
  omega
/-- what a change that is told, or none, says of the types -/
def ChOk (K : Int → Nat) (now t : Int) (ok : Bool) : Prop :=
  (ok = true → now < t ∧ t ≤ 9007199254740991 ∧ K t ≠ K now ∧ ∀ x, now ≤ x → x < t → K x = K now) ∧ (ok = false → t = 0 ∧ ∀ x, now ≤ x → x ≤ 9007199254740991 → K x = K now)
theorem ch_none (b : Nat) (s u now : Int) (h0 : 0 ≤ now) (h1 : now ≤ 9007199254740991) (t : Int) (ok : Bool) (h : changeK (Kf false false s u b) (Kf false false s u b now) now [] = (t, ok)) : ChOk (Kf false false s u b) now t ok := by
  simp only [changeK, Kf, ChOk] at h ⊢
  grind
theorem ch_s (b : Nat) (s u now : Int) (h0 : 0 ≤ now) (h1 : now ≤ 9007199254740991) (t : Int) (ok : Bool) (h : changeK (Kf true false s u b) (Kf true false s u b now) now [s] = (t, ok)) : ChOk (Kf true false s u b) now t ok := by
  simp only [changeK, isTime_no, Kf, true_and, ChOk] at h ⊢
  grind
theorem ch_u (b : Nat) (s u now : Int) (h0 : 0 ≤ now) (h1 : now ≤ 9007199254740991) (t : Int) (ok : Bool) (h : changeK (Kf false true s u b) (Kf false true s u b now) now [u] = (t, ok)) : ChOk (Kf false true s u b) now t ok := by
  simp only [changeK, isTime_no, Kf, true_and, ChOk] at h ⊢
  grind
theorem ch_su (b : Nat) (s u now : Int) (h0 : 0 ≤ now) (h1 : now ≤ 9007199254740991) (t : Int) (ok : Bool) (h : changeK (Kf true true s u b) (Kf true true s u b now) now [min s u, max s u] = (t, ok)) : ChOk (Kf true true s u b) now t ok := by
  rcases Int.le_total s u with hsu | hsu
  · rw [Int.min_eq_left hsu, Int.max_eq_right hsu] at h
    simp only [changeK, isTime_no, Kf, true_and, ChOk] at h ⊢
    grind
  · rw [Int.min_eq_right hsu, Int.max_eq_left hsu] at h
    simp only [changeK, isTime_no, Kf, true_and, ChOk] at h ⊢
    grind
/-- a type that no clock turns -/
theorem ch_const (n : Nat) : ∀ (l : List Int) (now t : Int) (ok : Bool), changeK (fun _ => n) n now l = (t, ok) → t = 0 ∧ ok = false
  | [], now, t, ok, h => by
    rw [changeK] at h
    injection h with h1 h2
    exact ⟨h1.symm, h2.symm⟩
  | x :: l, now, t, ok, h => by
    rw [changeK] at h
    split at h
    · exact ch_const n l _ _ _ h
    · rw [if_pos rfl] at h
      exact ch_const n l _ _ _ h
def preN (c : C) (r : R) : Option Nat := match needF c.has r.need with
  | some _ => some 4
  | none => if alienB c r = true then some 5 else if otherB c r = true then some 6 else none
def baseN (c : C) (r : R) : Nat := if (lackF c.may_ [] r.may_).isEmpty = true then 1 else 7
theorem over_part (c : C) (r : R) (x : Int) : (judge4 c { r with now := x }).kind = if inB c.has (key 7) = true ∧ c.until_ + r.slack ≤ x then 3 else baseN c r := by
  unfold judge4 overB
  cases inB c.has (key 7) with
  | true =>
    by_cases h1 : c.until_ + r.slack ≤ x
    · simp [h1]
    · simp only [Bool.true_and, decide_eq_true_eq, h1, if_false, and_false]
      unfold judge5 baseN
      show (if (lackF c.may_ [] r.may_).isEmpty = true then _ else _ : Verd).kind = _
      split <;> rfl
  | false =>
    simp only [Bool.false_and, Bool.false_eq_true, if_false, false_and]
    unfold judge5 baseN
    show (if (lackF c.may_ [] r.may_).isEmpty = true then _ else _ : Verd).kind = _
    split <;> rfl
def Kj (c : C) (r : R) (x : Int) : Nat := (judge0 c { r with now := x }).kind
theorem Kj_eq (c : C) (r : R) (x : Int) : Kj c r x = match preN c r with
    | some n => n
    | none => Kf (startP c).2 (inB c.has (key 7)) ((startP c).1 - r.slack) (c.until_ + r.slack) (baseN c r) x := by
  unfold Kj judge0 preN
  cases needF c.has r.need with
  | some k => rfl
  | none =>
    show (judge1 c { r with now := x }).kind = _
    have ha : alienB c { r with now := x } = alienB c r := rfl
    have ho : otherB c { r with now := x } = otherB c r := rfl
    unfold judge1
    rw [ha]
    cases alienB c r with
    | true => rfl
    | false =>
      simp only [Bool.false_eq_true, if_false]
      unfold judge2
      rw [ho]
      cases otherB c r with
      | true => rfl
      | false =>
        simp only [Bool.false_eq_true, if_false]
        unfold judge3 earlyB Kf
        cases (startP c).2 with
        | true =>
          by_cases h1 : x + r.slack < (startP c).1
          · have h2 : x < (startP c).1 - r.slack := by omega
            simp [h1, h2]
          · have h2 : ¬ x < (startP c).1 - r.slack := by omega
            simp only [Bool.true_and, decide_eq_true_eq, h1, h2, and_false, if_false]
            exact over_part c r x
        | false =>
          simp only [Bool.false_and, Bool.false_eq_true, false_and, if_false]
          exact over_part c r x
theorem isTime_yes {t : Int} (h : ¬ isTime t = false) : isTime t = true := by simpa using h
theorem fit_now {c : C} {r : R} {x : Int} (h : fit c r = true) (hx : isTime x = true) : fit c { r with now := x } = true := by
  unfold fit at h ⊢
  rw [Bool.and_eq_true, Bool.and_eq_true] at h
  obtain ⟨h1, _, h3⟩ := h
  rw [h1]
  show (true && (isTime x && isTime r.slack)) = true
  rw [hx, h3]
  rfl
theorem kindP_fit {c : C} {r : R} {x : Int} (h : fit c r = true) (hx : isTime x = true) : kindP (judgeP c { r with now := x }) = (Kj c r x : Int) := by
  rw [judgeP_fit (fit_now h hx), kindP, if_neg]
  · rfl
  · have := (judge0_kind c { r with now := x }).1
    omega
theorem changeL_K {c : C} {r : R} (h : fit c r = true) {n : Nat} (hn : n ≤ 7) : ∀ (l : List Int) (now : Int), changeL c (n : Int) { r with now := now } l = changeK (Kj c r) n now l
  | [], now => rfl
  | t :: l, now => by
    rw [changeL, changeK]
    by_cases hc : t ≤ now ∨ isTime t = false
    · rw [if_pos hc, if_pos (hc.elim .inl fun h => .inr (.inl h))]
      exact changeL_K h hn l now
    · rw [if_neg hc, if_neg (by
        rintro (h1 | h1 | h1)
        · exact hc (.inl h1)
        · exact hc (.inr h1)
        · omega)]
      have ht : isTime t = true := isTime_yes fun h1 => hc (.inr h1)
      have e : ({ ({ r with now := now } : R) with now := t } : R) = { r with now := t } := rfl
      rw [e, kindP_fit h ht]
      by_cases hk : Kj c r t = n
      · rw [if_pos hk, if_pos (by rw [hk])]
        exact changeL_K h hn l t
      · rw [if_neg hk, if_neg (by omega)]
end Cl
end Go.Proofs.YtnondmeafilplaaGreatDoor
