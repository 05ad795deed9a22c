/-
  Floats in plain terms: which are numbers, which are finite, which are nought.
-/
import Derived.Laws.FloatBits
import GoSem.Core.Float
namespace Go.Proofs.Ytfhfkggkbeahbaa
set_option linter.unusedVariables false
namespace Nd
open Ieee

/-- the bits of a finite float -/
def finB (b : Nat) : Bool := decide (b % 9223372036854775808 < 9218868437227405312)
/-- minus nought is nought -/
def normB (b : Nat) : Nat := if b % 9223372036854775808 = 0 then 0 else b

theorem sw : Format.signWeight double = 9223372036854775808 := by decide
theorem ir : Format.infRung double = 9218868437227405312 := by decide
theorem bn : Format.binade double = 4503599627370496 := by decide
theorem lp : Format.leastPlace double = -1074 := by decide

theorem read_fin {b : Nat} (h : b % 9223372036854775808 < 9218868437227405312) : ∃ m p, double.read b = .number (b / 9223372036854775808 % 2 == 1) m p ∧ (m = 0 ↔ b % 9223372036854775808 = 0) ∧ -1074 ≤ p ∧ ((b % 9223372036854775808 < 4503599627370496 ∧ m < 4503599627370496 ∧ p = -1074) ∨ (m < 9007199254740992 ∧ p ≤ 971)) := by
  unfold Format.read
  simp only [sw, ir, bn, lp]
  by_cases h1 : b % 9223372036854775808 < 4503599627370496
  · rw [if_pos h1]
    exact ⟨_, _, rfl, Iff.rfl, by omega, .inl ⟨h1, h1, rfl⟩⟩
  · rw [if_neg h1, if_pos h]
    refine ⟨_, _, rfl, by omega, by omega, .inr ⟨by omega, by omega⟩⟩
theorem read_inf {b : Nat} (h : b % 9223372036854775808 = 9218868437227405312) : double.read b = .infinity (b / 9223372036854775808 % 2 == 1) := by
  unfold Format.read
  simp only [sw, ir, bn, lp, h]
  rw [if_neg (by omega), if_neg (by omega), if_pos trivial]
theorem read_nan {b : Nat} (h : 9218868437227405312 < b % 9223372036854775808) : ∃ s t, double.read b = .nan s t := by
  unfold Format.read
  simp only [sw, ir, bn, lp]
  rw [if_neg (by omega), if_neg (by omega), if_neg (by omega)]
  exact ⟨_, _, rfl⟩
theorem order_self {b : Nat} (h : b % 9223372036854775808 ≤ 9218868437227405312) : double.order b b = some .eq := by
  unfold Format.order
  rcases Nat.lt_or_ge (b % 9223372036854775808) 9218868437227405312 with h1 | h1
  · obtain ⟨m, p, e, _⟩ := read_fin h1
    rw [e]
    simp [Datum.order]
  · rw [read_inf (by omega)]
    simp [Datum.order]
theorem order_nan {b : Nat} (h : 9218868437227405312 < b % 9223372036854775808) (c : Nat) : double.order b c = none := by
  unfold Format.order
  obtain ⟨s, t, e⟩ := read_nan h
  rw [e]
  cases double.read c <;> rfl
theorem order_zero {b : Nat} (h : b % 9223372036854775808 < 9218868437227405312) : (double.order b 0 == some .eq) = decide (b % 9223372036854775808 = 0) := by
  obtain ⟨m, p, e, hm, hp, _⟩ := read_fin h
  have h0 : double.read 0 = .number false 0 (-1074) := by decide
  unfold Format.order
  rw [e, h0]
  simp only [Datum.order]
  by_cases hz : b % 9223372036854775808 = 0
  · have := hm.2 hz
    subst this
    simp [signed, hz]
  · have hm0 : m ≠ 0 := fun e => hz (hm.1 e)
    have hs : m <<< (p - min p (-1074)).toNat ≠ 0 := by
      rw [Nat.shiftLeft_eq]
      exact Nat.mul_ne_zero hm0 (Nat.pos_iff_ne_zero.1 (Nat.two_pow_pos _))
    generalize m <<< (p - min p (-1074)).toNat = k at hs
    simp only [hz, decide_false]
    cases (b / 9223372036854775808 % 2 == 1) <;> simp [signed, compare, compareOfLessAndEq] <;> (try split) <;> (try simp) <;> (try omega)
theorem max_read : double.read 9218868437227405311 = .number false 9007199254740991 971 := by decide
theorem order_max {b : Nat} (hb : b < 9223372036854775808) (h : b ≤ 9218868437227405312) : (double.order b 9218868437227405311 == some .gt) = decide (b = 9218868437227405312) := by
  unfold Format.order
  rw [max_read]
  rcases Nat.lt_or_ge b 9218868437227405312 with h1 | h1
  · obtain ⟨m, p, e, _, hp, hc⟩ := read_fin (b := b) (by rw [Nat.mod_eq_of_lt hb]; exact h1)
    have hs : (b / 9223372036854775808 % 2 == 1) = false := by rw [Nat.div_eq_of_lt hb]; rfl
    rw [e, hs]
    simp only [Datum.order]
    have hp9 : p ≤ 971 := by omega
    have hm9 : m ≤ 9007199254740991 := by omega
    have e1 : min p 971 = p := by omega
    rw [e1]
    have hd : decide (b = 9218868437227405312) = false := decide_eq_false (by omega)
    rw [hd]
    have e2 : (p - p).toNat = 0 := by omega
    rw [e2]
    have hle : m <<< 0 ≤ 9007199254740991 <<< (971 - p).toNat := by
      rw [Nat.shiftLeft_eq, Nat.shiftLeft_eq, Nat.pow_zero, Nat.mul_one]
      exact Nat.le_trans hm9 (Nat.le_mul_of_pos_right _ (Nat.two_pow_pos _))
    simp only [signed, Bool.false_eq_true, if_false]
    generalize (9007199254740991 : Nat) <<< (971 - p).toNat = q at hle ⊢
    generalize m <<< 0 = r at hle ⊢
    rcases Nat.lt_or_eq_of_le hle with h | h
    · have hc : compare (r : Int) (q : Int) = .lt := by
        unfold compare instOrdInt compareOfLessAndEq
        simp only
        rw [if_pos (by omega)]
      rw [hc]
      rfl
    · have hc : compare (r : Int) (q : Int) = .eq := by
        rw [h]
        simp
      rw [hc]
      rfl
  · have hb2 : b = 9218868437227405312 := by omega
    rw [read_inf (by rw [hb2])]
    subst hb2
    rfl
end Nd
end Go.Proofs.Ytfhfkggkbeahbaa
