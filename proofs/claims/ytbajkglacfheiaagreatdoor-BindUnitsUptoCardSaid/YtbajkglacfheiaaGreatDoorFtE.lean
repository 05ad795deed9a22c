/-
  Whole numbers in floats, in plain terms: what a kind of whole number takes, by the code's tests and by the document's.
-/
import Derived.Test.YtbajkglacfheiaaGreatDoorFtD
namespace Go.Proofs.YtbajkglacfheiaaGreatDoor
set_option linter.unusedVariables false
set_option linter.unusedSimpArgs false
namespace Nd
open Ieee

/-- the whole number that a float is -/
def wholeD (b : Nat) : Option Int := if valB b % (U : Int) = 0 then some (valB b / (U : Int)) else none
/-- the least and the greatest of each kind, 3 to 10 -/
def loK (k : Nat) : Int := if k = 3 then -128 else if k = 4 then -32768 else if k = 5 then -2147483648 else if k = 6 then -9223372036854775808 else 0
def hiK (k : Nat) : Int := if k = 3 then 127 else if k = 4 then 32767 else if k = 5 then 2147483647 else if k = 6 then 9223372036854775807 else if k = 7 then 255 else if k = 8 then 65535 else if k = 9 then 4294967295 else 18446744073709551615
/-- what a kind takes of a float: the error, or the number -/
def intD (k : Nat) (b : Nat) : Int ⊕ Int := match wholeD b with
  | none => .inl 160
  | some z => if loK k ≤ z ∧ z ≤ hiK k then .inr z else .inl 161
theorem whole_some {b : Nat} {z : Int} (h : wholeD b = some z) : valB b = z * (U : Int) := by
  unfold wholeD at h
  split at h
  · rename_i h0
    injection h with h
    rw [← h]
    have := Int.mul_ediv_add_emod (valB b) (U : Int)
    rw [h0, Int.add_zero, Int.mul_comm] at this
    exact this.symm
  · cases h
theorem whole_of {b : Nat} {z : Int} (h : valB b = z * (U : Int)) : wholeD b = some z := by
  have hU := U_pos
  unfold wholeD
  rw [h, Int.mul_emod_left, if_pos rfl, Int.mul_ediv_cancel _ (by omega)]
theorem trunc_some {b : Nat} (hb : b < 18446744073709551616) (hf : finB b = true) {z : Int} (h : wholeD b = some z) : (double.order (truncB b) b == some .eq) = true := by
  rw [trunc_order hb hf]
  unfold wholeD at h
  split at h
  · rename_i h0
    exact decide_eq_true h0
  · cases h
theorem trunc_none {b : Nat} (hb : b < 18446744073709551616) (hf : finB b = true) (h : wholeD b = none) : (double.order (truncB b) b == some .eq) = false := by
  rw [trunc_order hb hf]
  unfold wholeD at h
  split at h
  · cases h
  · rename_i h0
    exact decide_eq_false h0
theorem scale_lt {x y : Int} : x * (U : Int) < y * (U : Int) ↔ x < y := by
  have hU : (0 : Int) < (U : Int) := by have := U_pos; omega
  constructor
  · intro h
    exact Int.lt_of_mul_lt_mul_right h (Int.le_of_lt hU)
  · intro h
    exact Int.mul_lt_mul_of_pos_right h hU
theorem scale_eq {x y : Int} : x * (U : Int) = y * (U : Int) ↔ x = y := by
  have hU := U_pos
  exact ⟨fun h => Int.eq_of_mul_eq_mul_right (by omega) h, fun h => by rw [h]⟩
theorem test_lo {b : Nat} (hb : b < 18446744073709551616) (hf : finB b = true) {z : Int} (h : wholeD b = some z) : (double.order b 14114281232179134464 == some .lt) = decide (z < -9223372036854775808) := by
  rw [order_lt hb (by decide) hf lo63.1, whole_some h, lo63.2, decide_eq_decide]
  exact scale_lt
theorem test_neg {b : Nat} (hb : b < 18446744073709551616) (hf : finB b = true) {z : Int} (h : wholeD b = some z) : (double.order b 0 == some .lt) = decide (z < 0) := by
  rw [order_lt hb (by decide) hf (by decide), whole_some h, val_nought, decide_eq_decide]
  have := scale_lt (x := z) (y := 0)
  rw [Int.zero_mul] at this
  exact this
theorem test_hi63 {b : Nat} (hb : b < 18446744073709551616) (hf : finB b = true) {z : Int} (h : wholeD b = some z) : (double.order b 4890909195324358656 == some .gt) = decide (9223372036854775808 < z) ∧ (double.order b 4890909195324358656 == some .eq) = decide (z = 9223372036854775808) := by
  rw [order_gt hb (by decide) hf hi63.1, order_eq hb (by decide) hf hi63.1, whole_some h, hi63.2, decide_eq_decide, decide_eq_decide]
  exact ⟨scale_lt, scale_eq⟩
theorem test_hi64 {b : Nat} (hb : b < 18446744073709551616) (hf : finB b = true) {z : Int} (h : wholeD b = some z) : (double.order b 4895412794951729152 == some .gt) = decide (18446744073709551616 < z) ∧ (double.order b 4895412794951729152 == some .eq) = decide (z = 18446744073709551616) := by
  rw [order_gt hb (by decide) hf hi64.1, order_eq hb (by decide) hf hi64.1, whole_some h, hi64.2, decide_eq_decide, decide_eq_decide]
  exact ⟨scale_lt, scale_eq⟩
theorem conv_i64 {b : Nat} (hb : b < 18446744073709551616) (hf : finB b = true) {z : Int} (h : wholeD b = some z) (h1 : -9223372036854775808 ≤ z) (h2 : z < 9223372036854775808) : floatToIntVal .f64 b .i64 = some z := by
  have e1 : IntKind.i64.min = -9223372036854775808 := by decide
  have e2 : IntKind.i64.max = 9223372036854775807 := by decide
  exact to_int hb hf (whole_some h) .i64 (by rw [e1]; omega) (by rw [e2]; omega)
theorem conv_u64 {b : Nat} (hb : b < 18446744073709551616) (hf : finB b = true) {z : Int} (h : wholeD b = some z) (h1 : 0 ≤ z) (h2 : z < 18446744073709551616) : floatToIntVal .f64 b .u64 = some z := by
  have e1 : IntKind.u64.min = 0 := by decide
  have e2 : IntKind.u64.max = 18446744073709551615 := by decide
  exact to_int hb hf (whole_some h) .u64 (by rw [e1]; omega) (by rw [e2]; omega)
/-- back again -/
theorem back_float {b : Nat} (hb : b < 18446744073709551616) (hf : finB b = true) (hn : normB b = b) {z : Int} (h : wholeD b = some z) : floatOfInt .f64 z = b := by
  refine of_int hb hf (whole_some h) fun h0 => ?_
  subst h0
  have h1 := (val_zero hb hf).1 (by rw [whole_some h, Int.zero_mul])
  unfold normB at hn
  rw [if_pos h1] at hn
  exact hn.symm

/-! ### by the document -/
def sgnB (b : Nat) : Bool := b / 9223372036854775808 % 2 == 1
theorem abs_form {b : Nat} (hb : b < 18446744073709551616) (hf : finB b = true) : ∃ M L, double.read b = .number (sgnB b) M L ∧ Canon M L ∧ (valB b).natAbs = magV M L ∧ valB b = if sgnB b then -((valB b).natAbs : Int) else ((valB b).natAbs : Int) := by
  obtain ⟨s, M, L, hr, hc, hw⟩ := read_form hb hf
  have hr0 := rung_lt (E := (L + 1074).toNat) (M := M) (by have := hc.l1; have := hc.l2; omega) hc.hi
  have hs := (word_parts s (r := (L + 1074).toNat * 4503599627370496 + M) (by omega)).1
  rw [← hw] at hs
  have hs2 : sgnB b = s := hs
  rw [hs2]
  refine ⟨M, L, hr, hc, ?_, ?_⟩
  · rw [valB_of hr]
    unfold valV
    cases s <;> simp
  · rw [valB_of hr]
    unfold valV
    cases s <;> simp
def magD (b : Nat) : Nat × Nat :=
  if (valB b).natAbs % U ≠ 0 then (0, 160) else if 18446744073709551616 ≤ (valB b).natAbs / U then (0, 161) else ((valB b).natAbs / U, 0)
def signedD (b most : Nat) : Int ⊕ Int :=
  if (magD b).2 ≠ 0 then .inl (magD b).2 else if sgnB b then (if most < (magD b).1 then .inl 161 else .inr (-((magD b).1 : Int))) else if most ≤ (magD b).1 then .inl 161 else .inr ((magD b).1 : Int)
def unsignedD (b lim : Nat) : Int ⊕ Int :=
  if (magD b).2 ≠ 0 then .inl (magD b).2 else if (sgnB b = true ∧ 0 < (magD b).1) ∨ lim ≤ (magD b).1 then .inl 161 else .inr ((magD b).1 : Int)
theorem whole_abs {b : Nat} (hb : b < 18446744073709551616) (hf : finB b = true) : wholeD b = if (valB b).natAbs % U = 0 then some (if sgnB b then -(((valB b).natAbs / U : Nat) : Int) else (((valB b).natAbs / U : Nat) : Int)) else none := by
  obtain ⟨M, L, hr, hc, ha, hv⟩ := abs_form hb hf
  have hU := U_pos
  generalize (valB b).natAbs = v at *
  by_cases h : v % U = 0
  · rw [if_pos h]
    apply whole_of
    have hd := Nat.div_add_mod v U
    rw [h, Nat.add_zero] at hd
    generalize v / U = q at *
    subst hd
    rw [hv]
    cases sgnB b
    · simp only [Bool.false_eq_true, if_false]
      rw [Int.natCast_mul, Int.mul_comm]
    · simp only [if_true]
      rw [Int.natCast_mul, Int.neg_mul, Int.mul_comm]
  · rw [if_neg h]
    unfold wholeD
    rw [if_neg]
    intro h0
    apply h
    rw [hv] at h0
    cases hs : sgnB b
    · rw [hs] at h0
      simp only [Bool.false_eq_true, if_false] at h0
      omega
    · rw [hs] at h0
      simp only [if_true] at h0
      rw [← Int.dvd_iff_emod_eq_zero, Int.dvd_neg, Int.dvd_iff_emod_eq_zero] at h0
      omega
theorem magD_cases (b : Nat) : ((valB b).natAbs % U ≠ 0 ∧ magD b = (0, 160)) ∨ ((valB b).natAbs % U = 0 ∧ 18446744073709551616 ≤ (valB b).natAbs / U ∧ magD b = (0, 161)) ∨ ((valB b).natAbs % U = 0 ∧ (valB b).natAbs / U < 18446744073709551616 ∧ magD b = ((valB b).natAbs / U, 0)) := by
  unfold magD
  generalize (valB b).natAbs = v
  by_cases h : v % U = 0
  · rw [if_neg (fun hx => hx h)]
    by_cases hq : 18446744073709551616 ≤ v / U
    · rw [if_pos hq]
      exact .inr (.inl ⟨h, hq, rfl⟩)
    · rw [if_neg hq]
      exact .inr (.inr ⟨h, by omega, rfl⟩)
  · rw [if_pos h]
    exact .inl ⟨h, rfl⟩
theorem signed_int {b most k : Nat} (hb : b < 18446744073709551616) (hf : finB b = true) (hm : most ≤ 9223372036854775808) (h0 : 0 < most) (h1 : loK k = -(most : Int)) (h2 : hiK k = (most : Int) - 1) : intD k b = signedD b most := by
  unfold intD
  rw [whole_abs hb hf, h1, h2]
  unfold signedD
  rcases magD_cases b with ⟨h, hd⟩ | ⟨h, hq, hd⟩ | ⟨h, hq, hd⟩
  · rw [if_neg h, hd]
    rfl
  · rw [if_pos h, hd]
    generalize (valB b).natAbs / U = q at *
    dsimp only
    rw [if_pos (show (161 : Nat) ≠ 0 by decide), if_neg]
    · rfl
    · cases sgnB b
      · simp only [Bool.false_eq_true, if_false]
        omega
      · simp only [if_true]
        omega
  · rw [if_pos h, hd]
    generalize (valB b).natAbs / U = q at *
    dsimp only
    rw [if_neg (show ¬ ((0 : Nat) ≠ 0) by simp)]
    cases sgnB b
    · simp only [Bool.false_eq_true, if_false]
      by_cases hx : most ≤ q
      · rw [if_pos hx, if_neg (by omega)]
      · rw [if_neg hx, if_pos (by omega)]
    · simp only [if_true]
      by_cases hx : most < q
      · rw [if_pos hx, if_neg (by omega)]
      · rw [if_neg hx, if_pos (by omega)]
theorem unsigned_int {b lim k : Nat} (hb : b < 18446744073709551616) (hf : finB b = true) (hm : lim ≤ 18446744073709551616) (h1 : loK k = 0) (h2 : hiK k = (lim : Int) - 1) : intD k b = unsignedD b lim := by
  unfold intD
  rw [whole_abs hb hf, h1, h2]
  unfold unsignedD
  rcases magD_cases b with ⟨h, hd⟩ | ⟨h, hq, hd⟩ | ⟨h, hq, hd⟩
  · rw [if_neg h, hd]
    rfl
  · rw [if_pos h, hd]
    generalize (valB b).natAbs / U = q at *
    dsimp only
    rw [if_pos (show (161 : Nat) ≠ 0 by decide), if_neg]
    · rfl
    · cases sgnB b
      · simp only [Bool.false_eq_true, if_false]
        omega
      · simp only [if_true]
        omega
  · rw [if_pos h, hd]
    generalize (valB b).natAbs / U = q at *
    dsimp only
    rw [if_neg (show ¬ ((0 : Nat) ≠ 0) by simp)]
    cases sgnB b
    · simp only [Bool.false_eq_true, if_false, false_and, false_or]
      by_cases hx : lim ≤ q
      · rw [if_pos hx, if_neg (by omega)]
      · rw [if_neg hx, if_pos (by omega)]
    · simp only [if_true, true_and]
      by_cases hx : 0 < q ∨ lim ≤ q
      · rw [if_pos hx, if_neg (by omega)]
      · rw [if_neg hx, if_pos (by omega)]
        congr 1
        omega
/-- an odd magnitude below the point is no whole number -/
theorem odd_low {m : Nat} {k : Int} (hm : m % 2 = 1) (h1 : -1074 ≤ k) (h2 : k < 0) : magV m k % U ≠ 0 := by
  intro h
  unfold magV at h
  rw [← pow_join h1 h2] at h
  have hp := Nat.two_pow_pos (k + 1074).toNat
  rw [Nat.mul_mod_mul_right] at h
  have h3 : m % 2 ^ (-k).toNat = 0 := by
    rcases Nat.mul_eq_zero.1 h with h | h
    · exact h
    · omega
  obtain ⟨j, hj⟩ : ∃ j, (-k).toNat = j + 1 := ⟨(-k).toNat - 1, by omega⟩
  rw [hj] at h3
  have h4 : 2 ^ (j + 1) ∣ m := Nat.dvd_of_mod_eq_zero h3
  have h5 : 2 ∣ m := Nat.dvd_trans ⟨2 ^ j, by rw [Nat.pow_succ, Nat.mul_comm]⟩ h4
  omega
theorem mag_up {m : Nat} {k : Int} (h : 0 ≤ k) : magV m k % U = 0 ∧ magV m k / U = m * 2 ^ k.toNat := by
  unfold magV
  rw [pow_up h, ← Nat.mul_assoc, Nat.mul_mod_left, Nat.mul_div_cancel _ U_pos]
  exact ⟨rfl, rfl⟩
theorem mag_half {m : Nat} {k : Int} (hk : -1074 ≤ k) (hm : m % 2 = 0) : magV (m / 2) (k + 1) = magV m k := by
  unfold magV
  have e : (k + 1 + 1074).toNat = (k + 1074).toNat + 1 := by omega
  have e2 : m = m / 2 * 2 := by omega
  rw [e, Nat.pow_succ, Nat.mul_comm _ 2, ← Nat.mul_assoc, ← e2]
end Nd
end Go.Proofs.YtbajkglacfheiaaGreatDoor

