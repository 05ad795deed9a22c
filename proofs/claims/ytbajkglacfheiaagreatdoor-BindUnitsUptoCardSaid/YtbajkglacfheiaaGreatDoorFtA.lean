/-
  Times as floats, in plain terms: the bits of a whole number below 2^53, which floats are such numbers.
-/
import Derived.Test.YtbajkglacfheiaaGreatDoorGB
import Derived.Laws.FloatArith
namespace Go.Proofs.YtbajkglacfheiaaGreatDoor
set_option linter.unusedVariables false
namespace Nd
open Ieee

theorem fb : double.fractionBits = 52 := rfl
theorem lin_a (k x : Nat) (h : k ≤ 52) (hx : x < 9007199254740992) : (1022 + k) * 4503599627370496 + x ≤ 9218868437227405312 := by omega
theorem lin_b (k x : Nat) (h : 4503599627370496 ≤ x) : (1022 + k) * 4503599627370496 + x = (1023 + k) * 4503599627370496 + (x - 4503599627370496) := by omega
theorem lin_c (b e n : Nat) (he : b / 4503599627370496 = e) (h : 1023 ≤ e) (hn : n = b % 4503599627370496 + 4503599627370496) : b = (1022 + (e - 1023)) * 4503599627370496 + n := by omega
theorem cut_none (way : Toward) (neg : Bool) (n : Nat) : way.cut neg n 0 = n := by
  unfold Toward.cut
  have h : (1 <<< min 0 (n.log2 + 2) : Nat) = 1 := by rw [Nat.zero_min]; rfl
  rw [h]
  cases way <;> simp [Nat.mod_one]
theorem write_zero (s : Bool) (p : Int) : double.write (.number s 0 p) = if s then 9223372036854775808 else 0 := by
  show double.nearest s 0 p = _
  unfold Format.nearest
  rw [if_pos rfl]
  unfold Format.word
  rw [sw]
theorem log2_is {n k : Nat} (h1 : 2 ^ k ≤ n) (h2 : n < 2 ^ (k + 1)) : n.log2 = k := by
  have hn : n ≠ 0 := by have := Nat.two_pow_pos k; omega
  have a : k ≤ n.log2 := (Nat.le_log2 hn).2 h1
  have b : n.log2 < k + 1 := (Nat.log2_lt hn).2 h2
  omega
theorem log2_of {n : Nat} (hn : n ≠ 0) : 2 ^ n.log2 ≤ n ∧ n < 2 ^ (n.log2 + 1) := ⟨Nat.log2_self_le hn, Nat.lt_log2_self⟩
theorem pow_split {k : Nat} (hk : k ≤ 52) : 2 ^ k * 2 ^ (52 - k) = 4503599627370496 := by
  rw [← Nat.pow_add]
  have : k + (52 - k) = 52 := by omega
  rw [this]
/-- the word of a whole number of k + 1 digits, k at most 52 -/
theorem write_nat {n k : Nat} (h1 : 2 ^ k ≤ n) (h2 : n < 2 ^ (k + 1)) (hk : k ≤ 52) : double.write (.number false n 0) = (1022 + k) * 4503599627370496 + n * 2 ^ (52 - k) := by
  have hn : n ≠ 0 := by have := Nat.two_pow_pos k; omega
  have hl := log2_is h1 h2
  have hp := pow_split hk
  have hlo : 4503599627370496 ≤ n * 2 ^ (52 - k) := by rw [← hp]; exact Nat.mul_le_mul_right _ h1
  have hhi : n * 2 ^ (52 - k) < 9007199254740992 := by
    have h3 : n * 2 ^ (52 - k) < 2 ^ (k + 1) * 2 ^ (52 - k) := Nat.mul_lt_mul_of_pos_right h2 (Nat.two_pow_pos _)
    rw [Nat.pow_succ, Nat.mul_assoc, Nat.mul_comm 2, ← Nat.mul_assoc, hp] at h3
    omega
  show double.nearest false n 0 = _
  unfold Format.nearest
  rw [if_neg hn, hl]
  simp only [lp, bn, ir, fb]
  have e1 : max ((0 : Int) + (k : Int) - ((52 : Nat) : Int)) (-1074) = (k : Int) - 52 := by omega
  rw [e1]
  have e2 : ((0 : Int) - ((k : Int) - 52)).toNat = 52 - k := by omega
  have e3 : (((k : Int) - 52) - 0).toNat = 0 := by omega
  have e4 : ((k : Int) - 52 - (-1074)).toNat = 1022 + k := by omega
  rw [e2, e3, e4, cut_none, Nat.shiftLeft_eq]
  unfold Format.word
  rw [if_neg (by simp)]
  exact Nat.min_eq_left (lin_a k _ hk hhi)
/-- the bits of a time -/
def bitsT (n : Nat) : Nat := if n = 0 then 0 else (1022 + n.log2) * 4503599627370496 + n * 2 ^ (52 - n.log2)
theorem log_lt {n : Nat} (hn : n ≠ 0) (h : n < 9007199254740992) : n.log2 ≤ 52 := by
  have := (Nat.log2_lt hn (k := 53)).2 (by simpa using h)
  omega
theorem write_time {n : Nat} (h : n < 9007199254740992) : double.write (.number false n 0) = bitsT n := by
  unfold bitsT
  by_cases hn : n = 0
  · rw [if_pos hn, hn, write_zero]
    rfl
  · rw [if_neg hn]
    obtain ⟨a, b⟩ := log2_of hn
    exact write_nat a b (log_lt hn h)
theorem bitsT_form {n : Nat} (hn : n ≠ 0) (h : n < 9007199254740992) : ∃ k f, k ≤ 52 ∧ n.log2 = k ∧ f < 4503599627370496 ∧ n * 2 ^ (52 - k) = 4503599627370496 + f ∧ bitsT n = (1023 + k) * 4503599627370496 + f := by
  obtain ⟨a, b⟩ := log2_of hn
  have hk := log_lt hn h
  have hp := pow_split hk
  have hlo : 4503599627370496 ≤ n * 2 ^ (52 - n.log2) := by rw [← hp]; exact Nat.mul_le_mul_right _ a
  have hhi : n * 2 ^ (52 - n.log2) < 9007199254740992 := by
    have h3 : n * 2 ^ (52 - n.log2) < 2 ^ (n.log2 + 1) * 2 ^ (52 - n.log2) := Nat.mul_lt_mul_of_pos_right b (Nat.two_pow_pos _)
    rw [Nat.pow_succ, Nat.mul_assoc, Nat.mul_comm 2, ← Nat.mul_assoc, hp] at h3
    omega
  refine ⟨n.log2, n * 2 ^ (52 - n.log2) - 4503599627370496, hk, rfl, by omega, by omega, ?_⟩
  unfold bitsT
  rw [if_neg hn]
  exact lin_b _ _ hlo
/-- the time that bits say, by the document; -1: none -/
def timeD (b : Nat) : Int :=
  if b = 0 then 0 else
  if b / 9223372036854775808 % 2 = 1 ∨ b / 4503599627370496 % 2048 < 1023 ∨ 1075 < b / 4503599627370496 % 2048 then -1 else
  if (b % 4503599627370496 + 4503599627370496) % 2 ^ (1075 - b / 4503599627370496 % 2048) ≠ 0 then -1 else
  (((b % 4503599627370496 + 4503599627370496) / 2 ^ (1075 - b / 4503599627370496 % 2048) : Nat) : Int)
theorem timeD_bits {n : Nat} (h : n < 9007199254740992) : timeD (bitsT n) = n := by
  unfold timeD
  by_cases hn : n = 0
  · subst hn
    rfl
  · obtain ⟨k, f, hk, hl, hf, hm, hb⟩ := bitsT_form hn h
    have h0 : bitsT n ≠ 0 := by
      rw [hb]
      have : 1 * 4503599627370496 ≤ (1023 + k) * 4503599627370496 := Nat.mul_le_mul_right _ (by omega)
      omega
    have hk2 : (1023 + k) * 4503599627370496 ≤ 1075 * 4503599627370496 := Nat.mul_le_mul_right _ (by omega)
    have hd : bitsT n / 4503599627370496 = 1023 + k := by
      rw [hb, Nat.add_comm, Nat.add_mul_div_right _ _ (by omega), Nat.div_eq_of_lt hf, Nat.zero_add]
    have hr : bitsT n % 4503599627370496 = f := by
      rw [hb, Nat.add_comm, Nat.add_mul_mod_self_right, Nat.mod_eq_of_lt hf]
    have hs : bitsT n / 9223372036854775808 % 2 = 0 := by
      rw [Nat.div_eq_of_lt (by rw [hb]; omega)]
    have he : (1023 + k) % 2048 = 1023 + k := Nat.mod_eq_of_lt (by omega)
    rw [if_neg h0, hd, hr, hs, he, if_neg (by omega)]
    have hx : 1075 - (1023 + k) = 52 - k := by omega
    have hy : f + 4503599627370496 = n * 2 ^ (52 - k) := by omega
    rw [hx, hy, Nat.mul_mod_left, if_neg (by simp), Nat.mul_div_cancel _ (Nat.two_pow_pos _)]
theorem timeD_lt {b : Nat} : timeD b < 9007199254740992 := by
  unfold timeD
  split
  · omega
  · split
    · omega
    · split
      · omega
      · rename_i h1 h2 h3
        have : b % 4503599627370496 < 4503599627370496 := Nat.mod_lt _ (by omega)
        have h4 : (b % 4503599627370496 + 4503599627370496) / 2 ^ (1075 - b / 4503599627370496 % 2048) ≤ b % 4503599627370496 + 4503599627370496 := Nat.div_le_self _ _
        omega
/-- bits of a float that is no minus nought and says a time: they are that time's -/
theorem bits_timeD {b : Nat} (hb : b < 18446744073709551616) (h : 0 ≤ timeD b) : b = bitsT (timeD b).toNat := by
  by_cases h0 : b = 0
  · subst h0
    rfl
  · unfold timeD at h ⊢
    rw [if_neg h0] at h ⊢
    by_cases h1 : b / 9223372036854775808 % 2 = 1 ∨ b / 4503599627370496 % 2048 < 1023 ∨ 1075 < b / 4503599627370496 % 2048
    · rw [if_pos h1] at h
      omega
    · rw [if_neg h1] at h ⊢
      generalize he : b / 4503599627370496 % 2048 = e at h h1 ⊢
      by_cases h2 : (b % 4503599627370496 + 4503599627370496) % 2 ^ (1075 - e) ≠ 0
      · rw [if_pos h2] at h
        omega
      · rw [if_neg h2]
        have h3 : (b % 4503599627370496 + 4503599627370496) % 2 ^ (1075 - e) = 0 := by omega
        have hdiv := Nat.div_add_mod (b % 4503599627370496 + 4503599627370496) (2 ^ (1075 - e))
        rw [h3, Nat.add_zero] at hdiv
        generalize (b % 4503599627370496 + 4503599627370496) / 2 ^ (1075 - e) = n at hdiv ⊢
        show b = bitsT ((n : Int)).toNat
        rw [Int.toNat_natCast]
        have hf : b % 4503599627370496 < 4503599627370496 := Nat.mod_lt _ (by omega)
        have hk : 1023 + (e - 1023) = e := by omega
        have hx : 1075 - e = 52 - (e - 1023) := by omega
        rw [hx, Nat.mul_comm] at hdiv
        have hp := pow_split (show e - 1023 ≤ 52 by omega)
        have hlo : 2 ^ (e - 1023) ≤ n := by
          apply Nat.le_of_mul_le_mul_right _ (Nat.two_pow_pos (52 - (e - 1023)))
          omega
        have hhi : n < 2 ^ (e - 1023 + 1) := by
          apply Nat.lt_of_mul_lt_mul_right (a := 2 ^ (52 - (e - 1023)))
          rw [Nat.pow_succ, Nat.mul_assoc, Nat.mul_comm 2, ← Nat.mul_assoc, hp]
          omega
        have hl := log2_is hlo hhi
        unfold bitsT
        have hn : n ≠ 0 := by have := Nat.two_pow_pos (e - 1023); omega
        rw [if_neg hn, hl, hdiv]
        have hq : b / 4503599627370496 = e := by omega
        exact lin_c b e _ hq (by omega) rfl
end Nd
end Go.Proofs.YtbajkglacfheiaaGreatDoor

