/-
  Which floats are times, by the code's own tests: what is cut off, less than nought, more than the greatest.
-/
import Derived.Test.YtbajkglacfheiaaGreatDoorFtA
namespace Go.Proofs.YtbajkglacfheiaaGreatDoor
set_option linter.unusedVariables false
namespace Nd
open Ieee

/-- the whole part of a float -/
def truncB (b : Nat) : Nat := double.write ((double.read b).integral .zero)
theorem read_word {k f : Nat} (hk : k ≤ 52) (hf : f < 4503599627370496) : double.read ((1023 + k) * 4503599627370496 + f) = .number false (4503599627370496 + f) ((k : Int) - 52) := by
  have h1 : 1023 * 4503599627370496 ≤ (1023 + k) * 4503599627370496 := Nat.mul_le_mul_right _ (by omega)
  have h2 : (1023 + k) * 4503599627370496 ≤ 1075 * 4503599627370496 := Nat.mul_le_mul_right _ (by omega)
  have hm : ((1023 + k) * 4503599627370496 + f) % 9223372036854775808 = (1023 + k) * 4503599627370496 + f := Nat.mod_eq_of_lt (by omega)
  have hd : ((1023 + k) * 4503599627370496 + f) / 9223372036854775808 = 0 := Nat.div_eq_of_lt (by omega)
  have hr : ((1023 + k) * 4503599627370496 + f) % 4503599627370496 = f := by
    rw [Nat.add_comm, Nat.add_mul_mod_self_right, Nat.mod_eq_of_lt hf]
  have hq : ((1023 + k) * 4503599627370496 + f) / 4503599627370496 = 1023 + k := by
    rw [Nat.add_comm, Nat.add_mul_div_right _ _ (by omega), Nat.div_eq_of_lt hf, Nat.zero_add]
  unfold Format.read
  simp only [sw, ir, bn, lp, hm, hd, hr, hq]
  rw [if_neg (by omega), if_pos (by omega)]
  have e : (-1074 + ((1023 + k - 1 : Nat) : Int)) = (k : Int) - 52 := by omega
  rw [e]
  rfl
theorem read_bitsT {n : Nat} (hn : n ≠ 0) (h : n < 9007199254740992) : double.read (bitsT n) = .number false (n * 2 ^ (52 - n.log2)) ((n.log2 : Int) - 52) := by
  obtain ⟨k, f, hk, hl, hf, hm, hb⟩ := bitsT_form hn h
  rw [hb, read_word hk hf, hl, hm]
theorem cut_pow {m j : Nat} (hj : j ≤ m.log2 + 2) : Toward.zero.cut false m j = m / 2 ^ j := by
  unfold Toward.cut
  have h : min j (m.log2 + 2) = j := by omega
  rw [h]
  simp [Nat.shiftLeft_eq]
theorem cut_low {m j : Nat} (h : m < 2 ^ j) : Toward.zero.cut false m j = 0 := by
  unfold Toward.cut
  have hlt : m < 2 ^ (min j (m.log2 + 2)) := by
    by_cases hj : j ≤ m.log2 + 2
    · rw [Nat.min_eq_left hj]
      exact h
    · rw [Nat.min_eq_right (by omega)]
      exact Nat.lt_trans Nat.lt_log2_self (Nat.pow_lt_pow_right (by omega) (by omega))
  simp [Nat.shiftLeft_eq, Nat.div_eq_of_lt hlt]
/-- the whole part of a word of a given rung -/
theorem trunc_word {k f : Nat} (hk : k ≤ 52) (hf : f < 4503599627370496) : (double.read ((1023 + k) * 4503599627370496 + f)).integral .zero = .number false ((4503599627370496 + f) / 2 ^ (52 - k)) 0 := by
  rw [read_word hk hf]
  have e1 : ((k : Int) - 52).toNat = 0 := by omega
  have e2 : (-((k : Int) - 52)).toNat = 52 - k := by omega
  have hl : (4503599627370496 + f).log2 = 52 := log2_is (by simp) (by simp; omega)
  show Datum.number false (Toward.zero.cut false ((4503599627370496 + f) <<< ((k : Int) - 52).toNat) (-((k : Int) - 52)).toNat) 0 = _
  rw [e1, e2, Nat.shiftLeft_zero, cut_pow (by rw [hl]; omega)]
theorem whole_bds {k f : Nat} (hk : k ≤ 52) (hf : f < 4503599627370496) : 2 ^ k ≤ (4503599627370496 + f) / 2 ^ (52 - k) ∧ (4503599627370496 + f) / 2 ^ (52 - k) < 2 ^ (k + 1) := by
  have hp := pow_split hk
  constructor
  · rw [Nat.le_div_iff_mul_le (Nat.two_pow_pos _), hp]
    omega
  · rw [Nat.div_lt_iff_lt_mul (Nat.two_pow_pos _), Nat.pow_succ, Nat.mul_assoc, Nat.mul_comm 2, ← Nat.mul_assoc, hp]
    omega
theorem order_same (a c : Nat) (p : Int) : Datum.order (.number false a p) (.number false c p) = some (compare (a : Int) (c : Int)) := by
  unfold Datum.order signed
  simp
theorem cmp_gt {a b : Int} (h : b < a) : compare a b = .gt := by
  unfold compare instOrdInt compareOfLessAndEq
  simp only
  rw [if_neg (by omega), if_neg (by omega)]
theorem cmp_lt {a b : Int} (h : a < b) : compare a b = .lt := by
  unfold compare instOrdInt compareOfLessAndEq
  simp only
  rw [if_pos h]
theorem cmp_le {a b : Int} (h : a ≤ b) : compare a b ≠ .gt := by
  rcases Int.lt_or_eq_of_le h with h | h
  · rw [cmp_lt h]
    decide
  · rw [h]
    simp
theorem read_zero : double.read 0 = .number false 0 (-1074) := by decide
theorem read_top : double.read 4845873199050653695 = .number false 9007199254740991 0 := by decide
theorem pos_zero {m : Nat} {p : Int} (hm : m ≠ 0) : Datum.order (.number false m p) (.number false 0 (-1074)) = some .gt := by
  unfold Datum.order signed
  have hs : m <<< (p - min p (-1074)).toNat ≠ 0 := by
    rw [Nat.shiftLeft_eq]
    exact Nat.mul_ne_zero hm (Nat.pos_iff_ne_zero.1 (Nat.two_pow_pos _))
  simp only [Bool.false_eq_true, if_false, Nat.zero_shiftLeft]
  generalize m <<< (p - min p (-1074)).toNat = q at hs
  rw [cmp_gt (by omega)]
/-- a float that says a time passes the code's tests -/
theorem time_good {b : Nat} (hb : b < 18446744073709551616) (h : 0 ≤ timeD b) : truncB b = b ∧ double.order b b = some .eq ∧ (double.order b 0 == some .lt) = false ∧ (double.order b 4845873199050653695 == some .gt) = false ∧ floatToIntVal .f64 b .i64 = some (timeD b) := by
  have hlt := @timeD_lt b
  have hbt := bits_timeD hb h
  obtain ⟨n, hn⟩ : ∃ n : Nat, timeD b = (n : Int) := ⟨(timeD b).toNat, by omega⟩
  rw [hn] at hbt hlt ⊢
  rw [Int.toNat_natCast] at hbt
  subst hbt
  clear hb h hn
  have hn9 : n < 9007199254740992 := by omega
  by_cases h0 : n = 0
  · subst h0
    have e0 : bitsT 0 = 0 := rfl
    rw [e0]
    exact ⟨by decide, by decide, by decide, by decide, by decide⟩
  · obtain ⟨k, f, hk, hl, hf, hm, hbf⟩ := bitsT_form h0 hn9
    have hq : (4503599627370496 + f) / 2 ^ (52 - k) = n := by rw [← hm, Nat.mul_div_cancel _ (Nat.two_pow_pos _)]
    have hi : (double.read (bitsT n)).integral .zero = .number false n 0 := by rw [hbf, trunc_word hk hf, hq]
    have hr : double.read (bitsT n) = .number false (4503599627370496 + f) ((k : Int) - 52) := by rw [hbf, read_word hk hf]
    refine ⟨?_, ?_, ?_, ?_, ?_⟩
    · unfold truncB
      rw [hi, write_time hn9]
    · unfold Format.order
      rw [hr, order_same]
      simp
    · unfold Format.order
      rw [hr, read_zero, pos_zero (by omega)]
      rfl
    · unfold Format.order
      rw [hr, read_top]
      unfold Datum.order signed
      have e1 : min ((k : Int) - 52) 0 = (k : Int) - 52 := by omega
      have e2 : ((k : Int) - 52 - ((k : Int) - 52)).toNat = 0 := by omega
      have e3 : ((0 : Int) - ((k : Int) - 52)).toNat = 52 - k := by omega
      simp only [e1, e2, e3, Bool.false_eq_true, if_false, Nat.shiftLeft_zero]
      have hle : 4503599627370496 + f ≤ 9007199254740991 <<< (52 - k) := by
        rw [Nat.shiftLeft_eq, ← hm]
        exact Nat.mul_le_mul_right _ (by omega)
      have := cmp_le (a := ((4503599627370496 + f : Nat) : Int)) (b := ((9007199254740991 <<< (52 - k) : Nat) : Int)) (by omega)
      simpa using this
    · unfold floatToIntVal
      have ht : (FloatKind.f64.decode (bitsT n)).toInt .zero = some ((n : Nat) : Int) := by
        show Datum.toInt .zero (double.read (bitsT n)) = _
        unfold Datum.toInt
        rw [hi]
        simp [signed]
      rw [ht]
      show (if IntKind.i64.min ≤ (n : Int) ∧ (n : Int) ≤ IntKind.i64.max then some (n : Int) else none) = _
      rw [if_pos]
      have e1 : IntKind.i64.min = -9223372036854775808 := by decide
      have e2 : IntKind.i64.max = 9223372036854775807 := by decide
      rw [e1, e2]
      omega
/-- a finite float, no minus nought, that says no time falls at one of the code's tests -/
theorem time_bad {b : Nat} (hb : b < 18446744073709551616) (hz : b ≠ 9223372036854775808) (hf : finB b = true) (h : timeD b < 0) : (double.order (truncB b) b == some .eq) = false ∨ (double.order b 0 == some .lt) = true ∨ (double.order b 4845873199050653695 == some .gt) = true := by
  have hfin : b % 9223372036854775808 < 9218868437227405312 := of_decide_eq_true hf
  have h0 : b ≠ 0 := by
    intro e
    subst e
    exact absurd h (by decide)
  unfold timeD at h
  rw [if_neg h0] at h
  by_cases hs : b / 9223372036854775808 % 2 = 1
  · refine .inr (.inl ?_)
    obtain ⟨m, p, e, hm, hp, _⟩ := read_fin hfin
    have hb2 : b % 9223372036854775808 ≠ 0 := by omega
    have hm0 : m ≠ 0 := fun x => hb2 (hm.1 x)
    have hsg : (b / 9223372036854775808 % 2 == 1) = true := by rw [hs]; rfl
    unfold Format.order
    rw [e, hsg, read_zero]
    unfold Datum.order signed
    have hsh : m <<< (p - min p (-1074)).toNat ≠ 0 := by
      rw [Nat.shiftLeft_eq]
      exact Nat.mul_ne_zero hm0 (Nat.pos_iff_ne_zero.1 (Nat.two_pow_pos _))
    simp only [if_true, Bool.false_eq_true, if_false, Nat.zero_shiftLeft]
    generalize m <<< (p - min p (-1074)).toNat = q at hsh
    rw [cmp_lt (by omega)]
    rfl
  · have hb63 : b < 9223372036854775808 := by omega
    have hmod : b % 9223372036854775808 = b := Nat.mod_eq_of_lt hb63
    have hsg : (b / 9223372036854775808 % 2 == 1) = false := by rw [Nat.div_eq_of_lt hb63]; rfl
    rw [hmod] at hfin
    obtain ⟨E, F, hF, hbE⟩ : ∃ E F, F < 4503599627370496 ∧ b = E * 4503599627370496 + F := ⟨b / 4503599627370496, b % 4503599627370496, Nat.mod_lt _ (by omega), by have := Nat.div_add_mod b 4503599627370496; omega⟩
    have hEd : b / 4503599627370496 = E := by
      rw [hbE, Nat.add_comm, Nat.add_mul_div_right _ _ (by omega), Nat.div_eq_of_lt hF, Nat.zero_add]
    have hEr : b % 4503599627370496 = F := by
      rw [hbE, Nat.add_comm, Nat.add_mul_mod_self_right, Nat.mod_eq_of_lt hF]
    have hE : E < 2047 := by
      apply Classical.byContradiction
      intro hc
      have : 2047 * 4503599627370496 ≤ E * 4503599627370496 := Nat.mul_le_mul_right _ (by omega)
      omega
    have hEm : E % 2048 = E := Nat.mod_eq_of_lt (by omega)
    rw [hEd, hEr, hEm] at h
    by_cases h1 : E < 1023
    · refine .inl ?_
      have hb1 : b < 1023 * 4503599627370496 := by
        have : E * 4503599627370496 ≤ 1022 * 4503599627370496 := Nat.mul_le_mul_right _ (by omega)
        omega
      obtain ⟨m, p, e, hm, hp, hc⟩ := read_fin (b := b) (by rw [hmod]; exact hfin)
      rw [hmod] at hm hc
      rw [hsg] at e
      have hm0 : m ≠ 0 := fun x => h0 (hm.1 x)
      have hpp : p ≤ -53 ∧ m < 9007199254740992 := by
        rcases hc with hc | hc
        · omega
        · refine ⟨?_, hc.1⟩
          unfold Format.read at e
          simp only [sw, ir, bn, lp, hmod, hEd, hEr] at e
          split at e
          · injection e with _ _ e3
            omega
          · injection e with _ _ e3
            omega
      have hi : (double.read b).integral .zero = .number false 0 0 := by
        rw [e]
        have e1 : p.toNat = 0 := by omega
        show Datum.number false (Toward.zero.cut false (m <<< p.toNat) (-p).toNat) 0 = _
        rw [e1, Nat.shiftLeft_zero, cut_low]
        calc m < 2 ^ 53 := by have := hpp.2; omega
          _ ≤ 2 ^ (-p).toNat := Nat.pow_le_pow_right (by omega) (by omega)
      have ht : truncB b = 0 := by
        unfold truncB
        rw [hi, write_zero]
        rfl
      rw [ht]
      unfold Format.order
      rw [e, read_zero]
      unfold Datum.order signed
      have hsh : m <<< (p - min (-1074) p).toNat ≠ 0 := by
        rw [Nat.shiftLeft_eq]
        exact Nat.mul_ne_zero hm0 (Nat.pos_iff_ne_zero.1 (Nat.two_pow_pos _))
      simp only [Bool.false_eq_true, if_false, Nat.zero_shiftLeft]
      generalize m <<< (p - min (-1074) p).toNat = q at hsh
      rw [cmp_lt (by omega)]
      rfl
    · by_cases h2 : 1075 < E
      · refine .inr (.inr ?_)
        have hr : double.read b = .number false (4503599627370496 + F) ((E : Int) - 1075) := by
          unfold Format.read
          simp only [sw, ir, bn, lp, hmod, hEd, hEr, hsg]
          have : 1023 * 4503599627370496 ≤ E * 4503599627370496 := Nat.mul_le_mul_right _ (by omega)
          rw [if_neg (by omega), if_pos hfin]
          have : (-1074 + ((E - 1 : Nat) : Int)) = (E : Int) - 1075 := by omega
          rw [this]
        unfold Format.order
        rw [hr, read_top]
        unfold Datum.order signed
        have e1 : min ((E : Int) - 1075) 0 = 0 := by omega
        simp only [e1, Bool.false_eq_true, if_false, Int.sub_zero, Int.toNat_zero, Nat.shiftLeft_zero]
        have hsh : 9007199254740992 ≤ (4503599627370496 + F) <<< ((E : Int) - 1075).toNat := by
          rw [Nat.shiftLeft_eq]
          have : 2 ^ 1 ≤ 2 ^ ((E : Int) - 1075).toNat := Nat.pow_le_pow_right (by omega) (by omega)
          calc 9007199254740992 = 4503599627370496 * 2 ^ 1 := by rfl
            _ ≤ (4503599627370496 + F) * 2 ^ ((E : Int) - 1075).toNat := Nat.mul_le_mul (by omega) this
        rw [cmp_gt (by omega)]
        rfl
      · refine .inl ?_
        obtain ⟨k, hk, rfl⟩ : ∃ k, k ≤ 52 ∧ E = 1023 + k := ⟨E - 1023, by omega, by omega⟩
        rw [if_neg (by omega)] at h
        have hx : 1075 - (1023 + k) = 52 - k := by omega
        rw [hx] at h
        have hne : (F + 4503599627370496) % 2 ^ (52 - k) ≠ 0 := by
          intro hc
          rw [if_neg (fun h => h hc)] at h
          have := Int.natCast_nonneg ((F + 4503599627370496) / 2 ^ (52 - k))
          omega
        obtain ⟨a, c⟩ := whole_bds hk hF
        generalize hn : (4503599627370496 + F) / 2 ^ (52 - k) = n at a c
        have hnb : n < 9007199254740992 := by
          have : 2 ^ (k + 1) ≤ 2 ^ 53 := Nat.pow_le_pow_right (by omega) (by omega)
          omega
        have hn0 : n ≠ 0 := by have := Nat.two_pow_pos k; omega
        have hi : truncB b = bitsT n := by
          unfold truncB
          rw [hbE, trunc_word hk hF, hn, write_time hnb]
        have hlk : n.log2 = k := log2_is a c
        have hrd := read_bitsT hn0 hnb
        rw [hlk] at hrd
        rw [hi]
        unfold Format.order
        rw [hrd, hbE, read_word hk hF, order_same]
        have hneq : n * 2 ^ (52 - k) ≠ 4503599627370496 + F := by
          intro hc
          apply hne
          rw [Nat.add_comm, ← hc, Nat.mul_mod_left]
        rcases Nat.lt_or_gt_of_ne hneq with h | h
        · rw [cmp_lt (by omega)]
          rfl
        · rw [cmp_gt (by omega)]
          rfl
end Nd
end Go.Proofs.YtbajkglacfheiaaGreatDoor

