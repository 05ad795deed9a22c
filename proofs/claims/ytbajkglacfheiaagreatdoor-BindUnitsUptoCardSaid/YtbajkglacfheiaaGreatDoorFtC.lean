/-
  Floats in plain terms: what is written of a number that a float has; a float's number in units of the least one; whole numbers.
-/
import Derived.Test.YtbajkglacfheiaaGreatDoorFtB
namespace Go.Proofs.YtbajkglacfheiaaGreatDoor
set_option linter.unusedVariables false
set_option linter.unusedSimpArgs false
namespace Nd
open Ieee

/-- m times 2 to the p is M times 2 to the L -/
def SameV (m : Nat) (p : Int) (M : Nat) (L : Int) : Prop := m * 2 ^ (p - min p L).toNat = M * 2 ^ (L - min p L).toNat
/-- a magnitude and its place as a finite float has them -/
structure Canon (M : Nat) (L : Int) : Prop where
  hi : M < 9007199254740992
  lo : 4503599627370496 ≤ M ∨ L = -1074
  l1 : -1074 ≤ L
  l2 : L ≤ 971
theorem log2_shift {n : Nat} (hn : n ≠ 0) (k : Nat) : (n * 2 ^ k).log2 = n.log2 + k := by
  obtain ⟨a, b⟩ := log2_of hn
  apply log2_is
  · rw [Nat.pow_add]
    exact Nat.mul_le_mul_right _ a
  · have e : n.log2 + k + 1 = (n.log2 + 1) + k := by omega
    rw [e, Nat.pow_add]
    exact Nat.mul_lt_mul_of_pos_right b (Nat.two_pow_pos _)
theorem cut_even_pow {M : Nat} (hM : M ≠ 0) (d : Nat) (s : Bool) : Toward.even.cut s (M * 2 ^ d) d = M := by
  unfold Toward.cut
  have h : min d ((M * 2 ^ d).log2 + 2) = d := by rw [log2_shift hM]; omega
  have hp := Nat.two_pow_pos d
  rw [h]
  have e1 : (1 <<< d : Nat) = 2 ^ d := by rw [Nat.shiftLeft_eq, Nat.one_mul]
  have e2 : M * 2 ^ d % 2 ^ d = 0 := Nat.mul_mod_left _ _
  have e3 : M * 2 ^ d / 2 ^ d = M := Nat.mul_div_cancel _ hp
  rw [e1]
  simp only [e2, e3, Nat.mul_zero]
  have e4 : (2 ^ d == 0) = false := by rw [beq_eq_false_iff_ne]; omega
  have e5 : decide (2 ^ d < 0) = false := decide_eq_false (by omega)
  rw [e4, e5]
  rfl
theorem same_ne {m M : Nat} {p L : Int} (h : SameV m p M L) (hM : M ≠ 0) : m ≠ 0 := by
  intro e
  subst e
  unfold SameV at h
  rw [Nat.zero_mul] at h
  exact Nat.mul_ne_zero hM (Nat.pos_iff_ne_zero.1 (Nat.two_pow_pos (L - min p L).toNat)) h.symm
theorem rung_lt {E M : Nat} (hE : E ≤ 2045) (h1 : M < 9007199254740992) : E * 4503599627370496 + M < 9218868437227405312 := by
  have := Nat.mul_le_mul_right 4503599627370496 hE
  omega
theorem lin_1 (M : Nat) (h : ¬ M < 4503599627370496) : 4503599627370496 + (M - 4503599627370496) = M := by omega
theorem lin_2 (E F : Nat) : E * 4503599627370496 + 4503599627370496 + F = E * 4503599627370496 + (4503599627370496 + F) := by omega
theorem near_eq {M : Nat} {L : Int} (hc : Canon M L) (hM : M ≠ 0) {m : Nat} {p : Int} (h : SameV m p M L) (s : Bool) : double.nearest s m p = double.word s ((L + 1074).toNat * 4503599627370496 + M) := by
  obtain ⟨h1, h2, h3, h4⟩ := hc
  have hm := same_ne h hM
  have hlog : p + (m.log2 : Int) = L + (M.log2 : Int) := by
    have e := congrArg Nat.log2 h
    rw [log2_shift hm, log2_shift hM] at e
    omega
  have hlast : max (p + (m.log2 : Int) - ((52 : Nat) : Int)) (-1074) = L := by
    rw [hlog]
    rcases h2 with h2 | h2
    · have e : M.log2 = 52 := log2_is (by simpa using h2) (by simpa using h1)
      rw [e]
      omega
    · have := log_lt hM h1
      omega
  have hk : Toward.even.cut s (m <<< (p - L).toNat) (L - p).toNat = M := by
    rw [Nat.shiftLeft_eq]
    unfold SameV at h
    rcases Int.le_total L p with hle | hle
    · have e1 : min p L = L := by omega
      rw [e1] at h
      have e2 : (L - L).toNat = 0 := by omega
      have e3 : (L - p).toNat = 0 := by omega
      rw [e2, Nat.pow_zero, Nat.mul_one] at h
      rw [h, e3, cut_none]
    · have e1 : min p L = p := by omega
      rw [e1] at h
      have e2 : (p - p).toNat = 0 := by omega
      have e3 : (p - L).toNat = 0 := by omega
      rw [e2, Nat.pow_zero, Nat.mul_one] at h
      rw [e3, Nat.pow_zero, Nat.mul_one, h]
      exact cut_even_pow hM _ s
  unfold Format.nearest
  rw [if_neg hm]
  simp only [lp, bn, ir, fb]
  rw [hlast, hk]
  have e4 : L - -1074 = L + 1074 := by omega
  rw [e4, Nat.min_eq_left]
  have e5 : (L + 1074).toNat ≤ 2045 := by omega
  exact Nat.le_of_lt (rung_lt e5 h1)
theorem word_true (r : Nat) : double.word true r = 9223372036854775808 + r := by
  unfold Format.word
  rw [sw, if_pos rfl]
theorem word_false (r : Nat) : double.word false r = r := by
  unfold Format.word
  rw [if_neg (by simp)]
theorem word_parts (s : Bool) {r : Nat} (hr : r < 9223372036854775808) : (double.word s r / 9223372036854775808 % 2 == 1) = s ∧ double.word s r % 9223372036854775808 = r := by
  cases s
  · rw [word_false, Nat.div_eq_of_lt hr]
    exact ⟨rfl, Nat.mod_eq_of_lt hr⟩
  · rw [word_true]
    have e1 : (9223372036854775808 + r) / 9223372036854775808 = 1 := by omega
    have e2 : (9223372036854775808 + r) % 9223372036854775808 = r := by omega
    rw [e1, e2]
    exact ⟨rfl, rfl⟩
theorem read_canon {M : Nat} {L : Int} (hc : Canon M L) (s : Bool) : double.read (double.word s ((L + 1074).toNat * 4503599627370496 + M)) = .number s M L := by
  obtain ⟨h1, h2, h3, h4⟩ := hc
  obtain ⟨E, hE⟩ : ∃ E : Nat, L = -1074 + (E : Int) := ⟨(L + 1074).toNat, by omega⟩
  subst hE
  have e0 : (-1074 + (E : Int) + 1074).toNat = E := by omega
  rw [e0]
  have hr := rung_lt (E := E) (by omega) h1
  obtain ⟨w1, w2⟩ := word_parts s (r := E * 4503599627370496 + M) (by omega)
  unfold Format.read
  simp only [sw, ir, bn, lp, w1, w2]
  by_cases hlo : M < 4503599627370496
  · have : E = 0 := by omega
    subst this
    rw [if_pos (by omega)]
    simp
  · have hge : 4503599627370496 ≤ E * 4503599627370496 + M := by omega
    rw [if_neg (by omega), if_pos hr]
    have e1 : E * 4503599627370496 + M = (M - 4503599627370496) + (E + 1) * 4503599627370496 := by
      rw [Nat.add_mul, Nat.one_mul]
      omega
    have e2 : (E * 4503599627370496 + M) / 4503599627370496 = E + 1 := by
      rw [e1, Nat.add_mul_div_right _ _ (by omega), Nat.div_eq_of_lt (by omega), Nat.zero_add]
    have e3 : (E * 4503599627370496 + M) % 4503599627370496 = M - 4503599627370496 := by
      rw [e1, Nat.add_mul_mod_self_right, Nat.mod_eq_of_lt (by omega)]
    have e4 : E + 1 - 1 = E := by omega
    rw [e2, e3, lin_1 M hlo, e4]
theorem read_form {b : Nat} (hb : b < 18446744073709551616) (hf : finB b = true) : ∃ s M L, double.read b = .number s M L ∧ Canon M L ∧ b = double.word s ((L + 1074).toNat * 4503599627370496 + M) := by
  have hfin : b % 9223372036854775808 < 9218868437227405312 := of_decide_eq_true hf
  obtain ⟨r, hr⟩ : ∃ r, b % 9223372036854775808 = r := ⟨_, rfl⟩
  have hword : b = double.word (b / 9223372036854775808 % 2 == 1) r := by
    by_cases hs : b < 9223372036854775808
    · have e : (b / 9223372036854775808 % 2 == 1) = false := by rw [Nat.div_eq_of_lt hs]; rfl
      rw [e, word_false]
      omega
    · have e1 : b / 9223372036854775808 = 1 := by omega
      have e : (b / 9223372036854775808 % 2 == 1) = true := by rw [e1]; rfl
      rw [e, word_true]
      omega
  rw [hr] at hfin
  generalize (b / 9223372036854775808 % 2 == 1) = s at hword
  by_cases h1 : r < 4503599627370496
  · have hc : Canon r (-1074) := ⟨by omega, .inr rfl, by omega, by omega⟩
    have hb2 : b = double.word s ((-1074 + 1074 : Int).toNat * 4503599627370496 + r) := by
      rw [hword]
      simp
    refine ⟨s, r, -1074, ?_, hc, hb2⟩
    rw [hb2]
    exact read_canon hc s
  · obtain ⟨E, F, hF, hrE⟩ : ∃ E F, F < 4503599627370496 ∧ r = (E + 1) * 4503599627370496 + F := by
      refine ⟨r / 4503599627370496 - 1, r % 4503599627370496, Nat.mod_lt _ (by omega), ?_⟩
      have h2 : 1 ≤ r / 4503599627370496 := by omega
      have h3 := Nat.div_add_mod r 4503599627370496
      have h4 : r / 4503599627370496 - 1 + 1 = r / 4503599627370496 := by omega
      rw [h4]
      omega
    have hE : E ≤ 2045 := by
      apply Classical.byContradiction
      intro hc
      have : 2047 * 4503599627370496 ≤ (E + 1) * 4503599627370496 := Nat.mul_le_mul_right _ (by omega)
      omega
    have hc : Canon (4503599627370496 + F) (-1074 + (E : Int)) := ⟨by omega, .inl (by omega), by omega, by omega⟩
    have hb2 : b = double.word s ((-1074 + (E : Int) + 1074).toNat * 4503599627370496 + (4503599627370496 + F)) := by
      have e0 : (-1074 + (E : Int) + 1074).toNat = E := by omega
      rw [e0, hword, hrE, Nat.add_mul, Nat.one_mul, lin_2]
    refine ⟨s, _, _, ?_, hc, hb2⟩
    rw [hb2]
    exact read_canon hc s
theorem word_zero_fin (s : Bool) : finB (double.word s 0) = true := by cases s <;> decide
/-- of a number that a float has, that float is written -/
theorem write_same {b : Nat} (hb : b < 18446744073709551616) {s : Bool} {M : Nat} {L : Int} (hf : finB b = true) (hr : double.read b = .number s M L) (hM : M ≠ 0) {m : Nat} {p : Int} (h : SameV m p M L) : double.write (.number s m p) = b := by
  obtain ⟨s', M', L', hr', hc, hb2⟩ := read_form hb hf
  rw [hr] at hr'
  injection hr' with e1 e2 e3
  subst e1 e2 e3
  show double.nearest s m p = b
  rw [near_eq hc hM h s, ← hb2]
theorem same_self (M : Nat) (L : Int) : SameV M L M L := rfl
theorem same_low {m M : Nat} {p L : Int} (hp : -1074 ≤ p) (hL : -1074 ≤ L) (h : m * 2 ^ (p + 1074).toNat = M * 2 ^ (L + 1074).toNat) : SameV m p M L := by
  unfold SameV
  have e1 : (p + 1074).toNat = (p - min p L).toNat + (min p L + 1074).toNat := by omega
  have e2 : (L + 1074).toNat = (L - min p L).toNat + (min p L + 1074).toNat := by omega
  rw [e1, e2, Nat.pow_add, Nat.pow_add, ← Nat.mul_assoc, ← Nat.mul_assoc] at h
  exact Nat.eq_of_mul_eq_mul_right (Nat.two_pow_pos _) h
theorem low_same {m M : Nat} {p L : Int} (hp : -1074 ≤ p) (hL : -1074 ≤ L) (h : SameV m p M L) : m * 2 ^ (p + 1074).toNat = M * 2 ^ (L + 1074).toNat := by
  unfold SameV at h
  have e1 : (p + 1074).toNat = (p - min p L).toNat + (min p L + 1074).toNat := by omega
  have e2 : (L + 1074).toNat = (L - min p L).toNat + (min p L + 1074).toNat := by omega
  rw [e1, e2, Nat.pow_add, Nat.pow_add, ← Nat.mul_assoc, ← Nat.mul_assoc, h]

/-! ### a float's number, in units of the least one -/
def magV (m : Nat) (p : Int) : Nat := m * 2 ^ (p + 1074).toNat
def valV (s : Bool) (m : Nat) (p : Int) : Int := if s then -((magV m p : Nat) : Int) else ((magV m p : Nat) : Int)
def valB (b : Nat) : Int := match double.read b with
  | .number s m p => valV s m p
  | _ => 0
theorem valB_of {b : Nat} {s : Bool} {m : Nat} {p : Int} (h : double.read b = .number s m p) : valB b = valV s m p := by
  unfold valB
  rw [h]
theorem signed_eq (s : Bool) (m u : Nat) : signed s m u = if s then -((m * 2 ^ u : Nat) : Int) else ((m * 2 ^ u : Nat) : Int) := by
  unfold signed
  rw [Nat.shiftLeft_eq]
theorem signed_val (s : Bool) (m : Nat) (p B : Int) (hB : B ≤ p) (hl : -1074 ≤ B) : signed s m (p - B).toNat * ((2 ^ (B + 1074).toNat : Nat) : Int) = valV s m p := by
  have e : (p + 1074).toNat = (p - B).toNat + (B + 1074).toNat := by omega
  have e2 : m * 2 ^ (p - B).toNat * 2 ^ (B + 1074).toNat = magV m p := by
    unfold magV
    rw [e, Nat.pow_add, Nat.mul_assoc]
  rw [signed_eq]
  unfold valV
  rw [← e2]
  cases s
  · simp only [Bool.false_eq_true, if_false]
    rw [← Int.natCast_mul]
  · simp only [if_true]
    rw [Int.neg_mul, ← Int.natCast_mul]
theorem cmp_scale {a b : Int} {k : Int} (hk : 0 < k) : compare (a * k) (b * k) = compare a b := by
  rcases Int.lt_trichotomy a b with h | h | h
  · rw [cmp_lt h, cmp_lt (Int.mul_lt_mul_of_pos_right h hk)]
  · rw [h]
    simp
  · rw [cmp_gt h, cmp_gt (Int.mul_lt_mul_of_pos_right h hk)]
theorem order_val {b c : Nat} (hb : b < 18446744073709551616) (hc : c < 18446744073709551616) (fb : finB b = true) (fc : finB c = true) : double.order b c = some (compare (valB b) (valB c)) := by
  obtain ⟨s, M, L, r1, c1, _⟩ := read_form hb fb
  obtain ⟨t, N, K, r2, c2, _⟩ := read_form hc fc
  have l1 := c1.l1
  have l2 := c2.l1
  rw [valB_of r1, valB_of r2]
  unfold Format.order
  rw [r1, r2]
  unfold Datum.order
  simp only
  rw [← signed_val s M L (min L K) (by omega) (by omega), ← signed_val t N K (min L K) (by omega) (by omega), cmp_scale]
  have := Nat.two_pow_pos (min L K + 1074).toNat
  omega
theorem val_zero {b : Nat} (hb : b < 18446744073709551616) (hf : finB b = true) : valB b = 0 ↔ b % 9223372036854775808 = 0 := by
  obtain ⟨s, M, L, r1, c1, hw⟩ := read_form hb hf
  rw [valB_of r1]
  have hr := rung_lt (E := (L + 1074).toNat) (M := M) (by have := c1.l1; have := c1.l2; omega) c1.hi
  obtain ⟨w1, w2⟩ := word_parts s (r := (L + 1074).toNat * 4503599627370496 + M) (by omega)
  rw [← hw] at w2
  rw [w2]
  have hpos := Nat.two_pow_pos (L + 1074).toNat
  have hv : valV s M L = 0 ↔ M = 0 := by
    unfold valV magV
    constructor
    · intro h
      apply Classical.byContradiction
      intro hM
      have := Nat.mul_ne_zero hM (Nat.pos_iff_ne_zero.1 hpos)
      cases s
      · simp only [Bool.false_eq_true, if_false] at h
        omega
      · simp only [if_true] at h
        omega
    · intro h
      subst h
      cases s <;> simp
  rw [hv]
  constructor
  · intro h
    subst h
    rcases c1.lo with h | h
    · omega
    · rw [h]
      simp
  · omega
/-- two finite floats with one number are one, but for the sign of nought -/
theorem val_inj {b c : Nat} (hb : b < 18446744073709551616) (hc : c < 18446744073709551616) (fb : finB b = true) (fc : finB c = true) (h : valB b = valB c) (h0 : valB b ≠ 0) : b = c := by
  obtain ⟨s, M, L, r1, c1, hw1⟩ := read_form hb fb
  obtain ⟨t, N, K, r2, c2, hw2⟩ := read_form hc fc
  rw [valB_of r1] at h h0
  rw [valB_of r2] at h
  have hst : s = t ∧ magV M L = magV N K ∧ magV M L ≠ 0 := by
    unfold valV at h h0
    cases s <;> cases t <;> simp only [Bool.false_eq_true, if_false, if_true] at h h0 <;> refine ⟨by first | rfl | (exfalso; omega), by omega, by omega⟩
  obtain ⟨rfl, hm, hm0⟩ := hst
  have hM : M ≠ 0 := by
    rintro rfl
    unfold magV at hm0
    simp at hm0
  have e := write_same hb fb r1 hM (m := N) (p := K) (same_low c2.l1 c1.l1 hm.symm)
  have hN : N ≠ 0 := by
    rintro rfl
    unfold magV at hm hm0
    rw [Nat.zero_mul] at hm
    exact hm0 hm
  have e2 := write_same hc fc r2 hN (same_self N K)
  rw [← e, e2]
/-- writing a datum whose number a float has -/
theorem write_val {c : Nat} (hc : c < 18446744073709551616) (fc : finB c = true) (h0 : valB c ≠ 0) {s : Bool} {m : Nat} {p : Int} (hp : -1074 ≤ p) (h : valV s m p = valB c) : double.write (.number s m p) = c := by
  obtain ⟨t, N, K, r2, c2, hw2⟩ := read_form hc fc
  rw [valB_of r2] at h h0
  have hst : s = t ∧ magV m p = magV N K ∧ magV N K ≠ 0 := by
    unfold valV at h h0
    cases s <;> cases t <;> simp only [Bool.false_eq_true, if_false, if_true] at h h0 <;> refine ⟨by first | rfl | (exfalso; omega), by omega, by omega⟩
  obtain ⟨rfl, hm, hm0⟩ := hst
  have hN : N ≠ 0 := by
    rintro rfl
    unfold magV at hm0
    simp at hm0
  exact write_same hc fc r2 hN (same_low hp c2.l1 hm)
theorem write_word_zero (s : Bool) (p : Int) : double.write (.number s 0 p) = double.word s 0 := by
  show double.nearest s 0 p = _
  unfold Format.nearest
  rw [if_pos rfl]
theorem val_word_zero (s : Bool) : valB (double.word s 0) = 0 := (val_zero (by cases s <;> decide) (word_zero_fin s)).2 (by cases s <;> decide)

/-! ### sums -/
theorem add_exact {a b c : Nat} (ha : a < 18446744073709551616) (hb : b < 18446744073709551616) (hc : c < 18446744073709551616) (fa : finB a = true) (fb : finB b = true) (fc : finB c = true) (h : valB a + valB b = valB c) (h0 : valB c ≠ 0) : double.add a b = some c := by
  obtain ⟨s, M, L, r1, c1, _⟩ := read_form ha fa
  obtain ⟨t, N, K, r2, c2, _⟩ := read_form hb fb
  have l1 := c1.l1
  have l2 := c2.l1
  unfold Format.add
  rw [r1, r2]
  unfold Datum.sum
  simp only [Option.map_some]
  congr 1
  have g1 := signed_val s M L (min L K) (by omega) (by omega)
  have g2 := signed_val t N K (min L K) (by omega) (by omega)
  rw [← valB_of r1] at g1
  rw [← valB_of r2] at g2
  generalize signed s M (L - min L K).toNat = x at *
  generalize signed t N (K - min L K).toNat = y at *
  have hk := Nat.two_pow_pos (min L K + 1074).toNat
  have hsum : (x + y) * ((2 ^ (min L K + 1074).toNat : Nat) : Int) = valB c := by rw [Int.add_mul, g1, g2, h]
  have hne : x + y ≠ 0 := by
    intro e
    rw [e, Int.zero_mul] at hsum
    exact h0 hsum.symm
  rw [if_neg hne]
  refine write_val hc fc h0 (by omega) ?_
  rw [← hsum]
  unfold valV magV
  generalize x + y = z at *
  by_cases hz : z < 0
  · rw [decide_eq_true hz, if_pos rfl, Int.natCast_mul, ← Int.neg_mul]
    congr 1
    omega
  · rw [decide_eq_false hz, if_neg (by simp), Int.natCast_mul]
    congr 1
    omega
theorem add_zero_sum {a b : Nat} (ha : a < 18446744073709551616) (hb : b < 18446744073709551616) (fa : finB a = true) (fb : finB b = true) (h : valB a + valB b = 0) (hz : a = 0 ∨ valB a ≠ 0) : double.add a b = some 0 := by
  obtain ⟨s, M, L, r1, c1, _⟩ := read_form ha fa
  obtain ⟨t, N, K, r2, c2, _⟩ := read_form hb fb
  have l1 := c1.l1
  have l2 := c2.l1
  have hst : (s && t) = false := by
    rcases hz with hz | hz
    · subst hz
      rw [read_zero] at r1
      injection r1 with e1
      rw [← e1]
      rfl
    · rw [valB_of r1] at h hz
      rw [valB_of r2] at h
      unfold valV at h hz
      cases s <;> cases t <;> simp only [Bool.false_eq_true, if_false, if_true] at h hz <;> first | rfl | (exfalso; omega)
  unfold Format.add
  rw [r1, r2]
  unfold Datum.sum
  simp only [Option.map_some]
  congr 1
  have g1 := signed_val s M L (min L K) (by omega) (by omega)
  have g2 := signed_val t N K (min L K) (by omega) (by omega)
  rw [← valB_of r1] at g1
  rw [← valB_of r2] at g2
  generalize signed s M (L - min L K).toNat = x at *
  generalize signed t N (K - min L K).toNat = y at *
  have hk := Nat.two_pow_pos (min L K + 1074).toNat
  have hsum : (x + y) * ((2 ^ (min L K + 1074).toNat : Nat) : Int) = 0 := by rw [Int.add_mul, g1, g2, h]
  have hz : x + y = 0 := by
    rcases Int.mul_eq_zero.1 hsum with e | e
    · exact e
    · omega
  rw [hz, if_pos rfl, hst]
  exact write_word_zero false _
end Nd
end Go.Proofs.YtbajkglacfheiaaGreatDoor

