/-
  Floats in plain terms: whole numbers: what is cut off, conversions to and from whole numbers, bounds, sums of whole numbers, products with one and nought.
-/
import Derived.Test.YtbajkglacfheiaaGreatDoorFtC
namespace Go.Proofs.YtbajkglacfheiaaGreatDoor
set_option linter.unusedVariables false
set_option linter.unusedSimpArgs false
namespace Nd
open Ieee

/-- one, in units of the least float -/
def X74 : Nat := 1074
def U : Nat := 2 ^ X74
theorem U_pos : 0 < U := Nat.two_pow_pos X74
theorem magV_nat (q : Nat) : magV q 0 = q * U := by
  have e : ((0 : Int) + 1074).toNat = X74 := by decide
  unfold magV U
  rw [e]
theorem cut_zero_div (s : Bool) (m d : Nat) : Toward.zero.cut s m d = m / 2 ^ d := by
  unfold Toward.cut
  simp only [Nat.shiftLeft_eq, Nat.one_mul]
  have e : m / 2 ^ min d (m.log2 + 2) = m / 2 ^ d := by
    by_cases hd : d ≤ m.log2 + 2
    · rw [Nat.min_eq_left hd]
    · rw [Nat.min_eq_right (by omega)]
      have h1 : m < 2 ^ (m.log2 + 2) := Nat.lt_trans Nat.lt_log2_self (Nat.pow_lt_pow_right (by omega) (by omega))
      have h2 : m < 2 ^ d := Nat.lt_of_lt_of_le h1 (Nat.pow_le_pow_right (by omega) (by omega))
      rw [Nat.div_eq_of_lt h1, Nat.div_eq_of_lt h2]
  rw [e]
  rfl
theorem integral_cases {b : Nat} {s : Bool} {M : Nat} {L : Int} (hr : double.read b = .number s M L) : ∃ q, (double.read b).integral .zero = .number s q 0 ∧ (0 ≤ L → q = M * 2 ^ L.toNat) ∧ (L < 0 → q = M / 2 ^ (-L).toNat) := by
  rw [hr]
  refine ⟨Toward.zero.cut s (M <<< L.toNat) (-L).toNat, rfl, fun h => ?_, fun h => ?_⟩
  · rw [cut_zero_div, Nat.shiftLeft_eq]
    have e : (-L).toNat = 0 := by omega
    rw [e, Nat.pow_zero, Nat.div_one]
  · rw [cut_zero_div, Nat.shiftLeft_eq]
    have e : L.toNat = 0 := by omega
    rw [e, Nat.pow_zero, Nat.mul_one]
theorem x74 : X74 = 1074 := rfl
theorem pow_join {L : Int} (h1 : -1074 ≤ L) (h2 : L < 0) : 2 ^ (-L).toNat * 2 ^ (L + 1074).toNat = U := by
  have e : (-L).toNat + (L + 1074).toNat = X74 := by have := x74; omega
  rw [← Nat.pow_add, e]
  rfl
theorem pow_up {L : Int} (h : 0 ≤ L) : 2 ^ (L + 1074).toNat = 2 ^ L.toNat * U := by
  have e : (L + 1074).toNat = L.toNat + X74 := by have := x74; omega
  rw [e, Nat.pow_add]
  rfl
/-- how the whole part stands to the number -/
theorem part_le {M q : Nat} {L : Int} (hl : -1074 ≤ L) (h1 : 0 ≤ L → q = M * 2 ^ L.toNat) (h2 : L < 0 → q = M / 2 ^ (-L).toNat) : magV M L = q * U + magV M L % U ∧ magV M L / U = q := by
  have hq : magV M L / U = q := by
    by_cases h : 0 ≤ L
    · unfold magV
      rw [pow_up h, ← Nat.mul_assoc, ← h1 h, Nat.mul_div_cancel _ U_pos]
    · unfold magV
      rw [h2 (by omega), ← pow_join hl (by omega), Nat.mul_comm (2 ^ (-L).toNat), ← Nat.div_div_eq_div_mul, Nat.mul_div_cancel _ (Nat.two_pow_pos _)]
  refine ⟨?_, hq⟩
  have := Nat.div_add_mod (magV M L) U
  rw [hq, Nat.mul_comm] at this
  exact this.symm
theorem canon_nat {q : Nat} (hq : q ≠ 0) (h : q < 9007199254740992) : Canon (q * 2 ^ (52 - q.log2)) ((q.log2 : Int) - 52) ∧ SameV q 0 (q * 2 ^ (52 - q.log2)) ((q.log2 : Int) - 52) := by
  obtain ⟨k, f, hk, hl, hf, hm, _⟩ := bitsT_form hq h
  rw [hl, hm]
  refine ⟨⟨by omega, .inl (by omega), by omega, by omega⟩, ?_⟩
  unfold SameV
  have e1 : min (0 : Int) ((k : Int) - 52) = (k : Int) - 52 := by omega
  have e2 : ((0 : Int) - ((k : Int) - 52)).toNat = 52 - k := by omega
  have e3 : ((k : Int) - 52 - ((k : Int) - 52)).toNat = 0 := by omega
  rw [e1, e2, e3, hm, Nat.pow_zero, Nat.mul_one]
theorem write_lt64 (d : Datum) : double.write d < 18446744073709551616 := double.write_lt d
theorem rung_fin {M : Nat} {L : Int} (hc : Canon M L) (s : Bool) : finB (double.word s ((L + 1074).toNat * 4503599627370496 + M)) = true := by
  have hr := rung_lt (E := (L + 1074).toNat) (M := M) (by have := hc.l1; have := hc.l2; omega) hc.hi
  obtain ⟨_, w2⟩ := word_parts s (r := (L + 1074).toNat * 4503599627370496 + M) (by omega)
  unfold finB
  rw [w2]
  exact decide_eq_true hr
/-- a small whole number, written -/
theorem write_small (s : Bool) {q : Nat} (h : q < 9007199254740992) : finB (double.write (.number s q 0)) = true ∧ valB (double.write (.number s q 0)) = valV s q 0 := by
  by_cases hq : q = 0
  · subst hq
    rw [write_word_zero]
    refine ⟨word_zero_fin s, ?_⟩
    rw [val_word_zero]
    unfold valV magV
    rw [Nat.zero_mul]
    cases s <;> rfl
  · obtain ⟨hc, hs⟩ := canon_nat hq h
    have e : double.write (.number s q 0) = _ := near_eq hc (fun e => by
      have := same_ne (m := q * 2 ^ (52 - q.log2)) (p := (q.log2 : Int) - 52) (M := q) (L := 0) (by unfold SameV at hs ⊢; rw [Int.min_comm]; exact hs.symm) hq
      exact this e) hs s
    rw [e]
    refine ⟨rung_fin hc s, ?_⟩
    rw [valB_of (read_canon hc s)]
    unfold valV
    have := low_same (by omega) (by have := hc.l1; omega) hs
    unfold magV
    rw [this]
theorem trunc_val {b : Nat} (hb : b < 18446744073709551616) (hf : finB b = true) {s : Bool} {M : Nat} {L : Int} (hr : double.read b = .number s M L) : finB (truncB b) = true ∧ valB (truncB b) = valV s (magV M L / U) 0 := by
  obtain ⟨s', M', L', hr', hc, hw⟩ := read_form hb hf
  have hr2 := hr
  rw [hr] at hr'
  injection hr' with e1 e2 e3
  subst e1 e2 e3
  obtain ⟨q, hq, h1, h2⟩ := integral_cases hr2
  have hpl := part_le hc.l1 h1 h2
  rw [hpl.2]
  have ht : truncB b = double.write (.number s q 0) := by unfold truncB; rw [hq]
  rw [ht]
  by_cases hL : 0 ≤ L
  · by_cases hM : M = 0
    · have : q = 0 := by rw [h1 hL, hM, Nat.zero_mul]
      rw [this]
      exact write_small s (by omega)
    · have hs : SameV q 0 M L := by
        unfold SameV
        have e1 : min (0 : Int) L = 0 := by omega
        rw [e1, h1 hL]
        have e2 : ((0 : Int) - 0).toNat = 0 := by omega
        rw [e2, Int.sub_zero, Nat.pow_zero, Nat.mul_one]
      rw [write_same hb hf hr2 hM hs]
      refine ⟨hf, ?_⟩
      rw [valB_of hr2]
      have := low_same (by omega) hc.l1 hs
      unfold valV
      have e : magV q 0 = magV M L := this
      rw [e]
  · refine write_small s ?_
    rw [h2 (by omega)]
    exact Nat.lt_of_le_of_lt (Nat.div_le_self _ _) hc.hi
/-- a float is its own whole part just if its number is whole -/
theorem trunc_order {b : Nat} (hb : b < 18446744073709551616) (hf : finB b = true) : (double.order (truncB b) b == some .eq) = decide (valB b % (U : Int) = 0) := by
  obtain ⟨s, M, L, hr, hc, hw⟩ := read_form hb hf
  obtain ⟨t1, t2⟩ := trunc_val hb hf hr
  have t3 : truncB b < 18446744073709551616 := write_lt64 _
  rw [order_val t3 hb t1 hf, t2, valB_of hr]
  have hU := U_pos
  have hd := Nat.div_add_mod (magV M L) U
  have hlt := Nat.mod_lt (magV M L) hU
  have hv : valV s (magV M L / U) 0 = valV s M L ↔ magV M L % U = 0 := by
    unfold valV
    rw [magV_nat, Nat.mul_comm]
    cases s <;> simp only [Bool.false_eq_true, if_false, if_true] <;> omega
  have hm : valV s M L % (U : Int) = 0 ↔ magV M L % U = 0 := by
    unfold valV
    cases s
    · simp only [Bool.false_eq_true, if_false]
      omega
    · simp only [if_true]
      rw [← Int.dvd_iff_emod_eq_zero, Int.dvd_neg, Int.dvd_iff_emod_eq_zero]
      omega
  by_cases h : magV M L % U = 0
  · rw [hv.2 h, decide_eq_true (hm.2 h)]
    simp
  · rw [decide_eq_false (fun x => h (hm.1 x))]
    have hne : valV s (magV M L / U) 0 ≠ valV s M L := fun x => h (hv.1 x)
    rcases Int.lt_or_gt_of_ne hne with h | h
    · rw [cmp_lt h]
      rfl
    · rw [cmp_gt h]
      rfl
theorem order_lt {b c : Nat} (hb : b < 18446744073709551616) (hc : c < 18446744073709551616) (fb : finB b = true) (fc : finB c = true) : (double.order b c == some .lt) = decide (valB b < valB c) := by
  rw [order_val hb hc fb fc]
  rcases Int.lt_trichotomy (valB b) (valB c) with h | h | h
  · rw [cmp_lt h, decide_eq_true h]
    rfl
  · rw [h, decide_eq_false (by omega)]
    simp
  · rw [cmp_gt h, decide_eq_false (by omega)]
    rfl
theorem order_gt {b c : Nat} (hb : b < 18446744073709551616) (hc : c < 18446744073709551616) (fb : finB b = true) (fc : finB c = true) : (double.order b c == some .gt) = decide (valB c < valB b) := by
  rw [order_val hb hc fb fc]
  rcases Int.lt_trichotomy (valB b) (valB c) with h | h | h
  · rw [cmp_lt h, decide_eq_false (by omega)]
    rfl
  · rw [h, decide_eq_false (by omega)]
    simp
  · rw [cmp_gt h, decide_eq_true h]
    rfl
theorem order_eq {b c : Nat} (hb : b < 18446744073709551616) (hc : c < 18446744073709551616) (fb : finB b = true) (fc : finB c = true) : (double.order b c == some .eq) = decide (valB b = valB c) := by
  rw [order_val hb hc fb fc]
  rcases Int.lt_trichotomy (valB b) (valB c) with h | h | h
  · rw [cmp_lt h, decide_eq_false (by omega)]
    rfl
  · rw [h, decide_eq_true rfl]
    simp
  · rw [cmp_gt h, decide_eq_false (by omega)]
    rfl
/-! ### bounds -/
theorem val_pow (s : Bool) (k : Nat) (hk : k ≤ 971 + 52) (h5 : 52 ≤ k) : valV s 4503599627370496 ((k : Int) - 52) = if s then -((2 ^ k * U : Nat) : Int) else ((2 ^ k * U : Nat) : Int) := by
  unfold valV
  have e : magV 4503599627370496 ((k : Int) - 52) = 2 ^ k * U := by
    unfold magV
    have e1 : (4503599627370496 : Nat) = 2 ^ 52 := by decide
    have e2 : ((k : Int) - 52 + 1074).toNat = (k - 52) + X74 := by have := x74; omega
    have e3 : 52 + (k - 52) = k := by omega
    rw [e1, e2, Nat.pow_add 2 (k - 52), ← Nat.mul_assoc, ← Nat.pow_add, e3]
    rfl
  rw [e]
theorem lo63 : finB 14114281232179134464 = true ∧ valB 14114281232179134464 = -9223372036854775808 * (U : Int) := by
  refine ⟨by decide, ?_⟩
  have h : double.read 14114281232179134464 = .number true 4503599627370496 (((63 : Nat) : Int) - 52) := by decide
  rw [valB_of h, val_pow true 63 (by omega) (by omega), if_pos rfl, Int.natCast_mul]
  have e : ((2 ^ 63 : Nat) : Int) = 9223372036854775808 := by decide
  rw [e, Int.neg_mul]
theorem hi63 : finB 4890909195324358656 = true ∧ valB 4890909195324358656 = 9223372036854775808 * (U : Int) := by
  refine ⟨by decide, ?_⟩
  have h : double.read 4890909195324358656 = .number false 4503599627370496 (((63 : Nat) : Int) - 52) := by decide
  rw [valB_of h, val_pow false 63 (by omega) (by omega), if_neg (by simp), Int.natCast_mul]
  have e : ((2 ^ 63 : Nat) : Int) = 9223372036854775808 := by decide
  rw [e]
theorem hi64 : finB 4895412794951729152 = true ∧ valB 4895412794951729152 = 18446744073709551616 * (U : Int) := by
  refine ⟨by decide, ?_⟩
  have h : double.read 4895412794951729152 = .number false 4503599627370496 (((64 : Nat) : Int) - 52) := by decide
  rw [valB_of h, val_pow false 64 (by omega) (by omega), if_neg (by simp), Int.natCast_mul]
  have e : ((2 ^ 64 : Nat) : Int) = 18446744073709551616 := by decide
  rw [e]
theorem val_nought : valB 0 = 0 := (val_zero (by decide) (by decide)).2 (by decide)
/-- conversion to a whole number -/
theorem to_int {b : Nat} (hb : b < 18446744073709551616) (hf : finB b = true) {z : Int} (hz : valB b = z * (U : Int)) (k : IntKind) (h1 : k.min ≤ z) (h2 : z ≤ k.max) : floatToIntVal .f64 b k = some z := by
  obtain ⟨s, M, L, hr, hc, hw⟩ := read_form hb hf
  obtain ⟨q, hq, g1, g2⟩ := integral_cases hr
  have hpl := part_le hc.l1 g1 g2
  have hU := U_pos
  have hzq : signed s q 0 = z := by
    rw [valB_of hr] at hz
    unfold valV at hz
    rw [signed_eq, Nat.pow_zero, Nat.mul_one]
    have hm : magV M L = z.natAbs * U := by
      have h9 : (magV M L : Int).natAbs = (z * (U : Int)).natAbs := by
        rw [← hz]
        cases s <;> simp
      rw [Int.natAbs_mul] at h9
      simpa using h9
    have hqz : q = z.natAbs := by rw [← hpl.2, hm, Nat.mul_div_cancel _ hU]
    rw [hm] at hz
    cases s
    · simp only [Bool.false_eq_true, if_false] at hz ⊢
      have : 0 ≤ z := by
        apply Classical.byContradiction
        intro hc
        have h8 : z * (U : Int) < 0 := Int.mul_neg_of_neg_of_pos (by omega) (by omega)
        rw [← hz] at h8
        omega
      omega
    · simp only [if_true] at hz ⊢
      have : z ≤ 0 := by
        apply Classical.byContradiction
        intro hc
        have h8 : 0 < z * (U : Int) := Int.mul_pos (by omega) (by omega)
        rw [← hz] at h8
        omega
      omega
  have ht : (FloatKind.f64.decode b).toInt .zero = some z := by
    show Datum.toInt .zero (double.read b) = _
    unfold Datum.toInt
    rw [hq]
    simp only [hzq]
  unfold floatToIntVal
  rw [ht]
  simp only
  rw [if_pos ⟨h1, h2⟩]
/-- the float of a whole number that a float has -/
theorem of_int {b : Nat} (hb : b < 18446744073709551616) (hf : finB b = true) {z : Int} (hz : valB b = z * (U : Int)) (h0 : z = 0 → b = 0) : floatOfInt .f64 z = b := by
  show double.write (.number (decide (z < 0)) z.natAbs 0) = b
  by_cases hzz : z = 0
  · rw [h0 hzz, hzz]
    exact write_word_zero false 0
  · have hU := U_pos
    have hne : valB b ≠ 0 := by
      rw [hz]
      exact Int.mul_ne_zero hzz (by omega)
    refine write_val hb hf hne (by omega) ?_
    rw [hz]
    unfold valV
    rw [magV_nat, Int.natCast_mul]
    by_cases hn : z < 0
    · rw [decide_eq_true hn, if_pos rfl, ← Int.neg_mul]
      congr 1
      omega
    · rw [decide_eq_false hn, if_neg (by simp)]
      congr 1
      omega
/-- the bits of a whole number below 2^53 -/
def bitsZ (z : Int) : Nat := floatOfInt .f64 z
theorem bitsZ_lt (z : Int) : bitsZ z < 18446744073709551616 := write_lt64 (.number (decide (z < 0)) z.natAbs 0)
theorem bitsZ_zero : bitsZ 0 = 0 := write_word_zero false 0
theorem bitsZ_val {z : Int} (h : z.natAbs < 9007199254740992) : finB (bitsZ z) = true ∧ valB (bitsZ z) = z * (U : Int) := by
  obtain ⟨h1, h2⟩ := write_small (decide (z < 0)) h
  refine ⟨h1, ?_⟩
  have e : valB (bitsZ z) = valV (decide (z < 0)) z.natAbs 0 := h2
  rw [e]
  unfold valV
  rw [magV_nat, Int.natCast_mul]
  by_cases hn : z < 0
  · rw [decide_eq_true hn, if_pos rfl, ← Int.neg_mul]
    congr 1
    omega
  · rw [decide_eq_false hn, if_neg (by simp)]
    congr 1
    omega
theorem bitsZ_ne {z : Int} (h : z.natAbs < 9007199254740992) : bitsZ z ≠ 9223372036854775808 := by
  intro e
  by_cases hz : z = 0
  · rw [hz, bitsZ_zero] at e
    cases e
  · obtain ⟨h1, h2⟩ := bitsZ_val h
    have hU := U_pos
    have h0 := (val_zero (bitsZ_lt z) h1).2 (by rw [e])
    rw [h2] at h0
    rcases Int.mul_eq_zero.1 h0 with h | h
    · exact hz h
    · omega
theorem norm_bitsZ {z : Int} (h : z.natAbs < 9007199254740992) : normB (bitsZ z) = bitsZ z := by
  unfold normB
  split
  · rename_i h0
    have h1 := bitsZ_ne h
    have h2 := bitsZ_lt z
    omega
  · rfl
theorem bitsZ_add {x y : Int} (hx : x.natAbs < 9007199254740992) (hy : y.natAbs < 9007199254740992) (hs : (x + y).natAbs < 9007199254740992) : double.add (bitsZ x) (bitsZ y) = some (bitsZ (x + y)) := by
  obtain ⟨a1, a2⟩ := bitsZ_val hx
  obtain ⟨b1, b2⟩ := bitsZ_val hy
  obtain ⟨c1, c2⟩ := bitsZ_val hs
  have hU := U_pos
  have he : valB (bitsZ x) + valB (bitsZ y) = valB (bitsZ (x + y)) := by rw [a2, b2, c2, Int.add_mul]
  by_cases h0 : x + y = 0
  · rw [h0, bitsZ_zero]
    refine add_zero_sum (bitsZ_lt x) (bitsZ_lt y) a1 b1 (by rw [he, h0, bitsZ_zero, val_nought]) ?_
    by_cases hx0 : x = 0
    · left
      rw [hx0, bitsZ_zero]
    · right
      rw [a2]
      exact Int.mul_ne_zero hx0 (by omega)
  · refine add_exact (bitsZ_lt x) (bitsZ_lt y) (bitsZ_lt _) a1 b1 c1 he ?_
    rw [c2]
    exact Int.mul_ne_zero h0 (by omega)
theorem bitsZ_eq {x y : Int} (hx : x.natAbs < 9007199254740992) (hy : y.natAbs < 9007199254740992) : (double.order (bitsZ x) (bitsZ y) == some .eq) = decide (x = y) := by
  obtain ⟨a1, a2⟩ := bitsZ_val hx
  obtain ⟨b1, b2⟩ := bitsZ_val hy
  have hU := U_pos
  rw [order_eq (bitsZ_lt x) (bitsZ_lt y) a1 b1, a2, b2]
  by_cases h : x = y
  · rw [h]
    simp
  · rw [decide_eq_false h, decide_eq_false]
    intro e
    exact h (Int.eq_of_mul_eq_mul_right (by omega) e)
/-! ### products with one, with nought -/
theorem mul_one_left {b : Nat} (hb : b < 18446744073709551616) (hf : finB b = true) : double.mul 4607182418800017408 b = some b := by
  obtain ⟨s, M, L, hr, hc, hw⟩ := read_form hb hf
  have h1 : double.read 4607182418800017408 = .number false 4503599627370496 (-52) := by decide
  unfold Format.mul
  rw [h1, hr]
  unfold Datum.product
  simp only [Option.map_some, Bool.false_xor]
  refine congrArg some ?_
  by_cases hM : M = 0
  · subst hM
    rw [Nat.mul_zero, write_word_zero]
    have := read_canon hc s
    have e : (L + 1074).toNat = 0 := by rcases hc.lo with h | h <;> omega
    rw [hw, e]
  · refine write_same hb hf hr hM ?_
    unfold SameV
    have e1 : min (-52 + L) L = -52 + L := by omega
    have e2 : (-52 + L - (-52 + L)).toNat = 0 := by omega
    have e3 : (L - (-52 + L)).toNat = 52 := by omega
    rw [e1, e2, e3, Nat.pow_zero, Nat.mul_one, Nat.mul_comm]
theorem mul_zero_left {b : Nat} (hb : b < 18446744073709551616) (hf : finB b = true) : ∃ s, double.mul 0 b = some (double.word s 0) := by
  obtain ⟨s, M, L, hr, hc, hw⟩ := read_form hb hf
  refine ⟨s, ?_⟩
  unfold Format.mul
  rw [read_zero, hr]
  unfold Datum.product
  simp only [Option.map_some, Bool.false_xor, Nat.zero_mul]
  exact congrArg some (write_word_zero s _)
theorem read_word_zero (s : Bool) : double.read (double.word s 0) = .number s 0 (-1074) := by cases s <;> decide
/-- nought behind a number changes it not, but for the sign of nought -/
theorem add_word_zero {b : Nat} (hb : b < 18446744073709551616) (hf : finB b = true) (t : Bool) : ∃ r, double.add b (double.word t 0) = some r ∧ (r = b ∨ (b % 9223372036854775808 = 0 ∧ r % 9223372036854775808 = 0)) ∧ r < 18446744073709551616 := by
  by_cases h0 : valB b = 0
  · obtain ⟨s, M, L, r1, c1, _⟩ := read_form hb hf
    have l1 := c1.l1
    have hz := (val_zero hb hf).1 h0
    have g1 := signed_val s M L (min L (-1074)) (by omega) (by omega)
    rw [← valB_of r1, h0] at g1
    have hk := Nat.two_pow_pos (min L (-1074) + 1074).toNat
    have hs0 : signed s M (L - min L (-1074)).toNat = 0 := by
      rcases Int.mul_eq_zero.1 g1 with h | h
      · exact h
      · omega
    have ht0 : signed t 0 (-1074 - min L (-1074)).toNat = 0 := by cases t <;> simp [signed]
    refine ⟨double.word (s && t) 0, ?_, .inr ⟨hz, by cases s <;> cases t <;> decide⟩, by cases s <;> cases t <;> decide⟩
    unfold Format.add
    rw [r1, read_word_zero]
    unfold Datum.sum
    simp only [Option.map_some, hs0, ht0]
    exact congrArg some (write_word_zero _ _)
  · refine ⟨b, add_exact hb (by cases t <;> decide) hb hf (word_zero_fin t) hf (by rw [val_word_zero, Int.add_zero]) h0, .inl rfl, hb⟩
theorem sub_word_zero {b : Nat} (hb : b < 18446744073709551616) (hf : finB b = true) (t : Bool) : ∃ r, double.sub b (double.word t 0) = some r ∧ (r = b ∨ (b % 9223372036854775808 = 0 ∧ r % 9223372036854775808 = 0)) ∧ r < 18446744073709551616 := by
  obtain ⟨r, h1, h2⟩ := add_word_zero hb hf (!t)
  refine ⟨r, ?_, h2⟩
  rw [← h1]
  unfold Format.sub Format.add
  rw [read_word_zero, read_word_zero]
  rfl
end Nd
end Go.Proofs.YtbajkglacfheiaaGreatDoor

