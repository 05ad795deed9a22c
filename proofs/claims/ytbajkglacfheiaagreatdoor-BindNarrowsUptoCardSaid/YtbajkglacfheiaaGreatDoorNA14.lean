/-
  Whole numbers in floats, in plain terms: what a kind of whole number takes, by the code's tests and by the document's.
  The reference of layer 16: finite, parts, magnitude.
  Walks of package bind: is, trail; Whole and Count of a finite float.
-/
import Derived.Test.YtbajkglacfheiaaGreatDoorNA13
import Derived.Test.YtbajkglacfheiaaGreatDoorNA2
import Derived.Test.YtbajkglacfheiaaGreatDoorNA4
import Derived.Laws.BitsAllLaws
import Derived.LoopTactic
import Derived.Laws.Externs
set_option linter.unusedVariables false
set_option linter.unusedSimpArgs false
set_option maxRecDepth 100000
set_option maxHeartbeats 16000000
namespace Go.Proofs.YtbajkglacfheiaaGreatDoor
namespace Nd
open Ieee

def wholeD (b : Nat) : Option Int := if valB b % (U : Int) = 0 then some (valB b / (U : Int)) else none
def loK (k : Nat) : Int := if k = 3 then -128 else if k = 4 then -32768 else if k = 5 then -2147483648 else if k = 6 then -9223372036854775808 else 0
def hiK (k : Nat) : Int := if k = 3 then 127 else if k = 4 then 32767 else if k = 5 then 2147483647 else if k = 6 then 9223372036854775807 else if k = 7 then 255 else if k = 8 then 65535 else if k = 9 then 4294967295 else 18446744073709551615
def intD (k : Nat) (b : Nat) : Int ⊕ Int := match wholeD b with
 | none => .inl 160
 | some z => if loK k ≤ z ∧ z ≤ hiK k then .inr z else .inl 161
theorem whole_some {b : Nat} {z : Int} (h : wholeD b = some z) : valB b = z * (U : Int) := by
 unfold wholeD at h
 split at h
 ·rename_i h0
  injection h with h
  rw [← h]
  have := Int.mul_ediv_add_emod (valB b) (U : Int)
  rw [h0, Int.add_zero, Int.mul_comm] at this
  exact this.symm
 ·cases h
theorem whole_of {b : Nat} {z : Int} (h : valB b = z * (U : Int)) : wholeD b = some z := by
 have hU := U_pos
 unfold wholeD
 rw [h, Int.mul_emod_left, if_pos rfl, Int.mul_ediv_cancel _ (by omega)]
theorem trunc_some {b : Nat} (hb : b < 18446744073709551616) (hf : finB b = true) {z : Int} (h : wholeD b = some z) : (double.order (truncB b) b == some .eq) = true := by
 rw [trunc_order hb hf]
 unfold wholeD at h
 split at h
 ·rename_i h0
  exact decide_eq_true h0
 ·cases h
theorem trunc_none {b : Nat} (hb : b < 18446744073709551616) (hf : finB b = true) (h : wholeD b = none) : (double.order (truncB b) b == some .eq) = false := by
 rw [trunc_order hb hf]
 unfold wholeD at h
 split at h
 ·cases h
 ·rename_i h0
  exact decide_eq_false h0
theorem scale_lt {x y : Int} : x * (U : Int) < y * (U : Int) ↔ x < y := by
 have hU : (0 : Int) < (U : Int) := by have := U_pos; omega
 constructor
 ·intro h
  exact Int.lt_of_mul_lt_mul_right h (Int.le_of_lt hU)
 ·intro h
  exact Int.mul_lt_mul_of_pos_right h hU
theorem scale_eq {x y : Int} : x * (U : Int) = y * (U : Int) ↔ x = y := by
 have hU := U_pos
 exact ⟨fun h => Int.eq_of_mul_eq_mul_right (by omega) h, fun h => by rw [h]⟩
theorem test_lo {b : Nat} (hb : b < 18446744073709551616) (hf : finB b = true) {z : Int} (h : wholeD b = some z) : (double.order b 14114281232179134464 == some .lt) = decide (z < -9223372036854775808) := by
 rw [order_lt hb (by decide) hf lo63.1, whole_some h, lo63.2, decide_eq_decide]
 exact scale_lt
theorem test_neg {b : Nat} (hb : b < 18446744073709551616) (hf : finB b = true) {z : Int} (h : wholeD b = some z) : (double.order b 0 == some .lt) = decide (z < 0) := by
 rw [order_lt hb (by decide) hf (by decide), whole_some h, val_nought, decide_eq_decide]
 have := scale_lt (x := z) (y := 0)
 rw [Int.zero_mul] at this
 exact this
theorem test_hi63 {b : Nat} (hb : b < 18446744073709551616) (hf : finB b = true) {z : Int} (h : wholeD b = some z) : (double.order b 4890909195324358656 == some .gt) = decide (9223372036854775808 < z) ∧ (double.order b 4890909195324358656 == some .eq) = decide (z = 9223372036854775808) := by
 rw [order_gt hb (by decide) hf hi63.1, order_eq hb (by decide) hf hi63.1, whole_some h, hi63.2, decide_eq_decide, decide_eq_decide]
 exact ⟨scale_lt, scale_eq⟩
theorem test_hi64 {b : Nat} (hb : b < 18446744073709551616) (hf : finB b = true) {z : Int} (h : wholeD b = some z) : (double.order b 4895412794951729152 == some .gt) = decide (18446744073709551616 < z) ∧ (double.order b 4895412794951729152 == some .eq) = decide (z = 18446744073709551616) := by
 rw [order_gt hb (by decide) hf hi64.1, order_eq hb (by decide) hf hi64.1, whole_some h, hi64.2, decide_eq_decide, decide_eq_decide]
 exact ⟨scale_lt, scale_eq⟩
theorem conv_i64 {b : Nat} (hb : b < 18446744073709551616) (hf : finB b = true) {z : Int} (h : wholeD b = some z) (h1 : -9223372036854775808 ≤ z) (h2 : z < 9223372036854775808) : floatToIntVal .f64 b .i64 = some z := by
 have e1 : IntKind.i64.min = -9223372036854775808 := by decide
 have e2 : IntKind.i64.max = 9223372036854775807 := by decide
 exact to_int hb hf (whole_some h) .i64 (by rw [e1]; omega) (by rw [e2]; omega)
theorem conv_u64 {b : Nat} (hb : b < 18446744073709551616) (hf : finB b = true) {z : Int} (h : wholeD b = some z) (h1 : 0 ≤ z) (h2 : z < 18446744073709551616) : floatToIntVal .f64 b .u64 = some z := by
 have e1 : IntKind.u64.min = 0 := by decide
 have e2 : IntKind.u64.max = 18446744073709551615 := by decide
 exact to_int hb hf (whole_some h) .u64 (by rw [e1]; omega) (by rw [e2]; omega)
/-! ### by the document -/
def sgnB (b : Nat) : Bool := b / 9223372036854775808 % 2 == 1
theorem abs_form {b : Nat} (hb : b < 18446744073709551616) (hf : finB b = true) : ∃ M L, double.read b = .number (sgnB b) M L ∧ Canon M L ∧ (valB b).natAbs = magV M L ∧ valB b = if sgnB b then -((valB b).natAbs : Int) else ((valB b).natAbs : Int) := by
 obtain ⟨s, M, L, hr, hc, hw⟩ := read_fform hb hf
 have hr0 := rung_lt (E := (L + 1074).toNat) (M := M) (by have := hc.l1; have := hc.l2; omega) hc.hi
 have hs := (word_parts s (r := (L + 1074).toNat * 4503599627370496 + M) (by omega)).1
 rw [← hw] at hs
 have hs2 : sgnB b = s := hs
 rw [hs2]
 refine ⟨M, L, hr, hc, ?_, ?_⟩
 ·rw [valB_of hr]
  unfold fvalV
  cases s <;> simp
 ·rw [valB_of hr]
  unfold fvalV
  cases s <;> simp
def magD (b : Nat) : Nat × Nat :=
 if (valB b).natAbs % U ≠ 0 then (0, 160) else if 18446744073709551616 ≤ (valB b).natAbs / U then (0, 161) else ((valB b).natAbs / U, 0)
def signedD (b most : Nat) : Int ⊕ Int :=
 if (magD b).2 ≠ 0 then .inl (magD b).2 else if sgnB b then (if most < (magD b).1 then .inl 161 else .inr (-((magD b).1 : Int))) else if most ≤ (magD b).1 then .inl 161 else .inr ((magD b).1 : Int)
def unsignedD (b lim : Nat) : Int ⊕ Int :=
 if (magD b).2 ≠ 0 then .inl (magD b).2 else if (sgnB b = true ∧ 0 < (magD b).1) ∨ lim ≤ (magD b).1 then .inl 161 else .inr ((magD b).1 : Int)
theorem whole_abs {b : Nat} (hb : b < 18446744073709551616) (hf : finB b = true) : wholeD b = if (valB b).natAbs % U = 0 then some (if sgnB b then -(((valB b).natAbs / U : Nat) : Int) else (((valB b).natAbs / U : Nat) : Int)) else none := by
 obtain ⟨M, L, hr, hc, ha, hv⟩ := abs_form hb hf
 have hU := U_pos
 generalize (valB b).natAbs = v at *
 by_cases h : v % U = 0
 ·rw [if_pos h]
  apply whole_of
  have hd := Nat.div_add_mod v U
  rw [h, Nat.add_zero] at hd
  generalize v / U = q at *
  subst hd
  rw [hv]
  cases sgnB b
  ·simp only [Bool.false_eq_true, if_false]
   rw [Int.natCast_mul, Int.mul_comm]
  ·simp only [if_true]
   rw [Int.natCast_mul, Int.neg_mul, Int.mul_comm]
 ·rw [if_neg h]
  unfold wholeD
  rw [if_neg]
  intro h0
  apply h
  rw [hv] at h0
  cases hs : sgnB b
  ·rw [hs] at h0
   simp only [Bool.false_eq_true, if_false] at h0
   omega
  ·rw [hs] at h0
   simp only [if_true] at h0
   rw [← Int.dvd_iff_emod_eq_zero, Int.dvd_neg, Int.dvd_iff_emod_eq_zero] at h0
   omega
theorem magD_cases (b : Nat) : ((valB b).natAbs % U ≠ 0 ∧ magD b = (0, 160)) ∨ ((valB b).natAbs % U = 0 ∧ 18446744073709551616 ≤ (valB b).natAbs / U ∧ magD b = (0, 161)) ∨ ((valB b).natAbs % U = 0 ∧ (valB b).natAbs / U < 18446744073709551616 ∧ magD b = ((valB b).natAbs / U, 0)) := by
 unfold magD
 generalize (valB b).natAbs = v
 by_cases h : v % U = 0
 ·rw [if_neg (fun hx => hx h)]
  by_cases hq : 18446744073709551616 ≤ v / U
  ·rw [if_pos hq]
   exact .inr (.inl ⟨h, hq, rfl⟩)
  ·rw [if_neg hq]
   exact .inr (.inr ⟨h, by omega, rfl⟩)
 ·rw [if_pos h]
  exact .inl ⟨h, rfl⟩
theorem signed_int {b most k : Nat} (hb : b < 18446744073709551616) (hf : finB b = true) (hm : most ≤ 9223372036854775808) (h0 : 0 < most) (h1 : loK k = -(most : Int)) (h2 : hiK k = (most : Int) - 1) : intD k b = signedD b most := by
 unfold intD
 rw [whole_abs hb hf, h1, h2]
 unfold signedD
 rcases magD_cases b with ⟨h, hd⟩ | ⟨h, hq, hd⟩ | ⟨h, hq, hd⟩
 ·rw [if_neg h, hd]
  rfl
 ·rw [if_pos h, hd]
  generalize (valB b).natAbs / U = q at *
  dsimp only
  rw [if_pos (show (161 : Nat) ≠ 0 by decide), if_neg]
  ·rfl
  ·cases sgnB b
   ·simp only [Bool.false_eq_true, if_false]
    omega
   ·simp only [if_true]
    omega
 ·rw [if_pos h, hd]
  generalize (valB b).natAbs / U = q at *
  dsimp only
  rw [if_neg (show ¬ ((0 : Nat) ≠ 0) by simp)]
  cases sgnB b
  ·simp only [Bool.false_eq_true, if_false]
   by_cases hx : most ≤ q
   ·rw [if_pos hx, if_neg (by omega)]
   ·rw [if_neg hx, if_pos (by omega)]
  ·simp only [if_true]
   by_cases hx : most < q
   ·rw [if_pos hx, if_neg (by omega)]
   ·rw [if_neg hx, if_pos (by omega)]
theorem unsigned_int {b lim k : Nat} (hb : b < 18446744073709551616) (hf : finB b = true) (hm : lim ≤ 18446744073709551616) (h1 : loK k = 0) (h2 : hiK k = (lim : Int) - 1) : intD k b = unsignedD b lim := by
 unfold intD
 rw [whole_abs hb hf, h1, h2]
 unfold unsignedD
 rcases magD_cases b with ⟨h, hd⟩ | ⟨h, hq, hd⟩ | ⟨h, hq, hd⟩
 ·rw [if_neg h, hd]
  rfl
 ·rw [if_pos h, hd]
  generalize (valB b).natAbs / U = q at *
  dsimp only
  rw [if_pos (show (161 : Nat) ≠ 0 by decide), if_neg]
  ·rfl
  ·cases sgnB b
   ·simp only [Bool.false_eq_true, if_false]
    omega
   ·simp only [if_true]
    omega
 ·rw [if_pos h, hd]
  generalize (valB b).natAbs / U = q at *
  dsimp only
  rw [if_neg (show ¬ ((0 : Nat) ≠ 0) by simp)]
  cases sgnB b
  ·simp only [Bool.false_eq_true, if_false, false_and, false_or]
   by_cases hx : lim ≤ q
   ·rw [if_pos hx, if_neg (by omega)]
   ·rw [if_neg hx, if_pos (by omega)]
  ·simp only [if_true, true_and]
   by_cases hx : 0 < q ∨ lim ≤ q
   ·rw [if_pos hx, if_neg (by omega)]
   ·rw [if_neg hx, if_pos (by omega)]
    congr 1
    omega
theorem odd_low {m : Nat} {k : Int} (hm : m % 2 = 1) (h1 : -1074 ≤ k) (h2 : k < 0) : magV m k % U ≠ 0 := by
 intro h
 unfold magV at h
 rw [← pow_join h1 h2] at h
 have hp := Nat.two_pow_pos (k + 1074).toNat
 rw [Nat.mul_mod_mul_right] at h
 have h3 : m % 2 ^ (-k).toNat = 0 := by
  rcases Nat.mul_eq_zero.1 h with h | h
  ·exact h
  ·omega
 obtain ⟨j, hj⟩ : ∃ j, (-k).toNat = j + 1 := ⟨(-k).toNat - 1, by omega⟩
 rw [hj] at h3
 have h4 : 2 ^ (j + 1) ∣ m := Nat.dvd_of_mod_eq_zero h3
 have h5 : 2 ∣ m := Nat.dvd_trans ⟨2 ^ j, by rw [Nat.pow_succ, Nat.mul_comm]⟩ h4
 omega
theorem mag_up {m : Nat} {k : Int} (h : 0 ≤ k) : magV m k % U = 0 ∧ magV m k / U = m * 2 ^ k.toNat := by
 unfold magV
 rw [pow_up h, ← Nat.mul_assoc, Nat.mul_mod_left, Nat.mul_div_cancel _ U_pos]
 exact ⟨rfl, rfl⟩
theorem mag_half {m : Nat} {k : Int} (hk : -1074 ≤ k) (hm : m % 2 = 0) : magV (m / 2) (k + 1) = magV m k := by
 unfold magV
 have e : (k + 1 + 1074).toNat = (k + 1074).toNat + 1 := by omega
 have e2 : m = m / 2 * 2 := by omega
 rw [e, Nat.pow_succ, Nat.mul_comm _ 2, ← Nat.mul_assoc, ← e2]
end Nd
end Go.Proofs.YtbajkglacfheiaaGreatDoor
namespace Go.Proofs.YtbajkglacfheiaaGreatDoor
open Go.RowKit Mem
namespace Nd
theorem exp_bitsB {b : Nat} (hb : b < 18446744073709551616) : bits BinOp.and IntKind.u64 ((b : Int) / 4503599627370496) 2047 = ((b / 4503599627370496 % 2048 : Nat) : Int) := by
 have h := u64_and_nat (b / 4503599627370496) 2047 (by omega) (by omega)
 rw [show (2047 : Nat) = 2 ^ 11 - 1 from rfl, Nat.and_two_pow_sub_one_eq_mod] at h
 exact h
theorem man_bitsB {b : Nat} (hb : b < 18446744073709551616) : bits BinOp.and IntKind.u64 (b : Int) 4503599627370495 = ((b % 4503599627370496 : Nat) : Int) := by
 have h := u64_and_nat b 4503599627370495 hb (by omega)
 rw [show (4503599627370495 : Nat) = 2 ^ 52 - 1 from rfl, Nat.and_two_pow_sub_one_eq_mod] at h
 exact h
theorem exp_fin {b : Nat} (hf : finB b = true) : b / 4503599627370496 % 2048 < 2047 := by
 have h : b % 9223372036854775808 < 9218868437227405312 := of_decide_eq_true hf
 omega
theorem exp_inf {b : Nat} (hf : finB b = false) : b / 4503599627370496 % 2048 = 2047 := by
 have h : ¬ b % 9223372036854775808 < 9218868437227405312 := of_decide_eq_false hf
 omega
def double_read (b : Nat) : Ieee.Datum := Ieee.double.read b
theorem read_parts {b : Nat} {s : Bool} {M : Nat} {L : Int} (hr : double_read b = .number s M L) : (b / 4503599627370496 % 2048 = 0 → M = b % 4503599627370496 ∧ L = -1074) ∧ (b / 4503599627370496 % 2048 ≠ 0 → M = b % 4503599627370496 + 4503599627370496 ∧ L = ((b / 4503599627370496 % 2048 : Nat) : Int) - 1075) := by
 unfold double_read at hr
 unfold Ieee.Format.read at hr
 simp only [sw, ir, bn, lp] at hr
 have e1 : b % 9223372036854775808 / 4503599627370496 = b / 4503599627370496 % 2048 := by omega
 have e2 : b % 9223372036854775808 % 4503599627370496 = b % 4503599627370496 := by omega
 rw [e1, e2] at hr
 split at hr
 ·rename_i h
  injection hr with _ h2 h3
  exact ⟨fun _ => ⟨by omega, h3.symm⟩, fun h0 => by omega⟩
 ·rename_i h
  split at hr
  ·injection hr with _ h2 h3
   exact ⟨fun h0 => by omega, fun h0 => ⟨by omega, by omega⟩⟩
  ·split at hr
   ·cases hr
   ·cases hr
theorem refFin_any (b : Nat) (hb : b < 18446744073709551616) (w : World) : Calls Tryz.prog 114 #[.int .u64 (b : Int)] w fun e w' => e = .returned (.bool (finB b)) ∧ w = w' := by
 have hA := exp_bitsB hb
 cases hf : finB b with
 | true =>
  have h1 := exp_fin hf
  have h2 : (((b / 4503599627370496 % 2048 : Nat) : Int) != 2047) = true := by rw [bne_iff_ne]; omega
  generalize b / 4503599627370496 % 2048 = E at *
  clear hf
  go_enter Tryz.func114, Tryz.ntmps114
  go_wp2
  go_ret
  exact ⟨rfl, rfl⟩
 | false =>
  have h1 := exp_inf hf
  rw [h1] at hA
  clear hf h1
  go_enter Tryz.func114, Tryz.ntmps114
  go_wp2
  go_ret
  exact ⟨rfl, rfl⟩
theorem parts_any (b : Nat) (hb : b < 18446744073709551616) {s : Bool} {M : Nat} {L : Int} (hr : double_read b = .number s M L) (w : World) : Calls Tryz.prog 147 #[.int .u64 (b : Int)] w fun e w' => e = .returned (.tuple #[.int .u64 (M : Int), .int .i64 L]) ∧ w = w' := by
 have hA := exp_bitsB hb
 have hM := man_bitsB hb
 have hE : b / 4503599627370496 % 2048 < 2048 := Nat.mod_lt _ (by omega)
 have hR : b % 4503599627370496 < 4503599627370496 := Nat.mod_lt _ (by omega)
 obtain ⟨p1, p2⟩ := read_parts hr
 generalize b / 4503599627370496 % 2048 = E at *
 generalize b % 4503599627370496 = R at *
 clear hr
 by_cases h0 : E = 0
 ·obtain ⟨rfl, rfl⟩ := p1 h0
  subst h0
  clear p1 p2
  go_enter Tryz.func147, Tryz.ntmps147
  go_wp2
  go_ret2
  exact ⟨rfl, rfl⟩
 ·obtain ⟨rfl, rfl⟩ := p2 h0
  clear p1 p2
  have h1 : ((E : Int) == 0) = false := by rw [beq_eq_false_iff_ne]; omega
  clear h0
  go_enter Tryz.func147, Tryz.ntmps147
  go_wp2
  go_ret2
  exact ⟨by simp, rfl⟩
theorem u64_half (m : Nat) (h : m < 9223372036854775808) : IntKind.u64.wrap ((m : Int).tdiv 2) = ((m / 2 : Nat) : Int) := by
 have e : (m : Int).tdiv 2 = ((m / 2 : Nat) : Int) := by
  rw [Int.tdiv_eq_ediv_of_nonneg (by omega)]
  omega
 have hm : ((m / 2 : Nat) : Int) % 18446744073709551616 = ((m / 2 : Nat) : Int) := by omega
 rw [e]
 unfold IntKind.wrap
 simp [IntKind.bits, IntKind.signed]
 omega
theorem u64_twice (x : Nat) (h : x < 9223372036854775808) : IntKind.u64.wrap (2 * (x : Int)) = ((2 * x : Nat) : Int) := by
 unfold IntKind.wrap
 simp [IntKind.bits, IntKind.signed]
 omega
theorem magD_of {b M : Nat} {L : Int} (hv : (valB b).natAbs = magV M L) : (magV M L % U ≠ 0 → magD b = (0, 160)) ∧ (magV M L % U = 0 → 18446744073709551616 ≤ magV M L / U → magD b = (0, 161)) ∧ (magV M L % U = 0 → magV M L / U < 18446744073709551616 → magD b = (magV M L / U, 0)) := by
 unfold magD
 rw [hv]
 refine ⟨fun h => if_pos h, fun h h2 => ?_, fun h h2 => ?_⟩
 ·rw [if_neg (fun x => x h), if_pos h2]
 ·rw [if_neg (fun x => x h), if_neg (by omega)]
theorem mag_any (b : Nat) (hb : b < 18446744073709551616) (hf : finB b = true) (w : World) : Calls Tryz.prog 146 #[.int .u64 (b : Int)] w fun e w' => e = .returned (.tuple #[.int .u64 ((magD b).1 : Int), .int .i64 ((magD b).2 : Int)]) ∧ w = w' := by
 obtain ⟨M, L, hr, hc, hv, _⟩ := abs_form hb hf
 have hFIN := Lib.hid (refFin_any b hb)
 rw [hf] at hFIN
 have hPA := Lib.hid (parts_any b hb (show double_read b = _ from hr))
 have hMD := Lib.hid (magD_of hv)
 have hm53 := hc.hi
 have hl1 := hc.l1
 have hl2 := hc.l2
 obtain ⟨R, hR⟩ : ∃ R, magD b = R := ⟨_, rfl⟩
 rw [hR] at hMD ⊢
 clear hr hv hf hR
 by_cases h0 : M = 0
 ·subst h0
  have hz : magV 0 L = 0 := by unfold magV; rw [Nat.zero_mul]
  have hRR : R = (0, 0) := by
   have := hMD.out.2.2
   rw [hz] at this
   have := this (Nat.zero_mod _) (by rw [Nat.zero_div]; omega)
   rw [this, Nat.zero_div]
  subst hRR
  clear hMD hz hc
  go_enter Tryz.func146, Tryz.ntmps146
  go_wp2_with fail
  ((with_reducible refine (hFIN.out _).mono ?_); rintro e w1 ⟨rfl, rfl⟩)
  go_wp2_with fail
  ((with_reducible refine (hPA.out _).mono ?_); rintro e w1 ⟨rfl, rfl⟩)
  go_wp2
  go_ret2
  exact ⟨rfl, rfl⟩
 ·have hm0 : ((M : Int) == 0) = false := by rw [beq_eq_false_iff_ne]; omega
  have HM0 := Lib.hid h0
  have HMV := Lib.hid (show magV M L = magV M L from rfl)
  clear h0 hc
  go_enter Tryz.func146, Tryz.ntmps146
  go_wp2_with fail
  ((with_reducible refine (hFIN.out _).mono ?_); rintro e w1 ⟨rfl, rfl⟩)
  go_wp2_with fail
  ((with_reducible refine (hPA.out _).mono ?_); rintro e w1 ⟨rfl, rfl⟩)
  go_wp2_with fail
  go_loop [4, 5] (fun u4 u5 => ∃ (m : Nat) (k : Int), u4 = .int .u64 (m : Int) ∧ u5 = .int .i64 k ∧ Hid (m ≠ 0 ∧ m < 9007199254740992 ∧ -1074 ≤ k ∧ k + (m.log2 : Int) ≤ 1100 ∧ magV m k = magV M L)) (fun u4 _ => (intOf u4).toNat)
  case atStart => exact ⟨M, L, rfl, rfl, Lib.hid ⟨HM0.out, hm53, hl1, by have := log_lt HM0.out hm53; omega, rfl⟩⟩
  case round =>
   obtain ⟨m, k, rfl, rfl, HI⟩ := hrel
   have hmlt := HI.out.2.1
   have hk1 := HI.out.2.2.1
   have hk2 : k ≤ 1100 := by have := HI.out.2.2.2.1; omega
   by_cases hev : m % 2 = 0
   ·have he : ((m : Int) % 2 == 0) = true := by rw [beq_iff_eq]; omega
    have hq := u64_half m (by omega)
    have HN : Hid (m / 2 ≠ 0 ∧ m / 2 < 9007199254740992 ∧ -1074 ≤ k + 1 ∧ k + 1 + ((m / 2).log2 : Int) ≤ 1100 ∧ magV (m / 2) (k + 1) = magV M L) := Lib.hid (by
     have h1 := HI.out.1
     refine ⟨by omega, by omega, by omega, ?_, (mag_half hk1 hev).trans HI.out.2.2.2.2⟩
     have h2 : m = m / 2 * 2 ^ 1 := by omega
     have h3 : m.log2 = (m / 2).log2 + 1 := by
      have := log2_shift (n := m / 2) (by omega) 1
      rw [← h2] at this
      exact this
     have := HI.out.2.2.2.1
     omega)
    have HLT := Lib.hid (show m / 2 < m by have := HI.out.1; omega)
    clear hev
    go_wp2
    go_round
    case rel => exact ⟨m / 2, k + 1, rfl, rfl, HN⟩
    case measure =>
     have := HLT.out
     simp [intOf]
     omega
   ·have he : ((m : Int) % 2 == 0) = false := by rw [beq_eq_false_iff_ne]; omega
    have HOD := Lib.hid (show m % 2 = 1 by omega)
    clear hev
    by_cases hneg : k < 0
    ·have hRR : R = (0, 160) := hMD.out.1 (by rw [← HI.out.2.2.2.2]; exact odd_low HOD.out hk1 hneg)
     subst hRR
     clear hMD
     go_wp2
     go_ret2
     exact ⟨rfl, rfl⟩
    ·obtain ⟨K, rfl⟩ : ∃ K : Nat, k = K := ⟨k.toNat, by omega⟩
     have hup := mag_up (m := m) (k := (K : Int)) (by omega)
     rw [Int.toNat_natCast, HI.out.2.2.2.2] at hup
     have hD2 := hMD.out.2.1 hup.1
     have hD3 := hMD.out.2.2 hup.1
     rw [hup.2] at hD2 hD3
     have HD := Lib.hid (And.intro hD2 hD3)
     have HMN := Lib.hid HI.out.1
     clear hD2 hD3 hup hMD HI
     go_wp2_with fail
     go_loop [4, 5] (fun u4 u5 => ∃ (x j : Nat), u4 = .int .u64 (x : Int) ∧ u5 = .int .i64 (j : Int) ∧ j ≤ 1100 ∧ Hid (x < 18446744073709551616 ∧ x * 2 ^ j = m * 2 ^ K)) (fun _ u5 => (intOf u5).toNat)
     case atStart => exact ⟨m, K, rfl, rfl, by omega, Lib.hid ⟨by omega, rfl⟩⟩
     case round =>
      obtain ⟨x, j, rfl, rfl, hj, HJ2⟩ := hrel
      have HX64 := Lib.hid HJ2.out.1
      have HJ := Lib.hid HJ2.out.2
      clear HJ2
      by_cases hj0 : 0 < j
      ·have hj1 : (0 : Int) < (j : Int) := by omega
       obtain ⟨i, rfl⟩ : ∃ i, j = i + 1 := ⟨j - 1, by omega⟩
       by_cases hbig : 9223372036854775808 ≤ x
       ·have hRR : R = (0, 161) := HD.out.1 (by
         rw [← HJ.out, Nat.pow_succ]
         have := Nat.two_pow_pos i
         calc 18446744073709551616 = 9223372036854775808 * (1 * 2) := by omega
          _ ≤ x * (2 ^ i * 2) := Nat.mul_le_mul hbig (Nat.mul_le_mul_right _ this))
        subst hRR
        have hge : ((x : Int) ≥ 9223372036854775808) = True := by simp; omega
        clear HD hbig
        go_wp2
        go_ret2
        exact ⟨rfl, rfl⟩
       ·have HN : Hid (2 * x * 2 ^ i = m * 2 ^ K) := Lib.hid (by rw [← HJ.out, Nat.pow_succ, Nat.mul_comm 2, Nat.mul_assoc, Nat.mul_comm 2])
        have HX2 := Lib.hid (show 2 * x < 18446744073709551616 by omega)
        have hge : ((x : Int) ≥ 9223372036854775808) = False := by simp; omega
        have hw2 := u64_twice x (by omega)
        clear hbig
        go_wp2
        go_round
        case rel => exact ⟨2 * x, i, rfl, by go_num, by omega, Lib.hid ⟨HX2.out, HN.out⟩⟩
        case measure => simp [intOf]
      ·obtain rfl : j = 0 := by omega
       have hRR : R = (x, 0) := by
        have h := HJ.out
        rw [Nat.pow_zero, Nat.mul_one] at h
        have := HD.out.2 (by rw [← h]; exact HX64.out)
        rw [← h] at this
        exact this
       subst hRR
       clear HD
       go_wp2
       go_ret2
       exact ⟨rfl, rfl⟩
end Nd
end Go.Proofs.YtbajkglacfheiaaGreatDoor
namespace Go.Proofs.YtbajkglacfheiaaGreatDoor
open Go.RowKit Mem
namespace Nd
def trlV (n : Int) (p : Tx) : Value := .iface 139 (.agg #[.int .i64 n, .string ⟨p.toArray⟩])
theorem is_yes (k : Nat) (h1 : 1 ≤ k) (h2 : k ≤ 19) (w : World) : Calls Tryz.prog 33 #[.int .i64 (k : Int)] w fun e w' => e = .returned (.bool true) ∧ w = w' := by
 have e1 : ((k : Int) ≥ 1) = True := by simp; omega
 have e2 : ((k : Int) ≤ 19) = True := by simp; omega
 have e3 : (1 : Int) ≤ (k : Int) := by omega
 have e4 : (k : Int) ≤ 19 := by omega
 go_enter Tryz.func33, Tryz.ntmps33
 go_wp2
 go_ret
 exact ⟨rfl, rfl⟩
theorem btrail_any (n : Int) (p : Tx) (w : World) : Calls Tryz.prog 42 #[.iface 113 (.int .i64 n), .string ⟨p.toArray⟩] w fun e w' => e = .returned (trlV n p) ∧ w = w' := by
 have hta : ∀ W, (Instr.typeAssert (.iface 113 (.int .i64 n)) 25 113 true).run Tryz.prog W = .ok (.tuple #[.int .i64 n, .bool true]) W := fun W => by kernel_rfl
 go_enter Tryz.func42, Tryz.ntmps42
 go_wp2
 go_ret
 exact ⟨rfl, rfl⟩
/-! ### math's whole part -/
theorem toI_numberB {b m : Nat} {s : Bool} {p : Int} (e : Ieee.double.read b = .number s m p) : Go.Extern.MathFloor.toIntegral "math.archTrunc" .zero #[.float .f64 b] = pure (.float .f64 (FloatKind.f64.encode ((Ieee.Datum.number s m p).integral .zero))) := by
 show (match Ieee.double.read b with | .nan s t => _ | d => pure (Value.float .f64 (FloatKind.f64.encode (d.integral .zero)))) = _
 rw [e]
theorem trunc_runB (b : Nat) (hf : finB b = true) (W : World) : (Go.Extern.MathFloor.toIntegral "math.archTrunc" .zero #[.float .f64 b]).run Tryz.prog W = .ok (.float .f64 (truncB b)) W := by
 have hfin : b % 9223372036854775808 < 9218868437227405312 := of_decide_eq_true hf
 obtain ⟨m, p, e, _⟩ := read_fin hfin
 rw [toI_numberB e]
 unfold truncB
 rw [e]
 rfl
theorem arch_truncB (b : Nat) (hf : finB b = true) (W : World) : (callFunc 214 #[.float .f64 b]).run Tryz.prog W = .ok (.value (.float .f64 (truncB b))) W := by
 rw [@run_callFunc_extern Tryz.prog 214 _ (Go.Extern.MathFloor.toIntegral "math.archTrunc" .zero) Tryz.func214 (by kernel_rfl) (by kernel_rfl) (by kernel_rfl) (by kernel_rfl), trunc_runB b hf W]
 rfl
theorem trunc_anyB (b : Nat) (hf : finB b = true) (w : World) : Calls Tryz.prog 193 #[.float .f64 b] w fun e w' => e = .returned (.float .f64 (truncB b)) ∧ w = w' := by
 have h1 := arch_truncB b hf
 go_enter Tryz.func193, Tryz.ntmps193
 go_wp2
 go_ret
 exact ⟨rfl, rfl⟩
theorem flB_i64 (b : Nat) (n : Int) (h : floatToIntVal .f64 b .i64 = some n) (W : World) : (convert 61 2 (.float .f64 b)).run Tryz.prog W = .ok (.int .i64 n) W := run_convert_float_int W 61 2 .f64 .i64 b n (by kernel_rfl) (by kernel_rfl) h
theorem flB_u64 (b : Nat) (n : Int) (h : floatToIntVal .f64 b .u64 = some n) (W : World) : (convert 61 64 (.float .f64 b)).run Tryz.prog W = .ok (.int .u64 n) W := run_convert_float_int W 61 64 .f64 .u64 b n (by kernel_rfl) (by kernel_rfl) h
theorem fin_lt {b : Nat} (hf : finB b = true) : b % 9223372036854775808 < 9218868437227405312 := of_decide_eq_true hf
theorem ordf {x y : Nat} {o : Ordering} (h : (Ieee.double.order x y == some o) = false) : ¬ FloatKind.f64.format.order x y = some o := fun h' => by
 have h2 : Ieee.double.order x y = some o := h'
 rw [h2] at h
 cases o <;> cases h
theorem ordt {x y : Nat} {o : Ordering} (h : (Ieee.double.order x y == some o) = true) : FloatKind.f64.format.order x y = some o := by
 have h2 : Ieee.double.order x y = some o := by simpa using h
 exact h2
theorem ordn {x y : Nat} {o : Ordering} {b : Bool} (h : (Ieee.double.order x y == some o) = b) : (FloatKind.f64.format.order x y != some o) = !b := by
 rw [← h]
 rfl
theorem ordb {x y : Nat} {o : Ordering} {b : Bool} (h : (Ieee.double.order x y == some o) = b) : (FloatKind.f64.format.order x y == some o) = b := h
theorem bwhole_n (b : Nat) (hb : b < 18446744073709551616) (hf : finB b = true) (hw : wholeD b = none) (w : World) : Calls Tryz.prog 157 #[.float .f64 b] w fun e w' => e = .returned (.tuple #[.int .i64 0, errN 160]) ∧ w = w' := by
 have t1 := trunc_none hb hf hw
 have r9 := ordn t1
 have r1 := ordf t1
 have r2 := ordb t1
 simp only [Bool.not_false] at r9
 have HB := Lib.hid hb
 have HF := Lib.hid hf
 clear hb hf hw t1
 go_enter Tryz.func157, Tryz.ntmps157
 go_wp2_with fail
 ((with_reducible refine (isnan_not (Nat.le_of_lt (fin_lt HF.out)) _).mono ?_); rintro e w1 ⟨rfl, rfl⟩)
 go_wp2_with fail
 ((with_reducible refine (isinf_not HB.out (fin_lt HF.out) _).mono ?_); rintro e w1 ⟨rfl, rfl⟩)
 go_wp2_with fail
 ((with_reducible refine (trunc_anyB b HF.out _).mono ?_); rintro e w1 ⟨rfl, rfl⟩)
 go_wp2
 go_ret2
 exact ⟨rfl, rfl⟩
theorem bwhole_lo (b : Nat) (hb : b < 18446744073709551616) (hf : finB b = true) (z : Int) (hw : wholeD b = some z) (hz : z < -9223372036854775808) (w : World) : Calls Tryz.prog 157 #[.float .f64 b] w fun e w' => e = .returned (.tuple #[.int .i64 0, errN 161]) ∧ w = w' := by
 have t1 := trunc_some hb hf hw
 have r9 := ordn t1
 have r1 := ordt t1
 have r2 := ordb t1
 have t2 := test_lo hb hf hw
 rw [decide_eq_true hz] at t2
 have r3 := ordt t2
 have r4 := ordb t2
 simp only [Bool.not_true] at r9
 have HB := Lib.hid hb
 have HF := Lib.hid hf
 clear hb hf hw t1 t2 hz
 go_enter Tryz.func157, Tryz.ntmps157
 go_wp2_with fail
 ((with_reducible refine (isnan_not (Nat.le_of_lt (fin_lt HF.out)) _).mono ?_); rintro e w1 ⟨rfl, rfl⟩)
 go_wp2_with fail
 ((with_reducible refine (isinf_not HB.out (fin_lt HF.out) _).mono ?_); rintro e w1 ⟨rfl, rfl⟩)
 go_wp2_with fail
 ((with_reducible refine (trunc_anyB b HF.out _).mono ?_); rintro e w1 ⟨rfl, rfl⟩)
 go_wp2
 go_ret2
 exact ⟨rfl, rfl⟩
theorem bwhole_hi (b : Nat) (hb : b < 18446744073709551616) (hf : finB b = true) (z : Int) (hw : wholeD b = some z) (hz : 9223372036854775808 ≤ z) (w : World) : Calls Tryz.prog 157 #[.float .f64 b] w fun e w' => e = .returned (.tuple #[.int .i64 0, errN 161]) ∧ w = w' := by
 have t1 := trunc_some hb hf hw
 have r9 := ordn t1
 have r1 := ordt t1
 have r2 := ordb t1
 have t2 := test_lo hb hf hw
 rw [decide_eq_false (by omega)] at t2
 have r3 := ordf t2
 have r4 := ordb t2
 have t3 := test_hi63 hb hf hw
 have t4 : (Ieee.double.order b 4890909195324358656 == some .gt || Ieee.double.order b 4890909195324358656 == some .eq) = true := by
  rw [t3.1, t3.2]
  rcases Int.lt_or_eq_of_le hz with h | h
  ·rw [decide_eq_true h]
   rfl
  ·rw [decide_eq_true h.symm, Bool.or_true]
 have r5 : (FloatKind.f64.format.order b 4890909195324358656 == some .gt || FloatKind.f64.format.order b 4890909195324358656 == some .eq) = true := t4
 simp only [Bool.not_true] at r9
 have HB := Lib.hid hb
 have HF := Lib.hid hf
 clear hb hf hw t1 t2 t3 t4 hz
 go_enter Tryz.func157, Tryz.ntmps157
 go_wp2_with fail
 ((with_reducible refine (isnan_not (Nat.le_of_lt (fin_lt HF.out)) _).mono ?_); rintro e w1 ⟨rfl, rfl⟩)
 go_wp2_with fail
 ((with_reducible refine (isinf_not HB.out (fin_lt HF.out) _).mono ?_); rintro e w1 ⟨rfl, rfl⟩)
 go_wp2_with fail
 ((with_reducible refine (trunc_anyB b HF.out _).mono ?_); rintro e w1 ⟨rfl, rfl⟩)
 go_wp2
 go_ret2
 exact ⟨rfl, rfl⟩
theorem bwhole_y (b : Nat) (hb : b < 18446744073709551616) (hf : finB b = true) (z : Int) (hw : wholeD b = some z) (hz : -9223372036854775808 ≤ z) (hz2 : z < 9223372036854775808) (w : World) : Calls Tryz.prog 157 #[.float .f64 b] w fun e w' => e = .returned (.tuple #[.int .i64 z, .nilIface]) ∧ w = w' := by
 have t1 := trunc_some hb hf hw
 have r9 := ordn t1
 have r1 := ordt t1
 have r2 := ordb t1
 have t2 := test_lo hb hf hw
 rw [decide_eq_false (by omega)] at t2
 have r3 := ordf t2
 have r4 := ordb t2
 have t3 := test_hi63 hb hf hw
 rw [decide_eq_false (by omega), decide_eq_false (by omega)] at t3
 have r5 := ordb t3.1
 have r6 := ordb t3.2
 have r7 := ordf t3.1
 have r8 := ordf t3.2
 have q4 := flB_i64 b z (conv_i64 hb hf hw hz hz2)
 simp only [Bool.not_true] at r9
 have HB := Lib.hid hb
 have HF := Lib.hid hf
 clear hb hf hw t1 t2 t3 hz hz2
 go_enter Tryz.func157, Tryz.ntmps157
 go_wp2_with fail
 ((with_reducible refine (isnan_not (Nat.le_of_lt (fin_lt HF.out)) _).mono ?_); rintro e w1 ⟨rfl, rfl⟩)
 go_wp2_with fail
 ((with_reducible refine (isinf_not HB.out (fin_lt HF.out) _).mono ?_); rintro e w1 ⟨rfl, rfl⟩)
 go_wp2_with fail
 ((with_reducible refine (trunc_anyB b HF.out _).mono ?_); rintro e w1 ⟨rfl, rfl⟩)
 go_wp2
 go_ret2
 exact ⟨rfl, rfl⟩
theorem bcount_n (b : Nat) (hb : b < 18446744073709551616) (hf : finB b = true) (hw : wholeD b = none) (w : World) : Calls Tryz.prog 158 #[.float .f64 b] w fun e w' => e = .returned (.tuple #[.int .u64 0, errN 160]) ∧ w = w' := by
 have t1 := trunc_none hb hf hw
 have r9 := ordn t1
 have r1 := ordf t1
 have r2 := ordb t1
 simp only [Bool.not_false] at r9
 have HB := Lib.hid hb
 have HF := Lib.hid hf
 clear hb hf hw t1
 go_enter Tryz.func158, Tryz.ntmps158
 go_wp2_with fail
 ((with_reducible refine (isnan_not (Nat.le_of_lt (fin_lt HF.out)) _).mono ?_); rintro e w1 ⟨rfl, rfl⟩)
 go_wp2_with fail
 ((with_reducible refine (isinf_not HB.out (fin_lt HF.out) _).mono ?_); rintro e w1 ⟨rfl, rfl⟩)
 go_wp2_with fail
 ((with_reducible refine (trunc_anyB b HF.out _).mono ?_); rintro e w1 ⟨rfl, rfl⟩)
 go_wp2
 go_ret2
 exact ⟨rfl, rfl⟩
theorem bcount_lo (b : Nat) (hb : b < 18446744073709551616) (hf : finB b = true) (z : Int) (hw : wholeD b = some z) (hz : z < 0) (w : World) : Calls Tryz.prog 158 #[.float .f64 b] w fun e w' => e = .returned (.tuple #[.int .u64 0, errN 161]) ∧ w = w' := by
 have t1 := trunc_some hb hf hw
 have r9 := ordn t1
 have r1 := ordt t1
 have r2 := ordb t1
 have t2 := test_neg hb hf hw
 rw [decide_eq_true hz] at t2
 have r3 := ordt t2
 have r4 := ordb t2
 simp only [Bool.not_true] at r9
 have HB := Lib.hid hb
 have HF := Lib.hid hf
 clear hb hf hw t1 t2 hz
 go_enter Tryz.func158, Tryz.ntmps158
 go_wp2_with fail
 ((with_reducible refine (isnan_not (Nat.le_of_lt (fin_lt HF.out)) _).mono ?_); rintro e w1 ⟨rfl, rfl⟩)
 go_wp2_with fail
 ((with_reducible refine (isinf_not HB.out (fin_lt HF.out) _).mono ?_); rintro e w1 ⟨rfl, rfl⟩)
 go_wp2_with fail
 ((with_reducible refine (trunc_anyB b HF.out _).mono ?_); rintro e w1 ⟨rfl, rfl⟩)
 go_wp2
 go_ret2
 exact ⟨rfl, rfl⟩
theorem bcount_hi (b : Nat) (hb : b < 18446744073709551616) (hf : finB b = true) (z : Int) (hw : wholeD b = some z) (hz : 18446744073709551616 ≤ z) (w : World) : Calls Tryz.prog 158 #[.float .f64 b] w fun e w' => e = .returned (.tuple #[.int .u64 0, errN 161]) ∧ w = w' := by
 have t1 := trunc_some hb hf hw
 have r9 := ordn t1
 have r1 := ordt t1
 have r2 := ordb t1
 have t2 := test_neg hb hf hw
 rw [decide_eq_false (by omega)] at t2
 have r3 := ordf t2
 have r4 := ordb t2
 have t3 := test_hi64 hb hf hw
 have t4 : (Ieee.double.order b 4895412794951729152 == some .gt || Ieee.double.order b 4895412794951729152 == some .eq) = true := by
  rw [t3.1, t3.2]
  rcases Int.lt_or_eq_of_le hz with h | h
  ·rw [decide_eq_true h]
   rfl
  ·rw [decide_eq_true h.symm, Bool.or_true]
 have r5 : (FloatKind.f64.format.order b 4895412794951729152 == some .gt || FloatKind.f64.format.order b 4895412794951729152 == some .eq) = true := t4
 simp only [Bool.not_true] at r9
 have HB := Lib.hid hb
 have HF := Lib.hid hf
 clear hb hf hw t1 t2 t3 t4 hz
 go_enter Tryz.func158, Tryz.ntmps158
 go_wp2_with fail
 ((with_reducible refine (isnan_not (Nat.le_of_lt (fin_lt HF.out)) _).mono ?_); rintro e w1 ⟨rfl, rfl⟩)
 go_wp2_with fail
 ((with_reducible refine (isinf_not HB.out (fin_lt HF.out) _).mono ?_); rintro e w1 ⟨rfl, rfl⟩)
 go_wp2_with fail
 ((with_reducible refine (trunc_anyB b HF.out _).mono ?_); rintro e w1 ⟨rfl, rfl⟩)
 go_wp2
 go_ret2
 exact ⟨rfl, rfl⟩
theorem bcount_y (b : Nat) (hb : b < 18446744073709551616) (hf : finB b = true) (z : Int) (hw : wholeD b = some z) (hz : 0 ≤ z) (hz2 : z < 18446744073709551616) (w : World) : Calls Tryz.prog 158 #[.float .f64 b] w fun e w' => e = .returned (.tuple #[.int .u64 z, .nilIface]) ∧ w = w' := by
 have t1 := trunc_some hb hf hw
 have r9 := ordn t1
 have r1 := ordt t1
 have r2 := ordb t1
 have t2 := test_neg hb hf hw
 rw [decide_eq_false (by omega)] at t2
 have r3 := ordf t2
 have r4 := ordb t2
 have t3 := test_hi64 hb hf hw
 rw [decide_eq_false (by omega), decide_eq_false (by omega)] at t3
 have r5 := ordb t3.1
 have r6 := ordb t3.2
 have r7 := ordf t3.1
 have r8 := ordf t3.2
 have q4 := flB_u64 b z (conv_u64 hb hf hw hz hz2)
 simp only [Bool.not_true] at r9
 have HB := Lib.hid hb
 have HF := Lib.hid hf
 clear hb hf hw t1 t2 t3 hz hz2
 go_enter Tryz.func158, Tryz.ntmps158
 go_wp2_with fail
 ((with_reducible refine (isnan_not (Nat.le_of_lt (fin_lt HF.out)) _).mono ?_); rintro e w1 ⟨rfl, rfl⟩)
 go_wp2_with fail
 ((with_reducible refine (isinf_not HB.out (fin_lt HF.out) _).mono ?_); rintro e w1 ⟨rfl, rfl⟩)
 go_wp2_with fail
 ((with_reducible refine (trunc_anyB b HF.out _).mono ?_); rintro e w1 ⟨rfl, rfl⟩)
 go_wp2
 go_ret2
 exact ⟨rfl, rfl⟩
end Nd
end Go.Proofs.YtbajkglacfheiaaGreatDoor
