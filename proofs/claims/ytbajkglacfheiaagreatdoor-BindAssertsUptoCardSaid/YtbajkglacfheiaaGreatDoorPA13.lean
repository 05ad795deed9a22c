/-
  From the row's laid variables to the facts that Atoi and Itoa ask.
  Times as floats, in plain terms: the bits of a whole number below 2^53, which floats are such numbers.
  Which floats are times, by the code's own tests: what is cut off, less than nought, more than the greatest.
  Floats in plain terms: what is written of a number that a float has; a float's number in units of the least one; whole numbers.
  Floats in plain terms: whole numbers: what is cut off, conversions to and from whole numbers, bounds, sums of whole numbers, products with one and nought.
  Whole numbers in floats, in plain terms: what a kind of whole number takes, by the code's tests and by the document's.
-/
import Derived.Test.YtbajkglacfheiaaGreatDoorRows
import Derived.Test.YtbajkglacfheiaaGreatDoorPA12
import Derived.Test.YtbajkglacfheiaaGreatDoorPA1
import Derived.Stop.LaidErr
import Derived.SevenTiedAt
import Derived.Laws.FloatArith
set_option linter.unusedVariables false
set_option linter.unusedSimpArgs false
set_option maxRecDepth 100000
set_option maxHeartbeats 16000000
namespace Go.Proofs.YtbajkglacfheiaaGreatDoor
open Go.RowKit Go.Shelf
theorem star_err : "*" ++ "errors.errorString" = "*errors.errorString" := by decide
theorem row_err (u : TypeId) (h : Tryz.prog.typeName? 3 u = some "*errors.errorString") : u = 395 :=
 typeName_ptr_named (nm := "errors.errorString") (by rw [star_err]; kernel_rfl) (by kernel_rfl) (by decide) u (by rw [star_err]; exact h)
theorem glob {W : World} (h : W.ShapedOpen Tryz.prog) : Glob W := Tryz.laysM219.s1_3 W h
theorem tab_of_laid {W : World} (h : laidMetH Tryz.prog Rows.bindAssertsUptoRow.laid W) : Tab W := by
 rw [MakeChecks.laidMetH_plain _ _ _ (by kernel_rfl)] at h
 have h1 : laidMet Tryz.prog (("internal/strconv.uint64pow10", Lib.tabData .u64 Lib.pow10Tab) :: _) W := laidMet.tail (laidMet.tail h)
 have h2 := laidMet.tail (laidMet.tail h1)
 have h3 := laidMet.tail h2
 obtain ⟨a0, s0, hv0, -, -, -⟩ := laid_sentinel h2 gRan (by kernel_rfl) errI row_err Tryz.underlying395 Tryz.underlying397 rfl rfl Tryz.underlying9 (by kernel_rfl) (by kernel_rfl)
 obtain ⟨a1, s1, hv1, -, -, -⟩ := laid_sentinel h3 gSyn (by kernel_rfl) errI row_err Tryz.underlying395 Tryz.underlying397 rfl rfl Tryz.underlying9 (by kernel_rfl) (by kernel_rfl)
 exact ⟨Lib.tabIs_of_head gPow (by kernel_rfl) Tryz.underlying384 Tryz.underlying64 (by kernel_rfl) (by kernel_rfl) h1, ⟨_, _, hv1⟩, _, _, hv0⟩
end Go.Proofs.YtbajkglacfheiaaGreatDoor
namespace Go.Proofs.YtbajkglacfheiaaGreatDoor
namespace Nd
open Ieee

theorem fb : double.fractionBits = 52 := rfl
theorem lin_b (k x : Nat) (h : 4503599627370496 ≤ x) : (1022 + k) * 4503599627370496 + x = (1023 + k) * 4503599627370496 + (x - 4503599627370496) := by omega
theorem cut_none (way : Toward) (neg : Bool) (n : Nat) : way.cut neg n 0 = n := by
 unfold Toward.cut
 have h : (1 <<< min 0 (n.log2 + 2) : Nat) = 1 := by rw [Nat.zero_min]; rfl
 rw [h]
 cases way <;> simp [Nat.mod_one]
theorem log2_is {n k : Nat} (h1 : 2 ^ k ≤ n) (h2 : n < 2 ^ (k + 1)) : n.log2 = k := by
 have hn : n ≠ 0 := by have := Nat.two_pow_pos k; omega
 have a : k ≤ n.log2 := (Nat.le_log2 hn).2 h1
 have b : n.log2 < k + 1 := (Nat.log2_lt hn).2 h2
 omega
theorem log2_of {n : Nat} (hn : n ≠ 0) : 2 ^ n.log2 ≤ n ∧ n < 2 ^ (n.log2 + 1) := ⟨Nat.log2_self_le hn, Nat.lt_log2_self⟩
theorem pow_split {k : Nat} (hk : k ≤ 52) : 2 ^ k * 2 ^ (52 - k) = 4503599627370496 := by
 rw [← Nat.pow_add]
 have : k + (52 - k) = 52 := by omega
 rw [this]
def bitsT (n : Nat) : Nat := if n = 0 then 0 else (1022 + n.log2) * 4503599627370496 + n * 2 ^ (52 - n.log2)
theorem log_lt {n : Nat} (hn : n ≠ 0) (h : n < 9007199254740992) : n.log2 ≤ 52 := by
 have := (Nat.log2_lt hn (k := 53)).2 (by simpa using h)
 omega
theorem bitsT_form {n : Nat} (hn : n ≠ 0) (h : n < 9007199254740992) : ∃ k f, k ≤ 52 ∧ n.log2 = k ∧ f < 4503599627370496 ∧ n * 2 ^ (52 - k) = 4503599627370496 + f ∧ bitsT n = (1023 + k) * 4503599627370496 + f := by
 obtain ⟨a, b⟩ := log2_of hn
 have hk := log_lt hn h
 have hp := pow_split hk
 have hlo : 4503599627370496 ≤ n * 2 ^ (52 - n.log2) := by rw [← hp]; exact Nat.mul_le_mul_right _ a
 have hhi : n * 2 ^ (52 - n.log2) < 9007199254740992 := by
  have h3 : n * 2 ^ (52 - n.log2) < 2 ^ (n.log2 + 1) * 2 ^ (52 - n.log2) := Nat.mul_lt_mul_of_pos_right b (Nat.two_pow_pos _)
  rw [Nat.pow_succ, Nat.mul_assoc, Nat.mul_comm 2, ← Nat.mul_assoc, hp] at h3
  omega
 refine ⟨n.log2, n * 2 ^ (52 - n.log2) - 4503599627370496, hk, rfl, by omega, by omega, ?_⟩
 unfold bitsT
 rw [if_neg hn]
 exact lin_b _ _ hlo
end Nd
end Go.Proofs.YtbajkglacfheiaaGreatDoor
namespace Go.Proofs.YtbajkglacfheiaaGreatDoor
namespace Nd
open Ieee

def truncB (b : Nat) : Nat := double.write ((double.read b).integral .zero)
theorem cmp_gt {a b : Int} (h : b < a) : compare a b = .gt := by
 unfold compare instOrdInt compareOfLessAndEq
 simp only
 rw [if_neg (by omega), if_neg (by omega)]
theorem cmp_lt {a b : Int} (h : a < b) : compare a b = .lt := by
 unfold compare instOrdInt compareOfLessAndEq
 simp only
 rw [if_pos h]
end Nd
end Go.Proofs.YtbajkglacfheiaaGreatDoor
namespace Go.Proofs.YtbajkglacfheiaaGreatDoor
namespace Nd
open Ieee

def SameV (m : Nat) (p : Int) (M : Nat) (L : Int) : Prop := m * 2 ^ (p - min p L).toNat = M * 2 ^ (L - min p L).toNat
structure Canon (M : Nat) (L : Int) : Prop where
 hi : M < 9007199254740992
 lo : 4503599627370496 ≤ M ∨ L = -1074
 l1 : -1074 ≤ L
 l2 : L ≤ 971
theorem log2_shift {n : Nat} (hn : n ≠ 0) (k : Nat) : (n * 2 ^ k).log2 = n.log2 + k := by
 obtain ⟨a, b⟩ := log2_of hn
 apply log2_is
 ·rw [Nat.pow_add]
  exact Nat.mul_le_mul_right _ a
 ·have e : n.log2 + k + 1 = (n.log2 + 1) + k := by omega
  rw [e, Nat.pow_add]
  exact Nat.mul_lt_mul_of_pos_right b (Nat.two_pow_pos _)
theorem cut_even_pow {M : Nat} (hM : M ≠ 0) (d : Nat) (s : Bool) : Toward.even.cut s (M * 2 ^ d) d = M := by
 unfold Toward.cut
 have h : min d ((M * 2 ^ d).log2 + 2) = d := by rw [log2_shift hM]; omega
 have hp := Nat.two_pow_pos d
 rw [h]
 have e1 : (1 <<< d : Nat) = 2 ^ d := by rw [Nat.shiftLeft_eq, Nat.one_mul]
 have e2 : M * 2 ^ d % 2 ^ d = 0 := Nat.mul_mod_left _ _
 have e3 : M * 2 ^ d / 2 ^ d = M := Nat.mul_div_cancel _ hp
 rw [e1]
 simp only [e2, e3, Nat.mul_zero]
 have e4 : (2 ^ d == 0) = false := by rw [beq_eq_false_iff_ne]; omega
 have e5 : decide (2 ^ d < 0) = false := decide_eq_false (by omega)
 rw [e4, e5]
 rfl
theorem sameV_ne {m M : Nat} {p L : Int} (h : SameV m p M L) (hM : M ≠ 0) : m ≠ 0 := by
 intro e
 subst e
 unfold SameV at h
 rw [Nat.zero_mul] at h
 exact Nat.mul_ne_zero hM (Nat.pos_iff_ne_zero.1 (Nat.two_pow_pos (L - min p L).toNat)) h.symm
theorem rung_lt {E M : Nat} (hE : E ≤ 2045) (h1 : M < 9007199254740992) : E * 4503599627370496 + M < 9218868437227405312 := by
 have := Nat.mul_le_mul_right 4503599627370496 hE
 omega
theorem lin_1 (M : Nat) (h : ¬ M < 4503599627370496) : 4503599627370496 + (M - 4503599627370496) = M := by omega
theorem lin_2 (E F : Nat) : E * 4503599627370496 + 4503599627370496 + F = E * 4503599627370496 + (4503599627370496 + F) := by omega
theorem near_eq {M : Nat} {L : Int} (hc : Canon M L) (hM : M ≠ 0) {m : Nat} {p : Int} (h : SameV m p M L) (s : Bool) : double.nearest s m p = double.word s ((L + 1074).toNat * 4503599627370496 + M) := by
 obtain ⟨h1, h2, h3, h4⟩ := hc
 have hm := sameV_ne h hM
 have hlog : p + (m.log2 : Int) = L + (M.log2 : Int) := by
  have e := congrArg Nat.log2 h
  rw [log2_shift hm, log2_shift hM] at e
  omega
 have hlast : max (p + (m.log2 : Int) - ((52 : Nat) : Int)) (-1074) = L := by
  rw [hlog]
  rcases h2 with h2 | h2
  ·have e : M.log2 = 52 := log2_is (by simpa using h2) (by simpa using h1)
   rw [e]
   omega
  ·have := log_lt hM h1
   omega
 have hk : Toward.even.cut s (m <<< (p - L).toNat) (L - p).toNat = M := by
  rw [Nat.shiftLeft_eq]
  unfold SameV at h
  rcases Int.le_total L p with hle | hle
  ·have e1 : min p L = L := by omega
   rw [e1] at h
   have e2 : (L - L).toNat = 0 := by omega
   have e3 : (L - p).toNat = 0 := by omega
   rw [e2, Nat.pow_zero, Nat.mul_one] at h
   rw [h, e3, cut_none]
  ·have e1 : min p L = p := by omega
   rw [e1] at h
   have e2 : (p - p).toNat = 0 := by omega
   have e3 : (p - L).toNat = 0 := by omega
   rw [e2, Nat.pow_zero, Nat.mul_one] at h
   rw [e3, Nat.pow_zero, Nat.mul_one, h]
   exact cut_even_pow hM _ s
 unfold Format.nearest
 rw [if_neg hm]
 simp only [lp, bn, ir, fb]
 rw [hlast, hk]
 have e4 : L - -1074 = L + 1074 := by omega
 rw [e4, Nat.min_eq_left]
 have e5 : (L + 1074).toNat ≤ 2045 := by omega
 exact Nat.le_of_lt (rung_lt e5 h1)
theorem word_true (r : Nat) : double.word true r = 9223372036854775808 + r := by
 unfold Format.word
 rw [sw, if_pos rfl]
theorem word_false (r : Nat) : double.word false r = r := by
 unfold Format.word
 rw [if_neg (by simp)]
theorem word_parts (s : Bool) {r : Nat} (hr : r < 9223372036854775808) : (double.word s r / 9223372036854775808 % 2 == 1) = s ∧ double.word s r % 9223372036854775808 = r := by
 cases s
 ·rw [word_false, Nat.div_eq_of_lt hr]
  exact ⟨rfl, Nat.mod_eq_of_lt hr⟩
 ·rw [word_true]
  have e1 : (9223372036854775808 + r) / 9223372036854775808 = 1 := by omega
  have e2 : (9223372036854775808 + r) % 9223372036854775808 = r := by omega
  rw [e1, e2]
  exact ⟨rfl, rfl⟩
theorem read_canon {M : Nat} {L : Int} (hc : Canon M L) (s : Bool) : double.read (double.word s ((L + 1074).toNat * 4503599627370496 + M)) = .number s M L := by
 obtain ⟨h1, h2, h3, h4⟩ := hc
 obtain ⟨E, hE⟩ : ∃ E : Nat, L = -1074 + (E : Int) := ⟨(L + 1074).toNat, by omega⟩
 subst hE
 have e0 : (-1074 + (E : Int) + 1074).toNat = E := by omega
 rw [e0]
 have hr := rung_lt (E := E) (by omega) h1
 obtain ⟨w1, w2⟩ := word_parts s (r := E * 4503599627370496 + M) (by omega)
 unfold Format.read
 simp only [sw, ir, bn, lp, w1, w2]
 by_cases hlo : M < 4503599627370496
 ·have : E = 0 := by omega
  subst this
  rw [if_pos (by omega)]
  simp
 ·have hge : 4503599627370496 ≤ E * 4503599627370496 + M := by omega
  rw [if_neg (by omega), if_pos hr]
  have e1 : E * 4503599627370496 + M = (M - 4503599627370496) + (E + 1) * 4503599627370496 := by
   rw [Nat.add_mul, Nat.one_mul]
   omega
  have e2 : (E * 4503599627370496 + M) / 4503599627370496 = E + 1 := by
   rw [e1, Nat.add_mul_div_right _ _ (by omega), Nat.div_eq_of_lt (by omega), Nat.zero_add]
  have e3 : (E * 4503599627370496 + M) % 4503599627370496 = M - 4503599627370496 := by
   rw [e1, Nat.add_mul_mod_self_right, Nat.mod_eq_of_lt (by omega)]
  have e4 : E + 1 - 1 = E := by omega
  rw [e2, e3, lin_1 M hlo, e4]
theorem read_fform {b : Nat} (hb : b < 18446744073709551616) (hf : finB b = true) : ∃ s M L, double.read b = .number s M L ∧ Canon M L ∧ b = double.word s ((L + 1074).toNat * 4503599627370496 + M) := by
 have hfin : b % 9223372036854775808 < 9218868437227405312 := of_decide_eq_true hf
 obtain ⟨r, hr⟩ : ∃ r, b % 9223372036854775808 = r := ⟨_, rfl⟩
 have hword : b = double.word (b / 9223372036854775808 % 2 == 1) r := by
  by_cases hs : b < 9223372036854775808
  ·have e : (b / 9223372036854775808 % 2 == 1) = false := by rw [Nat.div_eq_of_lt hs]; rfl
   rw [e, word_false]
   omega
  ·have e1 : b / 9223372036854775808 = 1 := by omega
   have e : (b / 9223372036854775808 % 2 == 1) = true := by rw [e1]; rfl
   rw [e, word_true]
   omega
 rw [hr] at hfin
 generalize (b / 9223372036854775808 % 2 == 1) = s at hword
 by_cases h1 : r < 4503599627370496
 ·have hc : Canon r (-1074) := ⟨by omega, .inr rfl, by omega, by omega⟩
  have hb2 : b = double.word s ((-1074 + 1074 : Int).toNat * 4503599627370496 + r) := by
   rw [hword]
   simp
  refine ⟨s, r, -1074, ?_, hc, hb2⟩
  rw [hb2]
  exact read_canon hc s
 ·obtain ⟨E, F, hF, hrE⟩ : ∃ E F, F < 4503599627370496 ∧ r = (E + 1) * 4503599627370496 + F := by
   refine ⟨r / 4503599627370496 - 1, r % 4503599627370496, Nat.mod_lt _ (by omega), ?_⟩
   have h2 : 1 ≤ r / 4503599627370496 := by omega
   have h3 := Nat.div_add_mod r 4503599627370496
   have h4 : r / 4503599627370496 - 1 + 1 = r / 4503599627370496 := by omega
   rw [h4]
   omega
  have hE : E ≤ 2045 := by
   apply Classical.byContradiction
   intro hc
   have : 2047 * 4503599627370496 ≤ (E + 1) * 4503599627370496 := Nat.mul_le_mul_right _ (by omega)
   omega
  have hc : Canon (4503599627370496 + F) (-1074 + (E : Int)) := ⟨by omega, .inl (by omega), by omega, by omega⟩
  have hb2 : b = double.word s ((-1074 + (E : Int) + 1074).toNat * 4503599627370496 + (4503599627370496 + F)) := by
   have e0 : (-1074 + (E : Int) + 1074).toNat = E := by omega
   rw [e0, hword, hrE, Nat.add_mul, Nat.one_mul, lin_2]
  refine ⟨s, _, _, ?_, hc, hb2⟩
  rw [hb2]
  exact read_canon hc s
theorem word_zero_fin (s : Bool) : finB (double.word s 0) = true := by cases s <;> decide
theorem write_same {b : Nat} (hb : b < 18446744073709551616) {s : Bool} {M : Nat} {L : Int} (hf : finB b = true) (hr : double.read b = .number s M L) (hM : M ≠ 0) {m : Nat} {p : Int} (h : SameV m p M L) : double.write (.number s m p) = b := by
 obtain ⟨s', M', L', hr', hc, hb2⟩ := read_fform hb hf
 rw [hr] at hr'
 injection hr' with e1 e2 e3
 subst e1 e2 e3
 show double.nearest s m p = b
 rw [near_eq hc hM h s, ← hb2]
theorem same_low {m M : Nat} {p L : Int} (hp : -1074 ≤ p) (hL : -1074 ≤ L) (h : m * 2 ^ (p + 1074).toNat = M * 2 ^ (L + 1074).toNat) : SameV m p M L := by
 unfold SameV
 have e1 : (p + 1074).toNat = (p - min p L).toNat + (min p L + 1074).toNat := by omega
 have e2 : (L + 1074).toNat = (L - min p L).toNat + (min p L + 1074).toNat := by omega
 rw [e1, e2, Nat.pow_add, Nat.pow_add, ← Nat.mul_assoc, ← Nat.mul_assoc] at h
 exact Nat.eq_of_mul_eq_mul_right (Nat.two_pow_pos _) h
theorem low_same {m M : Nat} {p L : Int} (hp : -1074 ≤ p) (hL : -1074 ≤ L) (h : SameV m p M L) : m * 2 ^ (p + 1074).toNat = M * 2 ^ (L + 1074).toNat := by
 unfold SameV at h
 have e1 : (p + 1074).toNat = (p - min p L).toNat + (min p L + 1074).toNat := by omega
 have e2 : (L + 1074).toNat = (L - min p L).toNat + (min p L + 1074).toNat := by omega
 rw [e1, e2, Nat.pow_add, Nat.pow_add, ← Nat.mul_assoc, ← Nat.mul_assoc, h]

/-! ### a float's number, in units of the least one -/
def magV (m : Nat) (p : Int) : Nat := m * 2 ^ (p + 1074).toNat
def fvalV (s : Bool) (m : Nat) (p : Int) : Int := if s then -((magV m p : Nat) : Int) else ((magV m p : Nat) : Int)
def valB (b : Nat) : Int := match double.read b with
 | .number s m p => fvalV s m p
 | _ => 0
theorem valB_of {b : Nat} {s : Bool} {m : Nat} {p : Int} (h : double.read b = .number s m p) : valB b = fvalV s m p := by
 unfold valB
 rw [h]
theorem signed_eq (s : Bool) (m u : Nat) : signed s m u = if s then -((m * 2 ^ u : Nat) : Int) else ((m * 2 ^ u : Nat) : Int) := by
 unfold signed
 rw [Nat.shiftLeft_eq]
theorem signed_val (s : Bool) (m : Nat) (p B : Int) (hB : B ≤ p) (hl : -1074 ≤ B) : signed s m (p - B).toNat * ((2 ^ (B + 1074).toNat : Nat) : Int) = fvalV s m p := by
 have e : (p + 1074).toNat = (p - B).toNat + (B + 1074).toNat := by omega
 have e2 : m * 2 ^ (p - B).toNat * 2 ^ (B + 1074).toNat = magV m p := by
  unfold magV
  rw [e, Nat.pow_add, Nat.mul_assoc]
 rw [signed_eq]
 unfold fvalV
 rw [← e2]
 cases s
 ·simp only [Bool.false_eq_true, if_false]
  rw [← Int.natCast_mul]
 ·simp only [if_true]
  rw [Int.neg_mul, ← Int.natCast_mul]
theorem cmp_scale {a b : Int} {k : Int} (hk : 0 < k) : compare (a * k) (b * k) = compare a b := by
 rcases Int.lt_trichotomy a b with h | h | h
 ·rw [cmp_lt h, cmp_lt (Int.mul_lt_mul_of_pos_right h hk)]
 ·rw [h]
  simp
 ·rw [cmp_gt h, cmp_gt (Int.mul_lt_mul_of_pos_right h hk)]
theorem order_val {b c : Nat} (hb : b < 18446744073709551616) (hc : c < 18446744073709551616) (fb : finB b = true) (fc : finB c = true) : double.order b c = some (compare (valB b) (valB c)) := by
 obtain ⟨s, M, L, r1, c1, _⟩ := read_fform hb fb
 obtain ⟨t, N, K, r2, c2, _⟩ := read_fform hc fc
 have l1 := c1.l1
 have l2 := c2.l1
 rw [valB_of r1, valB_of r2]
 unfold Format.order
 rw [r1, r2]
 unfold Datum.order
 simp only
 rw [← signed_val s M L (min L K) (by omega) (by omega), ← signed_val t N K (min L K) (by omega) (by omega), cmp_scale]
 have := Nat.two_pow_pos (min L K + 1074).toNat
 omega
theorem val_zero {b : Nat} (hb : b < 18446744073709551616) (hf : finB b = true) : valB b = 0 ↔ b % 9223372036854775808 = 0 := by
 obtain ⟨s, M, L, r1, c1, hw⟩ := read_fform hb hf
 rw [valB_of r1]
 have hr := rung_lt (E := (L + 1074).toNat) (M := M) (by have := c1.l1; have := c1.l2; omega) c1.hi
 obtain ⟨w1, w2⟩ := word_parts s (r := (L + 1074).toNat * 4503599627370496 + M) (by omega)
 rw [← hw] at w2
 rw [w2]
 have hpos := Nat.two_pow_pos (L + 1074).toNat
 have hv : fvalV s M L = 0 ↔ M = 0 := by
  unfold fvalV magV
  constructor
  ·intro h
   apply Classical.byContradiction
   intro hM
   have := Nat.mul_ne_zero hM (Nat.pos_iff_ne_zero.1 hpos)
   cases s
   ·simp only [Bool.false_eq_true, if_false] at h
    omega
   ·simp only [if_true] at h
    omega
  ·intro h
   subst h
   cases s <;> simp
 rw [hv]
 constructor
 ·intro h
  subst h
  rcases c1.lo with h | h
  ·omega
  ·rw [h]
   simp
 ·omega
theorem write_val {c : Nat} (hc : c < 18446744073709551616) (fc : finB c = true) (h0 : valB c ≠ 0) {s : Bool} {m : Nat} {p : Int} (hp : -1074 ≤ p) (h : fvalV s m p = valB c) : double.write (.number s m p) = c := by
 obtain ⟨t, N, K, r2, c2, hw2⟩ := read_fform hc fc
 rw [valB_of r2] at h h0
 have hst : s = t ∧ magV m p = magV N K ∧ magV N K ≠ 0 := by
  unfold fvalV at h h0
  cases s <;> cases t <;> simp only [Bool.false_eq_true, if_false, if_true] at h h0 <;> refine ⟨by first | rfl | (exfalso; omega), by omega, by omega⟩
 obtain ⟨rfl, hm, hm0⟩ := hst
 have hN : N ≠ 0 := by
  rintro rfl
  unfold magV at hm0
  simp at hm0
 exact write_same hc fc r2 hN (same_low hp c2.l1 hm)
theorem write_word_zero (s : Bool) (p : Int) : double.write (.number s 0 p) = double.word s 0 := by
 show double.nearest s 0 p = _
 unfold Format.nearest
 rw [if_pos rfl]
theorem val_word_zero (s : Bool) : valB (double.word s 0) = 0 := (val_zero (by cases s <;> decide) (word_zero_fin s)).2 (by cases s <;> decide)

/-! ### sums -/
end Nd
end Go.Proofs.YtbajkglacfheiaaGreatDoor
namespace Go.Proofs.YtbajkglacfheiaaGreatDoor
namespace Nd
open Ieee

def X74 : Nat := 1074
def U : Nat := 2 ^ X74
theorem U_pos : 0 < U := Nat.two_pow_pos X74
theorem magV_nat (q : Nat) : magV q 0 = q * U := by
 have e : ((0 : Int) + 1074).toNat = X74 := by decide
 unfold magV U
 rw [e]
theorem cut_zero_div (s : Bool) (m d : Nat) : Toward.zero.cut s m d = m / 2 ^ d := by
 unfold Toward.cut
 simp only [Nat.shiftLeft_eq, Nat.one_mul]
 have e : m / 2 ^ min d (m.log2 + 2) = m / 2 ^ d := by
  by_cases hd : d ≤ m.log2 + 2
  ·rw [Nat.min_eq_left hd]
  ·rw [Nat.min_eq_right (by omega)]
   have h1 : m < 2 ^ (m.log2 + 2) := Nat.lt_trans Nat.lt_log2_self (Nat.pow_lt_pow_right (by omega) (by omega))
   have h2 : m < 2 ^ d := Nat.lt_of_lt_of_le h1 (Nat.pow_le_pow_right (by omega) (by omega))
   rw [Nat.div_eq_of_lt h1, Nat.div_eq_of_lt h2]
 rw [e]
 rfl
theorem integral_cases {b : Nat} {s : Bool} {M : Nat} {L : Int} (hr : double.read b = .number s M L) : ∃ q, (double.read b).integral .zero = .number s q 0 ∧ (0 ≤ L → q = M * 2 ^ L.toNat) ∧ (L < 0 → q = M / 2 ^ (-L).toNat) := by
 rw [hr]
 refine ⟨Toward.zero.cut s (M <<< L.toNat) (-L).toNat, rfl, fun h => ?_, fun h => ?_⟩
 ·rw [cut_zero_div, Nat.shiftLeft_eq]
  have e : (-L).toNat = 0 := by omega
  rw [e, Nat.pow_zero, Nat.div_one]
 ·rw [cut_zero_div, Nat.shiftLeft_eq]
  have e : L.toNat = 0 := by omega
  rw [e, Nat.pow_zero, Nat.mul_one]
theorem x74 : X74 = 1074 := rfl
theorem pow_join {L : Int} (h1 : -1074 ≤ L) (h2 : L < 0) : 2 ^ (-L).toNat * 2 ^ (L + 1074).toNat = U := by
 have e : (-L).toNat + (L + 1074).toNat = X74 := by have := x74; omega
 rw [← Nat.pow_add, e]
 rfl
theorem pow_up {L : Int} (h : 0 ≤ L) : 2 ^ (L + 1074).toNat = 2 ^ L.toNat * U := by
 have e : (L + 1074).toNat = L.toNat + X74 := by have := x74; omega
 rw [e, Nat.pow_add]
 rfl
theorem part_le {M q : Nat} {L : Int} (hl : -1074 ≤ L) (h1 : 0 ≤ L → q = M * 2 ^ L.toNat) (h2 : L < 0 → q = M / 2 ^ (-L).toNat) : magV M L = q * U + magV M L % U ∧ magV M L / U = q := by
 have hq : magV M L / U = q := by
  by_cases h : 0 ≤ L
  ·unfold magV
   rw [pow_up h, ← Nat.mul_assoc, ← h1 h, Nat.mul_div_cancel _ U_pos]
  ·unfold magV
   rw [h2 (by omega), ← pow_join hl (by omega), Nat.mul_comm (2 ^ (-L).toNat), ← Nat.div_div_eq_div_mul, Nat.mul_div_cancel _ (Nat.two_pow_pos _)]
 refine ⟨?_, hq⟩
 have := Nat.div_add_mod (magV M L) U
 rw [hq, Nat.mul_comm] at this
 exact this.symm
theorem canon_nat {q : Nat} (hq : q ≠ 0) (h : q < 9007199254740992) : Canon (q * 2 ^ (52 - q.log2)) ((q.log2 : Int) - 52) ∧ SameV q 0 (q * 2 ^ (52 - q.log2)) ((q.log2 : Int) - 52) := by
 obtain ⟨k, f, hk, hl, hf, hm, _⟩ := bitsT_form hq h
 rw [hl, hm]
 refine ⟨⟨by omega, .inl (by omega), by omega, by omega⟩, ?_⟩
 unfold SameV
 have e1 : min (0 : Int) ((k : Int) - 52) = (k : Int) - 52 := by omega
 have e2 : ((0 : Int) - ((k : Int) - 52)).toNat = 52 - k := by omega
 have e3 : ((k : Int) - 52 - ((k : Int) - 52)).toNat = 0 := by omega
 rw [e1, e2, e3, hm, Nat.pow_zero, Nat.mul_one]
theorem write_lt64 (d : Datum) : double.write d < 18446744073709551616 := double.write_lt d
theorem rung_fin {M : Nat} {L : Int} (hc : Canon M L) (s : Bool) : finB (double.word s ((L + 1074).toNat * 4503599627370496 + M)) = true := by
 have hr := rung_lt (E := (L + 1074).toNat) (M := M) (by have := hc.l1; have := hc.l2; omega) hc.hi
 obtain ⟨_, w2⟩ := word_parts s (r := (L + 1074).toNat * 4503599627370496 + M) (by omega)
 unfold finB
 rw [w2]
 exact decide_eq_true hr
theorem write_small (s : Bool) {q : Nat} (h : q < 9007199254740992) : finB (double.write (.number s q 0)) = true ∧ valB (double.write (.number s q 0)) = fvalV s q 0 := by
 by_cases hq : q = 0
 ·subst hq
  rw [write_word_zero]
  refine ⟨word_zero_fin s, ?_⟩
  rw [val_word_zero]
  unfold fvalV magV
  rw [Nat.zero_mul]
  cases s <;> rfl
 ·obtain ⟨hc, hs⟩ := canon_nat hq h
  have e : double.write (.number s q 0) = _ := near_eq hc (fun e => by
   have := sameV_ne (m := q * 2 ^ (52 - q.log2)) (p := (q.log2 : Int) - 52) (M := q) (L := 0) (by unfold SameV at hs ⊢; rw [Int.min_comm]; exact hs.symm) hq
   exact this e) hs s
  rw [e]
  refine ⟨rung_fin hc s, ?_⟩
  rw [valB_of (read_canon hc s)]
  unfold fvalV
  have := low_same (by omega) (by have := hc.l1; omega) hs
  unfold magV
  rw [this]
theorem trunc_val {b : Nat} (hb : b < 18446744073709551616) (hf : finB b = true) {s : Bool} {M : Nat} {L : Int} (hr : double.read b = .number s M L) : finB (truncB b) = true ∧ valB (truncB b) = fvalV s (magV M L / U) 0 := by
 obtain ⟨s', M', L', hr', hc, hw⟩ := read_fform hb hf
 have hr2 := hr
 rw [hr] at hr'
 injection hr' with e1 e2 e3
 subst e1 e2 e3
 obtain ⟨q, hq, h1, h2⟩ := integral_cases hr2
 have hpl := part_le hc.l1 h1 h2
 rw [hpl.2]
 have ht : truncB b = double.write (.number s q 0) := by unfold truncB; rw [hq]
 rw [ht]
 by_cases hL : 0 ≤ L
 ·by_cases hM : M = 0
  ·have : q = 0 := by rw [h1 hL, hM, Nat.zero_mul]
   rw [this]
   exact write_small s (by omega)
  ·have hs : SameV q 0 M L := by
    unfold SameV
    have e1 : min (0 : Int) L = 0 := by omega
    rw [e1, h1 hL]
    have e2 : ((0 : Int) - 0).toNat = 0 := by omega
    rw [e2, Int.sub_zero, Nat.pow_zero, Nat.mul_one]
   rw [write_same hb hf hr2 hM hs]
   refine ⟨hf, ?_⟩
   rw [valB_of hr2]
   have := low_same (by omega) hc.l1 hs
   unfold fvalV
   have e : magV q 0 = magV M L := this
   rw [e]
 ·refine write_small s ?_
  rw [h2 (by omega)]
  exact Nat.lt_of_le_of_lt (Nat.div_le_self _ _) hc.hi
theorem trunc_order {b : Nat} (hb : b < 18446744073709551616) (hf : finB b = true) : (double.order (truncB b) b == some .eq) = decide (valB b % (U : Int) = 0) := by
 obtain ⟨s, M, L, hr, hc, hw⟩ := read_fform hb hf
 obtain ⟨t1, t2⟩ := trunc_val hb hf hr
 have t3 : truncB b < 18446744073709551616 := write_lt64 _
 rw [order_val t3 hb t1 hf, t2, valB_of hr]
 have hU := U_pos
 have hd := Nat.div_add_mod (magV M L) U
 have hlt := Nat.mod_lt (magV M L) hU
 have hv : fvalV s (magV M L / U) 0 = fvalV s M L ↔ magV M L % U = 0 := by
  unfold fvalV
  rw [magV_nat, Nat.mul_comm]
  cases s <;> simp only [Bool.false_eq_true, if_false, if_true] <;> omega
 have hm : fvalV s M L % (U : Int) = 0 ↔ magV M L % U = 0 := by
  unfold fvalV
  cases s
  ·simp only [Bool.false_eq_true, if_false]
   omega
  ·simp only [if_true]
   rw [← Int.dvd_iff_emod_eq_zero, Int.dvd_neg, Int.dvd_iff_emod_eq_zero]
   omega
 by_cases h : magV M L % U = 0
 ·rw [hv.2 h, decide_eq_true (hm.2 h)]
  simp
 ·rw [decide_eq_false (fun x => h (hm.1 x))]
  have hne : fvalV s (magV M L / U) 0 ≠ fvalV s M L := fun x => h (hv.1 x)
  rcases Int.lt_or_gt_of_ne hne with h | h
  ·rw [cmp_lt h]
   rfl
  ·rw [cmp_gt h]
   rfl
theorem order_lt {b c : Nat} (hb : b < 18446744073709551616) (hc : c < 18446744073709551616) (fb : finB b = true) (fc : finB c = true) : (double.order b c == some .lt) = decide (valB b < valB c) := by
 rw [order_val hb hc fb fc]
 rcases Int.lt_trichotomy (valB b) (valB c) with h | h | h
 ·rw [cmp_lt h, decide_eq_true h]
  rfl
 ·rw [h, decide_eq_false (by omega)]
  simp
 ·rw [cmp_gt h, decide_eq_false (by omega)]
  rfl
theorem order_gt {b c : Nat} (hb : b < 18446744073709551616) (hc : c < 18446744073709551616) (fb : finB b = true) (fc : finB c = true) : (double.order b c == some .gt) = decide (valB c < valB b) := by
 rw [order_val hb hc fb fc]
 rcases Int.lt_trichotomy (valB b) (valB c) with h | h | h
 ·rw [cmp_lt h, decide_eq_false (by omega)]
  rfl
 ·rw [h, decide_eq_false (by omega)]
  simp
 ·rw [cmp_gt h, decide_eq_true h]
  rfl
theorem order_eq {b c : Nat} (hb : b < 18446744073709551616) (hc : c < 18446744073709551616) (fb : finB b = true) (fc : finB c = true) : (double.order b c == some .eq) = decide (valB b = valB c) := by
 rw [order_val hb hc fb fc]
 rcases Int.lt_trichotomy (valB b) (valB c) with h | h | h
 ·rw [cmp_lt h, decide_eq_false (by omega)]
  rfl
 ·rw [h, decide_eq_true rfl]
  simp
 ·rw [cmp_gt h, decide_eq_false (by omega)]
  rfl
/-! ### bounds -/
theorem val_pow (s : Bool) (k : Nat) (hk : k ≤ 971 + 52) (h5 : 52 ≤ k) : fvalV s 4503599627370496 ((k : Int) - 52) = if s then -((2 ^ k * U : Nat) : Int) else ((2 ^ k * U : Nat) : Int) := by
 unfold fvalV
 have e : magV 4503599627370496 ((k : Int) - 52) = 2 ^ k * U := by
  unfold magV
  have e1 : (4503599627370496 : Nat) = 2 ^ 52 := by decide
  have e2 : ((k : Int) - 52 + 1074).toNat = (k - 52) + X74 := by have := x74; omega
  have e3 : 52 + (k - 52) = k := by omega
  rw [e1, e2, Nat.pow_add 2 (k - 52), ← Nat.mul_assoc, ← Nat.pow_add, e3]
  rfl
 rw [e]
theorem lo63 : finB 14114281232179134464 = true ∧ valB 14114281232179134464 = -9223372036854775808 * (U : Int) := by
 refine ⟨by decide, ?_⟩
 have h : double.read 14114281232179134464 = .number true 4503599627370496 (((63 : Nat) : Int) - 52) := by decide
 rw [valB_of h, val_pow true 63 (by omega) (by omega), if_pos rfl, Int.natCast_mul]
 have e : ((2 ^ 63 : Nat) : Int) = 9223372036854775808 := by decide
 rw [e, Int.neg_mul]
theorem hi63 : finB 4890909195324358656 = true ∧ valB 4890909195324358656 = 9223372036854775808 * (U : Int) := by
 refine ⟨by decide, ?_⟩
 have h : double.read 4890909195324358656 = .number false 4503599627370496 (((63 : Nat) : Int) - 52) := by decide
 rw [valB_of h, val_pow false 63 (by omega) (by omega), if_neg (by simp), Int.natCast_mul]
 have e : ((2 ^ 63 : Nat) : Int) = 9223372036854775808 := by decide
 rw [e]
theorem hi64 : finB 4895412794951729152 = true ∧ valB 4895412794951729152 = 18446744073709551616 * (U : Int) := by
 refine ⟨by decide, ?_⟩
 have h : double.read 4895412794951729152 = .number false 4503599627370496 (((64 : Nat) : Int) - 52) := by decide
 rw [valB_of h, val_pow false 64 (by omega) (by omega), if_neg (by simp), Int.natCast_mul]
 have e : ((2 ^ 64 : Nat) : Int) = 18446744073709551616 := by decide
 rw [e]
theorem val_nought : valB 0 = 0 := (val_zero (by decide) (by decide)).2 (by decide)
theorem to_int {b : Nat} (hb : b < 18446744073709551616) (hf : finB b = true) {z : Int} (hz : valB b = z * (U : Int)) (k : IntKind) (h1 : k.min ≤ z) (h2 : z ≤ k.max) : floatToIntVal .f64 b k = some z := by
 obtain ⟨s, M, L, hr, hc, hw⟩ := read_fform hb hf
 obtain ⟨q, hq, g1, g2⟩ := integral_cases hr
 have hpl := part_le hc.l1 g1 g2
 have hU := U_pos
 have hzq : signed s q 0 = z := by
  rw [valB_of hr] at hz
  unfold fvalV at hz
  rw [signed_eq, Nat.pow_zero, Nat.mul_one]
  have hm : magV M L = z.natAbs * U := by
   have h9 : (magV M L : Int).natAbs = (z * (U : Int)).natAbs := by
    rw [← hz]
    cases s <;> simp
   rw [Int.natAbs_mul] at h9
   simpa using h9
  have hqz : q = z.natAbs := by rw [← hpl.2, hm, Nat.mul_div_cancel _ hU]
  rw [hm] at hz
  cases s
  ·simp only [Bool.false_eq_true, if_false] at hz ⊢
   have : 0 ≤ z := by
    apply Classical.byContradiction
    intro hc
    have h8 : z * (U : Int) < 0 := Int.mul_neg_of_neg_of_pos (by omega) (by omega)
    rw [← hz] at h8
    omega
   omega
  ·simp only [if_true] at hz ⊢
   have : z ≤ 0 := by
    apply Classical.byContradiction
    intro hc
    have h8 : 0 < z * (U : Int) := Int.mul_pos (by omega) (by omega)
    rw [← hz] at h8
    omega
   omega
 have ht : (FloatKind.f64.decode b).toInt .zero = some z := by
  show Datum.toInt .zero (double.read b) = _
  unfold Datum.toInt
  rw [hq]
  simp only [hzq]
 unfold floatToIntVal
 rw [ht]
 simp only
 rw [if_pos ⟨h1, h2⟩]
theorem of_int {b : Nat} (hb : b < 18446744073709551616) (hf : finB b = true) {z : Int} (hz : valB b = z * (U : Int)) (h0 : z = 0 → b = 0) : floatOfInt .f64 z = b := by
 show double.write (.number (decide (z < 0)) z.natAbs 0) = b
 by_cases hzz : z = 0
 ·rw [h0 hzz, hzz]
  exact write_word_zero false 0
 ·have hU := U_pos
  have hne : valB b ≠ 0 := by
   rw [hz]
   exact Int.mul_ne_zero hzz (by omega)
  refine write_val hb hf hne (by omega) ?_
  rw [hz]
  unfold fvalV
  rw [magV_nat, Int.natCast_mul]
  by_cases hn : z < 0
  ·rw [decide_eq_true hn, if_pos rfl, ← Int.neg_mul]
   congr 1
   omega
  ·rw [decide_eq_false hn, if_neg (by simp)]
   congr 1
   omega
def bitsZ (z : Int) : Nat := floatOfInt .f64 z
theorem bitsZ_val {z : Int} (h : z.natAbs < 9007199254740992) : finB (bitsZ z) = true ∧ valB (bitsZ z) = z * (U : Int) := by
 obtain ⟨h1, h2⟩ := write_small (decide (z < 0)) h
 refine ⟨h1, ?_⟩
 have e : valB (bitsZ z) = fvalV (decide (z < 0)) z.natAbs 0 := h2
 rw [e]
 unfold fvalV
 rw [magV_nat, Int.natCast_mul]
 by_cases hn : z < 0
 ·rw [decide_eq_true hn, if_pos rfl, ← Int.neg_mul]
  congr 1
  omega
 ·rw [decide_eq_false hn, if_neg (by simp)]
  congr 1
  omega
/-! ### products with one, with nought -/
end Nd
end Go.Proofs.YtbajkglacfheiaaGreatDoor
namespace Go.Proofs.YtbajkglacfheiaaGreatDoor
namespace Nd
open Ieee

def wholeD (b : Nat) : Option Int := if valB b % (U : Int) = 0 then some (valB b / (U : Int)) else none
def loK (k : Nat) : Int := if k = 3 then -128 else if k = 4 then -32768 else if k = 5 then -2147483648 else if k = 6 then -9223372036854775808 else 0
def hiK (k : Nat) : Int := if k = 3 then 127 else if k = 4 then 32767 else if k = 5 then 2147483647 else if k = 6 then 9223372036854775807 else if k = 7 then 255 else if k = 8 then 65535 else if k = 9 then 4294967295 else 18446744073709551615
def intD (k : Nat) (b : Nat) : Int ⊕ Int := match wholeD b with
 | none => .inl 160
 | some z => if loK k ≤ z ∧ z ≤ hiK k then .inr z else .inl 161
theorem whole_some {b : Nat} {z : Int} (h : wholeD b = some z) : valB b = z * (U : Int) := by
 unfold wholeD at h
 split at h
 ·rename_i h0
  injection h with h
  rw [← h]
  have := Int.mul_ediv_add_emod (valB b) (U : Int)
  rw [h0, Int.add_zero, Int.mul_comm] at this
  exact this.symm
 ·cases h
theorem whole_of {b : Nat} {z : Int} (h : valB b = z * (U : Int)) : wholeD b = some z := by
 have hU := U_pos
 unfold wholeD
 rw [h, Int.mul_emod_left, if_pos rfl, Int.mul_ediv_cancel _ (by omega)]
theorem trunc_some {b : Nat} (hb : b < 18446744073709551616) (hf : finB b = true) {z : Int} (h : wholeD b = some z) : (double.order (truncB b) b == some .eq) = true := by
 rw [trunc_order hb hf]
 unfold wholeD at h
 split at h
 ·rename_i h0
  exact decide_eq_true h0
 ·cases h
theorem trunc_none {b : Nat} (hb : b < 18446744073709551616) (hf : finB b = true) (h : wholeD b = none) : (double.order (truncB b) b == some .eq) = false := by
 rw [trunc_order hb hf]
 unfold wholeD at h
 split at h
 ·cases h
 ·rename_i h0
  exact decide_eq_false h0
theorem scale_lt {x y : Int} : x * (U : Int) < y * (U : Int) ↔ x < y := by
 have hU : (0 : Int) < (U : Int) := by have := U_pos; omega
 constructor
 ·intro h
  exact Int.lt_of_mul_lt_mul_right h (Int.le_of_lt hU)
 ·intro h
  exact Int.mul_lt_mul_of_pos_right h hU
theorem scale_eq {x y : Int} : x * (U : Int) = y * (U : Int) ↔ x = y := by
 have hU := U_pos
 exact ⟨fun h => Int.eq_of_mul_eq_mul_right (by omega) h, fun h => by rw [h]⟩
theorem test_lo {b : Nat} (hb : b < 18446744073709551616) (hf : finB b = true) {z : Int} (h : wholeD b = some z) : (double.order b 14114281232179134464 == some .lt) = decide (z < -9223372036854775808) := by
 rw [order_lt hb (by decide) hf lo63.1, whole_some h, lo63.2, decide_eq_decide]
 exact scale_lt
theorem test_neg {b : Nat} (hb : b < 18446744073709551616) (hf : finB b = true) {z : Int} (h : wholeD b = some z) : (double.order b 0 == some .lt) = decide (z < 0) := by
 rw [order_lt hb (by decide) hf (by decide), whole_some h, val_nought, decide_eq_decide]
 have := scale_lt (x := z) (y := 0)
 rw [Int.zero_mul] at this
 exact this
theorem test_hi63 {b : Nat} (hb : b < 18446744073709551616) (hf : finB b = true) {z : Int} (h : wholeD b = some z) : (double.order b 4890909195324358656 == some .gt) = decide (9223372036854775808 < z) ∧ (double.order b 4890909195324358656 == some .eq) = decide (z = 9223372036854775808) := by
 rw [order_gt hb (by decide) hf hi63.1, order_eq hb (by decide) hf hi63.1, whole_some h, hi63.2, decide_eq_decide, decide_eq_decide]
 exact ⟨scale_lt, scale_eq⟩
theorem test_hi64 {b : Nat} (hb : b < 18446744073709551616) (hf : finB b = true) {z : Int} (h : wholeD b = some z) : (double.order b 4895412794951729152 == some .gt) = decide (18446744073709551616 < z) ∧ (double.order b 4895412794951729152 == some .eq) = decide (z = 18446744073709551616) := by
 rw [order_gt hb (by decide) hf hi64.1, order_eq hb (by decide) hf hi64.1, whole_some h, hi64.2, decide_eq_decide, decide_eq_decide]
 exact ⟨scale_lt, scale_eq⟩
theorem conv_i64 {b : Nat} (hb : b < 18446744073709551616) (hf : finB b = true) {z : Int} (h : wholeD b = some z) (h1 : -9223372036854775808 ≤ z) (h2 : z < 9223372036854775808) : floatToIntVal .f64 b .i64 = some z := by
 have e1 : IntKind.i64.min = -9223372036854775808 := by decide
 have e2 : IntKind.i64.max = 9223372036854775807 := by decide
 exact to_int hb hf (whole_some h) .i64 (by rw [e1]; omega) (by rw [e2]; omega)
theorem conv_u64 {b : Nat} (hb : b < 18446744073709551616) (hf : finB b = true) {z : Int} (h : wholeD b = some z) (h1 : 0 ≤ z) (h2 : z < 18446744073709551616) : floatToIntVal .f64 b .u64 = some z := by
 have e1 : IntKind.u64.min = 0 := by decide
 have e2 : IntKind.u64.max = 18446744073709551615 := by decide
 exact to_int hb hf (whole_some h) .u64 (by rw [e1]; omega) (by rw [e2]; omega)
theorem back_float {b : Nat} (hb : b < 18446744073709551616) (hf : finB b = true) (hn : normB b = b) {z : Int} (h : wholeD b = some z) : floatOfInt .f64 z = b := by
 refine of_int hb hf (whole_some h) fun h0 => ?_
 subst h0
 have h1 := (val_zero hb hf).1 (by rw [whole_some h, Int.zero_mul])
 unfold normB at hn
 rw [if_pos h1] at hn
 exact hn.symm

/-! ### by the document -/
end Nd
end Go.Proofs.YtbajkglacfheiaaGreatDoor
