/-
  Walks of package math: IsNaN, Abs, IsInf.
-/
import Derived.Test.YtfhfkggkbeahbaaNtN
import Derived.Test.YtfhfkggkbeahbaaNdH
import Derived.Laws.BitsAllLaws
namespace Go.Proofs.Ytfhfkggkbeahbaa
open Go.RowKit Mem
set_option linter.unusedVariables false
namespace Nd

theorem fromBits (x : Nat) (W : World) : (callFunc 36 #[.int .u64 (x : Int)]).run Try.prog W = .ok (.value (.float .f64 x)) W := by kernel_rfl
theorem isnan_not {b : Nat} (h : b % 9223372036854775808 ≤ 9218868437227405312) (w : World) : Calls Try.prog 37 #[.float .f64 b] w fun e w' => e = .returned (.bool false) ∧ w = w' := by
  have ho : FloatKind.f64.format.order b b = some .eq := order_self h
  go_enter Try.func37, Try.ntmps37
  go_wp2
  go_ret
  exact ⟨rfl, rfl⟩
theorem isnan_yes {b : Nat} (h : 9218868437227405312 < b % 9223372036854775808) (w : World) : Calls Try.prog 37 #[.float .f64 b] w fun e w' => e = .returned (.bool true) ∧ w = w' := by
  have ho : FloatKind.f64.format.order b b = none := order_nan h b
  go_enter Try.func37, Try.ntmps37
  go_wp2
  go_ret
  exact ⟨rfl, rfl⟩
theorem low_bits (b : Nat) (hb : b < 18446744073709551616) : bits .andNot .u64 (b : Int) 9223372036854775808 = ((b % 9223372036854775808 : Nat) : Int) := by
  have h := u64_andNot_nat b 9223372036854775808 hb (by omega)
  have e : b &&& (18446744073709551615 - 9223372036854775808) = b % 9223372036854775808 := Nat.and_two_pow_sub_one_eq_mod b 63
  rw [e] at h
  exact h
set_option maxRecDepth 100000 in
theorem abs_any (b r : Nat) (hb : bits .andNot .u64 (b : Int) 9223372036854775808 = (r : Int)) (w : World) : Calls Try.prog 46 #[.float .f64 b] w fun e w' => e = .returned (.float .f64 r) ∧ w = w' := by
  have hfb := f64bits b
  have hfr := fromBits r
  go_enter Try.func46, Try.ntmps46
  go_wp2
  go_ret
  exact ⟨rfl, rfl⟩
set_option maxRecDepth 100000 in
theorem isinf_any (b r : Nat) (v : Bool) (hb : bits .andNot .u64 (b : Int) 9223372036854775808 = (r : Int)) (ho : (FloatKind.f64.format.order r 9218868437227405311 == some .gt) = v) (w : World) : Calls Try.prog 38 #[.float .f64 b, .int .i64 0] w fun e w' => e = .returned (.bool v) ∧ w = w' := by
  have HB := Lib.hid hb
  clear hb
  go_enter Try.func38, Try.ntmps38
  go_wp2_with fail
  ((with_reducible refine (abs_any b r HB.out _).mono ?_); rintro e w' ⟨rfl, rfl⟩)
  go_wp2
  go_ret
  exact ⟨rfl, rfl⟩
theorem isinf_not {b : Nat} (hb : b < 18446744073709551616) (h : b % 9223372036854775808 < 9218868437227405312) (w : World) : Calls Try.prog 38 #[.float .f64 b, .int .i64 0] w fun e w' => e = .returned (.bool false) ∧ w = w' :=
  isinf_any b _ false (low_bits b hb) (by
    have := order_max (b := b % 9223372036854775808) (by omega) (by omega)
    rw [decide_eq_false (by omega)] at this
    exact this) w
theorem isinf_yes {b : Nat} (hb : b < 18446744073709551616) (h : b % 9223372036854775808 = 9218868437227405312) (w : World) : Calls Try.prog 38 #[.float .f64 b, .int .i64 0] w fun e w' => e = .returned (.bool true) ∧ w = w' :=
  isinf_any b _ true (low_bits b hb) (by
    have := order_max (b := b % 9223372036854775808) (by omega) (by omega)
    rw [decide_eq_true h] at this
    exact this) w
end Nd
end Go.Proofs.Ytfhfkggkbeahbaa
