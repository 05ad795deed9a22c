/-
  Walks of package bind: is, trail; Whole and Count of a finite float.
-/
import Derived.Test.YtbajkglacfheiaaGreatDoorPA2
import Derived.Test.YtbajkglacfheiaaGreatDoorPA4
import Derived.Test.YtbajkglacfheiaaGreatDoorPA13
import Derived.Laws.Externs
set_option linter.unusedVariables false
set_option linter.unusedSimpArgs false
set_option maxRecDepth 100000
set_option maxHeartbeats 16000000
namespace Go.Proofs.YtbajkglacfheiaaGreatDoor
open Go.RowKit Mem
namespace Nd
def trlV (n : Int) (p : Tx) : Value := .iface 139 (.agg #[.int .i64 n, .string ⟨p.toArray⟩])
theorem is_yes (k : Nat) (h1 : 1 ≤ k) (h2 : k ≤ 19) (w : World) : Calls Tryz.prog 33 #[.int .i64 (k : Int)] w fun e w' => e = .returned (.bool true) ∧ w = w' := by
 have e1 : ((k : Int) ≥ 1) = True := by simp; omega
 have e2 : ((k : Int) ≤ 19) = True := by simp; omega
 have e3 : (1 : Int) ≤ (k : Int) := by omega
 have e4 : (k : Int) ≤ 19 := by omega
 go_enter Tryz.func33, Tryz.ntmps33
 go_wp2
 go_ret
 exact ⟨rfl, rfl⟩
theorem btrail_any (n : Int) (p : Tx) (w : World) : Calls Tryz.prog 42 #[.iface 113 (.int .i64 n), .string ⟨p.toArray⟩] w fun e w' => e = .returned (trlV n p) ∧ w = w' := by
 have hta : ∀ W, (Instr.typeAssert (.iface 113 (.int .i64 n)) 25 113 true).run Tryz.prog W = .ok (.tuple #[.int .i64 n, .bool true]) W := fun W => by kernel_rfl
 go_enter Tryz.func42, Tryz.ntmps42
 go_wp2
 go_ret
 exact ⟨rfl, rfl⟩
/-! ### math's whole part -/
theorem toI_numberB {b m : Nat} {s : Bool} {p : Int} (e : Ieee.double.read b = .number s m p) : Go.Extern.MathFloor.toIntegral "math.archTrunc" .zero #[.float .f64 b] = pure (.float .f64 (FloatKind.f64.encode ((Ieee.Datum.number s m p).integral .zero))) := by
 show (match Ieee.double.read b with | .nan s t => _ | d => pure (Value.float .f64 (FloatKind.f64.encode (d.integral .zero)))) = _
 rw [e]
theorem trunc_runB (b : Nat) (hf : finB b = true) (W : World) : (Go.Extern.MathFloor.toIntegral "math.archTrunc" .zero #[.float .f64 b]).run Tryz.prog W = .ok (.float .f64 (truncB b)) W := by
 have hfin : b % 9223372036854775808 < 9218868437227405312 := of_decide_eq_true hf
 obtain ⟨m, p, e, _⟩ := read_fin hfin
 rw [toI_numberB e]
 unfold truncB
 rw [e]
 rfl
theorem arch_truncB (b : Nat) (hf : finB b = true) (W : World) : (callFunc 214 #[.float .f64 b]).run Tryz.prog W = .ok (.value (.float .f64 (truncB b))) W := by
 rw [@run_callFunc_extern Tryz.prog 214 _ (Go.Extern.MathFloor.toIntegral "math.archTrunc" .zero) Tryz.func214 (by kernel_rfl) (by kernel_rfl) (by kernel_rfl) (by kernel_rfl), trunc_runB b hf W]
 rfl
theorem trunc_anyB (b : Nat) (hf : finB b = true) (w : World) : Calls Tryz.prog 193 #[.float .f64 b] w fun e w' => e = .returned (.float .f64 (truncB b)) ∧ w = w' := by
 have h1 := arch_truncB b hf
 go_enter Tryz.func193, Tryz.ntmps193
 go_wp2
 go_ret
 exact ⟨rfl, rfl⟩
theorem flB_i64 (b : Nat) (n : Int) (h : floatToIntVal .f64 b .i64 = some n) (W : World) : (convert 61 2 (.float .f64 b)).run Tryz.prog W = .ok (.int .i64 n) W := run_convert_float_int W 61 2 .f64 .i64 b n (by kernel_rfl) (by kernel_rfl) h
theorem flB_u64 (b : Nat) (n : Int) (h : floatToIntVal .f64 b .u64 = some n) (W : World) : (convert 61 64 (.float .f64 b)).run Tryz.prog W = .ok (.int .u64 n) W := run_convert_float_int W 61 64 .f64 .u64 b n (by kernel_rfl) (by kernel_rfl) h
theorem fin_lt {b : Nat} (hf : finB b = true) : b % 9223372036854775808 < 9218868437227405312 := of_decide_eq_true hf
theorem ordf {x y : Nat} {o : Ordering} (h : (Ieee.double.order x y == some o) = false) : ¬ FloatKind.f64.format.order x y = some o := fun h' => by
 have h2 : Ieee.double.order x y = some o := h'
 rw [h2] at h
 cases o <;> cases h
theorem ordt {x y : Nat} {o : Ordering} (h : (Ieee.double.order x y == some o) = true) : FloatKind.f64.format.order x y = some o := by
 have h2 : Ieee.double.order x y = some o := by simpa using h
 exact h2
theorem ordn {x y : Nat} {o : Ordering} {b : Bool} (h : (Ieee.double.order x y == some o) = b) : (FloatKind.f64.format.order x y != some o) = !b := by
 rw [← h]
 rfl
theorem ordb {x y : Nat} {o : Ordering} {b : Bool} (h : (Ieee.double.order x y == some o) = b) : (FloatKind.f64.format.order x y == some o) = b := h
theorem bwhole_n (b : Nat) (hb : b < 18446744073709551616) (hf : finB b = true) (hw : wholeD b = none) (w : World) : Calls Tryz.prog 157 #[.float .f64 b] w fun e w' => e = .returned (.tuple #[.int .i64 0, errN 160]) ∧ w = w' := by
 have t1 := trunc_none hb hf hw
 have r9 := ordn t1
 have r1 := ordf t1
 have r2 := ordb t1
 simp only [Bool.not_false] at r9
 have HB := Lib.hid hb
 have HF := Lib.hid hf
 clear hb hf hw t1
 go_enter Tryz.func157, Tryz.ntmps157
 go_wp2_with fail
 ((with_reducible refine (isnan_not (Nat.le_of_lt (fin_lt HF.out)) _).mono ?_); rintro e w1 ⟨rfl, rfl⟩)
 go_wp2_with fail
 ((with_reducible refine (isinf_not HB.out (fin_lt HF.out) _).mono ?_); rintro e w1 ⟨rfl, rfl⟩)
 go_wp2_with fail
 ((with_reducible refine (trunc_anyB b HF.out _).mono ?_); rintro e w1 ⟨rfl, rfl⟩)
 go_wp2
 go_ret2
 exact ⟨rfl, rfl⟩
theorem bwhole_lo (b : Nat) (hb : b < 18446744073709551616) (hf : finB b = true) (z : Int) (hw : wholeD b = some z) (hz : z < -9223372036854775808) (w : World) : Calls Tryz.prog 157 #[.float .f64 b] w fun e w' => e = .returned (.tuple #[.int .i64 0, errN 161]) ∧ w = w' := by
 have t1 := trunc_some hb hf hw
 have r9 := ordn t1
 have r1 := ordt t1
 have r2 := ordb t1
 have t2 := test_lo hb hf hw
 rw [decide_eq_true hz] at t2
 have r3 := ordt t2
 have r4 := ordb t2
 simp only [Bool.not_true] at r9
 have HB := Lib.hid hb
 have HF := Lib.hid hf
 clear hb hf hw t1 t2 hz
 go_enter Tryz.func157, Tryz.ntmps157
 go_wp2_with fail
 ((with_reducible refine (isnan_not (Nat.le_of_lt (fin_lt HF.out)) _).mono ?_); rintro e w1 ⟨rfl, rfl⟩)
 go_wp2_with fail
 ((with_reducible refine (isinf_not HB.out (fin_lt HF.out) _).mono ?_); rintro e w1 ⟨rfl, rfl⟩)
 go_wp2_with fail
 ((with_reducible refine (trunc_anyB b HF.out _).mono ?_); rintro e w1 ⟨rfl, rfl⟩)
 go_wp2
 go_ret2
 exact ⟨rfl, rfl⟩
theorem bwhole_hi (b : Nat) (hb : b < 18446744073709551616) (hf : finB b = true) (z : Int) (hw : wholeD b = some z) (hz : 9223372036854775808 ≤ z) (w : World) : Calls Tryz.prog 157 #[.float .f64 b] w fun e w' => e = .returned (.tuple #[.int .i64 0, errN 161]) ∧ w = w' := by
 have t1 := trunc_some hb hf hw
 have r9 := ordn t1
 have r1 := ordt t1
 have r2 := ordb t1
 have t2 := test_lo hb hf hw
 rw [decide_eq_false (by omega)] at t2
 have r3 := ordf t2
 have r4 := ordb t2
 have t3 := test_hi63 hb hf hw
 have t4 : (Ieee.double.order b 4890909195324358656 == some .gt || Ieee.double.order b 4890909195324358656 == some .eq) = true := by
  rw [t3.1, t3.2]
  rcases Int.lt_or_eq_of_le hz with h | h
  ·rw [decide_eq_true h]
   rfl
  ·rw [decide_eq_true h.symm, Bool.or_true]
 have r5 : (FloatKind.f64.format.order b 4890909195324358656 == some .gt || FloatKind.f64.format.order b 4890909195324358656 == some .eq) = true := t4
 simp only [Bool.not_true] at r9
 have HB := Lib.hid hb
 have HF := Lib.hid hf
 clear hb hf hw t1 t2 t3 t4 hz
 go_enter Tryz.func157, Tryz.ntmps157
 go_wp2_with fail
 ((with_reducible refine (isnan_not (Nat.le_of_lt (fin_lt HF.out)) _).mono ?_); rintro e w1 ⟨rfl, rfl⟩)
 go_wp2_with fail
 ((with_reducible refine (isinf_not HB.out (fin_lt HF.out) _).mono ?_); rintro e w1 ⟨rfl, rfl⟩)
 go_wp2_with fail
 ((with_reducible refine (trunc_anyB b HF.out _).mono ?_); rintro e w1 ⟨rfl, rfl⟩)
 go_wp2
 go_ret2
 exact ⟨rfl, rfl⟩
theorem bwhole_y (b : Nat) (hb : b < 18446744073709551616) (hf : finB b = true) (z : Int) (hw : wholeD b = some z) (hz : -9223372036854775808 ≤ z) (hz2 : z < 9223372036854775808) (w : World) : Calls Tryz.prog 157 #[.float .f64 b] w fun e w' => e = .returned (.tuple #[.int .i64 z, .nilIface]) ∧ w = w' := by
 have t1 := trunc_some hb hf hw
 have r9 := ordn t1
 have r1 := ordt t1
 have r2 := ordb t1
 have t2 := test_lo hb hf hw
 rw [decide_eq_false (by omega)] at t2
 have r3 := ordf t2
 have r4 := ordb t2
 have t3 := test_hi63 hb hf hw
 rw [decide_eq_false (by omega), decide_eq_false (by omega)] at t3
 have r5 := ordb t3.1
 have r6 := ordb t3.2
 have r7 := ordf t3.1
 have r8 := ordf t3.2
 have q4 := flB_i64 b z (conv_i64 hb hf hw hz hz2)
 simp only [Bool.not_true] at r9
 have HB := Lib.hid hb
 have HF := Lib.hid hf
 clear hb hf hw t1 t2 t3 hz hz2
 go_enter Tryz.func157, Tryz.ntmps157
 go_wp2_with fail
 ((with_reducible refine (isnan_not (Nat.le_of_lt (fin_lt HF.out)) _).mono ?_); rintro e w1 ⟨rfl, rfl⟩)
 go_wp2_with fail
 ((with_reducible refine (isinf_not HB.out (fin_lt HF.out) _).mono ?_); rintro e w1 ⟨rfl, rfl⟩)
 go_wp2_with fail
 ((with_reducible refine (trunc_anyB b HF.out _).mono ?_); rintro e w1 ⟨rfl, rfl⟩)
 go_wp2
 go_ret2
 exact ⟨rfl, rfl⟩
theorem bcount_n (b : Nat) (hb : b < 18446744073709551616) (hf : finB b = true) (hw : wholeD b = none) (w : World) : Calls Tryz.prog 158 #[.float .f64 b] w fun e w' => e = .returned (.tuple #[.int .u64 0, errN 160]) ∧ w = w' := by
 have t1 := trunc_none hb hf hw
 have r9 := ordn t1
 have r1 := ordf t1
 have r2 := ordb t1
 simp only [Bool.not_false] at r9
 have HB := Lib.hid hb
 have HF := Lib.hid hf
 clear hb hf hw t1
 go_enter Tryz.func158, Tryz.ntmps158
 go_wp2_with fail
 ((with_reducible refine (isnan_not (Nat.le_of_lt (fin_lt HF.out)) _).mono ?_); rintro e w1 ⟨rfl, rfl⟩)
 go_wp2_with fail
 ((with_reducible refine (isinf_not HB.out (fin_lt HF.out) _).mono ?_); rintro e w1 ⟨rfl, rfl⟩)
 go_wp2_with fail
 ((with_reducible refine (trunc_anyB b HF.out _).mono ?_); rintro e w1 ⟨rfl, rfl⟩)
 go_wp2
 go_ret2
 exact ⟨rfl, rfl⟩
theorem bcount_lo (b : Nat) (hb : b < 18446744073709551616) (hf : finB b = true) (z : Int) (hw : wholeD b = some z) (hz : z < 0) (w : World) : Calls Tryz.prog 158 #[.float .f64 b] w fun e w' => e = .returned (.tuple #[.int .u64 0, errN 161]) ∧ w = w' := by
 have t1 := trunc_some hb hf hw
 have r9 := ordn t1
 have r1 := ordt t1
 have r2 := ordb t1
 have t2 := test_neg hb hf hw
 rw [decide_eq_true hz] at t2
 have r3 := ordt t2
 have r4 := ordb t2
 simp only [Bool.not_true] at r9
 have HB := Lib.hid hb
 have HF := Lib.hid hf
 clear hb hf hw t1 t2 hz
 go_enter Tryz.func158, Tryz.ntmps158
 go_wp2_with fail
 ((with_reducible refine (isnan_not (Nat.le_of_lt (fin_lt HF.out)) _).mono ?_); rintro e w1 ⟨rfl, rfl⟩)
 go_wp2_with fail
 ((with_reducible refine (isinf_not HB.out (fin_lt HF.out) _).mono ?_); rintro e w1 ⟨rfl, rfl⟩)
 go_wp2_with fail
 ((with_reducible refine (trunc_anyB b HF.out _).mono ?_); rintro e w1 ⟨rfl, rfl⟩)
 go_wp2
 go_ret2
 exact ⟨rfl, rfl⟩
theorem bcount_hi (b : Nat) (hb : b < 18446744073709551616) (hf : finB b = true) (z : Int) (hw : wholeD b = some z) (hz : 18446744073709551616 ≤ z) (w : World) : Calls Tryz.prog 158 #[.float .f64 b] w fun e w' => e = .returned (.tuple #[.int .u64 0, errN 161]) ∧ w = w' := by
 have t1 := trunc_some hb hf hw
 have r9 := ordn t1
 have r1 := ordt t1
 have r2 := ordb t1
 have t2 := test_neg hb hf hw
 rw [decide_eq_false (by omega)] at t2
 have r3 := ordf t2
 have r4 := ordb t2
 have t3 := test_hi64 hb hf hw
 have t4 : (Ieee.double.order b 4895412794951729152 == some .gt || Ieee.double.order b 4895412794951729152 == some .eq) = true := by
  rw [t3.1, t3.2]
  rcases Int.lt_or_eq_of_le hz with h | h
  ·rw [decide_eq_true h]
   rfl
  ·rw [decide_eq_true h.symm, Bool.or_true]
 have r5 : (FloatKind.f64.format.order b 4895412794951729152 == some .gt || FloatKind.f64.format.order b 4895412794951729152 == some .eq) = true := t4
 simp only [Bool.not_true] at r9
 have HB := Lib.hid hb
 have HF := Lib.hid hf
 clear hb hf hw t1 t2 t3 t4 hz
 go_enter Tryz.func158, Tryz.ntmps158
 go_wp2_with fail
 ((with_reducible refine (isnan_not (Nat.le_of_lt (fin_lt HF.out)) _).mono ?_); rintro e w1 ⟨rfl, rfl⟩)
 go_wp2_with fail
 ((with_reducible refine (isinf_not HB.out (fin_lt HF.out) _).mono ?_); rintro e w1 ⟨rfl, rfl⟩)
 go_wp2_with fail
 ((with_reducible refine (trunc_anyB b HF.out _).mono ?_); rintro e w1 ⟨rfl, rfl⟩)
 go_wp2
 go_ret2
 exact ⟨rfl, rfl⟩
theorem bcount_y (b : Nat) (hb : b < 18446744073709551616) (hf : finB b = true) (z : Int) (hw : wholeD b = some z) (hz : 0 ≤ z) (hz2 : z < 18446744073709551616) (w : World) : Calls Tryz.prog 158 #[.float .f64 b] w fun e w' => e = .returned (.tuple #[.int .u64 z, .nilIface]) ∧ w = w' := by
 have t1 := trunc_some hb hf hw
 have r9 := ordn t1
 have r1 := ordt t1
 have r2 := ordb t1
 have t2 := test_neg hb hf hw
 rw [decide_eq_false (by omega)] at t2
 have r3 := ordf t2
 have r4 := ordb t2
 have t3 := test_hi64 hb hf hw
 rw [decide_eq_false (by omega), decide_eq_false (by omega)] at t3
 have r5 := ordb t3.1
 have r6 := ordb t3.2
 have r7 := ordf t3.1
 have r8 := ordf t3.2
 have q4 := flB_u64 b z (conv_u64 hb hf hw hz hz2)
 simp only [Bool.not_true] at r9
 have HB := Lib.hid hb
 have HF := Lib.hid hf
 clear hb hf hw t1 t2 t3 hz hz2
 go_enter Tryz.func158, Tryz.ntmps158
 go_wp2_with fail
 ((with_reducible refine (isnan_not (Nat.le_of_lt (fin_lt HF.out)) _).mono ?_); rintro e w1 ⟨rfl, rfl⟩)
 go_wp2_with fail
 ((with_reducible refine (isinf_not HB.out (fin_lt HF.out) _).mono ?_); rintro e w1 ⟨rfl, rfl⟩)
 go_wp2_with fail
 ((with_reducible refine (trunc_anyB b HF.out _).mono ?_); rintro e w1 ⟨rfl, rfl⟩)
 go_wp2
 go_ret2
 exact ⟨rfl, rfl⟩
end Nd
end Go.Proofs.YtbajkglacfheiaaGreatDoor
