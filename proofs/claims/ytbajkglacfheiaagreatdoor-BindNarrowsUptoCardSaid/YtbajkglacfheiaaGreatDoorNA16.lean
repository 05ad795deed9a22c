/-
  The reference of layer 16: Signed, Unsigned.
  Walks of package node: what a Ref answers: items, keys, Key, Text, Size, All. Walks of package node: the slice of a Ref's items, named.
  Walks of package node: a Ref's Number.
-/
import Derived.Test.YtbajkglacfheiaaGreatDoorNA14
import Derived.Test.YtbajkglacfheiaaGreatDoorNA15
import Derived.Test.YtbajkglacfheiaaGreatDoorNA9
import Derived.Test.YtbajkglacfheiaaGreatDoorNA2
import Derived.BigQuiet
set_option linter.unusedVariables false
set_option linter.unusedSimpArgs false
set_option maxRecDepth 100000
set_option maxHeartbeats 16000000
namespace Go.Proofs.YtbajkglacfheiaaGreatDoor
open Go.RowKit Mem
namespace Nd
def NumP (q : IntKind) (r : Int ⊕ Int) (w : World) (e : Ending) (w' : World) : Prop :=
 (match r with
  | .inl n => e = .returned (.tuple #[.int q 0, .int .i64 n])
  | .inr z => e = .returned (.tuple #[.int q z, .int .i64 0])) ∧ w = w'
theorem sgn_test {b : Nat} (hb : b < 18446744073709551616) : ((b : Int) / 9223372036854775808 == 1) = sgnB b := by
 unfold sgnB
 have e : (b : Int) / 9223372036854775808 = ((b / 9223372036854775808 : Nat) : Int) := by omega
 have h : b / 9223372036854775808 < 2 := by omega
 rw [e]
 generalize b / 9223372036854775808 = q at *
 rcases (by omega : q = 0 ∨ q = 1) with rfl | rfl <;> rfl
theorem neg_back {m : Nat} (h : m ≤ 9223372036854775808) : wrap64 (IntKind.u64.wrap (-(m : Int))) = -(m : Int) := by
 unfold wrap64 IntKind.wrap
 simp only [IntKind.bits, IntKind.signed]
 simp
 omega
theorem magD_lt (b : Nat) : (magD b).1 < 18446744073709551616 := by
 rcases magD_cases b with ⟨_, h⟩ | ⟨_, _, h⟩ | ⟨_, hq, h⟩ <;> rw [h] <;> first | (dsimp only; omega) | exact hq
theorem refSigned_8 (b : Nat) (hb : b < 18446744073709551616) (hf : finB b = true) (w : World) : Calls Tryz.prog 106 #[.int .u64 (b : Int), .int .i64 8] w (NumP .i64 (signedD b 128) w) := by
 have hm := mag_any b hb hf
 have hs := sgn_test hb
 have hml := magD_lt b
 unfold signedD NumP
 obtain ⟨D, hD⟩ : ∃ D, magD b = D := ⟨_, rfl⟩
 rw [hD] at hm hml ⊢
 obtain ⟨m, e⟩ := D
 dsimp only at hm hml ⊢
 have HM := Lib.hid hm
 clear hm hD
 by_cases he : e = 0
 ·subst he
  rw [if_neg (by simp)]
  cases hsg : sgnB b with
  | true =>
   rw [hsg] at hs
   simp only [if_true]
   by_cases hx : 128 < m
   ·rw [if_pos hx]
    have hx2 : ((m : Int) > 128) = True := by simp; omega
    clear hsg hb hf hml hx
    go_enter Tryz.func106, Tryz.ntmps106
    go_wp2_with fail
    ((with_reducible refine (HM.out _).mono ?_); rintro e w1 ⟨rfl, rfl⟩)
    go_wp2
    go_ret2
    exact ⟨rfl, rfl⟩
   ·rw [if_neg hx]
    have hx2 : ((m : Int) > 128) = False := by simp; omega
    have HE := Lib.hid (congrArg (fun z => Ending.returned (.tuple #[.int .i64 z, .int .i64 0])) (neg_back (m := m) (by omega)))
    clear hsg hb hf hml hx
    go_enter Tryz.func106, Tryz.ntmps106
    go_wp2_with fail
    ((with_reducible refine (HM.out _).mono ?_); rintro e w1 ⟨rfl, rfl⟩)
    go_wp2
    go_ret2
    exact ⟨HE.out, rfl⟩
  | false =>
   rw [hsg] at hs
   simp only [Bool.false_eq_true, if_false]
   by_cases hx : 128 ≤ m
   ·rw [if_pos hx]
    have hx2 : ((m : Int) ≥ 128) = True := by simp; omega
    clear hsg hb hf hml hx
    go_enter Tryz.func106, Tryz.ntmps106
    go_wp2_with fail
    ((with_reducible refine (HM.out _).mono ?_); rintro e w1 ⟨rfl, rfl⟩)
    go_wp2
    go_ret2
    exact ⟨rfl, rfl⟩
   ·rw [if_neg hx]
    have hx2 : ((m : Int) ≥ 128) = False := by simp; omega
    have HE := Lib.hid (congrArg (fun z => Ending.returned (.tuple #[.int .i64 z, .int .i64 0])) (show wrap64 (m : Int) = (m : Int) by unfold wrap64; omega))
    clear hsg hb hf hml hx
    go_enter Tryz.func106, Tryz.ntmps106
    go_wp2_with fail
    ((with_reducible refine (HM.out _).mono ?_); rintro e w1 ⟨rfl, rfl⟩)
    go_wp2
    go_ret2
    exact ⟨HE.out, rfl⟩
 ·rw [if_pos he]
  have he2 : ((e : Int) != 0) = true := by rw [bne_iff_ne]; omega
  clear hs hb hf hml he
  go_enter Tryz.func106, Tryz.ntmps106
  go_wp2_with fail
  ((with_reducible refine (HM.out _).mono ?_); rintro e w1 ⟨rfl, rfl⟩)
  go_wp2
  go_ret2
  exact ⟨rfl, rfl⟩
theorem refUnsigned_8 (b : Nat) (hb : b < 18446744073709551616) (hf : finB b = true) (w : World) : Calls Tryz.prog 107 #[.int .u64 (b : Int), .int .i64 8] w (NumP .u64 (unsignedD b 256) w) := by
 have hm := mag_any b hb hf
 have hs := sgn_test hb
 have hml := magD_lt b
 unfold unsignedD NumP
 obtain ⟨D, hD⟩ : ∃ D, magD b = D := ⟨_, rfl⟩
 rw [hD] at hm hml ⊢
 obtain ⟨m, e⟩ := D
 dsimp only at hm hml ⊢
 have HM := Lib.hid hm
 clear hm hD
 by_cases he : e = 0
 ·subst he
  rw [if_neg (show ¬ ((0 : Nat) ≠ 0) by simp)]
  cases hsg : sgnB b with
  | true =>
   rw [hsg] at hs
   by_cases h0 : 0 < m
   ·rw [if_pos (.inl ⟨rfl, h0⟩)]
    have hx2 : ((m : Int) > 0) = True := by simp; omega
    clear hsg hb hf hml
    go_enter Tryz.func107, Tryz.ntmps107
    go_wp2_with fail
    ((with_reducible refine (HM.out _).mono ?_); rintro e w1 ⟨rfl, rfl⟩)
    go_wp2
    go_ret2
    exact ⟨rfl, rfl⟩
   ·obtain rfl : m = 0 := by omega
    rw [if_neg (by simp)]
    clear hsg hb hf hml h0
    go_enter Tryz.func107, Tryz.ntmps107
    go_wp2_with fail
    ((with_reducible refine (HM.out _).mono ?_); rintro e w1 ⟨rfl, rfl⟩)
    go_wp2
    go_ret2
    exact ⟨rfl, rfl⟩
  | false =>
   rw [hsg] at hs
   by_cases hx : 256 ≤ m
   ·rw [if_pos (.inr hx)]
    have hx3 : ((m : Int) ≥ 256) = True := by simp; omega
    clear hsg hb hf hml hx
    go_enter Tryz.func107, Tryz.ntmps107
    go_wp2_with fail
    ((with_reducible refine (HM.out _).mono ?_); rintro e w1 ⟨rfl, rfl⟩)
    go_wp2
    go_ret2
    exact ⟨rfl, rfl⟩
   ·rw [if_neg (by simp; omega)]
    have hx3 : ((m : Int) ≥ 256) = False := by simp; omega
    clear hsg hb hf hml hx
    go_enter Tryz.func107, Tryz.ntmps107
    go_wp2_with fail
    ((with_reducible refine (HM.out _).mono ?_); rintro e w1 ⟨rfl, rfl⟩)
    go_wp2
    go_ret2
    exact ⟨rfl, rfl⟩
 ·rw [if_pos he]
  have he2 : ((e : Int) != 0) = true := by rw [bne_iff_ne]; omega
  clear hs hb hf hml he
  go_enter Tryz.func107, Tryz.ntmps107
  go_wp2_with fail
  ((with_reducible refine (HM.out _).mono ?_); rintro e w1 ⟨rfl, rfl⟩)
  go_wp2
  go_ret2
  exact ⟨rfl, rfl⟩
theorem refSigned_16 (b : Nat) (hb : b < 18446744073709551616) (hf : finB b = true) (w : World) : Calls Tryz.prog 106 #[.int .u64 (b : Int), .int .i64 16] w (NumP .i64 (signedD b 32768) w) := by
 have hm := mag_any b hb hf
 have hs := sgn_test hb
 have hml := magD_lt b
 unfold signedD NumP
 obtain ⟨D, hD⟩ : ∃ D, magD b = D := ⟨_, rfl⟩
 rw [hD] at hm hml ⊢
 obtain ⟨m, e⟩ := D
 dsimp only at hm hml ⊢
 have HM := Lib.hid hm
 clear hm hD
 by_cases he : e = 0
 ·subst he
  rw [if_neg (by simp)]
  cases hsg : sgnB b with
  | true =>
   rw [hsg] at hs
   simp only [if_true]
   by_cases hx : 32768 < m
   ·rw [if_pos hx]
    have hx2 : ((m : Int) > 32768) = True := by simp; omega
    clear hsg hb hf hml hx
    go_enter Tryz.func106, Tryz.ntmps106
    go_wp2_with fail
    ((with_reducible refine (HM.out _).mono ?_); rintro e w1 ⟨rfl, rfl⟩)
    go_wp2
    go_ret2
    exact ⟨rfl, rfl⟩
   ·rw [if_neg hx]
    have hx2 : ((m : Int) > 32768) = False := by simp; omega
    have HE := Lib.hid (congrArg (fun z => Ending.returned (.tuple #[.int .i64 z, .int .i64 0])) (neg_back (m := m) (by omega)))
    clear hsg hb hf hml hx
    go_enter Tryz.func106, Tryz.ntmps106
    go_wp2_with fail
    ((with_reducible refine (HM.out _).mono ?_); rintro e w1 ⟨rfl, rfl⟩)
    go_wp2
    go_ret2
    exact ⟨HE.out, rfl⟩
  | false =>
   rw [hsg] at hs
   simp only [Bool.false_eq_true, if_false]
   by_cases hx : 32768 ≤ m
   ·rw [if_pos hx]
    have hx2 : ((m : Int) ≥ 32768) = True := by simp; omega
    clear hsg hb hf hml hx
    go_enter Tryz.func106, Tryz.ntmps106
    go_wp2_with fail
    ((with_reducible refine (HM.out _).mono ?_); rintro e w1 ⟨rfl, rfl⟩)
    go_wp2
    go_ret2
    exact ⟨rfl, rfl⟩
   ·rw [if_neg hx]
    have hx2 : ((m : Int) ≥ 32768) = False := by simp; omega
    have HE := Lib.hid (congrArg (fun z => Ending.returned (.tuple #[.int .i64 z, .int .i64 0])) (show wrap64 (m : Int) = (m : Int) by unfold wrap64; omega))
    clear hsg hb hf hml hx
    go_enter Tryz.func106, Tryz.ntmps106
    go_wp2_with fail
    ((with_reducible refine (HM.out _).mono ?_); rintro e w1 ⟨rfl, rfl⟩)
    go_wp2
    go_ret2
    exact ⟨HE.out, rfl⟩
 ·rw [if_pos he]
  have he2 : ((e : Int) != 0) = true := by rw [bne_iff_ne]; omega
  clear hs hb hf hml he
  go_enter Tryz.func106, Tryz.ntmps106
  go_wp2_with fail
  ((with_reducible refine (HM.out _).mono ?_); rintro e w1 ⟨rfl, rfl⟩)
  go_wp2
  go_ret2
  exact ⟨rfl, rfl⟩
theorem refUnsigned_16 (b : Nat) (hb : b < 18446744073709551616) (hf : finB b = true) (w : World) : Calls Tryz.prog 107 #[.int .u64 (b : Int), .int .i64 16] w (NumP .u64 (unsignedD b 65536) w) := by
 have hm := mag_any b hb hf
 have hs := sgn_test hb
 have hml := magD_lt b
 unfold unsignedD NumP
 obtain ⟨D, hD⟩ : ∃ D, magD b = D := ⟨_, rfl⟩
 rw [hD] at hm hml ⊢
 obtain ⟨m, e⟩ := D
 dsimp only at hm hml ⊢
 have HM := Lib.hid hm
 clear hm hD
 by_cases he : e = 0
 ·subst he
  rw [if_neg (show ¬ ((0 : Nat) ≠ 0) by simp)]
  cases hsg : sgnB b with
  | true =>
   rw [hsg] at hs
   by_cases h0 : 0 < m
   ·rw [if_pos (.inl ⟨rfl, h0⟩)]
    have hx2 : ((m : Int) > 0) = True := by simp; omega
    clear hsg hb hf hml
    go_enter Tryz.func107, Tryz.ntmps107
    go_wp2_with fail
    ((with_reducible refine (HM.out _).mono ?_); rintro e w1 ⟨rfl, rfl⟩)
    go_wp2
    go_ret2
    exact ⟨rfl, rfl⟩
   ·obtain rfl : m = 0 := by omega
    rw [if_neg (by simp)]
    clear hsg hb hf hml h0
    go_enter Tryz.func107, Tryz.ntmps107
    go_wp2_with fail
    ((with_reducible refine (HM.out _).mono ?_); rintro e w1 ⟨rfl, rfl⟩)
    go_wp2
    go_ret2
    exact ⟨rfl, rfl⟩
  | false =>
   rw [hsg] at hs
   by_cases hx : 65536 ≤ m
   ·rw [if_pos (.inr hx)]
    have hx3 : ((m : Int) ≥ 65536) = True := by simp; omega
    clear hsg hb hf hml hx
    go_enter Tryz.func107, Tryz.ntmps107
    go_wp2_with fail
    ((with_reducible refine (HM.out _).mono ?_); rintro e w1 ⟨rfl, rfl⟩)
    go_wp2
    go_ret2
    exact ⟨rfl, rfl⟩
   ·rw [if_neg (by simp; omega)]
    have hx3 : ((m : Int) ≥ 65536) = False := by simp; omega
    clear hsg hb hf hml hx
    go_enter Tryz.func107, Tryz.ntmps107
    go_wp2_with fail
    ((with_reducible refine (HM.out _).mono ?_); rintro e w1 ⟨rfl, rfl⟩)
    go_wp2
    go_ret2
    exact ⟨rfl, rfl⟩
 ·rw [if_pos he]
  have he2 : ((e : Int) != 0) = true := by rw [bne_iff_ne]; omega
  clear hs hb hf hml he
  go_enter Tryz.func107, Tryz.ntmps107
  go_wp2_with fail
  ((with_reducible refine (HM.out _).mono ?_); rintro e w1 ⟨rfl, rfl⟩)
  go_wp2
  go_ret2
  exact ⟨rfl, rfl⟩
theorem refSigned_32 (b : Nat) (hb : b < 18446744073709551616) (hf : finB b = true) (w : World) : Calls Tryz.prog 106 #[.int .u64 (b : Int), .int .i64 32] w (NumP .i64 (signedD b 2147483648) w) := by
 have hm := mag_any b hb hf
 have hs := sgn_test hb
 have hml := magD_lt b
 unfold signedD NumP
 obtain ⟨D, hD⟩ : ∃ D, magD b = D := ⟨_, rfl⟩
 rw [hD] at hm hml ⊢
 obtain ⟨m, e⟩ := D
 dsimp only at hm hml ⊢
 have HM := Lib.hid hm
 clear hm hD
 by_cases he : e = 0
 ·subst he
  rw [if_neg (by simp)]
  cases hsg : sgnB b with
  | true =>
   rw [hsg] at hs
   simp only [if_true]
   by_cases hx : 2147483648 < m
   ·rw [if_pos hx]
    have hx2 : ((m : Int) > 2147483648) = True := by simp; omega
    clear hsg hb hf hml hx
    go_enter Tryz.func106, Tryz.ntmps106
    go_wp2_with fail
    ((with_reducible refine (HM.out _).mono ?_); rintro e w1 ⟨rfl, rfl⟩)
    go_wp2
    go_ret2
    exact ⟨rfl, rfl⟩
   ·rw [if_neg hx]
    have hx2 : ((m : Int) > 2147483648) = False := by simp; omega
    have HE := Lib.hid (congrArg (fun z => Ending.returned (.tuple #[.int .i64 z, .int .i64 0])) (neg_back (m := m) (by omega)))
    clear hsg hb hf hml hx
    go_enter Tryz.func106, Tryz.ntmps106
    go_wp2_with fail
    ((with_reducible refine (HM.out _).mono ?_); rintro e w1 ⟨rfl, rfl⟩)
    go_wp2
    go_ret2
    exact ⟨HE.out, rfl⟩
  | false =>
   rw [hsg] at hs
   simp only [Bool.false_eq_true, if_false]
   by_cases hx : 2147483648 ≤ m
   ·rw [if_pos hx]
    have hx2 : ((m : Int) ≥ 2147483648) = True := by simp; omega
    clear hsg hb hf hml hx
    go_enter Tryz.func106, Tryz.ntmps106
    go_wp2_with fail
    ((with_reducible refine (HM.out _).mono ?_); rintro e w1 ⟨rfl, rfl⟩)
    go_wp2
    go_ret2
    exact ⟨rfl, rfl⟩
   ·rw [if_neg hx]
    have hx2 : ((m : Int) ≥ 2147483648) = False := by simp; omega
    have HE := Lib.hid (congrArg (fun z => Ending.returned (.tuple #[.int .i64 z, .int .i64 0])) (show wrap64 (m : Int) = (m : Int) by unfold wrap64; omega))
    clear hsg hb hf hml hx
    go_enter Tryz.func106, Tryz.ntmps106
    go_wp2_with fail
    ((with_reducible refine (HM.out _).mono ?_); rintro e w1 ⟨rfl, rfl⟩)
    go_wp2
    go_ret2
    exact ⟨HE.out, rfl⟩
 ·rw [if_pos he]
  have he2 : ((e : Int) != 0) = true := by rw [bne_iff_ne]; omega
  clear hs hb hf hml he
  go_enter Tryz.func106, Tryz.ntmps106
  go_wp2_with fail
  ((with_reducible refine (HM.out _).mono ?_); rintro e w1 ⟨rfl, rfl⟩)
  go_wp2
  go_ret2
  exact ⟨rfl, rfl⟩
theorem refUnsigned_32 (b : Nat) (hb : b < 18446744073709551616) (hf : finB b = true) (w : World) : Calls Tryz.prog 107 #[.int .u64 (b : Int), .int .i64 32] w (NumP .u64 (unsignedD b 4294967296) w) := by
 have hm := mag_any b hb hf
 have hs := sgn_test hb
 have hml := magD_lt b
 unfold unsignedD NumP
 obtain ⟨D, hD⟩ : ∃ D, magD b = D := ⟨_, rfl⟩
 rw [hD] at hm hml ⊢
 obtain ⟨m, e⟩ := D
 dsimp only at hm hml ⊢
 have HM := Lib.hid hm
 clear hm hD
 by_cases he : e = 0
 ·subst he
  rw [if_neg (show ¬ ((0 : Nat) ≠ 0) by simp)]
  cases hsg : sgnB b with
  | true =>
   rw [hsg] at hs
   by_cases h0 : 0 < m
   ·rw [if_pos (.inl ⟨rfl, h0⟩)]
    have hx2 : ((m : Int) > 0) = True := by simp; omega
    clear hsg hb hf hml
    go_enter Tryz.func107, Tryz.ntmps107
    go_wp2_with fail
    ((with_reducible refine (HM.out _).mono ?_); rintro e w1 ⟨rfl, rfl⟩)
    go_wp2
    go_ret2
    exact ⟨rfl, rfl⟩
   ·obtain rfl : m = 0 := by omega
    rw [if_neg (by simp)]
    clear hsg hb hf hml h0
    go_enter Tryz.func107, Tryz.ntmps107
    go_wp2_with fail
    ((with_reducible refine (HM.out _).mono ?_); rintro e w1 ⟨rfl, rfl⟩)
    go_wp2
    go_ret2
    exact ⟨rfl, rfl⟩
  | false =>
   rw [hsg] at hs
   by_cases hx : 4294967296 ≤ m
   ·rw [if_pos (.inr hx)]
    have hx3 : ((m : Int) ≥ 4294967296) = True := by simp; omega
    clear hsg hb hf hml hx
    go_enter Tryz.func107, Tryz.ntmps107
    go_wp2_with fail
    ((with_reducible refine (HM.out _).mono ?_); rintro e w1 ⟨rfl, rfl⟩)
    go_wp2
    go_ret2
    exact ⟨rfl, rfl⟩
   ·rw [if_neg (by simp; omega)]
    have hx3 : ((m : Int) ≥ 4294967296) = False := by simp; omega
    clear hsg hb hf hml hx
    go_enter Tryz.func107, Tryz.ntmps107
    go_wp2_with fail
    ((with_reducible refine (HM.out _).mono ?_); rintro e w1 ⟨rfl, rfl⟩)
    go_wp2
    go_ret2
    exact ⟨rfl, rfl⟩
 ·rw [if_pos he]
  have he2 : ((e : Int) != 0) = true := by rw [bne_iff_ne]; omega
  clear hs hb hf hml he
  go_enter Tryz.func107, Tryz.ntmps107
  go_wp2_with fail
  ((with_reducible refine (HM.out _).mono ?_); rintro e w1 ⟨rfl, rfl⟩)
  go_wp2
  go_ret2
  exact ⟨rfl, rfl⟩
theorem refSigned_64 (b : Nat) (hb : b < 18446744073709551616) (hf : finB b = true) (w : World) : Calls Tryz.prog 106 #[.int .u64 (b : Int), .int .i64 64] w (NumP .i64 (signedD b 9223372036854775808) w) := by
 have hm := mag_any b hb hf
 have hs := sgn_test hb
 have hml := magD_lt b
 unfold signedD NumP
 obtain ⟨D, hD⟩ : ∃ D, magD b = D := ⟨_, rfl⟩
 rw [hD] at hm hml ⊢
 obtain ⟨m, e⟩ := D
 dsimp only at hm hml ⊢
 have HM := Lib.hid hm
 clear hm hD
 by_cases he : e = 0
 ·subst he
  rw [if_neg (by simp)]
  cases hsg : sgnB b with
  | true =>
   rw [hsg] at hs
   simp only [if_true]
   by_cases hx : 9223372036854775808 < m
   ·rw [if_pos hx]
    have hx2 : ((m : Int) > 9223372036854775808) = True := by simp; omega
    clear hsg hb hf hml hx
    go_enter Tryz.func106, Tryz.ntmps106
    go_wp2_with fail
    ((with_reducible refine (HM.out _).mono ?_); rintro e w1 ⟨rfl, rfl⟩)
    go_wp2
    go_ret2
    exact ⟨rfl, rfl⟩
   ·rw [if_neg hx]
    have hx2 : ((m : Int) > 9223372036854775808) = False := by simp; omega
    have HE := Lib.hid (congrArg (fun z => Ending.returned (.tuple #[.int .i64 z, .int .i64 0])) (neg_back (m := m) (by omega)))
    clear hsg hb hf hml hx
    go_enter Tryz.func106, Tryz.ntmps106
    go_wp2_with fail
    ((with_reducible refine (HM.out _).mono ?_); rintro e w1 ⟨rfl, rfl⟩)
    go_wp2
    go_ret2
    exact ⟨HE.out, rfl⟩
  | false =>
   rw [hsg] at hs
   simp only [Bool.false_eq_true, if_false]
   by_cases hx : 9223372036854775808 ≤ m
   ·rw [if_pos hx]
    have hx2 : ((m : Int) ≥ 9223372036854775808) = True := by simp; omega
    clear hsg hb hf hml hx
    go_enter Tryz.func106, Tryz.ntmps106
    go_wp2_with fail
    ((with_reducible refine (HM.out _).mono ?_); rintro e w1 ⟨rfl, rfl⟩)
    go_wp2
    go_ret2
    exact ⟨rfl, rfl⟩
   ·rw [if_neg hx]
    have hx2 : ((m : Int) ≥ 9223372036854775808) = False := by simp; omega
    have HE := Lib.hid (congrArg (fun z => Ending.returned (.tuple #[.int .i64 z, .int .i64 0])) (show wrap64 (m : Int) = (m : Int) by unfold wrap64; omega))
    clear hsg hb hf hml hx
    go_enter Tryz.func106, Tryz.ntmps106
    go_wp2_with fail
    ((with_reducible refine (HM.out _).mono ?_); rintro e w1 ⟨rfl, rfl⟩)
    go_wp2
    go_ret2
    exact ⟨HE.out, rfl⟩
 ·rw [if_pos he]
  have he2 : ((e : Int) != 0) = true := by rw [bne_iff_ne]; omega
  clear hs hb hf hml he
  go_enter Tryz.func106, Tryz.ntmps106
  go_wp2_with fail
  ((with_reducible refine (HM.out _).mono ?_); rintro e w1 ⟨rfl, rfl⟩)
  go_wp2
  go_ret2
  exact ⟨rfl, rfl⟩
theorem refUnsigned_64 (b : Nat) (hb : b < 18446744073709551616) (hf : finB b = true) (w : World) : Calls Tryz.prog 107 #[.int .u64 (b : Int), .int .i64 64] w (NumP .u64 (unsignedD b 18446744073709551616) w) := by
 have hm := mag_any b hb hf
 have hs := sgn_test hb
 have hml := magD_lt b
 unfold unsignedD NumP
 obtain ⟨D, hD⟩ : ∃ D, magD b = D := ⟨_, rfl⟩
 rw [hD] at hm hml ⊢
 obtain ⟨m, e⟩ := D
 dsimp only at hm hml ⊢
 have HM := Lib.hid hm
 clear hm hD
 by_cases he : e = 0
 ·subst he
  rw [if_neg (show ¬ ((0 : Nat) ≠ 0) by simp)]
  cases hsg : sgnB b with
  | true =>
   rw [hsg] at hs
   by_cases h0 : 0 < m
   ·rw [if_pos (.inl ⟨rfl, h0⟩)]
    have hx2 : ((m : Int) > 0) = True := by simp; omega
    clear hsg hb hf hml
    go_enter Tryz.func107, Tryz.ntmps107
    go_wp2_with fail
    ((with_reducible refine (HM.out _).mono ?_); rintro e w1 ⟨rfl, rfl⟩)
    go_wp2
    go_ret2
    exact ⟨rfl, rfl⟩
   ·obtain rfl : m = 0 := by omega
    rw [if_neg (by simp)]
    clear hsg hb hf hml h0
    go_enter Tryz.func107, Tryz.ntmps107
    go_wp2_with fail
    ((with_reducible refine (HM.out _).mono ?_); rintro e w1 ⟨rfl, rfl⟩)
    go_wp2
    go_ret2
    exact ⟨rfl, rfl⟩
  | false =>
   rw [hsg] at hs
   by_cases hx : 18446744073709551616 ≤ m
   ·exact absurd hml (by omega)
   ·rw [if_neg (by simp; omega)]
    clear hsg hb hf hml hx
    go_enter Tryz.func107, Tryz.ntmps107
    go_wp2_with fail
    ((with_reducible refine (HM.out _).mono ?_); rintro e w1 ⟨rfl, rfl⟩)
    go_wp2
    go_ret2
    exact ⟨rfl, rfl⟩
 ·rw [if_pos he]
  have he2 : ((e : Int) != 0) = true := by rw [bne_iff_ne]; omega
  clear hs hb hf hml he
  go_enter Tryz.func107, Tryz.ntmps107
  go_wp2_with fail
  ((with_reducible refine (HM.out _).mono ?_); rintro e w1 ⟨rfl, rfl⟩)
  go_wp2
  go_ret2
  exact ⟨rfl, rfl⟩
end Nd
end Go.Proofs.YtbajkglacfheiaaGreatDoor
namespace Go.Proofs.YtbajkglacfheiaaGreatDoor
open Go.RowKit Mem
namespace Nd

def Tr.kids : Tr → List Tr
 | .list l => l
 | .obj _ l => l
 | _ => []
def Tr.kn : Tr → List Tx
 | .obj ks _ => ks
 | _ => []
def Tr.tx : Tr → Tx
 | .text s => s
 | _ => []
theorem rdk_row {S : Nat → Prop} {w : World} {A : Option Addr} {ks : List Tx} {c : Nat} (h : Row S w 9 (.slice A ks.length c) (ks.map txV)) : RdK w (.slice A ks.length c) ks := by
 obtain ⟨A', c', e, h⟩ := h
 injection e with e1 e2 e3
 subst e1
 refine ⟨_, _, rfl, ?_⟩
 rcases h with ⟨h, _⟩ | ⟨g, o, cur, hA, _, hB, hc⟩
 ·exact .inl (by simpa using congrArg List.length h)
 ·exact .inr ⟨g, o, hA, fun j t hj => (hB.cell _).trans (hc j _ (by rw [List.getElem?_map, hj]; rfl))⟩
theorem row_none (S : Nat → Prop) (w : World) (e : TypeId) : Row S w e (.slice none 0 0) [] := ⟨none, 0, rfl, .inl ⟨rfl, .inl rfl⟩⟩
def KeysP (t : Tr) (w : World) (e : Ending) (w' : World) : Prop := (∃ A c, e = .returned (.slice A t.kn.length c) ∧ RdK w (.slice A t.kn.length c) t.kn) ∧ Below w.heap.size w w'
theorem keysr_null (S : Nat → Prop) (v : Value) (w : World) (h : RdT S w (.null) v) : Calls Tryz.prog 141 #[.agg #[v]] w (KeysP (.null) w) := by
 unfold RdT at h
 subst h
 have h5 := ta_0_5
 go_enter Tryz.func141, Tryz.ntmps141
 go_wp2
 go_ret
 exact ⟨⟨none, 0, rfl, ⟨none, 0, rfl, .inl rfl⟩⟩, (Below.refl _ _).alloc (Nat.le_refl _) _⟩
theorem keysr_flag (b : Bool) (S : Nat → Prop) (v : Value) (w : World) (h : RdT S w (.flag b) v) : Calls Tryz.prog 141 #[.agg #[v]] w (KeysP (.flag b) w) := by
 unfold RdT at h
 subst h
 have h5 := ta_1_5 b
 go_enter Tryz.func141, Tryz.ntmps141
 go_wp2
 go_ret
 exact ⟨⟨none, 0, rfl, ⟨none, 0, rfl, .inl rfl⟩⟩, (Below.refl _ _).alloc (Nat.le_refl _) _⟩
theorem keysr_num (x : Nat) (S : Nat → Prop) (v : Value) (w : World) (h : RdT S w (.num x) v) : Calls Tryz.prog 141 #[.agg #[v]] w (KeysP (.num x) w) := by
 unfold RdT at h
 subst h
 have h5 := ta_2_5 x
 go_enter Tryz.func141, Tryz.ntmps141
 go_wp2
 go_ret
 exact ⟨⟨none, 0, rfl, ⟨none, 0, rfl, .inl rfl⟩⟩, (Below.refl _ _).alloc (Nat.le_refl _) _⟩
theorem keysr_text (s : Tx) (S : Nat → Prop) (v : Value) (w : World) (h : RdT S w (.text s) v) : Calls Tryz.prog 141 #[.agg #[v]] w (KeysP (.text s) w) := by
 unfold RdT at h
 subst h
 have h5 := ta_3_5 ⟨s.toArray⟩
 go_enter Tryz.func141, Tryz.ntmps141
 go_wp2
 go_ret
 exact ⟨⟨none, 0, rfl, ⟨none, 0, rfl, .inl rfl⟩⟩, (Below.refl _ _).alloc (Nat.le_refl _) _⟩
theorem keysr_list (l : List Tr) (S : Nat → Prop) (v : Value) (w : World) (h : RdT S w (.list l) v) : Calls Tryz.prog 141 #[.agg #[v]] w (KeysP (.list l) w) := by
 unfold RdT at h
 obtain ⟨g1, A1, c1, vs, rfl, hS1, hB1, hR1, hL1⟩ := h
 have h5 := ta_4_5 (some ⟨g1, 0, none⟩)
 clear hB1 hR1 hL1
 go_enter Tryz.func141, Tryz.ntmps141
 go_wp2
 go_ret
 exact ⟨⟨none, 0, rfl, ⟨none, 0, rfl, .inl rfl⟩⟩, (Below.refl _ _).alloc (Nat.le_refl _) _⟩
theorem keysr_obj (ks : List Tx) (l : List Tr) (S : Nat → Prop) (v : Value) (w : World) (h : RdT S w (.obj ks l) v) : Calls Tryz.prog 141 #[.agg #[v]] w (KeysP (.obj ks l) w) := by
 unfold RdT at h
 obtain ⟨g1, K1, dk, A1, c1, vs, rfl, hS1, hB1, hK1, hR1, hL1⟩ := h
 have h5 := ta_5_5 (some ⟨g1, 0, none⟩)
 have d4 : w.cell? ⟨g1, 3, none⟩ = some (.slice K1 ks.length dk) := hB1.cell 3
 have HP := Lib.hid (rdk_row hK1)
 have hlt := hB1.lt
 clear hB1 hR1 hL1 hK1
 go_enter Tryz.func141, Tryz.ntmps141
 go_wp2
 go_ret
 exact ⟨⟨K1, dk, rfl, HP.out⟩, (Below.refl _ _).alloc (Nat.le_refl _) _⟩
theorem keysr_any (S : Nat → Prop) (t : Tr) (v : Value) (w : World) (h : RdT S w t v) : Calls Tryz.prog 141 #[.agg #[v]] w (KeysP t w) := by
 cases t with
 | null => exact keysr_null S v w h
 | flag b => exact keysr_flag b S v w h
 | num x => exact keysr_num x S v w h
 | text s => exact keysr_text s S v w h
 | list l => exact keysr_list l S v w h
 | obj ks l => exact keysr_obj ks l S v w h
end Nd
end Go.Proofs.YtbajkglacfheiaaGreatDoor
namespace Go.Proofs.YtbajkglacfheiaaGreatDoor
open Go.RowKit Mem
namespace Nd

def ItV (S : Nat → Prop) (w : World) (v : Value) (A : Option Addr) (n c : Nat) : Prop :=
 (((v = .iface 195 (.agg #[])) ∨ (∃ b, v = .iface 196 (.bool b)) ∨ (∃ x, v = .iface 140 (.float .f64 x)) ∨ (∃ s, v = .iface 199 (.string s))) ∧ A = none ∧ n = 0 ∧ c = 0) ∨
 (∃ g, v = .iface 202 (.pointer (some ⟨g, 0, none⟩)) ∧ S g ∧ w.cell? ⟨g, 3, none⟩ = some (.slice A n c)) ∨
 (∃ g, v = .iface 271 (.pointer (some ⟨g, 0, none⟩)) ∧ S g ∧ w.cell? ⟨g, 4, none⟩ = some (.slice A n c))
theorem itv_cell {w w' : World} {g o : Nat} (h : w'.heap[g]? = w.heap[g]?) : w'.cell? ⟨g, o, none⟩ = w.cell? ⟨g, o, none⟩ := by
 unfold World.cell?
 simp only [h]
theorem ItV.move {S S' : Nat → Prop} {w w' : World} {v : Value} {A : Option Addr} {n c : Nat} (h : ItV S w v A n c) (hm : ∀ k, k < w.heap.size → S k → S' k ∧ w'.heap[k]? = w.heap[k]?) : ItV S' w' v A n c := by
 rcases h with h | ⟨g, hv, hs, hc⟩ | ⟨g, hv, hs, hc⟩
 ·exact .inl h
 ·have hlt := World.block_lt_of_cell? w _ hc
  have := hm g hlt hs
  exact .inr (.inl ⟨g, hv, this.1, (itv_cell this.2).trans hc⟩)
 ·have hlt := World.block_lt_of_cell? w _ hc
  have := hm g hlt hs
  exact .inr (.inr ⟨g, hv, this.1, (itv_cell this.2).trans hc⟩)
theorem RdT.itv {S : Nat → Prop} {w : World} {t : Tr} {v : Value} (h : RdT S w t v) : ∃ A c vs, ItV S w v A t.kids.length c ∧ Row S w 56 (.slice A t.kids.length c) vs ∧ RdL S w t.kids vs := by
 cases t <;> unfold RdT at h
 ·exact ⟨none, 0, [], .inl ⟨.inl h, rfl, rfl, rfl⟩, row_none _ _ _, by unfold Tr.kids RdL; rfl⟩
 ·exact ⟨none, 0, [], .inl ⟨.inr (.inl ⟨_, h⟩), rfl, rfl, rfl⟩, row_none _ _ _, by unfold Tr.kids RdL; rfl⟩
 ·exact ⟨none, 0, [], .inl ⟨.inr (.inr (.inl ⟨_, h⟩)), rfl, rfl, rfl⟩, row_none _ _ _, by unfold Tr.kids RdL; rfl⟩
 ·exact ⟨none, 0, [], .inl ⟨.inr (.inr (.inr ⟨_, h⟩)), rfl, rfl, rfl⟩, row_none _ _ _, by unfold Tr.kids RdL; rfl⟩
 ·obtain ⟨g1, A1, c1, vs, rfl, hS1, hB1, hR1, hL1⟩ := h
  exact ⟨A1, c1, vs, .inr (.inl ⟨g1, rfl, hS1, hB1.cell 3⟩), hR1, hL1⟩
 ·obtain ⟨g1, K1, dk, A1, c1, vs, rfl, hS1, hB1, hK1, hR1, hL1⟩ := h
  exact ⟨A1, c1, vs, .inr (.inr ⟨g1, rfl, hS1, hB1.cell 4⟩), hR1, hL1⟩
theorem itm_null (w : World) : Calls Tryz.prog 113 #[.agg #[.iface 195 (.agg #[])]] w fun e w' => e = .returned (.slice none 0 0) ∧ Below w.heap.size w w' := by
 have h4 := ta_0_4
 have h5 := ta_0_5
 go_enter Tryz.func113, Tryz.ntmps113
 go_wp2
 go_ret
 exact ⟨rfl, (Below.refl _ _).alloc (Nat.le_refl _) _⟩
theorem itm_flag (b : Bool) (w : World) : Calls Tryz.prog 113 #[.agg #[.iface 196 (.bool b)]] w fun e w' => e = .returned (.slice none 0 0) ∧ Below w.heap.size w w' := by
 have h4 := ta_1_4 b
 have h5 := ta_1_5 b
 go_enter Tryz.func113, Tryz.ntmps113
 go_wp2
 go_ret
 exact ⟨rfl, (Below.refl _ _).alloc (Nat.le_refl _) _⟩
theorem itm_num (x : Nat) (w : World) : Calls Tryz.prog 113 #[.agg #[.iface 140 (.float .f64 x)]] w fun e w' => e = .returned (.slice none 0 0) ∧ Below w.heap.size w w' := by
 have h4 := ta_2_4 x
 have h5 := ta_2_5 x
 go_enter Tryz.func113, Tryz.ntmps113
 go_wp2
 go_ret
 exact ⟨rfl, (Below.refl _ _).alloc (Nat.le_refl _) _⟩
theorem itm_text (s : ByteArray) (w : World) : Calls Tryz.prog 113 #[.agg #[.iface 199 (.string s)]] w fun e w' => e = .returned (.slice none 0 0) ∧ Below w.heap.size w w' := by
 have h4 := ta_3_4 s
 have h5 := ta_3_5 s
 go_enter Tryz.func113, Tryz.ntmps113
 go_wp2
 go_ret
 exact ⟨rfl, (Below.refl _ _).alloc (Nat.le_refl _) _⟩
theorem itm_list (g1 : Nat) (w : World) (A : Option Addr) (n c : Nat) (d3 : w.cell? ⟨g1, 3, none⟩ = some (.slice A n c)) : Calls Tryz.prog 113 #[.agg #[.iface 202 (.pointer (some ⟨g1, 0, none⟩))]] w fun e w' => e = .returned (.slice A n c) ∧ Below w.heap.size w w' := by
 have h4 := ta_4_4 (some ⟨g1, 0, none⟩)
 have hlt := World.block_lt_of_cell? w _ d3
 dsimp only at hlt
 go_enter Tryz.func113, Tryz.ntmps113
 go_wp2
 go_ret
 exact ⟨rfl, (Below.refl _ _).alloc (Nat.le_refl _) _⟩
theorem itm_obj (g1 : Nat) (w : World) (A : Option Addr) (n c : Nat) (d3 : w.cell? ⟨g1, 4, none⟩ = some (.slice A n c)) : Calls Tryz.prog 113 #[.agg #[.iface 271 (.pointer (some ⟨g1, 0, none⟩))]] w fun e w' => e = .returned (.slice A n c) ∧ Below w.heap.size w w' := by
 have h4 := ta_5_4 (some ⟨g1, 0, none⟩)
 have h5 := ta_5_5 (some ⟨g1, 0, none⟩)
 have hlt := World.block_lt_of_cell? w _ d3
 dsimp only at hlt
 go_enter Tryz.func113, Tryz.ntmps113
 go_wp2
 go_ret
 exact ⟨rfl, (Below.refl _ _).alloc (Nat.le_refl _) _⟩
theorem itm_any {S : Nat → Prop} {w : World} {v : Value} {A : Option Addr} {n c : Nat} (h : ItV S w v A n c) : Calls Tryz.prog 113 #[.agg #[v]] w fun e w' => e = .returned (.slice A n c) ∧ Below w.heap.size w w' := by
 rcases h with ⟨h, rfl, rfl, rfl⟩ | ⟨g, rfl, _, hc⟩ | ⟨g, rfl, _, hc⟩
 ·rcases h with rfl | ⟨b, rfl⟩ | ⟨x, rfl⟩ | ⟨s, rfl⟩
  ·exact itm_null w
  ·exact itm_flag b w
  ·exact itm_num x w
  ·exact itm_text s w
 ·exact itm_list g w A n c hc
 ·exact itm_obj g w A n c hc
end Nd
end Go.Proofs.YtbajkglacfheiaaGreatDoor
namespace Go.Proofs.YtbajkglacfheiaaGreatDoor
open Go.RowKit Mem
namespace Nd
def Tr.nb : Tr → Nat
 | .num x => x
 | _ => 0
def Tr.isNb : Tr → Bool
 | .num _ => true
 | _ => false
theorem numr_null (S : Nat → Prop) (v : Value) (w : World) (h : RdT S w (.null) v) : Calls Tryz.prog 14 #[.agg #[v]] w fun e w' => e = .returned (.tuple #[.float .f64 (Tr.nb (.null)), .bool (Tr.isNb (.null))]) ∧ Below w.heap.size w w' := by
 unfold RdT at h
 subst h
 have h2 := ta_0_2
 go_enter Tryz.func14, Tryz.ntmps14
 go_wp2
 go_ret2
 exact ⟨rfl, (Below.refl _ _).alloc (Nat.le_refl _) _⟩
theorem numr_flag (b : Bool) (S : Nat → Prop) (v : Value) (w : World) (h : RdT S w (.flag b) v) : Calls Tryz.prog 14 #[.agg #[v]] w fun e w' => e = .returned (.tuple #[.float .f64 (Tr.nb (.flag b)), .bool (Tr.isNb (.flag b))]) ∧ Below w.heap.size w w' := by
 unfold RdT at h
 subst h
 have h2 := ta_1_2 b
 go_enter Tryz.func14, Tryz.ntmps14
 go_wp2
 go_ret2
 exact ⟨rfl, (Below.refl _ _).alloc (Nat.le_refl _) _⟩
theorem numr_num (x : Nat) (S : Nat → Prop) (v : Value) (w : World) (h : RdT S w (.num x) v) : Calls Tryz.prog 14 #[.agg #[v]] w fun e w' => e = .returned (.tuple #[.float .f64 (Tr.nb (.num x)), .bool (Tr.isNb (.num x))]) ∧ Below w.heap.size w w' := by
 unfold RdT at h
 subst h
 have h2 := ta_2_2 x
 go_enter Tryz.func14, Tryz.ntmps14
 go_wp2
 go_ret2
 exact ⟨rfl, (Below.refl _ _).alloc (Nat.le_refl _) _⟩
theorem numr_text (s : Tx) (S : Nat → Prop) (v : Value) (w : World) (h : RdT S w (.text s) v) : Calls Tryz.prog 14 #[.agg #[v]] w fun e w' => e = .returned (.tuple #[.float .f64 (Tr.nb (.text s)), .bool (Tr.isNb (.text s))]) ∧ Below w.heap.size w w' := by
 unfold RdT at h
 subst h
 have h2 := ta_3_2 ⟨s.toArray⟩
 go_enter Tryz.func14, Tryz.ntmps14
 go_wp2
 go_ret2
 exact ⟨rfl, (Below.refl _ _).alloc (Nat.le_refl _) _⟩
theorem numr_list (l : List Tr) (S : Nat → Prop) (v : Value) (w : World) (h : RdT S w (.list l) v) : Calls Tryz.prog 14 #[.agg #[v]] w fun e w' => e = .returned (.tuple #[.float .f64 (Tr.nb (.list l)), .bool (Tr.isNb (.list l))]) ∧ Below w.heap.size w w' := by
 unfold RdT at h
 obtain ⟨g1, A1, c1, vs, rfl, hS1, hB1, hR1, hL1⟩ := h
 clear hB1 hR1 hL1
 have h2 := ta_4_2 (some ⟨g1, 0, none⟩)
 go_enter Tryz.func14, Tryz.ntmps14
 go_wp2
 go_ret2
 exact ⟨rfl, (Below.refl _ _).alloc (Nat.le_refl _) _⟩
theorem numr_obj (ks : List Tx) (l : List Tr) (S : Nat → Prop) (v : Value) (w : World) (h : RdT S w (.obj ks l) v) : Calls Tryz.prog 14 #[.agg #[v]] w fun e w' => e = .returned (.tuple #[.float .f64 (Tr.nb (.obj ks l)), .bool (Tr.isNb (.obj ks l))]) ∧ Below w.heap.size w w' := by
 unfold RdT at h
 obtain ⟨g1, K1, dk, A1, c1, vs, rfl, hS1, hB1, hK1, hR1, hL1⟩ := h
 clear hB1 hR1 hL1 hK1
 have h2 := ta_5_2 (some ⟨g1, 0, none⟩)
 go_enter Tryz.func14, Tryz.ntmps14
 go_wp2
 go_ret2
 exact ⟨rfl, (Below.refl _ _).alloc (Nat.le_refl _) _⟩
theorem numr_any (S : Nat → Prop) (t : Tr) (v : Value) (w : World) (h : RdT S w t v) : Calls Tryz.prog 14 #[.agg #[v]] w (fun e w' => e = .returned (.tuple #[.float .f64 t.nb, .bool t.isNb]) ∧ Below w.heap.size w w') := by
 cases t with
 | null => exact numr_null S v w h
 | flag b => exact numr_flag b S v w h
 | num x => exact numr_num x S v w h
 | text s => exact numr_text s S v w h
 | list l => exact numr_list l S v w h
 | obj ks l => exact numr_obj ks l S v w h
end Nd
end Go.Proofs.YtbajkglacfheiaaGreatDoor
