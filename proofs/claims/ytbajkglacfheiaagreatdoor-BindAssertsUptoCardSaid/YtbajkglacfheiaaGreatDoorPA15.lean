/-
  Walks of package bind: within and counted: what each kind of whole number takes.
-/
import Derived.Test.YtbajkglacfheiaaGreatDoorPA14
set_option linter.unusedVariables false
set_option linter.unusedSimpArgs false
set_option maxRecDepth 100000
set_option maxHeartbeats 16000000
namespace Go.Proofs.YtbajkglacfheiaaGreatDoor
open Go.RowKit Mem
namespace Nd
theorem intD_n {b : Nat} (k : Nat) (h : wholeD b = none) : intD k b = .inl 160 := by
 unfold intD
 rw [h]
theorem intD_y {b : Nat} {k : Nat} {z : Int} (h : wholeD b = some z) (h1 : loK k ≤ z) (h2 : z ≤ hiK k) : intD k b = .inr z := by
 unfold intD
 rw [h]
 dsimp only
 rw [if_pos ⟨h1, h2⟩]
theorem intD_f {b : Nat} {k : Nat} {z : Int} (h : wholeD b = some z) (h1 : ¬ (loK k ≤ z ∧ z ≤ hiK k)) : intD k b = .inl 161 := by
 unfold intD
 rw [h]
 dsimp only
 rw [if_neg h1]
def WithQ (q : IntKind) (r : Int ⊕ Int) (w : World) (e : Ending) (w' : World) : Prop :=
 (match r with
  | .inl n => e = .returned (.tuple #[.int q 0, errN n])
  | .inr z => e = .returned (.tuple #[.int q z, .nilIface])) ∧ w = w'
theorem wrap_in {q : IntKind} {z : Int} (h1 : q.min ≤ z) (h2 : z ≤ q.max) : q.wrap z = z := by
 unfold IntKind.min at h1
 unfold IntKind.max at h2
 unfold IntKind.wrap
 cases q <;> simp [IntKind.bits, IntKind.signed] at h1 h2 ⊢ <;> omega
theorem wrap_bds (q : IntKind) (z : Int) : q.min ≤ q.wrap z ∧ q.wrap z ≤ q.max := by
 unfold IntKind.min IntKind.max IntKind.wrap
 cases q <;> simp [IntKind.bits, IntKind.signed] <;> omega
theorem wrap_out {q : IntKind} {z : Int} (h : ¬ (q.min ≤ z ∧ z ≤ q.max)) : q.wrap z ≠ z := by
 intro e
 apply h
 have h3 := wrap_bds q z
 rw [e] at h3
 exact h3
theorem within3_any (b : Nat) (hb : b < 18446744073709551616) (hf : finB b = true) (w : World) : Calls Tryz.prog 123 #[.float .f64 b] w (WithQ .i8 (intD 3 b) w) := by
 have q1 := err_ne_nil
 have q2 := err_ne_held
 have q3 := err_eq_nil
 have q4 := err_eq_held
 have HB := Lib.hid hb
 have HF := Lib.hid hf
 cases hw : wholeD b with
 | none =>
  rw [intD_n 3 hw]
  unfold WithQ
  have HW := Lib.hid hw
  clear hb hf hw
  go_enter Tryz.func123, Tryz.ntmps123
  go_wp2_with fail
  ((with_reducible refine (bwhole_n b HB.out HF.out HW.out _).mono ?_); rintro e w1 ⟨rfl, rfl⟩)
  unfold errN
  go_wp2
  go_ret2
  exact ⟨rfl, rfl⟩
 | some z =>
  have HW := Lib.hid hw
  clear hb hf
  by_cases ho : -9223372036854775808 ≤ z ∧ z < 9223372036854775808
  ·obtain ⟨o1, o2⟩ := ho
   by_cases hk : loK 3 ≤ z ∧ z ≤ hiK 3
   ·rw [intD_y hw hk.1 hk.2]
    have hwr : IntKind.wrap .i8 z = z := wrap_in hk.1 hk.2
    have hwb : IntKind.wrap .i64 z = z := wrap_in (by show -9223372036854775808 ≤ z; omega) (by show z ≤ 9223372036854775807; omega)
    have hw64 : wrap64 z = z := by have h8 : -9223372036854775808 ≤ z := o1; have h9 : z < 9223372036854775808 := o2; unfold wrap64; omega
    have hne : (z != z) = false := by simp
    unfold WithQ
    have HO := Lib.hid (And.intro o1 o2)
    clear hw hk o1 o2
    go_enter Tryz.func123, Tryz.ntmps123
    go_wp2_with fail
    ((with_reducible refine (bwhole_y b HB.out HF.out z HW.out HO.out.1 HO.out.2 _).mono ?_); rintro e w1 ⟨rfl, rfl⟩)
    go_wp2
    go_ret2
    exact ⟨rfl, rfl⟩
   ·rw [intD_f hw hk]
    have hwr : IntKind.wrap .i8 z ≠ z := wrap_out hk
    have hwb : IntKind.wrap .i64 (IntKind.wrap .i8 z) = IntKind.wrap .i8 z := by
     have h3 : IntKind.min .i8 ≤ IntKind.wrap .i8 z ∧ IntKind.wrap .i8 z ≤ IntKind.max .i8 := wrap_bds _ _
     have h4 : -9223372036854775808 ≤ IntKind.min .i8 := by decide
     have h5 : IntKind.max .i8 ≤ 9223372036854775807 := by decide
     exact wrap_in (by show -9223372036854775808 ≤ _; omega) (by show _ ≤ 9223372036854775807; omega)
    have hn : (IntKind.wrap .i8 z != z) = true := by simpa using hwr
    unfold WithQ
    have HO := Lib.hid (And.intro o1 o2)
    clear hw hk o1 o2
    go_enter Tryz.func123, Tryz.ntmps123
    go_wp2_with fail
    ((with_reducible refine (bwhole_y b HB.out HF.out z HW.out HO.out.1 HO.out.2 _).mono ?_); rintro e w1 ⟨rfl, rfl⟩)
    go_wp2
    go_ret2
    exact ⟨rfl, rfl⟩
  ·rw [intD_f hw (by
    have h1 : -9223372036854775808 ≤ loK 3 := by decide
    have h2 : hiK 3 ≤ 9223372036854775807 := by decide
    omega)]
   unfold WithQ
   clear hw
   rcases Int.lt_or_le z (-9223372036854775808) with hz | hz
   ·have HZ := Lib.hid hz
    clear hz ho
    go_enter Tryz.func123, Tryz.ntmps123
    go_wp2_with fail
    ((with_reducible refine (bwhole_lo b HB.out HF.out z HW.out HZ.out _).mono ?_); rintro e w1 ⟨rfl, rfl⟩)
    unfold errN
    go_wp2
    go_ret2
    exact ⟨rfl, rfl⟩
   ·have HZ := Lib.hid (show 9223372036854775808 ≤ z by omega)
    clear hz ho
    go_enter Tryz.func123, Tryz.ntmps123
    go_wp2_with fail
    ((with_reducible refine (bwhole_hi b HB.out HF.out z HW.out HZ.out _).mono ?_); rintro e w1 ⟨rfl, rfl⟩)
    unfold errN
    go_wp2
    go_ret2
    exact ⟨rfl, rfl⟩
theorem within4_any (b : Nat) (hb : b < 18446744073709551616) (hf : finB b = true) (w : World) : Calls Tryz.prog 124 #[.float .f64 b] w (WithQ .i16 (intD 4 b) w) := by
 have q1 := err_ne_nil
 have q2 := err_ne_held
 have q3 := err_eq_nil
 have q4 := err_eq_held
 have HB := Lib.hid hb
 have HF := Lib.hid hf
 cases hw : wholeD b with
 | none =>
  rw [intD_n 4 hw]
  unfold WithQ
  have HW := Lib.hid hw
  clear hb hf hw
  go_enter Tryz.func124, Tryz.ntmps124
  go_wp2_with fail
  ((with_reducible refine (bwhole_n b HB.out HF.out HW.out _).mono ?_); rintro e w1 ⟨rfl, rfl⟩)
  unfold errN
  go_wp2
  go_ret2
  exact ⟨rfl, rfl⟩
 | some z =>
  have HW := Lib.hid hw
  clear hb hf
  by_cases ho : -9223372036854775808 ≤ z ∧ z < 9223372036854775808
  ·obtain ⟨o1, o2⟩ := ho
   by_cases hk : loK 4 ≤ z ∧ z ≤ hiK 4
   ·rw [intD_y hw hk.1 hk.2]
    have hwr : IntKind.wrap .i16 z = z := wrap_in hk.1 hk.2
    have hwb : IntKind.wrap .i64 z = z := wrap_in (by show -9223372036854775808 ≤ z; omega) (by show z ≤ 9223372036854775807; omega)
    have hw64 : wrap64 z = z := by have h8 : -9223372036854775808 ≤ z := o1; have h9 : z < 9223372036854775808 := o2; unfold wrap64; omega
    have hne : (z != z) = false := by simp
    unfold WithQ
    have HO := Lib.hid (And.intro o1 o2)
    clear hw hk o1 o2
    go_enter Tryz.func124, Tryz.ntmps124
    go_wp2_with fail
    ((with_reducible refine (bwhole_y b HB.out HF.out z HW.out HO.out.1 HO.out.2 _).mono ?_); rintro e w1 ⟨rfl, rfl⟩)
    go_wp2
    go_ret2
    exact ⟨rfl, rfl⟩
   ·rw [intD_f hw hk]
    have hwr : IntKind.wrap .i16 z ≠ z := wrap_out hk
    have hwb : IntKind.wrap .i64 (IntKind.wrap .i16 z) = IntKind.wrap .i16 z := by
     have h3 : IntKind.min .i16 ≤ IntKind.wrap .i16 z ∧ IntKind.wrap .i16 z ≤ IntKind.max .i16 := wrap_bds _ _
     have h4 : -9223372036854775808 ≤ IntKind.min .i16 := by decide
     have h5 : IntKind.max .i16 ≤ 9223372036854775807 := by decide
     exact wrap_in (by show -9223372036854775808 ≤ _; omega) (by show _ ≤ 9223372036854775807; omega)
    have hn : (IntKind.wrap .i16 z != z) = true := by simpa using hwr
    unfold WithQ
    have HO := Lib.hid (And.intro o1 o2)
    clear hw hk o1 o2
    go_enter Tryz.func124, Tryz.ntmps124
    go_wp2_with fail
    ((with_reducible refine (bwhole_y b HB.out HF.out z HW.out HO.out.1 HO.out.2 _).mono ?_); rintro e w1 ⟨rfl, rfl⟩)
    go_wp2
    go_ret2
    exact ⟨rfl, rfl⟩
  ·rw [intD_f hw (by
    have h1 : -9223372036854775808 ≤ loK 4 := by decide
    have h2 : hiK 4 ≤ 9223372036854775807 := by decide
    omega)]
   unfold WithQ
   clear hw
   rcases Int.lt_or_le z (-9223372036854775808) with hz | hz
   ·have HZ := Lib.hid hz
    clear hz ho
    go_enter Tryz.func124, Tryz.ntmps124
    go_wp2_with fail
    ((with_reducible refine (bwhole_lo b HB.out HF.out z HW.out HZ.out _).mono ?_); rintro e w1 ⟨rfl, rfl⟩)
    unfold errN
    go_wp2
    go_ret2
    exact ⟨rfl, rfl⟩
   ·have HZ := Lib.hid (show 9223372036854775808 ≤ z by omega)
    clear hz ho
    go_enter Tryz.func124, Tryz.ntmps124
    go_wp2_with fail
    ((with_reducible refine (bwhole_hi b HB.out HF.out z HW.out HZ.out _).mono ?_); rintro e w1 ⟨rfl, rfl⟩)
    unfold errN
    go_wp2
    go_ret2
    exact ⟨rfl, rfl⟩
theorem within5_any (b : Nat) (hb : b < 18446744073709551616) (hf : finB b = true) (w : World) : Calls Tryz.prog 125 #[.float .f64 b] w (WithQ .i32 (intD 5 b) w) := by
 have q1 := err_ne_nil
 have q2 := err_ne_held
 have q3 := err_eq_nil
 have q4 := err_eq_held
 have HB := Lib.hid hb
 have HF := Lib.hid hf
 cases hw : wholeD b with
 | none =>
  rw [intD_n 5 hw]
  unfold WithQ
  have HW := Lib.hid hw
  clear hb hf hw
  go_enter Tryz.func125, Tryz.ntmps125
  go_wp2_with fail
  ((with_reducible refine (bwhole_n b HB.out HF.out HW.out _).mono ?_); rintro e w1 ⟨rfl, rfl⟩)
  unfold errN
  go_wp2
  go_ret2
  exact ⟨rfl, rfl⟩
 | some z =>
  have HW := Lib.hid hw
  clear hb hf
  by_cases ho : -9223372036854775808 ≤ z ∧ z < 9223372036854775808
  ·obtain ⟨o1, o2⟩ := ho
   by_cases hk : loK 5 ≤ z ∧ z ≤ hiK 5
   ·rw [intD_y hw hk.1 hk.2]
    have hwr : IntKind.wrap .i32 z = z := wrap_in hk.1 hk.2
    have hwb : IntKind.wrap .i64 z = z := wrap_in (by show -9223372036854775808 ≤ z; omega) (by show z ≤ 9223372036854775807; omega)
    have hw64 : wrap64 z = z := by have h8 : -9223372036854775808 ≤ z := o1; have h9 : z < 9223372036854775808 := o2; unfold wrap64; omega
    have hmod : wrap32 z = z := by have h8 : loK 5 ≤ z := hk.1; have h9 : z ≤ hiK 5 := hk.2; simp [loK, hiK] at h8 h9; unfold wrap32; omega
    have hnm : (wrap32 z != z) = false := by rw [hmod]; simp
    have hne : (z != z) = false := by simp
    unfold WithQ
    have HO := Lib.hid (And.intro o1 o2)
    clear hw hk o1 o2
    go_enter Tryz.func125, Tryz.ntmps125
    go_wp2_with fail
    ((with_reducible refine (bwhole_y b HB.out HF.out z HW.out HO.out.1 HO.out.2 _).mono ?_); rintro e w1 ⟨rfl, rfl⟩)
    go_wp2
    go_ret2
    exact ⟨rfl, rfl⟩
   ·rw [intD_f hw hk]
    have hwr : IntKind.wrap .i32 z ≠ z := wrap_out hk
    have hwb : IntKind.wrap .i64 (IntKind.wrap .i32 z) = IntKind.wrap .i32 z := by
     have h3 : IntKind.min .i32 ≤ IntKind.wrap .i32 z ∧ IntKind.wrap .i32 z ≤ IntKind.max .i32 := wrap_bds _ _
     have h4 : -9223372036854775808 ≤ IntKind.min .i32 := by decide
     have h5 : IntKind.max .i32 ≤ 9223372036854775807 := by decide
     exact wrap_in (by show -9223372036854775808 ≤ _; omega) (by show _ ≤ 9223372036854775807; omega)
    have hn : (IntKind.wrap .i32 z != z) = true := by simpa using hwr
    have hn2 : (wrap32 z != z) = true := by
     have h8 : ¬ (loK 5 ≤ z ∧ z ≤ hiK 5) := hk
     have h9 : -9223372036854775808 ≤ z := o1
     have h7 : z < 9223372036854775808 := o2
     simp [loK, hiK] at h8
     rw [bne_iff_ne]
     unfold wrap32
     omega
    have h64 : wrap64 (wrap32 z) = wrap32 z := by unfold wrap64 wrap32; omega
    unfold WithQ
    have HO := Lib.hid (And.intro o1 o2)
    clear hw hk o1 o2
    go_enter Tryz.func125, Tryz.ntmps125
    go_wp2_with fail
    ((with_reducible refine (bwhole_y b HB.out HF.out z HW.out HO.out.1 HO.out.2 _).mono ?_); rintro e w1 ⟨rfl, rfl⟩)
    go_wp2
    go_ret2
    exact ⟨rfl, rfl⟩
  ·rw [intD_f hw (by
    have h1 : -9223372036854775808 ≤ loK 5 := by decide
    have h2 : hiK 5 ≤ 9223372036854775807 := by decide
    omega)]
   unfold WithQ
   clear hw
   rcases Int.lt_or_le z (-9223372036854775808) with hz | hz
   ·have HZ := Lib.hid hz
    clear hz ho
    go_enter Tryz.func125, Tryz.ntmps125
    go_wp2_with fail
    ((with_reducible refine (bwhole_lo b HB.out HF.out z HW.out HZ.out _).mono ?_); rintro e w1 ⟨rfl, rfl⟩)
    unfold errN
    go_wp2
    go_ret2
    exact ⟨rfl, rfl⟩
   ·have HZ := Lib.hid (show 9223372036854775808 ≤ z by omega)
    clear hz ho
    go_enter Tryz.func125, Tryz.ntmps125
    go_wp2_with fail
    ((with_reducible refine (bwhole_hi b HB.out HF.out z HW.out HZ.out _).mono ?_); rintro e w1 ⟨rfl, rfl⟩)
    unfold errN
    go_wp2
    go_ret2
    exact ⟨rfl, rfl⟩
theorem within6_any (b : Nat) (hb : b < 18446744073709551616) (hf : finB b = true) (w : World) : Calls Tryz.prog 126 #[.float .f64 b] w (WithQ .i64 (intD 6 b) w) := by
 have q1 := err_ne_nil
 have q2 := err_ne_held
 have q3 := err_eq_nil
 have q4 := err_eq_held
 have HB := Lib.hid hb
 have HF := Lib.hid hf
 cases hw : wholeD b with
 | none =>
  rw [intD_n 6 hw]
  unfold WithQ
  have HW := Lib.hid hw
  clear hb hf hw
  go_enter Tryz.func126, Tryz.ntmps126
  go_wp2_with fail
  ((with_reducible refine (bwhole_n b HB.out HF.out HW.out _).mono ?_); rintro e w1 ⟨rfl, rfl⟩)
  unfold errN
  go_wp2
  go_ret2
  exact ⟨rfl, rfl⟩
 | some z =>
  have HW := Lib.hid hw
  clear hb hf
  by_cases ho : -9223372036854775808 ≤ z ∧ z < 9223372036854775808
  ·obtain ⟨o1, o2⟩ := ho
   by_cases hk : loK 6 ≤ z ∧ z ≤ hiK 6
   ·rw [intD_y hw hk.1 hk.2]
    have hwr : IntKind.wrap .i64 z = z := wrap_in hk.1 hk.2
    have hwb : IntKind.wrap .i64 z = z := wrap_in (by show -9223372036854775808 ≤ z; omega) (by show z ≤ 9223372036854775807; omega)
    have hw64 : wrap64 z = z := by have h8 : -9223372036854775808 ≤ z := o1; have h9 : z < 9223372036854775808 := o2; unfold wrap64; omega
    have hne : (z != z) = false := by simp
    unfold WithQ
    have HO := Lib.hid (And.intro o1 o2)
    clear hw hk o1 o2
    go_enter Tryz.func126, Tryz.ntmps126
    go_wp2_with fail
    ((with_reducible refine (bwhole_y b HB.out HF.out z HW.out HO.out.1 HO.out.2 _).mono ?_); rintro e w1 ⟨rfl, rfl⟩)
    go_wp2
    go_ret2
    exact ⟨rfl, rfl⟩
   ·exact absurd ⟨o1, by show z ≤ 9223372036854775807; omega⟩ hk
  ·rw [intD_f hw (by
    have h1 : -9223372036854775808 ≤ loK 6 := by decide
    have h2 : hiK 6 ≤ 9223372036854775807 := by decide
    omega)]
   unfold WithQ
   clear hw
   rcases Int.lt_or_le z (-9223372036854775808) with hz | hz
   ·have HZ := Lib.hid hz
    clear hz ho
    go_enter Tryz.func126, Tryz.ntmps126
    go_wp2_with fail
    ((with_reducible refine (bwhole_lo b HB.out HF.out z HW.out HZ.out _).mono ?_); rintro e w1 ⟨rfl, rfl⟩)
    unfold errN
    go_wp2
    go_ret2
    exact ⟨rfl, rfl⟩
   ·have HZ := Lib.hid (show 9223372036854775808 ≤ z by omega)
    clear hz ho
    go_enter Tryz.func126, Tryz.ntmps126
    go_wp2_with fail
    ((with_reducible refine (bwhole_hi b HB.out HF.out z HW.out HZ.out _).mono ?_); rintro e w1 ⟨rfl, rfl⟩)
    unfold errN
    go_wp2
    go_ret2
    exact ⟨rfl, rfl⟩
theorem counted7_any (b : Nat) (hb : b < 18446744073709551616) (hf : finB b = true) (w : World) : Calls Tryz.prog 127 #[.float .f64 b] w (WithQ .u8 (intD 7 b) w) := by
 have q1 := err_ne_nil
 have q2 := err_ne_held
 have q3 := err_eq_nil
 have q4 := err_eq_held
 have HB := Lib.hid hb
 have HF := Lib.hid hf
 cases hw : wholeD b with
 | none =>
  rw [intD_n 7 hw]
  unfold WithQ
  have HW := Lib.hid hw
  clear hb hf hw
  go_enter Tryz.func127, Tryz.ntmps127
  go_wp2_with fail
  ((with_reducible refine (bcount_n b HB.out HF.out HW.out _).mono ?_); rintro e w1 ⟨rfl, rfl⟩)
  unfold errN
  go_wp2
  go_ret2
  exact ⟨rfl, rfl⟩
 | some z =>
  have HW := Lib.hid hw
  clear hb hf
  by_cases ho : 0 ≤ z ∧ z < 18446744073709551616
  ·obtain ⟨o1, o2⟩ := ho
   by_cases hk : loK 7 ≤ z ∧ z ≤ hiK 7
   ·rw [intD_y hw hk.1 hk.2]
    have hwr : IntKind.wrap .u8 z = z := wrap_in hk.1 hk.2
    have hwb : IntKind.wrap .u64 z = z := wrap_in (by show 0 ≤ z; omega) (by show z ≤ 18446744073709551615; omega)
    have hmod : z % 256 = z := by have h8 : loK 7 ≤ z := hk.1; have h9 : z ≤ hiK 7 := hk.2; simp [loK, hiK] at h8 h9; omega
    have hnm : (z % 256 != z) = false := by rw [hmod]; simp
    have hne : (z != z) = false := by simp
    unfold WithQ
    have HO := Lib.hid (And.intro o1 o2)
    clear hw hk o1 o2
    go_enter Tryz.func127, Tryz.ntmps127
    go_wp2_with fail
    ((with_reducible refine (bcount_y b HB.out HF.out z HW.out HO.out.1 HO.out.2 _).mono ?_); rintro e w1 ⟨rfl, rfl⟩)
    go_wp2
    go_ret2
    exact ⟨rfl, rfl⟩
   ·rw [intD_f hw hk]
    have hwr : IntKind.wrap .u8 z ≠ z := wrap_out hk
    have hwb : IntKind.wrap .u64 (IntKind.wrap .u8 z) = IntKind.wrap .u8 z := by
     have h3 : IntKind.min .u8 ≤ IntKind.wrap .u8 z ∧ IntKind.wrap .u8 z ≤ IntKind.max .u8 := wrap_bds _ _
     have h4 : 0 ≤ IntKind.min .u8 := by decide
     have h5 : IntKind.max .u8 ≤ 18446744073709551615 := by decide
     exact wrap_in (by show 0 ≤ _; omega) (by show _ ≤ 18446744073709551615; omega)
    have hn : (IntKind.wrap .u8 z != z) = true := by simpa using hwr
    have hn2 : (z % 256 != z) = true := by
     have h8 : ¬ (loK 7 ≤ z ∧ z ≤ hiK 7) := hk
     have h9 : 0 ≤ z := o1
     have h7 : z < 18446744073709551616 := o2
     simp [loK, hiK] at h8
     rw [bne_iff_ne]
     skip
     omega
    unfold WithQ
    have HO := Lib.hid (And.intro o1 o2)
    clear hw hk o1 o2
    go_enter Tryz.func127, Tryz.ntmps127
    go_wp2_with fail
    ((with_reducible refine (bcount_y b HB.out HF.out z HW.out HO.out.1 HO.out.2 _).mono ?_); rintro e w1 ⟨rfl, rfl⟩)
    go_wp2
    go_ret2
    exact ⟨rfl, rfl⟩
  ·rw [intD_f hw (by
    have h1 : 0 ≤ loK 7 := by decide
    have h2 : hiK 7 ≤ 18446744073709551615 := by decide
    omega)]
   unfold WithQ
   clear hw
   rcases Int.lt_or_le z (0) with hz | hz
   ·have HZ := Lib.hid hz
    clear hz ho
    go_enter Tryz.func127, Tryz.ntmps127
    go_wp2_with fail
    ((with_reducible refine (bcount_lo b HB.out HF.out z HW.out HZ.out _).mono ?_); rintro e w1 ⟨rfl, rfl⟩)
    unfold errN
    go_wp2
    go_ret2
    exact ⟨rfl, rfl⟩
   ·have HZ := Lib.hid (show 18446744073709551616 ≤ z by omega)
    clear hz ho
    go_enter Tryz.func127, Tryz.ntmps127
    go_wp2_with fail
    ((with_reducible refine (bcount_hi b HB.out HF.out z HW.out HZ.out _).mono ?_); rintro e w1 ⟨rfl, rfl⟩)
    unfold errN
    go_wp2
    go_ret2
    exact ⟨rfl, rfl⟩
theorem counted8_any (b : Nat) (hb : b < 18446744073709551616) (hf : finB b = true) (w : World) : Calls Tryz.prog 128 #[.float .f64 b] w (WithQ .u16 (intD 8 b) w) := by
 have q1 := err_ne_nil
 have q2 := err_ne_held
 have q3 := err_eq_nil
 have q4 := err_eq_held
 have HB := Lib.hid hb
 have HF := Lib.hid hf
 cases hw : wholeD b with
 | none =>
  rw [intD_n 8 hw]
  unfold WithQ
  have HW := Lib.hid hw
  clear hb hf hw
  go_enter Tryz.func128, Tryz.ntmps128
  go_wp2_with fail
  ((with_reducible refine (bcount_n b HB.out HF.out HW.out _).mono ?_); rintro e w1 ⟨rfl, rfl⟩)
  unfold errN
  go_wp2
  go_ret2
  exact ⟨rfl, rfl⟩
 | some z =>
  have HW := Lib.hid hw
  clear hb hf
  by_cases ho : 0 ≤ z ∧ z < 18446744073709551616
  ·obtain ⟨o1, o2⟩ := ho
   by_cases hk : loK 8 ≤ z ∧ z ≤ hiK 8
   ·rw [intD_y hw hk.1 hk.2]
    have hwr : IntKind.wrap .u16 z = z := wrap_in hk.1 hk.2
    have hwb : IntKind.wrap .u64 z = z := wrap_in (by show 0 ≤ z; omega) (by show z ≤ 18446744073709551615; omega)
    have hmod : z % 65536 = z := by have h8 : loK 8 ≤ z := hk.1; have h9 : z ≤ hiK 8 := hk.2; simp [loK, hiK] at h8 h9; omega
    have hnm : (z % 65536 != z) = false := by rw [hmod]; simp
    have hne : (z != z) = false := by simp
    unfold WithQ
    have HO := Lib.hid (And.intro o1 o2)
    clear hw hk o1 o2
    go_enter Tryz.func128, Tryz.ntmps128
    go_wp2_with fail
    ((with_reducible refine (bcount_y b HB.out HF.out z HW.out HO.out.1 HO.out.2 _).mono ?_); rintro e w1 ⟨rfl, rfl⟩)
    go_wp2
    go_ret2
    exact ⟨rfl, rfl⟩
   ·rw [intD_f hw hk]
    have hwr : IntKind.wrap .u16 z ≠ z := wrap_out hk
    have hwb : IntKind.wrap .u64 (IntKind.wrap .u16 z) = IntKind.wrap .u16 z := by
     have h3 : IntKind.min .u16 ≤ IntKind.wrap .u16 z ∧ IntKind.wrap .u16 z ≤ IntKind.max .u16 := wrap_bds _ _
     have h4 : 0 ≤ IntKind.min .u16 := by decide
     have h5 : IntKind.max .u16 ≤ 18446744073709551615 := by decide
     exact wrap_in (by show 0 ≤ _; omega) (by show _ ≤ 18446744073709551615; omega)
    have hn : (IntKind.wrap .u16 z != z) = true := by simpa using hwr
    have hn2 : (z % 65536 != z) = true := by
     have h8 : ¬ (loK 8 ≤ z ∧ z ≤ hiK 8) := hk
     have h9 : 0 ≤ z := o1
     have h7 : z < 18446744073709551616 := o2
     simp [loK, hiK] at h8
     rw [bne_iff_ne]
     skip
     omega
    unfold WithQ
    have HO := Lib.hid (And.intro o1 o2)
    clear hw hk o1 o2
    go_enter Tryz.func128, Tryz.ntmps128
    go_wp2_with fail
    ((with_reducible refine (bcount_y b HB.out HF.out z HW.out HO.out.1 HO.out.2 _).mono ?_); rintro e w1 ⟨rfl, rfl⟩)
    go_wp2
    go_ret2
    exact ⟨rfl, rfl⟩
  ·rw [intD_f hw (by
    have h1 : 0 ≤ loK 8 := by decide
    have h2 : hiK 8 ≤ 18446744073709551615 := by decide
    omega)]
   unfold WithQ
   clear hw
   rcases Int.lt_or_le z (0) with hz | hz
   ·have HZ := Lib.hid hz
    clear hz ho
    go_enter Tryz.func128, Tryz.ntmps128
    go_wp2_with fail
    ((with_reducible refine (bcount_lo b HB.out HF.out z HW.out HZ.out _).mono ?_); rintro e w1 ⟨rfl, rfl⟩)
    unfold errN
    go_wp2
    go_ret2
    exact ⟨rfl, rfl⟩
   ·have HZ := Lib.hid (show 18446744073709551616 ≤ z by omega)
    clear hz ho
    go_enter Tryz.func128, Tryz.ntmps128
    go_wp2_with fail
    ((with_reducible refine (bcount_hi b HB.out HF.out z HW.out HZ.out _).mono ?_); rintro e w1 ⟨rfl, rfl⟩)
    unfold errN
    go_wp2
    go_ret2
    exact ⟨rfl, rfl⟩
theorem counted9_any (b : Nat) (hb : b < 18446744073709551616) (hf : finB b = true) (w : World) : Calls Tryz.prog 129 #[.float .f64 b] w (WithQ .u32 (intD 9 b) w) := by
 have q1 := err_ne_nil
 have q2 := err_ne_held
 have q3 := err_eq_nil
 have q4 := err_eq_held
 have HB := Lib.hid hb
 have HF := Lib.hid hf
 cases hw : wholeD b with
 | none =>
  rw [intD_n 9 hw]
  unfold WithQ
  have HW := Lib.hid hw
  clear hb hf hw
  go_enter Tryz.func129, Tryz.ntmps129
  go_wp2_with fail
  ((with_reducible refine (bcount_n b HB.out HF.out HW.out _).mono ?_); rintro e w1 ⟨rfl, rfl⟩)
  unfold errN
  go_wp2
  go_ret2
  exact ⟨rfl, rfl⟩
 | some z =>
  have HW := Lib.hid hw
  clear hb hf
  by_cases ho : 0 ≤ z ∧ z < 18446744073709551616
  ·obtain ⟨o1, o2⟩ := ho
   by_cases hk : loK 9 ≤ z ∧ z ≤ hiK 9
   ·rw [intD_y hw hk.1 hk.2]
    have hwr : IntKind.wrap .u32 z = z := wrap_in hk.1 hk.2
    have hwb : IntKind.wrap .u64 z = z := wrap_in (by show 0 ≤ z; omega) (by show z ≤ 18446744073709551615; omega)
    have hmod : z % 4294967296 = z := by have h8 : loK 9 ≤ z := hk.1; have h9 : z ≤ hiK 9 := hk.2; simp [loK, hiK] at h8 h9; omega
    have hnm : (z % 4294967296 != z) = false := by rw [hmod]; simp
    have hne : (z != z) = false := by simp
    unfold WithQ
    have HO := Lib.hid (And.intro o1 o2)
    clear hw hk o1 o2
    go_enter Tryz.func129, Tryz.ntmps129
    go_wp2_with fail
    ((with_reducible refine (bcount_y b HB.out HF.out z HW.out HO.out.1 HO.out.2 _).mono ?_); rintro e w1 ⟨rfl, rfl⟩)
    go_wp2
    go_ret2
    exact ⟨rfl, rfl⟩
   ·rw [intD_f hw hk]
    have hwr : IntKind.wrap .u32 z ≠ z := wrap_out hk
    have hwb : IntKind.wrap .u64 (IntKind.wrap .u32 z) = IntKind.wrap .u32 z := by
     have h3 : IntKind.min .u32 ≤ IntKind.wrap .u32 z ∧ IntKind.wrap .u32 z ≤ IntKind.max .u32 := wrap_bds _ _
     have h4 : 0 ≤ IntKind.min .u32 := by decide
     have h5 : IntKind.max .u32 ≤ 18446744073709551615 := by decide
     exact wrap_in (by show 0 ≤ _; omega) (by show _ ≤ 18446744073709551615; omega)
    have hn : (IntKind.wrap .u32 z != z) = true := by simpa using hwr
    have hn2 : (z % 4294967296 != z) = true := by
     have h8 : ¬ (loK 9 ≤ z ∧ z ≤ hiK 9) := hk
     have h9 : 0 ≤ z := o1
     have h7 : z < 18446744073709551616 := o2
     simp [loK, hiK] at h8
     rw [bne_iff_ne]
     skip
     omega
    unfold WithQ
    have HO := Lib.hid (And.intro o1 o2)
    clear hw hk o1 o2
    go_enter Tryz.func129, Tryz.ntmps129
    go_wp2_with fail
    ((with_reducible refine (bcount_y b HB.out HF.out z HW.out HO.out.1 HO.out.2 _).mono ?_); rintro e w1 ⟨rfl, rfl⟩)
    go_wp2
    go_ret2
    exact ⟨rfl, rfl⟩
  ·rw [intD_f hw (by
    have h1 : 0 ≤ loK 9 := by decide
    have h2 : hiK 9 ≤ 18446744073709551615 := by decide
    omega)]
   unfold WithQ
   clear hw
   rcases Int.lt_or_le z (0) with hz | hz
   ·have HZ := Lib.hid hz
    clear hz ho
    go_enter Tryz.func129, Tryz.ntmps129
    go_wp2_with fail
    ((with_reducible refine (bcount_lo b HB.out HF.out z HW.out HZ.out _).mono ?_); rintro e w1 ⟨rfl, rfl⟩)
    unfold errN
    go_wp2
    go_ret2
    exact ⟨rfl, rfl⟩
   ·have HZ := Lib.hid (show 18446744073709551616 ≤ z by omega)
    clear hz ho
    go_enter Tryz.func129, Tryz.ntmps129
    go_wp2_with fail
    ((with_reducible refine (bcount_hi b HB.out HF.out z HW.out HZ.out _).mono ?_); rintro e w1 ⟨rfl, rfl⟩)
    unfold errN
    go_wp2
    go_ret2
    exact ⟨rfl, rfl⟩
theorem counted10_any (b : Nat) (hb : b < 18446744073709551616) (hf : finB b = true) (w : World) : Calls Tryz.prog 130 #[.float .f64 b] w (WithQ .u64 (intD 10 b) w) := by
 have q1 := err_ne_nil
 have q2 := err_ne_held
 have q3 := err_eq_nil
 have q4 := err_eq_held
 have HB := Lib.hid hb
 have HF := Lib.hid hf
 cases hw : wholeD b with
 | none =>
  rw [intD_n 10 hw]
  unfold WithQ
  have HW := Lib.hid hw
  clear hb hf hw
  go_enter Tryz.func130, Tryz.ntmps130
  go_wp2_with fail
  ((with_reducible refine (bcount_n b HB.out HF.out HW.out _).mono ?_); rintro e w1 ⟨rfl, rfl⟩)
  unfold errN
  go_wp2
  go_ret2
  exact ⟨rfl, rfl⟩
 | some z =>
  have HW := Lib.hid hw
  clear hb hf
  by_cases ho : 0 ≤ z ∧ z < 18446744073709551616
  ·obtain ⟨o1, o2⟩ := ho
   by_cases hk : loK 10 ≤ z ∧ z ≤ hiK 10
   ·rw [intD_y hw hk.1 hk.2]
    have hwr : IntKind.wrap .u64 z = z := wrap_in hk.1 hk.2
    have hwb : IntKind.wrap .u64 z = z := wrap_in (by show 0 ≤ z; omega) (by show z ≤ 18446744073709551615; omega)
    have hne : (z != z) = false := by simp
    unfold WithQ
    have HO := Lib.hid (And.intro o1 o2)
    clear hw hk o1 o2
    go_enter Tryz.func130, Tryz.ntmps130
    go_wp2_with fail
    ((with_reducible refine (bcount_y b HB.out HF.out z HW.out HO.out.1 HO.out.2 _).mono ?_); rintro e w1 ⟨rfl, rfl⟩)
    go_wp2
    go_ret2
    exact ⟨rfl, rfl⟩
   ·exact absurd ⟨o1, by show z ≤ 18446744073709551615; omega⟩ hk
  ·rw [intD_f hw (by
    have h1 : 0 ≤ loK 10 := by decide
    have h2 : hiK 10 ≤ 18446744073709551615 := by decide
    omega)]
   unfold WithQ
   clear hw
   rcases Int.lt_or_le z (0) with hz | hz
   ·have HZ := Lib.hid hz
    clear hz ho
    go_enter Tryz.func130, Tryz.ntmps130
    go_wp2_with fail
    ((with_reducible refine (bcount_lo b HB.out HF.out z HW.out HZ.out _).mono ?_); rintro e w1 ⟨rfl, rfl⟩)
    unfold errN
    go_wp2
    go_ret2
    exact ⟨rfl, rfl⟩
   ·have HZ := Lib.hid (show 18446744073709551616 ≤ z by omega)
    clear hz ho
    go_enter Tryz.func130, Tryz.ntmps130
    go_wp2_with fail
    ((with_reducible refine (bcount_hi b HB.out HF.out z HW.out HZ.out _).mono ?_); rintro e w1 ⟨rfl, rfl⟩)
    unfold errN
    go_wp2
    go_ret2
    exact ⟨rfl, rfl⟩
end Nd
end Go.Proofs.YtbajkglacfheiaaGreatDoor
