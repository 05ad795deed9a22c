/-
  Walk of the reference of layer 25: the time that bits say.
  Walks of package node: a Ref's Number.
  Walks of package claims: what reads a text, a time.
-/
import Derived.Test.YtobaldkipnhlpaaGreatDoorS21
import Derived.Test.YtobaldkipnhlpaaGreatDoorS12
import Derived.Test.YtobaldkipnhlpaaGreatDoorS8
import Derived.Test.YtobaldkipnhlpaaGreatDoorS1
import Derived.Test.YtobaldkipnhlpaaGreatDoorS11
import Derived.Test.YtobaldkipnhlpaaGreatDoorS15
import Derived.Test.YtobaldkipnhlpaaGreatDoorS10
import Derived.Laws.BitsAllLaws
import Derived.Laws.Cover2
import Derived.Laws.Externs
set_option linter.unusedVariables false
set_option linter.unusedSimpArgs false
set_option maxRecDepth 100000
set_option maxHeartbeats 16000000
namespace Go.Proofs.YtobaldkipnhlpaaGreatDoor
open Go.RowKit Mem
namespace Nd
theorem exp_bits {b : Nat} (hb : b < 18446744073709551616) : bits BinOp.and IntKind.u64 ((b : Int) / 4503599627370496) 2047 = ((b / 4503599627370496 % 2048 : Nat) : Int) := by
 have h := u64_and_nat (b / 4503599627370496) 2047 (by omega) (by omega)
 rw [show (2047 : Nat) = 2 ^ 11 - 1 from rfl, Nat.and_two_pow_sub_one_eq_mod] at h
 exact h
theorem man_bits {b : Nat} (hb : b < 18446744073709551616) : bits BinOp.and IntKind.u64 (b : Int) 4503599627370495 = ((b % 4503599627370496 : Nat) : Int) := by
 have h := u64_and_nat b 4503599627370495 hb (by omega)
 rw [show (4503599627370495 : Nat) = 2 ^ 52 - 1 from rfl, Nat.and_two_pow_sub_one_eq_mod] at h
 exact h
theorem refTime_any (b : Nat) (hb : b < 18446744073709551616) (w : World) : Calls Tryz.prog 77 #[.int .u64 (b : Int)] w fun e w' => e = .returned (.int .i64 (timeD b)) ∧ w = w' := by
 by_cases h0 : b = 0
 ·subst h0
  go_enter Tryz.func77, Tryz.ntmps77
  go_wp2
  go_ret
  exact ⟨rfl, rfl⟩
 ·have he : ((b : Int) == 0) = false := by simpa using h0
  have hA := exp_bits hb
  have hM := man_bits hb
  have hE : b / 4503599627370496 % 2048 < 2048 := Nat.mod_lt _ (by omega)
  have hR : b % 4503599627370496 < 4503599627370496 := Nat.mod_lt _ (by omega)
  have hS : (b : Int) / 9223372036854775808 = ((b / 9223372036854775808 % 2 : Nat) : Int) := by omega
  obtain ⟨T, hT⟩ : ∃ T, timeD b = T := ⟨_, rfl⟩
  have hT2 := hT
  unfold timeD at hT2
  rw [if_neg h0] at hT2
  have HT := Lib.hid hT
  clear hT
  rw [HT.out]
  generalize b / 4503599627370496 % 2048 = E at *
  generalize b % 4503599627370496 = R at *
  have hS2 : b / 9223372036854775808 % 2 < 2 := Nat.mod_lt _ (by omega)
  generalize b / 9223372036854775808 % 2 = s at *
  have HT2 := Lib.hid hT2
  clear hT2
  by_cases hbad : s = 1 ∨ E < 1023 ∨ 1075 < E
  ·have hTn : T = -1 := by
    have h := HT2.out
    rw [if_pos hbad] at h
    exact h.symm
   subst hTn
   go_enter Tryz.func77, Tryz.ntmps77
   go_upto_region 4 with fail
   clear hA hM
   rcases Nat.lt_or_ge s 1 with hs | hs
   ·obtain rfl : s = 0 := by omega
    have hS3 : ((b : Int) / 9223372036854775808 == 1) = false := by rw [hS]; rfl
    clear hS
    by_cases hl : E < 1023
    ·have hl2 : (E : Int) - 1023 < 0 := by omega
     go_wp2
     go_ret
     exact ⟨rfl, rfl⟩
    ·have hl2 : ¬ (E : Int) - 1023 < 0 := by omega
     have hl3 : (52 : Int) < (E : Int) - 1023 := by omega
     go_wp2
     go_ret
     exact ⟨rfl, rfl⟩
   ·obtain rfl : s = 1 := by omega
    have hS3 : ((b : Int) / 9223372036854775808 == 1) = true := by rw [hS]; rfl
    clear hS
    go_wp2
    go_ret
    exact ⟨rfl, rfl⟩
  ·obtain rfl : s = 0 := by omega
   have hS3 : ((b : Int) / 9223372036854775808 == 1) = false := by rw [hS]; rfl
   clear hS
   have hl2 : ¬ (E : Int) - 1023 < 0 := by omega
   have hl3 : ¬ (52 : Int) < (E : Int) - 1023 := by omega
   obtain ⟨d, hd⟩ : ∃ d, 1075 - E = d := ⟨_, rfl⟩
   have hde : (E : Int) = 1075 - d := by omega
   have hd52 : d ≤ 52 := by omega
   have hp := Nat.two_pow_pos d
   have hp52 : 2 ^ d ≤ 4503599627370496 := Nat.pow_le_pow_right (by omega) hd52
   obtain ⟨q, hq⟩ : ∃ q, 2 ^ d = q := ⟨_, rfl⟩
   rw [hd, hq] at HT2
   rw [hq] at hp hp52
   have hqi : (2 : Int) ^ d = (q : Int) := by rw [← hq]; simp
   go_enter Tryz.func77, Tryz.ntmps77
   go_upto_region 4 with fail
   clear hA
   go_upto_region 7 with fail
   rw [show (1075 - (d : Int) - 1023) = 52 - d from by omega]
   have e3 : (52 : Int) - (52 - (d : Int)) = d := by omega
   have hT3 := HT2.out
   rw [if_neg hbad] at hT3
   have hra : ((R + 4503599627370496 : Nat) : Int) = (R : Int) + 4503599627370496 := by omega
   have hmm : ((R : Int) + 4503599627370496) % (q : Int) = (((R + 4503599627370496) % q : Nat) : Int) := by rw [← hra]; exact (Int.natCast_emod _ _).symm
   have hdd : ((R : Int) + 4503599627370496) / (q : Int) = (((R + 4503599627370496) / q : Nat) : Int) := by rw [← hra]; exact (Int.natCast_ediv _ _).symm
   have hdl : (R + 4503599627370496) / q ≤ R + 4503599627370496 := Nat.div_le_self _ _
   clear hde hd HT2 hra
   by_cases hr : (R + 4503599627370496) % q = 0
   ·have hrb : (((R : Int) + 4503599627370496) % (q : Int) != 0) = false := by rw [hmm, hr]; rfl
    rw [if_neg (by simpa using hr)] at hT3
    subst hT3
    clear hmm hr
    generalize (R + 4503599627370496) / q = Z at *
    go_wp2
    go_ret
    refine ⟨?_, rfl⟩
    first | rfl | (simp; done) | trace_state
   ·have hrb : (((R : Int) + 4503599627370496) % (q : Int) != 0) = true := by rw [hmm]; generalize (R + 4503599627370496) % q = y at *; exact bne_iff_ne.2 (by omega)
    rw [if_pos hr] at hT3
    subst hT3
    clear hmm hr hdd hdl
    go_wp2
    go_ret
    exact ⟨rfl, rfl⟩
end Nd
end Go.Proofs.YtobaldkipnhlpaaGreatDoor
namespace Go.Proofs.YtobaldkipnhlpaaGreatDoor
open Go.RowKit Mem
namespace Nd
def Tr.nb : Tr → Nat
 | .num x => x
 | _ => 0
def Tr.isNb : Tr → Bool
 | .num _ => true
 | _ => false
theorem numr_null (S : Nat → Prop) (v : Value) (w : World) (h : RdT S w (.null) v) : Calls Tryz.prog 94 #[.agg #[v]] w fun e w' => e = .returned (.tuple #[.float .f64 (Tr.nb (.null)), .bool (Tr.isNb (.null))]) ∧ Below w.heap.size w w' := by
 unfold RdT at h
 subst h
 have h2 := ta_0_2
 go_enter Tryz.func94, Tryz.ntmps94
 go_wp2
 go_ret2
 exact ⟨rfl, (Below.refl _ _).alloc (Nat.le_refl _) _⟩
theorem numr_flag (b : Bool) (S : Nat → Prop) (v : Value) (w : World) (h : RdT S w (.flag b) v) : Calls Tryz.prog 94 #[.agg #[v]] w fun e w' => e = .returned (.tuple #[.float .f64 (Tr.nb (.flag b)), .bool (Tr.isNb (.flag b))]) ∧ Below w.heap.size w w' := by
 unfold RdT at h
 subst h
 have h2 := ta_1_2 b
 go_enter Tryz.func94, Tryz.ntmps94
 go_wp2
 go_ret2
 exact ⟨rfl, (Below.refl _ _).alloc (Nat.le_refl _) _⟩
theorem numr_num (x : Nat) (S : Nat → Prop) (v : Value) (w : World) (h : RdT S w (.num x) v) : Calls Tryz.prog 94 #[.agg #[v]] w fun e w' => e = .returned (.tuple #[.float .f64 (Tr.nb (.num x)), .bool (Tr.isNb (.num x))]) ∧ Below w.heap.size w w' := by
 unfold RdT at h
 subst h
 have h2 := ta_2_2 x
 go_enter Tryz.func94, Tryz.ntmps94
 go_wp2
 go_ret2
 exact ⟨rfl, (Below.refl _ _).alloc (Nat.le_refl _) _⟩
theorem numr_text (s : Tx) (S : Nat → Prop) (v : Value) (w : World) (h : RdT S w (.text s) v) : Calls Tryz.prog 94 #[.agg #[v]] w fun e w' => e = .returned (.tuple #[.float .f64 (Tr.nb (.text s)), .bool (Tr.isNb (.text s))]) ∧ Below w.heap.size w w' := by
 unfold RdT at h
 subst h
 have h2 := ta_3_2 ⟨s.toArray⟩
 go_enter Tryz.func94, Tryz.ntmps94
 go_wp2
 go_ret2
 exact ⟨rfl, (Below.refl _ _).alloc (Nat.le_refl _) _⟩
theorem numr_list (l : List Tr) (S : Nat → Prop) (v : Value) (w : World) (h : RdT S w (.list l) v) : Calls Tryz.prog 94 #[.agg #[v]] w fun e w' => e = .returned (.tuple #[.float .f64 (Tr.nb (.list l)), .bool (Tr.isNb (.list l))]) ∧ Below w.heap.size w w' := by
 unfold RdT at h
 obtain ⟨g1, A1, c1, vs, rfl, hS1, hB1, hR1, hL1⟩ := h
 clear hB1 hR1 hL1
 have h2 := ta_4_2 (some ⟨g1, 0, none⟩)
 go_enter Tryz.func94, Tryz.ntmps94
 go_wp2
 go_ret2
 exact ⟨rfl, (Below.refl _ _).alloc (Nat.le_refl _) _⟩
theorem numr_obj (ks : List Tx) (l : List Tr) (S : Nat → Prop) (v : Value) (w : World) (h : RdT S w (.obj ks l) v) : Calls Tryz.prog 94 #[.agg #[v]] w fun e w' => e = .returned (.tuple #[.float .f64 (Tr.nb (.obj ks l)), .bool (Tr.isNb (.obj ks l))]) ∧ Below w.heap.size w w' := by
 unfold RdT at h
 obtain ⟨g1, K1, dk, A1, c1, vs, rfl, hS1, hB1, hK1, hR1, hL1⟩ := h
 clear hB1 hR1 hL1 hK1
 have h2 := ta_5_2 (some ⟨g1, 0, none⟩)
 go_enter Tryz.func94, Tryz.ntmps94
 go_wp2
 go_ret2
 exact ⟨rfl, (Below.refl _ _).alloc (Nat.le_refl _) _⟩
theorem numr_any (S : Nat → Prop) (t : Tr) (v : Value) (w : World) (h : RdT S w t v) : Calls Tryz.prog 94 #[.agg #[v]] w (fun e w' => e = .returned (.tuple #[.float .f64 t.nb, .bool t.isNb]) ∧ Below w.heap.size w w') := by
 cases t with
 | null => exact numr_null S v w h
 | flag b => exact numr_flag b S v w h
 | num x => exact numr_num x S v w h
 | text s => exact numr_text s S v w h
 | list l => exact numr_list l S v w h
 | obj ks l => exact numr_obj ks l S v w h
end Nd
end Go.Proofs.YtobaldkipnhlpaaGreatDoor
namespace Go.Proofs.YtobaldkipnhlpaaGreatDoor
open Go.RowKit Mem Ref3 Cl
namespace Nd
def tlV (x : Int × Txt) : Value := .iface 119 (.agg #[.int .i64 x.1, .string ⟨x.2.toArray⟩])
theorem ctrail_any (n : Int) (p : Txt) (w : World) : Calls Tryz.prog 23 #[.int .i64 n, .string ⟨p.toArray⟩] w fun e w' => e = .returned (tlV (n, p)) ∧ w = w' := by
 go_enter Tryz.func23, Tryz.ntmps23
 go_wp2
 go_ret
 exact ⟨rfl, rfl⟩
theorem ref_box (w : World) (v : Value) : Below w.heap.size w (w.alloc (.cells #[v] 93)) := (Below.refl _ _).alloc (Nat.le_refl _) _
theorem blk_some {w : World} {g : Nat} {ty : TypeId} {cs : Array Value} (h : Blk w g ty cs) {o : Nat} (ho : o < cs.size) : ∃ x, w.cell? ⟨g, o, none⟩ = some x := ⟨cs[o], by rw [h.cell o]; simp [ho]⟩
theorem ctext_ok (v : Value) (g o : Nat) (ty : TypeId) (cs : Array Value) (p : Txt) (w : World) (s : Txt) (h : RdA w (.text s) v) (hB : Blk w g ty cs) (ho : o < cs.size) :
  Calls Tryz.prog 50 #[.pointer (some ⟨g, o, none⟩), .agg #[v], .string ⟨p.toArray⟩] w fun e w' => e = .returned .nilIface ∧ w.grownBy w' (some g) ∧ Blk w' g ty (cs.setIfInBounds o (.string ⟨s.toArray⟩)) := by
 have hx := ref_box w v
 have c1 := (Blk.new w 93 #[v]).cell 0
 have HB := Lib.hid hB
 have HO := Lib.hid ho
 have HH := Lib.hid (rda_below h hx)
 have HX := Lib.hid hx
 clear hB ho h hx
 go_enter Tryz.func50, Tryz.ntmps50
 go_wp2_with fail
 ((with_reducible refine (textr_any (fun _ => True) (.text s) v _ HH.out).mono ?_); rintro e w2 ⟨rfl, hb2⟩)
 dsimp only [Tr.tx, Tr.isTx]
 have HB2 := Lib.hid (HX.out.trans (hb2.mono HX.out.size))
 obtain ⟨x0, hx0⟩ := blk_some (HB.out.below HB2.out HB.out.lt) HO.out
 have hz0 := (HB.out.below HB2.out HB.out.lt).frozen o
 clear hb2 c1
 go_wp2
 go_ret
 exact ⟨rfl, grown_put (grown_of_below HB2.out (some g)) o _, (HB.out.below HB2.out HB.out.lt).put o _⟩
theorem ctext_no (v : Value) (g o : Nat) (ty : TypeId) (cs : Array Value) (p : Txt) (w : World) (t : Tr) (ht : t.isTx = false) (h : RdA w t v) (hB : Blk w g ty cs) (ho : o < cs.size) :
  Calls Tryz.prog 50 #[.pointer (some ⟨g, o, none⟩), .agg #[v], .string ⟨p.toArray⟩] w fun e w' => e = .returned (tlV (5, p)) ∧ Below w.heap.size w w' := by
 have hx := ref_box w v
 have c1 := (Blk.new w 93 #[v]).cell 0
 have HB := Lib.hid hB
 have HO := Lib.hid ho
 have HH := Lib.hid (rda_below h hx)
 have HX := Lib.hid hx
 clear hB ho h hx
 go_enter Tryz.func50, Tryz.ntmps50
 go_wp2_with fail
 ((with_reducible refine (textr_any (fun _ => True) t v _ HH.out).mono ?_); rintro e w2 ⟨rfl, hb2⟩)
 rw [ht]
 have HB2 := Lib.hid (HX.out.trans (hb2.mono HX.out.size))
 clear hb2 c1 ht
 go_wp2_with fail
 ((with_reducible refine (ctrail_any 5 p _).mono ?_); rintro e w3 ⟨rfl, rfl⟩)
 go_wp2
 go_ret
 exact ⟨rfl, HB2.out⟩
theorem toI_number {b m : Nat} {s : Bool} {p : Int} (e : Ieee.double.read b = .number s m p) : Go.Extern.MathFloor.toIntegral "math.archTrunc" .zero #[.float .f64 b] = pure (.float .f64 (FloatKind.f64.encode ((Ieee.Datum.number s m p).integral .zero))) := by
 show (match Ieee.double.read b with | .nan s t => _ | d => pure (Value.float .f64 (FloatKind.f64.encode (d.integral .zero)))) = _
 rw [e]
theorem trunc_run (b : Nat) (hf : finB b = true) (W : World) : (Go.Extern.MathFloor.toIntegral "math.archTrunc" .zero #[.float .f64 b]).run Tryz.prog W = .ok (.float .f64 (truncB b)) W := by
 have hfin : b % 9223372036854775808 < 9218868437227405312 := of_decide_eq_true hf
 obtain ⟨m, p, e, _⟩ := read_fin hfin
 rw [toI_number e]
 unfold truncB
 rw [e]
 rfl
theorem arch_trunc (b : Nat) (hf : finB b = true) (W : World) : (callFunc 117 #[.float .f64 b]).run Tryz.prog W = .ok (.value (.float .f64 (truncB b))) W := by
 rw [@run_callFunc_extern Tryz.prog 117 _ (Go.Extern.MathFloor.toIntegral "math.archTrunc" .zero) Tryz.func117 (by kernel_rfl) (by kernel_rfl) (by kernel_rfl) (by kernel_rfl), trunc_run b hf W]
 rfl
theorem trunc_any (b : Nat) (hf : finB b = true) (w : World) : Calls Tryz.prog 95 #[.float .f64 b] w fun e w' => e = .returned (.float .f64 (truncB b)) ∧ w = w' := by
 have h1 := arch_trunc b hf
 go_enter Tryz.func95, Tryz.ntmps95
 go_wp2
 go_ret
 exact ⟨rfl, rfl⟩
theorem fl_ne (x y : Nat) (W : World) : (binOp .neq 150 (.float .f64 x) (.float .f64 y)).run Tryz.prog W = .ok (.bool (!(Ieee.double.order x y == some .eq))) W := by rfl
theorem fl_lt (x y : Nat) (W : World) : (binOp .lss 150 (.float .f64 x) (.float .f64 y)).run Tryz.prog W = .ok (.bool (Ieee.double.order x y == some .lt)) W := by rfl
theorem fl_gt (x y : Nat) (W : World) : (binOp .gtr 150 (.float .f64 x) (.float .f64 y)).run Tryz.prog W = .ok (.bool (Ieee.double.order x y == some .gt)) W := by rfl
theorem fl_conv (b : Nat) (n : Int) (h : floatToIntVal .f64 b .i64 = some n) (W : World) : (convert 150 2 (.float .f64 b)).run Tryz.prog W = .ok (.int .i64 n) W := run_convert_float_int W 150 2 .f64 .i64 b n (by kernel_rfl) (by kernel_rfl) h
theorem cmoment_ok (v : Value) (g o : Nat) (ty : TypeId) (cs : Array Value) (p : Txt) (w : World) (x : Nat) (hx64 : x < 18446744073709551616) (hfn : finB x = true) (ht : 0 ≤ timeD x) (h : RdA w (.num x) v) (hB : Blk w g ty cs) (ho : o < cs.size) :
  Calls Tryz.prog 53 #[.pointer (some ⟨g, o, none⟩), .agg #[v], .string ⟨p.toArray⟩] w fun e w' => e = .returned .nilIface ∧ w.grownBy w' (some g) ∧ Blk w' g ty (cs.setIfInBounds o (.int .i64 (timeD x))) := by
 obtain ⟨t1, t2, t3, t4, t5⟩ := time_good hx64 ht
 have HFN := Lib.hid hfn
 have q1 := fl_ne x x
 rw [t2] at q1
 have q2 := fl_lt x 0
 rw [t3] at q2
 have q3 := fl_gt x 4845873199050653695
 rw [t4] at q3
 have q4 := fl_conv x _ t5
 have HT1 := Lib.hid t1
 simp only [beq_self_eq_true, Bool.not_true] at q1
 have r2 : FloatKind.f64.format.order x x = some Ordering.eq := t2
 have r3 : ¬ FloatKind.f64.format.order x 0 = some Ordering.lt := fun h => by
  have h' : Ieee.double.order x 0 = some Ordering.lt := h
  rw [h'] at t3
  cases t3
 have r4 : ¬ FloatKind.f64.format.order x 4845873199050653695 = some Ordering.gt := fun h => by
  have h' : Ieee.double.order x 4845873199050653695 = some Ordering.gt := h
  rw [h'] at t4
  cases t4
 have r5 : (FloatKind.f64.format.order x 0 == some Ordering.lt) = false := t3
 have r6 : (FloatKind.f64.format.order x 4845873199050653695 == some Ordering.gt) = false := t4
 clear t1 t2 t3 t4 t5 hx64 hfn ht
 generalize timeD x = tm at *
 have hx := ref_box w v
 have c1 := (Blk.new w 93 #[v]).cell 0
 have HB := Lib.hid hB
 have HO := Lib.hid ho
 have HH := Lib.hid (rda_below h hx)
 have HX := Lib.hid hx
 clear hB ho h hx
 go_enter Tryz.func53, Tryz.ntmps53
 go_wp2_with fail
 ((with_reducible refine (numr_any (fun _ => True) (.num x) v _ HH.out).mono ?_); rintro e w2 ⟨rfl, hb2⟩)
 dsimp only [Tr.nb, Tr.isNb]
 have HB2 := Lib.hid (HX.out.trans (hb2.mono HX.out.size))
 obtain ⟨x0, hx0⟩ := blk_some (HB.out.below HB2.out HB.out.lt) HO.out
 have hz0 := (HB.out.below HB2.out HB.out.lt).frozen o
 clear hb2 c1
 go_wp2_with fail
 ((with_reducible refine (trunc_any x HFN.out _).mono ?_); rintro e w3 ⟨rfl, rfl⟩)
 rw [HT1.out]
 go_wp2
 go_ret
 exact ⟨rfl, grown_put (grown_of_below HB2.out (some g)) o _, (HB.out.below HB2.out HB.out.lt).put o _⟩
theorem cmoment_a (v : Value) (g o : Nat) (ty : TypeId) (cs : Array Value) (p : Txt) (w : World) (x : Nat) (hfn : finB x = true) (hq : (Ieee.double.order (truncB x) x == some .eq) = false) (h : RdA w (.num x) v) (hB : Blk w g ty cs) (ho : o < cs.size) :
  Calls Tryz.prog 53 #[.pointer (some ⟨g, o, none⟩), .agg #[v], .string ⟨p.toArray⟩] w fun e w' => e = .returned (tlV (250, p)) ∧ Below w.heap.size w w' := by
 have q1 := fl_ne (truncB x) x
 rw [hq] at q1
 have rq1 : (FloatKind.f64.format.order (truncB x) x == some Ordering.eq) = false := hq
 have sq1 : ¬ FloatKind.f64.format.order (truncB x) x = some Ordering.eq := fun h => by
  have h' : Ieee.double.order (truncB x) x = some Ordering.eq := h
  rw [h'] at hq
  cases hq
 simp only [Bool.not_true, Bool.not_false] at q1
 have HFN := Lib.hid hfn
 clear hfn hq
 have hx := ref_box w v
 have c1 := (Blk.new w 93 #[v]).cell 0
 have HB := Lib.hid hB
 have HO := Lib.hid ho
 have HH := Lib.hid (rda_below h hx)
 have HX := Lib.hid hx
 clear hB ho h hx
 go_enter Tryz.func53, Tryz.ntmps53
 go_wp2_with fail
 ((with_reducible refine (numr_any (fun _ => True) (.num x) v _ HH.out).mono ?_); rintro e w2 ⟨rfl, hb2⟩)
 dsimp only [Tr.nb, Tr.isNb]
 have HB2 := Lib.hid (HX.out.trans (hb2.mono HX.out.size))
 clear hb2 c1
 go_wp2_with fail
 ((with_reducible refine (trunc_any x HFN.out _).mono ?_); rintro e w3 ⟨rfl, rfl⟩)
 go_wp2_with fail
 ((with_reducible refine (ctrail_any 250 p _).mono ?_); rintro e w3 ⟨rfl, rfl⟩)
 go_wp2
 go_ret
 exact ⟨rfl, HB2.out⟩
theorem cmoment_b (v : Value) (g o : Nat) (ty : TypeId) (cs : Array Value) (p : Txt) (w : World) (x : Nat) (hfn : finB x = true) (hq0 : (Ieee.double.order (truncB x) x == some .eq) = true) (hq : (Ieee.double.order x 0 == some .lt) = true) (h : RdA w (.num x) v) (hB : Blk w g ty cs) (ho : o < cs.size) :
  Calls Tryz.prog 53 #[.pointer (some ⟨g, o, none⟩), .agg #[v], .string ⟨p.toArray⟩] w fun e w' => e = .returned (tlV (250, p)) ∧ Below w.heap.size w w' := by
 have q1 := fl_ne (truncB x) x
 rw [hq0] at q1
 have q2 := fl_lt x 0
 rw [hq] at q2
 have rq1 : FloatKind.f64.format.order (truncB x) x = some Ordering.eq := by
  have h' := beq_iff_eq.1 hq0
  exact h'
 have rq2 : FloatKind.f64.format.order x 0 = some Ordering.lt := by
  have h' := beq_iff_eq.1 hq
  exact h'
 simp only [Bool.not_true, Bool.not_false] at q1
 have HFN := Lib.hid hfn
 clear hfn hq0 hq
 have hx := ref_box w v
 have c1 := (Blk.new w 93 #[v]).cell 0
 have HB := Lib.hid hB
 have HO := Lib.hid ho
 have HH := Lib.hid (rda_below h hx)
 have HX := Lib.hid hx
 clear hB ho h hx
 go_enter Tryz.func53, Tryz.ntmps53
 go_wp2_with fail
 ((with_reducible refine (numr_any (fun _ => True) (.num x) v _ HH.out).mono ?_); rintro e w2 ⟨rfl, hb2⟩)
 dsimp only [Tr.nb, Tr.isNb]
 have HB2 := Lib.hid (HX.out.trans (hb2.mono HX.out.size))
 clear hb2 c1
 go_wp2_with fail
 ((with_reducible refine (trunc_any x HFN.out _).mono ?_); rintro e w3 ⟨rfl, rfl⟩)
 go_wp2_with fail
 ((with_reducible refine (ctrail_any 250 p _).mono ?_); rintro e w3 ⟨rfl, rfl⟩)
 go_wp2
 go_ret
 exact ⟨rfl, HB2.out⟩
theorem cmoment_c (v : Value) (g o : Nat) (ty : TypeId) (cs : Array Value) (p : Txt) (w : World) (x : Nat) (hfn : finB x = true) (hq0 : (Ieee.double.order (truncB x) x == some .eq) = true) (hq1 : (Ieee.double.order x 0 == some .lt) = false) (hq : (Ieee.double.order x 4845873199050653695 == some .gt) = true) (h : RdA w (.num x) v) (hB : Blk w g ty cs) (ho : o < cs.size) :
  Calls Tryz.prog 53 #[.pointer (some ⟨g, o, none⟩), .agg #[v], .string ⟨p.toArray⟩] w fun e w' => e = .returned (tlV (250, p)) ∧ Below w.heap.size w w' := by
 have q1 := fl_ne (truncB x) x
 rw [hq0] at q1
 have q2 := fl_lt x 0
 rw [hq1] at q2
 have q3 := fl_gt x 4845873199050653695
 rw [hq] at q3
 have rq1 : FloatKind.f64.format.order (truncB x) x = some Ordering.eq := by
  have h' := beq_iff_eq.1 hq0
  exact h'
 have rq2 : (FloatKind.f64.format.order x 0 == some Ordering.lt) = false := hq1
 have sq2 : ¬ FloatKind.f64.format.order x 0 = some Ordering.lt := fun h => by
  have h' : Ieee.double.order x 0 = some Ordering.lt := h
  rw [h'] at hq1
  cases hq1
 have rq3 : FloatKind.f64.format.order x 4845873199050653695 = some Ordering.gt := by
  have h' := beq_iff_eq.1 hq
  exact h'
 simp only [Bool.not_true, Bool.not_false] at q1
 have HFN := Lib.hid hfn
 clear hfn hq0 hq1 hq
 have hx := ref_box w v
 have c1 := (Blk.new w 93 #[v]).cell 0
 have HB := Lib.hid hB
 have HO := Lib.hid ho
 have HH := Lib.hid (rda_below h hx)
 have HX := Lib.hid hx
 clear hB ho h hx
 go_enter Tryz.func53, Tryz.ntmps53
 go_wp2_with fail
 ((with_reducible refine (numr_any (fun _ => True) (.num x) v _ HH.out).mono ?_); rintro e w2 ⟨rfl, hb2⟩)
 dsimp only [Tr.nb, Tr.isNb]
 have HB2 := Lib.hid (HX.out.trans (hb2.mono HX.out.size))
 clear hb2 c1
 go_wp2_with fail
 ((with_reducible refine (trunc_any x HFN.out _).mono ?_); rintro e w3 ⟨rfl, rfl⟩)
 go_wp2_with fail
 ((with_reducible refine (ctrail_any 250 p _).mono ?_); rintro e w3 ⟨rfl, rfl⟩)
 go_wp2
 go_ret
 exact ⟨rfl, HB2.out⟩
theorem cmoment_no (v : Value) (g o : Nat) (ty : TypeId) (cs : Array Value) (p : Txt) (w : World) (t : Tr) (ht : t.isNb = false) (h : RdA w t v) (hB : Blk w g ty cs) (ho : o < cs.size) :
  Calls Tryz.prog 53 #[.pointer (some ⟨g, o, none⟩), .agg #[v], .string ⟨p.toArray⟩] w fun e w' => e = .returned (tlV (5, p)) ∧ Below w.heap.size w w' := by
 have hx := ref_box w v
 have c1 := (Blk.new w 93 #[v]).cell 0
 have HB := Lib.hid hB
 have HO := Lib.hid ho
 have HH := Lib.hid (rda_below h hx)
 have HX := Lib.hid hx
 clear hB ho h hx
 go_enter Tryz.func53, Tryz.ntmps53
 go_wp2_with fail
 ((with_reducible refine (numr_any (fun _ => True) t v _ HH.out).mono ?_); rintro e w2 ⟨rfl, hb2⟩)
 rw [ht]
 have HB2 := Lib.hid (HX.out.trans (hb2.mono HX.out.size))
 clear hb2 c1 ht
 go_wp2_with fail
 ((with_reducible refine (ctrail_any 5 p _).mono ?_); rintro e w3 ⟨rfl, rfl⟩)
 go_wp2
 go_ret
 exact ⟨rfl, HB2.out⟩
theorem cmoment_bad (v : Value) (g o : Nat) (ty : TypeId) (cs : Array Value) (p : Txt) (w : World) (x : Nat) (hx64 : x < 18446744073709551616) (hz : x ≠ 9223372036854775808) (hfn : finB x = true) (ht : timeD x < 0) (h : RdA w (.num x) v) (hB : Blk w g ty cs) (ho : o < cs.size) :
  Calls Tryz.prog 53 #[.pointer (some ⟨g, o, none⟩), .agg #[v], .string ⟨p.toArray⟩] w fun e w' => e = .returned (tlV (250, p)) ∧ Below w.heap.size w w' := by
 by_cases hq0 : (Ieee.double.order (truncB x) x == some .eq) = true
 ·by_cases hq1 : (Ieee.double.order x 0 == some .lt) = true
  ·exact cmoment_b v g o ty cs p w x hfn hq0 hq1 h hB ho
  ·rw [Bool.not_eq_true] at hq1
   refine cmoment_c v g o ty cs p w x hfn hq0 hq1 ?_ h hB ho
   rcases time_bad hx64 hz hfn ht with h1 | h1 | h1
   ·rw [hq0] at h1
    cases h1
   ·rw [hq1] at h1
    cases h1
   ·exact h1
 ·rw [Bool.not_eq_true] at hq0
  exact cmoment_a v g o ty cs p w x hfn hq0 h hB ho
end Nd
end Go.Proofs.YtobaldkipnhlpaaGreatDoor
