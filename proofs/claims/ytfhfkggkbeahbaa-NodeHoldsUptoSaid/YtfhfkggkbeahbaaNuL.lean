/-
  Walks of layer 10's law: what holds of a told value: of the scalars.
-/
import Derived.Test.YtfhfkggkbeahbaaNuK
import Derived.Test.YtfhfkggkbeahbaaNdH
import Derived.Laws.Bits64b
namespace Go.Proofs.Ytfhfkggkbeahbaa
open Go.RowKit Mem
set_option linter.unusedVariables false
namespace Nd

theorem exp_not (x : Nat) (hf : finB x = true) (hx : x < 18446744073709551616) : (bits BinOp.and IntKind.u64 ((x : Int) / 4503599627370496) 2047 != 2047) = true := by
  have h : ((x : Int) / 4503599627370496) = ((x / 4503599627370496 : Nat) : Int) := by omega
  have h2 := bits_and_u64_nat (x / 4503599627370496) 2047 (by omega) (by omega)
  have h3 : (x / 4503599627370496) &&& 2047 = (x / 4503599627370496) % 2048 := by
    have := Nat.and_two_pow_sub_one_eq_mod (x / 4503599627370496) 11
    simpa using this
  have hf2 := of_decide_eq_true hf
  rw [h, show (2047 : Int) = ((2047 : Nat) : Int) from rfl, h2, h3]
  simp only [bne_iff_ne, ne_eq]
  omega
def HoldP (w : World) (e : Ending) (w' : World) : Prop := e = .returned (.bool true) ∧ Below w.heap.size w w'
set_option maxRecDepth 100000 in
set_option maxHeartbeats 4000000 in
theorem holds_null (d : Nat) (hd : d ≤ 512) (w : World) : Calls Try.prog 24 #[.iface 106 (.agg #[]), .int .i64 d] w (HoldP w) := by
  have h0 := vn_0
  have k0 := tk_0_0
  have k1 := tk_0_1
  have k2 := tk_0_2
  have a0 := tb_0_0
  have a1 := tb_0_1
  have a2 := tb_0_2
  have a3 := tb_0_3
  have a4 := tb_0_4
  have a5 := tb_0_5
  have hd2 : decide (512 < (d : Int)) = false := decide_eq_false (by omega)
  clear hd
  go_enter Try.func24, Try.ntmps24
  go_wp2
  go_ret
  exact ⟨rfl, Below.refl _ _⟩
set_option maxRecDepth 100000 in
set_option maxHeartbeats 4000000 in
theorem holds_flag (b : Bool) (d : Nat) (hd : d ≤ 512) (w : World) : Calls Try.prog 24 #[.iface 107 (.bool b), .int .i64 d] w (HoldP w) := by
  have h0 := vn_1 b
  have k0 := tk_1_0 b
  have k1 := tk_1_1 b
  have k2 := tk_1_2 b
  have a0 := tb_1_0 b
  have a1 := tb_1_1 b
  have a2 := tb_1_2 b
  have a3 := tb_1_3 b
  have a4 := tb_1_4 b
  have a5 := tb_1_5 b
  have hd2 : decide (512 < (d : Int)) = false := decide_eq_false (by omega)
  clear hd
  go_enter Try.func24, Try.ntmps24
  go_wp2
  go_ret
  exact ⟨rfl, Below.refl _ _⟩
set_option maxRecDepth 100000 in
set_option maxHeartbeats 4000000 in
theorem holds_num (x : Nat) (hf : finB x = true) (hn : normB x = x) (hx : x < 18446744073709551616) (d : Nat) (hd : d ≤ 512) (w : World) : Calls Try.prog 24 #[.iface 104 (.float .f64 x), .int .i64 d] w (HoldP w) := by
  have h0 := vn_2 x
  have k0 := tk_2_0 x
  have k1 := tk_2_1 x
  have k2 := tk_2_2 x
  have a0 := tb_2_0 x
  have a1 := tb_2_1 x
  have a2 := tb_2_2 x
  have a3 := tb_2_3 x
  have a4 := tb_2_4 x
  have a5 := tb_2_5 x
  have hfb := f64bits x
  have hx1 : ¬ ((x : Int) = 9223372036854775808) := by
    intro h
    have : x = 9223372036854775808 := by omega
    subst this
    exact absurd hn (by decide)
  have hx2 : ((x : Int) != 9223372036854775808) = true := by simpa using hx1
  have hx3 : (bits BinOp.and IntKind.u64 ((x : Int) / 4503599627370496) 2047 != 2047) = true := exp_not x hf hx
  have HX := Lib.hid (And.intro hx2 hx3)
  clear hf hn hx hx2 hx3
  have hd2 : decide (512 < (d : Int)) = false := decide_eq_false (by omega)
  clear hd
  go_enter Try.func24, Try.ntmps24
  go_wp2
  go_ret
  rw [HX.out.1, HX.out.2]
  exact ⟨rfl, Below.refl _ _⟩
set_option maxRecDepth 100000 in
set_option maxHeartbeats 4000000 in
theorem holds_text (s : ByteArray) (d : Nat) (hd : d ≤ 512) (w : World) : Calls Try.prog 24 #[.iface 75 (.string s), .int .i64 d] w (HoldP w) := by
  have h0 := vn_3 s
  have k0 := tk_3_0 s
  have k1 := tk_3_1 s
  have k2 := tk_3_2 s
  have a0 := tb_3_0 s
  have a1 := tb_3_1 s
  have a2 := tb_3_2 s
  have a3 := tb_3_3 s
  have a4 := tb_3_4 s
  have a5 := tb_3_5 s
  have hd2 : decide (512 < (d : Int)) = false := decide_eq_false (by omega)
  clear hd
  go_enter Try.func24, Try.ntmps24
  go_wp2
  go_ret
  exact ⟨rfl, Below.refl _ _⟩
end Nd
end Go.Proofs.Ytfhfkggkbeahbaa
