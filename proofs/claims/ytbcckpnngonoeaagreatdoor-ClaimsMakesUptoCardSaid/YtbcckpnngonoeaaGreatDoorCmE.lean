/-
  Walk of the reference of layer 25: the bits of a time.
-/
import Derived.Test.YtbcckpnngonoeaaGreatDoorFtA
import Derived.Test.YtbcckpnngonoeaaGreatDoorMK
namespace Go.Proofs.YtbcckpnngonoeaaGreatDoor
open Go.RowKit Mem
set_option linter.unusedVariables false
set_option linter.unusedSimpArgs false
namespace Nd
theorem bits_float {m k : Nat} (h1 : 2 ^ k ≤ m) (h2 : m < 2 ^ (k + 1)) (hk : k ≤ 52) : m.log2 = k ∧ m * 2 ^ (52 - k) < 9007199254740992 ∧ 4503599627370496 ≤ m * 2 ^ (52 - k) ∧ bitsT m = (1022 + k) * 4503599627370496 + m * 2 ^ (52 - k) := by
  have hl := log2_is h1 h2
  have hs := pow_split hk
  have h0 : m ≠ 0 := by have := Nat.two_pow_pos k; omega
  refine ⟨hl, ?_, ?_, ?_⟩
  · have : m * 2 ^ (52 - k) < 2 ^ (k + 1) * 2 ^ (52 - k) := Nat.mul_lt_mul_of_pos_right h2 (Nat.two_pow_pos _)
    rw [Nat.pow_succ, Nat.mul_right_comm, hs] at this
    omega
  · have : 2 ^ k * 2 ^ (52 - k) ≤ m * 2 ^ (52 - k) := Nat.mul_le_mul_right _ h1
    omega
  · unfold bitsT
    rw [if_neg h0, hl]
set_option maxRecDepth 100000 in
set_option maxHeartbeats 4000000 in
theorem refFloat_any (m : Nat) (hm : m < 9007199254740992) (w : World) : Calls Tryz.prog 65 #[.int .i64 (m : Int)] w fun e w' => e = .returned (.int .u64 (bitsT m : Int)) ∧ w = w' := by
  by_cases h0 : m = 0
  · subst h0
    go_enter Tryz.func65, Tryz.ntmps65
    go_wp2
    go_ret
    exact ⟨rfl, rfl⟩
  · have he : ((m : Int) == 0) = false := by simpa using h0
    have hlo := log2_of h0
    have hl52 := log_lt h0 hm
    go_enter Tryz.func65, Tryz.ntmps65
    go_wp2_with fail
    go_loopw [3] (fun c3 wr => ∃ k : Nat, c3 = .int .i64 k ∧ k ≤ m.log2 ∧ w = wr) (fun c3 _ => m.log2 - (intOf c3).toNat)
    case atStart => exact ⟨0, rfl, Nat.zero_le _, rfl⟩
    case round =>
      obtain ⟨k, rfl, hk, rfl⟩ := hrel
      have hk0 : (0 : Int) ≤ (k : Int) := by omega
      have hk64 : (k : Int) ≤ 64 := by omega
      by_cases hgt : (1 : Int) < (m : Int) / 2 ^ k
      · have hkl : k < m.log2 := by
          apply Classical.byContradiction
          intro hc
          have e : k = m.log2 := by omega
          have h2 : m / 2 ^ k < 2 := by
            rw [Nat.div_lt_iff_lt_mul (Nat.two_pow_pos _), e, Nat.mul_comm, ← Nat.pow_succ]
            exact hlo.2
          have h3 : ((m / 2 ^ k : Nat) : Int) = (m : Int) / 2 ^ k := by simp
          omega
        go_wp2
        go_roundw
        case rel => exact ⟨k + 1, by go_num, by omega, trivial⟩
        case measure => simp [intOf]; omega
      · have hk2 : m < 2 ^ (k + 1) := by
          apply Classical.byContradiction
          intro hc
          have h2 : 2 ≤ m / 2 ^ k := by
            rw [Nat.le_div_iff_mul_le (Nat.two_pow_pos _), Nat.mul_comm, ← Nat.pow_succ]
            omega
          have h3 : ((m / 2 ^ k : Nat) : Int) = (m : Int) / 2 ^ k := by simp
          omega
        have hk1 : 2 ^ k ≤ m := Nat.le_trans (Nat.pow_le_pow_right (by omega) hk) hlo.1
        obtain ⟨b1, b2, b3, b4⟩ := bits_float hk1 hk2 (by omega)
        have HB := Lib.hid (And.intro b2 (And.intro b3 b4))
        clear b1 b2 b3 b4 hk1 hk2 hlo
        go_wp2
        go_ret
        refine ⟨?_, rfl⟩
        obtain ⟨g1, g2, g3⟩ := HB.out
        have e : ((m : Int) * 2 ^ (52 - k)) = ((m * 2 ^ (52 - k) : Nat) : Int) := by simp
        rw [e]
        generalize m * 2 ^ (52 - k) = z at *
        have e1 : IntKind.u64.wrap (z : Int) = (z : Int) := IntWalk.u64_in _ ⟨by omega, by omega⟩
        have hk52 : k ≤ 52 := by omega
        have e2 : IntKind.u64.wrap ((1023 + (k : Int)) * 4503599627370496 + (z : Int)) = (1023 + (k : Int)) * 4503599627370496 + (z : Int) := IntWalk.u64_in _ ⟨by omega, by omega⟩
        have e3 : IntKind.u64.wrap ((1023 + (k : Int)) * 4503599627370496 + (z : Int) - 4503599627370496) = ((bitsT m : Nat) : Int) := by
          rw [IntWalk.u64_in _ ⟨by omega, by omega⟩, g3]
          omega
        rw [e1, e2, e3]
        rfl
end Nd
end Go.Proofs.YtbcckpnngonoeaaGreatDoor

