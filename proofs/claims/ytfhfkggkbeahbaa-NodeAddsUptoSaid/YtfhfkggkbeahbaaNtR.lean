/-
  Walks of packages cmp and utf: Compare of two right texts.
-/
import Derived.Test.YtfhfkggkbeahbaaNtJ
import Derived.Test.YtfhfkggkbeahbaaNtO
import Derived.BigQuiet
namespace Go.Proofs.Ytfhfkggkbeahbaa
open Go.RowKit Mem
set_option linter.unusedVariables false
namespace Nd

theorem nan_int (x : Int) (w : World) : Calls Try.prog 74 #[.int .i64 x] w fun e w' => e = .returned (.bool false) ∧ w = w' := by
  go_enter Try.func74, Try.ntmps74
  go_wp2
  go_ret
  exact ⟨rfl, rfl⟩
theorem nan_byte (x : Int) (w : World) : Calls Try.prog 75 #[.int .u8 x] w fun e w' => e = .returned (.bool false) ∧ w = w' := by
  go_enter Try.func75, Try.ntmps75
  go_wp2
  go_ret
  exact ⟨rfl, rfl⟩
def sgn (x y : Int) : Int := if x < y then -1 else if y < x then 1 else 0
theorem cmp_int (x y : Int) (w : World) : Calls Try.prog 58 #[.int .i64 x, .int .i64 y] w fun e w' => e = .returned (.int .i64 (sgn x y)) ∧ w = w' := by
  rcases Int.lt_trichotomy x y with h | h | h
  · have hs : Hid (sgn x y = -1) := Lib.hid (by unfold sgn; rw [if_pos h])
    go_enter Try.func58, Try.ntmps58
    go_wp2_with (first | ((with_reducible refine (nan_int x _).mono ?_); rintro e w' ⟨rfl, rfl⟩) | ((with_reducible refine (nan_int y _).mono ?_); rintro e w' ⟨rfl, rfl⟩))
    go_ret
    exact ⟨by rw [hs.out]; rfl, rfl⟩
  · subst h
    have hs : Hid (sgn x x = 0) := Lib.hid (by unfold sgn; simp)
    go_enter Try.func58, Try.ntmps58
    go_wp2_with (first | ((with_reducible refine (nan_int x _).mono ?_); rintro e w' ⟨rfl, rfl⟩))
    go_ret
    exact ⟨by rw [hs.out]; rfl, rfl⟩
  · have hs : Hid (sgn x y = 1) := Lib.hid (by unfold sgn; rw [if_neg (by omega), if_pos h])
    have h2 : ¬ x < y := by omega
    go_enter Try.func58, Try.ntmps58
    go_wp2_with (first | ((with_reducible refine (nan_int x _).mono ?_); rintro e w' ⟨rfl, rfl⟩) | ((with_reducible refine (nan_int y _).mono ?_); rintro e w' ⟨rfl, rfl⟩))
    go_ret
    exact ⟨by rw [hs.out]; rfl, rfl⟩
theorem cmp_byte (x y : Int) (hne : ¬ x = y) (w : World) : Calls Try.prog 60 #[.int .u8 x, .int .u8 y] w fun e w' => e = .returned (.int .i64 (sgn x y)) ∧ w = w' := by
  rcases Int.lt_trichotomy x y with h | h | h
  · have hs : Hid (sgn x y = -1) := Lib.hid (by unfold sgn; rw [if_pos h])
    go_enter Try.func60, Try.ntmps60
    go_wp2_with (first | ((with_reducible refine (nan_byte x _).mono ?_); rintro e w' ⟨rfl, rfl⟩) | ((with_reducible refine (nan_byte y _).mono ?_); rintro e w' ⟨rfl, rfl⟩))
    go_ret
    exact ⟨by rw [hs.out]; rfl, rfl⟩
  · exact absurd h hne
  · have hs : Hid (sgn x y = 1) := Lib.hid (by unfold sgn; rw [if_neg (by omega), if_pos h])
    have h2 : ¬ x < y := by omega
    go_enter Try.func60, Try.ntmps60
    go_wp2_with (first | ((with_reducible refine (nan_byte x _).mono ?_); rintro e w' ⟨rfl, rfl⟩) | ((with_reducible refine (nan_byte y _).mono ?_); rintro e w' ⟨rfl, rfl⟩))
    go_ret
    exact ⟨by rw [hs.out]; rfl, rfl⟩
theorem high_any (x : Int) (w : World) : Calls Try.prog 59 #[.int .u8 x] w fun e w' => e = .returned (.bool (decide (240 ≤ x))) ∧ w = w' := by
  go_enter Try.func59, Try.ntmps59
  go_wp2
  go_ret
  exact ⟨rfl, rfl⟩
theorem cmp_app (p a b : Tx) : cmpL (p ++ a) (p ++ b) = cmpL a b := by
  induction p with
  | nil => rfl
  | cons x p ih => simp [cmpL, ih]
theorem cmp_split {a b : Tx} {k : Nat} (h : a.take k = b.take k) : cmpL a b = cmpL (a.drop k) (b.drop k) := by
  have ha := List.take_append_drop k a
  have hb := List.take_append_drop k b
  rw [← h] at hb
  calc cmpL a b = cmpL (a.take k ++ a.drop k) (a.take k ++ b.drop k) := by rw [ha, hb]
    _ = _ := cmp_app _ _ _
theorem cmp_end_a {a b : Tx} {k : Nat} (h : a.take k = b.take k) (ha : k = a.length) (hb : k ≤ b.length) : cmpL a b = sgn a.length b.length := by
  rw [cmp_split h, List.drop_eq_nil_of_le (by omega)]
  unfold sgn
  rcases Nat.lt_or_eq_of_le hb with hlt | he
  · rw [List.drop_eq_getElem_cons hlt]
    rw [if_pos (by omega)]
    rfl
  · rw [List.drop_eq_nil_of_le (by omega), if_neg (by omega), if_neg (by omega)]
    rfl
theorem cmp_end_b {a b : Tx} {k : Nat} (h : a.take k = b.take k) (hb : k = b.length) (ha : k < a.length) : cmpL a b = sgn a.length b.length := by
  rw [cmp_split h, List.drop_eq_nil_of_le (show b.length ≤ k by omega), List.drop_eq_getElem_cons ha]
  unfold sgn
  rw [if_neg (by omega), if_pos (by omega)]
  rfl
theorem cmp_at {a b : Tx} {k : Nat} (h : a.take k = b.take k) (h1 : k < a.length) (h2 : k < b.length) (hne : ¬ a[k] = b[k]) : cmpL a b = if ord a[k] < ord b[k] then -1 else 1 := by
  rw [cmp_split h, List.drop_eq_getElem_cons h1, List.drop_eq_getElem_cons h2]
  unfold cmpL
  rw [if_neg hne]
theorem ord_val (x y : UInt8) (hne : ¬ (x.toNat : Int) = (y.toNat : Int)) : (if ord x < ord y then (-1 : Int) else 1) = if 240 ≤ (x.toNat : Int) ∧ ¬ 240 ≤ (y.toNat : Int) ∧ 238 ≤ (y.toNat : Int) then -1 else if 240 ≤ (y.toNat : Int) ∧ ¬ 240 ≤ (x.toNat : Int) ∧ 238 ≤ (x.toNat : Int) then 1 else sgn x.toNat y.toNat := by
  have hx := x.toNat_lt
  have hy := y.toNat_lt
  unfold ord sgn
  split <;> split <;> (try split) <;> (try split) <;> (try split) <;> (try split) <;> (try split) <;> omega
set_option maxRecDepth 100000 in
set_option maxHeartbeats 4000000 in
theorem compare_right (a b : Tx) (w : World) (ha : rightB a = true) (hb : rightB b = true) (hla : a.length ≤ 1099511627776) (hlb : b.length ≤ 1099511627776) :
    Calls Try.prog 51 #[.string ⟨a.toArray⟩, .string ⟨b.toArray⟩] w fun e w' => e = .returned (.int .i64 (cmpL a b)) ∧ BelowD w.heap.size w w' := by
  have HA := Lib.hid ha
  have HB := Lib.hid hb
  clear ha hb
  go_enter Try.func51, Try.ntmps51
  go_wp2_with fail
  ((with_reducible refine (right_txD a _ (by omega)).mono ?_); rw [HA.out]; rintro e w1 ⟨rfl, hb1⟩)
  go_wp2_with fail
  ((with_reducible refine (right_txD b _ (by omega)).mono ?_); rw [HB.out]; rintro e w2 ⟨rfl, hb2⟩)
  have hbw := hb1.trans (hb2.mono hb1.size)
  clear hb1 hb2
  go_wp2
  obtain ⟨w3, hw3⟩ : ∃ w3, w3 = w2 := ⟨w2, rfl⟩
  subst hw3
  go_loopw [7] (fun c7 wr => ∃ k : Nat, k ≤ a.length ∧ k ≤ b.length ∧ c7 = .int .i64 k ∧ a.take k = b.take k ∧ ∃ q, wr = w3.drewN q) (fun c7 _ => a.length - (intOf c7).toNat)
  case atStart => exact ⟨0, by omega, by omega, rfl, rfl, 0, rfl⟩
  case round =>
    obtain ⟨k, hka, hkb, rfl, hpre, q, rfl⟩ := hrel
    have HP := Lib.hid hpre
    clear hpre
    by_cases h1 : k < a.length
    · by_cases h2 : k < b.length
      · obtain ⟨x, hx⟩ : ∃ x, a[k] = x := ⟨_, rfl⟩
        obtain ⟨y, hy⟩ : ∃ y, b[k] = y := ⟨_, rfl⟩
        have hx' : ((⟨a.toArray⟩ : ByteArray)[k]'(show k < a.toArray.size by simpa using h1)) = x := hx
        have hy' : ((⟨b.toArray⟩ : ByteArray)[k]'(show k < b.toArray.size by simpa using h2)) = y := hy
        by_cases h3 : x = y
        · have hpre2 : a.take (k + 1) = b.take (k + 1) := by
            rw [List.take_succ_eq_append_getElem h1, List.take_succ_eq_append_getElem h2, HP.out, hx, hy, h3]
          have HP2 := Lib.hid hpre2
          clear hpre2 hx hy
          subst h3
          go_upto_region 9 with fail
          go_quiet (fail)
          go_wp2
          go_roundw
          case rel => exact ⟨k + 1, by omega, by omega, by go_num, HP2.out, q + nq, rfl⟩
          case measure => simp [intOf]; omega
        · have h4 : ((x.toNat : Int) == (y.toNat : Int)) = false := by
            simp only [beq_eq_false_iff_ne, ne_eq]
            intro e
            exact h3 (UInt8.toNat_inj.1 (by omega))
          have h5 : ((k : Int) == (a.length : Int)) = false := by simp only [beq_eq_false_iff_ne, ne_eq]; omega
          have h6 : ((k : Int) == (b.length : Int)) = false := by simp only [beq_eq_false_iff_ne, ne_eq]; omega
          have HR := Lib.hid (cmp_at HP.out h1 h2 (by rw [hx, hy]; exact h3))
          rw [hx, hy] at HR
          have hne : ¬ (x.toNat : Int) = (y.toNat : Int) := by intro e; exact h3 (UInt8.toNat_inj.1 (by omega))
          clear hx hy
          go_upto_region 9 with fail
          go_quiet (fail)
          go_wp2_with fail
          clear HP
          obtain ⟨w4, hw4⟩ : ∃ w4, w3.drewN (q + nq) = w4 := ⟨_, rfl⟩
          have hb4 : BelowD w.heap.size w w4 := hw4 ▸ hbw.drewN _
          rw [hw4]
          clear hw4 hbw nq
          go_quiet (fail)
          have hb5 : BelowD w.heap.size w (w4.drewN nq) := hb4.drewN _
          generalize w4.drewN nq = w5 at hb5 ⊢
          clear hb4
          obtain ⟨X, hX⟩ : ∃ X, (x.toNat : Int) = X := ⟨_, rfl⟩
          obtain ⟨Y, hY⟩ : ∃ Y, (y.toNat : Int) = Y := ⟨_, rfl⟩
          have HO := Lib.hid (ord_val x y hne)
          rw [hX, hY] at HO hne ⊢
          clear hX hY hx' hy' h4 h3
          have HQ := Lib.hid (HR.out.trans HO.out)
          have hXn := high_any X
          have hYn := high_any Y
          obtain ⟨bx, hbx⟩ : ∃ bx, decide (240 ≤ X) = bx := ⟨_, rfl⟩
          obtain ⟨by_, hby⟩ : ∃ bx, decide (240 ≤ Y) = bx := ⟨_, rfl⟩
          obtain ⟨cx, hcx⟩ : ∃ bx, decide (238 ≤ X) = bx := ⟨_, rfl⟩
          obtain ⟨cy, hcy⟩ : ∃ bx, decide (238 ≤ Y) = bx := ⟨_, rfl⟩
          rw [hbx] at hXn
          rw [hby] at hYn
          have HXn := Lib.hid hXn
          have HYn := Lib.hid hYn
          replace HQ : Hid (cmpL a b = if bx = true ∧ by_ = false ∧ cy = true then -1 else if by_ = true ∧ bx = false ∧ cx = true then 1 else sgn X Y) := Lib.hid (by rw [HQ.out, ← hbx, ← hby, ← hcx, ← hcy]; simp)
          clear hXn hYn hbx hby HO HR
          cases bx <;> cases by_ <;> cases cx <;> cases cy
          all_goals
            go_wp2_with (first | ((with_reducible refine (HXn.out _).mono ?_); rintro e w' ⟨rfl, rfl⟩) | ((with_reducible refine (HYn.out _).mono ?_); rintro e w' ⟨rfl, rfl⟩) | ((with_reducible refine (cmp_byte X Y hne _).mono ?_); rintro e w' ⟨rfl, rfl⟩))
            go_ret
            exact ⟨by rw [HQ.out]; rfl, hb5⟩
      · have HR := Lib.hid (cmp_end_b HP.out (by omega) (by omega))
        have h5 : ((k : Int) == (a.length : Int)) = false := by simp only [beq_eq_false_iff_ne, ne_eq]; omega
        have h6 : ((k : Int) == (b.length : Int)) = true := by simp only [beq_iff_eq]; omega
        go_upto_region 9 with fail
        go_quiet (fail)
        go_wp2_with fail
        ((with_reducible refine (cmp_int _ _ _).mono ?_); rintro e w' ⟨rfl, rfl⟩)
        go_wp2
        go_ret
        exact ⟨by rw [HR.out]; rfl, hbw.drewN _⟩
    · have HR := Lib.hid (cmp_end_a HP.out (by omega) (by omega))
      have h5 : ((k : Int) == (a.length : Int)) = true := by simp only [beq_iff_eq]; omega
      go_upto_region 9 with fail
      go_quiet (fail)
      go_wp2_with fail
      ((with_reducible refine (cmp_int _ _ _).mono ?_); rintro e w' ⟨rfl, rfl⟩)
      go_wp2
      go_ret
      exact ⟨by rw [HR.out]; rfl, hbw.drewN _⟩
end Nd
end Go.Proofs.Ytfhfkggkbeahbaa
