/-
  Walks of layer 10's law: alike, place; a value and itself by Same; what lies within a tree that steps made.
-/
import Derived.Test.YtfhfkggkbeahbaaGreatNsO
import Derived.Test.YtfhfkggkbeahbaaGreatGJ
import Derived.Test.YtfhfkggkbeahbaaGreatNbD
namespace Go.Proofs.YtfhfkggkbeahbaaGreat
open Go.RowKit Mem
set_option linter.unusedVariables false
namespace Nd

theorem alike_any (v1 v2 : Value) (ss : List Stp) (w : World) (h1 : RdS w v1 ss) (h2 : RdS w v2 ss) (hF : ∀ s ∈ ss, s.Fine) (hn : ss.length ≤ 1048576) : Calls Tryz.prog 17 #[v1, v2] w fun e w' => e = .returned (.bool true) ∧ Below w.heap.size w w' := by
  have H1 := Lib.hid h1
  have H2 := Lib.hid h2
  have HF := Lib.hid hF
  have HN := Lib.hid hn
  obtain ⟨A, ca, rfl, _⟩ := h1
  obtain ⟨A', cb, rfl, _⟩ := h2
  clear hF hn
  go_enter Tryz.func17, Tryz.ntmps17
  go_wp2_with fail
  ((with_reducible refine (lsteps_any _ ss _ H2.out HN.out).mono ?_); rintro e w1 ⟨⟨v3, rfl, h3⟩, hb1⟩)
  have H3 := Lib.hid h3
  have H1' := Lib.hid (H1.out.below hb1)
  clear h3
  go_wp2_with fail
  ((with_reducible refine (lequal_any _ _ ss _ H1'.out H3.out HF.out HN.out).mono ?_); rintro e w2 ⟨rfl, hb2⟩)
  have hb := hb1.trans (hb2.mono hb1.size)
  clear hb1 hb2
  go_wp2
  go_ret
  exact ⟨rfl, hb⟩
theorem place_any (n : Nat) (i : Int) (h1 : 1 ≤ n) (h2 : n ≤ 65536) (w : World) : Calls Tryz.prog 29 #[.int .i64 n, .int .i64 i] w fun e w' => (∃ p : Nat, p < n ∧ e = .returned (.int .i64 p)) ∧ w = w' := by
  have hlt : (i.tmod n) < n ∧ -(n : Int) < i.tmod n := by
    have h3 : (0 : Int) < n := by omega
    have h4 := Int.natAbs_tmod i n
    have h5 : i.natAbs % (n : Int).natAbs < (n : Int).natAbs := Nat.mod_lt _ (by omega)
    omega
  have hz : ((n : Int) == 0) = false := by simp only [beq_eq_false_iff_ne, ne_eq]; omega
  have hz2 : ¬ (n : Int) = 0 := by omega
  obtain ⟨r, hr⟩ : ∃ r, i.tmod n = r := ⟨_, rfl⟩
  rw [hr] at hlt
  have hw1 : wrap64 r = r := by unfold wrap64; omega
  by_cases hneg : r < 0
  · obtain ⟨p, hp⟩ : ∃ p : Nat, r + (n : Int) = (p : Int) := ⟨(r + n).toNat, by omega⟩
    have HP := Lib.hid (show p < n by omega)
    go_enter Tryz.func29, Tryz.ntmps29
    go_wp2
    go_ret
    exact ⟨⟨_, HP.out, rfl⟩, rfl⟩
  · obtain ⟨p, rfl⟩ : ∃ p : Nat, r = (p : Int) := ⟨r.toNat, by omega⟩
    have HP := Lib.hid (show p < n by omega)
    go_enter Tryz.func29, Tryz.ntmps29
    go_wp2
    go_ret
    exact ⟨⟨_, HP.out, rfl⟩, rfl⟩
theorem tsame_self (B B' g g' : Nat) (t : Tr) (w : World) (hT : TreeAt B w g t) (hU : TreeAt B' w g' t) (hot : t.Ok) :
    Calls Tryz.prog 12 #[.pointer (some ⟨g, 0, none⟩), .pointer (some ⟨g', 0, none⟩)] w fun e w' => e = .returned (.bool true) ∧ Below w.heap.size w w' := by
  refine (tsame_any B B' g g' t t w hT hU hot hot).mono ?_
  rintro e w' ⟨rfl, hb⟩
  exact ⟨by rw [eqT_refl t hot], hb⟩
theorem same_self (t : Tr) (a b : Value) (w : World) (h1 : RdA w t a) (h2 : RdA w t b) (hok : t.Ok) (hn : t.nodes ≤ 65536) :
    Calls Tryz.prog 14 #[.agg #[a], .agg #[b]] w fun e w' => e = .returned (.bool true) ∧ Below w.heap.size w w' := by
  refine (same_any t t a b w h1 h2 hok hok hn hn).mono ?_
  rintro e w' ⟨rfl, hb⟩
  exact ⟨by rw [eqT_refl t hok], hb⟩
end Nd
end Go.Proofs.YtfhfkggkbeahbaaGreat
