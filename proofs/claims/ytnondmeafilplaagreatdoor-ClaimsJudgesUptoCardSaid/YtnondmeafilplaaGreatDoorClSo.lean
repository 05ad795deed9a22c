/-
  Walk of the library's sort over at most two numbers.
-/
import Derived.Test.YtnondmeafilplaaGreatDoorClW
import Derived.RegionTactic
import Derived.BigRegion
import Derived.Deep.QuietTactic
import Derived.BigQuiet
namespace Go.Proofs.YtnondmeafilplaaGreatDoor
open Go.RowKit Mem
set_option linter.unusedVariables false

theorem nan_any (a : Int) (w : World) : Calls Tryz.prog 111 #[.int .i64 a] w fun e w' => e = .returned (.bool false) ∧ w = w' := by
  have e1 : (a == a) = true := by simp
  have e2 : (a != a) = false := by simp
  go_enter Tryz.func111, Tryz.ntmps111
  go_wp2
  go_ret
  exact ⟨rfl, rfl⟩
theorem less_any (a b : Int) (x : Bool) (hx : decide (a < b) = x) (w : World) : Calls Tryz.prog 85 #[.int .i64 a, .int .i64 b] w fun e w' => e = .returned (.bool x) ∧ w = w' := by
  go_enter Tryz.func85, Tryz.ntmps85
  go_wp2_with (go_at_call 111; refine (nan_any _ _).mono ?_; rintro e w' ⟨rfl, rfl⟩)
  all_goals
    go_ret
    exact ⟨by simp_all, rfl⟩
theorem less_q (a b : Int) (x : Bool) (hx : decide (a < b) = x) (w : World) : Calls Tryz.prog 85 #[.int .i64 a, .int .i64 b] w fun e w' => e = .returned (.bool x) ∧ w' = w :=
  (less_any a b x hx w).mono fun _ _ ⟨h1, h2⟩ => ⟨h1, h2.symm⟩
theorem ins_small (A : Option Addr) (n q : Nat) (hn : n ≤ 1) (w : World) : Calls Tryz.prog 79 #[.slice A n q, .int .i64 0, .int .i64 n] w fun e w' => e = .returned (.tuple #[]) ∧ w = w' := by
  have h1 : ¬ (1 : Int) < (n : Int) := by omega
  go_enter Tryz.func79, Tryz.ntmps79
  go_wp2
  go_loop [6] (fun c6 => c6 = .int .i64 1) (fun _ => 0)
  case atStart => rfl
  case round =>
    subst hrel
    go_wp2
    go_end0
    exact ⟨rfl, rfl⟩
/-- two numbers in a row of the call's own, before and behind the sort -/
structure Two2 (w0 : World) (g : Nat) (e : TypeId) (cap B : Nat) (a b : Int) (w : World) : Prop where
  ca : w.cell? ⟨g, 0, none⟩ = some (.int .i64 a)
  cb : w.cell? ⟨g, 1, none⟩ = some (.int .i64 b)
  fa : w.frozen? ⟨g, 0, none⟩ = false
  fb : w.frozen? ⟨g, 1, none⟩ = false
  own : w.ownsRow B e 1 (.slice (some ⟨g, 0, none⟩) 2 cap) 2 [.int .i64 a, .int .i64 b]
  gr : w0.grownBy w (some g)
theorem Two2.of {w0 w : World} {g : Nat} {e : TypeId} {cap B : Nat} {a b : Int} (h : w.ownsRow B e 1 (.slice (some ⟨g, 0, none⟩) 2 cap) 2 [.int .i64 a, .int .i64 b]) (hg : w0.grownBy w (some g)) : Two2 w0 g e cap B a b w :=
  ⟨h.cellAt 0 (by decide), h.cellAt 1 (by decide), h.frozenAt 0, h.frozenAt 1, h, hg⟩
theorem Two2.swap {w0 w : World} {g : Nat} {e : TypeId} {cap B : Nat} {a b : Int} (h : Two2 w0 g e cap B a b w) : Two2 w0 g e cap B b a ((w.setCell ⟨g, 1, none⟩ (.int .i64 a)).setCell ⟨g, 0, none⟩ (.int .i64 b)) := by
  obtain ⟨h1, g1⟩ := h.own.stored 1 (.int .i64 a)
  obtain ⟨h2, g2⟩ := h1.stored 0 (.int .i64 b)
  exact Two2.of h2 (grown_trans (grown_trans h.gr g1) g2)
theorem Two2.drew {w0 w : World} {g : Nat} {e : TypeId} {cap B : Nat} {a b : Int} (h : Two2 w0 g e cap B a b w) (n : Nat) : Two2 w0 g e cap B a b (w.drewN n) := ⟨h.ca, h.cb, h.fa, h.fb, own_below h.own (drewN_below _ _), grown_drewN h.gr n⟩
set_option maxRecDepth 100000 in
set_option maxHeartbeats 4000000 in
theorem ins_two2 (g q B : Nat) (a b : Int) (w0 w : World) (h : Two2 w0 g 2 q B a b w) :
    Calls Tryz.prog 79 #[.slice (some ⟨g, 0, none⟩) 2 q, .int .i64 0, .int .i64 2] w fun e w' => e = .returned (.tuple #[]) ∧ Two2 w0 g 2 q B (min a b) (max a b) w' := by
  go_enter Tryz.func79, Tryz.ntmps79
  go_wp2
  go_loopw [6] (fun c6 wr => (c6 = .int .i64 1 ∧ Two2 w0 g 2 q B a b wr) ∨ (c6 = .int .i64 2 ∧ Two2 w0 g 2 q B (min a b) (max a b) wr)) (fun c6 _ => 3 - (intOf c6).toNat)
  case atStart => exact .inl ⟨rfl, h⟩
  case round =>
    rcases hrel with ⟨rfl, hT⟩ | ⟨rfl, hT⟩
    · obtain ⟨wo, rfl⟩ : ∃ wo : World, wo = wr := ⟨_, rfl⟩
      go_wp2
      go_loopw [7] (fun c7 wr => (c7 = .int .i64 1 ∧ Two2 w0 g 2 q B a b wr) ∨ (c7 = .int .i64 0 ∧ b < a ∧ Two2 w0 g 2 q B b a wr)) (fun c7 _ => (intOf c7).toNat)
      case atStart => exact .inl ⟨rfl, hT⟩
      case round =>
        clear hT h
        rcases hrel with ⟨rfl, hT⟩ | ⟨rfl, hlt, hT⟩
        · have c0 := hT.ca
          have c1 := hT.cb
          have f0 := hT.fa
          have f1 := hT.fb
          have hw0 : IntKind.i64.wrap (0 : Int) = 0 := by decide
          by_cases hlt : b < a
          · have hd : decide (b < a) = true := decide_eq_true hlt
            have HD := Lib.hid hd
            have hS := fun n => (hT.drew n).swap
            clear hd hT
            go_wp2
            go_quiet ((go_at_call 85; exact Calls.quiet_of_same (less_q b a true HD.out _)))
            go_wp2
            go_region
            go_wp2
            go_roundw
            case rel => exact .inr ⟨rfl, hlt, hS _⟩
            case measure => simp [intOf]
          · have hd : decide (b < a) = false := decide_eq_false hlt
            have HD := Lib.hid hd
            have hmn : min a b = a := by omega
            have hmx : max a b = b := by omega
            have hT2 : ∀ n, Two2 w0 g 2 q B (min a b) (max a b) (wr.drewN n) := fun n => by rw [hmn, hmx]; exact hT.drew n
            clear hd hT hmn hmx
            go_wp2
            go_quiet ((go_at_call 85; exact Calls.quiet_of_same (less_q b a false HD.out _)))
            go_wp2
            go_roundw
            case rel => exact .inr ⟨rfl, hT2 _⟩
            case measure => simp [intOf]
        · have hmn : min a b = b := by omega
          have hmx : max a b = a := by omega
          have hT2 : ∀ n, Two2 w0 g 2 q B (min a b) (max a b) (wr.drewN n) := fun n => by rw [hmn, hmx]; exact hT.drew n
          clear hT hmn hmx
          go_wp2
          go_quiet (fail)
          go_wp2
          go_roundw
          case rel => exact .inr ⟨rfl, hT2 _⟩
          case measure => simp [intOf]
    · go_wp2
      go_end0
      exact ⟨rfl, hT⟩
set_option maxRecDepth 100000 in
set_option maxHeartbeats 4000000 in
theorem pdq_of (A : Option Addr) (n q : Nat) (lim : Int) (hn : n ≤ 2) (S : World → Prop) (w : World) (h : Calls Tryz.prog 79 #[.slice A n q, .int .i64 0, .int .i64 n] w fun e w' => e = .returned (.tuple #[]) ∧ S w') :
    Calls Tryz.prog 55 #[.slice A n q, .int .i64 0, .int .i64 n, .int .i64 lim] w fun e w' => e = .returned (.tuple #[]) ∧ S w' := by
  have h12 : (n : Int) ≤ 12 := by omega
  have h0 : (0 : Int) ≤ (n : Int) := by omega
  have H := Lib.hid h
  clear h hn
  go_enter Tryz.func55, Tryz.ntmps55
  go_wp2_with fail
  refine wp_loop_rounds 1 ?_
  rw [rounds_succ]
  go_wp2_with fail
  refine H.out.mono ?_
  rintro e w' ⟨rfl, hS⟩
  go_wp2_with fail
  refine bodyPost_ret (results_none rfl _ _ _) rfl ?_
  exact ⟨rfl, hS⟩
set_option maxRecDepth 100000 in
set_option maxHeartbeats 4000000 in
theorem sort_of (A : Option Addr) (n q : Nat) (hn : n ≤ 2) (S : World → Prop) (w : World) (h : Calls Tryz.prog 79 #[.slice A n q, .int .i64 0, .int .i64 n] w fun e w' => e = .returned (.tuple #[]) ∧ S w') :
    Calls Tryz.prog 44 #[.slice A n q] w fun e w' => e = .returned (.tuple #[]) ∧ S w' := by
  have h0 : (0 : Int) ≤ (n : Int) := by omega
  have h2 : (n : Int) ≤ 2 := by omega
  have h3 : (n : Int) ≤ 18446744073709551615 := by omega
  have hl := Tryz.bits_Len (n : Int) w h0 h3
  have HL := Lib.hid hl
  have H := Lib.hid (fun lim => pdq_of A n q lim hn S w h)
  clear h hn h3 hl
  go_enter Tryz.func44, Tryz.ntmps44
  go_wp2_with fail
  refine HL.out.mono ?_
  rintro e w' ⟨rfl, rfl⟩
  go_wp2_with fail
  refine (H.out _).mono ?_
  rintro e w' ⟨rfl, hS⟩
  go_wp2_with fail
  go_end0
  exact ⟨rfl, hS⟩
end Go.Proofs.YtnondmeafilplaaGreatDoor
