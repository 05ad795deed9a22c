/-
  Walks of package node: refuse, within, used; the closure of row.do that recovers.
-/
import Derived.Test.YtfhfkggkbeahbaaProg
import Derived.Test.YtfhfkggkbeahbaaWords
import Derived.WalkKit
import Derived.LoopTactic
import Derived.Deep.QuietTactic
import Derived.BigQuiet
import Derived.Lib.Hide
import Derived.Outline
import Derived.Tactics2
import Derived.Defers
import Derived.Recover
import Derived.Deep.DeepCutAuto
import Derived.WalkLawsBesides
namespace Go.Proofs.Ytfhfkggkbeahbaa
open Go.RowKit Mem
set_option linter.unusedVariables false

theorem refuse_yes (n : Int) (w : World) : Calls Try.prog 33 #[.bool true, .int .i64 n] w fun e w' => e = .returned (.tuple #[]) ∧ w = w' := by
  go_enter Try.func33, Try.ntmps33
  go_wp2
  go_end0
  exact ⟨rfl, rfl⟩
theorem refuse_no (n : Int) (w : World) : Calls Try.prog 33 #[.bool false, .int .i64 n] w fun e w' => e = .panicked [{ v := .iface 30 (.int .i64 n), recovered := false }] ∧ w = w' := by
  go_enter Try.func33, Try.ntmps33
  go_wp2
  exact ⟨rfl, rfl, rfl⟩
/-- is a size within the limits? -/
def withinB (n b d : Int) : Bool := decide (n ≤ 65536) && decide (b ≤ 2097152) && decide (d ≤ 512)
theorem within_any (n b d : Int) (w : World) : Calls Try.prog 45 #[.agg #[.int .i64 n, .int .i64 b, .int .i64 d]] w fun e w' => e = .returned (.bool (withinB n b d)) ∧ Below w.heap.size w w' := by
  have hb : ∀ o, Below w.heap.size w (w.alloc o) := fun o => (Below.refl _ _).alloc (Nat.le_refl _) _
  have HW : Hid (withinB n b d = (decide (n ≤ 65536) && decide (b ≤ 2097152) && decide (d ≤ 512))) := Lib.hid rfl
  obtain ⟨p, hp⟩ : ∃ p, decide (n ≤ 65536) = p := ⟨_, rfl⟩
  obtain ⟨q, hq⟩ : ∃ p, decide (b ≤ 2097152) = p := ⟨_, rfl⟩
  obtain ⟨r, hr⟩ : ∃ p, decide (d ≤ 512) = p := ⟨_, rfl⟩
  rw [hp, hq, hr] at HW
  go_enter Try.func45, Try.ntmps45
  cases p with
  | false =>
    go_wp2
    go_ret
    exact ⟨by rw [HW.out]; rfl, hb _⟩
  | true =>
    cases q with
    | false =>
      go_wp2
      go_ret
      exact ⟨by rw [HW.out]; rfl, hb _⟩
    | true =>
      cases r with
      | false =>
        go_wp2
        go_ret
        exact ⟨by rw [HW.out]; rfl, hb _⟩
      | true =>
        go_wp2
        go_ret
        exact ⟨by rw [HW.out]; rfl, hb _⟩
/-- the closure that recovers, behind a panic with a number -/
theorem catch_panicking (p : Addr) (x : Value) (n : Int) (older : List PanicEntry) (w : World) (hc : w.cell? p = some x) (hz : w.frozen? p = false) :
    CallsD Try.prog 32 #[.pointer (some p)] (.panicking ({ v := .iface 30 (.int .i64 n), recovered := false } :: older)) w fun e u' w' =>
      e = .returned (.tuple #[]) ∧ u' = .panicking ({ v := .iface 30 (.int .i64 n), recovered := true } :: older) ∧ w' = w.setCell p (.iface 30 (.int .i64 n)) := by
  have hta : ∀ W, (Instr.typeAssert (.iface 30 (.int .i64 n)) 20 30 false).run Try.prog W = .ok (.int .i64 n) W := fun W => by kernel_rfl
  refine callsD_of_wpS Try.func32 rfl fun c₀ cs hu => ?_
  apply wpS_seq
  apply wpS_region
  simp [wpOpsS, go_sem, recoverD, hu, Try.ntmps32, Exit.thenS]
  apply wpS_seq
  apply wpS_region
  simp [wpOpsS, go_sem, Exit.thenS]
  refine wpS_cond (t := true) (by simp [Act.eval]) ?_
  simp only [if_true]
  apply wpS_region
  simp [wpOpsS, go_sem, hta, hc, hz, bodyPostS, results, Try.results32]
theorem catch_idle (p : Addr) (w : World) :
    CallsD Try.prog 32 #[.pointer (some p)] .returning w fun e u' w' => e = .returned (.tuple #[]) ∧ u' = .returning ∧ w' = w := by
  refine callsD_of_wpS Try.func32 rfl fun c₀ cs hu => ?_
  apply wpS_seq
  apply wpS_region
  simp [wpOpsS, go_sem, recoverD, hu, Try.ntmps32, Exit.thenS]
  apply wpS_seq
  apply wpS_region
  simp [wpOpsS, go_sem, Exit.thenS]
  refine wpS_cond (t := false) (by simp [Act.eval]) ?_
  simp only [Bool.false_eq_true, if_false]
  refine wpS_of_wp (wp_skip ?_)
  cases c₀
  simp_all [bodyPostS, results, Try.results32]
end Go.Proofs.Ytfhfkggkbeahbaa
