/-
  Walks of package node: sized of each sort.
-/
import Derived.Test.YtfhfkggkbeahbaaNdD
import Derived.Test.YtfhfkggkbeahbaaNtA
import Derived.Test.YtfhfkggkbeahbaaNtQ
import Derived.StillTailTactics
namespace Go.Proofs.Ytfhfkggkbeahbaa
open Go.RowKit Mem
set_option linter.unusedVariables false
namespace Nd

theorem sized_flag (b : Bool) (w : World) : Calls Try.prog 121 #[.bool b] w fun e w' => e = .returned (.agg #[.int .i64 1, .int .i64 0, .int .i64 1]) ∧ Below w.heap.size w w' := by
  go_enter Try.func121, Try.ntmps121
  go_wp2
  refine bodyPost_ret (v := .agg #[.int .i64 1, .int .i64 0, .int .i64 1]) ?_ rfl ⟨rfl, ((Below.refl _ _).alloc (Nat.le_refl _) _)⟩
  simp [results, Try.results121, go_sem]
theorem sized_num (x : Nat) (w : World) : Calls Try.prog 123 #[.float .f64 x] w fun e w' => e = .returned (.agg #[.int .i64 1, .int .i64 0, .int .i64 1]) ∧ Below w.heap.size w w' := by
  go_enter Try.func123, Try.ntmps123
  go_wp2
  refine bodyPost_ret (v := .agg #[.int .i64 1, .int .i64 0, .int .i64 1]) ?_ rfl ⟨rfl, ((Below.refl _ _).alloc (Nat.le_refl _) _)⟩
  simp [results, Try.results123, go_sem]
theorem sized_size (a b c : Int) (w : World) : Calls Try.prog 109 #[.agg #[.int .i64 a, .int .i64 b, .int .i64 c]] w fun e w' => e = .returned (.agg #[.int .i64 a, .int .i64 b, .int .i64 c]) ∧ Below w.heap.size w w' := by
  go_enter Try.func109, Try.ntmps109
  go_wp2
  refine bodyPost_ret (v := .agg #[.int .i64 a, .int .i64 b, .int .i64 c]) ?_ rfl ⟨rfl, ((Below.refl _ _).alloc (Nat.le_refl _) _).alloc (by simp) _⟩
  simp [results, Try.results109, go_sem]
end Nd
end Go.Proofs.Ytfhfkggkbeahbaa
