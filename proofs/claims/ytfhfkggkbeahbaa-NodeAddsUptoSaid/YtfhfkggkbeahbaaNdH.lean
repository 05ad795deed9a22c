/-
  Walks of package node: a number at a full row.
-/
import Derived.Test.YtfhfkggkbeahbaaNdG
namespace Go.Proofs.Ytfhfkggkbeahbaa
open Go.RowKit Mem
set_option linter.unusedVariables false

theorem f64bits (x : Nat) (W : World) : (callFunc 26 #[.float .f64 x]).run Try.prog W = .ok (.value (.int .u64 (x : Int))) W := by kernel_rfl
set_option maxRecDepth 100000 in
theorem mnum_full (x : Nat) (p : Nat) (ty : TypeId) (A : Option Addr) (n q : Nat) (w : World) (hB : Blk w p ty #[.slice A n q]) (hn : 65536 ≤ n) :
    Calls Try.prog 11 #[.pointer (some ⟨p, 0, none⟩), .float .f64 x] w fun e w' => e = .returned (errN 3) ∧ Below w.heap.size w w' := by
  have hfb := f64bits x
  go_enter Try.func11, Try.ntmps11
  go_wp2_with fail
  refine (step_full 3 false x [] 0 none 0 0 p ty A n q _ hB (by omega) hn).mono ?_
  rintro e w2 ⟨rfl, h⟩
  go_wp2
  go_ret
  exact ⟨rfl, h⟩
end Go.Proofs.Ytfhfkggkbeahbaa
