/-
  Walks of package node: Build of any steps; the root of a nil tree.
-/
import Derived.Test.YtfhfkggkbeahbaaNuF
namespace Go.Proofs.Ytfhfkggkbeahbaa
open Go.RowKit Mem
set_option linter.unusedVariables false
namespace Nd

theorem root_nil (w : World) : Calls Try.prog 16 #[.pointer none] w fun e w' => e = .returned (.agg #[.nilIface]) ∧ Below w.heap.size w w' := by
  go_enter Try.func16, Try.ntmps16
  go_wp2
  refine bodyPost_ret (v := .agg #[.nilIface]) ?_ rfl ⟨rfl, ?_⟩
  · simp [results, Try.results16, go_sem]
  · exact ((Below.refl _ _).alloc (Nat.le_refl _) _)
theorem build_all (v : Value) (ss : List Stp) (w : World) (hS : RdS w v ss) (hF : ∀ s ∈ ss, s.Fine) : Calls Try.prog 14 #[v] w (BuildP ss w) := by
  by_cases hn : ss.length ≤ 65536
  · exact build_any v ss w hS hF hn
  · exact build_long v ss w hS (by omega)
theorem sp_form (n i : Int) : ∃ tx ux, spotB n i = .iface tx ux := by
  unfold spotB
  split
  · exact ⟨_, _, rfl⟩
  · exact ⟨_, _, rfl⟩
end Nd
end Go.Proofs.Ytfhfkggkbeahbaa
