/-
  From the row's laid variables to the facts that Atoi and Itoa ask.
-/
import Derived.Test.YtbajkglacfheiaaGreatDoorRows
import Derived.Test.YtbajkglacfheiaaGreatDoorMC
import Derived.Stop.LaidErr
import Derived.SevenTiedAt
namespace Go.Proofs.YtbajkglacfheiaaGreatDoor
open Go.RowKit Go.Shelf
set_option linter.unusedVariables false
theorem star_err : "*" ++ "errors.errorString" = "*errors.errorString" := by decide
theorem row_err (u : TypeId) (h : Tryz.prog.typeName? 3 u = some "*errors.errorString") : u = 395 :=
  typeName_ptr_named (nm := "errors.errorString") (by rw [star_err]; kernel_rfl) (by kernel_rfl) (by decide) u (by rw [star_err]; exact h)
theorem glob {W : World} (h : W.ShapedOpen Tryz.prog) : Glob W := Tryz.laysM219.s1_3 W h
theorem tab_of_laid {W : World} (h : laidMetH Tryz.prog Rows.bindUnitsUptoRow.laid W) : Tab W := by
  rw [MakeChecks.laidMetH_plain _ _ _ (by kernel_rfl)] at h
  have h1 : laidMet Tryz.prog (("internal/strconv.uint64pow10", Lib.tabData .u64 Lib.pow10Tab) :: _) W := laidMet.tail (laidMet.tail h)
  have h2 := laidMet.tail (laidMet.tail h1)
  have h3 := laidMet.tail h2
  obtain ⟨a0, s0, hv0, -, -, -⟩ := laid_sentinel h2 gRan (by kernel_rfl) errI row_err Tryz.underlying395 Tryz.underlying397 rfl rfl Tryz.underlying9 (by kernel_rfl) (by kernel_rfl)
  obtain ⟨a1, s1, hv1, -, -, -⟩ := laid_sentinel h3 gSyn (by kernel_rfl) errI row_err Tryz.underlying395 Tryz.underlying397 rfl rfl Tryz.underlying9 (by kernel_rfl) (by kernel_rfl)
  exact ⟨Lib.tabIs_of_head gPow (by kernel_rfl) Tryz.underlying384 Tryz.underlying64 (by kernel_rfl) (by kernel_rfl) h1, ⟨_, _, hv1⟩, _, _, hv0⟩
end Go.Proofs.YtbajkglacfheiaaGreatDoor

