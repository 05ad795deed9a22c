/-
  The statement PointerFinds of layer 13 is true of the given program, for every row of steps and every text. Conditions: what comes in holds at most 1048576 values and letters together (the second form's bound); the tables and errors of Go's library are as the program's text lays them.
-/
import Derived.Test.YtmcmoaeheadihaaGreatDoorCards
import Derived.Test.YtmcmoaeheadihaaGreatDoorTie
import Derived.Test.YtmcmoaeheadihaaGreatDoorNuO
import Derived.Test.YtmcmoaeheadihaaGreatDoorPvU
import Derived.Test.YtmcmoaeheadihaaGreatDoorPkR
import Derived.MakeChecks
import Derived.ProofKit
import Derived.OpenShut
import Derived.ShutString
import Derived.Lay
import Derived.Deep.DeepHandedRow
namespace Go.Proofs.YtmcmoaeheadihaaGreatDoor.pointerFinds
open Go.ChangeShapes Go.WideShapes Go.ChangeAt Go.RowKit Nd
open Go.ChangeMaps (open_string shut_string)
set_option linter.unusedVariables false

theorem reads (os : Os) {H : Type} (enc : TypeId × Value → H) : ∃ places, DataW.whole enc Tryz.prog ((World.laidAll Tryz.prog os Rows.pointerFindsUptoRow.laid).forCall (fun _ _ => 0) ⟨#[], #[.slice none 0 0, .string ⟨#[]⟩], []⟩).memory Tryz.f3.params.toList Rows.pointerFindsSpec.vars false (#[.slice none 0 0, .string ⟨#[]⟩] : Array Value).toList 8 = some ([.nil, .lit (.string [])], [], places) :=
  ⟨[], by kernel_rfl⟩

theorem both_true {a b : Bool} (h1 : a = true) (h2 : b = true) : (a && b) = true := by rw [h1, h2]; rfl
set_option maxRecDepth 100000 in
set_option maxHeartbeats 8000000 in
theorem jf : joinedFacts Tryz.pinned.checked.prog 3 Tryz.f3 (Rows.OpenSpec.upto Rows.pointerFindsSpec).bare Rows.pointerFindsUptoRow = true := by
  unfold joinedFacts
  repeat' (with_reducible refine both_true ?_ ?_)
  all_goals (as_aux_lemma => kernel_rfl)
theorem plain (f : FuncId) (fn : Func) (hf : Tryz.pinned.checked.prog.funcNamed Rows.pointerFindsUptoRow.func = some f) (hfn : Tryz.pinned.checked.prog.funcs[f]? = some fn) :
    true = Tryz.pinned.checked.prog.looks [] ∧ ∀ (j : Nat) t, fn.params[j]? = some t → Tryz.pinned.checked.prog.wantsStandIn t = false := by
  obtain rfl : f = 3 := Option.some.inj ((show Tryz.prog.funcNamed Rows.pointerFindsUptoRow.func = some 3 by kernel_rfl).symm.trans hf) |>.symm
  obtain rfl : fn = Tryz.f3 := (Option.some.inj (Tryz.func3.symm.trans hfn)).symm
  refine ⟨by kernel_rfl, fun j t ht => ?_⟩
  rw [Tryz.params3] at ht
  have := Array.mem_of_getElem? ht
  simp only [List.mem_toArray, List.mem_cons, List.mem_nil_iff, or_false] at this
  rcases this with rfl | rfl
  · exact (show Tryz.prog.wantsStandIn 22 = false by kernel_rfl)
  · exact (show Tryz.prog.wantsStandIn 9 = false by kernel_rfl)

end Go.Proofs.YtmcmoaeheadihaaGreatDoor.pointerFinds
