/-
  The law PointerLooks: its walk.
-/
import Derived.Test.YtmcmoaeheadihaaGreatDoorMD
import Derived.Test.YtmcmoaeheadihaaGreatDoorGF
import Derived.Test.YtmcmoaeheadihaaGreatDoorMC
import Derived.Stop.Asserts
import Derived.Deep.RegionHeldLaw
namespace Go.Proofs.YtmcmoaeheadihaaGreatDoor
open Go.RowKit Mem Utf Ref3 Idx Tok TokC
set_option linter.unusedVariables false
set_option linter.unusedSimpArgs false
namespace Nd
theorem held3 {b : Nat} {x : Value} {W1 W5 W W' : World} (h : W.cell? ⟨b, 0, none⟩ = some x ∧ Below W1.heap.size W1 W ∧ Below W5.heap.size W5 W) (hb : Below W.heap.size W W') : W'.cell? ⟨b, 0, none⟩ = some x ∧ Below W1.heap.size W1 W' ∧ Below W5.heap.size W5 W' :=
  ⟨((old hb).1 _ _ (World.block_lt_of_cell? _ _ h.1)).trans h.1, h.2.1.trans (hb.mono h.2.1.size), h.2.2.trans (hb.mono h.2.2.size)⟩
def TrueP (w : World) (e : Ending) (w' : World) : Prop := e = .returned (.bool true) ∧ Below w.heap.size w w'
end Nd
end Go.Proofs.YtmcmoaeheadihaaGreatDoor
