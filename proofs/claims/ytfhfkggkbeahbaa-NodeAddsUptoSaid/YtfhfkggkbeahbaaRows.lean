/-
  No cell of these rows narrows 'for every input' (looked for: loops, veiled, ifaces, maps, wideKeys, modest, calm, conditions, laid).
  DERIVED. THE GIVEN ROWS OF THIS SEAT. 3 by the template 'for every input the law returns true; each argument reads behind the call as it read before'; 0 by the template 'total and deterministic' (their statements: YtfhfkggkbeahbaaTotals.lean).
  GIVEN WITH THE SEED: the statements are not yours to turn. If you find one false, say at which input.
  Laid BY PROGRAM, IN A SANDBOX (cutbox-rows.mjs): the forced cells as the released guide's own fill.sh prints them over the translation ae4e3f435a9e8d96… (all of the seat's roots in one cut). By AI agents, Wed Nov 11 2026. No macro, syntax, notation, axiom, sorry.
-/
import Derived.Test.YtfhfkggkbeahbaaChecked
import GoSem.Claim
import GoSem.ClaimJoined
import GoSem.ClaimMapViews
import Derived.JoinedTies
import Derived.KernelRfl
namespace Go.Proofs.Ytfhfkggkbeahbaa
/- THE CELL 'sum', in the pinned program and in every row, IS THE sha256 OF THE DUMP (.gsa) THAT YtfhfkggkbeahbaaProg.lean LOADS. Nothing in Lean hashes anything: it is a label: what it is worth is what the hold of that sum in a sandbox is worth. -/
noncomputable def Try.pinned : Pinned := { name := "ytfhfkggkbeahbaa", sum := "ae4e3f435a9e8d96b4c898440cb3c20452e048566daccb7ddb128d50cb7e8f45", checked := Try.checked }
namespace Rows
def none {H : Type} : Left H := { results := [], args := [] }

/-- 'affidavitlaw10.NodeFull': WHATEVER THE INPUT: true; the input reads as it did. -/
def nodeFullSpec : ChangeSpec := { name := "nodeFull", fn := fun _ => fun
  | [d1, d2] => { results := [.lit (.bool true)], args := [d1, d2] }
  | _ => none }
def nodeFullRow : OpenClaim := { program := "ytfhfkggkbeahbaa", sum := "ae4e3f435a9e8d96b4c898440cb3c20452e048566daccb7ddb128d50cb7e8f45", func := "affidavit/affidavitlaw10.NodeFull", spec := "nodeFull", inPlace := ["math.Float64frombits", "math.Float64bits"], unfollowed := true, recurses := true, apart := false }
def NodeFullSaid : Prop := nodeFullRow.holds Try.pinned (OpenSpec.ofChange nodeFullSpec)

/-- ITS FALSE NEIGHBOUR: 'it returns false'. Refute it at one input. -/
def nodeFullWrong : ChangeSpec := { name := "nodeFull", fn := fun _ => fun
  | [d1, d2] => { results := [.lit (.bool false)], args := [d1, d2] }
  | _ => none }
def NodeFullWrongFalsely : Prop := nodeFullRow.holds Try.pinned (OpenSpec.ofChange nodeFullWrong)

/-- 'affidavitlaw10.NodeAdds': WHATEVER THE INPUT: true; the input reads as it did. -/
def nodeAddsSpec : ChangeSpec := { name := "nodeAdds", fn := fun _ => fun
  | [d] => { results := [.lit (.bool true)], args := [d] }
  | _ => none }
def nodeAddsRow : OpenClaim := { program := "ytfhfkggkbeahbaa", sum := "ae4e3f435a9e8d96b4c898440cb3c20452e048566daccb7ddb128d50cb7e8f45", func := "affidavit/affidavitlaw10.NodeAdds", spec := "nodeAdds", inPlace := ["math.Float64frombits", "math.Float64bits"], unfollowed := true, recurses := true, apart := false }
def NodeAddsSaid : Prop := nodeAddsRow.holds Try.pinned (OpenSpec.ofChange nodeAddsSpec)

/-- ITS FALSE NEIGHBOUR: 'it returns false'. Refute it at one input. -/
def nodeAddsWrong : ChangeSpec := { name := "nodeAdds", fn := fun _ => fun
  | [d] => { results := [.lit (.bool false)], args := [d] }
  | _ => none }
def NodeAddsWrongFalsely : Prop := nodeAddsRow.holds Try.pinned (OpenSpec.ofChange nodeAddsWrong)

/-- 'affidavitlaw10.NodeHolds': WHATEVER THE INPUT: true; the input reads as it did. -/
def nodeHoldsSpec : ChangeSpec := { name := "nodeHolds", fn := fun _ => fun
  | [d] => { results := [.lit (.bool true)], args := [d] }
  | _ => none }
def nodeHoldsRow : OpenClaim := { program := "ytfhfkggkbeahbaa", sum := "ae4e3f435a9e8d96b4c898440cb3c20452e048566daccb7ddb128d50cb7e8f45", func := "affidavit/affidavitlaw10.NodeHolds", spec := "nodeHolds", inPlace := ["math.Float64frombits", "math.Float64bits"], unfollowed := true, recurses := true, apart := false }
def NodeHoldsSaid : Prop := nodeHoldsRow.holds Try.pinned (OpenSpec.ofChange nodeHoldsSpec)

/-- ITS FALSE NEIGHBOUR: 'it returns false'. Refute it at one input. -/
def nodeHoldsWrong : ChangeSpec := { name := "nodeHolds", fn := fun _ => fun
  | [d] => { results := [.lit (.bool false)], args := [d] }
  | _ => none }
def NodeHoldsWrongFalsely : Prop := nodeHoldsRow.holds Try.pinned (OpenSpec.ofChange nodeHoldsWrong)

/- THE SECOND FORM. 'bulk': how many values and letters a reading holds, each counted each time it is reached (what is shared counts as often as it is met; a slice's spare places count too). A statement '..UptoSaid' is the law's where the arguments, and the package variables that the reading takes, are together of bulk at most 1048576: NARROWER than '..Said'. Prove '..Said' where nothing that the law and all that it calls make is longer than what came in: it says more and counts as full. Else prove '..UptoSaid'. A law counts once. -/
mutual
def uptoBulk {H : Type} : DataW H → Nat
  | .lit (.string bytes) => bytes.length + 1
  | .lit _ => 1
  | .nil => 1
  | .ptr d => uptoBulk d + 1
  | .slice elems spare => uptoBulkAll elems + uptoBulkAll spare + 1
  | .agg parts => uptoBulkAll parts + 1
  | .iface _ d => uptoBulk d + 1
  | .map entries => uptoBulkEntries entries + 1
  | .held _ => 1
def uptoBulkAll {H : Type} : List (DataW H) → Nat
  | [] => 0
  | d :: r => uptoBulk d + uptoBulkAll r
def uptoBulkEntries {H : Type} : List (Lit × DataW H) → Nat
  | [] => 0
  | x :: r => uptoBulkEntry x + uptoBulkEntries r
def uptoBulkEntry {H : Type} : Lit × DataW H → Nat
  | (.string bytes, d) => bytes.length + uptoBulk d + 1
  | (_, d) => uptoBulk d + 1
 end
def uptoSmall : (H : Type) → List (DataW H) → Bool := fun _ ds => decide (uptoBulkAll ds ≤ 1048576)
def OpenSpec.upto (s : _root_.Go.ChangeSpec) : _root_.Go.OpenSpec := { _root_.Go.OpenSpec.ofChange s with cond := some uptoSmall }

/-- 'affidavitlaw10.NodeFull', WHERE WHAT IT READS IS OF BULK AT MOST 1048576: true; the input reads as it did. -/
def nodeFullUptoRow : OpenClaim := { program := "ytfhfkggkbeahbaa", sum := "ae4e3f435a9e8d96b4c898440cb3c20452e048566daccb7ddb128d50cb7e8f45", func := "affidavit/affidavitlaw10.NodeFull", spec := "nodeFull", inPlace := ["math.Float64frombits", "math.Float64bits"], unfollowed := true, recurses := true, apart := false, narrowed := true }
def NodeFullUptoSaid : Prop := nodeFullUptoRow.holds Try.pinned (OpenSpec.upto nodeFullSpec)

/-- 'affidavitlaw10.NodeAdds', WHERE WHAT IT READS IS OF BULK AT MOST 1048576: true; the input reads as it did. -/
def nodeAddsUptoRow : OpenClaim := { program := "ytfhfkggkbeahbaa", sum := "ae4e3f435a9e8d96b4c898440cb3c20452e048566daccb7ddb128d50cb7e8f45", func := "affidavit/affidavitlaw10.NodeAdds", spec := "nodeAdds", inPlace := ["math.Float64frombits", "math.Float64bits"], unfollowed := true, recurses := true, apart := false, narrowed := true }
def NodeAddsUptoSaid : Prop := nodeAddsUptoRow.holds Try.pinned (OpenSpec.upto nodeAddsSpec)

/-- 'affidavitlaw10.NodeHolds', WHERE WHAT IT READS IS OF BULK AT MOST 1048576: true; the input reads as it did. -/
def nodeHoldsUptoRow : OpenClaim := { program := "ytfhfkggkbeahbaa", sum := "ae4e3f435a9e8d96b4c898440cb3c20452e048566daccb7ddb128d50cb7e8f45", func := "affidavit/affidavitlaw10.NodeHolds", spec := "nodeHolds", inPlace := ["math.Float64frombits", "math.Float64bits"], unfollowed := true, recurses := true, apart := false, narrowed := true }
def NodeHoldsUptoSaid : Prop := nodeHoldsUptoRow.holds Try.pinned (OpenSpec.upto nodeHoldsSpec)

end Rows
end Go.Proofs.Ytfhfkggkbeahbaa
