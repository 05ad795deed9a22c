/-
  Walks of the reference of layer 3: wide, second, At, Wrong, Right, Check.
-/
import Derived.Test.YthmigknnhfhfcaaDoorProg
import Derived.Test.YthmigknnhfhfcaaDoorWords
import Derived.WalkKit
import Derived.LoopTactic
import Derived.Deep.QuietTactic
import Derived.BigQuiet
import Derived.Lib.Hide
import Derived.Outline
namespace Go.Proofs.YthmigknnhfhfcaaDoor
open Go.RowKit Mem
set_option linter.unusedVariables false
namespace Ref3
def wide (c : Int) : Int :=
  if c < 128 then 1 else if 194 ≤ c ∧ c ≤ 223 then 2 else if 224 ≤ c ∧ c ≤ 239 then 3 else if 240 ≤ c ∧ c ≤ 244 then 4 else 0
theorem wide_bd (c : Int) : 0 ≤ wide c ∧ wide c ≤ 4 := by
  unfold wide
  repeat' split
  all_goals omega
def second (c d : Int) : Bool :=
  if d < 128 ∨ 191 < d then false else if c = 224 then decide (160 ≤ d) else if c = 237 then decide (d ≤ 159) else if c = 240 then decide (144 ≤ d) else if c = 244 then decide (d ≤ 143) else true
end Ref3
open Ref3

end Go.Proofs.YthmigknnhfhfcaaDoor
