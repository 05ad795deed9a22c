/-
  Walks of the reference of layer 3: wide, second, At, Wrong, Right, Check.
-/
import Derived.Test.YtfhchnkoggdilaaGreatDoorProg
import Derived.Test.YtfhchnkoggdilaaGreatDoorDn
import Derived.WalkKit
import Derived.LoopTactic
import Derived.Deep.QuietTactic
import Derived.BigQuiet
import Derived.Lib.Hide
import Derived.Outline
namespace Go.Proofs.YtfhchnkoggdilaaGreatDoor
open Go.RowKit Mem
set_option linter.unusedVariables false
namespace Ref3
def wide (c : Int) : Int :=
  if c < 128 then 1 else if 194 ≤ c ∧ c ≤ 223 then 2 else if 224 ≤ c ∧ c ≤ 239 then 3 else if 240 ≤ c ∧ c ≤ 244 then 4 else 0
theorem wide_bd (c : Int) : 0 ≤ wide c ∧ wide c ≤ 4 := by
  unfold wide
  repeat' split
  all_goals omega
def second (c d : Int) : Bool :=
  if d < 128 ∨ 191 < d then false else if c = 224 then decide (160 ≤ d) else if c = 237 then decide (d ≤ 159) else if c = 240 then decide (144 ≤ d) else if c = 244 then decide (d ≤ 143) else true
end Ref3
open Ref3

set_option maxHeartbeats 1000000 in
theorem wide_any (c : Int) (h0 : 0 ≤ c) (h1 : c ≤ 255) (w : World) :
    Calls Tryz.prog 102 #[.int .u8 c] w fun e w' => e = .returned (.int .i64 (wide c)) ∧ w = w' := by
  go_enter Tryz.func102, Tryz.ntmps102
  go_wp2
  all_goals
    go_ret
    refine ⟨congrArg (fun n => Ending.returned (.int .i64 n)) ?_, rfl⟩
    unfold wide
    repeat' split
    all_goals first | rfl | omega

set_option maxHeartbeats 1000000 in
theorem second_any (c d : Int) (w : World) :
    Calls Tryz.prog 103 #[.int .u8 c, .int .u8 d] w fun e w' => e = .returned (.bool (second c d)) ∧ w = w' := by
  go_enter Tryz.func103, Tryz.ntmps103
  go_wp2
  all_goals
    go_ret
    refine ⟨congrArg (fun n => Ending.returned (.bool n)) ?_, rfl⟩
    try simp only [beq_iff_eq, beq_eq_false_iff_ne, ne_eq] at *
    unfold second
    repeat' split
    all_goals first | rfl | (exfalso; omega) | (simp; omega)
end Go.Proofs.YtfhchnkoggdilaaGreatDoor
