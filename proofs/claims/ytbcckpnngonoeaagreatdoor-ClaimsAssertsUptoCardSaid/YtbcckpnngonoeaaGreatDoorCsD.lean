/-
  Walk of the statements' own function interfaces of layer 25 (printed by wip/gen_csd.py).
-/
import Derived.Test.YtbcckpnngonoeaaGreatDoorCsC
import Derived.Deep.RegionHeldLaw
import Derived.BigRegion
import Derived.Stop.Asserts
namespace Go.Proofs.YtbcckpnngonoeaaGreatDoor
open Go.RowKit Mem Utf Ref3 Idx Tok TokC Cl
set_option linter.unusedVariables false
set_option linter.unusedSimpArgs false
namespace Nd
theorem heldI {g : Nat} {x : Value} {W w w' : World} (h : w.cell? ⟨g, 0, none⟩ = some x ∧ Below W.heap.size W w) (hb : Below w.heap.size w w') : w'.cell? ⟨g, 0, none⟩ = some x ∧ Below W.heap.size W w' :=
  ⟨((old hb).1 _ _ (World.block_lt_of_cell? _ _ h.1)).trans h.1, h.2.trans (hb.mono h.2.size)⟩
def TruP (w : World) (e : Ending) (w' : World) : Prop := e = .returned (.bool true) ∧ Below w.heap.size w w'
theorem tw_Holds_Timed (v : Value) (w : World) : (Instr.typeAssert (.iface 110 v) 34 115 true).run Tryz.prog w = .ok (.tuple #[.iface 110 v, .bool true]) w := by kernel_rfl
theorem tw_Holds_Final (v : Value) (w : World) : (Instr.typeAssert (.iface 110 v) 34 118 true).run Tryz.prog w = .ok (.tuple #[.nilIface, .bool false]) w := Go.run_typeAssert_lacksB Tryz.underlying118 (by kernel_rfl) (by kernel_rfl) v _ w
theorem tw_Holds_Ended (v : Value) (w : World) : (Instr.typeAssert (.iface 110 v) 34 121 true).run Tryz.prog w = .ok (.tuple #[.nilIface, .bool false]) w := Go.run_typeAssert_lacksB Tryz.underlying121 (by kernel_rfl) (by kernel_rfl) v _ w
theorem tw_Holds_Holds (v : Value) (w : World) : (Instr.typeAssert (.iface 110 v) 34 110 true).run Tryz.prog w = .ok (.tuple #[v, .bool true]) w := by kernel_rfl
theorem nn_Holds (v : Value) (w : World) : (binOp .eql 34 (.iface 110 v) .nilIface).run Tryz.prog w = .ok (.bool false) w := by kernel_rfl
theorem mt_Holds_Good (k : Nat) (v : Value) (w : World) : (method (k + 1) 110 v "Good").run Tryz.prog w = .ok (218, v) w := by kernel_rfl
theorem mc_Holds_Good (args : Array Value) (w : World) : (callFunc 218 args).run Tryz.prog w = .ok (.enter 218 args) w := by kernel_rfl
set_option maxRecDepth 100000 in
set_option maxHeartbeats 16000000 in
theorem mg_Holds (s : Int) (w : World) : Calls Tryz.prog 218 #[.agg #[.int .i64 s]] w fun e w' => e = .returned (.bool true) ∧ Below w.heap.size w w' := by
  go_enter Tryz.func218, Tryz.ntmps218
  go_wp2
  go_ret
  first | exact ⟨rfl, Below.refl _ _⟩ | exact ⟨rfl, (Below.refl _ _).alloc (Nat.le_refl _) _⟩
theorem mt_Holds_When (k : Nat) (v : Value) (w : World) : (method (k + 1) 110 v "When").run Tryz.prog w = .ok (219, v) w := by kernel_rfl
theorem mc_Holds_When (args : Array Value) (w : World) : (callFunc 219 args).run Tryz.prog w = .ok (.enter 219 args) w := by kernel_rfl
set_option maxRecDepth 100000 in
set_option maxHeartbeats 16000000 in
theorem mw_Holds (n : Int) (w : World) : Calls Tryz.prog 219 #[.agg #[.int .i64 n]] w fun e w' => e = .returned (.int .i64 n) ∧ Below w.heap.size w w' := by
  go_enter Tryz.func219, Tryz.ntmps219
  go_wp2
  go_ret
  first | exact ⟨rfl, Below.refl _ _⟩ | exact ⟨rfl, (Below.refl _ _).alloc (Nat.le_refl _) _⟩
theorem tw_Early_Timed (v : Value) (w : World) : (Instr.typeAssert (.iface 125 v) 34 115 true).run Tryz.prog w = .ok (.tuple #[.iface 125 v, .bool true]) w := by kernel_rfl
theorem tw_Early_Final (v : Value) (w : World) : (Instr.typeAssert (.iface 125 v) 34 118 true).run Tryz.prog w = .ok (.tuple #[.nilIface, .bool false]) w := Go.run_typeAssert_lacksB Tryz.underlying118 (by kernel_rfl) (by kernel_rfl) v _ w
theorem tw_Early_Ended (v : Value) (w : World) : (Instr.typeAssert (.iface 125 v) 34 121 true).run Tryz.prog w = .ok (.tuple #[.nilIface, .bool false]) w := Go.run_typeAssert_lacksB Tryz.underlying121 (by kernel_rfl) (by kernel_rfl) v _ w
theorem tw_Early_Holds (v : Value) (w : World) : (Instr.typeAssert (.iface 125 v) 34 110 true).run Tryz.prog w = .ok (.tuple #[.agg #[.int .i64 0], .bool false]) w := by kernel_rfl
theorem tw_Early_Early (v : Value) (w : World) : (Instr.typeAssert (.iface 125 v) 34 125 true).run Tryz.prog w = .ok (.tuple #[v, .bool true]) w := by kernel_rfl
theorem nn_Early (v : Value) (w : World) : (binOp .eql 34 (.iface 125 v) .nilIface).run Tryz.prog w = .ok (.bool false) w := by kernel_rfl
theorem mt_Early_Good (k : Nat) (v : Value) (w : World) : (method (k + 1) 125 v "Good").run Tryz.prog w = .ok (223, v) w := by kernel_rfl
theorem mc_Early_Good (args : Array Value) (w : World) : (callFunc 223 args).run Tryz.prog w = .ok (.enter 223 args) w := by kernel_rfl
set_option maxRecDepth 100000 in
set_option maxHeartbeats 16000000 in
theorem mg_Early (s : Int) (w : World) : Calls Tryz.prog 223 #[.agg #[.int .i64 s]] w fun e w' => e = .returned (.bool false) ∧ Below w.heap.size w w' := by
  go_enter Tryz.func223, Tryz.ntmps223
  go_wp2
  go_ret
  first | exact ⟨rfl, Below.refl _ _⟩ | exact ⟨rfl, (Below.refl _ _).alloc (Nat.le_refl _) _⟩
theorem mt_Early_When (k : Nat) (v : Value) (w : World) : (method (k + 1) 125 v "When").run Tryz.prog w = .ok (224, v) w := by kernel_rfl
theorem mc_Early_When (args : Array Value) (w : World) : (callFunc 224 args).run Tryz.prog w = .ok (.enter 224 args) w := by kernel_rfl
set_option maxRecDepth 100000 in
set_option maxHeartbeats 16000000 in
theorem mw_Early (n : Int) (w : World) : Calls Tryz.prog 224 #[.agg #[.int .i64 n]] w fun e w' => e = .returned (.int .i64 n) ∧ Below w.heap.size w w' := by
  go_enter Tryz.func224, Tryz.ntmps224
  go_wp2
  go_ret
  first | exact ⟨rfl, Below.refl _ _⟩ | exact ⟨rfl, (Below.refl _ _).alloc (Nat.le_refl _) _⟩
theorem tw_Over_Timed (v : Value) (w : World) : (Instr.typeAssert (.iface 112 v) 34 115 true).run Tryz.prog w = .ok (.tuple #[.iface 112 v, .bool true]) w := by kernel_rfl
theorem tw_Over_Final (v : Value) (w : World) : (Instr.typeAssert (.iface 112 v) 34 118 true).run Tryz.prog w = .ok (.tuple #[.iface 112 v, .bool true]) w := by kernel_rfl
theorem tw_Over_Ended (v : Value) (w : World) : (Instr.typeAssert (.iface 112 v) 34 121 true).run Tryz.prog w = .ok (.tuple #[.iface 112 v, .bool true]) w := by kernel_rfl
theorem tw_Over_Holds (v : Value) (w : World) : (Instr.typeAssert (.iface 112 v) 34 110 true).run Tryz.prog w = .ok (.tuple #[.agg #[.int .i64 0], .bool false]) w := by kernel_rfl
theorem tw_Over_Early (v : Value) (w : World) : (Instr.typeAssert (.iface 112 v) 34 125 true).run Tryz.prog w = .ok (.tuple #[.agg #[.int .i64 0], .bool false]) w := by kernel_rfl
theorem tw_Over_Over (v : Value) (w : World) : (Instr.typeAssert (.iface 112 v) 34 112 true).run Tryz.prog w = .ok (.tuple #[v, .bool true]) w := by kernel_rfl
theorem nn_Over (v : Value) (w : World) : (binOp .eql 34 (.iface 112 v) .nilIface).run Tryz.prog w = .ok (.bool false) w := by kernel_rfl
theorem mt_Over_Good (k : Nat) (v : Value) (w : World) : (method (k + 1) 112 v "Good").run Tryz.prog w = .ok (221, v) w := by kernel_rfl
theorem mc_Over_Good (args : Array Value) (w : World) : (callFunc 221 args).run Tryz.prog w = .ok (.enter 221 args) w := by kernel_rfl
set_option maxRecDepth 100000 in
set_option maxHeartbeats 16000000 in
theorem mg_Over (s : Int) (w : World) : Calls Tryz.prog 221 #[.agg #[.int .i64 s]] w fun e w' => e = .returned (.bool false) ∧ Below w.heap.size w w' := by
  go_enter Tryz.func221, Tryz.ntmps221
  go_wp2
  go_ret
  first | exact ⟨rfl, Below.refl _ _⟩ | exact ⟨rfl, (Below.refl _ _).alloc (Nat.le_refl _) _⟩
theorem mt_Over_When (k : Nat) (v : Value) (w : World) : (method (k + 1) 112 v "When").run Tryz.prog w = .ok (222, v) w := by kernel_rfl
theorem mc_Over_When (args : Array Value) (w : World) : (callFunc 222 args).run Tryz.prog w = .ok (.enter 222 args) w := by kernel_rfl
set_option maxRecDepth 100000 in
set_option maxHeartbeats 16000000 in
theorem mw_Over (n : Int) (w : World) : Calls Tryz.prog 222 #[.agg #[.int .i64 n]] w fun e w' => e = .returned (.int .i64 n) ∧ Below w.heap.size w w' := by
  go_enter Tryz.func222, Tryz.ntmps222
  go_wp2
  go_ret
  first | exact ⟨rfl, Below.refl _ _⟩ | exact ⟨rfl, (Below.refl _ _).alloc (Nat.le_refl _) _⟩
theorem tw_Lacks_Timed (v : Value) (w : World) : (Instr.typeAssert (.iface 127 v) 34 115 true).run Tryz.prog w = .ok (.tuple #[.nilIface, .bool false]) w := Go.run_typeAssert_lacksB Tryz.underlying115 (by kernel_rfl) (by kernel_rfl) v _ w
theorem tw_Lacks_Final (v : Value) (w : World) : (Instr.typeAssert (.iface 127 v) 34 118 true).run Tryz.prog w = .ok (.tuple #[.iface 127 v, .bool true]) w := by kernel_rfl
theorem tw_Lacks_Ended (v : Value) (w : World) : (Instr.typeAssert (.iface 127 v) 34 121 true).run Tryz.prog w = .ok (.tuple #[.nilIface, .bool false]) w := Go.run_typeAssert_lacksB Tryz.underlying121 (by kernel_rfl) (by kernel_rfl) v _ w
theorem tw_Lacks_Holds (v : Value) (w : World) : (Instr.typeAssert (.iface 127 v) 34 110 true).run Tryz.prog w = .ok (.tuple #[.agg #[.int .i64 0], .bool false]) w := by kernel_rfl
theorem tw_Lacks_Early (v : Value) (w : World) : (Instr.typeAssert (.iface 127 v) 34 125 true).run Tryz.prog w = .ok (.tuple #[.agg #[.int .i64 0], .bool false]) w := by kernel_rfl
theorem tw_Lacks_Over (v : Value) (w : World) : (Instr.typeAssert (.iface 127 v) 34 112 true).run Tryz.prog w = .ok (.tuple #[.agg #[.int .i64 0], .bool false]) w := by kernel_rfl
theorem tw_Lacks_Lacks (v : Value) (w : World) : (Instr.typeAssert (.iface 127 v) 34 127 true).run Tryz.prog w = .ok (.tuple #[v, .bool true]) w := by kernel_rfl
theorem tw_Lacks_Alien (v : Value) (w : World) : (Instr.typeAssert (.iface 127 v) 34 129 true).run Tryz.prog w = .ok (.tuple #[.agg #[.string ⟨#[]⟩], .bool false]) w := by kernel_rfl
theorem tw_Lacks_Other (v : Value) (w : World) : (Instr.typeAssert (.iface 127 v) 34 131 true).run Tryz.prog w = .ok (.tuple #[.agg #[.slice none 0 0], .bool false]) w := by kernel_rfl
theorem tw_Lacks_Barred (v : Value) (w : World) : (Instr.typeAssert (.iface 127 v) 34 133 true).run Tryz.prog w = .ok (.tuple #[.agg #[.slice none 0 0], .bool false]) w := by kernel_rfl
theorem nn_Lacks (v : Value) (w : World) : (binOp .eql 34 (.iface 127 v) .nilIface).run Tryz.prog w = .ok (.bool false) w := by kernel_rfl
theorem mt_Lacks_Good (k : Nat) (v : Value) (w : World) : (method (k + 1) 127 v "Good").run Tryz.prog w = .ok (226, v) w := by kernel_rfl
theorem mc_Lacks_Good (args : Array Value) (w : World) : (callFunc 226 args).run Tryz.prog w = .ok (.enter 226 args) w := by kernel_rfl
set_option maxRecDepth 100000 in
set_option maxHeartbeats 16000000 in
theorem mg_Lacks (s : ByteArray) (w : World) : Calls Tryz.prog 226 #[.agg #[.string s]] w fun e w' => e = .returned (.bool false) ∧ Below w.heap.size w w' := by
  go_enter Tryz.func226, Tryz.ntmps226
  go_wp2
  go_ret
  first | exact ⟨rfl, Below.refl _ _⟩ | exact ⟨rfl, (Below.refl _ _).alloc (Nat.le_refl _) _⟩
theorem tw_Alien_Timed (v : Value) (w : World) : (Instr.typeAssert (.iface 129 v) 34 115 true).run Tryz.prog w = .ok (.tuple #[.nilIface, .bool false]) w := Go.run_typeAssert_lacksB Tryz.underlying115 (by kernel_rfl) (by kernel_rfl) v _ w
theorem tw_Alien_Final (v : Value) (w : World) : (Instr.typeAssert (.iface 129 v) 34 118 true).run Tryz.prog w = .ok (.tuple #[.iface 129 v, .bool true]) w := by kernel_rfl
theorem tw_Alien_Ended (v : Value) (w : World) : (Instr.typeAssert (.iface 129 v) 34 121 true).run Tryz.prog w = .ok (.tuple #[.nilIface, .bool false]) w := Go.run_typeAssert_lacksB Tryz.underlying121 (by kernel_rfl) (by kernel_rfl) v _ w
theorem tw_Alien_Holds (v : Value) (w : World) : (Instr.typeAssert (.iface 129 v) 34 110 true).run Tryz.prog w = .ok (.tuple #[.agg #[.int .i64 0], .bool false]) w := by kernel_rfl
theorem tw_Alien_Early (v : Value) (w : World) : (Instr.typeAssert (.iface 129 v) 34 125 true).run Tryz.prog w = .ok (.tuple #[.agg #[.int .i64 0], .bool false]) w := by kernel_rfl
theorem tw_Alien_Over (v : Value) (w : World) : (Instr.typeAssert (.iface 129 v) 34 112 true).run Tryz.prog w = .ok (.tuple #[.agg #[.int .i64 0], .bool false]) w := by kernel_rfl
theorem tw_Alien_Lacks (v : Value) (w : World) : (Instr.typeAssert (.iface 129 v) 34 127 true).run Tryz.prog w = .ok (.tuple #[.agg #[.string ⟨#[]⟩], .bool false]) w := by kernel_rfl
theorem tw_Alien_Alien (v : Value) (w : World) : (Instr.typeAssert (.iface 129 v) 34 129 true).run Tryz.prog w = .ok (.tuple #[v, .bool true]) w := by kernel_rfl
theorem tw_Alien_Other (v : Value) (w : World) : (Instr.typeAssert (.iface 129 v) 34 131 true).run Tryz.prog w = .ok (.tuple #[.agg #[.slice none 0 0], .bool false]) w := by kernel_rfl
theorem tw_Alien_Barred (v : Value) (w : World) : (Instr.typeAssert (.iface 129 v) 34 133 true).run Tryz.prog w = .ok (.tuple #[.agg #[.slice none 0 0], .bool false]) w := by kernel_rfl
theorem nn_Alien (v : Value) (w : World) : (binOp .eql 34 (.iface 129 v) .nilIface).run Tryz.prog w = .ok (.bool false) w := by kernel_rfl
theorem mt_Alien_Good (k : Nat) (v : Value) (w : World) : (method (k + 1) 129 v "Good").run Tryz.prog w = .ok (228, v) w := by kernel_rfl
theorem mc_Alien_Good (args : Array Value) (w : World) : (callFunc 228 args).run Tryz.prog w = .ok (.enter 228 args) w := by kernel_rfl
set_option maxRecDepth 100000 in
set_option maxHeartbeats 16000000 in
theorem mg_Alien (s : ByteArray) (w : World) : Calls Tryz.prog 228 #[.agg #[.string s]] w fun e w' => e = .returned (.bool false) ∧ Below w.heap.size w w' := by
  go_enter Tryz.func228, Tryz.ntmps228
  go_wp2
  go_ret
  first | exact ⟨rfl, Below.refl _ _⟩ | exact ⟨rfl, (Below.refl _ _).alloc (Nat.le_refl _) _⟩
theorem tw_Other_Timed (v : Value) (w : World) : (Instr.typeAssert (.iface 131 v) 34 115 true).run Tryz.prog w = .ok (.tuple #[.nilIface, .bool false]) w := Go.run_typeAssert_lacksB Tryz.underlying115 (by kernel_rfl) (by kernel_rfl) v _ w
theorem tw_Other_Final (v : Value) (w : World) : (Instr.typeAssert (.iface 131 v) 34 118 true).run Tryz.prog w = .ok (.tuple #[.iface 131 v, .bool true]) w := by kernel_rfl
theorem tw_Other_Ended (v : Value) (w : World) : (Instr.typeAssert (.iface 131 v) 34 121 true).run Tryz.prog w = .ok (.tuple #[.nilIface, .bool false]) w := Go.run_typeAssert_lacksB Tryz.underlying121 (by kernel_rfl) (by kernel_rfl) v _ w
theorem tw_Other_Holds (v : Value) (w : World) : (Instr.typeAssert (.iface 131 v) 34 110 true).run Tryz.prog w = .ok (.tuple #[.agg #[.int .i64 0], .bool false]) w := by kernel_rfl
theorem tw_Other_Early (v : Value) (w : World) : (Instr.typeAssert (.iface 131 v) 34 125 true).run Tryz.prog w = .ok (.tuple #[.agg #[.int .i64 0], .bool false]) w := by kernel_rfl
theorem tw_Other_Over (v : Value) (w : World) : (Instr.typeAssert (.iface 131 v) 34 112 true).run Tryz.prog w = .ok (.tuple #[.agg #[.int .i64 0], .bool false]) w := by kernel_rfl
theorem tw_Other_Lacks (v : Value) (w : World) : (Instr.typeAssert (.iface 131 v) 34 127 true).run Tryz.prog w = .ok (.tuple #[.agg #[.string ⟨#[]⟩], .bool false]) w := by kernel_rfl
theorem tw_Other_Alien (v : Value) (w : World) : (Instr.typeAssert (.iface 131 v) 34 129 true).run Tryz.prog w = .ok (.tuple #[.agg #[.string ⟨#[]⟩], .bool false]) w := by kernel_rfl
theorem tw_Other_Other (v : Value) (w : World) : (Instr.typeAssert (.iface 131 v) 34 131 true).run Tryz.prog w = .ok (.tuple #[v, .bool true]) w := by kernel_rfl
theorem tw_Other_Barred (v : Value) (w : World) : (Instr.typeAssert (.iface 131 v) 34 133 true).run Tryz.prog w = .ok (.tuple #[.agg #[.slice none 0 0], .bool false]) w := by kernel_rfl
theorem nn_Other (v : Value) (w : World) : (binOp .eql 34 (.iface 131 v) .nilIface).run Tryz.prog w = .ok (.bool false) w := by kernel_rfl
theorem mt_Other_Good (k : Nat) (v : Value) (w : World) : (method (k + 1) 131 v "Good").run Tryz.prog w = .ok (230, v) w := by kernel_rfl
theorem mc_Other_Good (args : Array Value) (w : World) : (callFunc 230 args).run Tryz.prog w = .ok (.enter 230 args) w := by kernel_rfl
set_option maxRecDepth 100000 in
set_option maxHeartbeats 16000000 in
theorem mg_Other (s : Value) (w : World) : Calls Tryz.prog 230 #[.agg #[s]] w fun e w' => e = .returned (.bool false) ∧ Below w.heap.size w w' := by
  go_enter Tryz.func230, Tryz.ntmps230
  go_wp2
  go_ret
  first | exact ⟨rfl, Below.refl _ _⟩ | exact ⟨rfl, (Below.refl _ _).alloc (Nat.le_refl _) _⟩
theorem tw_Barred_Timed (v : Value) (w : World) : (Instr.typeAssert (.iface 133 v) 34 115 true).run Tryz.prog w = .ok (.tuple #[.nilIface, .bool false]) w := Go.run_typeAssert_lacksB Tryz.underlying115 (by kernel_rfl) (by kernel_rfl) v _ w
theorem tw_Barred_Final (v : Value) (w : World) : (Instr.typeAssert (.iface 133 v) 34 118 true).run Tryz.prog w = .ok (.tuple #[.iface 133 v, .bool true]) w := by kernel_rfl
theorem tw_Barred_Ended (v : Value) (w : World) : (Instr.typeAssert (.iface 133 v) 34 121 true).run Tryz.prog w = .ok (.tuple #[.nilIface, .bool false]) w := Go.run_typeAssert_lacksB Tryz.underlying121 (by kernel_rfl) (by kernel_rfl) v _ w
theorem tw_Barred_Holds (v : Value) (w : World) : (Instr.typeAssert (.iface 133 v) 34 110 true).run Tryz.prog w = .ok (.tuple #[.agg #[.int .i64 0], .bool false]) w := by kernel_rfl
theorem tw_Barred_Early (v : Value) (w : World) : (Instr.typeAssert (.iface 133 v) 34 125 true).run Tryz.prog w = .ok (.tuple #[.agg #[.int .i64 0], .bool false]) w := by kernel_rfl
theorem tw_Barred_Over (v : Value) (w : World) : (Instr.typeAssert (.iface 133 v) 34 112 true).run Tryz.prog w = .ok (.tuple #[.agg #[.int .i64 0], .bool false]) w := by kernel_rfl
theorem tw_Barred_Lacks (v : Value) (w : World) : (Instr.typeAssert (.iface 133 v) 34 127 true).run Tryz.prog w = .ok (.tuple #[.agg #[.string ⟨#[]⟩], .bool false]) w := by kernel_rfl
theorem tw_Barred_Alien (v : Value) (w : World) : (Instr.typeAssert (.iface 133 v) 34 129 true).run Tryz.prog w = .ok (.tuple #[.agg #[.string ⟨#[]⟩], .bool false]) w := by kernel_rfl
theorem tw_Barred_Other (v : Value) (w : World) : (Instr.typeAssert (.iface 133 v) 34 131 true).run Tryz.prog w = .ok (.tuple #[.agg #[.slice none 0 0], .bool false]) w := by kernel_rfl
theorem tw_Barred_Barred (v : Value) (w : World) : (Instr.typeAssert (.iface 133 v) 34 133 true).run Tryz.prog w = .ok (.tuple #[v, .bool true]) w := by kernel_rfl
theorem nn_Barred (v : Value) (w : World) : (binOp .eql 34 (.iface 133 v) .nilIface).run Tryz.prog w = .ok (.bool false) w := by kernel_rfl
theorem mt_Barred_Good (k : Nat) (v : Value) (w : World) : (method (k + 1) 133 v "Good").run Tryz.prog w = .ok (232, v) w := by kernel_rfl
theorem mc_Barred_Good (args : Array Value) (w : World) : (callFunc 232 args).run Tryz.prog w = .ok (.enter 232 args) w := by kernel_rfl
set_option maxRecDepth 100000 in
set_option maxHeartbeats 16000000 in
theorem mg_Barred (s : Value) (w : World) : Calls Tryz.prog 232 #[.agg #[s]] w fun e w' => e = .returned (.bool false) ∧ Below w.heap.size w w' := by
  go_enter Tryz.func232, Tryz.ntmps232
  go_wp2
  go_ret
  first | exact ⟨rfl, Below.refl _ _⟩ | exact ⟨rfl, (Below.refl _ _).alloc (Nat.le_refl _) _⟩
theorem tw_Broken_Timed (v : Value) (w : World) : (Instr.typeAssert (.iface 42 v) 34 115 true).run Tryz.prog w = .ok (.tuple #[.nilIface, .bool false]) w := Go.run_typeAssert_lacksB Tryz.underlying115 (by kernel_rfl) (by kernel_rfl) v _ w
theorem tw_Broken_Final (v : Value) (w : World) : (Instr.typeAssert (.iface 42 v) 34 118 true).run Tryz.prog w = .ok (.tuple #[.iface 42 v, .bool true]) w := by kernel_rfl
theorem tw_Broken_Ended (v : Value) (w : World) : (Instr.typeAssert (.iface 42 v) 34 121 true).run Tryz.prog w = .ok (.tuple #[.nilIface, .bool false]) w := Go.run_typeAssert_lacksB Tryz.underlying121 (by kernel_rfl) (by kernel_rfl) v _ w
theorem tw_Broken_Holds (v : Value) (w : World) : (Instr.typeAssert (.iface 42 v) 34 110 true).run Tryz.prog w = .ok (.tuple #[.agg #[.int .i64 0], .bool false]) w := by kernel_rfl
theorem tw_Broken_Early (v : Value) (w : World) : (Instr.typeAssert (.iface 42 v) 34 125 true).run Tryz.prog w = .ok (.tuple #[.agg #[.int .i64 0], .bool false]) w := by kernel_rfl
theorem tw_Broken_Over (v : Value) (w : World) : (Instr.typeAssert (.iface 42 v) 34 112 true).run Tryz.prog w = .ok (.tuple #[.agg #[.int .i64 0], .bool false]) w := by kernel_rfl
theorem tw_Broken_Lacks (v : Value) (w : World) : (Instr.typeAssert (.iface 42 v) 34 127 true).run Tryz.prog w = .ok (.tuple #[.agg #[.string ⟨#[]⟩], .bool false]) w := by kernel_rfl
theorem tw_Broken_Alien (v : Value) (w : World) : (Instr.typeAssert (.iface 42 v) 34 129 true).run Tryz.prog w = .ok (.tuple #[.agg #[.string ⟨#[]⟩], .bool false]) w := by kernel_rfl
theorem tw_Broken_Other (v : Value) (w : World) : (Instr.typeAssert (.iface 42 v) 34 131 true).run Tryz.prog w = .ok (.tuple #[.agg #[.slice none 0 0], .bool false]) w := by kernel_rfl
theorem tw_Broken_Barred (v : Value) (w : World) : (Instr.typeAssert (.iface 42 v) 34 133 true).run Tryz.prog w = .ok (.tuple #[.agg #[.slice none 0 0], .bool false]) w := by kernel_rfl
theorem tw_Broken_Broken (v : Value) (w : World) : (Instr.typeAssert (.iface 42 v) 34 42 true).run Tryz.prog w = .ok (.tuple #[v, .bool true]) w := by kernel_rfl
theorem nn_Broken (v : Value) (w : World) : (binOp .eql 34 (.iface 42 v) .nilIface).run Tryz.prog w = .ok (.bool false) w := by kernel_rfl
theorem mt_Broken_Good (k : Nat) (v : Value) (w : World) : (method (k + 1) 42 v "Good").run Tryz.prog w = .ok (212, v) w := by kernel_rfl
theorem mc_Broken_Good (args : Array Value) (w : World) : (callFunc 212 args).run Tryz.prog w = .ok (.enter 212 args) w := by kernel_rfl
set_option maxRecDepth 100000 in
set_option maxHeartbeats 16000000 in
theorem mg_Broken (s : Value) (w : World) : Calls Tryz.prog 212 #[s] w fun e w' => e = .returned (.bool false) ∧ Below w.heap.size w w' := by
  go_enter Tryz.func212, Tryz.ntmps212
  go_wp2
  go_ret
  first | exact ⟨rfl, Below.refl _ _⟩ | exact ⟨rfl, (Below.refl _ _).alloc (Nat.le_refl _) _⟩
set_option maxRecDepth 100000 in
set_option maxHeartbeats 16000000 in
theorem interf_Holds (n : Int) (w : World) : Calls Tryz.prog 11 #[.iface 110 (.agg #[.int .i64 n])] w (TruP w) := by
  have a0 := tw_Holds_Timed
  have a1 := tw_Holds_Final
  have a2 := tw_Holds_Ended
  have b0 := tw_Holds_Holds
  have n0 := nn_Holds
  have m0 := mt_Holds_Good 471
  have m1 := mc_Holds_Good
  have m2 := mt_Holds_When 471
  have m3 := mc_Holds_When
  go_enter Tryz.func11, Tryz.ntmps11
  go_upto_region 9 with fail
  refine wp_region_held_drew (S := fun W => W.cell? ⟨w.heap.size, 0, none⟩ = some (.int .i64 n) ∧ Below w.heap.size w W) (by kernel_rfl) ⟨by simp, ((Below.refl _ _).alloc (Nat.le_refl _) _).drew⟩ (fun hHeld => ?_)
  refine held_take (i := 0) (v := ?_) (some 35) rfl rfl (by kernel_rfl) (by kernel_rfl) (by kernel_rfl) (fun _ _ _ h => h) (Or.inl ⟨by rfl, ?_⟩) hHeld ?_
  rotate_left
  · intro w hSw
    try dsimp only at hSw
    go_simp
    try with_reducible rfl
  simp only [Act.put, List.setIfInBounds_toArray, List.set_cons_zero, List.set_cons_succ]
  refine wpAnyH_ready (rs := [1]) (by kernel_rfl) (by simp) ?_
  refine AllReadyH.cons rfl (fun K hK => ?_) AllReadyH.nil
  go_simp
  ((with_reducible refine (mg_Holds n _).mono ?_); rintro e w2 ⟨rfl, hb2⟩; dsimp only)
  replace hHeld := heldI hHeld hb2
  refine hK.out _ _ hHeld (fun _ => ?_)
  clear hK K
  refine held_take (i := 2) (v := ?_) (some 37) rfl rfl (by kernel_rfl) (by kernel_rfl) (by kernel_rfl) (fun _ _ _ h => h) (Or.inl ⟨by rfl, ?_⟩) hHeld ?_
  rotate_left
  · intro w hSw
    try dsimp only at hSw
    go_simp
    try with_reducible rfl
  simp only [Act.put, List.setIfInBounds_toArray, List.set_cons_zero, List.set_cons_succ]
  refine held_take (i := 3) (v := ?_) (some 38) rfl rfl (by kernel_rfl) (by kernel_rfl) (by kernel_rfl) (fun _ _ _ h => h) (Or.inl ⟨by rfl, ?_⟩) hHeld ?_
  rotate_left
  · intro w hSw
    try dsimp only at hSw
    go_simp
    try with_reducible rfl
  simp only [Act.put, List.setIfInBounds_toArray, List.set_cons_zero, List.set_cons_succ]
  refine held_take (i := 4) (v := ?_) (some 39) rfl rfl (by kernel_rfl) (by kernel_rfl) (by kernel_rfl) (fun _ _ _ h => h) (Or.inl ⟨by rfl, ?_⟩) hHeld ?_
  rotate_left
  · intro w hSw
    try dsimp only at hSw
    go_simp
    try with_reducible rfl
  simp only [Act.put, List.setIfInBounds_toArray, List.set_cons_zero, List.set_cons_succ]
  refine held_take (i := 5) (v := ?_) (some 40) rfl rfl (by kernel_rfl) (by kernel_rfl) (by kernel_rfl) (fun _ _ _ h => h) (Or.inl ⟨by rfl, ?_⟩) hHeld ?_
  rotate_left
  · intro w hSw
    try dsimp only at hSw
    go_simp
    try with_reducible rfl
  simp only [Act.put, List.setIfInBounds_toArray, List.set_cons_zero, List.set_cons_succ]
  refine held_take (i := 6) (v := ?_) (some 41) rfl rfl (by kernel_rfl) (by kernel_rfl) (by kernel_rfl) (fun _ _ _ h => h) (Or.inl ⟨by rfl, ?_⟩) hHeld ?_
  rotate_left
  · intro w hSw
    try dsimp only at hSw
    go_simp
    try with_reducible rfl
  simp only [Act.put, List.setIfInBounds_toArray, List.set_cons_zero, List.set_cons_succ]
  refine held_take (i := 7) (v := ?_) (some 42) rfl rfl (by kernel_rfl) (by kernel_rfl) (by kernel_rfl) (fun _ _ _ h => h) (Or.inl ⟨by rfl, ?_⟩) hHeld ?_
  rotate_left
  · intro w hSw
    try dsimp only at hSw
    go_simp
    try with_reducible rfl
  simp only [Act.put, List.setIfInBounds_toArray, List.set_cons_zero, List.set_cons_succ]
  refine held_take (i := 8) (v := ?_) (some 43) rfl rfl (by kernel_rfl) (by kernel_rfl) (by kernel_rfl) (fun _ _ _ h => h) (Or.inl ⟨by rfl, ?_⟩) hHeld ?_
  rotate_left
  · intro w hSw
    try dsimp only at hSw
    go_simp
    try with_reducible rfl
  simp only [Act.put, List.setIfInBounds_toArray, List.set_cons_zero, List.set_cons_succ]
  refine held_take (i := 9) (v := ?_) (some 44) rfl rfl (by kernel_rfl) (by kernel_rfl) (by kernel_rfl) (fun _ _ _ h => h) (Or.inl ⟨by rfl, ?_⟩) hHeld ?_
  rotate_left
  · intro w hSw
    try dsimp only at hSw
    go_simp
    try with_reducible rfl
  simp only [Act.put, List.setIfInBounds_toArray, List.set_cons_zero, List.set_cons_succ]
  refine held_take (i := 10) (v := ?_) (some 45) rfl rfl (by kernel_rfl) (by kernel_rfl) (by kernel_rfl) (fun _ _ _ h => h) (Or.inl ⟨by rfl, ?_⟩) hHeld ?_
  rotate_left
  · intro w hSw
    try dsimp only at hSw
    go_simp
    try with_reducible rfl
  simp only [Act.put, List.setIfInBounds_toArray, List.set_cons_zero, List.set_cons_succ]
  refine held_take (i := 11) (v := ?_) (some 46) rfl rfl (by kernel_rfl) (by kernel_rfl) (by kernel_rfl) (fun _ _ _ h => h) (Or.inl ⟨by rfl, ?_⟩) hHeld ?_
  rotate_left
  · intro w hSw
    try dsimp only at hSw
    go_simp
    try with_reducible rfl
  simp only [Act.put, List.setIfInBounds_toArray, List.set_cons_zero, List.set_cons_succ]
  refine held_take (i := 12) (v := ?_) (some 47) rfl rfl (by kernel_rfl) (by kernel_rfl) (by kernel_rfl) (fun _ _ _ h => h) (Or.inl ⟨by rfl, ?_⟩) hHeld ?_
  rotate_left
  · intro w hSw
    try dsimp only at hSw
    go_simp
    try with_reducible rfl
  simp only [Act.put, List.setIfInBounds_toArray, List.set_cons_zero, List.set_cons_succ]
  refine held_take (i := 13) (v := ?_) (some 48) rfl rfl (by kernel_rfl) (by kernel_rfl) (by kernel_rfl) (fun _ _ _ h => h) (Or.inl ⟨by rfl, ?_⟩) hHeld ?_
  rotate_left
  · intro w hSw
    try dsimp only at hSw
    go_simp
    try with_reducible rfl
  simp only [Act.put, List.setIfInBounds_toArray, List.set_cons_zero, List.set_cons_succ]
  refine held_take (i := 14) (v := ?_) (some 49) rfl rfl (by kernel_rfl) (by kernel_rfl) (by kernel_rfl) (fun _ _ _ h => h) (Or.inl ⟨by rfl, ?_⟩) hHeld ?_
  rotate_left
  · intro w hSw
    try dsimp only at hSw
    go_simp
    try with_reducible rfl
  simp only [Act.put, List.setIfInBounds_toArray, List.set_cons_zero, List.set_cons_succ]
  refine held_take (i := 16) (v := ?_) (some 51) rfl rfl (by kernel_rfl) (by kernel_rfl) (by kernel_rfl) (fun _ _ _ h => h) (Or.inl ⟨by rfl, ?_⟩) hHeld ?_
  rotate_left
  · intro w hSw
    try dsimp only at hSw
    go_simp
    try with_reducible rfl
  simp only [Act.put, List.setIfInBounds_toArray, List.set_cons_zero, List.set_cons_succ]
  refine held_take (i := 17) (v := ?_) (some 52) rfl rfl (by kernel_rfl) (by kernel_rfl) (by kernel_rfl) (fun _ _ _ h => h) (Or.inl ⟨by rfl, ?_⟩) hHeld ?_
  rotate_left
  · intro w hSw
    try dsimp only at hSw
    go_simp
    try with_reducible rfl
  simp only [Act.put, List.setIfInBounds_toArray, List.set_cons_zero, List.set_cons_succ]
  refine wpAnyH_ready (rs := [15]) (by kernel_rfl) (by simp) ?_
  refine AllReadyH.cons rfl (fun K hK => ?_) AllReadyH.nil
  go_simp
  ((with_reducible refine (mw_Holds n _).mono ?_); rintro e w3 ⟨rfl, hb3⟩; dsimp only)
  replace hHeld := heldI hHeld hb3
  refine hK.out _ _ hHeld (fun _ => ?_)
  clear hK K
  refine held_take (i := 18) (v := ?_) (some 53) rfl rfl (by kernel_rfl) (by kernel_rfl) (by kernel_rfl) (fun _ _ _ h => h) (Or.inl ⟨by rfl, ?_⟩) hHeld ?_
  rotate_left
  · intro w hSw
    try dsimp only at hSw
    go_simp
    try with_reducible rfl
  simp only [Act.put, List.setIfInBounds_toArray, List.set_cons_zero, List.set_cons_succ]
  refine held_take (i := 19) (v := ?_) (some 54) rfl rfl (by kernel_rfl) (by kernel_rfl) (by kernel_rfl) (fun _ _ _ h => h) (Or.inl ⟨by rfl, ?_⟩) hHeld ?_
  rotate_left
  · intro w hSw
    try dsimp only at hSw
    go_simp
    try with_reducible rfl
  simp only [Act.put, List.setIfInBounds_toArray, List.set_cons_zero, List.set_cons_succ]
  refine held_take (i := 20) (v := ?_) (some 2) rfl rfl (by kernel_rfl) (by kernel_rfl) (by kernel_rfl) (fun _ _ _ h => h) (Or.inl ⟨by rfl, ?_⟩) hHeld ?_
  rotate_left
  · intro w hSw
    try dsimp only at hSw
    go_simp
    try with_reducible rfl
  simp only [Act.put, List.setIfInBounds_toArray, List.set_cons_zero, List.set_cons_succ]
  refine wpAnyH_done (by kernel_rfl) ?_ _
  go_wp2
  go_ret
  exact ⟨rfl, hHeld.2⟩
set_option maxRecDepth 100000 in
set_option maxHeartbeats 16000000 in
theorem interf_Early (n : Int) (w : World) : Calls Tryz.prog 11 #[.iface 125 (.agg #[.int .i64 n])] w (TruP w) := by
  have a0 := tw_Early_Timed
  have a1 := tw_Early_Final
  have a2 := tw_Early_Ended
  have b0 := tw_Early_Holds
  have b1 := tw_Early_Early
  have n0 := nn_Early
  have m0 := mt_Early_Good 471
  have m1 := mc_Early_Good
  have m2 := mt_Early_When 471
  have m3 := mc_Early_When
  go_enter Tryz.func11, Tryz.ntmps11
  go_upto_region 12 with fail
  refine wp_region_held_drew (S := fun W => W.cell? ⟨w.heap.size, 0, none⟩ = some (.int .i64 n) ∧ Below w.heap.size w W) (by kernel_rfl) ⟨by simp, ((Below.refl _ _).alloc (Nat.le_refl _) _).drew⟩ (fun hHeld => ?_)
  refine held_take (i := 0) (v := ?_) (some 58) rfl rfl (by kernel_rfl) (by kernel_rfl) (by kernel_rfl) (fun _ _ _ h => h) (Or.inl ⟨by rfl, ?_⟩) hHeld ?_
  rotate_left
  · intro w hSw
    try dsimp only at hSw
    go_simp
    try with_reducible rfl
  simp only [Act.put, List.setIfInBounds_toArray, List.set_cons_zero, List.set_cons_succ]
  refine wpAnyH_ready (rs := [1]) (by kernel_rfl) (by simp) ?_
  refine AllReadyH.cons rfl (fun K hK => ?_) AllReadyH.nil
  go_simp
  ((with_reducible refine (mg_Early n _).mono ?_); rintro e w2 ⟨rfl, hb2⟩; dsimp only)
  replace hHeld := heldI hHeld hb2
  refine hK.out _ _ hHeld (fun _ => ?_)
  clear hK K
  refine held_take (i := 2) (v := ?_) (some 60) rfl rfl (by kernel_rfl) (by kernel_rfl) (by kernel_rfl) (fun _ _ _ h => h) (Or.inl ⟨by rfl, ?_⟩) hHeld ?_
  rotate_left
  · intro w hSw
    try dsimp only at hSw
    go_simp
    try with_reducible rfl
  simp only [Act.put, List.setIfInBounds_toArray, List.set_cons_zero, List.set_cons_succ]
  refine held_take (i := 3) (v := ?_) (some 61) rfl rfl (by kernel_rfl) (by kernel_rfl) (by kernel_rfl) (fun _ _ _ h => h) (Or.inl ⟨by rfl, ?_⟩) hHeld ?_
  rotate_left
  · intro w hSw
    try dsimp only at hSw
    go_simp
    try with_reducible rfl
  simp only [Act.put, List.setIfInBounds_toArray, List.set_cons_zero, List.set_cons_succ]
  refine held_take (i := 4) (v := ?_) (some 62) rfl rfl (by kernel_rfl) (by kernel_rfl) (by kernel_rfl) (fun _ _ _ h => h) (Or.inl ⟨by rfl, ?_⟩) hHeld ?_
  rotate_left
  · intro w hSw
    try dsimp only at hSw
    go_simp
    try with_reducible rfl
  simp only [Act.put, List.setIfInBounds_toArray, List.set_cons_zero, List.set_cons_succ]
  refine held_take (i := 5) (v := ?_) (some 63) rfl rfl (by kernel_rfl) (by kernel_rfl) (by kernel_rfl) (fun _ _ _ h => h) (Or.inl ⟨by rfl, ?_⟩) hHeld ?_
  rotate_left
  · intro w hSw
    try dsimp only at hSw
    go_simp
    try with_reducible rfl
  simp only [Act.put, List.setIfInBounds_toArray, List.set_cons_zero, List.set_cons_succ]
  refine held_take (i := 6) (v := ?_) (some 64) rfl rfl (by kernel_rfl) (by kernel_rfl) (by kernel_rfl) (fun _ _ _ h => h) (Or.inl ⟨by rfl, ?_⟩) hHeld ?_
  rotate_left
  · intro w hSw
    try dsimp only at hSw
    go_simp
    try with_reducible rfl
  simp only [Act.put, List.setIfInBounds_toArray, List.set_cons_zero, List.set_cons_succ]
  refine held_take (i := 7) (v := ?_) (some 65) rfl rfl (by kernel_rfl) (by kernel_rfl) (by kernel_rfl) (fun _ _ _ h => h) (Or.inl ⟨by rfl, ?_⟩) hHeld ?_
  rotate_left
  · intro w hSw
    try dsimp only at hSw
    go_simp
    try with_reducible rfl
  simp only [Act.put, List.setIfInBounds_toArray, List.set_cons_zero, List.set_cons_succ]
  refine held_take (i := 8) (v := ?_) (some 66) rfl rfl (by kernel_rfl) (by kernel_rfl) (by kernel_rfl) (fun _ _ _ h => h) (Or.inl ⟨by rfl, ?_⟩) hHeld ?_
  rotate_left
  · intro w hSw
    try dsimp only at hSw
    go_simp
    try with_reducible rfl
  simp only [Act.put, List.setIfInBounds_toArray, List.set_cons_zero, List.set_cons_succ]
  refine held_take (i := 9) (v := ?_) (some 67) rfl rfl (by kernel_rfl) (by kernel_rfl) (by kernel_rfl) (fun _ _ _ h => h) (Or.inl ⟨by rfl, ?_⟩) hHeld ?_
  rotate_left
  · intro w hSw
    try dsimp only at hSw
    go_simp
    try with_reducible rfl
  simp only [Act.put, List.setIfInBounds_toArray, List.set_cons_zero, List.set_cons_succ]
  refine held_take (i := 10) (v := ?_) (some 68) rfl rfl (by kernel_rfl) (by kernel_rfl) (by kernel_rfl) (fun _ _ _ h => h) (Or.inl ⟨by rfl, ?_⟩) hHeld ?_
  rotate_left
  · intro w hSw
    try dsimp only at hSw
    go_simp
    try with_reducible rfl
  simp only [Act.put, List.setIfInBounds_toArray, List.set_cons_zero, List.set_cons_succ]
  refine held_take (i := 11) (v := ?_) (some 69) rfl rfl (by kernel_rfl) (by kernel_rfl) (by kernel_rfl) (fun _ _ _ h => h) (Or.inl ⟨by rfl, ?_⟩) hHeld ?_
  rotate_left
  · intro w hSw
    try dsimp only at hSw
    go_simp
    try with_reducible rfl
  simp only [Act.put, List.setIfInBounds_toArray, List.set_cons_zero, List.set_cons_succ]
  refine held_take (i := 12) (v := ?_) (some 70) rfl rfl (by kernel_rfl) (by kernel_rfl) (by kernel_rfl) (fun _ _ _ h => h) (Or.inl ⟨by rfl, ?_⟩) hHeld ?_
  rotate_left
  · intro w hSw
    try dsimp only at hSw
    go_simp
    try with_reducible rfl
  simp only [Act.put, List.setIfInBounds_toArray, List.set_cons_zero, List.set_cons_succ]
  refine held_take (i := 13) (v := ?_) (some 71) rfl rfl (by kernel_rfl) (by kernel_rfl) (by kernel_rfl) (fun _ _ _ h => h) (Or.inl ⟨by rfl, ?_⟩) hHeld ?_
  rotate_left
  · intro w hSw
    try dsimp only at hSw
    go_simp
    try with_reducible rfl
  simp only [Act.put, List.setIfInBounds_toArray, List.set_cons_zero, List.set_cons_succ]
  refine held_take (i := 14) (v := ?_) (some 72) rfl rfl (by kernel_rfl) (by kernel_rfl) (by kernel_rfl) (fun _ _ _ h => h) (Or.inl ⟨by rfl, ?_⟩) hHeld ?_
  rotate_left
  · intro w hSw
    try dsimp only at hSw
    go_simp
    try with_reducible rfl
  simp only [Act.put, List.setIfInBounds_toArray, List.set_cons_zero, List.set_cons_succ]
  refine held_take (i := 15) (v := ?_) (some 73) rfl rfl (by kernel_rfl) (by kernel_rfl) (by kernel_rfl) (fun _ _ _ h => h) (Or.inl ⟨by rfl, ?_⟩) hHeld ?_
  rotate_left
  · intro w hSw
    try dsimp only at hSw
    go_simp
    try with_reducible rfl
  simp only [Act.put, List.setIfInBounds_toArray, List.set_cons_zero, List.set_cons_succ]
  refine held_take (i := 17) (v := ?_) (some 75) rfl rfl (by kernel_rfl) (by kernel_rfl) (by kernel_rfl) (fun _ _ _ h => h) (Or.inl ⟨by rfl, ?_⟩) hHeld ?_
  rotate_left
  · intro w hSw
    try dsimp only at hSw
    go_simp
    try with_reducible rfl
  simp only [Act.put, List.setIfInBounds_toArray, List.set_cons_zero, List.set_cons_succ]
  refine held_take (i := 18) (v := ?_) (some 76) rfl rfl (by kernel_rfl) (by kernel_rfl) (by kernel_rfl) (fun _ _ _ h => h) (Or.inl ⟨by rfl, ?_⟩) hHeld ?_
  rotate_left
  · intro w hSw
    try dsimp only at hSw
    go_simp
    try with_reducible rfl
  simp only [Act.put, List.setIfInBounds_toArray, List.set_cons_zero, List.set_cons_succ]
  refine wpAnyH_ready (rs := [16]) (by kernel_rfl) (by simp) ?_
  refine AllReadyH.cons rfl (fun K hK => ?_) AllReadyH.nil
  go_simp
  ((with_reducible refine (mw_Early n _).mono ?_); rintro e w3 ⟨rfl, hb3⟩; dsimp only)
  replace hHeld := heldI hHeld hb3
  refine hK.out _ _ hHeld (fun _ => ?_)
  clear hK K
  refine held_take (i := 19) (v := ?_) (some 77) rfl rfl (by kernel_rfl) (by kernel_rfl) (by kernel_rfl) (fun _ _ _ h => h) (Or.inl ⟨by rfl, ?_⟩) hHeld ?_
  rotate_left
  · intro w hSw
    try dsimp only at hSw
    go_simp
    try with_reducible rfl
  simp only [Act.put, List.setIfInBounds_toArray, List.set_cons_zero, List.set_cons_succ]
  refine held_take (i := 20) (v := ?_) (some 78) rfl rfl (by kernel_rfl) (by kernel_rfl) (by kernel_rfl) (fun _ _ _ h => h) (Or.inl ⟨by rfl, ?_⟩) hHeld ?_
  rotate_left
  · intro w hSw
    try dsimp only at hSw
    go_simp
    try with_reducible rfl
  simp only [Act.put, List.setIfInBounds_toArray, List.set_cons_zero, List.set_cons_succ]
  refine held_take (i := 21) (v := ?_) (some 2) rfl rfl (by kernel_rfl) (by kernel_rfl) (by kernel_rfl) (fun _ _ _ h => h) (Or.inl ⟨by rfl, ?_⟩) hHeld ?_
  rotate_left
  · intro w hSw
    try dsimp only at hSw
    go_simp
    try with_reducible rfl
  simp only [Act.put, List.setIfInBounds_toArray, List.set_cons_zero, List.set_cons_succ]
  refine wpAnyH_done (by kernel_rfl) ?_ _
  go_wp2
  go_ret
  exact ⟨rfl, hHeld.2⟩
set_option maxRecDepth 100000 in
set_option maxHeartbeats 16000000 in
theorem interf_Over (n : Int) (w : World) : Calls Tryz.prog 11 #[.iface 112 (.agg #[.int .i64 n])] w (TruP w) := by
  have a0 := tw_Over_Timed
  have a1 := tw_Over_Final
  have a2 := tw_Over_Ended
  have b0 := tw_Over_Holds
  have b1 := tw_Over_Early
  have b2 := tw_Over_Over
  have n0 := nn_Over
  have m0 := mt_Over_Good 471
  have m1 := mc_Over_Good
  have m2 := mt_Over_When 471
  have m3 := mc_Over_When
  go_enter Tryz.func11, Tryz.ntmps11
  go_upto_region 15 with fail
  refine wp_region_held_drew (S := fun W => W.cell? ⟨w.heap.size, 0, none⟩ = some (.int .i64 n) ∧ Below w.heap.size w W) (by kernel_rfl) ⟨by simp, ((Below.refl _ _).alloc (Nat.le_refl _) _).drew⟩ (fun hHeld => ?_)
  refine held_take (i := 0) (v := ?_) (some 82) rfl rfl (by kernel_rfl) (by kernel_rfl) (by kernel_rfl) (fun _ _ _ h => h) (Or.inl ⟨by rfl, ?_⟩) hHeld ?_
  rotate_left
  · intro w hSw
    try dsimp only at hSw
    go_simp
    try with_reducible rfl
  simp only [Act.put, List.setIfInBounds_toArray, List.set_cons_zero, List.set_cons_succ]
  refine wpAnyH_ready (rs := [1]) (by kernel_rfl) (by simp) ?_
  refine AllReadyH.cons rfl (fun K hK => ?_) AllReadyH.nil
  go_simp
  ((with_reducible refine (mg_Over n _).mono ?_); rintro e w2 ⟨rfl, hb2⟩; dsimp only)
  replace hHeld := heldI hHeld hb2
  refine hK.out _ _ hHeld (fun _ => ?_)
  clear hK K
  refine held_take (i := 2) (v := ?_) (some 84) rfl rfl (by kernel_rfl) (by kernel_rfl) (by kernel_rfl) (fun _ _ _ h => h) (Or.inl ⟨by rfl, ?_⟩) hHeld ?_
  rotate_left
  · intro w hSw
    try dsimp only at hSw
    go_simp
    try with_reducible rfl
  simp only [Act.put, List.setIfInBounds_toArray, List.set_cons_zero, List.set_cons_succ]
  refine held_take (i := 3) (v := ?_) (some 85) rfl rfl (by kernel_rfl) (by kernel_rfl) (by kernel_rfl) (fun _ _ _ h => h) (Or.inl ⟨by rfl, ?_⟩) hHeld ?_
  rotate_left
  · intro w hSw
    try dsimp only at hSw
    go_simp
    try with_reducible rfl
  simp only [Act.put, List.setIfInBounds_toArray, List.set_cons_zero, List.set_cons_succ]
  refine held_take (i := 4) (v := ?_) (some 86) rfl rfl (by kernel_rfl) (by kernel_rfl) (by kernel_rfl) (fun _ _ _ h => h) (Or.inl ⟨by rfl, ?_⟩) hHeld ?_
  rotate_left
  · intro w hSw
    try dsimp only at hSw
    go_simp
    try with_reducible rfl
  simp only [Act.put, List.setIfInBounds_toArray, List.set_cons_zero, List.set_cons_succ]
  refine held_take (i := 5) (v := ?_) (some 87) rfl rfl (by kernel_rfl) (by kernel_rfl) (by kernel_rfl) (fun _ _ _ h => h) (Or.inl ⟨by rfl, ?_⟩) hHeld ?_
  rotate_left
  · intro w hSw
    try dsimp only at hSw
    go_simp
    try with_reducible rfl
  simp only [Act.put, List.setIfInBounds_toArray, List.set_cons_zero, List.set_cons_succ]
  refine held_take (i := 6) (v := ?_) (some 88) rfl rfl (by kernel_rfl) (by kernel_rfl) (by kernel_rfl) (fun _ _ _ h => h) (Or.inl ⟨by rfl, ?_⟩) hHeld ?_
  rotate_left
  · intro w hSw
    try dsimp only at hSw
    go_simp
    try with_reducible rfl
  simp only [Act.put, List.setIfInBounds_toArray, List.set_cons_zero, List.set_cons_succ]
  refine held_take (i := 7) (v := ?_) (some 89) rfl rfl (by kernel_rfl) (by kernel_rfl) (by kernel_rfl) (fun _ _ _ h => h) (Or.inl ⟨by rfl, ?_⟩) hHeld ?_
  rotate_left
  · intro w hSw
    try dsimp only at hSw
    go_simp
    try with_reducible rfl
  simp only [Act.put, List.setIfInBounds_toArray, List.set_cons_zero, List.set_cons_succ]
  refine held_take (i := 8) (v := ?_) (some 90) rfl rfl (by kernel_rfl) (by kernel_rfl) (by kernel_rfl) (fun _ _ _ h => h) (Or.inl ⟨by rfl, ?_⟩) hHeld ?_
  rotate_left
  · intro w hSw
    try dsimp only at hSw
    go_simp
    try with_reducible rfl
  simp only [Act.put, List.setIfInBounds_toArray, List.set_cons_zero, List.set_cons_succ]
  refine held_take (i := 9) (v := ?_) (some 91) rfl rfl (by kernel_rfl) (by kernel_rfl) (by kernel_rfl) (fun _ _ _ h => h) (Or.inl ⟨by rfl, ?_⟩) hHeld ?_
  rotate_left
  · intro w hSw
    try dsimp only at hSw
    go_simp
    try with_reducible rfl
  simp only [Act.put, List.setIfInBounds_toArray, List.set_cons_zero, List.set_cons_succ]
  refine held_take (i := 10) (v := ?_) (some 92) rfl rfl (by kernel_rfl) (by kernel_rfl) (by kernel_rfl) (fun _ _ _ h => h) (Or.inl ⟨by rfl, ?_⟩) hHeld ?_
  rotate_left
  · intro w hSw
    try dsimp only at hSw
    go_simp
    try with_reducible rfl
  simp only [Act.put, List.setIfInBounds_toArray, List.set_cons_zero, List.set_cons_succ]
  refine held_take (i := 11) (v := ?_) (some 93) rfl rfl (by kernel_rfl) (by kernel_rfl) (by kernel_rfl) (fun _ _ _ h => h) (Or.inl ⟨by rfl, ?_⟩) hHeld ?_
  rotate_left
  · intro w hSw
    try dsimp only at hSw
    go_simp
    try with_reducible rfl
  simp only [Act.put, List.setIfInBounds_toArray, List.set_cons_zero, List.set_cons_succ]
  refine held_take (i := 12) (v := ?_) (some 94) rfl rfl (by kernel_rfl) (by kernel_rfl) (by kernel_rfl) (fun _ _ _ h => h) (Or.inl ⟨by rfl, ?_⟩) hHeld ?_
  rotate_left
  · intro w hSw
    try dsimp only at hSw
    go_simp
    try with_reducible rfl
  simp only [Act.put, List.setIfInBounds_toArray, List.set_cons_zero, List.set_cons_succ]
  refine held_take (i := 13) (v := ?_) (some 95) rfl rfl (by kernel_rfl) (by kernel_rfl) (by kernel_rfl) (fun _ _ _ h => h) (Or.inl ⟨by rfl, ?_⟩) hHeld ?_
  rotate_left
  · intro w hSw
    try dsimp only at hSw
    go_simp
    try with_reducible rfl
  simp only [Act.put, List.setIfInBounds_toArray, List.set_cons_zero, List.set_cons_succ]
  refine held_take (i := 15) (v := ?_) (some 97) rfl rfl (by kernel_rfl) (by kernel_rfl) (by kernel_rfl) (fun _ _ _ h => h) (Or.inl ⟨by rfl, ?_⟩) hHeld ?_
  rotate_left
  · intro w hSw
    try dsimp only at hSw
    go_simp
    try with_reducible rfl
  simp only [Act.put, List.setIfInBounds_toArray, List.set_cons_zero, List.set_cons_succ]
  refine held_take (i := 16) (v := ?_) (some 98) rfl rfl (by kernel_rfl) (by kernel_rfl) (by kernel_rfl) (fun _ _ _ h => h) (Or.inl ⟨by rfl, ?_⟩) hHeld ?_
  rotate_left
  · intro w hSw
    try dsimp only at hSw
    go_simp
    try with_reducible rfl
  simp only [Act.put, List.setIfInBounds_toArray, List.set_cons_zero, List.set_cons_succ]
  refine wpAnyH_ready (rs := [14]) (by kernel_rfl) (by simp) ?_
  refine AllReadyH.cons rfl (fun K hK => ?_) AllReadyH.nil
  go_simp
  ((with_reducible refine (mw_Over n _).mono ?_); rintro e w3 ⟨rfl, hb3⟩; dsimp only)
  replace hHeld := heldI hHeld hb3
  refine hK.out _ _ hHeld (fun _ => ?_)
  clear hK K
  refine held_take (i := 17) (v := ?_) (some 99) rfl rfl (by kernel_rfl) (by kernel_rfl) (by kernel_rfl) (fun _ _ _ h => h) (Or.inl ⟨by rfl, ?_⟩) hHeld ?_
  rotate_left
  · intro w hSw
    try dsimp only at hSw
    go_simp
    try with_reducible rfl
  simp only [Act.put, List.setIfInBounds_toArray, List.set_cons_zero, List.set_cons_succ]
  refine held_take (i := 18) (v := ?_) (some 100) rfl rfl (by kernel_rfl) (by kernel_rfl) (by kernel_rfl) (fun _ _ _ h => h) (Or.inl ⟨by rfl, ?_⟩) hHeld ?_
  rotate_left
  · intro w hSw
    try dsimp only at hSw
    go_simp
    try with_reducible rfl
  simp only [Act.put, List.setIfInBounds_toArray, List.set_cons_zero, List.set_cons_succ]
  refine held_take (i := 19) (v := ?_) (some 2) rfl rfl (by kernel_rfl) (by kernel_rfl) (by kernel_rfl) (fun _ _ _ h => h) (Or.inl ⟨by rfl, ?_⟩) hHeld ?_
  rotate_left
  · intro w hSw
    try dsimp only at hSw
    go_simp
    try with_reducible rfl
  simp only [Act.put, List.setIfInBounds_toArray, List.set_cons_zero, List.set_cons_succ]
  refine wpAnyH_done (by kernel_rfl) ?_ _
  go_wp2
  go_ret
  exact ⟨rfl, hHeld.2⟩
set_option maxRecDepth 100000 in
set_option maxHeartbeats 16000000 in
theorem interf_Lacks (s : ByteArray) (w : World) : Calls Tryz.prog 11 #[.iface 127 (.agg #[.string s])] w (TruP w) := by
  have a0 := tw_Lacks_Timed
  have a1 := tw_Lacks_Final
  have a2 := tw_Lacks_Ended
  have b0 := tw_Lacks_Holds
  have b1 := tw_Lacks_Early
  have b2 := tw_Lacks_Over
  have b3 := tw_Lacks_Lacks
  have b4 := tw_Lacks_Alien
  have b5 := tw_Lacks_Other
  have b6 := tw_Lacks_Barred
  have n0 := nn_Lacks
  have m0 := mt_Lacks_Good 471
  have m1 := mc_Lacks_Good
  go_enter Tryz.func11, Tryz.ntmps11
  go_wp2_with fail
  ((with_reducible refine (mg_Lacks s _).mono ?_); rintro e w2 ⟨rfl, hb2⟩)
  go_wp2
  go_ret
  first | exact ⟨rfl, hb2⟩ | exact ⟨rfl, hb2.drewN _⟩
set_option maxRecDepth 100000 in
set_option maxHeartbeats 16000000 in
theorem interf_Alien (s : ByteArray) (w : World) : Calls Tryz.prog 11 #[.iface 129 (.agg #[.string s])] w (TruP w) := by
  have a0 := tw_Alien_Timed
  have a1 := tw_Alien_Final
  have a2 := tw_Alien_Ended
  have b0 := tw_Alien_Holds
  have b1 := tw_Alien_Early
  have b2 := tw_Alien_Over
  have b3 := tw_Alien_Lacks
  have b4 := tw_Alien_Alien
  have b5 := tw_Alien_Other
  have b6 := tw_Alien_Barred
  have n0 := nn_Alien
  have m0 := mt_Alien_Good 471
  have m1 := mc_Alien_Good
  go_enter Tryz.func11, Tryz.ntmps11
  go_wp2_with fail
  ((with_reducible refine (mg_Alien s _).mono ?_); rintro e w2 ⟨rfl, hb2⟩)
  go_wp2
  go_ret
  first | exact ⟨rfl, hb2⟩ | exact ⟨rfl, hb2.drewN _⟩
set_option maxRecDepth 100000 in
set_option maxHeartbeats 16000000 in
theorem interf_Other (s : Value) (w : World) : Calls Tryz.prog 11 #[.iface 131 (.agg #[s])] w (TruP w) := by
  have a0 := tw_Other_Timed
  have a1 := tw_Other_Final
  have a2 := tw_Other_Ended
  have b0 := tw_Other_Holds
  have b1 := tw_Other_Early
  have b2 := tw_Other_Over
  have b3 := tw_Other_Lacks
  have b4 := tw_Other_Alien
  have b5 := tw_Other_Other
  have b6 := tw_Other_Barred
  have n0 := nn_Other
  have m0 := mt_Other_Good 471
  have m1 := mc_Other_Good
  go_enter Tryz.func11, Tryz.ntmps11
  go_wp2_with fail
  ((with_reducible refine (mg_Other s _).mono ?_); rintro e w2 ⟨rfl, hb2⟩)
  go_wp2
  go_ret
  first | exact ⟨rfl, hb2⟩ | exact ⟨rfl, hb2.drewN _⟩
set_option maxRecDepth 100000 in
set_option maxHeartbeats 16000000 in
theorem interf_Barred (s : Value) (w : World) : Calls Tryz.prog 11 #[.iface 133 (.agg #[s])] w (TruP w) := by
  have a0 := tw_Barred_Timed
  have a1 := tw_Barred_Final
  have a2 := tw_Barred_Ended
  have b0 := tw_Barred_Holds
  have b1 := tw_Barred_Early
  have b2 := tw_Barred_Over
  have b3 := tw_Barred_Lacks
  have b4 := tw_Barred_Alien
  have b5 := tw_Barred_Other
  have b6 := tw_Barred_Barred
  have n0 := nn_Barred
  have m0 := mt_Barred_Good 471
  have m1 := mc_Barred_Good
  go_enter Tryz.func11, Tryz.ntmps11
  go_wp2_with fail
  ((with_reducible refine (mg_Barred s _).mono ?_); rintro e w2 ⟨rfl, hb2⟩)
  go_wp2
  go_ret
  first | exact ⟨rfl, hb2⟩ | exact ⟨rfl, hb2.drewN _⟩
set_option maxRecDepth 100000 in
set_option maxHeartbeats 16000000 in
theorem interf_Broken (s : Value) (w : World) : Calls Tryz.prog 11 #[.iface 42 (s)] w (TruP w) := by
  have a0 := tw_Broken_Timed
  have a1 := tw_Broken_Final
  have a2 := tw_Broken_Ended
  have b0 := tw_Broken_Holds
  have b1 := tw_Broken_Early
  have b2 := tw_Broken_Over
  have b3 := tw_Broken_Lacks
  have b4 := tw_Broken_Alien
  have b5 := tw_Broken_Other
  have b6 := tw_Broken_Barred
  have b7 := tw_Broken_Broken
  have n0 := nn_Broken
  have m0 := mt_Broken_Good 471
  have m1 := mc_Broken_Good
  go_enter Tryz.func11, Tryz.ntmps11
  go_wp2_with fail
  ((with_reducible refine (mg_Broken s _).mono ?_); rintro e w2 ⟨rfl, hb2⟩)
  go_wp2
  go_ret
  first | exact ⟨rfl, hb2⟩ | exact ⟨rfl, hb2.drewN _⟩
end Nd
end Go.Proofs.YtbcckpnngonoeaaGreatDoor

