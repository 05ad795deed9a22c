/-
  Assertions of an item to its six types.
-/
import Derived.Test.YtfhfkggkbeahbaaNuA
namespace Go.Proofs.Ytfhfkggkbeahbaa
open Go.RowKit Mem
set_option linter.unusedVariables false
namespace Nd

theorem ta_0_0  (W : World) : (Instr.typeAssert (.iface 112 (.agg #[])) 46 112 true).run Try.prog W = .ok (.tuple #[.agg #[], .bool true]) W := by kernel_rfl
theorem ta_0_1  (W : World) : (Instr.typeAssert (.iface 112 (.agg #[])) 46 113 true).run Try.prog W = .ok (.tuple #[.bool false, .bool false]) W := by kernel_rfl
theorem ta_0_2  (W : World) : (Instr.typeAssert (.iface 112 (.agg #[])) 46 117 true).run Try.prog W = .ok (.tuple #[.float .f64 0, .bool false]) W := by kernel_rfl
theorem ta_0_3  (W : World) : (Instr.typeAssert (.iface 112 (.agg #[])) 46 82 true).run Try.prog W = .ok (.tuple #[.string ⟨#[]⟩, .bool false]) W := by kernel_rfl
theorem ta_0_4  (W : World) : (Instr.typeAssert (.iface 112 (.agg #[])) 46 121 true).run Try.prog W = .ok (.tuple #[.pointer none, .bool false]) W := by kernel_rfl
theorem ta_0_5  (W : World) : (Instr.typeAssert (.iface 112 (.agg #[])) 46 126 true).run Try.prog W = .ok (.tuple #[.pointer none, .bool false]) W := by kernel_rfl
theorem ta_1_0 (b : Bool) (W : World) : (Instr.typeAssert (.iface 113 (.bool b)) 46 112 true).run Try.prog W = .ok (.tuple #[.agg #[], .bool false]) W := by kernel_rfl
theorem ta_1_1 (b : Bool) (W : World) : (Instr.typeAssert (.iface 113 (.bool b)) 46 113 true).run Try.prog W = .ok (.tuple #[.bool b, .bool true]) W := by kernel_rfl
theorem ta_1_2 (b : Bool) (W : World) : (Instr.typeAssert (.iface 113 (.bool b)) 46 117 true).run Try.prog W = .ok (.tuple #[.float .f64 0, .bool false]) W := by kernel_rfl
theorem ta_1_3 (b : Bool) (W : World) : (Instr.typeAssert (.iface 113 (.bool b)) 46 82 true).run Try.prog W = .ok (.tuple #[.string ⟨#[]⟩, .bool false]) W := by kernel_rfl
theorem ta_1_4 (b : Bool) (W : World) : (Instr.typeAssert (.iface 113 (.bool b)) 46 121 true).run Try.prog W = .ok (.tuple #[.pointer none, .bool false]) W := by kernel_rfl
theorem ta_1_5 (b : Bool) (W : World) : (Instr.typeAssert (.iface 113 (.bool b)) 46 126 true).run Try.prog W = .ok (.tuple #[.pointer none, .bool false]) W := by kernel_rfl
theorem ta_2_0 (x : Nat) (W : World) : (Instr.typeAssert (.iface 117 (.float .f64 x)) 46 112 true).run Try.prog W = .ok (.tuple #[.agg #[], .bool false]) W := by kernel_rfl
theorem ta_2_1 (x : Nat) (W : World) : (Instr.typeAssert (.iface 117 (.float .f64 x)) 46 113 true).run Try.prog W = .ok (.tuple #[.bool false, .bool false]) W := by kernel_rfl
theorem ta_2_2 (x : Nat) (W : World) : (Instr.typeAssert (.iface 117 (.float .f64 x)) 46 117 true).run Try.prog W = .ok (.tuple #[.float .f64 x, .bool true]) W := by kernel_rfl
theorem ta_2_3 (x : Nat) (W : World) : (Instr.typeAssert (.iface 117 (.float .f64 x)) 46 82 true).run Try.prog W = .ok (.tuple #[.string ⟨#[]⟩, .bool false]) W := by kernel_rfl
theorem ta_2_4 (x : Nat) (W : World) : (Instr.typeAssert (.iface 117 (.float .f64 x)) 46 121 true).run Try.prog W = .ok (.tuple #[.pointer none, .bool false]) W := by kernel_rfl
theorem ta_2_5 (x : Nat) (W : World) : (Instr.typeAssert (.iface 117 (.float .f64 x)) 46 126 true).run Try.prog W = .ok (.tuple #[.pointer none, .bool false]) W := by kernel_rfl
theorem ta_3_0 (s : ByteArray) (W : World) : (Instr.typeAssert (.iface 82 (.string s)) 46 112 true).run Try.prog W = .ok (.tuple #[.agg #[], .bool false]) W := by kernel_rfl
theorem ta_3_1 (s : ByteArray) (W : World) : (Instr.typeAssert (.iface 82 (.string s)) 46 113 true).run Try.prog W = .ok (.tuple #[.bool false, .bool false]) W := by kernel_rfl
theorem ta_3_2 (s : ByteArray) (W : World) : (Instr.typeAssert (.iface 82 (.string s)) 46 117 true).run Try.prog W = .ok (.tuple #[.float .f64 0, .bool false]) W := by kernel_rfl
theorem ta_3_3 (s : ByteArray) (W : World) : (Instr.typeAssert (.iface 82 (.string s)) 46 82 true).run Try.prog W = .ok (.tuple #[.string s, .bool true]) W := by kernel_rfl
theorem ta_3_4 (s : ByteArray) (W : World) : (Instr.typeAssert (.iface 82 (.string s)) 46 121 true).run Try.prog W = .ok (.tuple #[.pointer none, .bool false]) W := by kernel_rfl
theorem ta_3_5 (s : ByteArray) (W : World) : (Instr.typeAssert (.iface 82 (.string s)) 46 126 true).run Try.prog W = .ok (.tuple #[.pointer none, .bool false]) W := by kernel_rfl
theorem ta_4_0 (g : Option Addr) (W : World) : (Instr.typeAssert (.iface 121 (.pointer g)) 46 112 true).run Try.prog W = .ok (.tuple #[.agg #[], .bool false]) W := by kernel_rfl
theorem ta_4_1 (g : Option Addr) (W : World) : (Instr.typeAssert (.iface 121 (.pointer g)) 46 113 true).run Try.prog W = .ok (.tuple #[.bool false, .bool false]) W := by kernel_rfl
theorem ta_4_2 (g : Option Addr) (W : World) : (Instr.typeAssert (.iface 121 (.pointer g)) 46 117 true).run Try.prog W = .ok (.tuple #[.float .f64 0, .bool false]) W := by kernel_rfl
theorem ta_4_3 (g : Option Addr) (W : World) : (Instr.typeAssert (.iface 121 (.pointer g)) 46 82 true).run Try.prog W = .ok (.tuple #[.string ⟨#[]⟩, .bool false]) W := by kernel_rfl
theorem ta_4_4 (g : Option Addr) (W : World) : (Instr.typeAssert (.iface 121 (.pointer g)) 46 121 true).run Try.prog W = .ok (.tuple #[.pointer g, .bool true]) W := by kernel_rfl
theorem ta_4_5 (g : Option Addr) (W : World) : (Instr.typeAssert (.iface 121 (.pointer g)) 46 126 true).run Try.prog W = .ok (.tuple #[.pointer none, .bool false]) W := by kernel_rfl
theorem ta_5_0 (g : Option Addr) (W : World) : (Instr.typeAssert (.iface 126 (.pointer g)) 46 112 true).run Try.prog W = .ok (.tuple #[.agg #[], .bool false]) W := by kernel_rfl
theorem ta_5_1 (g : Option Addr) (W : World) : (Instr.typeAssert (.iface 126 (.pointer g)) 46 113 true).run Try.prog W = .ok (.tuple #[.bool false, .bool false]) W := by kernel_rfl
theorem ta_5_2 (g : Option Addr) (W : World) : (Instr.typeAssert (.iface 126 (.pointer g)) 46 117 true).run Try.prog W = .ok (.tuple #[.float .f64 0, .bool false]) W := by kernel_rfl
theorem ta_5_3 (g : Option Addr) (W : World) : (Instr.typeAssert (.iface 126 (.pointer g)) 46 82 true).run Try.prog W = .ok (.tuple #[.string ⟨#[]⟩, .bool false]) W := by kernel_rfl
theorem ta_5_4 (g : Option Addr) (W : World) : (Instr.typeAssert (.iface 126 (.pointer g)) 46 121 true).run Try.prog W = .ok (.tuple #[.pointer none, .bool false]) W := by kernel_rfl
theorem ta_5_5 (g : Option Addr) (W : World) : (Instr.typeAssert (.iface 126 (.pointer g)) 46 126 true).run Try.prog W = .ok (.tuple #[.pointer g, .bool true]) W := by kernel_rfl
end Nd
end Go.Proofs.Ytfhfkggkbeahbaa
