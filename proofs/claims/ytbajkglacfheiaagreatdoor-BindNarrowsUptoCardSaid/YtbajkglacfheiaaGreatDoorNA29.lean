/-
  The law's own functions whole and bound of layer 16, at a whole number that is what it must be.
-/
import Derived.Test.YtbajkglacfheiaaGreatDoorNA28
set_option linter.unusedVariables false
set_option linter.unusedSimpArgs false
set_option maxRecDepth 100000
set_option maxHeartbeats 16000000
namespace Go.Proofs.YtbajkglacfheiaaGreatDoor
open Go.RowKit Mem
set_option maxRecDepth 100000
namespace Nd
theorem tw_3 (v : Value) (W : World) : (Instr.typeAssert (.iface 257 v) 29 257 true).run Tryz.prog W = .ok (.tuple #[v, .bool true]) W := by kernel_rfl
theorem to_3_0 (v : Value) (W : World) : (Instr.typeAssert (.iface 257 v) 29 53 true).run Tryz.prog W = .ok (.tuple #[.pointer none, .bool false]) W := by kernel_rfl
theorem to_3_1 (v : Value) (W : World) : (Instr.typeAssert (.iface 257 v) 29 155 true).run Tryz.prog W = .ok (.tuple #[.agg #[], .bool false]) W := by kernel_rfl
theorem to_3_2 (v : Value) (W : World) : (Instr.typeAssert (.iface 257 v) 29 156 true).run Tryz.prog W = .ok (.tuple #[.bool false, .bool false]) W := by kernel_rfl
theorem to_3_3 (v : Value) (W : World) : (Instr.typeAssert (.iface 257 v) 29 158 true).run Tryz.prog W = .ok (.tuple #[.float .f32 0, .bool false]) W := by kernel_rfl
theorem to_3_4 (v : Value) (W : World) : (Instr.typeAssert (.iface 257 v) 29 101 true).run Tryz.prog W = .ok (.tuple #[.float .f64 0, .bool false]) W := by kernel_rfl
theorem to_3_5 (v : Value) (W : World) : (Instr.typeAssert (.iface 257 v) 29 161 true).run Tryz.prog W = .ok (.tuple #[.complex .f32 0 0, .bool false]) W := by kernel_rfl
theorem to_3_6 (v : Value) (W : World) : (Instr.typeAssert (.iface 257 v) 29 107 true).run Tryz.prog W = .ok (.tuple #[.complex .f64 0 0, .bool false]) W := by kernel_rfl
theorem to_3_7 (v : Value) (W : World) : (Instr.typeAssert (.iface 257 v) 29 34 true).run Tryz.prog W = .ok (.tuple #[.string ⟨#[]⟩, .bool false]) W := by kernel_rfl
theorem to_3_8 (v : Value) (W : World) : (Instr.typeAssert (.iface 257 v) 29 37 true).run Tryz.prog W = .ok (.tuple #[.slice none 0 0, .bool false]) W := by kernel_rfl
theorem to_3_9 (v : Value) (W : World) : (Instr.typeAssert (.iface 257 v) 29 40 true).run Tryz.prog W = .ok (.tuple #[.slice none 0 0, .bool false]) W := by kernel_rfl
theorem to_3_10 (v : Value) (W : World) : (Instr.typeAssert (.iface 257 v) 29 163 true).run Tryz.prog W = .ok (.tuple #[.slice none 0 0, .bool false]) W := by kernel_rfl
theorem to_3_11 (v : Value) (W : World) : (Instr.typeAssert (.iface 257 v) 29 165 true).run Tryz.prog W = .ok (.tuple #[.slice none 0 0, .bool false]) W := by kernel_rfl
theorem tw_4_3 (v : Value) (W : World) : (Instr.typeAssert (.iface 127 v) 29 257 true).run Tryz.prog W = .ok (.tuple #[.int .i8 0, .bool false]) W := by kernel_rfl
theorem tw_4 (v : Value) (W : World) : (Instr.typeAssert (.iface 127 v) 29 127 true).run Tryz.prog W = .ok (.tuple #[v, .bool true]) W := by kernel_rfl
theorem to_4_0 (v : Value) (W : World) : (Instr.typeAssert (.iface 127 v) 29 53 true).run Tryz.prog W = .ok (.tuple #[.pointer none, .bool false]) W := by kernel_rfl
theorem to_4_1 (v : Value) (W : World) : (Instr.typeAssert (.iface 127 v) 29 155 true).run Tryz.prog W = .ok (.tuple #[.agg #[], .bool false]) W := by kernel_rfl
theorem to_4_2 (v : Value) (W : World) : (Instr.typeAssert (.iface 127 v) 29 156 true).run Tryz.prog W = .ok (.tuple #[.bool false, .bool false]) W := by kernel_rfl
theorem to_4_3 (v : Value) (W : World) : (Instr.typeAssert (.iface 127 v) 29 158 true).run Tryz.prog W = .ok (.tuple #[.float .f32 0, .bool false]) W := by kernel_rfl
theorem to_4_4 (v : Value) (W : World) : (Instr.typeAssert (.iface 127 v) 29 101 true).run Tryz.prog W = .ok (.tuple #[.float .f64 0, .bool false]) W := by kernel_rfl
theorem to_4_5 (v : Value) (W : World) : (Instr.typeAssert (.iface 127 v) 29 161 true).run Tryz.prog W = .ok (.tuple #[.complex .f32 0 0, .bool false]) W := by kernel_rfl
theorem to_4_6 (v : Value) (W : World) : (Instr.typeAssert (.iface 127 v) 29 107 true).run Tryz.prog W = .ok (.tuple #[.complex .f64 0 0, .bool false]) W := by kernel_rfl
theorem to_4_7 (v : Value) (W : World) : (Instr.typeAssert (.iface 127 v) 29 34 true).run Tryz.prog W = .ok (.tuple #[.string ⟨#[]⟩, .bool false]) W := by kernel_rfl
theorem to_4_8 (v : Value) (W : World) : (Instr.typeAssert (.iface 127 v) 29 37 true).run Tryz.prog W = .ok (.tuple #[.slice none 0 0, .bool false]) W := by kernel_rfl
theorem to_4_9 (v : Value) (W : World) : (Instr.typeAssert (.iface 127 v) 29 40 true).run Tryz.prog W = .ok (.tuple #[.slice none 0 0, .bool false]) W := by kernel_rfl
theorem to_4_10 (v : Value) (W : World) : (Instr.typeAssert (.iface 127 v) 29 163 true).run Tryz.prog W = .ok (.tuple #[.slice none 0 0, .bool false]) W := by kernel_rfl
theorem to_4_11 (v : Value) (W : World) : (Instr.typeAssert (.iface 127 v) 29 165 true).run Tryz.prog W = .ok (.tuple #[.slice none 0 0, .bool false]) W := by kernel_rfl
theorem tw_5_3 (v : Value) (W : World) : (Instr.typeAssert (.iface 258 v) 29 257 true).run Tryz.prog W = .ok (.tuple #[.int .i8 0, .bool false]) W := by kernel_rfl
theorem tw_5_4 (v : Value) (W : World) : (Instr.typeAssert (.iface 258 v) 29 127 true).run Tryz.prog W = .ok (.tuple #[.int .i16 0, .bool false]) W := by kernel_rfl
theorem tw_5 (v : Value) (W : World) : (Instr.typeAssert (.iface 258 v) 29 258 true).run Tryz.prog W = .ok (.tuple #[v, .bool true]) W := by kernel_rfl
theorem to_5_0 (v : Value) (W : World) : (Instr.typeAssert (.iface 258 v) 29 53 true).run Tryz.prog W = .ok (.tuple #[.pointer none, .bool false]) W := by kernel_rfl
theorem to_5_1 (v : Value) (W : World) : (Instr.typeAssert (.iface 258 v) 29 155 true).run Tryz.prog W = .ok (.tuple #[.agg #[], .bool false]) W := by kernel_rfl
theorem to_5_2 (v : Value) (W : World) : (Instr.typeAssert (.iface 258 v) 29 156 true).run Tryz.prog W = .ok (.tuple #[.bool false, .bool false]) W := by kernel_rfl
theorem to_5_3 (v : Value) (W : World) : (Instr.typeAssert (.iface 258 v) 29 158 true).run Tryz.prog W = .ok (.tuple #[.float .f32 0, .bool false]) W := by kernel_rfl
theorem to_5_4 (v : Value) (W : World) : (Instr.typeAssert (.iface 258 v) 29 101 true).run Tryz.prog W = .ok (.tuple #[.float .f64 0, .bool false]) W := by kernel_rfl
theorem to_5_5 (v : Value) (W : World) : (Instr.typeAssert (.iface 258 v) 29 161 true).run Tryz.prog W = .ok (.tuple #[.complex .f32 0 0, .bool false]) W := by kernel_rfl
theorem to_5_6 (v : Value) (W : World) : (Instr.typeAssert (.iface 258 v) 29 107 true).run Tryz.prog W = .ok (.tuple #[.complex .f64 0 0, .bool false]) W := by kernel_rfl
theorem to_5_7 (v : Value) (W : World) : (Instr.typeAssert (.iface 258 v) 29 34 true).run Tryz.prog W = .ok (.tuple #[.string ⟨#[]⟩, .bool false]) W := by kernel_rfl
theorem to_5_8 (v : Value) (W : World) : (Instr.typeAssert (.iface 258 v) 29 37 true).run Tryz.prog W = .ok (.tuple #[.slice none 0 0, .bool false]) W := by kernel_rfl
theorem to_5_9 (v : Value) (W : World) : (Instr.typeAssert (.iface 258 v) 29 40 true).run Tryz.prog W = .ok (.tuple #[.slice none 0 0, .bool false]) W := by kernel_rfl
theorem to_5_10 (v : Value) (W : World) : (Instr.typeAssert (.iface 258 v) 29 163 true).run Tryz.prog W = .ok (.tuple #[.slice none 0 0, .bool false]) W := by kernel_rfl
theorem to_5_11 (v : Value) (W : World) : (Instr.typeAssert (.iface 258 v) 29 165 true).run Tryz.prog W = .ok (.tuple #[.slice none 0 0, .bool false]) W := by kernel_rfl
theorem tw_6_3 (v : Value) (W : World) : (Instr.typeAssert (.iface 259 v) 29 257 true).run Tryz.prog W = .ok (.tuple #[.int .i8 0, .bool false]) W := by kernel_rfl
theorem tw_6_4 (v : Value) (W : World) : (Instr.typeAssert (.iface 259 v) 29 127 true).run Tryz.prog W = .ok (.tuple #[.int .i16 0, .bool false]) W := by kernel_rfl
theorem tw_6_5 (v : Value) (W : World) : (Instr.typeAssert (.iface 259 v) 29 258 true).run Tryz.prog W = .ok (.tuple #[.int .i32 0, .bool false]) W := by kernel_rfl
theorem tw_6 (v : Value) (W : World) : (Instr.typeAssert (.iface 259 v) 29 259 true).run Tryz.prog W = .ok (.tuple #[v, .bool true]) W := by kernel_rfl
theorem to_6_0 (v : Value) (W : World) : (Instr.typeAssert (.iface 259 v) 29 53 true).run Tryz.prog W = .ok (.tuple #[.pointer none, .bool false]) W := by kernel_rfl
theorem to_6_1 (v : Value) (W : World) : (Instr.typeAssert (.iface 259 v) 29 155 true).run Tryz.prog W = .ok (.tuple #[.agg #[], .bool false]) W := by kernel_rfl
theorem to_6_2 (v : Value) (W : World) : (Instr.typeAssert (.iface 259 v) 29 156 true).run Tryz.prog W = .ok (.tuple #[.bool false, .bool false]) W := by kernel_rfl
theorem to_6_3 (v : Value) (W : World) : (Instr.typeAssert (.iface 259 v) 29 158 true).run Tryz.prog W = .ok (.tuple #[.float .f32 0, .bool false]) W := by kernel_rfl
theorem to_6_4 (v : Value) (W : World) : (Instr.typeAssert (.iface 259 v) 29 101 true).run Tryz.prog W = .ok (.tuple #[.float .f64 0, .bool false]) W := by kernel_rfl
theorem to_6_5 (v : Value) (W : World) : (Instr.typeAssert (.iface 259 v) 29 161 true).run Tryz.prog W = .ok (.tuple #[.complex .f32 0 0, .bool false]) W := by kernel_rfl
theorem to_6_6 (v : Value) (W : World) : (Instr.typeAssert (.iface 259 v) 29 107 true).run Tryz.prog W = .ok (.tuple #[.complex .f64 0 0, .bool false]) W := by kernel_rfl
theorem to_6_7 (v : Value) (W : World) : (Instr.typeAssert (.iface 259 v) 29 34 true).run Tryz.prog W = .ok (.tuple #[.string ⟨#[]⟩, .bool false]) W := by kernel_rfl
theorem to_6_8 (v : Value) (W : World) : (Instr.typeAssert (.iface 259 v) 29 37 true).run Tryz.prog W = .ok (.tuple #[.slice none 0 0, .bool false]) W := by kernel_rfl
theorem to_6_9 (v : Value) (W : World) : (Instr.typeAssert (.iface 259 v) 29 40 true).run Tryz.prog W = .ok (.tuple #[.slice none 0 0, .bool false]) W := by kernel_rfl
theorem to_6_10 (v : Value) (W : World) : (Instr.typeAssert (.iface 259 v) 29 163 true).run Tryz.prog W = .ok (.tuple #[.slice none 0 0, .bool false]) W := by kernel_rfl
theorem to_6_11 (v : Value) (W : World) : (Instr.typeAssert (.iface 259 v) 29 165 true).run Tryz.prog W = .ok (.tuple #[.slice none 0 0, .bool false]) W := by kernel_rfl
theorem tw_7_3 (v : Value) (W : World) : (Instr.typeAssert (.iface 260 v) 29 257 true).run Tryz.prog W = .ok (.tuple #[.int .i8 0, .bool false]) W := by kernel_rfl
theorem tw_7_4 (v : Value) (W : World) : (Instr.typeAssert (.iface 260 v) 29 127 true).run Tryz.prog W = .ok (.tuple #[.int .i16 0, .bool false]) W := by kernel_rfl
theorem tw_7_5 (v : Value) (W : World) : (Instr.typeAssert (.iface 260 v) 29 258 true).run Tryz.prog W = .ok (.tuple #[.int .i32 0, .bool false]) W := by kernel_rfl
theorem tw_7_6 (v : Value) (W : World) : (Instr.typeAssert (.iface 260 v) 29 259 true).run Tryz.prog W = .ok (.tuple #[.int .i64 0, .bool false]) W := by kernel_rfl
theorem tw_7 (v : Value) (W : World) : (Instr.typeAssert (.iface 260 v) 29 260 true).run Tryz.prog W = .ok (.tuple #[v, .bool true]) W := by kernel_rfl
theorem to_7_0 (v : Value) (W : World) : (Instr.typeAssert (.iface 260 v) 29 53 true).run Tryz.prog W = .ok (.tuple #[.pointer none, .bool false]) W := by kernel_rfl
theorem to_7_1 (v : Value) (W : World) : (Instr.typeAssert (.iface 260 v) 29 155 true).run Tryz.prog W = .ok (.tuple #[.agg #[], .bool false]) W := by kernel_rfl
theorem to_7_2 (v : Value) (W : World) : (Instr.typeAssert (.iface 260 v) 29 156 true).run Tryz.prog W = .ok (.tuple #[.bool false, .bool false]) W := by kernel_rfl
theorem to_7_3 (v : Value) (W : World) : (Instr.typeAssert (.iface 260 v) 29 158 true).run Tryz.prog W = .ok (.tuple #[.float .f32 0, .bool false]) W := by kernel_rfl
theorem to_7_4 (v : Value) (W : World) : (Instr.typeAssert (.iface 260 v) 29 101 true).run Tryz.prog W = .ok (.tuple #[.float .f64 0, .bool false]) W := by kernel_rfl
theorem to_7_5 (v : Value) (W : World) : (Instr.typeAssert (.iface 260 v) 29 161 true).run Tryz.prog W = .ok (.tuple #[.complex .f32 0 0, .bool false]) W := by kernel_rfl
theorem to_7_6 (v : Value) (W : World) : (Instr.typeAssert (.iface 260 v) 29 107 true).run Tryz.prog W = .ok (.tuple #[.complex .f64 0 0, .bool false]) W := by kernel_rfl
theorem to_7_7 (v : Value) (W : World) : (Instr.typeAssert (.iface 260 v) 29 34 true).run Tryz.prog W = .ok (.tuple #[.string ⟨#[]⟩, .bool false]) W := by kernel_rfl
theorem to_7_8 (v : Value) (W : World) : (Instr.typeAssert (.iface 260 v) 29 37 true).run Tryz.prog W = .ok (.tuple #[.slice none 0 0, .bool false]) W := by kernel_rfl
theorem to_7_9 (v : Value) (W : World) : (Instr.typeAssert (.iface 260 v) 29 40 true).run Tryz.prog W = .ok (.tuple #[.slice none 0 0, .bool false]) W := by kernel_rfl
theorem to_7_10 (v : Value) (W : World) : (Instr.typeAssert (.iface 260 v) 29 163 true).run Tryz.prog W = .ok (.tuple #[.slice none 0 0, .bool false]) W := by kernel_rfl
theorem to_7_11 (v : Value) (W : World) : (Instr.typeAssert (.iface 260 v) 29 165 true).run Tryz.prog W = .ok (.tuple #[.slice none 0 0, .bool false]) W := by kernel_rfl
theorem tw_8_3 (v : Value) (W : World) : (Instr.typeAssert (.iface 261 v) 29 257 true).run Tryz.prog W = .ok (.tuple #[.int .i8 0, .bool false]) W := by kernel_rfl
theorem tw_8_4 (v : Value) (W : World) : (Instr.typeAssert (.iface 261 v) 29 127 true).run Tryz.prog W = .ok (.tuple #[.int .i16 0, .bool false]) W := by kernel_rfl
theorem tw_8_5 (v : Value) (W : World) : (Instr.typeAssert (.iface 261 v) 29 258 true).run Tryz.prog W = .ok (.tuple #[.int .i32 0, .bool false]) W := by kernel_rfl
theorem tw_8_6 (v : Value) (W : World) : (Instr.typeAssert (.iface 261 v) 29 259 true).run Tryz.prog W = .ok (.tuple #[.int .i64 0, .bool false]) W := by kernel_rfl
theorem tw_8_7 (v : Value) (W : World) : (Instr.typeAssert (.iface 261 v) 29 260 true).run Tryz.prog W = .ok (.tuple #[.int .u8 0, .bool false]) W := by kernel_rfl
theorem tw_8 (v : Value) (W : World) : (Instr.typeAssert (.iface 261 v) 29 261 true).run Tryz.prog W = .ok (.tuple #[v, .bool true]) W := by kernel_rfl
theorem to_8_0 (v : Value) (W : World) : (Instr.typeAssert (.iface 261 v) 29 53 true).run Tryz.prog W = .ok (.tuple #[.pointer none, .bool false]) W := by kernel_rfl
theorem to_8_1 (v : Value) (W : World) : (Instr.typeAssert (.iface 261 v) 29 155 true).run Tryz.prog W = .ok (.tuple #[.agg #[], .bool false]) W := by kernel_rfl
theorem to_8_2 (v : Value) (W : World) : (Instr.typeAssert (.iface 261 v) 29 156 true).run Tryz.prog W = .ok (.tuple #[.bool false, .bool false]) W := by kernel_rfl
theorem to_8_3 (v : Value) (W : World) : (Instr.typeAssert (.iface 261 v) 29 158 true).run Tryz.prog W = .ok (.tuple #[.float .f32 0, .bool false]) W := by kernel_rfl
theorem to_8_4 (v : Value) (W : World) : (Instr.typeAssert (.iface 261 v) 29 101 true).run Tryz.prog W = .ok (.tuple #[.float .f64 0, .bool false]) W := by kernel_rfl
theorem to_8_5 (v : Value) (W : World) : (Instr.typeAssert (.iface 261 v) 29 161 true).run Tryz.prog W = .ok (.tuple #[.complex .f32 0 0, .bool false]) W := by kernel_rfl
theorem to_8_6 (v : Value) (W : World) : (Instr.typeAssert (.iface 261 v) 29 107 true).run Tryz.prog W = .ok (.tuple #[.complex .f64 0 0, .bool false]) W := by kernel_rfl
theorem to_8_7 (v : Value) (W : World) : (Instr.typeAssert (.iface 261 v) 29 34 true).run Tryz.prog W = .ok (.tuple #[.string ⟨#[]⟩, .bool false]) W := by kernel_rfl
theorem to_8_8 (v : Value) (W : World) : (Instr.typeAssert (.iface 261 v) 29 37 true).run Tryz.prog W = .ok (.tuple #[.slice none 0 0, .bool false]) W := by kernel_rfl
theorem to_8_9 (v : Value) (W : World) : (Instr.typeAssert (.iface 261 v) 29 40 true).run Tryz.prog W = .ok (.tuple #[.slice none 0 0, .bool false]) W := by kernel_rfl
theorem to_8_10 (v : Value) (W : World) : (Instr.typeAssert (.iface 261 v) 29 163 true).run Tryz.prog W = .ok (.tuple #[.slice none 0 0, .bool false]) W := by kernel_rfl
theorem to_8_11 (v : Value) (W : World) : (Instr.typeAssert (.iface 261 v) 29 165 true).run Tryz.prog W = .ok (.tuple #[.slice none 0 0, .bool false]) W := by kernel_rfl
theorem tw_9_3 (v : Value) (W : World) : (Instr.typeAssert (.iface 262 v) 29 257 true).run Tryz.prog W = .ok (.tuple #[.int .i8 0, .bool false]) W := by kernel_rfl
theorem tw_9_4 (v : Value) (W : World) : (Instr.typeAssert (.iface 262 v) 29 127 true).run Tryz.prog W = .ok (.tuple #[.int .i16 0, .bool false]) W := by kernel_rfl
theorem tw_9_5 (v : Value) (W : World) : (Instr.typeAssert (.iface 262 v) 29 258 true).run Tryz.prog W = .ok (.tuple #[.int .i32 0, .bool false]) W := by kernel_rfl
theorem tw_9_6 (v : Value) (W : World) : (Instr.typeAssert (.iface 262 v) 29 259 true).run Tryz.prog W = .ok (.tuple #[.int .i64 0, .bool false]) W := by kernel_rfl
theorem tw_9_7 (v : Value) (W : World) : (Instr.typeAssert (.iface 262 v) 29 260 true).run Tryz.prog W = .ok (.tuple #[.int .u8 0, .bool false]) W := by kernel_rfl
theorem tw_9_8 (v : Value) (W : World) : (Instr.typeAssert (.iface 262 v) 29 261 true).run Tryz.prog W = .ok (.tuple #[.int .u16 0, .bool false]) W := by kernel_rfl
theorem tw_9 (v : Value) (W : World) : (Instr.typeAssert (.iface 262 v) 29 262 true).run Tryz.prog W = .ok (.tuple #[v, .bool true]) W := by kernel_rfl
theorem to_9_0 (v : Value) (W : World) : (Instr.typeAssert (.iface 262 v) 29 53 true).run Tryz.prog W = .ok (.tuple #[.pointer none, .bool false]) W := by kernel_rfl
theorem to_9_1 (v : Value) (W : World) : (Instr.typeAssert (.iface 262 v) 29 155 true).run Tryz.prog W = .ok (.tuple #[.agg #[], .bool false]) W := by kernel_rfl
theorem to_9_2 (v : Value) (W : World) : (Instr.typeAssert (.iface 262 v) 29 156 true).run Tryz.prog W = .ok (.tuple #[.bool false, .bool false]) W := by kernel_rfl
theorem to_9_3 (v : Value) (W : World) : (Instr.typeAssert (.iface 262 v) 29 158 true).run Tryz.prog W = .ok (.tuple #[.float .f32 0, .bool false]) W := by kernel_rfl
theorem to_9_4 (v : Value) (W : World) : (Instr.typeAssert (.iface 262 v) 29 101 true).run Tryz.prog W = .ok (.tuple #[.float .f64 0, .bool false]) W := by kernel_rfl
theorem to_9_5 (v : Value) (W : World) : (Instr.typeAssert (.iface 262 v) 29 161 true).run Tryz.prog W = .ok (.tuple #[.complex .f32 0 0, .bool false]) W := by kernel_rfl
theorem to_9_6 (v : Value) (W : World) : (Instr.typeAssert (.iface 262 v) 29 107 true).run Tryz.prog W = .ok (.tuple #[.complex .f64 0 0, .bool false]) W := by kernel_rfl
theorem to_9_7 (v : Value) (W : World) : (Instr.typeAssert (.iface 262 v) 29 34 true).run Tryz.prog W = .ok (.tuple #[.string ⟨#[]⟩, .bool false]) W := by kernel_rfl
theorem to_9_8 (v : Value) (W : World) : (Instr.typeAssert (.iface 262 v) 29 37 true).run Tryz.prog W = .ok (.tuple #[.slice none 0 0, .bool false]) W := by kernel_rfl
theorem to_9_9 (v : Value) (W : World) : (Instr.typeAssert (.iface 262 v) 29 40 true).run Tryz.prog W = .ok (.tuple #[.slice none 0 0, .bool false]) W := by kernel_rfl
theorem to_9_10 (v : Value) (W : World) : (Instr.typeAssert (.iface 262 v) 29 163 true).run Tryz.prog W = .ok (.tuple #[.slice none 0 0, .bool false]) W := by kernel_rfl
theorem to_9_11 (v : Value) (W : World) : (Instr.typeAssert (.iface 262 v) 29 165 true).run Tryz.prog W = .ok (.tuple #[.slice none 0 0, .bool false]) W := by kernel_rfl
theorem tw_10_3 (v : Value) (W : World) : (Instr.typeAssert (.iface 263 v) 29 257 true).run Tryz.prog W = .ok (.tuple #[.int .i8 0, .bool false]) W := by kernel_rfl
theorem tw_10_4 (v : Value) (W : World) : (Instr.typeAssert (.iface 263 v) 29 127 true).run Tryz.prog W = .ok (.tuple #[.int .i16 0, .bool false]) W := by kernel_rfl
theorem tw_10_5 (v : Value) (W : World) : (Instr.typeAssert (.iface 263 v) 29 258 true).run Tryz.prog W = .ok (.tuple #[.int .i32 0, .bool false]) W := by kernel_rfl
theorem tw_10_6 (v : Value) (W : World) : (Instr.typeAssert (.iface 263 v) 29 259 true).run Tryz.prog W = .ok (.tuple #[.int .i64 0, .bool false]) W := by kernel_rfl
theorem tw_10_7 (v : Value) (W : World) : (Instr.typeAssert (.iface 263 v) 29 260 true).run Tryz.prog W = .ok (.tuple #[.int .u8 0, .bool false]) W := by kernel_rfl
theorem tw_10_8 (v : Value) (W : World) : (Instr.typeAssert (.iface 263 v) 29 261 true).run Tryz.prog W = .ok (.tuple #[.int .u16 0, .bool false]) W := by kernel_rfl
theorem tw_10_9 (v : Value) (W : World) : (Instr.typeAssert (.iface 263 v) 29 262 true).run Tryz.prog W = .ok (.tuple #[.int .u32 0, .bool false]) W := by kernel_rfl
theorem tw_10 (v : Value) (W : World) : (Instr.typeAssert (.iface 263 v) 29 263 true).run Tryz.prog W = .ok (.tuple #[v, .bool true]) W := by kernel_rfl
theorem to_10_0 (v : Value) (W : World) : (Instr.typeAssert (.iface 263 v) 29 53 true).run Tryz.prog W = .ok (.tuple #[.pointer none, .bool false]) W := by kernel_rfl
theorem to_10_1 (v : Value) (W : World) : (Instr.typeAssert (.iface 263 v) 29 155 true).run Tryz.prog W = .ok (.tuple #[.agg #[], .bool false]) W := by kernel_rfl
theorem to_10_2 (v : Value) (W : World) : (Instr.typeAssert (.iface 263 v) 29 156 true).run Tryz.prog W = .ok (.tuple #[.bool false, .bool false]) W := by kernel_rfl
theorem to_10_3 (v : Value) (W : World) : (Instr.typeAssert (.iface 263 v) 29 158 true).run Tryz.prog W = .ok (.tuple #[.float .f32 0, .bool false]) W := by kernel_rfl
theorem to_10_4 (v : Value) (W : World) : (Instr.typeAssert (.iface 263 v) 29 101 true).run Tryz.prog W = .ok (.tuple #[.float .f64 0, .bool false]) W := by kernel_rfl
theorem to_10_5 (v : Value) (W : World) : (Instr.typeAssert (.iface 263 v) 29 161 true).run Tryz.prog W = .ok (.tuple #[.complex .f32 0 0, .bool false]) W := by kernel_rfl
theorem to_10_6 (v : Value) (W : World) : (Instr.typeAssert (.iface 263 v) 29 107 true).run Tryz.prog W = .ok (.tuple #[.complex .f64 0 0, .bool false]) W := by kernel_rfl
theorem to_10_7 (v : Value) (W : World) : (Instr.typeAssert (.iface 263 v) 29 34 true).run Tryz.prog W = .ok (.tuple #[.string ⟨#[]⟩, .bool false]) W := by kernel_rfl
theorem to_10_8 (v : Value) (W : World) : (Instr.typeAssert (.iface 263 v) 29 37 true).run Tryz.prog W = .ok (.tuple #[.slice none 0 0, .bool false]) W := by kernel_rfl
theorem to_10_9 (v : Value) (W : World) : (Instr.typeAssert (.iface 263 v) 29 40 true).run Tryz.prog W = .ok (.tuple #[.slice none 0 0, .bool false]) W := by kernel_rfl
theorem to_10_10 (v : Value) (W : World) : (Instr.typeAssert (.iface 263 v) 29 163 true).run Tryz.prog W = .ok (.tuple #[.slice none 0 0, .bool false]) W := by kernel_rfl
theorem to_10_11 (v : Value) (W : World) : (Instr.typeAssert (.iface 263 v) 29 165 true).run Tryz.prog W = .ok (.tuple #[.slice none 0 0, .bool false]) W := by kernel_rfl
theorem law_whole_3 (z : Int) (hz : loK 3 ≤ z ∧ z ≤ hiK 3) (w : World) : Calls Tryz.prog 56 #[.iface 257 (.int .i8 z), .agg (bdC 3 false z 0)] w fun e w' => e = .returned (.bool true) ∧ w' = w.alloc (.cells (bdC 3 false z 0) 92) := by
 obtain ⟨h1, h2⟩ := hz
 have hwb : IntKind.wrap .i64 z = z := wrap_in (by unfold loK at h1; unfold hiK at h2; simp at h1 h2; show -9223372036854775808 ≤ z; omega) (by unfold loK at h1; unfold hiK at h2; simp at h1 h2; show z ≤ 9223372036854775807; omega)
 have hw64 : wrap64 z = z := by unfold loK at h1; unfold hiK at h2; simp at h1 h2; unfold wrap64; omega
 have e1 : (z == z) = true := by simp
 have t3 := tw_3
 clear h1 h2
 go_enter Tryz.func56, Tryz.ntmps56
 go_wp2
 go_ret
 exact ⟨rfl, rfl⟩
theorem law_whole_4 (z : Int) (hz : loK 4 ≤ z ∧ z ≤ hiK 4) (w : World) : Calls Tryz.prog 56 #[.iface 127 (.int .i16 z), .agg (bdC 4 false z 0)] w fun e w' => e = .returned (.bool true) ∧ w' = w.alloc (.cells (bdC 4 false z 0) 92) := by
 obtain ⟨h1, h2⟩ := hz
 have hwb : IntKind.wrap .i64 z = z := wrap_in (by unfold loK at h1; unfold hiK at h2; simp at h1 h2; show -9223372036854775808 ≤ z; omega) (by unfold loK at h1; unfold hiK at h2; simp at h1 h2; show z ≤ 9223372036854775807; omega)
 have hw64 : wrap64 z = z := by unfold loK at h1; unfold hiK at h2; simp at h1 h2; unfold wrap64; omega
 have e1 : (z == z) = true := by simp
 have t3 := tw_4_3
 have t4 := tw_4
 clear h1 h2
 go_enter Tryz.func56, Tryz.ntmps56
 go_wp2
 go_ret
 exact ⟨rfl, rfl⟩
theorem law_whole_5 (z : Int) (hz : loK 5 ≤ z ∧ z ≤ hiK 5) (w : World) : Calls Tryz.prog 56 #[.iface 258 (.int .i32 z), .agg (bdC 5 false z 0)] w fun e w' => e = .returned (.bool true) ∧ w' = w.alloc (.cells (bdC 5 false z 0) 92) := by
 obtain ⟨h1, h2⟩ := hz
 have hwb : IntKind.wrap .i64 z = z := wrap_in (by unfold loK at h1; unfold hiK at h2; simp at h1 h2; show -9223372036854775808 ≤ z; omega) (by unfold loK at h1; unfold hiK at h2; simp at h1 h2; show z ≤ 9223372036854775807; omega)
 have hw64 : wrap64 z = z := by unfold loK at h1; unfold hiK at h2; simp at h1 h2; unfold wrap64; omega
 have e1 : (z == z) = true := by simp
 have t3 := tw_5_3
 have t4 := tw_5_4
 have t5 := tw_5
 clear h1 h2
 go_enter Tryz.func56, Tryz.ntmps56
 go_wp2
 go_ret
 exact ⟨rfl, rfl⟩
theorem law_whole_6 (z : Int) (hz : loK 6 ≤ z ∧ z ≤ hiK 6) (w : World) : Calls Tryz.prog 56 #[.iface 259 (.int .i64 z), .agg (bdC 6 false z 0)] w fun e w' => e = .returned (.bool true) ∧ w' = w.alloc (.cells (bdC 6 false z 0) 92) := by
 obtain ⟨h1, h2⟩ := hz
 have hwb : IntKind.wrap .i64 z = z := wrap_in (by unfold loK at h1; unfold hiK at h2; simp at h1 h2; show -9223372036854775808 ≤ z; omega) (by unfold loK at h1; unfold hiK at h2; simp at h1 h2; show z ≤ 9223372036854775807; omega)
 have hw64 : wrap64 z = z := by unfold loK at h1; unfold hiK at h2; simp at h1 h2; unfold wrap64; omega
 have e1 : (z == z) = true := by simp
 have t3 := tw_6_3
 have t4 := tw_6_4
 have t5 := tw_6_5
 have t6 := tw_6
 clear h1 h2
 go_enter Tryz.func56, Tryz.ntmps56
 go_wp2
 go_ret
 exact ⟨rfl, rfl⟩
theorem law_whole_7 (z : Int) (hz : loK 7 ≤ z ∧ z ≤ hiK 7) (w : World) : Calls Tryz.prog 56 #[.iface 260 (.int .u8 z), .agg (bdC 7 false 0 z)] w fun e w' => e = .returned (.bool true) ∧ w' = w.alloc (.cells (bdC 7 false 0 z) 92) := by
 obtain ⟨h1, h2⟩ := hz
 have hwb : IntKind.wrap .u64 z = z := wrap_in (by unfold loK at h1; unfold hiK at h2; simp at h1 h2; show 0 ≤ z; omega) (by unfold loK at h1; unfold hiK at h2; simp at h1 h2; show z ≤ 18446744073709551615; omega)
 skip
 have e1 : (z == z) = true := by simp
 have t3 := tw_7_3
 have t4 := tw_7_4
 have t5 := tw_7_5
 have t6 := tw_7_6
 have t7 := tw_7
 clear h1 h2
 go_enter Tryz.func56, Tryz.ntmps56
 go_wp2
 go_ret
 exact ⟨rfl, rfl⟩
theorem law_whole_8 (z : Int) (hz : loK 8 ≤ z ∧ z ≤ hiK 8) (w : World) : Calls Tryz.prog 56 #[.iface 261 (.int .u16 z), .agg (bdC 8 false 0 z)] w fun e w' => e = .returned (.bool true) ∧ w' = w.alloc (.cells (bdC 8 false 0 z) 92) := by
 obtain ⟨h1, h2⟩ := hz
 have hwb : IntKind.wrap .u64 z = z := wrap_in (by unfold loK at h1; unfold hiK at h2; simp at h1 h2; show 0 ≤ z; omega) (by unfold loK at h1; unfold hiK at h2; simp at h1 h2; show z ≤ 18446744073709551615; omega)
 skip
 have e1 : (z == z) = true := by simp
 have t3 := tw_8_3
 have t4 := tw_8_4
 have t5 := tw_8_5
 have t6 := tw_8_6
 have t7 := tw_8_7
 have t8 := tw_8
 clear h1 h2
 go_enter Tryz.func56, Tryz.ntmps56
 go_wp2
 go_ret
 exact ⟨rfl, rfl⟩
theorem law_whole_9 (z : Int) (hz : loK 9 ≤ z ∧ z ≤ hiK 9) (w : World) : Calls Tryz.prog 56 #[.iface 262 (.int .u32 z), .agg (bdC 9 false 0 z)] w fun e w' => e = .returned (.bool true) ∧ w' = w.alloc (.cells (bdC 9 false 0 z) 92) := by
 obtain ⟨h1, h2⟩ := hz
 have hwb : IntKind.wrap .u64 z = z := wrap_in (by unfold loK at h1; unfold hiK at h2; simp at h1 h2; show 0 ≤ z; omega) (by unfold loK at h1; unfold hiK at h2; simp at h1 h2; show z ≤ 18446744073709551615; omega)
 skip
 have e1 : (z == z) = true := by simp
 have t3 := tw_9_3
 have t4 := tw_9_4
 have t5 := tw_9_5
 have t6 := tw_9_6
 have t7 := tw_9_7
 have t8 := tw_9_8
 have t9 := tw_9
 clear h1 h2
 go_enter Tryz.func56, Tryz.ntmps56
 go_wp2
 go_ret
 exact ⟨rfl, rfl⟩
theorem law_whole_10 (z : Int) (hz : loK 10 ≤ z ∧ z ≤ hiK 10) (w : World) : Calls Tryz.prog 56 #[.iface 263 (.int .u64 z), .agg (bdC 10 false 0 z)] w fun e w' => e = .returned (.bool true) ∧ w' = w.alloc (.cells (bdC 10 false 0 z) 92) := by
 obtain ⟨h1, h2⟩ := hz
 have hwb : IntKind.wrap .u64 z = z := wrap_in (by unfold loK at h1; unfold hiK at h2; simp at h1 h2; show 0 ≤ z; omega) (by unfold loK at h1; unfold hiK at h2; simp at h1 h2; show z ≤ 18446744073709551615; omega)
 skip
 have e1 : (z == z) = true := by simp
 have t3 := tw_10_3
 have t4 := tw_10_4
 have t5 := tw_10_5
 have t6 := tw_10_6
 have t7 := tw_10_7
 have t8 := tw_10_8
 have t9 := tw_10_9
 have t10 := tw_10
 clear h1 h2
 go_enter Tryz.func56, Tryz.ntmps56
 go_wp2
 go_ret
 exact ⟨rfl, rfl⟩
theorem law_bound_3 (z : Int) (hz : loK 3 ≤ z ∧ z ≤ hiK 3) (w : World) : Calls Tryz.prog 21 #[.iface 257 (.int .i8 z), .agg (bdC 3 false z 0)] w fun e w' => e = .returned (.bool true) ∧ Below w.heap.size w w' := by
 have HW := Lib.hid (law_whole_3 z hz)
 have t0 := to_3_0
 have t1 := to_3_1
 have t2 := to_3_2
 have t3 := to_3_3
 have t4 := to_3_4
 have t5 := to_3_5
 have t6 := to_3_6
 have t7 := to_3_7
 have t8 := to_3_8
 have t9 := to_3_9
 have t10 := to_3_10
 have t11 := to_3_11
 clear hz
 go_enter Tryz.func21, Tryz.ntmps21
 go_wp2_with fail
 ((with_reducible refine (HW.out _).mono ?_); rintro e w2 ⟨rfl, rfl⟩)
 go_wp2
 go_ret
 exact ⟨rfl, ((Below.refl _ _).alloc (Nat.le_refl _) _).alloc (by simp) _⟩
theorem law_bound_4 (z : Int) (hz : loK 4 ≤ z ∧ z ≤ hiK 4) (w : World) : Calls Tryz.prog 21 #[.iface 127 (.int .i16 z), .agg (bdC 4 false z 0)] w fun e w' => e = .returned (.bool true) ∧ Below w.heap.size w w' := by
 have HW := Lib.hid (law_whole_4 z hz)
 have t0 := to_4_0
 have t1 := to_4_1
 have t2 := to_4_2
 have t3 := to_4_3
 have t4 := to_4_4
 have t5 := to_4_5
 have t6 := to_4_6
 have t7 := to_4_7
 have t8 := to_4_8
 have t9 := to_4_9
 have t10 := to_4_10
 have t11 := to_4_11
 clear hz
 go_enter Tryz.func21, Tryz.ntmps21
 go_wp2_with fail
 ((with_reducible refine (HW.out _).mono ?_); rintro e w2 ⟨rfl, rfl⟩)
 go_wp2
 go_ret
 exact ⟨rfl, ((Below.refl _ _).alloc (Nat.le_refl _) _).alloc (by simp) _⟩
theorem law_bound_5 (z : Int) (hz : loK 5 ≤ z ∧ z ≤ hiK 5) (w : World) : Calls Tryz.prog 21 #[.iface 258 (.int .i32 z), .agg (bdC 5 false z 0)] w fun e w' => e = .returned (.bool true) ∧ Below w.heap.size w w' := by
 have HW := Lib.hid (law_whole_5 z hz)
 have t0 := to_5_0
 have t1 := to_5_1
 have t2 := to_5_2
 have t3 := to_5_3
 have t4 := to_5_4
 have t5 := to_5_5
 have t6 := to_5_6
 have t7 := to_5_7
 have t8 := to_5_8
 have t9 := to_5_9
 have t10 := to_5_10
 have t11 := to_5_11
 clear hz
 go_enter Tryz.func21, Tryz.ntmps21
 go_wp2_with fail
 ((with_reducible refine (HW.out _).mono ?_); rintro e w2 ⟨rfl, rfl⟩)
 go_wp2
 go_ret
 exact ⟨rfl, ((Below.refl _ _).alloc (Nat.le_refl _) _).alloc (by simp) _⟩
theorem law_bound_6 (z : Int) (hz : loK 6 ≤ z ∧ z ≤ hiK 6) (w : World) : Calls Tryz.prog 21 #[.iface 259 (.int .i64 z), .agg (bdC 6 false z 0)] w fun e w' => e = .returned (.bool true) ∧ Below w.heap.size w w' := by
 have HW := Lib.hid (law_whole_6 z hz)
 have t0 := to_6_0
 have t1 := to_6_1
 have t2 := to_6_2
 have t3 := to_6_3
 have t4 := to_6_4
 have t5 := to_6_5
 have t6 := to_6_6
 have t7 := to_6_7
 have t8 := to_6_8
 have t9 := to_6_9
 have t10 := to_6_10
 have t11 := to_6_11
 clear hz
 go_enter Tryz.func21, Tryz.ntmps21
 go_wp2_with fail
 ((with_reducible refine (HW.out _).mono ?_); rintro e w2 ⟨rfl, rfl⟩)
 go_wp2
 go_ret
 exact ⟨rfl, ((Below.refl _ _).alloc (Nat.le_refl _) _).alloc (by simp) _⟩
theorem law_bound_7 (z : Int) (hz : loK 7 ≤ z ∧ z ≤ hiK 7) (w : World) : Calls Tryz.prog 21 #[.iface 260 (.int .u8 z), .agg (bdC 7 false 0 z)] w fun e w' => e = .returned (.bool true) ∧ Below w.heap.size w w' := by
 have HW := Lib.hid (law_whole_7 z hz)
 have t0 := to_7_0
 have t1 := to_7_1
 have t2 := to_7_2
 have t3 := to_7_3
 have t4 := to_7_4
 have t5 := to_7_5
 have t6 := to_7_6
 have t7 := to_7_7
 have t8 := to_7_8
 have t9 := to_7_9
 have t10 := to_7_10
 have t11 := to_7_11
 clear hz
 go_enter Tryz.func21, Tryz.ntmps21
 go_wp2_with fail
 ((with_reducible refine (HW.out _).mono ?_); rintro e w2 ⟨rfl, rfl⟩)
 go_wp2
 go_ret
 exact ⟨rfl, ((Below.refl _ _).alloc (Nat.le_refl _) _).alloc (by simp) _⟩
theorem law_bound_8 (z : Int) (hz : loK 8 ≤ z ∧ z ≤ hiK 8) (w : World) : Calls Tryz.prog 21 #[.iface 261 (.int .u16 z), .agg (bdC 8 false 0 z)] w fun e w' => e = .returned (.bool true) ∧ Below w.heap.size w w' := by
 have HW := Lib.hid (law_whole_8 z hz)
 have t0 := to_8_0
 have t1 := to_8_1
 have t2 := to_8_2
 have t3 := to_8_3
 have t4 := to_8_4
 have t5 := to_8_5
 have t6 := to_8_6
 have t7 := to_8_7
 have t8 := to_8_8
 have t9 := to_8_9
 have t10 := to_8_10
 have t11 := to_8_11
 clear hz
 go_enter Tryz.func21, Tryz.ntmps21
 go_wp2_with fail
 ((with_reducible refine (HW.out _).mono ?_); rintro e w2 ⟨rfl, rfl⟩)
 go_wp2
 go_ret
 exact ⟨rfl, ((Below.refl _ _).alloc (Nat.le_refl _) _).alloc (by simp) _⟩
theorem law_bound_9 (z : Int) (hz : loK 9 ≤ z ∧ z ≤ hiK 9) (w : World) : Calls Tryz.prog 21 #[.iface 262 (.int .u32 z), .agg (bdC 9 false 0 z)] w fun e w' => e = .returned (.bool true) ∧ Below w.heap.size w w' := by
 have HW := Lib.hid (law_whole_9 z hz)
 have t0 := to_9_0
 have t1 := to_9_1
 have t2 := to_9_2
 have t3 := to_9_3
 have t4 := to_9_4
 have t5 := to_9_5
 have t6 := to_9_6
 have t7 := to_9_7
 have t8 := to_9_8
 have t9 := to_9_9
 have t10 := to_9_10
 have t11 := to_9_11
 clear hz
 go_enter Tryz.func21, Tryz.ntmps21
 go_wp2_with fail
 ((with_reducible refine (HW.out _).mono ?_); rintro e w2 ⟨rfl, rfl⟩)
 go_wp2
 go_ret
 exact ⟨rfl, ((Below.refl _ _).alloc (Nat.le_refl _) _).alloc (by simp) _⟩
theorem law_bound_10 (z : Int) (hz : loK 10 ≤ z ∧ z ≤ hiK 10) (w : World) : Calls Tryz.prog 21 #[.iface 263 (.int .u64 z), .agg (bdC 10 false 0 z)] w fun e w' => e = .returned (.bool true) ∧ Below w.heap.size w w' := by
 have HW := Lib.hid (law_whole_10 z hz)
 have t0 := to_10_0
 have t1 := to_10_1
 have t2 := to_10_2
 have t3 := to_10_3
 have t4 := to_10_4
 have t5 := to_10_5
 have t6 := to_10_6
 have t7 := to_10_7
 have t8 := to_10_8
 have t9 := to_10_9
 have t10 := to_10_10
 have t11 := to_10_11
 clear hz
 go_enter Tryz.func21, Tryz.ntmps21
 go_wp2_with fail
 ((with_reducible refine (HW.out _).mono ?_); rintro e w2 ⟨rfl, rfl⟩)
 go_wp2
 go_ret
 exact ⟨rfl, ((Below.refl _ _).alloc (Nat.le_refl _) _).alloc (by simp) _⟩
theorem law_bound_k (k : Nat) (h3 : 3 ≤ k) (h10 : k ≤ 10) (z : Int) (hz : loK k ≤ z ∧ z ≤ hiK k) (w : World) : Calls Tryz.prog 21 #[intV k z, .agg (if k < 7 then bdC k false z 0 else bdC k false 0 z)] w fun e w' => e = .returned (.bool true) ∧ Below w.heap.size w w' := by
 rcases (by omega : k = 3 ∨ k = 4 ∨ k = 5 ∨ k = 6 ∨ k = 7 ∨ k = 8 ∨ k = 9 ∨ k = 10) with rfl | rfl | rfl | rfl | rfl | rfl | rfl | rfl
 ·exact law_bound_3 z hz w
 ·exact law_bound_4 z hz w
 ·exact law_bound_5 z hz w
 ·exact law_bound_6 z hz w
 ·exact law_bound_7 z hz w
 ·exact law_bound_8 z hz w
 ·exact law_bound_9 z hz w
 ·exact law_bound_10 z hz w
end Nd
end Go.Proofs.YtbajkglacfheiaaGreatDoor
