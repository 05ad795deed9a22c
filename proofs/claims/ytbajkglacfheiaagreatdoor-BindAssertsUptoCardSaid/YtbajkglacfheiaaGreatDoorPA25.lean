/-
  Of the type of each kind: its methods, the assertions on it.
  The law BindAsserts of layer 16: its walk.
-/
import Derived.Test.YtbajkglacfheiaaGreatDoorPA24
import Derived.Stop.Asserts
set_option linter.unusedVariables false
set_option linter.unusedSimpArgs false
set_option maxRecDepth 100000
set_option maxHeartbeats 16000000
namespace Go.Proofs.YtbajkglacfheiaaGreatDoor
open Go.RowKit Mem Utf Ref3 Idx Tok TokC Ieee
namespace Nd
theorem bdI : Tryz.prog.underlying 29 = some (.interface (Tryz.prog.methodsAt 29)) := by kernel_rfl
theorem bd_eq_nil (w : World) : (binOp .eql 29 .nilIface .nilIface).run Tryz.prog w = .ok (.bool true) w := run_eql_nil_nil w _ bdI
theorem bd_eq_held (u : TypeId) (x : Value) (w : World) : (binOp .eql 29 (.iface u x) .nilIface).run Tryz.prog w = .ok (.bool false) w := run_eql_held_nil w _ u x bdI
structure Mth (T : TypeId) (x : Value) (n : String) (r : Value) (f : FuncId) : Prop where
 m0 : ∀ w, (method (514 + 1) T x n).run Tryz.prog w = .ok (f, x) w
 m1 : ∀ w, (callFunc f #[x]).run Tryz.prog w = .ok (.enter f #[x]) w
 m2 : ∀ w, Calls Tryz.prog f #[x] w fun e w' => e = .returned r ∧ Below w.heap.size w w'
structure KF (k : Nat) (x : Value) (isW isR : Bool) : Prop where
 kind : ∃ f, Mth (tyK k) x "Kind" (.int .i64 (k : Int)) f
 tw : ∀ w, (Instr.typeAssert (.iface (tyK k) x) 29 48 true).run Tryz.prog w = .ok (.tuple #[if isW then .iface (tyK k) x else .nilIface, .bool isW]) w
 tr : ∀ w, (Instr.typeAssert (.iface (tyK k) x) 29 51 true).run Tryz.prog w = .ok (.tuple #[if isR then .iface (tyK k) x else .nilIface, .bool isR]) w
theorem tm_all (k : Nat) (h1 : 1 ≤ k) (h19 : k ≤ 19) (v : Value) (w : World) : (Instr.typeAssert (.iface (tyK k) v) 29 53 true).run Tryz.prog w = .ok (.tuple #[.pointer none, .bool false]) w := by
 rcases (by omega : k = 1 ∨ k = 2 ∨ k = 3 ∨ k = 4 ∨ k = 5 ∨ k = 6 ∨ k = 7 ∨ k = 8 ∨ k = 9 ∨ k = 10 ∨ k = 11 ∨ k = 12 ∨ k = 13 ∨ k = 14 ∨ k = 15 ∨ k = 16 ∨ k = 17 ∨ k = 18 ∨ k = 19) with rfl | rfl | rfl | rfl | rfl | rfl | rfl | rfl | rfl | rfl | rfl | rfl | rfl | rfl | rfl | rfl | rfl | rfl | rfl
 ·exact (show (Instr.typeAssert (.iface 155 v) 29 53 true).run Tryz.prog w = .ok (.tuple #[.pointer none, .bool false]) w by kernel_rfl)
 ·exact (show (Instr.typeAssert (.iface 156 v) 29 53 true).run Tryz.prog w = .ok (.tuple #[.pointer none, .bool false]) w by kernel_rfl)
 ·exact (show (Instr.typeAssert (.iface 257 v) 29 53 true).run Tryz.prog w = .ok (.tuple #[.pointer none, .bool false]) w by kernel_rfl)
 ·exact (show (Instr.typeAssert (.iface 127 v) 29 53 true).run Tryz.prog w = .ok (.tuple #[.pointer none, .bool false]) w by kernel_rfl)
 ·exact (show (Instr.typeAssert (.iface 258 v) 29 53 true).run Tryz.prog w = .ok (.tuple #[.pointer none, .bool false]) w by kernel_rfl)
 ·exact (show (Instr.typeAssert (.iface 259 v) 29 53 true).run Tryz.prog w = .ok (.tuple #[.pointer none, .bool false]) w by kernel_rfl)
 ·exact (show (Instr.typeAssert (.iface 260 v) 29 53 true).run Tryz.prog w = .ok (.tuple #[.pointer none, .bool false]) w by kernel_rfl)
 ·exact (show (Instr.typeAssert (.iface 261 v) 29 53 true).run Tryz.prog w = .ok (.tuple #[.pointer none, .bool false]) w by kernel_rfl)
 ·exact (show (Instr.typeAssert (.iface 262 v) 29 53 true).run Tryz.prog w = .ok (.tuple #[.pointer none, .bool false]) w by kernel_rfl)
 ·exact (show (Instr.typeAssert (.iface 263 v) 29 53 true).run Tryz.prog w = .ok (.tuple #[.pointer none, .bool false]) w by kernel_rfl)
 ·exact (show (Instr.typeAssert (.iface 158 v) 29 53 true).run Tryz.prog w = .ok (.tuple #[.pointer none, .bool false]) w by kernel_rfl)
 ·exact (show (Instr.typeAssert (.iface 101 v) 29 53 true).run Tryz.prog w = .ok (.tuple #[.pointer none, .bool false]) w by kernel_rfl)
 ·exact (show (Instr.typeAssert (.iface 161 v) 29 53 true).run Tryz.prog w = .ok (.tuple #[.pointer none, .bool false]) w by kernel_rfl)
 ·exact (show (Instr.typeAssert (.iface 107 v) 29 53 true).run Tryz.prog w = .ok (.tuple #[.pointer none, .bool false]) w by kernel_rfl)
 ·exact (show (Instr.typeAssert (.iface 34 v) 29 53 true).run Tryz.prog w = .ok (.tuple #[.pointer none, .bool false]) w by kernel_rfl)
 ·exact (show (Instr.typeAssert (.iface 37 v) 29 53 true).run Tryz.prog w = .ok (.tuple #[.pointer none, .bool false]) w by kernel_rfl)
 ·exact (show (Instr.typeAssert (.iface 40 v) 29 53 true).run Tryz.prog w = .ok (.tuple #[.pointer none, .bool false]) w by kernel_rfl)
 ·exact (show (Instr.typeAssert (.iface 163 v) 29 53 true).run Tryz.prog w = .ok (.tuple #[.pointer none, .bool false]) w by kernel_rfl)
 ·exact (show (Instr.typeAssert (.iface 165 v) 29 53 true).run Tryz.prog w = .ok (.tuple #[.pointer none, .bool false]) w by kernel_rfl)
theorem tm_ms (w : World) : (Instr.typeAssert (.iface 53 (.pointer none)) 29 53 true).run Tryz.prog w = .ok (.tuple #[.pointer none, .bool true]) w := by kernel_rfl
theorem ms_kind : Mth 53 (.pointer none) "Kind" (.int .i64 0) 259 := ⟨fun w => by kernel_rfl, fun w => by kernel_rfl, fun w => by
 go_enter Tryz.func259, Tryz.ntmps259
 go_wp2
 go_ret
 exact ⟨rfl, Below.refl _ _⟩⟩
theorem kk_1 : Mth 155 (.agg #[]) "Kind" (.int .i64 1) 274 := ⟨fun w => by kernel_rfl, fun w => by kernel_rfl, fun w => by
 go_enter Tryz.func274, Tryz.ntmps274
 go_wp2
 go_ret
 first | exact ⟨rfl, Below.refl _ _⟩ | exact ⟨rfl, (Below.refl _ _).alloc (Nat.le_refl _) _⟩⟩
theorem kf_1 : KF 1 (.agg #[]) false false := ⟨⟨_, kk_1⟩, fun w => run_typeAssert_lacksB Tryz.underlying48 (by kernel_rfl) (by kernel_rfl) _ _ w, fun w => run_typeAssert_lacksB Tryz.underlying51 (by kernel_rfl) (by kernel_rfl) _ _ w⟩
theorem kk_2 (v : Value) : Mth 156 v "Kind" (.int .i64 2) 275 := ⟨fun w => by kernel_rfl, fun w => by kernel_rfl, fun w => by
 go_enter Tryz.func275, Tryz.ntmps275
 go_wp2
 go_ret
 first | exact ⟨rfl, Below.refl _ _⟩ | exact ⟨rfl, (Below.refl _ _).alloc (Nat.le_refl _) _⟩⟩
theorem kf_2 (v : Value) : KF 2 v false false := ⟨⟨_, kk_2 v⟩, fun w => run_typeAssert_lacksB Tryz.underlying48 (by kernel_rfl) (by kernel_rfl) _ _ w, fun w => run_typeAssert_lacksB Tryz.underlying51 (by kernel_rfl) (by kernel_rfl) _ _ w⟩
theorem kk_3 (v : Value) : Mth 257 v "Kind" (.int .i64 3) 294 := ⟨fun w => by kernel_rfl, fun w => by kernel_rfl, fun w => by
 go_enter Tryz.func294, Tryz.ntmps294
 go_wp2
 go_ret
 first | exact ⟨rfl, Below.refl _ _⟩ | exact ⟨rfl, (Below.refl _ _).alloc (Nat.le_refl _) _⟩⟩
theorem kf_3 (v : Value) : KF 3 v true true := ⟨⟨_, kk_3 v⟩, fun w => (show (Instr.typeAssert (.iface 257 v) 29 48 true).run Tryz.prog w = .ok (.tuple #[.iface 257 v, .bool true]) w by kernel_rfl), fun w => (show (Instr.typeAssert (.iface 257 v) 29 51 true).run Tryz.prog w = .ok (.tuple #[.iface 257 v, .bool true]) w by kernel_rfl)⟩
theorem kk_4 (v : Value) : Mth 127 v "Kind" (.int .i64 4) 269 := ⟨fun w => by kernel_rfl, fun w => by kernel_rfl, fun w => by
 go_enter Tryz.func269, Tryz.ntmps269
 go_wp2
 go_ret
 first | exact ⟨rfl, Below.refl _ _⟩ | exact ⟨rfl, (Below.refl _ _).alloc (Nat.le_refl _) _⟩⟩
theorem kf_4 (v : Value) : KF 4 v true true := ⟨⟨_, kk_4 v⟩, fun w => (show (Instr.typeAssert (.iface 127 v) 29 48 true).run Tryz.prog w = .ok (.tuple #[.iface 127 v, .bool true]) w by kernel_rfl), fun w => (show (Instr.typeAssert (.iface 127 v) 29 51 true).run Tryz.prog w = .ok (.tuple #[.iface 127 v, .bool true]) w by kernel_rfl)⟩
theorem kk_5 (v : Value) : Mth 258 v "Kind" (.int .i64 5) 297 := ⟨fun w => by kernel_rfl, fun w => by kernel_rfl, fun w => by
 go_enter Tryz.func297, Tryz.ntmps297
 go_wp2
 go_ret
 first | exact ⟨rfl, Below.refl _ _⟩ | exact ⟨rfl, (Below.refl _ _).alloc (Nat.le_refl _) _⟩⟩
theorem kf_5 (v : Value) : KF 5 v true true := ⟨⟨_, kk_5 v⟩, fun w => (show (Instr.typeAssert (.iface 258 v) 29 48 true).run Tryz.prog w = .ok (.tuple #[.iface 258 v, .bool true]) w by kernel_rfl), fun w => (show (Instr.typeAssert (.iface 258 v) 29 51 true).run Tryz.prog w = .ok (.tuple #[.iface 258 v, .bool true]) w by kernel_rfl)⟩
theorem kk_6 (v : Value) : Mth 259 v "Kind" (.int .i64 6) 300 := ⟨fun w => by kernel_rfl, fun w => by kernel_rfl, fun w => by
 go_enter Tryz.func300, Tryz.ntmps300
 go_wp2
 go_ret
 first | exact ⟨rfl, Below.refl _ _⟩ | exact ⟨rfl, (Below.refl _ _).alloc (Nat.le_refl _) _⟩⟩
theorem kf_6 (v : Value) : KF 6 v true true := ⟨⟨_, kk_6 v⟩, fun w => (show (Instr.typeAssert (.iface 259 v) 29 48 true).run Tryz.prog w = .ok (.tuple #[.iface 259 v, .bool true]) w by kernel_rfl), fun w => (show (Instr.typeAssert (.iface 259 v) 29 51 true).run Tryz.prog w = .ok (.tuple #[.iface 259 v, .bool true]) w by kernel_rfl)⟩
theorem kk_7 (v : Value) : Mth 260 v "Kind" (.int .i64 7) 303 := ⟨fun w => by kernel_rfl, fun w => by kernel_rfl, fun w => by
 go_enter Tryz.func303, Tryz.ntmps303
 go_wp2
 go_ret
 first | exact ⟨rfl, Below.refl _ _⟩ | exact ⟨rfl, (Below.refl _ _).alloc (Nat.le_refl _) _⟩⟩
theorem kf_7 (v : Value) : KF 7 v true true := ⟨⟨_, kk_7 v⟩, fun w => (show (Instr.typeAssert (.iface 260 v) 29 48 true).run Tryz.prog w = .ok (.tuple #[.iface 260 v, .bool true]) w by kernel_rfl), fun w => (show (Instr.typeAssert (.iface 260 v) 29 51 true).run Tryz.prog w = .ok (.tuple #[.iface 260 v, .bool true]) w by kernel_rfl)⟩
theorem kk_8 (v : Value) : Mth 261 v "Kind" (.int .i64 8) 306 := ⟨fun w => by kernel_rfl, fun w => by kernel_rfl, fun w => by
 go_enter Tryz.func306, Tryz.ntmps306
 go_wp2
 go_ret
 first | exact ⟨rfl, Below.refl _ _⟩ | exact ⟨rfl, (Below.refl _ _).alloc (Nat.le_refl _) _⟩⟩
theorem kf_8 (v : Value) : KF 8 v true true := ⟨⟨_, kk_8 v⟩, fun w => (show (Instr.typeAssert (.iface 261 v) 29 48 true).run Tryz.prog w = .ok (.tuple #[.iface 261 v, .bool true]) w by kernel_rfl), fun w => (show (Instr.typeAssert (.iface 261 v) 29 51 true).run Tryz.prog w = .ok (.tuple #[.iface 261 v, .bool true]) w by kernel_rfl)⟩
theorem kk_9 (v : Value) : Mth 262 v "Kind" (.int .i64 9) 309 := ⟨fun w => by kernel_rfl, fun w => by kernel_rfl, fun w => by
 go_enter Tryz.func309, Tryz.ntmps309
 go_wp2
 go_ret
 first | exact ⟨rfl, Below.refl _ _⟩ | exact ⟨rfl, (Below.refl _ _).alloc (Nat.le_refl _) _⟩⟩
theorem kf_9 (v : Value) : KF 9 v true true := ⟨⟨_, kk_9 v⟩, fun w => (show (Instr.typeAssert (.iface 262 v) 29 48 true).run Tryz.prog w = .ok (.tuple #[.iface 262 v, .bool true]) w by kernel_rfl), fun w => (show (Instr.typeAssert (.iface 262 v) 29 51 true).run Tryz.prog w = .ok (.tuple #[.iface 262 v, .bool true]) w by kernel_rfl)⟩
theorem kk_10 (v : Value) : Mth 263 v "Kind" (.int .i64 10) 312 := ⟨fun w => by kernel_rfl, fun w => by kernel_rfl, fun w => by
 go_enter Tryz.func312, Tryz.ntmps312
 go_wp2
 go_ret
 first | exact ⟨rfl, Below.refl _ _⟩ | exact ⟨rfl, (Below.refl _ _).alloc (Nat.le_refl _) _⟩⟩
theorem kf_10 (v : Value) : KF 10 v true true := ⟨⟨_, kk_10 v⟩, fun w => (show (Instr.typeAssert (.iface 263 v) 29 48 true).run Tryz.prog w = .ok (.tuple #[.iface 263 v, .bool true]) w by kernel_rfl), fun w => (show (Instr.typeAssert (.iface 263 v) 29 51 true).run Tryz.prog w = .ok (.tuple #[.iface 263 v, .bool true]) w by kernel_rfl)⟩
theorem kk_11 (v : Value) : Mth 158 v "Kind" (.int .i64 11) 277 := ⟨fun w => by kernel_rfl, fun w => by kernel_rfl, fun w => by
 go_enter Tryz.func277, Tryz.ntmps277
 go_wp2
 go_ret
 first | exact ⟨rfl, Below.refl _ _⟩ | exact ⟨rfl, (Below.refl _ _).alloc (Nat.le_refl _) _⟩⟩
theorem kf_11 (v : Value) : KF 11 v false true := ⟨⟨_, kk_11 v⟩, fun w => run_typeAssert_lacksB Tryz.underlying48 (by kernel_rfl) (by kernel_rfl) _ _ w, fun w => (show (Instr.typeAssert (.iface 158 v) 29 51 true).run Tryz.prog w = .ok (.tuple #[.iface 158 v, .bool true]) w by kernel_rfl)⟩
theorem kk_12 (v : Value) : Mth 101 v "Kind" (.int .i64 12) 262 := ⟨fun w => by kernel_rfl, fun w => by kernel_rfl, fun w => by
 go_enter Tryz.func262, Tryz.ntmps262
 go_wp2
 go_ret
 first | exact ⟨rfl, Below.refl _ _⟩ | exact ⟨rfl, (Below.refl _ _).alloc (Nat.le_refl _) _⟩⟩
theorem kf_12 (v : Value) : KF 12 v false true := ⟨⟨_, kk_12 v⟩, fun w => run_typeAssert_lacksB Tryz.underlying48 (by kernel_rfl) (by kernel_rfl) _ _ w, fun w => (show (Instr.typeAssert (.iface 101 v) 29 51 true).run Tryz.prog w = .ok (.tuple #[.iface 101 v, .bool true]) w by kernel_rfl)⟩
theorem kk_13 (v : Value) : Mth 161 v "Kind" (.int .i64 13) 278 := ⟨fun w => by kernel_rfl, fun w => by kernel_rfl, fun w => by
 go_enter Tryz.func278, Tryz.ntmps278
 go_wp2
 go_ret
 first | exact ⟨rfl, Below.refl _ _⟩ | exact ⟨rfl, (Below.refl _ _).alloc (Nat.le_refl _) _⟩⟩
theorem kf_13 (v : Value) : KF 13 v false false := ⟨⟨_, kk_13 v⟩, fun w => run_typeAssert_lacksB Tryz.underlying48 (by kernel_rfl) (by kernel_rfl) _ _ w, fun w => run_typeAssert_lacksB Tryz.underlying51 (by kernel_rfl) (by kernel_rfl) _ _ w⟩
theorem kk_14 (v : Value) : Mth 107 v "Kind" (.int .i64 14) 263 := ⟨fun w => by kernel_rfl, fun w => by kernel_rfl, fun w => by
 go_enter Tryz.func263, Tryz.ntmps263
 go_wp2
 go_ret
 first | exact ⟨rfl, Below.refl _ _⟩ | exact ⟨rfl, (Below.refl _ _).alloc (Nat.le_refl _) _⟩⟩
theorem kf_14 (v : Value) : KF 14 v false false := ⟨⟨_, kk_14 v⟩, fun w => run_typeAssert_lacksB Tryz.underlying48 (by kernel_rfl) (by kernel_rfl) _ _ w, fun w => run_typeAssert_lacksB Tryz.underlying51 (by kernel_rfl) (by kernel_rfl) _ _ w⟩
theorem kk_15 (v : Value) : Mth 34 v "Kind" (.int .i64 15) 256 := ⟨fun w => by kernel_rfl, fun w => by kernel_rfl, fun w => by
 go_enter Tryz.func256, Tryz.ntmps256
 go_wp2
 go_ret
 first | exact ⟨rfl, Below.refl _ _⟩ | exact ⟨rfl, (Below.refl _ _).alloc (Nat.le_refl _) _⟩⟩
theorem kf_15 (v : Value) : KF 15 v false false := ⟨⟨_, kk_15 v⟩, fun w => run_typeAssert_lacksB Tryz.underlying48 (by kernel_rfl) (by kernel_rfl) _ _ w, fun w => run_typeAssert_lacksB Tryz.underlying51 (by kernel_rfl) (by kernel_rfl) _ _ w⟩
theorem kk_16 (v : Value) : Mth 37 v "Kind" (.int .i64 16) 257 := ⟨fun w => by kernel_rfl, fun w => by kernel_rfl, fun w => by
 go_enter Tryz.func257, Tryz.ntmps257
 go_wp2
 go_ret
 first | exact ⟨rfl, Below.refl _ _⟩ | exact ⟨rfl, (Below.refl _ _).alloc (Nat.le_refl _) _⟩⟩
theorem kf_16 (v : Value) : KF 16 v false false := ⟨⟨_, kk_16 v⟩, fun w => run_typeAssert_lacksB Tryz.underlying48 (by kernel_rfl) (by kernel_rfl) _ _ w, fun w => run_typeAssert_lacksB Tryz.underlying51 (by kernel_rfl) (by kernel_rfl) _ _ w⟩
theorem kk_17 (v : Value) : Mth 40 v "Kind" (.int .i64 17) 258 := ⟨fun w => by kernel_rfl, fun w => by kernel_rfl, fun w => by
 go_enter Tryz.func258, Tryz.ntmps258
 go_wp2
 go_ret
 first | exact ⟨rfl, Below.refl _ _⟩ | exact ⟨rfl, (Below.refl _ _).alloc (Nat.le_refl _) _⟩⟩
theorem kf_17 (v : Value) : KF 17 v false false := ⟨⟨_, kk_17 v⟩, fun w => run_typeAssert_lacksB Tryz.underlying48 (by kernel_rfl) (by kernel_rfl) _ _ w, fun w => run_typeAssert_lacksB Tryz.underlying51 (by kernel_rfl) (by kernel_rfl) _ _ w⟩
theorem kk_18 (v : Value) : Mth 163 v "Kind" (.int .i64 18) 279 := ⟨fun w => by kernel_rfl, fun w => by kernel_rfl, fun w => by
 go_enter Tryz.func279, Tryz.ntmps279
 go_wp2
 go_ret
 first | exact ⟨rfl, Below.refl _ _⟩ | exact ⟨rfl, (Below.refl _ _).alloc (Nat.le_refl _) _⟩⟩
theorem kf_18 (v : Value) : KF 18 v false false := ⟨⟨_, kk_18 v⟩, fun w => run_typeAssert_lacksB Tryz.underlying48 (by kernel_rfl) (by kernel_rfl) _ _ w, fun w => run_typeAssert_lacksB Tryz.underlying51 (by kernel_rfl) (by kernel_rfl) _ _ w⟩
theorem kk_19 (v : Value) : Mth 165 v "Kind" (.int .i64 19) 280 := ⟨fun w => by kernel_rfl, fun w => by kernel_rfl, fun w => by
 go_enter Tryz.func280, Tryz.ntmps280
 go_wp2
 go_ret
 first | exact ⟨rfl, Below.refl _ _⟩ | exact ⟨rfl, (Below.refl _ _).alloc (Nat.le_refl _) _⟩⟩
theorem kf_19 (v : Value) : KF 19 v false false := ⟨⟨_, kk_19 v⟩, fun w => run_typeAssert_lacksB Tryz.underlying48 (by kernel_rfl) (by kernel_rfl) _ _ w, fun w => run_typeAssert_lacksB Tryz.underlying51 (by kernel_rfl) (by kernel_rfl) _ _ w⟩
theorem fl_12 (b : Nat) : Mth 101 (.float .f64 b) "Float" (.float .f64 b) 261 := ⟨fun w => by kernel_rfl, fun w => by kernel_rfl, fun w => by
 go_enter Tryz.func261, Tryz.ntmps261
 go_wp2
 go_ret
 exact ⟨rfl, Below.refl _ _⟩⟩
theorem fl_3 (z : Int) : Mth 257 (.int .i8 z) "Float" (.float .f64 (floatOfInt .f64 z)) 292 := ⟨fun w => by kernel_rfl, fun w => by kernel_rfl, fun w => by
 go_enter Tryz.func292, Tryz.ntmps292
 go_wp2
 go_ret
 exact ⟨rfl, Below.refl _ _⟩⟩
theorem in_3 (z : Int) (h1 : loK 3 ≤ z) (h2 : z ≤ hiK 3) : Mth 257 (.int .i8 z) "Int" (.tuple #[.int .i64 z, .bool true]) 293 := ⟨fun w => by kernel_rfl, fun w => by kernel_rfl, fun w => by
 have e1 : -9223372036854775808 ≤ z := by have h : loK 3 = _ := rfl; simp [loK] at h1; omega
 have e2 : z ≤ 9223372036854775807 := by simp [hiK] at h2; omega
 clear h1 h2
 go_enter Tryz.func293, Tryz.ntmps293
 go_wp2
 go_ret2
 exact ⟨rfl, Below.refl _ _⟩⟩
theorem fl_4 (z : Int) : Mth 127 (.int .i16 z) "Float" (.float .f64 (floatOfInt .f64 z)) 267 := ⟨fun w => by kernel_rfl, fun w => by kernel_rfl, fun w => by
 go_enter Tryz.func267, Tryz.ntmps267
 go_wp2
 go_ret
 exact ⟨rfl, Below.refl _ _⟩⟩
theorem in_4 (z : Int) (h1 : loK 4 ≤ z) (h2 : z ≤ hiK 4) : Mth 127 (.int .i16 z) "Int" (.tuple #[.int .i64 z, .bool true]) 268 := ⟨fun w => by kernel_rfl, fun w => by kernel_rfl, fun w => by
 have e1 : -9223372036854775808 ≤ z := by have h : loK 4 = _ := rfl; simp [loK] at h1; omega
 have e2 : z ≤ 9223372036854775807 := by simp [hiK] at h2; omega
 clear h1 h2
 go_enter Tryz.func268, Tryz.ntmps268
 go_wp2
 go_ret2
 exact ⟨rfl, Below.refl _ _⟩⟩
theorem fl_5 (z : Int) : Mth 258 (.int .i32 z) "Float" (.float .f64 (floatOfInt .f64 z)) 295 := ⟨fun w => by kernel_rfl, fun w => by kernel_rfl, fun w => by
 go_enter Tryz.func295, Tryz.ntmps295
 go_wp2
 go_ret
 exact ⟨rfl, Below.refl _ _⟩⟩
theorem in_5 (z : Int) (h1 : loK 5 ≤ z) (h2 : z ≤ hiK 5) : Mth 258 (.int .i32 z) "Int" (.tuple #[.int .i64 z, .bool true]) 296 := ⟨fun w => by kernel_rfl, fun w => by kernel_rfl, fun w => by
 have e1 : -9223372036854775808 ≤ z := by have h : loK 5 = _ := rfl; simp [loK] at h1; omega
 have e2 : z ≤ 9223372036854775807 := by simp [hiK] at h2; omega
 clear h1 h2
 go_enter Tryz.func296, Tryz.ntmps296
 go_wp2
 go_ret2
 exact ⟨rfl, Below.refl _ _⟩⟩
theorem fl_6 (z : Int) : Mth 259 (.int .i64 z) "Float" (.float .f64 (floatOfInt .f64 z)) 298 := ⟨fun w => by kernel_rfl, fun w => by kernel_rfl, fun w => by
 go_enter Tryz.func298, Tryz.ntmps298
 go_wp2
 go_ret
 exact ⟨rfl, Below.refl _ _⟩⟩
theorem in_6 (z : Int) (h1 : loK 6 ≤ z) (h2 : z ≤ hiK 6) : Mth 259 (.int .i64 z) "Int" (.tuple #[.int .i64 z, .bool true]) 299 := ⟨fun w => by kernel_rfl, fun w => by kernel_rfl, fun w => by
 have e1 : -9223372036854775808 ≤ z := by have h : loK 6 = _ := rfl; simp [loK] at h1; omega
 have e2 : z ≤ 9223372036854775807 := by simp [hiK] at h2; omega
 clear h1 h2
 go_enter Tryz.func299, Tryz.ntmps299
 go_wp2
 go_ret2
 exact ⟨rfl, Below.refl _ _⟩⟩
theorem fl_7 (z : Int) : Mth 260 (.int .u8 z) "Float" (.float .f64 (floatOfInt .f64 z)) 301 := ⟨fun w => by kernel_rfl, fun w => by kernel_rfl, fun w => by
 go_enter Tryz.func301, Tryz.ntmps301
 go_wp2
 go_ret
 exact ⟨rfl, Below.refl _ _⟩⟩
theorem in_7 (z : Int) (h1 : loK 7 ≤ z) (h2 : z ≤ hiK 7) : Mth 260 (.int .u8 z) "Int" (.tuple #[.int .i64 z, .bool true]) 302 := ⟨fun w => by kernel_rfl, fun w => by kernel_rfl, fun w => by
 have e1 : -9223372036854775808 ≤ z := by have h : loK 7 = _ := rfl; simp [loK] at h1; omega
 have e2 : z ≤ 9223372036854775807 := by simp [hiK] at h2; omega
 clear h1 h2
 go_enter Tryz.func302, Tryz.ntmps302
 go_wp2
 go_ret2
 exact ⟨rfl, Below.refl _ _⟩⟩
theorem fl_8 (z : Int) : Mth 261 (.int .u16 z) "Float" (.float .f64 (floatOfInt .f64 z)) 304 := ⟨fun w => by kernel_rfl, fun w => by kernel_rfl, fun w => by
 go_enter Tryz.func304, Tryz.ntmps304
 go_wp2
 go_ret
 exact ⟨rfl, Below.refl _ _⟩⟩
theorem in_8 (z : Int) (h1 : loK 8 ≤ z) (h2 : z ≤ hiK 8) : Mth 261 (.int .u16 z) "Int" (.tuple #[.int .i64 z, .bool true]) 305 := ⟨fun w => by kernel_rfl, fun w => by kernel_rfl, fun w => by
 have e1 : -9223372036854775808 ≤ z := by have h : loK 8 = _ := rfl; simp [loK] at h1; omega
 have e2 : z ≤ 9223372036854775807 := by simp [hiK] at h2; omega
 clear h1 h2
 go_enter Tryz.func305, Tryz.ntmps305
 go_wp2
 go_ret2
 exact ⟨rfl, Below.refl _ _⟩⟩
theorem fl_9 (z : Int) : Mth 262 (.int .u32 z) "Float" (.float .f64 (floatOfInt .f64 z)) 307 := ⟨fun w => by kernel_rfl, fun w => by kernel_rfl, fun w => by
 go_enter Tryz.func307, Tryz.ntmps307
 go_wp2
 go_ret
 exact ⟨rfl, Below.refl _ _⟩⟩
theorem in_9 (z : Int) (h1 : loK 9 ≤ z) (h2 : z ≤ hiK 9) : Mth 262 (.int .u32 z) "Int" (.tuple #[.int .i64 z, .bool true]) 308 := ⟨fun w => by kernel_rfl, fun w => by kernel_rfl, fun w => by
 have e1 : -9223372036854775808 ≤ z := by have h : loK 9 = _ := rfl; simp [loK] at h1; omega
 have e2 : z ≤ 9223372036854775807 := by simp [hiK] at h2; omega
 clear h1 h2
 go_enter Tryz.func308, Tryz.ntmps308
 go_wp2
 go_ret2
 exact ⟨rfl, Below.refl _ _⟩⟩
theorem fl_10 (z : Int) : Mth 263 (.int .u64 z) "Float" (.float .f64 (floatOfInt .f64 z)) 310 := ⟨fun w => by kernel_rfl, fun w => by kernel_rfl, fun w => by
 go_enter Tryz.func310, Tryz.ntmps310
 go_wp2
 go_ret
 exact ⟨rfl, Below.refl _ _⟩⟩
theorem in_10y (z : Int) (h1 : 0 ≤ z) (h2 : z ≤ 9223372036854775807) : Mth 263 (.int .u64 z) "Int" (.tuple #[.int .i64 z, .bool true]) 311 := ⟨fun w => by kernel_rfl, fun w => by kernel_rfl, fun w => by
 go_enter Tryz.func311, Tryz.ntmps311
 go_wp2
 go_ret2
 exact ⟨rfl, Below.refl _ _⟩⟩
theorem in_10n (z : Int) (h1 : 9223372036854775807 < z) (h2 : z ≤ 18446744073709551615) : Mth 263 (.int .u64 z) "Int" (.tuple #[.int .i64 0, .bool false]) 311 := ⟨fun w => by kernel_rfl, fun w => by kernel_rfl, fun w => by
 go_enter Tryz.func311, Tryz.ntmps311
 go_wp2
 go_ret2
 exact ⟨rfl, Below.refl _ _⟩⟩
end Nd
end Go.Proofs.YtbajkglacfheiaaGreatDoor
namespace Go.Proofs.YtbajkglacfheiaaGreatDoor
open Go.RowKit Mem Utf Ref3 Idx Tok TokC Ieee
namespace Nd
theorem is_no (n : Int) (h : ¬ (1 ≤ n ∧ n ≤ 19)) (w : World) : Calls Tryz.prog 33 #[.int .i64 n] w fun e w' => e = .returned (.bool false) ∧ w = w' := by
 by_cases h1 : 1 ≤ n
 ·have e1 : (n ≥ 1) = True := by simp; omega
  have e2 : (n ≤ 19) = False := by simp; omega
  clear h h1
  go_enter Tryz.func33, Tryz.ntmps33
  go_wp2
  go_ret
  exact ⟨rfl, rfl⟩
 ·have e1 : (n ≥ 1) = False := by simp; omega
  clear h h1
  go_enter Tryz.func33, Tryz.ntmps33
  go_wp2
  go_ret
  exact ⟨rfl, rfl⟩
theorem bind_no (g : Nat) (l : Tx) (n : Int) (h : ¬ (1 ≤ n ∧ n ≤ 19)) (w : World) : Calls Tryz.prog 9 #[.pointer (some ⟨g, 0, none⟩), .string ⟨l.toArray⟩, .int .i64 n] w fun e w' => e = .returned (.tuple #[.nilIface, errN 2]) ∧ w = w' := by
 have HN := Lib.hid (is_no n h)
 clear h
 go_enter Tryz.func9, Tryz.ntmps9
 go_wp2_with fail
 ((with_reducible refine (HN.out _).mono ?_); rintro e w1 ⟨rfl, rfl⟩)
 go_wp2
 go_ret2
 exact ⟨rfl, rfl⟩
theorem bind_cases {k : Nat} {t : Tr} {l : Tx} {w w' : World} {e : Ending} (h : BindP (fun u => WkP (tyK k) (rK k u)) t l w e w') :
  ((∃ T U, e = .returned (.tuple #[.nilIface, .iface T U])) ∨ ∃ ts u x, parseS (wrong l) l = .ok ts ∧ leadT t ts 0 = .inr u ∧ e = .returned (.tuple #[.iface (tyK k) x, .nilIface]) ∧ rK k u x) ∧ Below w.heap.size w w' := by
 unfold BindP at h
 split at h
 ·rename_i x hx
  obtain ⟨T, U, hTU⟩ := errV_form x.1 x.2
  rw [hTU] at h
  exact ⟨.inl ⟨_, _, h.1⟩, h.2⟩
 ·rename_i ts hts
  split at h
  ·exact ⟨.inl ⟨_, _, h.1⟩, h.2⟩
  ·rename_i u hu
   obtain ⟨W, hb, h⟩ := h
   refine ⟨?_, hb.trans (h.2.mono hb.size)⟩
   rcases h.1 with h | ⟨x, h, hx⟩
   ·exact .inl h
   ·exact .inr ⟨ts, u, x, hts, hu, h, hx⟩
theorem asserts_refused (v : Value) (l : Tx) (ss : List Stp) (w : World) (hS : RdS w v ss) (hF : ∀ s ∈ ss, s.Fine) (hl : l.length ≤ 4194304) (hG : Glob w) (hT : Tab w) (n : Int) (x : Int × Int) (hb : buildT ss = .inl x) :
  Calls Tryz.prog 4 #[v, .string ⟨l.toArray⟩, .int .i64 n] w (TrueN w) := by
 have q1 := err_ne_nil
 have q2 := err_ne_held
 have q3 := err_eq_nil
 have q4 := err_eq_held
 have q5 := bd_eq_nil
 have q6 := bd_eq_held
 have q7 := f64bits
 obtain ⟨SA, sc, rfl, _⟩ := id hS
 have HS := Lib.hid hS
 have HF := Lib.hid (And.intro hF (And.intro hl hb))
 have HG := Lib.hid (And.intro hG hT)
 clear hS hF hl hG hT hb
 go_enter Tryz.func4, Tryz.ntmps4
 go_wp2_with fail
 ((with_reducible refine (build_all _ ss _ HS.out HF.out.1).mono ?_); intro e w1 hP)
 obtain ⟨hb1, hP⟩ := hP
 simp only [HF.out.2.2] at hP
 have HB1 := Lib.hid hb1
 clear hb1
 obtain rfl := hP
 obtain ⟨tx, ux, hsp⟩ := sp_form x.1 x.2
 rw [hsp]
 clear hsp
 go_wp2_with fail
 ((with_reducible refine (bind_nil l n _).mono ?_); rintro e w2 ⟨rfl, rfl⟩)
 unfold errN
 go_wp2_with fail
 ((with_reducible refine (wakes16_any _ (HG.out.1.next HB1.out) (HG.out.2.next HB1.out)).mono ?_); rintro e w3 ⟨rfl, hb3⟩)
 have HB3 := Lib.hid (HB1.out.trans (hb3.mono HB1.out.size))
 clear hb3
 go_wp2
 go_ret
 exact ⟨rfl, HB3.out⟩
theorem asserts_no (v : Value) (l : Tx) (ss : List Stp) (w : World) (hS : RdS w v ss) (hF : ∀ s ∈ ss, s.Fine) (hl : l.length ≤ 4194304) (hG : Glob w) (hT : Tab w) (n : Int) (t : Tr) (hb : buildT ss = .inr t) (hk : ¬ (1 ≤ n ∧ n ≤ 19)) :
  Calls Tryz.prog 4 #[v, .string ⟨l.toArray⟩, .int .i64 n] w (TrueN w) := by
 have HK := Lib.hid hk
 clear hk
 have q1 := err_ne_nil
 have q2 := err_ne_held
 have q3 := err_eq_nil
 have q4 := err_eq_held
 have q5 := bd_eq_nil
 have q6 := bd_eq_held
 have q7 := f64bits
 obtain ⟨SA, sc, rfl, _⟩ := id hS
 have HS := Lib.hid hS
 have HF := Lib.hid (And.intro hF (And.intro hl hb))
 have HG := Lib.hid (And.intro hG hT)
 clear hS hF hl hG hT hb
 go_enter Tryz.func4, Tryz.ntmps4
 go_wp2_with fail
 ((with_reducible refine (build_all _ ss _ HS.out HF.out.1).mono ?_); intro e w1 hP)
 obtain ⟨hb1, hP⟩ := hP
 simp only [HF.out.2.2] at hP
 have HB1 := Lib.hid hb1
 clear hb1
 obtain ⟨g, rfl, hTA⟩ := hP
 obtain ⟨_, hfit, tv, hB, hrd⟩ := hTA
 have hok := (buildT_ok HF.out.1 HF.out.2.2).1
 have hra : RdA w1 t tv := RdT.move (fun j hj hs => ⟨trivial, rfl⟩) _ _ hrd
 have HBT := Lib.hid (And.intro hB (And.intro hra (And.intro hok hfit)))
 clear hB hrd hfit hra hok
 go_wp2_with fail
 ((with_reducible refine (bind_no g l n HK.out _).mono ?_); rintro e w2 ⟨rfl, rfl⟩)
 unfold errN
 go_wp2_with fail
 ((with_reducible refine (wakes16_any _ (HG.out.1.next HB1.out) (HG.out.2.next HB1.out)).mono ?_); rintro e w3 ⟨rfl, hb3⟩)
 have HB3 := Lib.hid (HB1.out.trans (hb3.mono HB1.out.size))
 clear hb3
 go_wp2
 go_ret
 exact ⟨rfl, HB3.out⟩
theorem asserts_low (v : Value) (l : Tx) (ss : List Stp) (w : World) (hS : RdS w v ss) (hF : ∀ s ∈ ss, s.Fine) (hl : l.length ≤ 4194304) (hG : Glob w) (hT : Tab w) (t : Tr) (hb : buildT ss = .inr t) (k : Nat) (h1 : 1 ≤ k) (h19 : k ≤ 19) (hk : k < 3) (hka : ∀ u x, rK k u x → KF k x false false)  :
  Calls Tryz.prog 4 #[v, .string ⟨l.toArray⟩, .int .i64 (k : Int)] w (TrueN w) := by
 have e1 : ((k : Int) ≥ 3) = False := by simp; omega
 have e2 : ((k : Int) == 11) = false := by simp; omega
 have e3 : ((k : Int) == 12) = false := by simp; omega
 clear hk
 have HK := Lib.hid (And.intro h1 h19)
 have tm := tm_all k h1 h19
 have HKA := Lib.hid hka
 clear h1 h19 hka
 have q1 := err_ne_nil
 have q2 := err_ne_held
 have q3 := err_eq_nil
 have q4 := err_eq_held
 have q5 := bd_eq_nil
 have q6 := bd_eq_held
 have q7 := f64bits
 obtain ⟨SA, sc, rfl, _⟩ := id hS
 have HS := Lib.hid hS
 have HF := Lib.hid (And.intro hF (And.intro hl hb))
 have HG := Lib.hid (And.intro hG hT)
 clear hS hF hl hG hT hb
 go_enter Tryz.func4, Tryz.ntmps4
 go_wp2_with fail
 ((with_reducible refine (build_all _ ss _ HS.out HF.out.1).mono ?_); intro e w1 hP)
 obtain ⟨hb1, hP⟩ := hP
 simp only [HF.out.2.2] at hP
 have HB1 := Lib.hid hb1
 clear hb1
 obtain ⟨g, rfl, hTA⟩ := hP
 obtain ⟨_, hfit, tv, hB, hrd⟩ := hTA
 have hok := (buildT_ok HF.out.1 HF.out.2.2).1
 have hra : RdA w1 t tv := RdT.move (fun j hj hs => ⟨trivial, rfl⟩) _ _ hrd
 have HBT := Lib.hid (And.intro hB (And.intro hra (And.intro hok hfit)))
 clear hB hrd hfit hra hok
 go_wp2_with fail
 ((with_reducible refine (bind_wk k HK.out.1 HK.out.2 g t tv l w1 _ HBT.out.1 HBT.out.2.1 (Below.refl _ _) HBT.out.2.2.1 HBT.out.2.2.2 HF.out.2.1 (HG.out.1.next HB1.out) (HG.out.2.next HB1.out)).mono ?_); intro e w2 hp)
 obtain ⟨he, hb2⟩ := bind_cases hp
 have HB2 := Lib.hid (HB1.out.trans (hb2.mono HB1.out.size))
 have HB12 := Lib.hid hb2
 clear hb2 hp
 rcases he with ⟨T0, U0, rfl⟩ | ⟨ts, u, x, hp, hle, rfl, hx⟩
 ·go_wp2_with fail
  ((with_reducible refine (wakes16_any _ (HG.out.1.next HB2.out) (HG.out.2.next HB2.out)).mono ?_); rintro e w3 ⟨rfl, hb3⟩)
  have HB3 := Lib.hid (HB2.out.trans (hb3.mono HB2.out.size))
  clear hb3
  go_wp2
  go_ret
  exact ⟨rfl, HB3.out⟩
 ·have HPL := Lib.hid (And.intro hp hle)
  have HUX := Lib.hid (And.intro hx (lead_ok _ _ _ _ HBT.out.2.2.1 HBT.out.2.2.2 hle))
  clear hp hle hx
  have HKF := Lib.hid (HKA.out u x HUX.out.1)
  obtain ⟨fk, hfk⟩ := (HKF.out).kind
  have m0 := hfk.m0
  have m1 := hfk.m1
  have HKI := Lib.hid hfk.m2
  have tw := (HKF.out).tw
  have tr := (HKF.out).tr
  simp only [Bool.false_eq_true, if_false, if_true] at tw tr
  have HFS := Lib.hid (fun (W : World) (gF : Nat) (hF : Blk W gF 73 #[.string ⟨keyN.toArray⟩, .int .i64 (k : Int), .bool false]) (hb : Below w.heap.size w W) (hb1 : Below w1.heap.size w1 W) => fields_any k HK.out.1 HK.out.2 g t tv w1 W HBT.out.1 HBT.out.2.1 hb1 HBT.out.2.2.1 HBT.out.2.2.2 gF 1 hF (HG.out.1.next hb) (HG.out.2.next hb))
  unfold FlsP at HFS
  clear hfk
  generalize tyK k = T at *
  go_wp2_with fail
  ((with_reducible refine (wakes16_any _ (HG.out.1.next HB2.out) (HG.out.2.next HB2.out)).mono ?_); rintro e w3 ⟨rfl, hb3⟩)
  have HB3 := Lib.hid (HB2.out.trans (hb3.mono HB2.out.size))
  have HB13 := Lib.hid (HB12.out.trans (hb3.mono HB12.out.size))
  clear hb3
  go_wp2_with fail
  ((with_reducible refine (HKI.out _).mono ?_); rintro e w4 ⟨rfl, hb4⟩)
  have HB4 := Lib.hid (HB3.out.trans (hb4.mono HB3.out.size))
  have HB14 := Lib.hid (HB13.out.trans (hb4.mono HB13.out.size))
  clear hb4
  go_wp2_with fail
  ((with_reducible refine (pfind_any g t tv l w1 _ HBT.out.1 HBT.out.2.1 HB14.out HBT.out.2.2.1 HBT.out.2.2.2 HF.out.2.1 (HG.out.1.next HB4.out) (HG.out.2.next HB4.out)).mono ?_); rintro e w5 ⟨he, hb5⟩)
  rw [HPL.out.1] at he
  dsimp only at he
  rw [HPL.out.2] at he
  obtain ⟨tx, ux, rfl, hrd, _⟩ := he
  obtain ⟨wr, hwr⟩ : ∃ wr, w5.alloc (.cells #[.iface tx ux] 58) = wr := ⟨_, rfl⟩
  have hbr : Below w4.heap.size w4 wr := by rw [← hwr]; exact hb5.alloc hb5.size _
  have hc : Blk wr w5.heap.size 58 #[.iface tx ux] := by rw [← hwr]; exact Blk.new w5 _ _
  have HBR := Lib.hid (HB4.out.trans (hbr.mono HB4.out.size))
  have HB1R := Lib.hid (HB14.out.trans (hbr.mono HB14.out.size))
  have c18 : wr.cell? ⟨w5.heap.size, 0, none⟩ = some (.iface tx ux) := hc.cell 0
  have HRD := Lib.hid (rda_below hrd HB1R.out)
  have HWR := Lib.hid hwr
  clear hb5 hwr hbr hc hrd
  go_upto_region 16 with fail
  rw [HWR.out]
  go_wp2_with fail
  ((with_reducible refine (numr_any (fun _ => True) u (.iface tx ux) _ HRD.out).mono ?_); rintro e w6 ⟨rfl, hb6⟩)
  have HB6 := Lib.hid (HBR.out.trans (hb6.mono HBR.out.size))
  have HB16 := Lib.hid (HB1R.out.trans (hb6.mono HB1R.out.size))
  clear hb6 c18
  go_wp2_with fail
  rw [show (⟨#[0, 32, 110, 111, 32, 115, 117, 99, 104, 32, 107, 101, 121]⟩ : ByteArray) = ⟨keyN.toArray⟩ from rfl]
  have HBA := Lib.hid (HB6.out.alloc HB6.out.size (.cells #[.string ⟨keyN.toArray⟩, .int .i64 (k : Int), .bool false] 73))
  have HB1A := Lib.hid (HB16.out.alloc HB16.out.size (.cells #[.string ⟨keyN.toArray⟩, .int .i64 (k : Int), .bool false] 73))
  ((with_reducible refine (HFS.out _ _ (Blk.new w6 73 #[.string ⟨keyN.toArray⟩, .int .i64 (k : Int), .bool false]) HBA.out HB1A.out).mono ?_); rintro e w9 ⟨he, hb9⟩)
  have HB9 := Lib.hid (HBA.out.trans (hb9.mono HBA.out.size))
  clear hb9
  rcases he with ⟨T', U', rfl⟩ | ⟨g9, c9, T', y, rfl, hc9, hT⟩
  ·go_wp2
   go_ret
   exact ⟨rfl, HB9.out⟩
  ·rcases hT with rfl | ⟨rfl, rfl⟩
   ·have tmy := tm y
    go_wp2
    go_ret
    exact ⟨rfl, HB9.out⟩
   ·have ms1 := tm_ms
    have ms2 := ms_kind.m0
    have ms3 := ms_kind.m1
    go_wp2_with fail
    ((with_reducible refine (ms_kind.m2 _).mono ?_); rintro e wa ⟨rfl, hba⟩)
    have HBZ := Lib.hid (HB9.out.trans (hba.mono HB9.out.size))
    clear hba
    go_wp2
    go_ret
    exact ⟨rfl, HBZ.out⟩
end Nd
end Go.Proofs.YtbajkglacfheiaaGreatDoor
