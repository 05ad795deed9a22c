/-
  Told values behind an interface: Sort, the assertion to a Lost, nil.
-/
import Derived.Test.YtfhchnkoggdilaaGreatDoorGF
import Derived.Test.YtfhchnkoggdilaaGreatDoorGI
namespace Go.Proofs.YtfhchnkoggdilaaGreatDoor
open Go.RowKit Mem
set_option linter.unusedVariables false
namespace Nd
theorem mt_null (k : Nat) (v : Value) (w : World) : (method (k + 1) 94 v "Sort").run Tryz.prog w = .ok (185, v) w := by kernel_rfl
theorem mc_null (args : Array Value) (w : World) : (callFunc 185 args).run Tryz.prog w = .ok (.enter 185 args) w := by kernel_rfl
theorem mf_null (w : World) : Calls Tryz.prog 185 #[.agg #[]] w (IntP 1 w) := by
  go_enter Tryz.func185, Tryz.ntmps185
  go_wp2
  go_ret
  first | exact ⟨rfl, Below.refl _ _⟩ | exact ⟨rfl, (Below.refl _ _).alloc (Nat.le_refl _) _⟩
theorem ml_null (v : Value) (w : World) : (Instr.typeAssert (.iface 94 v) 42 56 true).run Tryz.prog w = .ok (.tuple #[.pointer none, .bool false]) w := by kernel_rfl
theorem mt_flag (k : Nat) (v : Value) (w : World) : (method (k + 1) 95 v "Sort").run Tryz.prog w = .ok (187, v) w := by kernel_rfl
theorem mc_flag (args : Array Value) (w : World) : (callFunc 187 args).run Tryz.prog w = .ok (.enter 187 args) w := by kernel_rfl
theorem mf_flag (v : Value) (w : World) : Calls Tryz.prog 187 #[v] w (IntP 2 w) := by
  go_enter Tryz.func187, Tryz.ntmps187
  go_wp2
  go_ret
  first | exact ⟨rfl, Below.refl _ _⟩ | exact ⟨rfl, (Below.refl _ _).alloc (Nat.le_refl _) _⟩
theorem ml_flag (v : Value) (w : World) : (Instr.typeAssert (.iface 95 v) 42 56 true).run Tryz.prog w = .ok (.tuple #[.pointer none, .bool false]) w := by kernel_rfl
theorem mt_num (k : Nat) (v : Value) (w : World) : (method (k + 1) 97 v "Sort").run Tryz.prog w = .ok (189, v) w := by kernel_rfl
theorem mc_num (args : Array Value) (w : World) : (callFunc 189 args).run Tryz.prog w = .ok (.enter 189 args) w := by kernel_rfl
theorem mf_num (v : Value) (w : World) : Calls Tryz.prog 189 #[v] w (IntP 3 w) := by
  go_enter Tryz.func189, Tryz.ntmps189
  go_wp2
  go_ret
  first | exact ⟨rfl, Below.refl _ _⟩ | exact ⟨rfl, (Below.refl _ _).alloc (Nat.le_refl _) _⟩
theorem ml_num (v : Value) (w : World) : (Instr.typeAssert (.iface 97 v) 42 56 true).run Tryz.prog w = .ok (.tuple #[.pointer none, .bool false]) w := by kernel_rfl
theorem mt_text (k : Nat) (v : Value) (w : World) : (method (k + 1) 99 v "Sort").run Tryz.prog w = .ok (191, v) w := by kernel_rfl
theorem mc_text (args : Array Value) (w : World) : (callFunc 191 args).run Tryz.prog w = .ok (.enter 191 args) w := by kernel_rfl
theorem mf_text (v : Value) (w : World) : Calls Tryz.prog 191 #[v] w (IntP 4 w) := by
  go_enter Tryz.func191, Tryz.ntmps191
  go_wp2
  go_ret
  first | exact ⟨rfl, Below.refl _ _⟩ | exact ⟨rfl, (Below.refl _ _).alloc (Nat.le_refl _) _⟩
theorem ml_text (v : Value) (w : World) : (Instr.typeAssert (.iface 99 v) 42 56 true).run Tryz.prog w = .ok (.tuple #[.pointer none, .bool false]) w := by kernel_rfl
theorem mt_list (k : Nat) (v : Value) (w : World) : (method (k + 1) 101 v "Sort").run Tryz.prog w = .ok (193, v) w := by kernel_rfl
theorem mc_list (args : Array Value) (w : World) : (callFunc 193 args).run Tryz.prog w = .ok (.enter 193 args) w := by kernel_rfl
theorem mf_list (v : Value) (w : World) : Calls Tryz.prog 193 #[v] w (IntP 5 w) := by
  go_enter Tryz.func193, Tryz.ntmps193
  go_wp2
  go_ret
  first | exact ⟨rfl, Below.refl _ _⟩ | exact ⟨rfl, (Below.refl _ _).alloc (Nat.le_refl _) _⟩
theorem ml_list (v : Value) (w : World) : (Instr.typeAssert (.iface 101 v) 42 56 true).run Tryz.prog w = .ok (.tuple #[.pointer none, .bool false]) w := by kernel_rfl
theorem mt_obj (k : Nat) (v : Value) (w : World) : (method (k + 1) 103 v "Sort").run Tryz.prog w = .ok (195, v) w := by kernel_rfl
theorem mc_obj (args : Array Value) (w : World) : (callFunc 195 args).run Tryz.prog w = .ok (.enter 195 args) w := by kernel_rfl
theorem mf_obj (v : Value) (w : World) : Calls Tryz.prog 195 #[v] w (IntP 6 w) := by
  go_enter Tryz.func195, Tryz.ntmps195
  go_wp2
  go_ret
  first | exact ⟨rfl, Below.refl _ _⟩ | exact ⟨rfl, (Below.refl _ _).alloc (Nat.le_refl _) _⟩
theorem ml_obj (v : Value) (w : World) : (Instr.typeAssert (.iface 103 v) 42 56 true).run Tryz.prog w = .ok (.tuple #[.pointer none, .bool false]) w := by kernel_rfl
theorem mt_lost (k : Nat) (v : Value) (w : World) : (method (k + 1) 56 v "Sort").run Tryz.prog w = .ok (179, v) w := by kernel_rfl
theorem mc_lost (args : Array Value) (w : World) : (callFunc 179 args).run Tryz.prog w = .ok (.enter 179 args) w := by kernel_rfl
theorem mf_lost (v : Value) (w : World) : Calls Tryz.prog 179 #[v] w (IntP 0 w) := by
  go_enter Tryz.func179, Tryz.ntmps179
  go_wp2
  go_ret
  first | exact ⟨rfl, Below.refl _ _⟩ | exact ⟨rfl, (Below.refl _ _).alloc (Nat.le_refl _) _⟩
theorem ml_lost (v : Value) (w : World) : (Instr.typeAssert (.iface 56 v) 42 56 true).run Tryz.prog w = .ok (.tuple #[v, .bool true]) w := by kernel_rfl
theorem mt_where (k : Nat) (v : Value) (w : World) : (method (k + 1) 91 v "Where").run Tryz.prog w = .ok (183, v) w := by kernel_rfl
theorem mc_where (args : Array Value) (w : World) : (callFunc 183 args).run Tryz.prog w = .ok (.enter 183 args) w := by kernel_rfl
theorem mf_where (n : Int) (s : ByteArray) (w : World) : Calls Tryz.prog 183 #[.agg #[.int .i64 n, .string s]] w fun e w' => e = .returned (.string s) ∧ Below w.heap.size w w' := by
  go_enter Tryz.func183, Tryz.ntmps183
  go_wp2
  go_ret
  exact ⟨rfl, (Below.refl _ _).alloc (Nat.le_refl _) _⟩
theorem tl_trail (v : Value) (w : World) : (Instr.typeAssert (.iface 91 v) 25 66 true).run Tryz.prog w = .ok (.tuple #[.iface 91 v, .bool true]) w := by kernel_rfl
theorem val_eq_nil (T : TypeId) (v : Value) (w : World) : (binOp .eql 42 (.iface T v) .nilIface).run Tryz.prog w = .ok (.bool false) w := by kernel_rfl
theorem val_nil_nil (w : World) : (binOp .eql 42 .nilIface .nilIface).run Tryz.prog w = .ok (.bool true) w := by kernel_rfl
/-- what a told value is to an interface -/
theorem told_facts {S : Nat → Prop} {w : World} {t : Tr} {x : Value} (h : TdT S w t x) : ∃ T u f, x = .iface T u ∧ (∀ W, (method (384 + 1) T u "Sort").run Tryz.prog W = .ok (f, u) W) ∧ (∀ args W, (callFunc f args).run Tryz.prog W = .ok (.enter f args) W) ∧ (∀ W, Calls Tryz.prog f #[u] W (IntP (t.srt : Nat) W)) ∧ ∀ W, (Instr.typeAssert (.iface T u) 42 56 true).run Tryz.prog W = .ok (.tuple #[.pointer none, .bool false]) W := by
  cases t with
  | null =>
    unfold TdT at h
    subst h
    exact ⟨_, _, _, rfl, fun W => mt_null _ _ W, mc_null, fun W => mf_null W, fun W => ml_null _ W⟩
  | flag b =>
    unfold TdT at h
    subst h
    exact ⟨_, _, _, rfl, fun W => mt_flag _ _ W, mc_flag, fun W => mf_flag _ W, fun W => ml_flag _ W⟩
  | num x =>
    unfold TdT at h
    subst h
    exact ⟨_, _, _, rfl, fun W => mt_num _ _ W, mc_num, fun W => mf_num _ W, fun W => ml_num _ W⟩
  | text s =>
    unfold TdT at h
    subst h
    exact ⟨_, _, _, rfl, fun W => mt_text _ _ W, mc_text, fun W => mf_text _ W, fun W => ml_text _ W⟩
  | list l =>
    unfold TdT at h
    obtain ⟨u, vs, rfl, _⟩ := h
    exact ⟨_, _, _, rfl, fun W => mt_list _ _ W, mc_list, fun W => mf_list _ W, fun W => ml_list _ W⟩
  | obj ks l =>
    unfold TdT at h
    obtain ⟨u, vs, rfl, _⟩ := h
    exact ⟨_, _, _, rfl, fun W => mt_obj _ _ W, mc_obj, fun W => mf_obj _ W, fun W => ml_obj _ W⟩
end Nd
end Go.Proofs.YtfhchnkoggdilaaGreatDoor
