/-
  What a verdict answers to the statement ClaimsTimes (printed by wip/gen_clta.py).
-/
import Derived.Test.YtnondmeafilplaaGreatDoorClKa
import Derived.Test.YtnondmeafilplaaGreatDoorClNa
import Derived.Test.YtnondmeafilplaaGreatDoorClTQ
import Derived.Stop.Asserts
namespace Go.Proofs.YtnondmeafilplaaGreatDoor
open Go.RowKit Mem Utf Ref3 Tok Cl
set_option linter.unusedVariables false

def Cl.atQ (n : Int) : Int := min (max n 0) 9007199254740991
theorem at25_any (n : Int) (w : World) : Calls Tryz.prog 25 #[.int .i64 n] w fun e w' => e = .returned (.int .i64 (atQ n)) ∧ w = w' := by
  go_enter Tryz.func25, Tryz.ntmps25
  go_wp2
  go_ret
  exact ⟨rfl, rfl⟩
theorem vf_0 (n : Int) (w : World) : (Instr.typeAssert (.iface 85 (.agg #[.int .i64 n])) 27 82 true).run Tryz.prog w = .ok (.tuple #[.nilIface, .bool false]) w := run_typeAssert_lacksB Tryz.underlying82 (by kernel_rfl) (by kernel_rfl) _ _ _
theorem ve_0 (n : Int) (w : World) : (Instr.typeAssert (.iface 85 (.agg #[.int .i64 n])) 27 71 true).run Tryz.prog w = .ok (.tuple #[.agg #[.int .i64 0], .bool false]) w := by kernel_rfl
theorem vh_0 (n : Int) (w : World) : (Instr.typeAssert (.iface 85 (.agg #[.int .i64 n])) 27 85 true).run Tryz.prog w = .ok (.tuple #[.agg #[.int .i64 n], .bool true]) w := by kernel_rfl
theorem vn_0 (n : Int) (w : World) : (binOp .eql 27 (.iface 85 (.agg #[.int .i64 n])) .nilIface).run Tryz.prog w = .ok (.bool false) w := by kernel_rfl
theorem vf_1 (n : Int) (w : World) : (Instr.typeAssert (.iface 71 (.agg #[.int .i64 n])) 27 82 true).run Tryz.prog w = .ok (.tuple #[.nilIface, .bool false]) w := run_typeAssert_lacksB Tryz.underlying82 (by kernel_rfl) (by kernel_rfl) _ _ _
theorem ve_1 (n : Int) (w : World) : (Instr.typeAssert (.iface 71 (.agg #[.int .i64 n])) 27 71 true).run Tryz.prog w = .ok (.tuple #[.agg #[.int .i64 n], .bool true]) w := by kernel_rfl
theorem vh_1 (n : Int) (w : World) : (Instr.typeAssert (.iface 71 (.agg #[.int .i64 n])) 27 85 true).run Tryz.prog w = .ok (.tuple #[.agg #[.int .i64 0], .bool false]) w := by kernel_rfl
theorem vn_1 (n : Int) (w : World) : (binOp .eql 27 (.iface 71 (.agg #[.int .i64 n])) .nilIface).run Tryz.prog w = .ok (.bool false) w := by kernel_rfl
theorem vf_2 (n : Int) (w : World) : (Instr.typeAssert (.iface 64 (.agg #[.int .i64 n])) 27 82 true).run Tryz.prog w = .ok (.tuple #[.iface 64 (.agg #[.int .i64 n]), .bool true]) w := by kernel_rfl
theorem ve_2 (n : Int) (w : World) : (Instr.typeAssert (.iface 64 (.agg #[.int .i64 n])) 27 71 true).run Tryz.prog w = .ok (.tuple #[.agg #[.int .i64 0], .bool false]) w := by kernel_rfl
theorem vh_2 (n : Int) (w : World) : (Instr.typeAssert (.iface 64 (.agg #[.int .i64 n])) 27 85 true).run Tryz.prog w = .ok (.tuple #[.agg #[.int .i64 0], .bool false]) w := by kernel_rfl
theorem vn_2 (n : Int) (w : World) : (binOp .eql 27 (.iface 64 (.agg #[.int .i64 n])) .nilIface).run Tryz.prog w = .ok (.bool false) w := by kernel_rfl
theorem vf_3 (s : ByteArray) (w : World) : (Instr.typeAssert (.iface 100 (.agg #[.string s])) 27 82 true).run Tryz.prog w = .ok (.tuple #[.iface 100 (.agg #[.string s]), .bool true]) w := by kernel_rfl
theorem ve_3 (s : ByteArray) (w : World) : (Instr.typeAssert (.iface 100 (.agg #[.string s])) 27 71 true).run Tryz.prog w = .ok (.tuple #[.agg #[.int .i64 0], .bool false]) w := by kernel_rfl
theorem vh_3 (s : ByteArray) (w : World) : (Instr.typeAssert (.iface 100 (.agg #[.string s])) 27 85 true).run Tryz.prog w = .ok (.tuple #[.agg #[.int .i64 0], .bool false]) w := by kernel_rfl
theorem vn_3 (s : ByteArray) (w : World) : (binOp .eql 27 (.iface 100 (.agg #[.string s])) .nilIface).run Tryz.prog w = .ok (.bool false) w := by kernel_rfl
theorem vf_4 (s : ByteArray) (w : World) : (Instr.typeAssert (.iface 102 (.agg #[.string s])) 27 82 true).run Tryz.prog w = .ok (.tuple #[.iface 102 (.agg #[.string s]), .bool true]) w := by kernel_rfl
theorem ve_4 (s : ByteArray) (w : World) : (Instr.typeAssert (.iface 102 (.agg #[.string s])) 27 71 true).run Tryz.prog w = .ok (.tuple #[.agg #[.int .i64 0], .bool false]) w := by kernel_rfl
theorem vh_4 (s : ByteArray) (w : World) : (Instr.typeAssert (.iface 102 (.agg #[.string s])) 27 85 true).run Tryz.prog w = .ok (.tuple #[.agg #[.int .i64 0], .bool false]) w := by kernel_rfl
theorem vn_4 (s : ByteArray) (w : World) : (binOp .eql 27 (.iface 102 (.agg #[.string s])) .nilIface).run Tryz.prog w = .ok (.bool false) w := by kernel_rfl
theorem vf_5 (y : Value) (w : World) : (Instr.typeAssert (.iface 66 (.agg #[y])) 27 82 true).run Tryz.prog w = .ok (.tuple #[.iface 66 (.agg #[y]), .bool true]) w := by kernel_rfl
theorem ve_5 (y : Value) (w : World) : (Instr.typeAssert (.iface 66 (.agg #[y])) 27 71 true).run Tryz.prog w = .ok (.tuple #[.agg #[.int .i64 0], .bool false]) w := by kernel_rfl
theorem vh_5 (y : Value) (w : World) : (Instr.typeAssert (.iface 66 (.agg #[y])) 27 85 true).run Tryz.prog w = .ok (.tuple #[.agg #[.int .i64 0], .bool false]) w := by kernel_rfl
theorem vn_5 (y : Value) (w : World) : (binOp .eql 27 (.iface 66 (.agg #[y])) .nilIface).run Tryz.prog w = .ok (.bool false) w := by kernel_rfl
theorem vf_6 (y : Value) (w : World) : (Instr.typeAssert (.iface 68 (.agg #[y])) 27 82 true).run Tryz.prog w = .ok (.tuple #[.iface 68 (.agg #[y]), .bool true]) w := by kernel_rfl
theorem ve_6 (y : Value) (w : World) : (Instr.typeAssert (.iface 68 (.agg #[y])) 27 71 true).run Tryz.prog w = .ok (.tuple #[.agg #[.int .i64 0], .bool false]) w := by kernel_rfl
theorem vh_6 (y : Value) (w : World) : (Instr.typeAssert (.iface 68 (.agg #[y])) 27 85 true).run Tryz.prog w = .ok (.tuple #[.agg #[.int .i64 0], .bool false]) w := by kernel_rfl
theorem vn_6 (y : Value) (w : World) : (binOp .eql 27 (.iface 68 (.agg #[y])) .nilIface).run Tryz.prog w = .ok (.bool false) w := by kernel_rfl
theorem vf_7 (p : Addr) (w : World) : (Instr.typeAssert (.iface 92 (.pointer (some p))) 27 82 true).run Tryz.prog w = .ok (.tuple #[.iface 92 (.pointer (some p)), .bool true]) w := by kernel_rfl
theorem ve_7 (p : Addr) (w : World) : (Instr.typeAssert (.iface 92 (.pointer (some p))) 27 71 true).run Tryz.prog w = .ok (.tuple #[.agg #[.int .i64 0], .bool false]) w := by kernel_rfl
theorem vh_7 (p : Addr) (w : World) : (Instr.typeAssert (.iface 92 (.pointer (some p))) 27 85 true).run Tryz.prog w = .ok (.tuple #[.agg #[.int .i64 0], .bool false]) w := by kernel_rfl
theorem vn_7 (p : Addr) (w : World) : (binOp .eql 27 (.iface 92 (.pointer (some p))) .nilIface).run Tryz.prog w = .ok (.bool false) w := by kernel_rfl

/-- what a verdict answers -/
structure VFacts (v : Value) (x : Verd) : Prop where
  nil : ∀ W, (binOp .eql 27 v .nilIface).run Tryz.prog W = .ok (.bool false) W
  fin : ∃ y, ∀ W, (Instr.typeAssert v 27 82 true).run Tryz.prog W = .ok (.tuple #[y, .bool (decide (x.kind ≠ 1 ∧ x.kind ≠ 2))]) W
  early : ∀ W, (Instr.typeAssert v 27 71 true).run Tryz.prog W = .ok (.tuple #[.agg #[.int .i64 (if x.kind = 2 then x.time else 0)], .bool (decide (x.kind = 2))]) W
  holds : ∀ W, (Instr.typeAssert v 27 85 true).run Tryz.prog W = .ok (.tuple #[.agg #[.int .i64 (if x.kind = 1 then x.time else 0)], .bool (decide (x.kind = 1))]) W
  kind : ∀ W, Calls Tryz.prog 26 #[v] W fun e w' => e = .returned (.int .i64 (kindP x)) ∧ W = w'
theorem VFacts.early_yes {v : Value} {x : Verd} (h : VFacts v x) (hk : x.kind = 2) (W : World) : (Instr.typeAssert v 27 71 true).run Tryz.prog W = .ok (.tuple #[.agg #[.int .i64 x.time], .bool true]) W := by
  have := h.early W
  rw [if_pos hk, decide_eq_true hk] at this
  exact this
theorem VFacts.early_no {v : Value} {x : Verd} (h : VFacts v x) (hk : ¬ x.kind = 2) (W : World) : (Instr.typeAssert v 27 71 true).run Tryz.prog W = .ok (.tuple #[.agg #[.int .i64 0], .bool false]) W := by
  have := h.early W
  rw [if_neg hk, decide_eq_false hk] at this
  exact this
theorem VFacts.holds_yes {v : Value} {x : Verd} (h : VFacts v x) (hk : x.kind = 1) (W : World) : (Instr.typeAssert v 27 85 true).run Tryz.prog W = .ok (.tuple #[.agg #[.int .i64 x.time], .bool true]) W := by
  have := h.holds W
  rw [if_pos hk, decide_eq_true hk] at this
  exact this
theorem VFacts.holds_no {v : Value} {x : Verd} (h : VFacts v x) (hk : ¬ x.kind = 1) (W : World) : (Instr.typeAssert v 27 85 true).run Tryz.prog W = .ok (.tuple #[.agg #[.int .i64 0], .bool false]) W := by
  have := h.holds W
  rw [if_neg hk, decide_eq_false hk] at this
  exact this
theorem vfacts {B : Nat} {v : Value} {x : Verd} {w : World} (h : VerdV B w v x) (h7 : x.kind ≤ 7) : VFacts v x := by
  obtain ⟨k, t, s, l⟩ := x
  simp only [] at h7
  have h8 : k = 0 ∨ k = 1 ∨ k = 2 ∨ k = 3 ∨ k = 4 ∨ k = 5 ∨ k = 6 ∨ k = 7 := by omega
  unfold VerdV at h
  rcases h8 with rfl | rfl | rfl | rfl | rfl | rfl | rfl | rfl <;> simp only [] at h
  · obtain ⟨b, _, rfl, _⟩ := h
    exact ⟨fun W => vn_7 _ W, ⟨_, fun W => vf_7 _ W⟩, fun W => ve_7 _ W, fun W => vh_7 _ W, fun W => lk8_any _ W⟩
  · subst h
    exact ⟨fun W => vn_0 _ W, ⟨_, fun W => vf_0 _ W⟩, fun W => ve_0 _ W, fun W => vh_0 _ W, fun W => lk1_any _ W⟩
  · subst h
    exact ⟨fun W => vn_1 _ W, ⟨_, fun W => vf_1 _ W⟩, fun W => ve_1 _ W, fun W => vh_1 _ W, fun W => lk2_any _ W⟩
  · subst h
    exact ⟨fun W => vn_2 _ W, ⟨_, fun W => vf_2 _ W⟩, fun W => ve_2 _ W, fun W => vh_2 _ W, fun W => lk3_any _ W⟩
  · subst h
    exact ⟨fun W => vn_3 _ W, ⟨_, fun W => vf_3 _ W⟩, fun W => ve_3 _ W, fun W => vh_3 _ W, fun W => lk4_any _ W⟩
  · subst h
    exact ⟨fun W => vn_4 _ W, ⟨_, fun W => vf_4 _ W⟩, fun W => ve_4 _ W, fun W => vh_4 _ W, fun W => lk5_any _ W⟩
  · obtain ⟨y, rfl, _⟩ := h
    exact ⟨fun W => vn_5 _ W, ⟨_, fun W => vf_5 _ W⟩, fun W => ve_5 _ W, fun W => vh_5 _ W, fun W => lk6_any _ W⟩
  · obtain ⟨y, rfl, _⟩ := h
    exact ⟨fun W => vn_6 _ W, ⟨_, fun W => vf_6 _ W⟩, fun W => ve_6 _ W, fun W => vh_6 _ W, fun W => lk7_any _ W⟩
end Go.Proofs.YtnondmeafilplaaGreatDoor
