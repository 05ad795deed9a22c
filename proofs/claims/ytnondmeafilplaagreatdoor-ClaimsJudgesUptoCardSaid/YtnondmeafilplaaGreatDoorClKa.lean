/-
  Walks: kind of package claims, and of the statements of layer 25 (printed by wip/gen_clka.py).
-/
import Derived.Test.YtnondmeafilplaaGreatDoorClW
namespace Go.Proofs.YtnondmeafilplaaGreatDoor
open Go.RowKit Mem Utf Ref3 Tok Cl
set_option linter.unusedVariables false

theorem tvb_1 (v : Value) (w : World) : (Instr.typeAssert (.iface 92 v) 27 71 true).run Tryz.prog w = .ok (.tuple #[.agg #[.int .i64 0], .bool false]) w := by kernel_rfl
theorem tvb_2 (v : Value) (w : World) : (Instr.typeAssert (.iface 92 v) 27 64 true).run Tryz.prog w = .ok (.tuple #[.agg #[.int .i64 0], .bool false]) w := by kernel_rfl
theorem tvb_3 (v : Value) (w : World) : (Instr.typeAssert (.iface 92 v) 27 100 true).run Tryz.prog w = .ok (.tuple #[.agg #[.string ⟨#[]⟩], .bool false]) w := by kernel_rfl
theorem tvb_4 (v : Value) (w : World) : (Instr.typeAssert (.iface 92 v) 27 102 true).run Tryz.prog w = .ok (.tuple #[.agg #[.string ⟨#[]⟩], .bool false]) w := by kernel_rfl
theorem tvb_5 (v : Value) (w : World) : (Instr.typeAssert (.iface 92 v) 27 66 true).run Tryz.prog w = .ok (.tuple #[.agg #[.slice none 0 0], .bool false]) w := by kernel_rfl
theorem tvb_6 (v : Value) (w : World) : (Instr.typeAssert (.iface 92 v) 27 68 true).run Tryz.prog w = .ok (.tuple #[.agg #[.slice none 0 0], .bool false]) w := by kernel_rfl
theorem tvb_b (p : Option Addr) (w : World) : (Instr.typeAssert (.iface 92 (.pointer p)) 27 92 true).run Tryz.prog w = .ok (.tuple #[.pointer p, .bool true]) w := by kernel_rfl

theorem ck1_any (n : Int) (w : World) : Calls Tryz.prog 43 #[.iface 85 (.agg #[.int .i64 n])] w fun e w' => e = .returned (.int .i64 1) ∧ w = w' := by
  have t0 := tv_0_0
  go_enter Tryz.func43, Tryz.ntmps43
  go_wp2
  go_ret
  exact ⟨rfl, rfl⟩

theorem ck2_any (n : Int) (w : World) : Calls Tryz.prog 43 #[.iface 71 (.agg #[.int .i64 n])] w fun e w' => e = .returned (.int .i64 2) ∧ w = w' := by
  have t0 := tv_1_0
  have t1 := tv_1_1
  go_enter Tryz.func43, Tryz.ntmps43
  go_wp2
  go_ret
  exact ⟨rfl, rfl⟩

theorem ck3_any (n : Int) (w : World) : Calls Tryz.prog 43 #[.iface 64 (.agg #[.int .i64 n])] w fun e w' => e = .returned (.int .i64 3) ∧ w = w' := by
  have t0 := tv_2_0
  have t1 := tv_2_1
  have t2 := tv_2_2
  go_enter Tryz.func43, Tryz.ntmps43
  go_wp2
  go_ret
  exact ⟨rfl, rfl⟩

theorem ck4_any (s : ByteArray) (w : World) : Calls Tryz.prog 43 #[.iface 100 (.agg #[.string s])] w fun e w' => e = .returned (.int .i64 4) ∧ w = w' := by
  have t0 := tv_3_0
  have t1 := tv_3_1
  have t2 := tv_3_2
  have t3 := tv_3_3
  go_enter Tryz.func43, Tryz.ntmps43
  go_wp2
  go_ret
  exact ⟨rfl, rfl⟩

theorem ck5_any (s : ByteArray) (w : World) : Calls Tryz.prog 43 #[.iface 102 (.agg #[.string s])] w fun e w' => e = .returned (.int .i64 5) ∧ w = w' := by
  have t0 := tv_4_0
  have t1 := tv_4_1
  have t2 := tv_4_2
  have t3 := tv_4_3
  have t4 := tv_4_4
  go_enter Tryz.func43, Tryz.ntmps43
  go_wp2
  go_ret
  exact ⟨rfl, rfl⟩

theorem ck6_any (y : Value) (w : World) : Calls Tryz.prog 43 #[.iface 66 (.agg #[y])] w fun e w' => e = .returned (.int .i64 6) ∧ w = w' := by
  have t0 := tv_5_0
  have t1 := tv_5_1
  have t2 := tv_5_2
  have t3 := tv_5_3
  have t4 := tv_5_4
  have t5 := tv_5_5
  go_enter Tryz.func43, Tryz.ntmps43
  go_wp2
  go_ret
  exact ⟨rfl, rfl⟩

theorem ck7_any (y : Value) (w : World) : Calls Tryz.prog 43 #[.iface 68 (.agg #[y])] w fun e w' => e = .returned (.int .i64 7) ∧ w = w' := by
  have t0 := tv_6_0
  have t1 := tv_6_1
  have t2 := tv_6_2
  have t3 := tv_6_3
  have t4 := tv_6_4
  have t5 := tv_6_5
  have t6 := tv_6_6
  go_enter Tryz.func43, Tryz.ntmps43
  go_wp2
  go_ret
  exact ⟨rfl, rfl⟩

theorem ck8_any (p : Option Addr) (w : World) : Calls Tryz.prog 43 #[.iface 92 (.pointer p)] w fun e w' => e = .returned (.int .i64 8) ∧ w = w' := by
  have t0 := tvb_0
  have t1 := tvb_1
  have t2 := tvb_2
  have t3 := tvb_3
  have t4 := tvb_4
  have t5 := tvb_5
  have t6 := tvb_6
  go_enter Tryz.func43, Tryz.ntmps43
  go_wp2
  go_ret
  exact ⟨rfl, rfl⟩

theorem lk1_any (n : Int) (w : World) : Calls Tryz.prog 26 #[.iface 85 (.agg #[.int .i64 n])] w fun e w' => e = .returned (.int .i64 1) ∧ w = w' := by
  have t0 := tv_0_0
  go_enter Tryz.func26, Tryz.ntmps26
  go_wp2
  go_ret
  exact ⟨rfl, rfl⟩

theorem lk2_any (n : Int) (w : World) : Calls Tryz.prog 26 #[.iface 71 (.agg #[.int .i64 n])] w fun e w' => e = .returned (.int .i64 2) ∧ w = w' := by
  have t0 := tv_1_0
  have t1 := tv_1_1
  go_enter Tryz.func26, Tryz.ntmps26
  go_wp2
  go_ret
  exact ⟨rfl, rfl⟩

theorem lk3_any (n : Int) (w : World) : Calls Tryz.prog 26 #[.iface 64 (.agg #[.int .i64 n])] w fun e w' => e = .returned (.int .i64 3) ∧ w = w' := by
  have t0 := tv_2_0
  have t1 := tv_2_1
  have t2 := tv_2_2
  go_enter Tryz.func26, Tryz.ntmps26
  go_wp2
  go_ret
  exact ⟨rfl, rfl⟩

theorem lk4_any (s : ByteArray) (w : World) : Calls Tryz.prog 26 #[.iface 100 (.agg #[.string s])] w fun e w' => e = .returned (.int .i64 4) ∧ w = w' := by
  have t0 := tv_3_0
  have t1 := tv_3_1
  have t2 := tv_3_2
  have t3 := tv_3_3
  go_enter Tryz.func26, Tryz.ntmps26
  go_wp2
  go_ret
  exact ⟨rfl, rfl⟩

theorem lk5_any (s : ByteArray) (w : World) : Calls Tryz.prog 26 #[.iface 102 (.agg #[.string s])] w fun e w' => e = .returned (.int .i64 5) ∧ w = w' := by
  have t0 := tv_4_0
  have t1 := tv_4_1
  have t2 := tv_4_2
  have t3 := tv_4_3
  have t4 := tv_4_4
  go_enter Tryz.func26, Tryz.ntmps26
  go_wp2
  go_ret
  exact ⟨rfl, rfl⟩

theorem lk6_any (y : Value) (w : World) : Calls Tryz.prog 26 #[.iface 66 (.agg #[y])] w fun e w' => e = .returned (.int .i64 6) ∧ w = w' := by
  have t0 := tv_5_0
  have t1 := tv_5_1
  have t2 := tv_5_2
  have t3 := tv_5_3
  have t4 := tv_5_4
  have t5 := tv_5_5
  go_enter Tryz.func26, Tryz.ntmps26
  go_wp2
  go_ret
  exact ⟨rfl, rfl⟩

theorem lk7_any (y : Value) (w : World) : Calls Tryz.prog 26 #[.iface 68 (.agg #[y])] w fun e w' => e = .returned (.int .i64 7) ∧ w = w' := by
  have t0 := tv_6_0
  have t1 := tv_6_1
  have t2 := tv_6_2
  have t3 := tv_6_3
  have t4 := tv_6_4
  have t5 := tv_6_5
  have t6 := tv_6_6
  go_enter Tryz.func26, Tryz.ntmps26
  go_wp2
  go_ret
  exact ⟨rfl, rfl⟩

theorem lk8_any (p : Option Addr) (w : World) : Calls Tryz.prog 26 #[.iface 92 (.pointer p)] w fun e w' => e = .returned (.int .i64 8) ∧ w = w' := by
  have t0 := tvb_0
  have t1 := tvb_1
  have t2 := tvb_2
  have t3 := tvb_3
  have t4 := tvb_4
  have t5 := tvb_5
  have t6 := tvb_6
  have tb := tvb_b
  go_enter Tryz.func26, Tryz.ntmps26
  go_wp2
  go_ret
  exact ⟨rfl, rfl⟩

/-- a verdict's type, as a number: what is broken is the eighth -/
def Cl.kindP (x : Verd) : Int := if x.kind = 0 then 8 else (x.kind : Int)

theorem ck_any {B : Nat} {v : Value} {x : Verd} (w : World) (h : VerdV B w v x) (h7 : x.kind ≤ 7) : Calls Tryz.prog 43 #[v] w fun e w' => e = .returned (.int .i64 (kindP x)) ∧ w = w' := by
  obtain ⟨k, t, s, l⟩ := x
  simp only [] at h7
  have h8 : k = 0 ∨ k = 1 ∨ k = 2 ∨ k = 3 ∨ k = 4 ∨ k = 5 ∨ k = 6 ∨ k = 7 := by omega
  unfold VerdV at h
  rcases h8 with rfl | rfl | rfl | rfl | rfl | rfl | rfl | rfl <;> simp only [] at h
  · obtain ⟨b, _, rfl, _⟩ := h
    exact ck8_any _ w
  · subst h
    exact ck1_any _ w
  · subst h
    exact ck2_any _ w
  · subst h
    exact ck3_any _ w
  · subst h
    exact ck4_any _ w
  · subst h
    exact ck5_any _ w
  · obtain ⟨y, rfl, _⟩ := h
    exact ck6_any _ w
  · obtain ⟨y, rfl, _⟩ := h
    exact ck7_any _ w

theorem lk_any {B : Nat} {v : Value} {x : Verd} (w : World) (h : VerdV B w v x) (h7 : x.kind ≤ 7) : Calls Tryz.prog 26 #[v] w fun e w' => e = .returned (.int .i64 (kindP x)) ∧ w = w' := by
  obtain ⟨k, t, s, l⟩ := x
  simp only [] at h7
  have h8 : k = 0 ∨ k = 1 ∨ k = 2 ∨ k = 3 ∨ k = 4 ∨ k = 5 ∨ k = 6 ∨ k = 7 := by omega
  unfold VerdV at h
  rcases h8 with rfl | rfl | rfl | rfl | rfl | rfl | rfl | rfl <;> simp only [] at h
  · obtain ⟨b, _, rfl, _⟩ := h
    exact lk8_any _ w
  · subst h
    exact lk1_any _ w
  · subst h
    exact lk2_any _ w
  · subst h
    exact lk3_any _ w
  · subst h
    exact lk4_any _ w
  · subst h
    exact lk5_any _ w
  · obtain ⟨y, rfl, _⟩ := h
    exact lk6_any _ w
  · obtain ⟨y, rfl, _⟩ := h
    exact lk7_any _ w
end Go.Proofs.YtnondmeafilplaaGreatDoor
