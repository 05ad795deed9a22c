/-
  Walk of package claims: may (printed by wip/gen_clc.py).
-/
import Derived.Test.YtbcckpnngonoeaaGreatDoorCvB
import Derived.Deep.QuietTactic
import Derived.BigQuiet
namespace Go.Proofs.YtbcckpnngonoeaaGreatDoor
open Go.RowKit Mem Utf Ref3 Tok Cl
set_option linter.unusedVariables false

def fnK : Nat → FuncId
  | 0 => 92
  | 1 => 93
  | 2 => 94
  | 3 => 95
  | 4 => 96
  | 5 => 97
  | 6 => 98
  | _ => 99
def offK : Nat → Nat
  | 0 => 1
  | 1 => 2
  | 2 => 3
  | 3 => 4
  | 4 => 5
  | 5 => 6
  | 6 => 7
  | _ => 8
theorem below8 {k : Nat} (h : k < 8) : k = 0 ∨ k = 1 ∨ k = 2 ∨ k = 3 ∨ k = 4 ∨ k = 5 ∨ k = 6 ∨ k = 7 := by omega
theorem fld0_any (b : Nat) (w : World) : Calls Tryz.prog 92 #[.pointer (some ⟨b, 0, none⟩)] w fun e w' => e = .returned (.pointer (some ⟨b, 1, none⟩)) ∧ w = w' := by
  go_enter Tryz.func92, Tryz.ntmps92
  go_wp2
  go_ret
  exact ⟨rfl, rfl⟩
theorem enter0 (args : Array Value) (w : World) : (callFunc 92 args).run Tryz.prog w = .ok (.enter 92 args) w := by kernel_rfl
theorem fld1_any (b : Nat) (w : World) : Calls Tryz.prog 93 #[.pointer (some ⟨b, 0, none⟩)] w fun e w' => e = .returned (.pointer (some ⟨b, 2, none⟩)) ∧ w = w' := by
  go_enter Tryz.func93, Tryz.ntmps93
  go_wp2
  go_ret
  exact ⟨rfl, rfl⟩
theorem enter1 (args : Array Value) (w : World) : (callFunc 93 args).run Tryz.prog w = .ok (.enter 93 args) w := by kernel_rfl
theorem fld2_any (b : Nat) (w : World) : Calls Tryz.prog 94 #[.pointer (some ⟨b, 0, none⟩)] w fun e w' => e = .returned (.pointer (some ⟨b, 3, none⟩)) ∧ w = w' := by
  go_enter Tryz.func94, Tryz.ntmps94
  go_wp2
  go_ret
  exact ⟨rfl, rfl⟩
theorem enter2 (args : Array Value) (w : World) : (callFunc 94 args).run Tryz.prog w = .ok (.enter 94 args) w := by kernel_rfl
theorem fld3_any (b : Nat) (w : World) : Calls Tryz.prog 95 #[.pointer (some ⟨b, 0, none⟩)] w fun e w' => e = .returned (.pointer (some ⟨b, 4, none⟩)) ∧ w = w' := by
  go_enter Tryz.func95, Tryz.ntmps95
  go_wp2
  go_ret
  exact ⟨rfl, rfl⟩
theorem enter3 (args : Array Value) (w : World) : (callFunc 95 args).run Tryz.prog w = .ok (.enter 95 args) w := by kernel_rfl
theorem fld4_any (b : Nat) (w : World) : Calls Tryz.prog 96 #[.pointer (some ⟨b, 0, none⟩)] w fun e w' => e = .returned (.pointer (some ⟨b, 5, none⟩)) ∧ w = w' := by
  go_enter Tryz.func96, Tryz.ntmps96
  go_wp2
  go_ret
  exact ⟨rfl, rfl⟩
theorem enter4 (args : Array Value) (w : World) : (callFunc 96 args).run Tryz.prog w = .ok (.enter 96 args) w := by kernel_rfl
theorem fld5_any (b : Nat) (w : World) : Calls Tryz.prog 97 #[.pointer (some ⟨b, 0, none⟩)] w fun e w' => e = .returned (.pointer (some ⟨b, 6, none⟩)) ∧ w = w' := by
  go_enter Tryz.func97, Tryz.ntmps97
  go_wp2
  go_ret
  exact ⟨rfl, rfl⟩
theorem enter5 (args : Array Value) (w : World) : (callFunc 97 args).run Tryz.prog w = .ok (.enter 97 args) w := by kernel_rfl
theorem fld6_any (b : Nat) (w : World) : Calls Tryz.prog 98 #[.pointer (some ⟨b, 0, none⟩)] w fun e w' => e = .returned (.pointer (some ⟨b, 7, none⟩)) ∧ w = w' := by
  go_enter Tryz.func98, Tryz.ntmps98
  go_wp2
  go_ret
  exact ⟨rfl, rfl⟩
theorem enter6 (args : Array Value) (w : World) : (callFunc 98 args).run Tryz.prog w = .ok (.enter 98 args) w := by kernel_rfl
theorem fld7_any (b : Nat) (w : World) : Calls Tryz.prog 99 #[.pointer (some ⟨b, 0, none⟩)] w fun e w' => e = .returned (.pointer (some ⟨b, 8, none⟩)) ∧ w = w' := by
  go_enter Tryz.func99, Tryz.ntmps99
  go_wp2
  go_ret
  exact ⟨rfl, rfl⟩
theorem enter7 (args : Array Value) (w : World) : (callFunc 99 args).run Tryz.prog w = .ok (.enter 99 args) w := by kernel_rfl
theorem fld_any {k : Nat} (hk : k < 8) (b : Nat) (w : World) : Calls Tryz.prog (fnK k) #[.pointer (some ⟨b, 0, none⟩)] w fun e w' => e = .returned (.pointer (some ⟨b, offK k, none⟩)) ∧ w = w' := by
  rcases below8 hk with rfl | rfl | rfl | rfl | rfl | rfl | rfl | rfl
  · exact fld0_any b w
  · exact fld1_any b w
  · exact fld2_any b w
  · exact fld3_any b w
  · exact fld4_any b w
  · exact fld5_any b w
  · exact fld6_any b w
  · exact fld7_any b w
theorem enter_any {k : Nat} (hk : k < 8) (args : Array Value) (w : World) : (callFunc (fnK k) args).run Tryz.prog w = .ok (.enter (fnK k) args) w := by
  rcases below8 hk with rfl | rfl | rfl | rfl | rfl | rfl | rfl | rfl
  · exact enter0 args w
  · exact enter1 args w
  · exact enter2 args w
  · exact enter3 args w
  · exact enter4 args w
  · exact enter5 args w
  · exact enter6 args w
  · exact enter7 args w

/-- one row of the table, as it lies in memory -/
structure RowAt (w : World) (g k : Nat) (a2 a3 a4 : Value) : Prop where
  c0 : w.cell? ⟨g, k * 5, none⟩ = some (.string ⟨(key k).toArray⟩)
  c1 : ∃ q cap, w.cell? ⟨g, k * 5 + 1, none⟩ = some (.func (.func q) #[] cap)
  c2 : w.cell? ⟨g, k * 5 + 2, none⟩ = some a2
  c3 : w.cell? ⟨g, k * 5 + 3, none⟩ = some a3
  c4 : w.cell? ⟨g, k * 5 + 4, none⟩ = some a4
abbrev fnV (k : Nat) : Value := .func (.func (fnK k)) #[] #[]
theorem rows_at {w : World} {g : Nat} {rd : Nat → FuncId × Array Value} (h : Blk w g 153 (rowCells rd)) {k : Nat} (hk : k < 8) :
    ((k = 0 ∨ k = 2 ∨ k = 5) ∧ RowAt w g k (fnV k) .nilFunc .nilFunc) ∨ ((k = 1 ∨ k = 4 ∨ k = 7) ∧ RowAt w g k .nilFunc (fnV k) .nilFunc) ∨ ((k = 3 ∨ k = 6) ∧ RowAt w g k .nilFunc .nilFunc (fnV k)) := by
  have hc := fun i => h.cell i
  unfold rowCells at hc
  rcases below8 hk with rfl | rfl | rfl | rfl | rfl | rfl | rfl | rfl
  · exact .inl ⟨by decide, ⟨hc 0, ⟨_, _, hc 1⟩, hc 2, hc 3, hc 4⟩⟩
  · exact .inr (.inl ⟨by decide, ⟨hc 5, ⟨_, _, hc 6⟩, hc 7, hc 8, hc 9⟩⟩)
  · exact .inl ⟨by decide, ⟨hc 10, ⟨_, _, hc 11⟩, hc 12, hc 13, hc 14⟩⟩
  · exact .inr (.inr ⟨by decide, ⟨hc 15, ⟨_, _, hc 16⟩, hc 17, hc 18, hc 19⟩⟩)
  · exact .inr (.inl ⟨by decide, ⟨hc 20, ⟨_, _, hc 21⟩, hc 22, hc 23, hc 24⟩⟩)
  · exact .inl ⟨by decide, ⟨hc 25, ⟨_, _, hc 26⟩, hc 27, hc 28, hc 29⟩⟩
  · exact .inr (.inr ⟨by decide, ⟨hc 30, ⟨_, _, hc 31⟩, hc 32, hc 33, hc 34⟩⟩)
  · exact .inr (.inl ⟨by decide, ⟨hc 35, ⟨_, _, hc 36⟩, hc 37, hc 38, hc 39⟩⟩)

theorem getD_at {l : List Txt} {n : Nat} (h : n < l.length) : l.getD n [] = l[n] := by
  rw [List.getD_eq_getElem?_getD, List.getElem?_eq_getElem h]
  rfl
theorem mayK_step {c : C} {k n : Nat} (hk : k < 8) : mayK c (8 - k) n = (!(order c k n) && valid c (is c k) k && mayK c (8 - (k + 1)) (if is c k then n + 1 else n)) := by
  have h1 : 8 - k = (7 - k) + 1 := by omega
  have h2 : 7 - (7 - k) = k := by omega
  have h3 : 8 - (k + 1) = 7 - k := by omega
  rw [h1, mayK, h2, h3]
theorem fn_ne0 (F : FuncId) (w : World) : (binOp .neq 149 (.func (.func F) #[] #[]) .nilFunc).run Tryz.prog w = .ok (.bool true) w := by kernel_rfl
theorem nil_ne0 (w : World) : (binOp .neq 149 .nilFunc .nilFunc).run Tryz.prog w = .ok (.bool false) w := by kernel_rfl
theorem fn_ne1 (F : FuncId) (w : World) : (binOp .neq 150 (.func (.func F) #[] #[]) .nilFunc).run Tryz.prog w = .ok (.bool true) w := by kernel_rfl
theorem nil_ne1 (w : World) : (binOp .neq 150 .nilFunc .nilFunc).run Tryz.prog w = .ok (.bool false) w := by kernel_rfl
theorem fn_ne2 (F : FuncId) (w : World) : (binOp .neq 151 (.func (.func F) #[] #[]) .nilFunc).run Tryz.prog w = .ok (.bool true) w := by kernel_rfl
theorem nil_ne2 (w : World) : (binOp .neq 151 .nilFunc .nilFunc).run Tryz.prog w = .ok (.bool false) w := by kernel_rfl
end Go.Proofs.YtbcckpnngonoeaaGreatDoor
