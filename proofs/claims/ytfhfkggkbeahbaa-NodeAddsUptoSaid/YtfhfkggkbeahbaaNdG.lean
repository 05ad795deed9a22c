/-
  Walks of package node: New, Len; numbers at a full row; a copy at a full row.
-/
import Derived.Test.YtfhfkggkbeahbaaNdF
namespace Go.Proofs.Ytfhfkggkbeahbaa
open Go.RowKit Mem
set_option linter.unusedVariables false

theorem mnew_any (w : World) : Calls Try.prog 6 #[] w fun e w' => e = .returned (.pointer (some ⟨w.heap.size, 0, none⟩)) ∧ w.alloc (.cells #[.slice none 0 0] 74) = w' := by
  go_enter Try.func6, Try.ntmps6
  go_wp2
  go_ret
  exact ⟨rfl, rfl⟩
theorem mlen_any (p : Nat) (ty : TypeId) (A : Option Addr) (n q : Nat) (w : World) (hB : Blk w p ty #[.slice A n q]) :
    Calls Try.prog 13 #[.pointer (some ⟨p, 0, none⟩)] w fun e w' => e = .returned (.int .i64 n) ∧ w = w' := by
  have a1 : w.cell? ⟨p, 0, none⟩ = some (.slice A n q) := hB.cell 0
  clear hB
  go_enter Try.func13, Try.ntmps13
  go_wp2
  go_ret
  exact ⟨rfl, rfl⟩
theorem mcopy_full (x : TypeId) (y : Value) (p : Nat) (ty : TypeId) (A : Option Addr) (n q : Nat) (w : World) (hB : Blk w p ty #[.slice A n q]) (hn : 65536 ≤ n) :
    Calls Try.prog 15 #[.pointer (some ⟨p, 0, none⟩), .agg #[.iface x y]] w fun e w' => e = .returned (errN 3) ∧ Below w.heap.size w w' := by
  have d1 : decide (65536 ≤ (n : Int)) = true := decide_eq_true (by omega)
  have hb0 : ∀ o1, Below w.heap.size w (w.alloc o1) := fun o1 => (Below.refl _ _).alloc (Nat.le_refl _) _
  have hB1 := hB.alloc (.cells #[.iface x y] 48)
  have hlt := hB.lt
  have a1 : w.cell? ⟨p, 0, none⟩ = some (.slice A n q) := hB.cell 0
  have a2 : (w.alloc (.cells #[.iface x y] 48)).cell? ⟨p, 0, none⟩ = some (.slice A n q) := hB1.cell 0
  clear hB hB1 hn
  go_enter Try.func15, Try.ntmps15
  go_wp2
  go_ret
  exact ⟨rfl, hb0 _⟩
theorem mcopy_none (p : Nat) (w : World) :
    Calls Try.prog 15 #[.pointer (some ⟨p, 0, none⟩), .agg #[.nilIface]] w fun e w' => e = .returned (errN 4) ∧ Below w.heap.size w w' := by
  have hb0 : ∀ o1, Below w.heap.size w (w.alloc o1) := fun o1 => (Below.refl _ _).alloc (Nat.le_refl _) _
  go_enter Try.func15, Try.ntmps15
  go_wp2
  go_ret
  exact ⟨rfl, hb0 _⟩
end Go.Proofs.Ytfhfkggkbeahbaa
