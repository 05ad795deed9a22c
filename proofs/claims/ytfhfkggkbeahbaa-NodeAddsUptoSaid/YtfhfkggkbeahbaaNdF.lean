/-
  Walks of package node: a row that is full takes no further value.
-/
import Derived.Test.YtfhfkggkbeahbaaNdE
namespace Go.Proofs.Ytfhfkggkbeahbaa
open Go.RowKit Mem
set_option linter.unusedVariables false

def errN (n : Int) : Value := .iface 30 (.int .i64 n)
set_option maxRecDepth 100000 in
set_option maxHeartbeats 4000000 in
theorem step_full (s : Int) (f : Bool) (b : Int) (t : List UInt8) (c : Int) (A9 : Option Addr) (n9 q9 : Nat) (p : Nat) (ty : TypeId) (A : Option Addr) (n q : Nat) (w : World) (hB : Blk w p ty #[.slice A n q]) (hs : s < 5) (hn : 65536 ≤ n) :
    Calls Try.prog 25 #[.pointer (some ⟨p, 0, none⟩), .agg #[.int .i64 s, .bool f, .int .u64 b, .string ⟨t.toArray⟩, .int .i64 c, .slice A9 n9 q9]] w fun e w' => e = .returned (errN 3) ∧ Below w.heap.size w w' := by
  have d1 : decide (65536 ≤ (n : Int)) = true := decide_eq_true (by omega)
  have d2 : decide (s < 5) = true := decide_eq_true hs
  have hb0 : ∀ o1, Below w.heap.size w (w.alloc o1) := fun o1 => (Below.refl _ _).alloc (Nat.le_refl _) _
  have hB1 := hB.alloc (.cells #[.int .i64 s, .bool f, .int .u64 b, .string ⟨t.toArray⟩, .int .i64 c, .slice A9 n9 q9] 42)
  have a0 := hB1.cell 0
  have a1 : w.cell? ⟨p, 0, none⟩ = some (.slice A n q) := hB.cell 0
  have hlt := hB.lt
  have a2 : (w.alloc (.cells #[.int .i64 s, .bool f, .int .u64 b, .string ⟨t.toArray⟩, .int .i64 c, .slice A9 n9 q9] 42)).cell? ⟨p, 0, none⟩ = some (.slice A n q) := hB1.cell 0
  clear hB hB1 a0 hs hn
  go_enter Try.func25, Try.ntmps25
  go_wp2
  go_ret
  exact ⟨rfl, hb0 _⟩
set_option maxRecDepth 100000 in
theorem mnull_full (p : Nat) (ty : TypeId) (A : Option Addr) (n q : Nat) (w : World) (hB : Blk w p ty #[.slice A n q]) (hn : 65536 ≤ n) :
    Calls Try.prog 8 #[.pointer (some ⟨p, 0, none⟩)] w fun e w' => e = .returned (errN 3) ∧ Below w.heap.size w w' := by
  go_enter Try.func8, Try.ntmps8
  go_wp2_with fail
  refine (step_full 1 false 0 [] 0 none 0 0 p ty A n q _ hB (by omega) hn).mono ?_
  rintro e w2 ⟨rfl, h⟩
  go_wp2
  go_ret
  exact ⟨rfl, h⟩
set_option maxRecDepth 100000 in
theorem mflag_full (b : Bool) (p : Nat) (ty : TypeId) (A : Option Addr) (n q : Nat) (w : World) (hB : Blk w p ty #[.slice A n q]) (hn : 65536 ≤ n) :
    Calls Try.prog 10 #[.pointer (some ⟨p, 0, none⟩), .bool b] w fun e w' => e = .returned (errN 3) ∧ Below w.heap.size w w' := by
  go_enter Try.func10, Try.ntmps10
  go_wp2_with fail
  refine (step_full 2 b 0 [] 0 none 0 0 p ty A n q _ hB (by omega) hn).mono ?_
  rintro e w2 ⟨rfl, h⟩
  go_wp2
  go_ret
  exact ⟨rfl, h⟩
set_option maxRecDepth 100000 in
theorem mtext_full (t : List UInt8) (p : Nat) (ty : TypeId) (A : Option Addr) (n q : Nat) (w : World) (hB : Blk w p ty #[.slice A n q]) (hn : 65536 ≤ n) :
    Calls Try.prog 12 #[.pointer (some ⟨p, 0, none⟩), .string ⟨t.toArray⟩] w fun e w' => e = .returned (errN 3) ∧ Below w.heap.size w w' := by
  go_enter Try.func12, Try.ntmps12
  go_wp2_with fail
  refine (step_full 4 false 0 t 0 none 0 0 p ty A n q _ hB (by omega) hn).mono ?_
  rintro e w2 ⟨rfl, h⟩
  go_wp2
  go_ret
  exact ⟨rfl, h⟩
end Go.Proofs.Ytfhfkggkbeahbaa
