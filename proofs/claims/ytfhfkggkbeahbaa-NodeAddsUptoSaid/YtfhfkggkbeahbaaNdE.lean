/-
  Walks of package node: Maker.step and Maker.Null.
-/
import Derived.Test.YtfhfkggkbeahbaaNdD
import Derived.StillTailTactics
namespace Go.Proofs.Ytfhfkggkbeahbaa
open Go.RowKit Mem
set_option linter.unusedVariables false

set_option maxRecDepth 100000 in
set_option maxHeartbeats 4000000 in
theorem step_null (p : Nat) (ty : TypeId) (B : Nat) (A : Option Addr) (n q : Nat) (xs : List Value) (w : World) (hB : Blk w p ty #[.slice A n q]) (hown : w.ownsRow B 46 1 (.slice A n q) n xs) (hp : p < B) (hn : n < 65536) (hBw : B ≤ w.heap.size) :
    Calls Try.prog 25 #[.pointer (some ⟨p, 0, none⟩), .agg #[.int .i64 1, .bool false, .int .u64 0, .string ⟨#[]⟩, .int .i64 0, .slice none 0 0]] w fun e w' => e = .returned .nilIface ∧ ∃ v', Blk w' p ty #[v'] ∧ w'.ownsRow B 46 1 v' (n + 1) (xs ++ [nullV]) ∧ Below p w w' := by
  have d1 : decide (65536 ≤ (n : Int)) = false := decide_eq_false (by omega)
  have hb0 : ∀ o1, Below w.heap.size w (w.alloc o1) := fun o1 => (Below.refl _ _).alloc (Nat.le_refl _) _
  have hS1 := Blk.new w 42 #[.int .i64 1, .bool false, .int .u64 0, .string ⟨#[]⟩, .int .i64 0, .slice none 0 0]
  have hB1 := hB.alloc (.cells #[.int .i64 1, .bool false, .int .u64 0, .string ⟨#[]⟩, .int .i64 0, .slice none 0 0] 42)
  have hown1 := own_below hown (hb0 (.cells #[.int .i64 1, .bool false, .int .u64 0, .string ⟨#[]⟩, .int .i64 0, .slice none 0 0] 42))
  have hbp1 : Below p w (w.alloc (.cells #[.int .i64 1, .bool false, .int .u64 0, .string ⟨#[]⟩, .int .i64 0, .slice none 0 0] 42)) := (hb0 _).mono (by omega)
  have hs1 := (hb0 (.cells #[.int .i64 1, .bool false, .int .u64 0, .string ⟨#[]⟩, .int .i64 0, .slice none 0 0] 42)).size
  go_enter Try.func25, Try.ntmps25
  go_upto_region 1 with fail
  generalize w.alloc (.cells #[.int .i64 1, .bool false, .int .u64 0, .string ⟨#[]⟩, .int .i64 0, .slice none 0 0] 42) = w1 at *
  clear hb0 hB hown
  have a0 : w1.cell? ⟨p, 0, none⟩ = some (.slice A n q) := hB1.cell 0
  have c0 : w1.cell? ⟨w.heap.size, 0, none⟩ = some (.int .i64 1) := hS1.cell 0
  have c1 : w1.cell? ⟨w.heap.size, 1, none⟩ = some (.bool false) := hS1.cell 1
  have c2 : w1.cell? ⟨w.heap.size, 2, none⟩ = some (.int .u64 0) := hS1.cell 2
  have c3 : w1.cell? ⟨w.heap.size, 3, none⟩ = some (.string ⟨#[]⟩) := hS1.cell 3
  have c4 : w1.cell? ⟨w.heap.size, 4, none⟩ = some (.int .i64 0) := hS1.cell 4
  have c5 : w1.cell? ⟨w.heap.size, 5, none⟩ = some (.slice none 0 0) := hS1.cell 5
  go_upto_region 5 with fail
  go_still_tail 4, (by kernel_rfl)
  go_wp2_with fail
  refine (do_null p ty B _ n xs _ hB1.drew (own_below hown1 (Below.refl _ _).drew) hp (by omega) (by show B ≤ w1.heap.size; omega)).mono ?_
  rintro e w2 ⟨rfl, v2, hB2, hown2, hbp2⟩
  go_wp2
  go_ret
  exact ⟨rfl, v2, hB2, hown2, (hbp1.drew).trans hbp2⟩
set_option maxRecDepth 100000 in
theorem mnull_any (p : Nat) (ty : TypeId) (B : Nat) (A : Option Addr) (n q : Nat) (xs : List Value) (w : World) (hB : Blk w p ty #[.slice A n q]) (hown : w.ownsRow B 46 1 (.slice A n q) n xs) (hp : p < B) (hn : n < 65536) (hBw : B ≤ w.heap.size) :
    Calls Try.prog 8 #[.pointer (some ⟨p, 0, none⟩)] w fun e w' => e = .returned .nilIface ∧ ∃ v', Blk w' p ty #[v'] ∧ w'.ownsRow B 46 1 v' (n + 1) (xs ++ [nullV]) ∧ Below p w w' := by
  go_enter Try.func8, Try.ntmps8
  go_wp2_with fail
  refine (step_null p ty B A n q xs _ hB hown hp hn hBw).mono ?_
  rintro e w2 ⟨rfl, h⟩
  go_wp2
  go_ret
  exact ⟨rfl, h⟩
end Go.Proofs.Ytfhfkggkbeahbaa
