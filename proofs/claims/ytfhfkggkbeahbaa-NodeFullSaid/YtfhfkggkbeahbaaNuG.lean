/-
  Walks of package node: a maker's steps.
-/
import Derived.Test.YtfhfkggkbeahbaaNuF
namespace Go.Proofs.Ytfhfkggkbeahbaa
open Go.RowKit Mem
set_option linter.unusedVariables false
namespace Nd

/-- what a maker's step does to its row -/
def stepT (l : List Tr) (s : Stp) : Int × List Tr := if s.sort < 5 ∧ 65536 ≤ l.length then (3, l) else doT l s
theorem RwX.slice {p : Nat} {ty : TypeId} {B : Nat} {l : List Tr} {w : World} (h : RwX p ty B l w) : ∃ A q, Blk w p ty #[.slice A l.length q] := by
  obtain ⟨v, xs, h⟩ := h
  obtain ⟨A, q, rfl⟩ := own_slice h.own
  exact ⟨A, q, h.bl⟩
theorem RwX.plt {p : Nat} {ty : TypeId} {B : Nat} {l : List Tr} {w : World} (h : RwX p ty B l w) : p < B ∧ B ≤ w.heap.size := by
  obtain ⟨v, xs, h⟩ := h
  exact ⟨h.lt, h.le⟩
set_option maxRecDepth 100000 in
set_option maxHeartbeats 4000000 in
theorem mstep_low (s : Stp) (hs : s.Fine) (K : Option Addr) (q9 : Nat) (p : Nat) (ty : TypeId) (B : Nat) (l : List Tr) (w : World) (hR : RwX p ty B l w) (hkv : RdK w (.slice K s.keys.length q9) s.keys) (hlo : s.sort < 5) (hn : l.length < 65536) :
    Calls Try.prog 25 #[.pointer (some ⟨p, 0, none⟩), .agg #[.int .i64 s.sort, .bool s.flag, .int .u64 (s.bits : Int), .string ⟨s.text.toArray⟩, .int .i64 s.count, .slice K s.keys.length q9]] w fun e w' => e = .returned (errV (doT l s).1) ∧ RwX p ty B (doT l s).2 w' ∧ Below p w w' := by
  have d1 : decide (65536 ≤ (l.length : Int)) = false := decide_eq_false (by omega)
  have d2 : decide (s.sort < 5) = true := decide_eq_true hlo
  obtain ⟨A, q, hB⟩ := hR.slice
  have hpl := hR.plt
  have hba : Below w.heap.size w (w.alloc (.cells #[.int .i64 s.sort, .bool s.flag, .int .u64 (s.bits : Int), .string ⟨s.text.toArray⟩, .int .i64 s.count, .slice K s.keys.length q9] 42)) := (Below.refl _ _).alloc (Nat.le_refl _) _
  have hS1 := Blk.new w 42 #[.int .i64 s.sort, .bool s.flag, .int .u64 (s.bits : Int), .string ⟨s.text.toArray⟩, .int .i64 s.count, .slice K s.keys.length q9]
  have hB1 := hB.alloc (.cells #[.int .i64 s.sort, .bool s.flag, .int .u64 (s.bits : Int), .string ⟨s.text.toArray⟩, .int .i64 s.count, .slice K s.keys.length q9] 42)
  have HX := Lib.hid (hR.below hba)
  have HK := Lib.hid (hkv.below hba)
  have HF := Lib.hid hs
  clear hR hkv hs hB hlo
  go_enter Try.func25, Try.ntmps25
  go_upto_region 1 with fail
  generalize w.alloc (.cells #[.int .i64 s.sort, .bool s.flag, .int .u64 (s.bits : Int), .string ⟨s.text.toArray⟩, .int .i64 s.count, .slice K s.keys.length q9] 42) = w1 at *
  have HBA := Lib.hid hba
  clear hba
  have a0 : w1.cell? ⟨p, 0, none⟩ = some (.slice A l.length q) := hB1.cell 0
  have c0 : w1.cell? ⟨w.heap.size, 0, none⟩ = some (.int .i64 s.sort) := hS1.cell 0
  have c1 : w1.cell? ⟨w.heap.size, 1, none⟩ = some (.bool s.flag) := hS1.cell 1
  have c2 : w1.cell? ⟨w.heap.size, 2, none⟩ = some (.int .u64 (s.bits : Int)) := hS1.cell 2
  have c3 : w1.cell? ⟨w.heap.size, 3, none⟩ = some (.string ⟨s.text.toArray⟩) := hS1.cell 3
  have c4 : w1.cell? ⟨w.heap.size, 4, none⟩ = some (.int .i64 s.count) := hS1.cell 4
  have c5 : w1.cell? ⟨w.heap.size, 5, none⟩ = some (.slice K s.keys.length q9) := hS1.cell 5
  go_upto_region 5 with fail
  go_still_tail 4, (by kernel_rfl)
  go_wp2_with fail
  have hbd : Below w1.heap.size w1 w1.drew := drewN_below w1 1
  ((with_reducible refine (do_any s HF.out K q9 p ty B l _ (HX.out.below hbd) (HK.out.below hbd) (by omega)).mono ?_); rintro e w2 ⟨rfl, hx2, hb2⟩)
  have HPP : Hid (RwX p ty B (doT l s).2 w2 ∧ Below p w w2) := Lib.hid ⟨hx2, ((HBA.out.mono (by omega)).trans (hbd.mono (by have := HBA.out.size; omega))).trans hb2⟩
  clear hx2
  go_wp2
  go_ret
  exact ⟨rfl, HPP.out⟩
set_option maxRecDepth 100000 in
set_option maxHeartbeats 4000000 in
theorem mstep_high (s : Stp) (hs : s.Fine) (K : Option Addr) (q9 : Nat) (p : Nat) (ty : TypeId) (B : Nat) (l : List Tr) (w : World) (hR : RwX p ty B l w) (hkv : RdK w (.slice K s.keys.length q9) s.keys) (hlo : ¬ s.sort < 5) (hn : l.length ≤ 65536) :
    Calls Try.prog 25 #[.pointer (some ⟨p, 0, none⟩), .agg #[.int .i64 s.sort, .bool s.flag, .int .u64 (s.bits : Int), .string ⟨s.text.toArray⟩, .int .i64 s.count, .slice K s.keys.length q9]] w fun e w' => e = .returned (errV (doT l s).1) ∧ RwX p ty B (doT l s).2 w' ∧ Below p w w' := by
  have d2 : decide (s.sort < 5) = false := decide_eq_false hlo
  obtain ⟨A, q, hB⟩ := hR.slice
  have hpl := hR.plt
  have hba : Below w.heap.size w (w.alloc (.cells #[.int .i64 s.sort, .bool s.flag, .int .u64 (s.bits : Int), .string ⟨s.text.toArray⟩, .int .i64 s.count, .slice K s.keys.length q9] 42)) := (Below.refl _ _).alloc (Nat.le_refl _) _
  have hS1 := Blk.new w 42 #[.int .i64 s.sort, .bool s.flag, .int .u64 (s.bits : Int), .string ⟨s.text.toArray⟩, .int .i64 s.count, .slice K s.keys.length q9]
  have hB1 := hB.alloc (.cells #[.int .i64 s.sort, .bool s.flag, .int .u64 (s.bits : Int), .string ⟨s.text.toArray⟩, .int .i64 s.count, .slice K s.keys.length q9] 42)
  have HX := Lib.hid (hR.below hba)
  have HK := Lib.hid (hkv.below hba)
  have HF := Lib.hid hs
  clear hR hkv hs hB hlo
  go_enter Try.func25, Try.ntmps25
  go_upto_region 1 with fail
  generalize w.alloc (.cells #[.int .i64 s.sort, .bool s.flag, .int .u64 (s.bits : Int), .string ⟨s.text.toArray⟩, .int .i64 s.count, .slice K s.keys.length q9] 42) = w1 at *
  have HBA := Lib.hid hba
  clear hba
  have a0 : w1.cell? ⟨p, 0, none⟩ = some (.slice A l.length q) := hB1.cell 0
  have c0 : w1.cell? ⟨w.heap.size, 0, none⟩ = some (.int .i64 s.sort) := hS1.cell 0
  have c1 : w1.cell? ⟨w.heap.size, 1, none⟩ = some (.bool s.flag) := hS1.cell 1
  have c2 : w1.cell? ⟨w.heap.size, 2, none⟩ = some (.int .u64 (s.bits : Int)) := hS1.cell 2
  have c3 : w1.cell? ⟨w.heap.size, 3, none⟩ = some (.string ⟨s.text.toArray⟩) := hS1.cell 3
  have c4 : w1.cell? ⟨w.heap.size, 4, none⟩ = some (.int .i64 s.count) := hS1.cell 4
  have c5 : w1.cell? ⟨w.heap.size, 5, none⟩ = some (.slice K s.keys.length q9) := hS1.cell 5
  go_upto_region 5 with fail
  go_still_tail 4, (by kernel_rfl)
  go_wp2_with fail
  have hbd : Below w1.heap.size w1 w1.drew := drewN_below w1 1
  ((with_reducible refine (do_any s HF.out K q9 p ty B l _ (HX.out.below hbd) (HK.out.below hbd) (by omega)).mono ?_); rintro e w2 ⟨rfl, hx2, hb2⟩)
  have HPP : Hid (RwX p ty B (doT l s).2 w2 ∧ Below p w w2) := Lib.hid ⟨hx2, ((HBA.out.mono (by omega)).trans (hbd.mono (by have := HBA.out.size; omega))).trans hb2⟩
  clear hx2
  go_wp2
  go_ret
  exact ⟨rfl, HPP.out⟩
theorem mstep_any (s : Stp) (hs : s.Fine) (K : Option Addr) (q9 : Nat) (p : Nat) (ty : TypeId) (B : Nat) (l : List Tr) (w : World) (hR : RwX p ty B l w) (hkv : RdK w (.slice K s.keys.length q9) s.keys) (hn : l.length ≤ 65536) :
    Calls Try.prog 25 #[.pointer (some ⟨p, 0, none⟩), .agg #[.int .i64 s.sort, .bool s.flag, .int .u64 (s.bits : Int), .string ⟨s.text.toArray⟩, .int .i64 s.count, .slice K s.keys.length q9]] w fun e w' => e = .returned (errV (stepT l s).1) ∧ RwX p ty B (stepT l s).2 w' ∧ Below p w w' := by
  unfold stepT
  by_cases hlo : s.sort < 5
  · by_cases hf : 65536 ≤ l.length
    · rw [if_pos ⟨hlo, hf⟩]
      obtain ⟨A, q, hB⟩ := hR.slice
      refine (step_full s.sort s.flag (s.bits : Int) s.text s.count K s.keys.length q9 p ty A l.length q w hB hlo hf).mono ?_
      rintro e w' ⟨rfl, hb⟩
      exact ⟨rfl, hR.below hb, hb.mono (by have := hR.plt; omega)⟩
    · rw [if_neg (by omega)]
      exact mstep_low s hs K q9 p ty B l w hR hkv hlo (by omega)
  · rw [if_neg (by omega)]
    exact mstep_high s hs K q9 p ty B l w hR hkv hlo hn
end Nd
end Go.Proofs.Ytfhfkggkbeahbaa
