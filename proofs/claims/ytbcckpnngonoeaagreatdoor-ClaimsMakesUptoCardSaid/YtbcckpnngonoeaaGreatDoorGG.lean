/-
  Walks of package node: a maker's steps.
  Walks of package node: a maker's Null, List, Top.
  Walks of package node: a maker's Flag, Number, Text, Object, Tree.
-/
import Derived.Test.YtbcckpnngonoeaaGreatDoorGF
import Derived.Test.YtbcckpnngonoeaaGreatDoorGA
namespace Go.Proofs.YtbcckpnngonoeaaGreatDoor
open Go.RowKit Mem
set_option linter.unusedVariables false
namespace Nd

/-- what a maker's step does to its row -/
def stepT (l : List Tr) (s : Stp) : Int × List Tr := if s.sort < 5 ∧ 65536 ≤ l.length then (3, l) else doT l s
theorem RwX.slice {p : Nat} {ty : TypeId} {B : Nat} {l : List Tr} {w : World} (h : RwX p ty B l w) : ∃ A q, Blk w p ty #[.slice A l.length q] := by
  obtain ⟨v, xs, h⟩ := h
  obtain ⟨A, q, rfl⟩ := own_slice h.own
  exact ⟨A, q, h.bl⟩
theorem RwX.plt {p : Nat} {ty : TypeId} {B : Nat} {l : List Tr} {w : World} (h : RwX p ty B l w) : p < B ∧ B ≤ w.heap.size := by
  obtain ⟨v, xs, h⟩ := h
  exact ⟨h.lt, h.le⟩
set_option maxRecDepth 100000 in
set_option maxHeartbeats 4000000 in
theorem mstep_low (s : Stp) (hs : s.Fine) (K : Option Addr) (q9 : Nat) (p : Nat) (ty : TypeId) (B : Nat) (l : List Tr) (w : World) (hR : RwX p ty B l w) (hkv : RdK w (.slice K s.keys.length q9) s.keys) (hlo : s.sort < 5) (hn : l.length < 65536) :
    Calls Tryz.prog 110 #[.pointer (some ⟨p, 0, none⟩), .agg #[.int .i64 s.sort, .bool s.flag, .int .u64 (s.bits : Int), .string ⟨s.text.toArray⟩, .int .i64 s.count, .slice K s.keys.length q9]] w fun e w' => e = .returned (errV (doT l s).1) ∧ RwX p ty B (doT l s).2 w' ∧ Apart p B w w' := by
  have d1 : decide (65536 ≤ (l.length : Int)) = false := decide_eq_false (by omega)
  have d2 : decide (s.sort < 5) = true := decide_eq_true hlo
  obtain ⟨A, q, hB⟩ := hR.slice
  have hpl := hR.plt
  have hba : Below w.heap.size w (w.alloc (.cells #[.int .i64 s.sort, .bool s.flag, .int .u64 (s.bits : Int), .string ⟨s.text.toArray⟩, .int .i64 s.count, .slice K s.keys.length q9] 101)) := (Below.refl _ _).alloc (Nat.le_refl _) _
  have hS1 := Blk.new w 101 #[.int .i64 s.sort, .bool s.flag, .int .u64 (s.bits : Int), .string ⟨s.text.toArray⟩, .int .i64 s.count, .slice K s.keys.length q9]
  have hB1 := hB.alloc (.cells #[.int .i64 s.sort, .bool s.flag, .int .u64 (s.bits : Int), .string ⟨s.text.toArray⟩, .int .i64 s.count, .slice K s.keys.length q9] 101)
  have HX := Lib.hid (hR.below hba)
  have HK := Lib.hid (hkv.below hba)
  have HF := Lib.hid hs
  clear hR hkv hs hB hlo
  go_enter Tryz.func110, Tryz.ntmps110
  go_upto_region 1 with fail
  generalize w.alloc (.cells #[.int .i64 s.sort, .bool s.flag, .int .u64 (s.bits : Int), .string ⟨s.text.toArray⟩, .int .i64 s.count, .slice K s.keys.length q9] 101) = w1 at *
  have HBA := Lib.hid hba
  clear hba
  have a0 : w1.cell? ⟨p, 0, none⟩ = some (.slice A l.length q) := hB1.cell 0
  have c0 : w1.cell? ⟨w.heap.size, 0, none⟩ = some (.int .i64 s.sort) := hS1.cell 0
  have c1 : w1.cell? ⟨w.heap.size, 1, none⟩ = some (.bool s.flag) := hS1.cell 1
  have c2 : w1.cell? ⟨w.heap.size, 2, none⟩ = some (.int .u64 (s.bits : Int)) := hS1.cell 2
  have c3 : w1.cell? ⟨w.heap.size, 3, none⟩ = some (.string ⟨s.text.toArray⟩) := hS1.cell 3
  have c4 : w1.cell? ⟨w.heap.size, 4, none⟩ = some (.int .i64 s.count) := hS1.cell 4
  have c5 : w1.cell? ⟨w.heap.size, 5, none⟩ = some (.slice K s.keys.length q9) := hS1.cell 5
  go_upto_region 5 with fail
  go_still_tail 4, (by kernel_rfl)
  go_wp2_with fail
  have hbd : Below w1.heap.size w1 w1.drew := drewN_below w1 1
  ((with_reducible refine (do_any s HF.out K q9 p ty B l _ (HX.out.below hbd) (HK.out.below hbd) (by omega)).mono ?_); rintro e w2 ⟨rfl, hx2, hb2⟩)
  have HPP : Hid (RwX p ty B (doT l s).2 w2 ∧ Apart p B w w2) := Lib.hid ⟨hx2, Apart.from_ (HBA.out.trans (hbd.mono HBA.out.size)) (by omega) hb2⟩
  clear hx2
  go_wp2
  go_ret
  exact ⟨rfl, HPP.out⟩
set_option maxRecDepth 100000 in
set_option maxHeartbeats 4000000 in
theorem mstep_high (s : Stp) (hs : s.Fine) (K : Option Addr) (q9 : Nat) (p : Nat) (ty : TypeId) (B : Nat) (l : List Tr) (w : World) (hR : RwX p ty B l w) (hkv : RdK w (.slice K s.keys.length q9) s.keys) (hlo : ¬ s.sort < 5) (hn : l.length ≤ 65536) :
    Calls Tryz.prog 110 #[.pointer (some ⟨p, 0, none⟩), .agg #[.int .i64 s.sort, .bool s.flag, .int .u64 (s.bits : Int), .string ⟨s.text.toArray⟩, .int .i64 s.count, .slice K s.keys.length q9]] w fun e w' => e = .returned (errV (doT l s).1) ∧ RwX p ty B (doT l s).2 w' ∧ Apart p B w w' := by
  have d2 : decide (s.sort < 5) = false := decide_eq_false hlo
  obtain ⟨A, q, hB⟩ := hR.slice
  have hpl := hR.plt
  have hba : Below w.heap.size w (w.alloc (.cells #[.int .i64 s.sort, .bool s.flag, .int .u64 (s.bits : Int), .string ⟨s.text.toArray⟩, .int .i64 s.count, .slice K s.keys.length q9] 101)) := (Below.refl _ _).alloc (Nat.le_refl _) _
  have hS1 := Blk.new w 101 #[.int .i64 s.sort, .bool s.flag, .int .u64 (s.bits : Int), .string ⟨s.text.toArray⟩, .int .i64 s.count, .slice K s.keys.length q9]
  have hB1 := hB.alloc (.cells #[.int .i64 s.sort, .bool s.flag, .int .u64 (s.bits : Int), .string ⟨s.text.toArray⟩, .int .i64 s.count, .slice K s.keys.length q9] 101)
  have HX := Lib.hid (hR.below hba)
  have HK := Lib.hid (hkv.below hba)
  have HF := Lib.hid hs
  clear hR hkv hs hB hlo
  go_enter Tryz.func110, Tryz.ntmps110
  go_upto_region 1 with fail
  generalize w.alloc (.cells #[.int .i64 s.sort, .bool s.flag, .int .u64 (s.bits : Int), .string ⟨s.text.toArray⟩, .int .i64 s.count, .slice K s.keys.length q9] 101) = w1 at *
  have HBA := Lib.hid hba
  clear hba
  have a0 : w1.cell? ⟨p, 0, none⟩ = some (.slice A l.length q) := hB1.cell 0
  have c0 : w1.cell? ⟨w.heap.size, 0, none⟩ = some (.int .i64 s.sort) := hS1.cell 0
  have c1 : w1.cell? ⟨w.heap.size, 1, none⟩ = some (.bool s.flag) := hS1.cell 1
  have c2 : w1.cell? ⟨w.heap.size, 2, none⟩ = some (.int .u64 (s.bits : Int)) := hS1.cell 2
  have c3 : w1.cell? ⟨w.heap.size, 3, none⟩ = some (.string ⟨s.text.toArray⟩) := hS1.cell 3
  have c4 : w1.cell? ⟨w.heap.size, 4, none⟩ = some (.int .i64 s.count) := hS1.cell 4
  have c5 : w1.cell? ⟨w.heap.size, 5, none⟩ = some (.slice K s.keys.length q9) := hS1.cell 5
  go_upto_region 5 with fail
  go_still_tail 4, (by kernel_rfl)
  go_wp2_with fail
  have hbd : Below w1.heap.size w1 w1.drew := drewN_below w1 1
  ((with_reducible refine (do_any s HF.out K q9 p ty B l _ (HX.out.below hbd) (HK.out.below hbd) (by omega)).mono ?_); rintro e w2 ⟨rfl, hx2, hb2⟩)
  have HPP : Hid (RwX p ty B (doT l s).2 w2 ∧ Apart p B w w2) := Lib.hid ⟨hx2, Apart.from_ (HBA.out.trans (hbd.mono HBA.out.size)) (by omega) hb2⟩
  clear hx2
  go_wp2
  go_ret
  exact ⟨rfl, HPP.out⟩
theorem mstep_any (s : Stp) (hs : s.Fine) (K : Option Addr) (q9 : Nat) (p : Nat) (ty : TypeId) (B : Nat) (l : List Tr) (w : World) (hR : RwX p ty B l w) (hkv : RdK w (.slice K s.keys.length q9) s.keys) (hn : l.length ≤ 65536) :
    Calls Tryz.prog 110 #[.pointer (some ⟨p, 0, none⟩), .agg #[.int .i64 s.sort, .bool s.flag, .int .u64 (s.bits : Int), .string ⟨s.text.toArray⟩, .int .i64 s.count, .slice K s.keys.length q9]] w fun e w' => e = .returned (errV (stepT l s).1) ∧ RwX p ty B (stepT l s).2 w' ∧ Apart p B w w' := by
  unfold stepT
  by_cases hlo : s.sort < 5
  · by_cases hf : 65536 ≤ l.length
    · rw [if_pos ⟨hlo, hf⟩]
      obtain ⟨A, q, hB⟩ := hR.slice
      refine (step_full s.sort s.flag (s.bits : Int) s.text s.count K s.keys.length q9 p ty A l.length q w hB hlo hf).mono ?_
      rintro e w' ⟨rfl, hb⟩
      exact ⟨rfl, hR.below hb, Apart.of hb (by have := hR.plt; omega)⟩
    · rw [if_neg (by omega)]
      exact mstep_low s hs K q9 p ty B l w hR hkv hlo (by omega)
  · rw [if_neg (by omega)]
    exact mstep_high s hs K q9 p ty B l w hR hkv hlo hn
end Nd
end Go.Proofs.YtbcckpnngonoeaaGreatDoor
namespace Go.Proofs.YtbcckpnngonoeaaGreatDoor
open Go.RowKit Mem
set_option linter.unusedVariables false
namespace Nd

theorem rdk_nil (w : World) : RdK w (.slice none 0 0) [] := ⟨none, 0, rfl, .inl rfl⟩
def nullS : Stp := ⟨1, false, 0, [], 0, []⟩
def listS (n : Int) : Stp := ⟨5, false, 0, [], n, []⟩
theorem null_fine : nullS.Fine := ⟨by decide, by decide, by simp [nullS], by decide, by decide⟩
theorem list_fine (n : Int) : (listS n).Fine := ⟨by simp [listS], by simp [listS], by simp [listS], by simp [listS, lens], by simp [listS]⟩
theorem mk_list (n : Int) (p : Nat) (ty : TypeId) (B : Nat) (l : List Tr) (w : World) (hR : RwX p ty B l w) (hn : l.length ≤ 65536) :
    Calls Tryz.prog 109 #[.pointer (some ⟨p, 0, none⟩), .int .i64 n] w fun e w' => e = .returned (errV (stepT l (listS n)).1) ∧ RwX p ty B (stepT l (listS n)).2 w' ∧ Apart p B w w' := by
  have H := Lib.hid (mstep_any (listS n) (list_fine n) none 0 p ty B l w hR (rdk_nil w) hn)
  go_enter Tryz.func109, Tryz.ntmps109
  go_wp2_with fail
  refine H.out.mono ?_
  rintro e w2 ⟨rfl, h⟩
  have HH := Lib.hid h
  clear h
  go_wp2
  go_ret
  exact ⟨rfl, HH.out⟩
end Nd
end Go.Proofs.YtbcckpnngonoeaaGreatDoor
namespace Go.Proofs.YtbcckpnngonoeaaGreatDoor
open Go.RowKit Mem
set_option linter.unusedVariables false
namespace Nd

def flagS (b : Bool) : Stp := ⟨2, b, 0, [], 0, []⟩
def numS (x : Nat) : Stp := ⟨3, false, x, [], 0, []⟩
def textS (s : Tx) : Stp := ⟨4, false, 0, s, 0, []⟩
def objS (ks : List Tx) : Stp := ⟨6, false, 0, [], 0, ks⟩
theorem flag_fine (b : Bool) : (flagS b).Fine := ⟨by simp [flagS], by simp [flagS], by simp [flagS], by simp [flagS, lens], by simp [flagS]⟩
theorem num_fine {x : Nat} (h : x < 18446744073709551616) : (numS x).Fine := ⟨h, by simp [numS], by simp [numS], by simp [numS, lens], by simp [numS]⟩
theorem text_fine {s : Tx} (h : s.length ≤ 1099511627776) : (textS s).Fine := ⟨by simp [textS], h, by simp [textS], by simp [textS, lens], by simp [textS]⟩
theorem obj_fine {ks : List Tx} (h1 : ∀ k ∈ ks, k.length ≤ 1099511627776) (h2 : lens ks ≤ 1099511627776) (h3 : ks.length ≤ 1099511627776) : (objS ks).Fine := ⟨by simp [objS], by simp [objS], h1, h2, h3⟩
theorem mk_num (x : Nat) (hx : x < 18446744073709551616) (p : Nat) (ty : TypeId) (B : Nat) (l : List Tr) (w : World) (hR : RwX p ty B l w) (hn : l.length ≤ 65536) :
    Calls Tryz.prog 108 #[.pointer (some ⟨p, 0, none⟩), .float .f64 x] w fun e w' => e = .returned (errV (stepT l (numS x)).1) ∧ RwX p ty B (stepT l (numS x)).2 w' ∧ Apart p B w w' := by
  have H := Lib.hid (mstep_any (numS x) (num_fine hx) none 0 p ty B l w hR (rdk_nil w) hn)
  have hfb := f64bits x
  clear hx
  go_enter Tryz.func108, Tryz.ntmps108
  go_wp2_with fail
  refine H.out.mono ?_
  rintro e w2 ⟨rfl, h⟩
  have HH := Lib.hid h
  clear h
  go_wp2
  go_ret
  exact ⟨rfl, HH.out⟩
theorem mk_text (s : Tx) (hs : s.length ≤ 1099511627776) (p : Nat) (ty : TypeId) (B : Nat) (l : List Tr) (w : World) (hR : RwX p ty B l w) (hn : l.length ≤ 65536) :
    Calls Tryz.prog 107 #[.pointer (some ⟨p, 0, none⟩), .string ⟨s.toArray⟩] w fun e w' => e = .returned (errV (stepT l (textS s)).1) ∧ RwX p ty B (stepT l (textS s)).2 w' ∧ Apart p B w w' := by
  have H := Lib.hid (mstep_any (textS s) (text_fine hs) none 0 p ty B l w hR (rdk_nil w) hn)
  clear hs
  go_enter Tryz.func107, Tryz.ntmps107
  go_wp2_with fail
  refine H.out.mono ?_
  rintro e w2 ⟨rfl, h⟩
  have HH := Lib.hid h
  clear h
  go_wp2
  go_ret
  exact ⟨rfl, HH.out⟩
theorem mk_obj (ks : List Tx) (A : Option Addr) (q : Nat) (hf : (objS ks).Fine) (p : Nat) (ty : TypeId) (B : Nat) (l : List Tr) (w : World) (hR : RwX p ty B l w) (hk : RdK w (.slice A ks.length q) ks) (hn : l.length ≤ 65536) :
    Calls Tryz.prog 53 #[.pointer (some ⟨p, 0, none⟩), .slice A ks.length q] w fun e w' => e = .returned (errV (stepT l (objS ks)).1) ∧ RwX p ty B (stepT l (objS ks)).2 w' ∧ Apart p B w w' := by
  have H := Lib.hid (mstep_any (objS ks) hf A q p ty B l w hR hk hn)
  clear hf hk
  go_enter Tryz.func53, Tryz.ntmps53
  go_wp2_with fail
  refine H.out.mono ?_
  rintro e w2 ⟨rfl, h⟩
  have HH := Lib.hid h
  clear h
  go_wp2
  go_ret
  exact ⟨rfl, HH.out⟩
set_option maxRecDepth 100000 in
set_option maxHeartbeats 4000000 in
theorem mk_tree (p : Nat) (ty : TypeId) (B : Nat) (t : Tr) (w : World) (hR : RwX p ty B [t] w) :
    Calls Tryz.prog 54 #[.pointer (some ⟨p, 0, none⟩)] w fun e w' => (∃ g, e = .returned (.tuple #[.pointer (some ⟨g, 0, none⟩), .nilIface]) ∧ TreeAt B w' g t) ∧ Below w.heap.size w w' := by
  obtain ⟨v, xs, hR⟩ := hR
  obtain ⟨A, q, rfl⟩ := own_slice hR.own
  have hB := hR.bl
  have hle := hR.le
  have hfit := hR.fit t (by simp)
  have hcell : ∃ g tx ux, A = some ⟨g, 0, none⟩ ∧ w.cell? ⟨g, 0, none⟩ = some (.iface tx ux) ∧ RdT (fun k => B ≤ k) w t (.iface tx ux) := by
    have hl := hR.rd.len
    obtain ⟨x, rfl⟩ : ∃ x, xs = [x] := by
      match xs, hl with
      | [x], _ => exact ⟨x, rfl⟩
    have hx := hR.rd.at (j := 0) rfl rfl
    obtain ⟨tx, ux, rfl⟩ := hx.iface
    rcases hR.own.2 with ⟨_, h⟩ | ⟨g, cap, cur, h, _, hg, _, _, hs, ht⟩
    · cases h
    · injection h with h1 _ _
      refine ⟨g, tx, ux, h1, ?_, RdT.move (fun j hj hs => ⟨hs.1, rfl⟩) _ _ hx⟩
      rw [cell_of_row w g 0 cur _ _ hg]
      have h2 : (cur.toList.take ([t].length * 1))[0]? = some (.iface tx ux) := by rw [ht]; rfl
      rw [List.getElem?_take] at h2
      simpa using h2
  obtain ⟨g, tx, ux, rfl, hc, hrd⟩ := hcell
  simp only [List.length_cons, List.length_nil, Nat.zero_add] at hB
  have a0 : w.cell? ⟨p, 0, none⟩ = some (.slice (some ⟨g, 0, none⟩) 1 q) := hB.cell 0
  have HP : Hid (TreeAt B (w.alloc (.cells #[.iface tx ux] 108)) w.heap.size t) := Lib.hid ⟨hle, hfit, _, Blk.new _ _ _, RdT.move (fun j hj hs => ⟨hs, Below.heap_alloc w _ j hj⟩) _ _ hrd⟩
  clear hR hB hrd hfit
  go_enter Tryz.func54, Tryz.ntmps54
  go_wp2
  go_ret2
  exact ⟨⟨_, rfl, HP.out⟩, (Below.refl _ _).alloc (Nat.le_refl _) _⟩
end Nd
end Go.Proofs.YtbcckpnngonoeaaGreatDoor

