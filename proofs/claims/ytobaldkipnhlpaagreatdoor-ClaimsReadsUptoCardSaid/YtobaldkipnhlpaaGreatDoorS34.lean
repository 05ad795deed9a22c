/-
  Walk of the statements' own function twin of layer 25 (printed by wip/gen_clo.py).
  Walks of the reference of layer 25: Start, Judge (printed by wip/gen_clr.py).
  Judge of the reference of layer 25: how memory stands, and the function's text from each test on (printed by wip/gen_cls.py).
  Judge of the reference of layer 25: what is barred; what holds (printed by wip/gen_cls.py).
-/
import Derived.Test.YtobaldkipnhlpaaGreatDoorS24
import Derived.Test.YtobaldkipnhlpaaGreatDoorS27
import Derived.Test.YtobaldkipnhlpaaGreatDoorS14
import Derived.Deep.RegionHeld3
import Derived.Deep.CutBlock
import Derived.Deep.DeepCutAuto
set_option linter.unusedVariables false
set_option linter.unusedSimpArgs false
set_option maxRecDepth 100000
set_option maxHeartbeats 16000000
namespace Go.Proofs.YtobaldkipnhlpaaGreatDoor
open Go.RowKit Mem Utf Ref3 Tok Cl

theorem C32 {w : World} {b : Nat} {t : TypeId} {f : Nat → Bool} {c : C} {v2 v3 : Value} (h : Blk w b t (dCells f c v2 v3)) :
  w.cell? ⟨b, 0, none⟩ = some (.bool (f 0)) ∧ w.cell? ⟨b, 1, none⟩ = some (.bool (f 1)) ∧ w.cell? ⟨b, 2, none⟩ = some (.bool (f 2)) ∧ w.cell? ⟨b, 3, none⟩ = some (.bool (f 3)) ∧ w.cell? ⟨b, 4, none⟩ = some (.bool (f 4)) ∧ w.cell? ⟨b, 5, none⟩ = some (.bool (f 5)) ∧ w.cell? ⟨b, 6, none⟩ = some (.bool (f 6)) ∧ w.cell? ⟨b, 7, none⟩ = some (.bool (f 7)) ∧ w.cell? ⟨b, 8, none⟩ = some (.string ⟨c.about.toArray⟩) ∧ w.cell? ⟨b, 9, none⟩ = some (.string ⟨#[]⟩) ∧ w.cell? ⟨b, 10, none⟩ = some (.string ⟨c.by_.toArray⟩) ∧ w.cell? ⟨b, 11, none⟩ = some (.string ⟨#[]⟩) ∧ w.cell? ⟨b, 12, none⟩ = some (.string ⟨#[]⟩) ∧ w.cell? ⟨b, 13, none⟩ = some (.string ⟨c.id_.toArray⟩) ∧ w.cell? ⟨b, 14, none⟩ = some (.string ⟨#[]⟩) ∧ w.cell? ⟨b, 15, none⟩ = some (.string ⟨#[]⟩) ∧ w.cell? ⟨b, 16, none⟩ = some (.int .i64 0) ∧ w.cell? ⟨b, 17, none⟩ = some (.int .i64 c.at_) ∧ w.cell? ⟨b, 18, none⟩ = some (.int .i64 0) ∧ w.cell? ⟨b, 19, none⟩ = some (.int .i64 0) ∧ w.cell? ⟨b, 20, none⟩ = some (.int .i64 c.from_) ∧ w.cell? ⟨b, 21, none⟩ = some (.int .i64 0) ∧ w.cell? ⟨b, 22, none⟩ = some (.int .i64 0) ∧ w.cell? ⟨b, 23, none⟩ = some (.int .i64 c.until_) ∧ w.cell? ⟨b, 24, none⟩ = some (.slice none 0 0) ∧ w.cell? ⟨b, 25, none⟩ = some (.slice none 0 0) ∧ w.cell? ⟨b, 26, none⟩ = some (.slice none 0 0) ∧ w.cell? ⟨b, 27, none⟩ = some (v2) ∧ w.cell? ⟨b, 28, none⟩ = some (.slice none 0 0) ∧ w.cell? ⟨b, 29, none⟩ = some (.slice none 0 0) ∧ w.cell? ⟨b, 30, none⟩ = some (v3) ∧ w.cell? ⟨b, 31, none⟩ = some (.slice none 0 0) :=
 ⟨h.cell 0, h.cell 1, h.cell 2, h.cell 3, h.cell 4, h.cell 5, h.cell 6, h.cell 7, h.cell 8, h.cell 9, h.cell 10, h.cell 11, h.cell 12, h.cell 13, h.cell 14, h.cell 15, h.cell 16, h.cell 17, h.cell 18, h.cell 19, h.cell 20, h.cell 21, h.cell 22, h.cell 23, h.cell 24, h.cell 25, h.cell 26, h.cell 27, h.cell 28, h.cell 29, h.cell 30, h.cell 31⟩
theorem idx_keys {k : Nat} (hk : k < 8) (w : World) : (Instr.index 54 (.agg keyCells) (.int .i64 (k : Int))).run Tryz.prog w = .ok (.string ⟨(key k).toArray⟩) w := by
 rcases below8 hk with rfl | rfl | rfl | rfl | rfl | rfl | rfl | rfl <;> kernel_rfl
theorem inB_take {l : List Txt} {t : Txt} {j : Nat} (hj : j < l.length) : inB (l.take (j + 1)) t = (inB (l.take j) t || l[j] == t) := by
 unfold inB
 rw [List.take_succ_eq_append_getElem hj, Bool.eq_iff_iff, Bool.or_eq_true, List.contains_iff_mem, List.contains_iff_mem, List.mem_append, List.mem_singleton, beq_iff_eq]
 exact ⟨fun h => h.imp id Eq.symm, fun h => h.imp id Eq.symm⟩
def tw (c : C) (k j i : Nat) : Bool := if i < k then is c i else if i = k then inB (c.has.take j) (key k) else false
theorem tw_start {c : C} {i : Nat} : tw c 0 0 i = false := by
 unfold tw
 rw [if_neg (Nat.not_lt_zero _)]
 by_cases h : i = 0
 ·rw [if_pos h]; rfl
 ·rw [if_neg h]
theorem tw_next {c : C} {k i : Nat} : tw c k c.has.length i = tw c (k + 1) 0 i := by
 unfold tw
 by_cases h1 : i < k
 ·rw [if_pos h1, if_pos (by omega)]
 ·rw [if_neg h1]
  by_cases h2 : i = k
  ·rw [if_pos h2, if_pos (by omega), List.take_length, h2]
   rfl
  ·rw [if_neg h2, if_neg (by omega)]
   by_cases h3 : i = k + 1
   ·rw [if_pos h3]; rfl
   ·rw [if_neg h3]
theorem tw_put {c : C} {k j i : Nat} {b : Bool} (hb : b = inB (c.has.take (j + 1)) (key k)) : (if i = k then b else tw c k j i) = tw c k (j + 1) i := by
 unfold tw
 by_cases h : i = k
 ·rw [if_pos h, if_neg (by omega), if_pos h, hb]
 ·rw [if_neg h, if_neg h, if_neg h]
theorem tw_at {c : C} {k j : Nat} : tw c k j k = inB (c.has.take j) (key k) := by
 unfold tw
 rw [if_neg (by omega), if_pos rfl]
theorem tw_end {c : C} {i : Nat} (h : i < 8) : tw c 8 0 i = is c i := by
 unfold tw
 rw [if_pos h]
def zCells : Array Value := #[.bool false, .bool false, .bool false, .bool false, .bool false, .bool false, .bool false, .bool false, .string ⟨#[]⟩, .string ⟨#[]⟩, .string ⟨#[]⟩, .string ⟨#[]⟩, .string ⟨#[]⟩, .string ⟨#[]⟩, .string ⟨#[]⟩, .string ⟨#[]⟩, .int .i64 0, .int .i64 0, .int .i64 0, .int .i64 0, .int .i64 0, .int .i64 0, .int .i64 0, .int .i64 0, .slice none 0 0, .slice none 0 0, .slice none 0 0, .slice none 0 0, .slice none 0 0, .slice none 0 0, .slice none 0 0, .slice none 0 0]

theorem twin_any (c : C) (v1 v2 v3 : Value) (w : World) (h : ClAt w c v1 v2 v3) :
  Calls Tryz.prog 31 #[.agg #[v1, .string ⟨c.about.toArray⟩, .int .i64 c.at_, .string ⟨c.by_.toArray⟩, v2, .int .i64 c.from_, .string ⟨c.id_.toArray⟩, v3, .int .i64 c.until_]] w
   fun e w' => e = .returned (.tuple #[.agg (dCells (is c) c v2 v3), .bool (mayB c)]) ∧ Below w.heap.size w w' := by
 have hnh := h.nhas
 obtain ⟨A1, k1, e1, hA1⟩ := h.has
 subst e1
 obtain ⟨A2, k2, e2, hA2⟩ := h.for_
 subst e2
 obtain ⟨A3, k3, e3, hA3⟩ := h.may
 subst e3
 clear hA1 hA2 hA3
 have hq : ∀ (w : World) o, (w.alloc o).heap.size = w.heap.size + 1 := fun w o => by simp
 go_enter Tryz.func31, Tryz.ntmps31
 go_wp2_with fail
 go_region
 go_wp2_with fail
 go_region
 go_wp2_with fail
 go_region
 go_wp2_with fail
 refine (refKeys_any _).mono ?_
 rintro e w1 ⟨rfl, hb1⟩
 have hC0 : Blk w1 w.heap.size 38 (clCells c (.slice A1 c.has.length k1) (.slice A2 c.for_.length k2) (.slice A3 c.may_.length k3)) :=
  (((((Blk.new w _ _).alloc _).alloc _).drew.drew.drew)).below hb1 (by show w.heap.size < ((((w.alloc _).alloc _).alloc _)).heap.size; rw [hq, hq, hq]; omega)
 have hZ0 : Blk w1 (w.heap.size + 1) 58 zCells := by
  have := Blk.new (w.alloc (.cells (clCells c (.slice A1 c.has.length k1) (.slice A2 c.for_.length k2) (.slice A3 c.may_.length k3)) 38)) 58 zCells
  rw [hq] at this
  exact ((this.alloc _).drew.drew.drew).below hb1 (by show w.heap.size + 1 < ((((w.alloc _).alloc _).alloc _)).heap.size; rw [hq, hq, hq]; omega)
 have hD0 : Blk w1 (w.heap.size + 2) 58 (dCells (fun _ => false) c (.slice A2 c.for_.length k2) (.slice A3 c.may_.length k3)) := by
  have := Blk.new ((w.alloc (.cells (clCells c (.slice A1 c.has.length k1) (.slice A2 c.for_.length k2) (.slice A3 c.may_.length k3)) 38)).alloc (.cells zCells 58)) 58 (dCells (fun _ => false) c (.slice A2 c.for_.length k2) (.slice A3 c.may_.length k3))
  rw [hq, hq] at this
  exact (this.drew.drew.drew).below hb1 (by show w.heap.size + 2 < ((((w.alloc _).alloc _).alloc _)).heap.size; rw [hq, hq, hq]; omega)
 have hbw1 : Below w.heap.size w w1 := by
  refine below_chain ((((((Below.refl _ _).alloc (Nat.le_refl _) _).alloc (by rw [hq]; omega) _).alloc (by rw [hq, hq]; omega) _)).drew.drew.drew) ?_ hb1
  show w.heap.size ≤ ((((w.alloc _).alloc _).alloc _)).heap.size
  rw [hq, hq, hq]
  omega
 clear hb1
 have hs1 := hbw1.size
 have hC := hC0.alloc (.cells keyCells 54)
 have hZ := hZ0.alloc (.cells keyCells 54)
 have hD := hD0.alloc (.cells keyCells 54)
 have hbw := hbw1.alloc hs1 (.cells keyCells 54)
 clear hC0 hZ0 hD0 hbw1 hq
 unfold keyCells at *
 go_wp2_with fail
 go_loopw [44] (fun c44 wr => ∃ k : Nat, k ≤ 8 ∧ c44 = .int .i64 k ∧ Blk wr w.heap.size 38 (clCells c (.slice A1 c.has.length k1) (.slice A2 c.for_.length k2) (.slice A3 c.may_.length k3)) ∧ Blk wr (w.heap.size + 1) 58 zCells ∧ Blk wr (w.heap.size + 2) 58 (dCells (tw c k 0) c (.slice A2 c.for_.length k2) (.slice A3 c.may_.length k3)) ∧ Below w.heap.size w wr) (fun c44 _ => 8 - (intOf c44).toNat)
 case atStart => exact ⟨0, by omega, rfl, hC, hZ, by rw [dCells_ext (g := fun _ => false) (fun i _ => tw_start)]; exact hD, hbw⟩
 case round =>
  obtain ⟨k, hk, rfl, hC, hZ, hD, hbw⟩ := hrel
  have hCl := hC.lt
  have hZl := hZ.lt
  have hDl := hD.lt
  by_cases hlt : k < 8
  ·have hlt' : (k : Int) < 8 := by omega
   have hix := fun W => idx_keys hlt W
   unfold keyCells at hix
   obtain ⟨e0, e1, e2, e3, e4, e5, e6, e7, e8⟩ := C9 hC
   obtain ⟨wo, rfl⟩ : ∃ wo : World, wo = wr := ⟨_, rfl⟩
   go_wp2_with fail
   clear hix e0 e1 e2 e3 e4 e5 e6 e7 e8
   go_loopw [51] (fun c51 wr => ∃ j : Nat, j ≤ c.has.length ∧ c51 = .int .i64 j ∧ Blk wr w.heap.size 38 (clCells c (.slice A1 c.has.length k1) (.slice A2 c.for_.length k2) (.slice A3 c.may_.length k3)) ∧ Blk wr (w.heap.size + 1) 58 zCells ∧ Blk wr (w.heap.size + 2) 58 (dCells (tw c k j) c (.slice A2 c.for_.length k2) (.slice A3 c.may_.length k3)) ∧ Below w.heap.size w wr) (fun c51 _ => c.has.length - (intOf c51).toNat)
   case atStart => exact ⟨0, by omega, rfl, hC, hZ, hD, hbw⟩
   case round =>
    clear hC hZ hD hbw
    obtain ⟨j, hj, rfl, hC, hZ, hD, hbw⟩ := hrel
    by_cases hjl : j < c.has.length
    ·obtain ⟨gg, oo, hA1, hcn⟩ := has_at (h.below hbw).has hjl
     subst hA1
     have hit := inB_take (t := key k) hjl
     have hj0 : (0 : Int) ≤ (j : Int) := by omega
     have hk0 : (0 : Int) ≤ (k : Int) := by omega
     have hj1 : (j : Int) < (c.has.length : Int) := by omega
     have d0 := dCells_at hD hlt
     rw [tw_at] at d0
     have z0 := hD.frozen k
     have HM : ∀ b, b = inB (c.has.take (j + 1)) (key k) → Hid (Blk (wr.setCell ⟨w.heap.size + 2, k, none⟩ (.bool b)) w.heap.size 38 (clCells c (.slice (some ⟨gg, oo, none⟩) c.has.length k1) (.slice A2 c.for_.length k2) (.slice A3 c.may_.length k3)) ∧ Blk (wr.setCell ⟨w.heap.size + 2, k, none⟩ (.bool b)) (w.heap.size + 1) 58 zCells ∧ Blk (wr.setCell ⟨w.heap.size + 2, k, none⟩ (.bool b)) (w.heap.size + 2) 58 (dCells (tw c k (j + 1)) c (.slice A2 c.for_.length k2) (.slice A3 c.may_.length k3)) ∧ Below w.heap.size w (wr.setCell ⟨w.heap.size + 2, k, none⟩ (.bool b))) := fun b hb => Lib.hid (by
      refine ⟨hC.far (by show w.heap.size ≠ w.heap.size + 2; omega) _, hZ.far (by show w.heap.size + 1 ≠ w.heap.size + 2; omega) _, ?_, hbw.setCell (by show w.heap.size ≤ w.heap.size + 2; omega) _⟩
      have := hD.put k (.bool b)
      rw [dCells_put _ c _ _ hlt, dCells_ext (fun i _ => tw_put hb)] at this
      exact this)
     have Hit := Lib.hid hit
     clear hit
     generalize c.has[j] = x at *
     cases hb : inB (c.has.take j) (key k) with
     | true =>
      have hJ := HM true (by rw [Hit.out, hb]; rfl)
      rw [hb] at d0
      clear hb HM
      go_wp2
      go_roundw
      case rel => exact ⟨j + 1, by omega, by go_num, hJ.out⟩
      case measure => simp [intOf]; omega
     | false =>
      rw [hb] at d0
      by_cases hx : x = key k
      ·have hJ := HM true (by rw [Hit.out, hb]; simp [hx])
       have he : (x == key k) = true := by simpa using hx
       clear hb HM hx
       go_wp2
       go_roundw
       case rel => exact ⟨j + 1, by omega, by go_num, hJ.out⟩
       case measure => simp [intOf]; omega
      ·have hJ := HM false (by rw [Hit.out, hb]; simp [hx])
       have he : (x == key k) = false := by simpa using hx
       clear hb HM hx
       go_wp2
       go_roundw
       case rel => exact ⟨j + 1, by omega, by go_num, hJ.out⟩
       case measure => simp [intOf]; omega
    ·obtain rfl : j = c.has.length := by omega
     rw [dCells_ext (fun i _ => tw_next)] at hD
     go_wp2
     go_roundw
     case rel => exact ⟨k + 1, by omega, by go_num, hC, hZ, hD, hbw⟩
     case measure => simp [intOf]; omega
  ·obtain rfl : k = 8 := by omega
   rw [dCells_ext (fun i hi => tw_end hi)] at hD
   have HB : ∀ W, (Blk W w.heap.size 38 (clCells c (.slice A1 c.has.length k1) (.slice A2 c.for_.length k2) (.slice A3 c.may_.length k3)) ∧ Blk W (w.heap.size + 2) 58 (dCells (is c) c (.slice A2 c.for_.length k2) (.slice A3 c.may_.length k3)) ∧ Below w.heap.size w W) → Calls Tryz.prog 79 #[.agg (dCells (is c) c (.slice A2 c.for_.length k2) (.slice A3 c.may_.length k3)), .slice A1 c.has.length k1] W fun e w' => e = .returned (.bool (mayB c)) ∧ Below W.heap.size W w' := fun W hW => by
    refine (refBe_any (is c) c (.slice A1 c.has.length k1) (.slice A2 c.for_.length k2) (.slice A3 c.may_.length k3) W (h.below hW.2.2)).mono ?_
    rintro e w' ⟨rfl, hb⟩
    exact ⟨by rw [mayB_beB], hb⟩
   have G := Lib.hid HB
   clear HB
   have hld : ∀ W, Blk W (w.heap.size + 2) 58 (dCells (is c) c (.slice A2 c.for_.length k2) (.slice A3 c.may_.length k3)) → (loadVar 58 ⟨w.heap.size + 2, 0, none⟩).run Tryz.prog W = .ok (.agg (dCells (is c) c (.slice A2 c.for_.length k2) (.slice A3 c.may_.length k3))) W := fun W hW => run_loadVar_row W _ 58 58 _ (0, 0) _ hW Tryz.underlying58 rfl (by kernel_rfl)
   go_wp2_with fail
   refine wp_region_noPanic ?_
   refine wp_region_held (S := fun W => Blk W w.heap.size 38 (clCells c (.slice A1 c.has.length k1) (.slice A2 c.for_.length k2) (.slice A3 c.may_.length k3)) ∧ Blk W (w.heap.size + 2) 58 (dCells (is c) c (.slice A2 c.for_.length k2) (.slice A3 c.may_.length k3)) ∧ Below w.heap.size w W) (by kernel_rfl) ?_
   have hS0 : (fun W => Blk W w.heap.size 38 (clCells c (.slice A1 c.has.length k1) (.slice A2 c.for_.length k2) (.slice A3 c.may_.length k3)) ∧ Blk W (w.heap.size + 2) 58 (dCells (is c) c (.slice A2 c.for_.length k2) (.slice A3 c.may_.length k3)) ∧ Below w.heap.size w W) { wr with drawn := wr.drawn + 1 } := ⟨hC.drew, hD.drew, hbw.drew⟩
   refine wpAnyH_take (i := 0) (v := .agg (dCells (is c) c (.slice A2 c.for_.length k2) (.slice A3 c.may_.length k3))) rfl (by kernel_rfl) (by kernel_rfl) (by kernel_rfl) (fun _ _ _ h => h.elim) (.inl ⟨rfl, fun W hW => ?_⟩) hS0 ?_
   ·have hl := hld W hW.2.1
    simp [execOp, Act.eval, Instr.loadAt, Instr.sureAddr, hl]
   refine wpAnyH_take (i := 1) (v := .agg (dCells (is c) c (.slice A2 c.for_.length k2) (.slice A3 c.may_.length k3))) rfl (by kernel_rfl) (by kernel_rfl) (by kernel_rfl) (fun _ _ _ h => h.elim) (.inl ⟨rfl, fun W hW => ?_⟩) hS0 ?_
   ·have hl := hld W hW.2.1
    simp [execOp, Act.eval, Instr.loadAt, Instr.sureAddr, hl, Act.put]
   refine wpAnyH_take (i := 2) (v := .pointer (some ⟨w.heap.size, 0, none⟩)) rfl (by kernel_rfl) (by kernel_rfl) (by kernel_rfl) (fun _ _ _ h => h.elim) (.inl ⟨rfl, fun W hW => ?_⟩) hS0 ?_
   ·simp [execOp, Act.eval, Act.put, go_sem]
   refine wpAnyH_take (i := 3) (v := .slice A1 c.has.length k1) rfl (by kernel_rfl) (by kernel_rfl) (by kernel_rfl) (fun _ _ _ h => h.elim) (.inl ⟨rfl, fun W hW => ?_⟩) hS0 ?_
   ·have hl : W.cell? ⟨w.heap.size, 0, none⟩ = some (.slice A1 c.has.length k1) := hW.1.cell 0
    simp [execOp, Act.eval, Act.put, go_sem, hl]
   refine wpAnyH_all (rs := [4]) (by kernel_rfl) (by decide) (fun i hi => ?_)
   obtain rfl : i = 4 := by simpa using hi
   refine wpOp_step rfl ?_
   intro K' hK'
   go_simp
   refine (G.out _ hS0).mono ?_
   rintro e w9 ⟨rfl, hb9⟩
   have hC9 := hC.drew.below hb9 hCl
   have hD9 := hD.drew.below hb9 hDl
   have hZ9 := hZ.drew.below hb9 hZl
   have hbw9 := below_chain hbw.drew hbw.size hb9
   refine hK' _ _ ⟨⟨hC9, hD9, hbw9⟩, ?_⟩
   clear hK' K'
   refine wpAnyH_all (rs := [5]) (by kernel_rfl) (by decide) (fun i hi => ?_)
   obtain rfl : i = 5 := by simpa using hi
   refine wpOp_step rfl ?_
   intro K' hK'
   have hst := run_storeVar_row (P := Tryz.prog) w9 (w.heap.size + 1) 58 58 zCells (dCells (is c) c (.slice A2 c.for_.length k2) (.slice A3 c.may_.length k3)) hZ9 rfl (by simp [dCells, Value.oneCell']) (by kernel_rfl)
   have hCz := putCells_far (g := w.heap.size + 1) (by omega) (dCells (is c) c (.slice A2 c.for_.length k2) (.slice A3 c.may_.length k3)).toList w9 0 _ _ hC9
   have hDz := putCells_far (g := w.heap.size + 1) (by omega) (dCells (is c) c (.slice A2 c.for_.length k2) (.slice A3 c.may_.length k3)).toList w9 0 _ _ hD9
   have hbz := putCells_below (B := w.heap.size) (g := w.heap.size + 1) (by omega) (dCells (is c) c (.slice A2 c.for_.length k2) (.slice A3 c.may_.length k3)).toList w w9 0 hbw9
   have hZz : Blk (putCells w9 (w.heap.size + 1) (dCells (is c) c (.slice A2 c.for_.length k2) (.slice A3 c.may_.length k3)).toList 0) (w.heap.size + 1) 58 (dCells (is c) c (.slice A2 c.for_.length k2) (.slice A3 c.may_.length k3)) := by
    have := putCells_blk (dCells (is c) c (.slice A2 c.for_.length k2) (.slice A3 c.may_.length k3)).toList w9 0 _ hZ9
    rwa [putList_all (ds := (dCells (is c) c (.slice A2 c.for_.length k2) (.slice A3 c.may_.length k3))) (cs := zCells) rfl] at this
   split
   rotate_left
   ·rename_i hno
    exact absurd rfl hno
   rename_i hyes
   clear hyes
   unfold Oper.wp
   simp [execOp, Act.eval, Instr.storeAt, Instr.sureAddr, hst]
   simp only [Oper.upon]
   refine hK' _ _ ⟨⟨hCz, hDz, hbz⟩, ?_⟩
   clear hK' K' hst
   generalize putCells w9 (w.heap.size + 1) (dCells (is c) c (.slice A2 c.for_.length k2) (.slice A3 c.may_.length k3)).toList 0 = wz at *
   refine wpAnyH_all (rs := [6]) (by kernel_rfl) (by decide) (fun i hi => ?_)
   obtain rfl : i = 6 := by simpa using hi
   refine wpOp_step rfl ?_
   intro K' hK'
   go_simp
   refine hK' _ _ ⟨⟨hCz, hDz, hbz⟩, ?_⟩
   refine wpAnyH_done (by kernel_rfl) ?_ _
   refine NoPanic.normal ?_
   go_wp2_with fail
   have hlz := run_loadVar_row (P := Tryz.prog) wz (w.heap.size + 1) 58 58 _ (0, 0) _ hZz Tryz.underlying58 rfl (by kernel_rfl)
   refine bodyPost_ret (v := .tuple #[.agg (dCells (is c) c (.slice A2 c.for_.length k2) (.slice A3 c.may_.length k3)), .bool (mayB c)]) (by simp [results, Tryz.results31, asAddr, hlz]) rfl ⟨rfl, hbz⟩
end Go.Proofs.YtobaldkipnhlpaaGreatDoor
namespace Go.Proofs.YtobaldkipnhlpaaGreatDoor
open Go.RowKit Mem Utf Ref3 Tok Cl

def startD (c : C) : Int := if is c 4 = true ∧ (if is c 1 = true then c.at_ else -1) < c.from_ then c.from_ else (if is c 1 = true then c.at_ else -1)
theorem startD_P {c : C} (h1 : 0 ≤ c.at_) (h4 : 0 ≤ c.from_) : startD c = if (startP c).2 = true then (startP c).1 else -1 := by
 have e1 : inB c.has (key 1) = is c 1 := rfl
 have e4 : inB c.has (key 4) = is c 4 := rfl
 unfold startD startP
 rw [e1, e4]
 cases is c 1 <;> cases is c 4 <;> simp <;> omega
theorem earlyB_D {c : C} {r : R} (h1 : 0 ≤ c.at_) (h4 : 0 ≤ c.from_) (ha : 0 ≤ r.now) (hb : 0 ≤ r.slack) : earlyB c r = decide (r.now + r.slack < startD c) := by
 rw [startD_P h1 h4, earlyB]
 cases (startP c).2 with
 | true => simp
 | false => simp; omega
theorem startD_early {c : C} {r : R} (h1 : 0 ≤ c.at_) (h4 : 0 ≤ c.from_) (h : earlyB c r = true) : startD c = (startP c).1 := by
 rw [startD_P h1 h4, if_pos]
 unfold earlyB at h
 exact (Bool.and_eq_true_iff.1 h).1
theorem be_keys {c : C} : ∀ (j n : Nat), j ≤ 8 → Low c (8 - j) n → beK c j n = true → ∀ t ∈ c.has, ∃ k, k < 8 ∧ t = key k
 | 0, n, _, hl, h, t, ht => by
  rw [beK, beq_iff_eq] at h
  obtain ⟨i, hi, he⟩ := List.mem_iff_getElem.1 ht
  obtain ⟨a, ha, hx⟩ := hl.2 i (by omega)
  rw [List.getElem?_eq_getElem hi] at hx
  injection hx with hx
  exact ⟨a, by omega, by rw [← he]; exact hx⟩
 | j + 1, n, hj, hl, h, t, ht => by
  have hk : 8 - (j + 1) = 7 - j := by omega
  rw [hk] at hl
  rw [beK, Bool.and_eq_true] at h
  refine be_keys j _ (by omega) ?_ h.2 t ht
  have : 8 - j = 7 - j + 1 := by omega
  rw [this]
  exact low_next hl
theorem may_keys {c : C} (h : mayB c = true) : ∀ t ∈ c.has, ∃ k, k < 8 ∧ t = key k := be_keys 8 0 (by omega) ⟨Nat.zero_le _, fun i hi => by omega⟩ (by rw [← h, mayB_beB]; rfl)
def anyK (c : C) (t : Txt) : Nat → Bool
 | 0 => false
 | k + 1 => anyK c t k || (is c k && key k == t)
theorem anyK_iff {c : C} {t : Txt} : ∀ j, anyK c t j = true ↔ ∃ k, k < j ∧ is c k = true ∧ key k = t
 | 0 => ⟨fun h => (by cases h), fun ⟨k, h, _⟩ => (by cases h)⟩
 | j + 1 => by
  rw [anyK, Bool.or_eq_true, anyK_iff j, Bool.and_eq_true, beq_iff_eq]
  constructor
  ·rintro (⟨k, h1, h2⟩ | ⟨h1, h2⟩)
   ·exact ⟨k, by omega, h2⟩
   ·exact ⟨j, by omega, h1, h2⟩
  ·rintro ⟨k, h1, h2, h3⟩
   by_cases e : k = j
   ·exact .inr ⟨e ▸ h2, e ▸ h3⟩
   ·exact .inl ⟨k, by omega, h2, h3⟩
theorem anyK_in {c : C} {t : Txt} (h : mayB c = true) : anyK c t 8 = inB c.has t := by
 rw [Bool.eq_iff_iff, anyK_iff]
 unfold inB
 rw [List.contains_iff_mem]
 constructor
 ·rintro ⟨k, _, h2, rfl⟩
  exact List.contains_iff_mem.1 h2
 ·intro ht
  obtain ⟨k, hk, rfl⟩ := may_keys h t ht
  exact ⟨k, hk, List.contains_iff_mem.2 ht, rfl⟩

theorem refStart_any (c : C) (v2 v3 : Value) (w : World) : Calls Tryz.prog 33 #[.agg (dCells (is c) c v2 v3)] w fun e w' => e = .returned (.int .i64 (startD c)) ∧ Below w.heap.size w w' := by
 have HS : Hid (startD c = if is c 4 = true ∧ (if is c 1 = true then c.at_ else -1) < c.from_ then c.from_ else (if is c 1 = true then c.at_ else -1)) := Lib.hid rfl
 have hb0 : ∀ cs, Below w.heap.size w (w.alloc (.cells cs 58)) := fun cs => (Below.refl _ _).alloc (Nat.le_refl _) _
 unfold dCells
 generalize is c 0 = b0
 generalize is c 2 = b2
 generalize is c 3 = b3
 generalize is c 5 = b5
 generalize is c 6 = b6
 generalize is c 7 = b7
 cases h1 : is c 1 <;> cases h4 : is c 4
 ·
  have HV : Hid (startD c = (-1)) := Lib.hid (by rw [HS.out, h1, h4]; simp)
  clear h1 h4 HS
  go_enter Tryz.func33, Tryz.ntmps33
  go_wp2
  go_ret
  exact ⟨by rw [HV.out]; rfl, hb0 _⟩
 ·
  by_cases hx : (-1) < c.from_
  ·have HV : Hid (startD c = c.from_) := Lib.hid (by rw [HS.out, h1, h4]; simp; omega)
   clear h1 h4 HS
   go_enter Tryz.func33, Tryz.ntmps33
   go_wp2
   go_ret
   exact ⟨by rw [HV.out]; rfl, hb0 _⟩
  ·have HV : Hid (startD c = (-1)) := Lib.hid (by rw [HS.out, h1, h4]; simp; omega)
   clear h1 h4 HS
   go_enter Tryz.func33, Tryz.ntmps33
   go_wp2
   go_ret
   exact ⟨by rw [HV.out]; rfl, hb0 _⟩
 ·
  have HV : Hid (startD c = c.at_) := Lib.hid (by rw [HS.out, h1, h4]; simp)
  clear h1 h4 HS
  go_enter Tryz.func33, Tryz.ntmps33
  go_wp2
  go_ret
  exact ⟨by rw [HV.out]; rfl, hb0 _⟩
 ·
  by_cases hx : c.at_ < c.from_
  ·have HV : Hid (startD c = c.from_) := Lib.hid (by rw [HS.out, h1, h4]; simp; omega)
   clear h1 h4 HS
   go_enter Tryz.func33, Tryz.ntmps33
   go_wp2
   go_ret
   exact ⟨by rw [HV.out]; rfl, hb0 _⟩
  ·have HV : Hid (startD c = c.at_) := Lib.hid (by rw [HS.out, h1, h4]; simp; omega)
   clear h1 h4 HS
   go_enter Tryz.func33, Tryz.ntmps33
   go_wp2
   go_ret
   exact ⟨by rw [HV.out]; rfl, hb0 _⟩
end Go.Proofs.YtobaldkipnhlpaaGreatDoor
namespace Go.Proofs.YtobaldkipnhlpaaGreatDoor
open Go.RowKit Mem Utf Ref3 Tok Cl
def RefJudgeP (c : C) (r : R) (w : World) (e : Ending) (w' : World) : Prop := ∃ u, e = .returned u ∧ VerdR w' u (judge0 c r) ∧ Below w.heap.size w w'
theorem rd_nil (w : World) : Rd w (.slice none 0 0) [] := ⟨none, 0, rfl, fun j hj => by cases hj⟩
theorem C4 {w : World} {b : Nat} {t : TypeId} {a0 a1 a2 a3 : Value} (h : Blk w b t #[a0, a1, a2, a3]) :
  w.cell? ⟨b, 0, none⟩ = some a0 ∧ w.cell? ⟨b, 1, none⟩ = some a1 ∧ w.cell? ⟨b, 2, none⟩ = some a2 ∧ w.cell? ⟨b, 3, none⟩ = some a3 := ⟨h.cell 0, h.cell 1, h.cell 2, h.cell 3⟩

structure JSt (w0 : World) (c : C) (r : R) (v2 v3 u1 u2 u3 : Value) (g : Nat) (w : World) : Prop where
 mC : Blk w w0.heap.size 58 (dCells (is c) c v2 v3)
 mR : Blk w (w0.heap.size + 1) 66 (ruCells r u1 u2 u3)
 mV : Blk w (w0.heap.size + 2) 72 #[.int .i64 0, .int .i64 0, .string ⟨#[]⟩, .slice none 0 0]
 mK : Blk w g 54 keyCells
 bel : Below w0.heap.size w0 w
theorem JSt.below {w0 w w' : World} {c : C} {r : R} {v2 v3 u1 u2 u3 : Value} {g : Nat} (h : JSt w0 c r v2 v3 u1 u2 u3 g w) (hb : Below w.heap.size w w') : JSt w0 c r v2 v3 u1 u2 u3 g w' :=
 ⟨h.mC.below hb h.mC.lt, h.mR.below hb h.mR.lt, h.mV.below hb h.mV.lt, h.mK.below hb h.mK.lt, below_chain h.bel h.bel.size hb⟩

def tailOf : Code → Code
 | .seq _ (.seq _ (.seq _ t)) => t
 | _ => .skip
def nextOf : Code → Code
 | .seq _ t => t
 | _ => .skip
noncomputable def refJTail : Code := tailOf (Tryz.f18.body.getD .skip)
noncomputable def refJTail2 : Code := nextOf refJTail
noncomputable def refJTail3 : Code := nextOf refJTail2
noncomputable def refJTail3b : Code := nextOf refJTail3
noncomputable def refJTail4 : Code := nextOf refJTail3b
noncomputable def refJTail5 : Code := nextOf refJTail4

end Go.Proofs.YtobaldkipnhlpaaGreatDoor
namespace Go.Proofs.YtobaldkipnhlpaaGreatDoor
open Go.RowKit Mem Utf Ref3 Tok Cl

theorem refJudge_tail5t (c : C) (r : R) (A1 A2 A4 A5 : Option Addr) (k1 k2 k4 k5 : Nat) (u3 : Value) (w wr : World) (g : Nat)
  (v1 : Value) (h : ClAt w c v1 (.slice A4 c.for_.length k4) (.slice A5 c.may_.length k5)) (hr : RuAt w r (.slice A1 r.by_.length k1) (.slice A2 r.need.length k2) u3) (hfit : fit c r = true) (h7 : is c 7 = true)
  (HJ0 : Hid (judge0 c r = judge5 c r)) (hs0 : JSt w c r (.slice A4 c.for_.length k4) (.slice A5 c.may_.length k5) (.slice A1 r.by_.length k1) (.slice A2 r.need.length k2) u3 g wr) (z0 z1 z5 z6 z7 z8 z9 z10 z11 z12 z13 z14 z15 z16 z17 z18 z19 z20 z21 z22 z23 z24 z25 z26 z27 z28 z29 z30 z31 z32 z33 z34 z35 z36 z37 z38 z39 z40 z41 z42 z43 z44 z45 z46 z47 z48 z49 z50 z51 z52 z53 z54 z55 z56 z57 z58 z59 z60 z61 z62 z63 z64 z65 z66 z67 z68 z69 z70 z71 z72 z73 z74 z75 z76 z77 z78 z79 z80 z81 z82 z83 z84 z85 z86 z87 z88 z89 z90 z91 z92 z93 z94 z95 z96 z97 z98 z99 z100 z101 z102 z103 z104 z105 z106 z107 z108 z109 z110 z111 z112 z113 z114 z115 z116 z117 z118 z119 z120 z121 z122 z123 z124 z125 z126 z127 z128 z129 z130 z131 z132 z133 z134 z135 z136 z137 : Value) :
  Code.wp Tryz.prog refJTail5 (bodyPost Tryz.prog Tryz.f18 (RefJudgeP c r w)) { tmps := (z0 :: z1 :: .pointer (some ⟨w.heap.size, 0, none⟩) :: .pointer (some ⟨w.heap.size + 1, 0, none⟩) :: .pointer (some ⟨w.heap.size + 2, 0, none⟩) :: z5 :: z6 :: z7 :: z8 :: z9 :: z10 :: z11 :: z12 :: z13 :: z14 :: z15 :: z16 :: z17 :: z18 :: z19 :: z20 :: z21 :: z22 :: z23 :: z24 :: z25 :: z26 :: z27 :: z28 :: z29 :: z30 :: z31 :: z32 :: z33 :: z34 :: z35 :: z36 :: z37 :: z38 :: z39 :: z40 :: z41 :: z42 :: z43 :: z44 :: z45 :: z46 :: z47 :: z48 :: z49 :: z50 :: z51 :: z52 :: z53 :: z54 :: z55 :: z56 :: z57 :: z58 :: z59 :: z60 :: z61 :: z62 :: z63 :: z64 :: z65 :: z66 :: z67 :: z68 :: z69 :: z70 :: z71 :: z72 :: z73 :: z74 :: z75 :: z76 :: z77 :: z78 :: z79 :: z80 :: z81 :: z82 :: z83 :: z84 :: z85 :: z86 :: z87 :: z88 :: z89 :: z90 :: z91 :: z92 :: z93 :: z94 :: z95 :: z96 :: z97 :: z98 :: z99 :: z100 :: z101 :: z102 :: z103 :: z104 :: z105 :: z106 :: z107 :: z108 :: z109 :: z110 :: z111 :: z112 :: z113 :: z114 :: z115 :: z116 :: z117 :: z118 :: z119 :: z120 :: z121 :: z122 :: z123 :: z124 :: z125 :: z126 :: z127 :: z128 :: z129 :: z130 :: z131 :: z132 :: z133 :: z134 :: z135 :: z136 :: z137 :: []).toArray, defers := [] } wr := by
 have HFIT := Lib.hid hfit
 clear hfit
 have hnf := h.nfor
 have hnm := h.nmay
 have hfor := h.for_
 have hmay := h.may
 have hrb : ∀ W, Below w.heap.size w W → RuAt W r (.slice A1 r.by_.length k1) (.slice A2 r.need.length k2) u3 := fun W hW => hr.below hW
 have hs := hs0
 have HJ := HJ0
 clear hs0 HJ0
 conv => arg 2; whnf
 have HFOR := Lib.hid (And.intro h hr)
 clear h hr
 have H5 : Hid (judge5 c r = if (lackF c.may_ [] r.may_).isEmpty = true then ⟨1, if is c 7 = true then c.until_ else -1, [], []⟩ else ⟨7, 0, [], lackF c.may_ [] r.may_⟩) := Lib.hid rfl
 replace HJ : Hid (judge0 c r = if (lackF c.may_ [] r.may_).isEmpty = true then ⟨1, c.until_, [], []⟩ else ⟨7, 0, [], lackF c.may_ [] r.may_⟩) := Lib.hid (by rw [HJ.out, H5.out, h7]; rfl)
 have H7 := Lib.hid h7
 clear h7 H5
 obtain ⟨d0, d1, d2, d3, d4, d5, d6, d7, d8, d9, d10, d11, d12, d13, d14, d15, d16, d17, d18, d19, d20, d21, d22, d23, d24, d25, d26, d27, d28, d29, d30, d31⟩ := C32 hs.mC
 obtain ⟨f0, f1, f2, f3, f4, f5⟩ := C6 hs.mR
 clear d0 d5 d6 d8 d9 d11 d12 d13 d14 d15 d16 d18 d19 d21 d22 d24 d25 d26 d28 d29 d31
 go_wp2_with fail
 refine (refLacking_any u3 (.slice A5 c.may_.length k5) r.may_ c.may_ _ (hrb _ hs.bel).may (hmay.below hs.bel) (hrb _ hs.bel).nmay hnm).mono ?_
 rintro e w9 ⟨⟨y, rfl, hown⟩, hb9⟩
 have hVl := hs.mV.lt
 replace hs := hs.below hb9
 clear hb9 d1 d2 d3 d4 d7 d10 d17 d20 d23 d27 d30 f0 f1 f2 f3 f4 f5
 generalize lackF c.may_ [] r.may_ = q at *
 obtain ⟨A9, c9, rfl⟩ := own_sliceP hown
 cases q with
 | nil =>
  simp only [List.length_nil] at hown ⊢
  have HV : Hid (judge0 c r = ⟨1, c.until_, [], []⟩) := Lib.hid (by rw [HJ.out]; rfl)
  clear hown
  obtain ⟨d0, d1, d2, d3, d4, d5, d6, d7, d8, d9, d10, d11, d12, d13, d14, d15, d16, d17, d18, d19, d20, d21, d22, d23, d24, d25, d26, d27, d28, d29, d30, d31⟩ := C32 hs.mC
  obtain ⟨f0, f1, f2, f3, f4, f5⟩ := C6 hs.mR
  clear d0 d5 d6 d8 d9 d11 d12 d13 d14 d15 d16 d18 d19 d21 d22 d24 d25 d26 d28 d29 d31
  rw [H7.out] at d7
  obtain ⟨y0, y1, y2, y3⟩ := C4 hs.mV
  have yf := fun i => hs.mV.frozen i
  have hbel : ∀ a b c d : Value, Below w.heap.size w ((((w9.setCell ⟨w.heap.size + 2, 0, none⟩ a).setCell ⟨w.heap.size + 2, 1, none⟩ b).setCell ⟨w.heap.size + 2, 2, none⟩ c).setCell ⟨w.heap.size + 2, 3, none⟩ d) := fun a b c d => (((hs.bel.setCell (by show w.heap.size ≤ w.heap.size + 2; omega) _).setCell (by show w.heap.size ≤ w.heap.size + 2; omega) _).setCell (by show w.heap.size ≤ w.heap.size + 2; omega) _).setCell (by show w.heap.size ≤ w.heap.size + 2; omega) _
  go_wp2
  refine bodyPost_ret (v := .agg #[.int .i64 1, .int .i64 c.until_, .string ⟨#[]⟩, .slice none 0 0]) (by simp [results, Tryz.results18, go_sem, y0, y1, y2, y3]) rfl ⟨_, rfl, ?_, hbel _ _ _ _⟩
  rw [HV.out]
  exact ⟨_, rfl, rd_nil _⟩
 | cons x q =>
  have HV : Hid (judge0 c r = ⟨7, 0, [], x :: q⟩) := Lib.hid (by rw [HJ.out]; rfl)
  have hz0 : (0 : Int) < ((x :: q).length : Int) := by rw [List.length_cons]; omega
  have hz2 : decide (0 < (x :: q).length) = true := by simp
  generalize x :: q = z at *
  obtain ⟨d0, d1, d2, d3, d4, d5, d6, d7, d8, d9, d10, d11, d12, d13, d14, d15, d16, d17, d18, d19, d20, d21, d22, d23, d24, d25, d26, d27, d28, d29, d30, d31⟩ := C32 hs.mC
  obtain ⟨f0, f1, f2, f3, f4, f5⟩ := C6 hs.mR
  clear d0 d5 d6 d8 d9 d11 d12 d13 d14 d15 d16 d18 d19 d21 d22 d24 d25 d26 d28 d29 d31
  obtain ⟨y0, y1, y2, y3⟩ := C4 hs.mV
  have yf := fun i => hs.mV.frozen i
  have hbel : ∀ a b c d : Value, Below w.heap.size w ((((w9.setCell ⟨w.heap.size + 2, 0, none⟩ a).setCell ⟨w.heap.size + 2, 1, none⟩ b).setCell ⟨w.heap.size + 2, 2, none⟩ c).setCell ⟨w.heap.size + 2, 3, none⟩ d) := fun a b c d => (((hs.bel.setCell (by show w.heap.size ≤ w.heap.size + 2; omega) _).setCell (by show w.heap.size ≤ w.heap.size + 2; omega) _).setCell (by show w.heap.size ≤ w.heap.size + 2; omega) _).setCell (by show w.heap.size ≤ w.heap.size + 2; omega) _
  go_wp2
  refine bodyPost_ret (v := .agg #[.int .i64 7, .int .i64 0, .string ⟨#[]⟩, .slice A9 z.length c9]) (by simp [results, Tryz.results18, go_sem, y0, y1, y2, y3]) rfl ⟨_, rfl, ?_, hbel _ _ _ _⟩
  rw [HV.out]
  exact ⟨_, rfl, Rd.of_own (ownsRow_setCell_below (ownsRow_setCell_below (ownsRow_setCell_below (ownsRow_setCell_below hown hVl _) hVl _) hVl _) hVl _)⟩

end Go.Proofs.YtobaldkipnhlpaaGreatDoor
