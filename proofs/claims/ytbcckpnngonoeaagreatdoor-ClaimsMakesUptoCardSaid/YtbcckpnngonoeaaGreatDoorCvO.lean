/-
  Walk of the statements' own function twin of layer 25 (printed by wip/gen_clo.py).
-/
import Derived.Test.YtbcckpnngonoeaaGreatDoorCvN
import Derived.Test.YtbcckpnngonoeaaGreatDoorCvU
import Derived.Deep.RegionHeld3
namespace Go.Proofs.YtbcckpnngonoeaaGreatDoor
open Go.RowKit Mem Utf Ref3 Tok Cl
set_option linter.unusedVariables false

theorem C32 {w : World} {b : Nat} {t : TypeId} {f : Nat → Bool} {c : C} {v2 v3 : Value} (h : Blk w b t (dCells f c v2 v3)) :
    w.cell? ⟨b, 0, none⟩ = some (.bool (f 0)) ∧ w.cell? ⟨b, 1, none⟩ = some (.bool (f 1)) ∧ w.cell? ⟨b, 2, none⟩ = some (.bool (f 2)) ∧ w.cell? ⟨b, 3, none⟩ = some (.bool (f 3)) ∧ w.cell? ⟨b, 4, none⟩ = some (.bool (f 4)) ∧ w.cell? ⟨b, 5, none⟩ = some (.bool (f 5)) ∧ w.cell? ⟨b, 6, none⟩ = some (.bool (f 6)) ∧ w.cell? ⟨b, 7, none⟩ = some (.bool (f 7)) ∧ w.cell? ⟨b, 8, none⟩ = some (.string ⟨c.about.toArray⟩) ∧ w.cell? ⟨b, 9, none⟩ = some (.string ⟨#[]⟩) ∧ w.cell? ⟨b, 10, none⟩ = some (.string ⟨c.by_.toArray⟩) ∧ w.cell? ⟨b, 11, none⟩ = some (.string ⟨#[]⟩) ∧ w.cell? ⟨b, 12, none⟩ = some (.string ⟨#[]⟩) ∧ w.cell? ⟨b, 13, none⟩ = some (.string ⟨c.id_.toArray⟩) ∧ w.cell? ⟨b, 14, none⟩ = some (.string ⟨#[]⟩) ∧ w.cell? ⟨b, 15, none⟩ = some (.string ⟨#[]⟩) ∧ w.cell? ⟨b, 16, none⟩ = some (.int .i64 0) ∧ w.cell? ⟨b, 17, none⟩ = some (.int .i64 c.at_) ∧ w.cell? ⟨b, 18, none⟩ = some (.int .i64 0) ∧ w.cell? ⟨b, 19, none⟩ = some (.int .i64 0) ∧ w.cell? ⟨b, 20, none⟩ = some (.int .i64 c.from_) ∧ w.cell? ⟨b, 21, none⟩ = some (.int .i64 0) ∧ w.cell? ⟨b, 22, none⟩ = some (.int .i64 0) ∧ w.cell? ⟨b, 23, none⟩ = some (.int .i64 c.until_) ∧ w.cell? ⟨b, 24, none⟩ = some (.slice none 0 0) ∧ w.cell? ⟨b, 25, none⟩ = some (.slice none 0 0) ∧ w.cell? ⟨b, 26, none⟩ = some (.slice none 0 0) ∧ w.cell? ⟨b, 27, none⟩ = some (v2) ∧ w.cell? ⟨b, 28, none⟩ = some (.slice none 0 0) ∧ w.cell? ⟨b, 29, none⟩ = some (.slice none 0 0) ∧ w.cell? ⟨b, 30, none⟩ = some (v3) ∧ w.cell? ⟨b, 31, none⟩ = some (.slice none 0 0) :=
  ⟨h.cell 0, h.cell 1, h.cell 2, h.cell 3, h.cell 4, h.cell 5, h.cell 6, h.cell 7, h.cell 8, h.cell 9, h.cell 10, h.cell 11, h.cell 12, h.cell 13, h.cell 14, h.cell 15, h.cell 16, h.cell 17, h.cell 18, h.cell 19, h.cell 20, h.cell 21, h.cell 22, h.cell 23, h.cell 24, h.cell 25, h.cell 26, h.cell 27, h.cell 28, h.cell 29, h.cell 30, h.cell 31⟩
theorem idx_keys {k : Nat} (hk : k < 8) (w : World) : (Instr.index 66 (.agg keyCells) (.int .i64 (k : Int))).run Tryz.prog w = .ok (.string ⟨(key k).toArray⟩) w := by
  rcases below8 hk with rfl | rfl | rfl | rfl | rfl | rfl | rfl | rfl <;> kernel_rfl
theorem inB_take {l : List Txt} {t : Txt} {j : Nat} (hj : j < l.length) : inB (l.take (j + 1)) t = (inB (l.take j) t || l[j] == t) := by
  unfold inB
  rw [List.take_succ_eq_append_getElem hj, Bool.eq_iff_iff, Bool.or_eq_true, List.contains_iff_mem, List.contains_iff_mem, List.mem_append, List.mem_singleton, beq_iff_eq]
  exact ⟨fun h => h.imp id Eq.symm, fun h => h.imp id Eq.symm⟩
/-- the marks, so many keys being gone through, and so many texts for the next one -/
def tw (c : C) (k j i : Nat) : Bool := if i < k then is c i else if i = k then inB (c.has.take j) (key k) else false
theorem tw_start {c : C} {i : Nat} : tw c 0 0 i = false := by
  unfold tw
  rw [if_neg (Nat.not_lt_zero _)]
  by_cases h : i = 0
  · rw [if_pos h]; rfl
  · rw [if_neg h]
theorem tw_next {c : C} {k i : Nat} : tw c k c.has.length i = tw c (k + 1) 0 i := by
  unfold tw
  by_cases h1 : i < k
  · rw [if_pos h1, if_pos (by omega)]
  · rw [if_neg h1]
    by_cases h2 : i = k
    · rw [if_pos h2, if_pos (by omega), List.take_length, h2]
      rfl
    · rw [if_neg h2, if_neg (by omega)]
      by_cases h3 : i = k + 1
      · rw [if_pos h3]; rfl
      · rw [if_neg h3]
theorem tw_put {c : C} {k j i : Nat} {b : Bool} (hb : b = inB (c.has.take (j + 1)) (key k)) : (if i = k then b else tw c k j i) = tw c k (j + 1) i := by
  unfold tw
  by_cases h : i = k
  · rw [if_pos h, if_neg (by omega), if_pos h, hb]
  · rw [if_neg h, if_neg h, if_neg h]
theorem tw_at {c : C} {k j : Nat} : tw c k j k = inB (c.has.take j) (key k) := by
  unfold tw
  rw [if_neg (by omega), if_pos rfl]
theorem tw_end {c : C} {i : Nat} (h : i < 8) : tw c 8 0 i = is c i := by
  unfold tw
  rw [if_pos h]
def zCells : Array Value := #[.bool false, .bool false, .bool false, .bool false, .bool false, .bool false, .bool false, .bool false, .string ⟨#[]⟩, .string ⟨#[]⟩, .string ⟨#[]⟩, .string ⟨#[]⟩, .string ⟨#[]⟩, .string ⟨#[]⟩, .string ⟨#[]⟩, .string ⟨#[]⟩, .int .i64 0, .int .i64 0, .int .i64 0, .int .i64 0, .int .i64 0, .int .i64 0, .int .i64 0, .int .i64 0, .slice none 0 0, .slice none 0 0, .slice none 0 0, .slice none 0 0, .slice none 0 0, .slice none 0 0, .slice none 0 0, .slice none 0 0]

set_option maxRecDepth 100000 in
set_option maxHeartbeats 4000000 in
theorem twin_any (c : C) (v1 v2 v3 : Value) (w : World) (h : ClAt w c v1 v2 v3) :
    Calls Tryz.prog 28 #[.agg #[v1, .string ⟨c.about.toArray⟩, .int .i64 c.at_, .string ⟨c.by_.toArray⟩, v2, .int .i64 c.from_, .string ⟨c.id_.toArray⟩, v3, .int .i64 c.until_]] w
      fun e w' => e = .returned (.tuple #[.agg (dCells (is c) c v2 v3), .bool (mayB c)]) ∧ Below w.heap.size w w' := by
  have hnh := h.nhas
  obtain ⟨A1, k1, e1, hA1⟩ := h.has
  subst e1
  obtain ⟨A2, k2, e2, hA2⟩ := h.for_
  subst e2
  obtain ⟨A3, k3, e3, hA3⟩ := h.may
  subst e3
  clear hA1 hA2 hA3
  have hq : ∀ (w : World) o, (w.alloc o).heap.size = w.heap.size + 1 := fun w o => by simp
  go_enter Tryz.func28, Tryz.ntmps28
  go_wp2_with fail
  go_region
  go_wp2_with fail
  go_region
  go_wp2_with fail
  go_region
  go_wp2_with fail
  refine (refKeys_any _).mono ?_
  rintro e w1 ⟨rfl, hb1⟩
  have hC0 : Blk w1 w.heap.size 24 (clCells c (.slice A1 c.has.length k1) (.slice A2 c.for_.length k2) (.slice A3 c.may_.length k3)) :=
    (((((Blk.new w _ _).alloc _).alloc _).drew.drew.drew)).below hb1 (by show w.heap.size < ((((w.alloc _).alloc _).alloc _)).heap.size; rw [hq, hq, hq]; omega)
  have hZ0 : Blk w1 (w.heap.size + 1) 70 zCells := by
    have := Blk.new (w.alloc (.cells (clCells c (.slice A1 c.has.length k1) (.slice A2 c.for_.length k2) (.slice A3 c.may_.length k3)) 24)) 70 zCells
    rw [hq] at this
    exact ((this.alloc _).drew.drew.drew).below hb1 (by show w.heap.size + 1 < ((((w.alloc _).alloc _).alloc _)).heap.size; rw [hq, hq, hq]; omega)
  have hD0 : Blk w1 (w.heap.size + 2) 70 (dCells (fun _ => false) c (.slice A2 c.for_.length k2) (.slice A3 c.may_.length k3)) := by
    have := Blk.new ((w.alloc (.cells (clCells c (.slice A1 c.has.length k1) (.slice A2 c.for_.length k2) (.slice A3 c.may_.length k3)) 24)).alloc (.cells zCells 70)) 70 (dCells (fun _ => false) c (.slice A2 c.for_.length k2) (.slice A3 c.may_.length k3))
    rw [hq, hq] at this
    exact (this.drew.drew.drew).below hb1 (by show w.heap.size + 2 < ((((w.alloc _).alloc _).alloc _)).heap.size; rw [hq, hq, hq]; omega)
  have hbw1 : Below w.heap.size w w1 := by
    refine below_chain ((((((Below.refl _ _).alloc (Nat.le_refl _) _).alloc (by rw [hq]; omega) _).alloc (by rw [hq, hq]; omega) _)).drew.drew.drew) ?_ hb1
    show w.heap.size ≤ ((((w.alloc _).alloc _).alloc _)).heap.size
    rw [hq, hq, hq]
    omega
  clear hb1
  have hs1 := hbw1.size
  have hC := hC0.alloc (.cells keyCells 66)
  have hZ := hZ0.alloc (.cells keyCells 66)
  have hD := hD0.alloc (.cells keyCells 66)
  have hbw := hbw1.alloc hs1 (.cells keyCells 66)
  clear hC0 hZ0 hD0 hbw1 hq
  unfold keyCells at *
  go_wp2_with fail
  go_loopw [44] (fun c44 wr => ∃ k : Nat, k ≤ 8 ∧ c44 = .int .i64 k ∧ Blk wr w.heap.size 24 (clCells c (.slice A1 c.has.length k1) (.slice A2 c.for_.length k2) (.slice A3 c.may_.length k3)) ∧ Blk wr (w.heap.size + 1) 70 zCells ∧ Blk wr (w.heap.size + 2) 70 (dCells (tw c k 0) c (.slice A2 c.for_.length k2) (.slice A3 c.may_.length k3)) ∧ Below w.heap.size w wr) (fun c44 _ => 8 - (intOf c44).toNat)
  case atStart => exact ⟨0, by omega, rfl, hC, hZ, by rw [dCells_ext (g := fun _ => false) (fun i _ => tw_start)]; exact hD, hbw⟩
  case round =>
    obtain ⟨k, hk, rfl, hC, hZ, hD, hbw⟩ := hrel
    have hCl := hC.lt
    have hZl := hZ.lt
    have hDl := hD.lt
    by_cases hlt : k < 8
    · have hlt' : (k : Int) < 8 := by omega
      have hix := fun W => idx_keys hlt W
      unfold keyCells at hix
      obtain ⟨e0, e1, e2, e3, e4, e5, e6, e7, e8⟩ := C9 hC
      obtain ⟨wo, rfl⟩ : ∃ wo : World, wo = wr := ⟨_, rfl⟩
      go_wp2_with fail
      clear hix e0 e1 e2 e3 e4 e5 e6 e7 e8
      go_loopw [51] (fun c51 wr => ∃ j : Nat, j ≤ c.has.length ∧ c51 = .int .i64 j ∧ Blk wr w.heap.size 24 (clCells c (.slice A1 c.has.length k1) (.slice A2 c.for_.length k2) (.slice A3 c.may_.length k3)) ∧ Blk wr (w.heap.size + 1) 70 zCells ∧ Blk wr (w.heap.size + 2) 70 (dCells (tw c k j) c (.slice A2 c.for_.length k2) (.slice A3 c.may_.length k3)) ∧ Below w.heap.size w wr) (fun c51 _ => c.has.length - (intOf c51).toNat)
      case atStart => exact ⟨0, by omega, rfl, hC, hZ, hD, hbw⟩
      case round =>
        clear hC hZ hD hbw
        obtain ⟨j, hj, rfl, hC, hZ, hD, hbw⟩ := hrel
        by_cases hjl : j < c.has.length
        · obtain ⟨gg, oo, hA1, hcn⟩ := has_at (h.below hbw).has hjl
          subst hA1
          have hit := inB_take (t := key k) hjl
          have hj0 : (0 : Int) ≤ (j : Int) := by omega
          have hk0 : (0 : Int) ≤ (k : Int) := by omega
          have hj1 : (j : Int) < (c.has.length : Int) := by omega
          have d0 := dCells_at hD hlt
          rw [tw_at] at d0
          have z0 := hD.frozen k
          have HM : ∀ b, b = inB (c.has.take (j + 1)) (key k) → Hid (Blk (wr.setCell ⟨w.heap.size + 2, k, none⟩ (.bool b)) w.heap.size 24 (clCells c (.slice (some ⟨gg, oo, none⟩) c.has.length k1) (.slice A2 c.for_.length k2) (.slice A3 c.may_.length k3)) ∧ Blk (wr.setCell ⟨w.heap.size + 2, k, none⟩ (.bool b)) (w.heap.size + 1) 70 zCells ∧ Blk (wr.setCell ⟨w.heap.size + 2, k, none⟩ (.bool b)) (w.heap.size + 2) 70 (dCells (tw c k (j + 1)) c (.slice A2 c.for_.length k2) (.slice A3 c.may_.length k3)) ∧ Below w.heap.size w (wr.setCell ⟨w.heap.size + 2, k, none⟩ (.bool b))) := fun b hb => Lib.hid (by
            refine ⟨hC.far (by show w.heap.size ≠ w.heap.size + 2; omega) _, hZ.far (by show w.heap.size + 1 ≠ w.heap.size + 2; omega) _, ?_, hbw.setCell (by show w.heap.size ≤ w.heap.size + 2; omega) _⟩
            have := hD.put k (.bool b)
            rw [dCells_put _ c _ _ hlt, dCells_ext (fun i _ => tw_put hb)] at this
            exact this)
          have Hit := Lib.hid hit
          clear hit
          generalize c.has[j] = x at *
          cases hb : inB (c.has.take j) (key k) with
          | true =>
            have hJ := HM true (by rw [Hit.out, hb]; rfl)
            rw [hb] at d0
            clear hb HM
            go_wp2
            go_roundw
            case rel => exact ⟨j + 1, by omega, by go_num, hJ.out⟩
            case measure => simp [intOf]; omega
          | false =>
            rw [hb] at d0
            by_cases hx : x = key k
            · have hJ := HM true (by rw [Hit.out, hb]; simp [hx])
              have he : (x == key k) = true := by simpa using hx
              clear hb HM hx
              go_wp2
              go_roundw
              case rel => exact ⟨j + 1, by omega, by go_num, hJ.out⟩
              case measure => simp [intOf]; omega
            · have hJ := HM false (by rw [Hit.out, hb]; simp [hx])
              have he : (x == key k) = false := by simpa using hx
              clear hb HM hx
              go_wp2
              go_roundw
              case rel => exact ⟨j + 1, by omega, by go_num, hJ.out⟩
              case measure => simp [intOf]; omega
        · obtain rfl : j = c.has.length := by omega
          rw [dCells_ext (fun i _ => tw_next)] at hD
          go_wp2
          go_roundw
          case rel => exact ⟨k + 1, by omega, by go_num, hC, hZ, hD, hbw⟩
          case measure => simp [intOf]; omega
    · obtain rfl : k = 8 := by omega
      rw [dCells_ext (fun i hi => tw_end hi)] at hD
      have HB : ∀ W, (Blk W w.heap.size 24 (clCells c (.slice A1 c.has.length k1) (.slice A2 c.for_.length k2) (.slice A3 c.may_.length k3)) ∧ Blk W (w.heap.size + 2) 70 (dCells (is c) c (.slice A2 c.for_.length k2) (.slice A3 c.may_.length k3)) ∧ Below w.heap.size w W) → Calls Tryz.prog 63 #[.agg (dCells (is c) c (.slice A2 c.for_.length k2) (.slice A3 c.may_.length k3)), .slice A1 c.has.length k1] W fun e w' => e = .returned (.bool (mayB c)) ∧ Below W.heap.size W w' := fun W hW => by
        refine (refBe_any (is c) c (.slice A1 c.has.length k1) (.slice A2 c.for_.length k2) (.slice A3 c.may_.length k3) W (h.below hW.2.2)).mono ?_
        rintro e w' ⟨rfl, hb⟩
        exact ⟨by rw [mayB_beB], hb⟩
      have G := Lib.hid HB
      clear HB
      have hld : ∀ W, Blk W (w.heap.size + 2) 70 (dCells (is c) c (.slice A2 c.for_.length k2) (.slice A3 c.may_.length k3)) → (loadVar 70 ⟨w.heap.size + 2, 0, none⟩).run Tryz.prog W = .ok (.agg (dCells (is c) c (.slice A2 c.for_.length k2) (.slice A3 c.may_.length k3))) W := fun W hW => run_loadVar_row W _ 70 70 _ (0, 0) _ hW Tryz.underlying70 rfl (by kernel_rfl)
      go_wp2_with fail
      refine wp_region_noPanic ?_
      refine wp_region_held (S := fun W => Blk W w.heap.size 24 (clCells c (.slice A1 c.has.length k1) (.slice A2 c.for_.length k2) (.slice A3 c.may_.length k3)) ∧ Blk W (w.heap.size + 2) 70 (dCells (is c) c (.slice A2 c.for_.length k2) (.slice A3 c.may_.length k3)) ∧ Below w.heap.size w W) (by kernel_rfl) ?_
      have hS0 : (fun W => Blk W w.heap.size 24 (clCells c (.slice A1 c.has.length k1) (.slice A2 c.for_.length k2) (.slice A3 c.may_.length k3)) ∧ Blk W (w.heap.size + 2) 70 (dCells (is c) c (.slice A2 c.for_.length k2) (.slice A3 c.may_.length k3)) ∧ Below w.heap.size w W) { wr with drawn := wr.drawn + 1 } := ⟨hC.drew, hD.drew, hbw.drew⟩
      refine wpAnyH_take (i := 0) (v := .agg (dCells (is c) c (.slice A2 c.for_.length k2) (.slice A3 c.may_.length k3))) rfl (by kernel_rfl) (by kernel_rfl) (by kernel_rfl) (fun _ _ _ h => h.elim) (.inl ⟨rfl, fun W hW => ?_⟩) hS0 ?_
      · have hl := hld W hW.2.1
        simp [execOp, Act.eval, Instr.loadAt, Instr.sureAddr, hl]
      refine wpAnyH_take (i := 1) (v := .agg (dCells (is c) c (.slice A2 c.for_.length k2) (.slice A3 c.may_.length k3))) rfl (by kernel_rfl) (by kernel_rfl) (by kernel_rfl) (fun _ _ _ h => h.elim) (.inl ⟨rfl, fun W hW => ?_⟩) hS0 ?_
      · have hl := hld W hW.2.1
        simp [execOp, Act.eval, Instr.loadAt, Instr.sureAddr, hl, Act.put]
      refine wpAnyH_take (i := 2) (v := .pointer (some ⟨w.heap.size, 0, none⟩)) rfl (by kernel_rfl) (by kernel_rfl) (by kernel_rfl) (fun _ _ _ h => h.elim) (.inl ⟨rfl, fun W hW => ?_⟩) hS0 ?_
      · simp [execOp, Act.eval, Act.put, go_sem]
      refine wpAnyH_take (i := 3) (v := .slice A1 c.has.length k1) rfl (by kernel_rfl) (by kernel_rfl) (by kernel_rfl) (fun _ _ _ h => h.elim) (.inl ⟨rfl, fun W hW => ?_⟩) hS0 ?_
      · have hl : W.cell? ⟨w.heap.size, 0, none⟩ = some (.slice A1 c.has.length k1) := hW.1.cell 0
        simp [execOp, Act.eval, Act.put, go_sem, hl]
      refine wpAnyH_all (rs := [4]) (by kernel_rfl) (by decide) (fun i hi => ?_)
      obtain rfl : i = 4 := by simpa using hi
      refine wpOp_step rfl ?_
      intro K' hK'
      go_simp
      refine (G.out _ hS0).mono ?_
      rintro e w9 ⟨rfl, hb9⟩
      have hC9 := hC.drew.below hb9 hCl
      have hD9 := hD.drew.below hb9 hDl
      have hZ9 := hZ.drew.below hb9 hZl
      have hbw9 := below_chain hbw.drew hbw.size hb9
      refine hK' _ _ ⟨⟨hC9, hD9, hbw9⟩, ?_⟩
      clear hK' K'
      refine wpAnyH_all (rs := [5]) (by kernel_rfl) (by decide) (fun i hi => ?_)
      obtain rfl : i = 5 := by simpa using hi
      refine wpOp_step rfl ?_
      intro K' hK'
      have hst := run_storeVar_row (P := Tryz.prog) w9 (w.heap.size + 1) 70 70 zCells (dCells (is c) c (.slice A2 c.for_.length k2) (.slice A3 c.may_.length k3)) hZ9 rfl (by simp [dCells, Value.oneCell']) (by kernel_rfl)
      have hCz := putCells_far (g := w.heap.size + 1) (by omega) (dCells (is c) c (.slice A2 c.for_.length k2) (.slice A3 c.may_.length k3)).toList w9 0 _ _ hC9
      have hDz := putCells_far (g := w.heap.size + 1) (by omega) (dCells (is c) c (.slice A2 c.for_.length k2) (.slice A3 c.may_.length k3)).toList w9 0 _ _ hD9
      have hbz := putCells_below (B := w.heap.size) (g := w.heap.size + 1) (by omega) (dCells (is c) c (.slice A2 c.for_.length k2) (.slice A3 c.may_.length k3)).toList w w9 0 hbw9
      have hZz : Blk (putCells w9 (w.heap.size + 1) (dCells (is c) c (.slice A2 c.for_.length k2) (.slice A3 c.may_.length k3)).toList 0) (w.heap.size + 1) 70 (dCells (is c) c (.slice A2 c.for_.length k2) (.slice A3 c.may_.length k3)) := by
        have := putCells_blk (dCells (is c) c (.slice A2 c.for_.length k2) (.slice A3 c.may_.length k3)).toList w9 0 _ hZ9
        rwa [putList_all (ds := (dCells (is c) c (.slice A2 c.for_.length k2) (.slice A3 c.may_.length k3))) (cs := zCells) rfl] at this
      split
      rotate_left
      · rename_i hno
        exact absurd rfl hno
      rename_i hyes
      clear hyes
      unfold Oper.wp
      simp [execOp, Act.eval, Instr.storeAt, Instr.sureAddr, hst]
      simp only [Oper.upon]
      refine hK' _ _ ⟨⟨hCz, hDz, hbz⟩, ?_⟩
      clear hK' K' hst
      generalize putCells w9 (w.heap.size + 1) (dCells (is c) c (.slice A2 c.for_.length k2) (.slice A3 c.may_.length k3)).toList 0 = wz at *
      refine wpAnyH_all (rs := [6]) (by kernel_rfl) (by decide) (fun i hi => ?_)
      obtain rfl : i = 6 := by simpa using hi
      refine wpOp_step rfl ?_
      intro K' hK'
      go_simp
      refine hK' _ _ ⟨⟨hCz, hDz, hbz⟩, ?_⟩
      refine wpAnyH_done (by kernel_rfl) ?_ _
      refine NoPanic.normal ?_
      go_wp2_with fail
      have hlz := run_loadVar_row (P := Tryz.prog) wz (w.heap.size + 1) 70 70 _ (0, 0) _ hZz Tryz.underlying70 rfl (by kernel_rfl)
      refine bodyPost_ret (v := .tuple #[.agg (dCells (is c) c (.slice A2 c.for_.length k2) (.slice A3 c.may_.length k3)), .bool (mayB c)]) (by simp [results, Tryz.results28, asAddr, hlz]) rfl ⟨rfl, hbz⟩
end Go.Proofs.YtbcckpnngonoeaaGreatDoor

