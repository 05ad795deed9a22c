/-
  Walk of the reference of layer 25: Within (printed by wip/gen_clw.py).
-/
import Derived.Test.YtnondmeafilplaaGreatDoorClVP
import Derived.Test.YtnondmeafilplaaGreatDoorClX
import Derived.Test.YtnondmeafilplaaGreatDoorClSd
import Derived.Deep.RegionHeld3
import Derived.StillTailTactics
import Derived.Deep.AppendLies
namespace Go.Proofs.YtnondmeafilplaaGreatDoor
open Go.RowKit Mem Utf Ref3 Tok Cl
set_option linter.unusedVariables false

namespace Cl
/-- the list of a claim -/
def lstF (c : C) : Nat → List Txt
  | 3 => c.for_
  | 6 => c.may_
  | _ => []
theorem widerB_lst (c o : C) (k : Nat) (h4 : k ≠ 4) (h7 : k ≠ 7) : widerB c o k = !(lackF (lstF o k) [] (lstF c k)).isEmpty := by
  unfold widerB lstF
  split <;> first | rfl | contradiction | skip
  split <;> first | rfl | contradiction
end Cl
theorem lst_rd {w W : World} {c : C} {v1 v2 v3 : Value} (h : ClAt w c v1 v2 v3) (k : Nat) (hb : Below w.heap.size w W) : Rd W (lstOf v2 v3 k) (lstF c k) := by
  have h2 := h.below hb
  unfold lstOf lstF
  split
  · exact h2.for_
  · exact h2.may
  · split <;> first | contradiction | exact ⟨none, 0, rfl, fun j hj => absurd hj (Nat.not_lt_zero _)⟩
theorem lst_len {w : World} {c : C} {v1 v2 v3 : Value} (h : ClAt w c v1 v2 v3) (k : Nat) : (lstF c k).length ≤ 1099511627776 := by
  unfold lstF
  split
  · exact h.nfor
  · exact h.nmay
  · exact Nat.zero_le _

theorem k_yes {k n : Nat} (h : k = n) : ((k : Int) == (n : Int)) = true := by subst h; simp
theorem k_no {k n : Nat} (h : k ≠ n) : ((k : Int) == (n : Int)) = false := by rw [beq_eq_false_iff_ne]; omega
theorem wider4_yes {c o : C} {k : Nat} (h : k = 4) (hx : timOf c k < timOf o k) : widerB c o k = true := by subst h; exact decide_eq_true hx
theorem wider4_no {c o : C} {k : Nat} (h : k = 4) (hx : ¬ timOf c k < timOf o k) : widerB c o k = !(lackF (lstF o k) [] (lstF c k)).isEmpty := by subst h; exact decide_eq_false hx
theorem wider7_yes {c o : C} {k : Nat} (h : k = 7) (hx : timOf o k < timOf c k) : widerB c o k = true := by subst h; exact decide_eq_true hx
theorem wider7_no {c o : C} {k : Nat} (h : k = 7) (hx : ¬ timOf o k < timOf c k) : widerB c o k = !(lackF (lstF o k) [] (lstF c k)).isEmpty := by subst h; exact decide_eq_false hx
/-- a statement that nothing opens -/
structure Shut (p : Prop) : Prop where
  out : p
theorem wanted_no {o : Oper} {ops : Array Oper} {tmps : Array Value} {j : Nat} {b : Bool} (t : Tmp) (hg : o.guard = some (j, b)) (hd : (ops[j]?).bind (·.dst) = some t) (ht : tmps[t]? = some (.bool (!b))) : Region.wanted o (yielded ops tmps) = false := by
  unfold Region.wanted yielded
  simp [hg, hd, ht]
theorem wanted_undef {o : Oper} {ops : Array Oper} {tmps : Array Value} {j : Nat} {b : Bool} (t : Tmp) (hg : o.guard = some (j, b)) (hd : (ops[j]?).bind (·.dst) = some t) (ht : tmps[t]? = some undef) : Region.wanted o (yielded ops tmps) = false := by
  unfold Region.wanted yielded
  simp [hg, hd, ht, undef]
theorem wanted_yes {o : Oper} {ops : Array Oper} {tmps : Array Value} {j : Nat} {b : Bool} (t : Tmp) (hg : o.guard = some (j, b)) (hd : (ops[j]?).bind (·.dst) = some t) (ht : tmps[t]? = some (.bool b)) : Region.wanted o (yielded ops tmps) = true := by
  unfold Region.wanted yielded
  simp [hg, hd, ht]
theorem still_plain {P : Program} {ops : Array Oper} {w : World} {Q : Act → Prop} {a : Act} {o : Oper} {rest : List Oper} (hg : o.guard = none) (h : ∀ K : Act → Prop, (∀ a, Shut (wpStill P ops w Q rest a) → K a) → o.still P a w K) : Shut (wpStill P ops w Q (o :: rest) a) := by
  refine ⟨?_⟩
  unfold wpStill
  rw [if_pos (by simp [Region.wanted, hg])]
  exact h _ (fun _ h => h.out)
theorem still_yes {P : Program} {ops : Array Oper} {w : World} {Q : Act → Prop} {a : Act} {o : Oper} {rest : List Oper} (hg : Region.wanted o (yielded ops a.tmps) = true) (h : ∀ K : Act → Prop, (∀ a, Shut (wpStill P ops w Q rest a) → K a) → o.still P a w K) : Shut (wpStill P ops w Q (o :: rest) a) := by
  refine ⟨?_⟩
  unfold wpStill
  rw [if_pos hg]
  exact h _ (fun _ h => h.out)
theorem still_no {P : Program} {ops : Array Oper} {w : World} {Q : Act → Prop} {a : Act} {o : Oper} {rest : List Oper} (hg : Region.wanted o (yielded ops a.tmps) = false) (h : ∀ K : Act → Prop, (∀ a, Shut (wpStill P ops w Q rest a) → K a) → K (a.put o.dst undef)) : Shut (wpStill P ops w Q (o :: rest) a) := by
  refine ⟨?_⟩
  unfold wpStill
  rw [if_neg (by rw [hg]; decide)]
  exact h _ (fun _ h => h.out)
theorem list_yes {P : Program} {ops : Array Oper} {w : World} {Q : Exit → Act → World → Prop} {a : Act} {o : Oper} {rest : List Oper} (hg : Region.wanted o (yielded ops a.tmps) = true) (h : ∀ K : Act → World → Prop, (∀ a w, wpList P ops Q rest a w → K a w) → o.wp P a w K Q) : wpList P ops Q (o :: rest) a w :=
  wpList_step fun K hK => by
    rw [if_pos hg]
    exact h K hK
theorem list_no {P : Program} {ops : Array Oper} {w : World} {Q : Exit → Act → World → Prop} {a : Act} {o : Oper} {rest : List Oper} (hg : Region.wanted o (yielded ops a.tmps) = false) (h : ∀ K : Act → World → Prop, (∀ a w, wpList P ops Q rest a w → K a w) → K (a.put o.dst undef) w) : wpList P ops Q (o :: rest) a w :=
  wpList_step fun K hK => by
    rw [if_neg (by rw [hg]; decide)]
    exact h K hK
theorem region_still_37 {P : Program} {id : Nat} {Q : Exit → Act → World → Prop} {a : Act} {w : World} {o0 o1 o2 o3 o4 o5 o6 o7 o8 o9 o10 o11 o12 o13 o14 o15 o16 o17 o18 o19 o20 o21 o22 o23 o24 o25 o26 o27 o28 o29 o30 o31 o32 o33 o34 o35 o36 : Oper} {tl : List Oper} (hm : P.follows .mixedOrders = true) (hB : Region.lexTailB .any (o0 :: o1 :: o2 :: o3 :: o4 :: o5 :: o6 :: o7 :: o8 :: o9 :: o10 :: o11 :: o12 :: o13 :: o14 :: o15 :: o16 :: o17 :: o18 :: o19 :: o20 :: o21 :: o22 :: o23 :: o24 :: o25 :: o26 :: o27 :: o28 :: o29 :: o30 :: o31 :: o32 :: o33 :: o34 :: o35 :: o36 :: tl).toArray 37 = true)
    (h0 : Shut (wpStill P (o0 :: o1 :: o2 :: o3 :: o4 :: o5 :: o6 :: o7 :: o8 :: o9 :: o10 :: o11 :: o12 :: o13 :: o14 :: o15 :: o16 :: o17 :: o18 :: o19 :: o20 :: o21 :: o22 :: o23 :: o24 :: o25 :: o26 :: o27 :: o28 :: o29 :: o30 :: o31 :: o32 :: o33 :: o34 :: o35 :: o36 :: tl).toArray w.drew (fun a' => wpList P (o0 :: o1 :: o2 :: o3 :: o4 :: o5 :: o6 :: o7 :: o8 :: o9 :: o10 :: o11 :: o12 :: o13 :: o14 :: o15 :: o16 :: o17 :: o18 :: o19 :: o20 :: o21 :: o22 :: o23 :: o24 :: o25 :: o26 :: o27 :: o28 :: o29 :: o30 :: o31 :: o32 :: o33 :: o34 :: o35 :: o36 :: tl).toArray Q tl a' w.drew) (o0 :: o1 :: o2 :: o3 :: o4 :: o5 :: o6 :: o7 :: o8 :: o9 :: o10 :: o11 :: o12 :: o13 :: o14 :: o15 :: o16 :: o17 :: o18 :: o19 :: o20 :: o21 :: o22 :: o23 :: o24 :: o25 :: o26 :: o27 :: o28 :: o29 :: o30 :: o31 :: o32 :: o33 :: o34 :: o35 :: o36 :: []) a)) : (Code.region id (o0 :: o1 :: o2 :: o3 :: o4 :: o5 :: o6 :: o7 :: o8 :: o9 :: o10 :: o11 :: o12 :: o13 :: o14 :: o15 :: o16 :: o17 :: o18 :: o19 :: o20 :: o21 :: o22 :: o23 :: o24 :: o25 :: o26 :: o27 :: o28 :: o29 :: o30 :: o31 :: o32 :: o33 :: o34 :: o35 :: o36 :: tl).toArray true).wp P Q a w :=
  wp_region_still_tail 37 hm hB h0.out
def WiS (w wr : World) (k : Nat) (tc td : Int) (lc lo : Value) (w' : World) : Prop := w'.cell? ⟨w.heap.size, 16 + k, none⟩ = some (.int .i64 tc) ∧ w'.cell? ⟨w.heap.size + 1, 16 + k, none⟩ = some (.int .i64 td) ∧
  w'.cell? ⟨w.heap.size, 24 + k, none⟩ = some lc ∧ w'.cell? ⟨w.heap.size + 1, 24 + k, none⟩ = some lo ∧ Below w.heap.size w w' ∧ Below wr.heap.size wr w'
theorem info_trail : (Tryz.prog.info? 111).map (fun i => (i.zero, i.size, i.bytes)) = some (some (.agg #[.int .i64 0, .string ⟨#[]⟩]), 2, 24) := by kernel_rfl
/-- the cells of an error of the document's -/
def trCells (l : List (Int × Txt)) : List Value := l.flatMap fun x => [.int .i64 x.1, .string ⟨x.2.toArray⟩]
theorem trCells_snoc (l : List (Int × Txt)) (n : Int) (p : Txt) : trCells (l ++ [(n, p)]) = trCells l ++ [.int .i64 n, .string ⟨p.toArray⟩] := by
  unfold trCells
  rw [List.flatMap_append]
  simp

set_option maxRecDepth 100000 in
set_option maxHeartbeats 16000000 in
theorem refWithin_any (c o : C) (v1 v2 v3 y1 y2 y3 : Value) (w : World) (h : ClAt w c v1 v2 v3) (ho : ClAt w o y1 y2 y3) :
    Calls Tryz.prog 17 #[.agg (dCells (is c) c v2 v3), .agg (dCells (is o) o y2 y3)] w fun e w' => (∃ v, e = .returned v ∧ w'.ownsRow w.heap.size 111 2 v (badL c o).length (trCells (badL c o))) ∧ Below w.heap.size w w' := by
  have hq : ∀ (w : World) o, (w.alloc o).heap.size = w.heap.size + 1 := fun w o => by simp
  obtain ⟨i0, hi0, hz0, hz1, hz2⟩ := info_parts info_trail
  have hb0 : ∀ cs ds, Below w.heap.size w ((w.alloc (.cells cs 40)).alloc (.cells ds 40)) := fun cs ds => ((Below.refl _ _).alloc (Nat.le_refl _) _).alloc (by simp) _
  have hC0 := (Blk.new w 40 (dCells (is c) c v2 v3)).alloc (.cells (dCells (is o) o y2 y3) 40)
  have hO0 := Blk.new (w.alloc (.cells (dCells (is c) c v2 v3) 40)) 40 (dCells (is o) o y2 y3)
  rw [hq] at hO0
  have hbz := hb0 (dCells (is c) c v2 v3) (dCells (is o) o y2 y3)
  clear hb0
  go_enter Tryz.func17, Tryz.ntmps17
  go_wp2_with fail
  refine (refKeys_any _).mono ?_
  rintro e w1 ⟨rfl, hb1⟩
  have hC1 := (hC0.below hb1 (by rw [hq, hq]; omega)).alloc (.cells keyCells 36)
  have hO1 := (hO0.below hb1 (by rw [hq, hq]; omega)).alloc (.cells keyCells 36)
  have hK1 := Blk.new w1 36 keyCells
  have hbw1' := below_chain hbz (by rw [hq, hq]; omega) hb1
  have hg1 : w.heap.size + 2 ≤ w1.heap.size := by have := hb1.size; rw [hq, hq] at this; omega
  have hbw1 := hbw1'.alloc hbw1'.size (.cells keyCells 36)
  have hsz1 : w1.heap.size + 1 ≤ (w1.alloc (.cells keyCells 36)).heap.size := by rw [hq]; omega
  clear hC0 hO0 hbz hb1 hbw1'
  unfold keyCells at *
  go_wp2_with fail
  generalize w1.heap.size = gK at *
  go_loopw [5, 7] (fun c5 c7 wr => ∃ k : Nat, k ≤ 8 ∧ c7 = .int .i64 k ∧ wr.ownsRow (gK + 1) 111 2 c5 (badsF c o ((List.range k).filter (is o))).length (trCells (badsF c o ((List.range k).filter (is o)))) ∧ Blk wr w.heap.size 40 (dCells (is c) c v2 v3) ∧ Blk wr (w.heap.size + 1) 40 (dCells (is o) o y2 y3) ∧ Blk wr gK 36 keyCells ∧ Below w.heap.size w wr) (fun _ c7 _ => 8 - (intOf c7).toNat)
  case atStart => exact ⟨0, by omega, rfl, World.ownsRow_nil _ _ _ _, hC1, hO1, hK1, hbw1⟩
  case round =>
    clear hC1 hO1 hK1 hbw1 hsz1
    obtain ⟨k, hk, rfl, hown, hC, hO, hK, hbw⟩ := hrel
    have hCl := hC.lt
    have hOl := hO.lt
    have hKl := hK.lt
    have hq8 : (badsF c o ((List.range k).filter (is o))).length ≤ 8 := by
      have h1 := badsF_len c o ((List.range k).filter (is o))
      have h2 := List.length_filter_le (is o) (List.range k)
      rw [List.length_range] at h2
      omega
    by_cases hlt : k < 8
    · have hk0 : (0 : Int) ≤ (k : Int) := by omega
      have hk1 : (k : Int) < 8 := by omega
      have hks := keys_succ o k
      have hol := dCells_at hO hlt
      have hcl := dCells_at hC hlt
      obtain ⟨A5, q5, e5⟩ := own_slice hown
      subst e5
      cases hi : is o k with
      | false =>
        rw [hi, if_neg (by decide), List.append_nil] at hks
        have HKS := Lib.hid hks
        rw [hi] at hol
        clear hks hi
        go_wp2
        go_roundw
        case rel => exact ⟨k + 1, by omega, by go_num, by rw [HKS.out]; exact hown, hC, hO, hK, hbw⟩
        case measure => simp [intOf]; omega
      | true =>
        rw [hi, if_pos rfl] at hks
        have hbs := badsF_snoc c o ((List.range k).filter (is o)) k
        rw [← hks] at hbs
        have HBS := Lib.hid hbs
        rw [hi] at hol
        clear hks hi hbs
        generalize badsF c o ((List.range k).filter (is o)) = q at *
        have hkz := key_len hlt
        go_upto_region 7 with fail
        go_cut [8] (fun c8 wx => c8 = .bool (widerB c o k) ∧ Below w.heap.size w wx ∧ Below wr.heap.size wr wx)
        case first =>
          have HLC := Lib.hid (fun W hW => lst_rd h k (W := W) hW)
          have HLO := Lib.hid (fun W hW => lst_rd ho k (W := W) hW)
          have HNC := Lib.hid (lst_len h k)
          have HND := Lib.hid (lst_len ho k)
          obtain ⟨L1, q1, g1, _⟩ := HLC.out w (Below.refl _ _)
          obtain ⟨L2, q2, g2, _⟩ := HLO.out w (Below.refl _ _)
          have l1 := dCells_lst hC hlt
          have l2 := dCells_lst hO hlt
          have t1 := dCells_tim hC hlt
          have t2 := dCells_tim hO hlt
          rw [g1] at l1 HLC
          rw [g2] at l2 HLO
          have HLE : Hid (decide (0 < (lackF (lstF o k) [] (lstF c k)).length) = !(lackF (lstF o k) [] (lstF c k)).isEmpty) := Lib.hid (by cases lackF (lstF o k) [] (lstF c k) <;> simp)
          have hbd := hbw.drew
          have hbe := (Below.refl wr.heap.size wr).drew
          clear hC hO hown hcl hol hK g1 g2
          by_cases h4 : k = 4
          · have b4 : ((k : Int) == 4) = true := k_yes h4
            have b7 : ((k : Int) == 7) = false := k_no (by rw [h4]; decide)
            by_cases hx : timOf c k < timOf o k
            · have HWD : Hid (widerB c o k = true) := Lib.hid (wider4_yes h4 hx)
              clear h4
              refine region_still_37 (by kernel_rfl) (by kernel_rfl) ?_
              refine still_plain rfl (fun K hK => ?_)
              go_simp
              apply hK
              clear hK K
              refine still_plain rfl (fun K hK => ?_)
              go_simp
              apply hK
              clear hK K
              refine still_plain rfl (fun K hK => ?_)
              go_simp
              apply hK
              clear hK K
              refine still_yes (wanted_yes 21 rfl (by kernel_rfl) (by simp)) (fun K hK => ?_)
              go_simp
              apply hK
              clear hK K
              refine still_yes (wanted_yes 21 rfl (by kernel_rfl) (by simp)) (fun K hK => ?_)
              go_simp
              apply hK
              clear hK K
              refine still_yes (wanted_yes 21 rfl (by kernel_rfl) (by simp)) (fun K hK => ?_)
              go_simp
              apply hK
              clear hK K
              refine still_yes (wanted_yes 21 rfl (by kernel_rfl) (by simp)) (fun K hK => ?_)
              go_simp
              apply hK
              clear hK K
              refine still_yes (wanted_yes 21 rfl (by kernel_rfl) (by simp)) (fun K hK => ?_)
              go_simp
              apply hK
              clear hK K
              refine still_yes (wanted_yes 21 rfl (by kernel_rfl) (by simp)) (fun K hK => ?_)
              go_simp
              apply hK
              clear hK K
              refine still_yes (wanted_yes 21 rfl (by kernel_rfl) (by simp)) (fun K hK => ?_)
              go_simp
              apply hK
              clear hK K
              refine still_yes (wanted_yes 21 rfl (by kernel_rfl) (by simp)) (fun K hK => ?_)
              go_simp
              apply hK
              clear hK K
              refine still_yes (wanted_yes 21 rfl (by kernel_rfl) (by simp)) (fun K hK => ?_)
              go_simp
              apply hK
              clear hK K
              refine still_plain rfl (fun K hK => ?_)
              go_simp
              apply hK
              clear hK K
              refine still_plain rfl (fun K hK => ?_)
              go_simp
              apply hK
              clear hK K
              refine still_no (wanted_no 32 rfl (by kernel_rfl) (by simp)) (fun K hK => ?_)
              go_simp
              apply hK
              clear hK K
              refine still_no (wanted_no 32 rfl (by kernel_rfl) (by simp)) (fun K hK => ?_)
              go_simp
              apply hK
              clear hK K
              refine still_no (wanted_no 32 rfl (by kernel_rfl) (by simp)) (fun K hK => ?_)
              go_simp
              apply hK
              clear hK K
              refine still_no (wanted_undef 35 rfl (by kernel_rfl) (by simp)) (fun K hK => ?_)
              go_simp
              apply hK
              clear hK K
              refine still_no (wanted_undef 35 rfl (by kernel_rfl) (by simp)) (fun K hK => ?_)
              go_simp
              apply hK
              clear hK K
              refine still_no (wanted_undef 35 rfl (by kernel_rfl) (by simp)) (fun K hK => ?_)
              go_simp
              apply hK
              clear hK K
              refine still_no (wanted_undef 35 rfl (by kernel_rfl) (by simp)) (fun K hK => ?_)
              go_simp
              apply hK
              clear hK K
              refine still_no (wanted_undef 35 rfl (by kernel_rfl) (by simp)) (fun K hK => ?_)
              go_simp
              apply hK
              clear hK K
              refine still_no (wanted_undef 35 rfl (by kernel_rfl) (by simp)) (fun K hK => ?_)
              go_simp
              apply hK
              clear hK K
              refine still_no (wanted_undef 35 rfl (by kernel_rfl) (by simp)) (fun K hK => ?_)
              go_simp
              apply hK
              clear hK K
              refine still_no (wanted_undef 35 rfl (by kernel_rfl) (by simp)) (fun K hK => ?_)
              go_simp
              apply hK
              clear hK K
              refine still_no (wanted_undef 35 rfl (by kernel_rfl) (by simp)) (fun K hK => ?_)
              go_simp
              apply hK
              clear hK K
              refine still_no (wanted_no 32 rfl (by kernel_rfl) (by simp)) (fun K hK => ?_)
              go_simp
              apply hK
              clear hK K
              refine still_plain rfl (fun K hK => ?_)
              go_simp
              apply hK
              clear hK K
              refine still_plain rfl (fun K hK => ?_)
              go_simp
              apply hK
              clear hK K
              refine still_no (wanted_no 47 rfl (by kernel_rfl) (by simp)) (fun K hK => ?_)
              go_simp
              apply hK
              clear hK K
              refine still_no (wanted_no 47 rfl (by kernel_rfl) (by simp)) (fun K hK => ?_)
              go_simp
              apply hK
              clear hK K
              refine still_no (wanted_no 47 rfl (by kernel_rfl) (by simp)) (fun K hK => ?_)
              go_simp
              apply hK
              clear hK K
              refine still_no (wanted_no 47 rfl (by kernel_rfl) (by simp)) (fun K hK => ?_)
              go_simp
              apply hK
              clear hK K
              refine still_no (wanted_no 47 rfl (by kernel_rfl) (by simp)) (fun K hK => ?_)
              go_simp
              apply hK
              clear hK K
              refine still_no (wanted_no 47 rfl (by kernel_rfl) (by simp)) (fun K hK => ?_)
              go_simp
              apply hK
              clear hK K
              refine still_no (wanted_no 47 rfl (by kernel_rfl) (by simp)) (fun K hK => ?_)
              go_simp
              apply hK
              clear hK K
              refine still_no (wanted_no 47 rfl (by kernel_rfl) (by simp)) (fun K hK => ?_)
              go_simp
              apply hK
              clear hK K
              refine ⟨wpStill_nil ?_⟩
              refine list_no (wanted_no 47 rfl (by kernel_rfl) (by simp)) (fun K hK => ?_)
              go_simp
              apply hK
              clear hK K
              refine list_no (wanted_no 47 rfl (by kernel_rfl) (by simp)) (fun K hK => ?_)
              go_simp
              apply hK
              clear hK K
              refine list_no (wanted_no 47 rfl (by kernel_rfl) (by simp)) (fun K hK => ?_)
              go_simp
              apply hK
              clear hK K
              go_wp2_with fail
              go_meet
              exact ⟨by rw [HWD.out], hbd, hbe⟩
            · have HWD : Hid (widerB c o k = !(lackF (lstF o k) [] (lstF c k)).isEmpty) := Lib.hid (wider4_no h4 hx)
              clear h4
              refine region_still_37 (by kernel_rfl) (by kernel_rfl) ?_
              refine still_plain rfl (fun K hK => ?_)
              go_simp
              apply hK
              clear hK K
              refine still_plain rfl (fun K hK => ?_)
              go_simp
              apply hK
              clear hK K
              refine still_plain rfl (fun K hK => ?_)
              go_simp
              apply hK
              clear hK K
              refine still_yes (wanted_yes 21 rfl (by kernel_rfl) (by simp)) (fun K hK => ?_)
              go_simp
              apply hK
              clear hK K
              refine still_yes (wanted_yes 21 rfl (by kernel_rfl) (by simp)) (fun K hK => ?_)
              go_simp
              apply hK
              clear hK K
              refine still_yes (wanted_yes 21 rfl (by kernel_rfl) (by simp)) (fun K hK => ?_)
              go_simp
              apply hK
              clear hK K
              refine still_yes (wanted_yes 21 rfl (by kernel_rfl) (by simp)) (fun K hK => ?_)
              go_simp
              apply hK
              clear hK K
              refine still_yes (wanted_yes 21 rfl (by kernel_rfl) (by simp)) (fun K hK => ?_)
              go_simp
              apply hK
              clear hK K
              refine still_yes (wanted_yes 21 rfl (by kernel_rfl) (by simp)) (fun K hK => ?_)
              go_simp
              apply hK
              clear hK K
              refine still_yes (wanted_yes 21 rfl (by kernel_rfl) (by simp)) (fun K hK => ?_)
              go_simp
              apply hK
              clear hK K
              refine still_yes (wanted_yes 21 rfl (by kernel_rfl) (by simp)) (fun K hK => ?_)
              go_simp
              apply hK
              clear hK K
              refine still_yes (wanted_yes 21 rfl (by kernel_rfl) (by simp)) (fun K hK => ?_)
              go_simp
              apply hK
              clear hK K
              refine still_plain rfl (fun K hK => ?_)
              go_simp
              apply hK
              clear hK K
              refine still_plain rfl (fun K hK => ?_)
              go_simp
              apply hK
              clear hK K
              refine still_yes (wanted_yes 32 rfl (by kernel_rfl) (by simp)) (fun K hK => ?_)
              go_simp
              apply hK
              clear hK K
              refine still_yes (wanted_yes 32 rfl (by kernel_rfl) (by simp)) (fun K hK => ?_)
              go_simp
              apply hK
              clear hK K
              refine still_yes (wanted_yes 32 rfl (by kernel_rfl) (by simp)) (fun K hK => ?_)
              go_simp
              apply hK
              clear hK K
              refine still_no (wanted_no 35 rfl (by kernel_rfl) (by simp)) (fun K hK => ?_)
              go_simp
              apply hK
              clear hK K
              refine still_no (wanted_no 35 rfl (by kernel_rfl) (by simp)) (fun K hK => ?_)
              go_simp
              apply hK
              clear hK K
              refine still_no (wanted_no 35 rfl (by kernel_rfl) (by simp)) (fun K hK => ?_)
              go_simp
              apply hK
              clear hK K
              refine still_no (wanted_no 35 rfl (by kernel_rfl) (by simp)) (fun K hK => ?_)
              go_simp
              apply hK
              clear hK K
              refine still_no (wanted_no 35 rfl (by kernel_rfl) (by simp)) (fun K hK => ?_)
              go_simp
              apply hK
              clear hK K
              refine still_no (wanted_no 35 rfl (by kernel_rfl) (by simp)) (fun K hK => ?_)
              go_simp
              apply hK
              clear hK K
              refine still_no (wanted_no 35 rfl (by kernel_rfl) (by simp)) (fun K hK => ?_)
              go_simp
              apply hK
              clear hK K
              refine still_no (wanted_no 35 rfl (by kernel_rfl) (by simp)) (fun K hK => ?_)
              go_simp
              apply hK
              clear hK K
              refine still_no (wanted_no 35 rfl (by kernel_rfl) (by simp)) (fun K hK => ?_)
              go_simp
              apply hK
              clear hK K
              refine still_yes (wanted_yes 32 rfl (by kernel_rfl) (by simp)) (fun K hK => ?_)
              go_simp
              apply hK
              clear hK K
              refine still_plain rfl (fun K hK => ?_)
              go_simp
              apply hK
              clear hK K
              refine still_plain rfl (fun K hK => ?_)
              go_simp
              apply hK
              clear hK K
              refine still_yes (wanted_yes 47 rfl (by kernel_rfl) (by simp)) (fun K hK => ?_)
              go_simp
              apply hK
              clear hK K
              refine still_yes (wanted_yes 47 rfl (by kernel_rfl) (by simp)) (fun K hK => ?_)
              go_simp
              apply hK
              clear hK K
              refine still_yes (wanted_yes 47 rfl (by kernel_rfl) (by simp)) (fun K hK => ?_)
              go_simp
              apply hK
              clear hK K
              refine still_yes (wanted_yes 47 rfl (by kernel_rfl) (by simp)) (fun K hK => ?_)
              go_simp
              apply hK
              clear hK K
              refine still_yes (wanted_yes 47 rfl (by kernel_rfl) (by simp)) (fun K hK => ?_)
              go_simp
              apply hK
              clear hK K
              refine still_yes (wanted_yes 47 rfl (by kernel_rfl) (by simp)) (fun K hK => ?_)
              go_simp
              apply hK
              clear hK K
              refine still_yes (wanted_yes 47 rfl (by kernel_rfl) (by simp)) (fun K hK => ?_)
              go_simp
              apply hK
              clear hK K
              refine still_yes (wanted_yes 47 rfl (by kernel_rfl) (by simp)) (fun K hK => ?_)
              go_simp
              apply hK
              clear hK K
              refine ⟨wpStill_nil ?_⟩
              refine list_yes (wanted_yes 47 rfl (by kernel_rfl) (by simp)) (fun K hK => ?_)
              go_simp
              refine (refLacking_any _ _ (lstF c k) (lstF o k) _ (HLC.out _ hbd) (HLO.out _ hbd) HNC.out HND.out).mono ?_
              rintro e w9 ⟨⟨y, rfl, hown⟩, hb9⟩
              obtain ⟨A9, c9, rfl⟩ := own_slice hown
              clear hown
              apply hK
              clear hK K
              have hb9a := below_chain hbd hbd.size hb9
              have hb9b := below_chain hbe hbe.size hb9
              have hle := HLE.out
              refine list_yes (wanted_yes 47 rfl (by kernel_rfl) (by simp)) (fun K hK => ?_)
              go_simp
              apply hK
              clear hK K
              refine list_yes (wanted_yes 47 rfl (by kernel_rfl) (by simp)) (fun K hK => ?_)
              go_simp
              apply hK
              clear hK K
              clear hle
              go_wp2_with fail
              go_meet
              exact ⟨by rw [HWD.out], hb9a, hb9b⟩
          · by_cases h7 : k = 7
            · have b4 : ((k : Int) == 4) = false := k_no h4
              have b7 : ((k : Int) == 7) = true := k_yes h7
              by_cases hx : timOf o k < timOf c k
              · have HWD : Hid (widerB c o k = true) := Lib.hid (wider7_yes h7 hx)
                clear h4 h7
                refine region_still_37 (by kernel_rfl) (by kernel_rfl) ?_
                refine still_plain rfl (fun K hK => ?_)
                go_simp
                apply hK
                clear hK K
                refine still_plain rfl (fun K hK => ?_)
                go_simp
                apply hK
                clear hK K
                refine still_plain rfl (fun K hK => ?_)
                go_simp
                apply hK
                clear hK K
                refine still_no (wanted_no 21 rfl (by kernel_rfl) (by simp)) (fun K hK => ?_)
                go_simp
                apply hK
                clear hK K
                refine still_no (wanted_no 21 rfl (by kernel_rfl) (by simp)) (fun K hK => ?_)
                go_simp
                apply hK
                clear hK K
                refine still_no (wanted_no 21 rfl (by kernel_rfl) (by simp)) (fun K hK => ?_)
                go_simp
                apply hK
                clear hK K
                refine still_no (wanted_no 21 rfl (by kernel_rfl) (by simp)) (fun K hK => ?_)
                go_simp
                apply hK
                clear hK K
                refine still_no (wanted_no 21 rfl (by kernel_rfl) (by simp)) (fun K hK => ?_)
                go_simp
                apply hK
                clear hK K
                refine still_no (wanted_no 21 rfl (by kernel_rfl) (by simp)) (fun K hK => ?_)
                go_simp
                apply hK
                clear hK K
                refine still_no (wanted_no 21 rfl (by kernel_rfl) (by simp)) (fun K hK => ?_)
                go_simp
                apply hK
                clear hK K
                refine still_no (wanted_no 21 rfl (by kernel_rfl) (by simp)) (fun K hK => ?_)
                go_simp
                apply hK
                clear hK K
                refine still_no (wanted_no 21 rfl (by kernel_rfl) (by simp)) (fun K hK => ?_)
                go_simp
                apply hK
                clear hK K
                refine still_plain rfl (fun K hK => ?_)
                go_simp
                apply hK
                clear hK K
                refine still_plain rfl (fun K hK => ?_)
                go_simp
                apply hK
                clear hK K
                refine still_yes (wanted_yes 32 rfl (by kernel_rfl) (by simp)) (fun K hK => ?_)
                go_simp
                apply hK
                clear hK K
                refine still_yes (wanted_yes 32 rfl (by kernel_rfl) (by simp)) (fun K hK => ?_)
                go_simp
                apply hK
                clear hK K
                refine still_yes (wanted_yes 32 rfl (by kernel_rfl) (by simp)) (fun K hK => ?_)
                go_simp
                apply hK
                clear hK K
                refine still_yes (wanted_yes 35 rfl (by kernel_rfl) (by simp)) (fun K hK => ?_)
                go_simp
                apply hK
                clear hK K
                refine still_yes (wanted_yes 35 rfl (by kernel_rfl) (by simp)) (fun K hK => ?_)
                go_simp
                apply hK
                clear hK K
                refine still_yes (wanted_yes 35 rfl (by kernel_rfl) (by simp)) (fun K hK => ?_)
                go_simp
                apply hK
                clear hK K
                refine still_yes (wanted_yes 35 rfl (by kernel_rfl) (by simp)) (fun K hK => ?_)
                go_simp
                apply hK
                clear hK K
                refine still_yes (wanted_yes 35 rfl (by kernel_rfl) (by simp)) (fun K hK => ?_)
                go_simp
                apply hK
                clear hK K
                refine still_yes (wanted_yes 35 rfl (by kernel_rfl) (by simp)) (fun K hK => ?_)
                go_simp
                apply hK
                clear hK K
                refine still_yes (wanted_yes 35 rfl (by kernel_rfl) (by simp)) (fun K hK => ?_)
                go_simp
                apply hK
                clear hK K
                refine still_yes (wanted_yes 35 rfl (by kernel_rfl) (by simp)) (fun K hK => ?_)
                go_simp
                apply hK
                clear hK K
                refine still_yes (wanted_yes 35 rfl (by kernel_rfl) (by simp)) (fun K hK => ?_)
                go_simp
                apply hK
                clear hK K
                refine still_yes (wanted_yes 32 rfl (by kernel_rfl) (by simp)) (fun K hK => ?_)
                go_simp
                apply hK
                clear hK K
                refine still_plain rfl (fun K hK => ?_)
                go_simp
                apply hK
                clear hK K
                refine still_plain rfl (fun K hK => ?_)
                go_simp
                apply hK
                clear hK K
                refine still_no (wanted_no 47 rfl (by kernel_rfl) (by simp)) (fun K hK => ?_)
                go_simp
                apply hK
                clear hK K
                refine still_no (wanted_no 47 rfl (by kernel_rfl) (by simp)) (fun K hK => ?_)
                go_simp
                apply hK
                clear hK K
                refine still_no (wanted_no 47 rfl (by kernel_rfl) (by simp)) (fun K hK => ?_)
                go_simp
                apply hK
                clear hK K
                refine still_no (wanted_no 47 rfl (by kernel_rfl) (by simp)) (fun K hK => ?_)
                go_simp
                apply hK
                clear hK K
                refine still_no (wanted_no 47 rfl (by kernel_rfl) (by simp)) (fun K hK => ?_)
                go_simp
                apply hK
                clear hK K
                refine still_no (wanted_no 47 rfl (by kernel_rfl) (by simp)) (fun K hK => ?_)
                go_simp
                apply hK
                clear hK K
                refine still_no (wanted_no 47 rfl (by kernel_rfl) (by simp)) (fun K hK => ?_)
                go_simp
                apply hK
                clear hK K
                refine still_no (wanted_no 47 rfl (by kernel_rfl) (by simp)) (fun K hK => ?_)
                go_simp
                apply hK
                clear hK K
                refine ⟨wpStill_nil ?_⟩
                refine list_no (wanted_no 47 rfl (by kernel_rfl) (by simp)) (fun K hK => ?_)
                go_simp
                apply hK
                clear hK K
                refine list_no (wanted_no 47 rfl (by kernel_rfl) (by simp)) (fun K hK => ?_)
                go_simp
                apply hK
                clear hK K
                refine list_no (wanted_no 47 rfl (by kernel_rfl) (by simp)) (fun K hK => ?_)
                go_simp
                apply hK
                clear hK K
                go_wp2_with fail
                go_meet
                exact ⟨by rw [HWD.out], hbd, hbe⟩
              · have HWD : Hid (widerB c o k = !(lackF (lstF o k) [] (lstF c k)).isEmpty) := Lib.hid (wider7_no h7 hx)
                clear h4 h7
                refine region_still_37 (by kernel_rfl) (by kernel_rfl) ?_
                refine still_plain rfl (fun K hK => ?_)
                go_simp
                apply hK
                clear hK K
                refine still_plain rfl (fun K hK => ?_)
                go_simp
                apply hK
                clear hK K
                refine still_plain rfl (fun K hK => ?_)
                go_simp
                apply hK
                clear hK K
                refine still_no (wanted_no 21 rfl (by kernel_rfl) (by simp)) (fun K hK => ?_)
                go_simp
                apply hK
                clear hK K
                refine still_no (wanted_no 21 rfl (by kernel_rfl) (by simp)) (fun K hK => ?_)
                go_simp
                apply hK
                clear hK K
                refine still_no (wanted_no 21 rfl (by kernel_rfl) (by simp)) (fun K hK => ?_)
                go_simp
                apply hK
                clear hK K
                refine still_no (wanted_no 21 rfl (by kernel_rfl) (by simp)) (fun K hK => ?_)
                go_simp
                apply hK
                clear hK K
                refine still_no (wanted_no 21 rfl (by kernel_rfl) (by simp)) (fun K hK => ?_)
                go_simp
                apply hK
                clear hK K
                refine still_no (wanted_no 21 rfl (by kernel_rfl) (by simp)) (fun K hK => ?_)
                go_simp
                apply hK
                clear hK K
                refine still_no (wanted_no 21 rfl (by kernel_rfl) (by simp)) (fun K hK => ?_)
                go_simp
                apply hK
                clear hK K
                refine still_no (wanted_no 21 rfl (by kernel_rfl) (by simp)) (fun K hK => ?_)
                go_simp
                apply hK
                clear hK K
                refine still_no (wanted_no 21 rfl (by kernel_rfl) (by simp)) (fun K hK => ?_)
                go_simp
                apply hK
                clear hK K
                refine still_plain rfl (fun K hK => ?_)
                go_simp
                apply hK
                clear hK K
                refine still_plain rfl (fun K hK => ?_)
                go_simp
                apply hK
                clear hK K
                refine still_yes (wanted_yes 32 rfl (by kernel_rfl) (by simp)) (fun K hK => ?_)
                go_simp
                apply hK
                clear hK K
                refine still_yes (wanted_yes 32 rfl (by kernel_rfl) (by simp)) (fun K hK => ?_)
                go_simp
                apply hK
                clear hK K
                refine still_yes (wanted_yes 32 rfl (by kernel_rfl) (by simp)) (fun K hK => ?_)
                go_simp
                apply hK
                clear hK K
                refine still_yes (wanted_yes 35 rfl (by kernel_rfl) (by simp)) (fun K hK => ?_)
                go_simp
                apply hK
                clear hK K
                refine still_yes (wanted_yes 35 rfl (by kernel_rfl) (by simp)) (fun K hK => ?_)
                go_simp
                apply hK
                clear hK K
                refine still_yes (wanted_yes 35 rfl (by kernel_rfl) (by simp)) (fun K hK => ?_)
                go_simp
                apply hK
                clear hK K
                refine still_yes (wanted_yes 35 rfl (by kernel_rfl) (by simp)) (fun K hK => ?_)
                go_simp
                apply hK
                clear hK K
                refine still_yes (wanted_yes 35 rfl (by kernel_rfl) (by simp)) (fun K hK => ?_)
                go_simp
                apply hK
                clear hK K
                refine still_yes (wanted_yes 35 rfl (by kernel_rfl) (by simp)) (fun K hK => ?_)
                go_simp
                apply hK
                clear hK K
                refine still_yes (wanted_yes 35 rfl (by kernel_rfl) (by simp)) (fun K hK => ?_)
                go_simp
                apply hK
                clear hK K
                refine still_yes (wanted_yes 35 rfl (by kernel_rfl) (by simp)) (fun K hK => ?_)
                go_simp
                apply hK
                clear hK K
                refine still_yes (wanted_yes 35 rfl (by kernel_rfl) (by simp)) (fun K hK => ?_)
                go_simp
                apply hK
                clear hK K
                refine still_yes (wanted_yes 32 rfl (by kernel_rfl) (by simp)) (fun K hK => ?_)
                go_simp
                apply hK
                clear hK K
                refine still_plain rfl (fun K hK => ?_)
                go_simp
                apply hK
                clear hK K
                refine still_plain rfl (fun K hK => ?_)
                go_simp
                apply hK
                clear hK K
                refine still_yes (wanted_yes 47 rfl (by kernel_rfl) (by simp)) (fun K hK => ?_)
                go_simp
                apply hK
                clear hK K
                refine still_yes (wanted_yes 47 rfl (by kernel_rfl) (by simp)) (fun K hK => ?_)
                go_simp
                apply hK
                clear hK K
                refine still_yes (wanted_yes 47 rfl (by kernel_rfl) (by simp)) (fun K hK => ?_)
                go_simp
                apply hK
                clear hK K
                refine still_yes (wanted_yes 47 rfl (by kernel_rfl) (by simp)) (fun K hK => ?_)
                go_simp
                apply hK
                clear hK K
                refine still_yes (wanted_yes 47 rfl (by kernel_rfl) (by simp)) (fun K hK => ?_)
                go_simp
                apply hK
                clear hK K
                refine still_yes (wanted_yes 47 rfl (by kernel_rfl) (by simp)) (fun K hK => ?_)
                go_simp
                apply hK
                clear hK K
                refine still_yes (wanted_yes 47 rfl (by kernel_rfl) (by simp)) (fun K hK => ?_)
                go_simp
                apply hK
                clear hK K
                refine still_yes (wanted_yes 47 rfl (by kernel_rfl) (by simp)) (fun K hK => ?_)
                go_simp
                apply hK
                clear hK K
                refine ⟨wpStill_nil ?_⟩
                refine list_yes (wanted_yes 47 rfl (by kernel_rfl) (by simp)) (fun K hK => ?_)
                go_simp
                refine (refLacking_any _ _ (lstF c k) (lstF o k) _ (HLC.out _ hbd) (HLO.out _ hbd) HNC.out HND.out).mono ?_
                rintro e w9 ⟨⟨y, rfl, hown⟩, hb9⟩
                obtain ⟨A9, c9, rfl⟩ := own_slice hown
                clear hown
                apply hK
                clear hK K
                have hb9a := below_chain hbd hbd.size hb9
                have hb9b := below_chain hbe hbe.size hb9
                have hle := HLE.out
                refine list_yes (wanted_yes 47 rfl (by kernel_rfl) (by simp)) (fun K hK => ?_)
                go_simp
                apply hK
                clear hK K
                refine list_yes (wanted_yes 47 rfl (by kernel_rfl) (by simp)) (fun K hK => ?_)
                go_simp
                apply hK
                clear hK K
                clear hle
                go_wp2_with fail
                go_meet
                exact ⟨by rw [HWD.out], hb9a, hb9b⟩
            · have HWD := Lib.hid (widerB_lst c o k h4 h7)
              have b4 : ((k : Int) == 4) = false := k_no h4
              have b7 : ((k : Int) == 7) = false := k_no h7
              clear h4 h7
              refine region_still_37 (by kernel_rfl) (by kernel_rfl) ?_
              refine still_plain rfl (fun K hK => ?_)
              go_simp
              apply hK
              clear hK K
              refine still_plain rfl (fun K hK => ?_)
              go_simp
              apply hK
              clear hK K
              refine still_plain rfl (fun K hK => ?_)
              go_simp
              apply hK
              clear hK K
              refine still_no (wanted_no 21 rfl (by kernel_rfl) (by simp)) (fun K hK => ?_)
              go_simp
              apply hK
              clear hK K
              refine still_no (wanted_no 21 rfl (by kernel_rfl) (by simp)) (fun K hK => ?_)
              go_simp
              apply hK
              clear hK K
              refine still_no (wanted_no 21 rfl (by kernel_rfl) (by simp)) (fun K hK => ?_)
              go_simp
              apply hK
              clear hK K
              refine still_no (wanted_no 21 rfl (by kernel_rfl) (by simp)) (fun K hK => ?_)
              go_simp
              apply hK
              clear hK K
              refine still_no (wanted_no 21 rfl (by kernel_rfl) (by simp)) (fun K hK => ?_)
              go_simp
              apply hK
              clear hK K
              refine still_no (wanted_no 21 rfl (by kernel_rfl) (by simp)) (fun K hK => ?_)
              go_simp
              apply hK
              clear hK K
              refine still_no (wanted_no 21 rfl (by kernel_rfl) (by simp)) (fun K hK => ?_)
              go_simp
              apply hK
              clear hK K
              refine still_no (wanted_no 21 rfl (by kernel_rfl) (by simp)) (fun K hK => ?_)
              go_simp
              apply hK
              clear hK K
              refine still_no (wanted_no 21 rfl (by kernel_rfl) (by simp)) (fun K hK => ?_)
              go_simp
              apply hK
              clear hK K
              refine still_plain rfl (fun K hK => ?_)
              go_simp
              apply hK
              clear hK K
              refine still_plain rfl (fun K hK => ?_)
              go_simp
              apply hK
              clear hK K
              refine still_yes (wanted_yes 32 rfl (by kernel_rfl) (by simp)) (fun K hK => ?_)
              go_simp
              apply hK
              clear hK K
              refine still_yes (wanted_yes 32 rfl (by kernel_rfl) (by simp)) (fun K hK => ?_)
              go_simp
              apply hK
              clear hK K
              refine still_yes (wanted_yes 32 rfl (by kernel_rfl) (by simp)) (fun K hK => ?_)
              go_simp
              apply hK
              clear hK K
              refine still_no (wanted_no 35 rfl (by kernel_rfl) (by simp)) (fun K hK => ?_)
              go_simp
              apply hK
              clear hK K
              refine still_no (wanted_no 35 rfl (by kernel_rfl) (by simp)) (fun K hK => ?_)
              go_simp
              apply hK
              clear hK K
              refine still_no (wanted_no 35 rfl (by kernel_rfl) (by simp)) (fun K hK => ?_)
              go_simp
              apply hK
              clear hK K
              refine still_no (wanted_no 35 rfl (by kernel_rfl) (by simp)) (fun K hK => ?_)
              go_simp
              apply hK
              clear hK K
              refine still_no (wanted_no 35 rfl (by kernel_rfl) (by simp)) (fun K hK => ?_)
              go_simp
              apply hK
              clear hK K
              refine still_no (wanted_no 35 rfl (by kernel_rfl) (by simp)) (fun K hK => ?_)
              go_simp
              apply hK
              clear hK K
              refine still_no (wanted_no 35 rfl (by kernel_rfl) (by simp)) (fun K hK => ?_)
              go_simp
              apply hK
              clear hK K
              refine still_no (wanted_no 35 rfl (by kernel_rfl) (by simp)) (fun K hK => ?_)
              go_simp
              apply hK
              clear hK K
              refine still_no (wanted_no 35 rfl (by kernel_rfl) (by simp)) (fun K hK => ?_)
              go_simp
              apply hK
              clear hK K
              refine still_yes (wanted_yes 32 rfl (by kernel_rfl) (by simp)) (fun K hK => ?_)
              go_simp
              apply hK
              clear hK K
              refine still_plain rfl (fun K hK => ?_)
              go_simp
              apply hK
              clear hK K
              refine still_plain rfl (fun K hK => ?_)
              go_simp
              apply hK
              clear hK K
              refine still_yes (wanted_yes 47 rfl (by kernel_rfl) (by simp)) (fun K hK => ?_)
              go_simp
              apply hK
              clear hK K
              refine still_yes (wanted_yes 47 rfl (by kernel_rfl) (by simp)) (fun K hK => ?_)
              go_simp
              apply hK
              clear hK K
              refine still_yes (wanted_yes 47 rfl (by kernel_rfl) (by simp)) (fun K hK => ?_)
              go_simp
              apply hK
              clear hK K
              refine still_yes (wanted_yes 47 rfl (by kernel_rfl) (by simp)) (fun K hK => ?_)
              go_simp
              apply hK
              clear hK K
              refine still_yes (wanted_yes 47 rfl (by kernel_rfl) (by simp)) (fun K hK => ?_)
              go_simp
              apply hK
              clear hK K
              refine still_yes (wanted_yes 47 rfl (by kernel_rfl) (by simp)) (fun K hK => ?_)
              go_simp
              apply hK
              clear hK K
              refine still_yes (wanted_yes 47 rfl (by kernel_rfl) (by simp)) (fun K hK => ?_)
              go_simp
              apply hK
              clear hK K
              refine still_yes (wanted_yes 47 rfl (by kernel_rfl) (by simp)) (fun K hK => ?_)
              go_simp
              apply hK
              clear hK K
              refine ⟨wpStill_nil ?_⟩
              refine list_yes (wanted_yes 47 rfl (by kernel_rfl) (by simp)) (fun K hK => ?_)
              go_simp
              refine (refLacking_any _ _ (lstF c k) (lstF o k) _ (HLC.out _ hbd) (HLO.out _ hbd) HNC.out HND.out).mono ?_
              rintro e w9 ⟨⟨y, rfl, hown⟩, hb9⟩
              obtain ⟨A9, c9, rfl⟩ := own_slice hown
              clear hown
              apply hK
              clear hK K
              have hb9a := below_chain hbd hbd.size hb9
              have hb9b := below_chain hbe hbe.size hb9
              have hle := HLE.out
              refine list_yes (wanted_yes 47 rfl (by kernel_rfl) (by simp)) (fun K hK => ?_)
              go_simp
              apply hK
              clear hK K
              refine list_yes (wanted_yes 47 rfl (by kernel_rfl) (by simp)) (fun K hK => ?_)
              go_simp
              apply hK
              clear hK K
              clear hle
              go_wp2_with fail
              go_meet
              exact ⟨by rw [HWD.out], hb9a, hb9b⟩
        case rest =>
          obtain ⟨rfl, hbx, hby⟩ := hcut
          have hownx := own_below hown hby
          have hCx := hC.below hby hCl
          have hOx := hO.below hby hOl
          have hKx := hK.below hby hKl
          have hclx := dCells_at hCx hlt
          have hkx := keyCells_at hKx hlt
          have hsx := hbx.size
          have hgx : gK < wc.heap.size := hKx.lt
          have hbk : badK c o k = if is c k = true then (if widerB c o k = true then [(251, 47 :: key k)] else []) else [(252, 47 :: key k)] := rfl
          have HBK := Lib.hid hbk
          clear hbk hown hC hO hK hol hcl hby hbw
          have hone : ∀ n : Int, ∀ u ∈ [Value.int .i64 n, .string (⟨#[47]⟩ ++ ⟨(key k).toArray⟩)], u.oneCell' = true := fun n u hu => by
            rcases List.mem_cons.1 hu with rfl | hu
            · rfl
            · rcases List.mem_cons.1 hu with rfl | hu
              · rfl
              · cases hu
          have hstr : (⟨#[47]⟩ ++ ⟨(key k).toArray⟩ : ByteArray) = ⟨(47 :: key k).toArray⟩ := mk_append2 [47] (key k)
          have HSTR := Lib.hid hstr
          clear hstr
          cases hi : is c k with
          | false =>
            have HN : Hid (badsF c o ((List.range (k + 1)).filter (is o)) = q ++ [(252, 47 :: key k)]) := Lib.hid (by rw [HBS.out, HBK.out, hi]; rfl)
            rw [hi] at hclx
            clear hi HBK HBS
            generalize widerB c o k = bw at *
            go_wp2_with (at_builtin; go_must (refine wpList_append_own _ rfl (.tmp 65) (.tmp 71) _ rfl (gK + 1) 111 i0 _ 2 24 Tryz.underlying56 hi0 hz0 hz1 hz2 rfl (by omega) (.slice A5 q.length q5) q.length (trCells q) rfl (hownx.alloc _) ⟨wc.heap.size, 0, none⟩ 1 1 [.int .i64 252, .string (⟨#[47]⟩ ++ ⟨(key k).toArray⟩)] rfl rfl (World.news_of_block (cs := #[.int .i64 252, .string (⟨#[47]⟩ ++ ⟨(key k).toArray⟩)]) (t := 111) (fr := (0, 0)) (heap_alloc_new wc _)) (hone 252) (by unfold maxLen; omega) (by omega) (by simp; omega) ?_); intro v9 w9 hown9 hgr9 hnil9)
            go_roundw
            case rel => exact ⟨k + 1, by omega, by go_num, by rw [HN.out, List.length_append, trCells_snoc, ← HSTR.out]; exact hown9, (hCx.alloc _).only hgr9 (by intro e; have := (hownx.lt _ e.symm).1; omega), (hOx.alloc _).only hgr9 (by intro e; have := (hownx.lt _ e.symm).1; omega), (hKx.alloc _).only hgr9 (by intro e; have := (hownx.lt _ e.symm).1; omega), (hbx.alloc hsx _).grown hgr9 (by simp; omega) (fun q hq => by have := (hownx.lt q hq).1; omega)⟩
            case measure => simp [intOf]; omega
          | true =>
            rw [hi] at hclx
            cases hwd : widerB c o k with
            | false =>
              have HN : Hid (badsF c o ((List.range (k + 1)).filter (is o)) = q) := Lib.hid (by rw [HBS.out, HBK.out, hi, hwd]; simp)
              clear hi hwd HBK HBS
              go_wp2
              go_roundw
              case rel => exact ⟨k + 1, by omega, by go_num, by rw [HN.out]; exact hownx, hCx, hOx, hKx, hbx⟩
              case measure => simp [intOf]; omega
            | true =>
              have HN : Hid (badsF c o ((List.range (k + 1)).filter (is o)) = q ++ [(251, 47 :: key k)]) := Lib.hid (by rw [HBS.out, HBK.out, hi, hwd]; rfl)
              clear hi hwd HBK HBS
              go_wp2_with (at_builtin; go_must (refine wpList_append_own _ rfl (.tmp 74) (.tmp 80) _ rfl (gK + 1) 111 i0 _ 2 24 Tryz.underlying56 hi0 hz0 hz1 hz2 rfl (by omega) (.slice A5 q.length q5) q.length (trCells q) rfl (hownx.alloc _) ⟨wc.heap.size, 0, none⟩ 1 1 [.int .i64 251, .string (⟨#[47]⟩ ++ ⟨(key k).toArray⟩)] rfl rfl (World.news_of_block (cs := #[.int .i64 251, .string (⟨#[47]⟩ ++ ⟨(key k).toArray⟩)]) (t := 111) (fr := (0, 0)) (heap_alloc_new wc _)) (hone 251) (by unfold maxLen; omega) (by omega) (by simp; omega) ?_); intro v9 w9 hown9 hgr9 hnil9)
              go_roundw
              case rel => exact ⟨k + 1, by omega, by go_num, by rw [HN.out, List.length_append, trCells_snoc, ← HSTR.out]; exact hown9, (hCx.alloc _).only hgr9 (by intro e; have := (hownx.lt _ e.symm).1; omega), (hOx.alloc _).only hgr9 (by intro e; have := (hownx.lt _ e.symm).1; omega), (hKx.alloc _).only hgr9 (by intro e; have := (hownx.lt _ e.symm).1; omega), (hbx.alloc hsx _).grown hgr9 (by simp; omega) (fun q hq => by have := (hownx.lt q hq).1; omega)⟩
              case measure => simp [intOf]; omega
    · obtain rfl : k = 8 := by omega
      have hown2 := own_base hown (B' := w.heap.size) (by omega)
      go_wp2
      go_ret
      exact ⟨⟨_, rfl, hown2⟩, hbw⟩
end Go.Proofs.YtnondmeafilplaaGreatDoor
