/-
  Walks of layer 10's law: equal over one row of steps, alike.
-/
import Derived.Test.YtfhfkggkbeahbaaGreatNsN
import Derived.Test.YtfhfkggkbeahbaaGreatNsD
import Derived.Test.YtfhfkggkbeahbaaGreatNsI
import Derived.Deep.RegionHeldLaw
import Derived.Deep.CutRange
import Derived.BigQuiet
namespace Go.Proofs.YtfhfkggkbeahbaaGreat
open Go.RowKit Mem
set_option linter.unusedVariables false
set_option linter.unusedSimpArgs false
namespace Nd
theorem rdk_cell {w : World} {K : Option Addr} {q : Nat} {ks : List Tx} (h : RdK w (.slice K ks.length q) ks) {j : Nat} (hj : j < ks.length) : ∃ g o, K = some ⟨g, o, none⟩ ∧ w.cell? ⟨g, o + j, none⟩ = some (.string ⟨(ks[j]).toArray⟩) := by
  obtain ⟨A, c, e, h⟩ := h
  injection e with e1 e2 e3
  subst e1
  rcases h with h | ⟨g, o, hA, hc⟩
  · rw [h] at hj
    simp at hj
  · exact ⟨g, o, hA, hc j _ (List.getElem?_eq_getElem hj)⟩
set_option maxRecDepth 100000 in
set_option maxHeartbeats 16000000 in
theorem lequal_any (v1 v2 : Value) (ss : List Stp) (w : World) (h1 : RdS w v1 ss) (h2 : RdS w v2 ss) (hF : ∀ s ∈ ss, s.Fine) (hn : ss.length ≤ 1048576) : Calls Tryz.prog 42 #[v1, v2] w fun e w' => e = .returned (.bool true) ∧ Below w.heap.size w w' := by
  have H1 := Lib.hid h1
  have H2 := Lib.hid h2
  have HF := Lib.hid hF
  obtain ⟨A, ca, rfl, _⟩ := h1
  obtain ⟨A', cb, rfl, _⟩ := h2
  clear hF
  go_enter Tryz.func42, Tryz.ntmps42
  go_wp2_with fail
  go_loopw [16] (fun c16 wr => ∃ k : Nat, k ≤ ss.length ∧ c16 = .int .i64 k ∧ Below w.heap.size w wr) (fun c16 _ => ss.length - (intOf c16).toNat)
  case atStart => exact ⟨0, Nat.zero_le _, rfl, Below.refl _ _⟩
  case round =>
    obtain ⟨k, hk, rfl, hbr⟩ := hrel
    by_cases hlt : k < ss.length
    · obtain ⟨ga, oa, Ka, qa, rfl, hCa⟩ := rds_at H1.out hbr hlt
      obtain ⟨gb, ob, Kb, qb, rfl, hCb⟩ := rds_at H2.out hbr hlt
      have hfine := HF.out _ (List.getElem_mem hlt)
      have HFI := Lib.hid hfine
      have hk0 : (0 : Int) ≤ (k : Int) := by omega
      have hk1 : (k : Int) < (ss.length : Int) := by omega
      clear hfine
      generalize ss[k] = s at *
      have HCA := Lib.hid hCa
      have HCB := Lib.hid hCb
      obtain ⟨a0, a1, a2, a3, a4, a5, _⟩ := hCa
      obtain ⟨e0, e1, e2, e3, e4, e5, _⟩ := hCb
      have ALL : ∀ W, Below wr.heap.size wr W → (W.cell? ⟨ga, oa + k * 6, none⟩ = some (.int .i64 s.sort) ∧ W.cell? ⟨ga, oa + k * 6 + 1, none⟩ = some (.bool s.flag) ∧ W.cell? ⟨ga, oa + k * 6 + 2, none⟩ = some (.int .u64 (s.bits : Int)) ∧ W.cell? ⟨ga, oa + k * 6 + 3, none⟩ = some (.string ⟨s.text.toArray⟩) ∧ W.cell? ⟨ga, oa + k * 6 + 4, none⟩ = some (.int .i64 s.count) ∧ W.cell? ⟨ga, oa + k * 6 + 5, none⟩ = some (.slice Ka s.keys.length qa) ∧ W.cell? ⟨gb, ob + k * 6, none⟩ = some (.int .i64 s.sort) ∧ W.cell? ⟨gb, ob + k * 6 + 1, none⟩ = some (.bool s.flag) ∧ W.cell? ⟨gb, ob + k * 6 + 2, none⟩ = some (.int .u64 (s.bits : Int)) ∧ W.cell? ⟨gb, ob + k * 6 + 3, none⟩ = some (.string ⟨s.text.toArray⟩) ∧ W.cell? ⟨gb, ob + k * 6 + 4, none⟩ = some (.int .i64 s.count) ∧ W.cell? ⟨gb, ob + k * 6 + 5, none⟩ = some (.slice Kb s.keys.length qb) ∧ Below wr.heap.size wr W) := fun W hW => ⟨((old hW).1 _ _ (World.block_lt_of_cell? _ _ a0)).trans a0, ((old hW).1 _ _ (World.block_lt_of_cell? _ _ a1)).trans a1, ((old hW).1 _ _ (World.block_lt_of_cell? _ _ a2)).trans a2, ((old hW).1 _ _ (World.block_lt_of_cell? _ _ a3)).trans a3, ((old hW).1 _ _ (World.block_lt_of_cell? _ _ a4)).trans a4, ((old hW).1 _ _ (World.block_lt_of_cell? _ _ a5)).trans a5, ((old hW).1 _ _ (World.block_lt_of_cell? _ _ e0)).trans e0, ((old hW).1 _ _ (World.block_lt_of_cell? _ _ e1)).trans e1, ((old hW).1 _ _ (World.block_lt_of_cell? _ _ e2)).trans e2, ((old hW).1 _ _ (World.block_lt_of_cell? _ _ e3)).trans e3, ((old hW).1 _ _ (World.block_lt_of_cell? _ _ e4)).trans e4, ((old hW).1 _ _ (World.block_lt_of_cell? _ _ e5)).trans e5, hW⟩
      clear a0 a1 a2 a3 a4 a5 e0 e1 e2 e3 e4 e5
      go_upto_region 6 with fail
      go_cut [6, 7, 16] from 16 to 88 (fun c6 c7 c16 wx => c16 = .int .i64 (k : Nat) ∧ ∃ b6 b7, c6 = .pointer (some ⟨b6, 0, none⟩) ∧ c7 = .pointer (some ⟨b7, 0, none⟩) ∧ Hid (Blk wx b6 81 (cell6 s Ka qa).toArray ∧ Blk wx b7 81 (cell6 s Kb qb).toArray ∧ Below wr.heap.size wr wx))
      case first =>
        have hB : Below wr.heap.size wr wr.drew := drewN_below wr 1
        refine wp_region_held_drew (S := fun W => W.cell? ⟨ga, oa + k * 6, none⟩ = some (.int .i64 s.sort) ∧ W.cell? ⟨ga, oa + k * 6 + 1, none⟩ = some (.bool s.flag) ∧ W.cell? ⟨ga, oa + k * 6 + 2, none⟩ = some (.int .u64 (s.bits : Int)) ∧ W.cell? ⟨ga, oa + k * 6 + 3, none⟩ = some (.string ⟨s.text.toArray⟩) ∧ W.cell? ⟨ga, oa + k * 6 + 4, none⟩ = some (.int .i64 s.count) ∧ W.cell? ⟨ga, oa + k * 6 + 5, none⟩ = some (.slice Ka s.keys.length qa) ∧ W.cell? ⟨gb, ob + k * 6, none⟩ = some (.int .i64 s.sort) ∧ W.cell? ⟨gb, ob + k * 6 + 1, none⟩ = some (.bool s.flag) ∧ W.cell? ⟨gb, ob + k * 6 + 2, none⟩ = some (.int .u64 (s.bits : Int)) ∧ W.cell? ⟨gb, ob + k * 6 + 3, none⟩ = some (.string ⟨s.text.toArray⟩) ∧ W.cell? ⟨gb, ob + k * 6 + 4, none⟩ = some (.int .i64 s.count) ∧ W.cell? ⟨gb, ob + k * 6 + 5, none⟩ = some (.slice Kb s.keys.length qb) ∧ Below wr.heap.size wr W) (by kernel_rfl) (ALL _ hB) (fun hHeld => ?_)
        refine held_take (i := 0) (v := ?_) (some 19) rfl rfl (by kernel_rfl) (by kernel_rfl) (by kernel_rfl) (fun _ _ _ h => h) (Or.inl ⟨by rfl, ?_⟩) hHeld ?_
        rotate_left
        · intro w hSw
          try dsimp only at hSw
          go_simp
          try with_reducible rfl
        simp only [Act.put, List.setIfInBounds_toArray, List.set_cons_zero, List.set_cons_succ]
        refine held_take (i := 1) (v := ?_) (some 20) rfl rfl (by kernel_rfl) (by kernel_rfl) (by kernel_rfl) (fun _ _ _ h => h) (Or.inl ⟨by rfl, ?_⟩) hHeld ?_
        rotate_left
        · intro w hSw
          try dsimp only at hSw
          go_simp
          try with_reducible rfl
        simp only [Act.put, List.setIfInBounds_toArray, List.set_cons_zero, List.set_cons_succ]
        refine held_take (i := 2) (v := ?_) (some 21) rfl rfl (by kernel_rfl) (by kernel_rfl) (by kernel_rfl) (fun _ _ _ h => h) (Or.inl ⟨by rfl, ?_⟩) hHeld ?_
        rotate_left
        · intro w hSw
          try dsimp only at hSw
          go_simp
          try with_reducible rfl
        simp only [Act.put, List.setIfInBounds_toArray, List.set_cons_zero, List.set_cons_succ]
        refine held_take (i := 3) (v := ?_) (some 22) rfl rfl (by kernel_rfl) (by kernel_rfl) (by kernel_rfl) (fun _ _ _ h => h) (Or.inl ⟨by rfl, ?_⟩) hHeld ?_
        rotate_left
        · intro w hSw
          try dsimp only at hSw
          go_simp
          try with_reducible rfl
        simp only [Act.put, List.setIfInBounds_toArray, List.set_cons_zero, List.set_cons_succ]
        refine held_take (i := 5) (v := ?_) (some 24) rfl rfl (by kernel_rfl) (by kernel_rfl) (by kernel_rfl) (fun _ _ _ h => h) (Or.inl ⟨by rfl, ?_⟩) hHeld ?_
        rotate_left
        · intro w hSw
          try dsimp only at hSw
          go_simp
          try with_reducible rfl
        simp only [Act.put, List.setIfInBounds_toArray, List.set_cons_zero, List.set_cons_succ]
        refine held_take (i := 6) (v := ?_) (some 25) rfl rfl (by kernel_rfl) (by kernel_rfl) (by kernel_rfl) (fun _ _ _ h => h) (Or.inl ⟨by rfl, ?_⟩) hHeld ?_
        rotate_left
        · intro w hSw
          try dsimp only at hSw
          go_simp
          try with_reducible rfl
        simp only [Act.put, List.setIfInBounds_toArray, List.set_cons_zero, List.set_cons_succ]
        refine held_take (i := 7) (v := ?_) (some 26) rfl rfl (by kernel_rfl) (by kernel_rfl) (by kernel_rfl) (fun _ _ _ h => h) (Or.inl ⟨by rfl, ?_⟩) hHeld ?_
        rotate_left
        · intro w hSw
          try dsimp only at hSw
          go_simp
          try with_reducible rfl
        simp only [Act.put, List.setIfInBounds_toArray, List.set_cons_zero, List.set_cons_succ]
        refine held_take (i := 8) (v := ?_) (some 27) rfl rfl (by kernel_rfl) (by kernel_rfl) (by kernel_rfl) (fun _ _ _ h => h) (Or.inl ⟨by rfl, ?_⟩) hHeld ?_
        rotate_left
        · intro w hSw
          try dsimp only at hSw
          go_simp
          try with_reducible rfl
        simp only [Act.put, List.setIfInBounds_toArray, List.set_cons_zero, List.set_cons_succ]
        generalize wr.drew = W0 at *
        refine wpAnyH_ready (rs := [4, 9, 10]) (by kernel_rfl) (by simp) ?_
        refine AllReadyH.cons rfl (fun K hK => ?_) (AllReadyH.cons rfl (fun K hK => ?_) (AllReadyH.cons rfl (fun K hK => ?_) (AllReadyH.nil)))
        · go_simp
          go_at_call 34
          ((with_reducible refine (lstep_any s Ka qa _).mono ?_); rintro e W1 ⟨rfl, hb2⟩; dsimp only)
          have hB' := hB.trans (hb2.mono hB.size)
          refine hK.out _ _ (ALL _ hB') (fun hHeld => ?_)
          clear hK K
          clear hB
          have hB := hB'
          clear hB' hb2
          refine wpAnyH_ready (rs := [9, 10]) (by kernel_rfl) (by simp) ?_
          refine AllReadyH.cons rfl (fun K hK => ?_) (AllReadyH.cons rfl (fun K hK => ?_) (AllReadyH.nil))
          · go_simp
            have hB' := hB.alloc hB.size (.cells #[.int .i64 0, .bool false, .int .u64 0, .string ⟨#[]⟩, .int .i64 0, .slice none 0 0] 81)
            have x6 := Blk.new W1 81 #[.int .i64 0, .bool false, .int .u64 0, .string ⟨#[]⟩, .int .i64 0, .slice none 0 0]
            have hx6 : wr.heap.size ≤ W1.heap.size := hB.size
            refine hK.out _ _ (ALL _ hB') (fun hHeld => ?_)
            clear hK K
            clear hB
            have hB := hB'
            clear hB'
            generalize W1.alloc (.cells #[.int .i64 0, .bool false, .int .u64 0, .string ⟨#[]⟩, .int .i64 0, .slice none 0 0] 81) = W2 at *
            refine wpAnyH_ready (rs := [10]) (by kernel_rfl) (by simp) ?_
            refine AllReadyH.cons rfl (fun K hK => ?_) (AllReadyH.nil)
            · go_simp
              have hB' := hB.alloc hB.size (.cells #[.int .i64 0, .bool false, .int .u64 0, .string ⟨#[]⟩, .int .i64 0, .slice none 0 0] 81)
              have x7 := Blk.new W2 81 #[.int .i64 0, .bool false, .int .u64 0, .string ⟨#[]⟩, .int .i64 0, .slice none 0 0]
              have hx7 : wr.heap.size ≤ W2.heap.size := hB.size
              have hd67 : W1.heap.size ≠ W2.heap.size := by have := x6.lt; omega
              replace x6 := x6.alloc (.cells #[.int .i64 0, .bool false, .int .u64 0, .string ⟨#[]⟩, .int .i64 0, .slice none 0 0] 81)
              refine hK.out _ _ (ALL _ hB') (fun hHeld => ?_)
              clear hK K
              clear hB
              have hB := hB'
              clear hB'
              generalize W2.alloc (.cells #[.int .i64 0, .bool false, .int .u64 0, .string ⟨#[]⟩, .int .i64 0, .slice none 0 0] 81) = W3 at *
              refine wpAnyH_ready (rs := [11]) (by kernel_rfl) (by simp) ?_
              refine AllReadyH.cons rfl (fun K hK => ?_) (AllReadyH.nil)
              · have c0 : W3.cell? ⟨W1.heap.size, 0, none⟩ = some (.int .i64 0) := x6.cell 0
                have f0 := x6.frozen 0
                have c1 : W3.cell? ⟨W1.heap.size, 1, none⟩ = some (.bool false) := x6.cell 1
                have f1 := x6.frozen 1
                have c2 : W3.cell? ⟨W1.heap.size, 2, none⟩ = some (.int .u64 0) := x6.cell 2
                have f2 := x6.frozen 2
                have c3 : W3.cell? ⟨W1.heap.size, 3, none⟩ = some (.string ⟨#[]⟩) := x6.cell 3
                have f3 := x6.frozen 3
                have c4 : W3.cell? ⟨W1.heap.size, 4, none⟩ = some (.int .i64 0) := x6.cell 4
                have f4 := x6.frozen 4
                have c5 : W3.cell? ⟨W1.heap.size, 5, none⟩ = some (.slice none 0 0) := x6.cell 5
                have f5 := x6.frozen 5
                go_simp
                have hge : wr.heap.size ≤ W1.heap.size := hx6
                have hB' : Below wr.heap.size wr ((((((W3.setCell ⟨W1.heap.size, 0, none⟩ (.int .i64 s.sort)).setCell ⟨W1.heap.size, 1, none⟩ (.bool s.flag)).setCell ⟨W1.heap.size, 2, none⟩ (.int .u64 (s.bits : Int))).setCell ⟨W1.heap.size, 3, none⟩ (.string ⟨s.text.toArray⟩)).setCell ⟨W1.heap.size, 4, none⟩ (.int .i64 s.count)).setCell ⟨W1.heap.size, 5, none⟩ (.slice Ka s.keys.length qa)) := ((((((hB.setCell (p := ⟨W1.heap.size, 0, none⟩) hge (.int .i64 s.sort)).setCell (p := ⟨W1.heap.size, 1, none⟩) hge (.bool s.flag)).setCell (p := ⟨W1.heap.size, 2, none⟩) hge (.int .u64 (s.bits : Int))).setCell (p := ⟨W1.heap.size, 3, none⟩) hge (.string ⟨s.text.toArray⟩)).setCell (p := ⟨W1.heap.size, 4, none⟩) hge (.int .i64 s.count)).setCell (p := ⟨W1.heap.size, 5, none⟩) hge (.slice Ka s.keys.length qa))
                have y : Blk ((((((W3.setCell ⟨W1.heap.size, 0, none⟩ (.int .i64 s.sort)).setCell ⟨W1.heap.size, 1, none⟩ (.bool s.flag)).setCell ⟨W1.heap.size, 2, none⟩ (.int .u64 (s.bits : Int))).setCell ⟨W1.heap.size, 3, none⟩ (.string ⟨s.text.toArray⟩)).setCell ⟨W1.heap.size, 4, none⟩ (.int .i64 s.count)).setCell ⟨W1.heap.size, 5, none⟩ (.slice Ka s.keys.length qa)) W1.heap.size 81 (cell6 s Ka qa).toArray := ((((((x6.put 0 (.int .i64 s.sort)).put 1 (.bool s.flag)).put 2 (.int .u64 (s.bits : Int))).put 3 (.string ⟨s.text.toArray⟩)).put 4 (.int .i64 s.count)).put 5 (.slice Ka s.keys.length qa))
                have hne : W2.heap.size ≠ W1.heap.size := hd67.symm
                have z := ((((((x7.far (p := ⟨W1.heap.size, 0, none⟩) hne (.int .i64 s.sort)).far (p := ⟨W1.heap.size, 1, none⟩) hne (.bool s.flag)).far (p := ⟨W1.heap.size, 2, none⟩) hne (.int .u64 (s.bits : Int))).far (p := ⟨W1.heap.size, 3, none⟩) hne (.string ⟨s.text.toArray⟩)).far (p := ⟨W1.heap.size, 4, none⟩) hne (.int .i64 s.count)).far (p := ⟨W1.heap.size, 5, none⟩) hne (.slice Ka s.keys.length qa))
                refine hK.out _ _ (ALL _ hB') (fun hHeld => ?_)
                clear hK K
                clear hB c0 c1 c2 c3 c4 c5 f0 f1 f2 f3 f4 f5 x6
                have hB := hB'
                have x6 := y
                clear hB' y
                clear x7
                have x7 := z
                clear z
                generalize ((((((W3.setCell ⟨W1.heap.size, 0, none⟩ (.int .i64 s.sort)).setCell ⟨W1.heap.size, 1, none⟩ (.bool s.flag)).setCell ⟨W1.heap.size, 2, none⟩ (.int .u64 (s.bits : Int))).setCell ⟨W1.heap.size, 3, none⟩ (.string ⟨s.text.toArray⟩)).setCell ⟨W1.heap.size, 4, none⟩ (.int .i64 s.count)).setCell ⟨W1.heap.size, 5, none⟩ (.slice Ka s.keys.length qa)) = W4 at *
                refine wpAnyH_ready (rs := [12]) (by kernel_rfl) (by simp) ?_
                refine AllReadyH.cons rfl (fun K hK => ?_) (AllReadyH.nil)
                · have c0 : W4.cell? ⟨W2.heap.size, 0, none⟩ = some (.int .i64 0) := x7.cell 0
                  have f0 := x7.frozen 0
                  have c1 : W4.cell? ⟨W2.heap.size, 1, none⟩ = some (.bool false) := x7.cell 1
                  have f1 := x7.frozen 1
                  have c2 : W4.cell? ⟨W2.heap.size, 2, none⟩ = some (.int .u64 0) := x7.cell 2
                  have f2 := x7.frozen 2
                  have c3 : W4.cell? ⟨W2.heap.size, 3, none⟩ = some (.string ⟨#[]⟩) := x7.cell 3
                  have f3 := x7.frozen 3
                  have c4 : W4.cell? ⟨W2.heap.size, 4, none⟩ = some (.int .i64 0) := x7.cell 4
                  have f4 := x7.frozen 4
                  have c5 : W4.cell? ⟨W2.heap.size, 5, none⟩ = some (.slice none 0 0) := x7.cell 5
                  have f5 := x7.frozen 5
                  go_simp
                  have hge : wr.heap.size ≤ W2.heap.size := hx7
                  have hB' : Below wr.heap.size wr ((((((W4.setCell ⟨W2.heap.size, 0, none⟩ (.int .i64 s.sort)).setCell ⟨W2.heap.size, 1, none⟩ (.bool s.flag)).setCell ⟨W2.heap.size, 2, none⟩ (.int .u64 (s.bits : Int))).setCell ⟨W2.heap.size, 3, none⟩ (.string ⟨s.text.toArray⟩)).setCell ⟨W2.heap.size, 4, none⟩ (.int .i64 s.count)).setCell ⟨W2.heap.size, 5, none⟩ (.slice Kb s.keys.length qb)) := ((((((hB.setCell (p := ⟨W2.heap.size, 0, none⟩) hge (.int .i64 s.sort)).setCell (p := ⟨W2.heap.size, 1, none⟩) hge (.bool s.flag)).setCell (p := ⟨W2.heap.size, 2, none⟩) hge (.int .u64 (s.bits : Int))).setCell (p := ⟨W2.heap.size, 3, none⟩) hge (.string ⟨s.text.toArray⟩)).setCell (p := ⟨W2.heap.size, 4, none⟩) hge (.int .i64 s.count)).setCell (p := ⟨W2.heap.size, 5, none⟩) hge (.slice Kb s.keys.length qb))
                  have y : Blk ((((((W4.setCell ⟨W2.heap.size, 0, none⟩ (.int .i64 s.sort)).setCell ⟨W2.heap.size, 1, none⟩ (.bool s.flag)).setCell ⟨W2.heap.size, 2, none⟩ (.int .u64 (s.bits : Int))).setCell ⟨W2.heap.size, 3, none⟩ (.string ⟨s.text.toArray⟩)).setCell ⟨W2.heap.size, 4, none⟩ (.int .i64 s.count)).setCell ⟨W2.heap.size, 5, none⟩ (.slice Kb s.keys.length qb)) W2.heap.size 81 (cell6 s Kb qb).toArray := ((((((x7.put 0 (.int .i64 s.sort)).put 1 (.bool s.flag)).put 2 (.int .u64 (s.bits : Int))).put 3 (.string ⟨s.text.toArray⟩)).put 4 (.int .i64 s.count)).put 5 (.slice Kb s.keys.length qb))
                  have hne : W1.heap.size ≠ W2.heap.size := hd67
                  have z := ((((((x6.far (p := ⟨W2.heap.size, 0, none⟩) hne (.int .i64 s.sort)).far (p := ⟨W2.heap.size, 1, none⟩) hne (.bool s.flag)).far (p := ⟨W2.heap.size, 2, none⟩) hne (.int .u64 (s.bits : Int))).far (p := ⟨W2.heap.size, 3, none⟩) hne (.string ⟨s.text.toArray⟩)).far (p := ⟨W2.heap.size, 4, none⟩) hne (.int .i64 s.count)).far (p := ⟨W2.heap.size, 5, none⟩) hne (.slice Kb s.keys.length qb))
                  refine hK.out _ _ (ALL _ hB') (fun hHeld => ?_)
                  clear hK K
                  clear hB c0 c1 c2 c3 c4 c5 f0 f1 f2 f3 f4 f5 x7
                  have hB := hB'
                  have x7 := y
                  clear hB' y
                  clear x6
                  have x6 := z
                  clear z
                  generalize ((((((W4.setCell ⟨W2.heap.size, 0, none⟩ (.int .i64 s.sort)).setCell ⟨W2.heap.size, 1, none⟩ (.bool s.flag)).setCell ⟨W2.heap.size, 2, none⟩ (.int .u64 (s.bits : Int))).setCell ⟨W2.heap.size, 3, none⟩ (.string ⟨s.text.toArray⟩)).setCell ⟨W2.heap.size, 4, none⟩ (.int .i64 s.count)).setCell ⟨W2.heap.size, 5, none⟩ (.slice Kb s.keys.length qb)) = W5 at *
                  refine wpAnyH_done (by kernel_rfl) ?_ _
                  go_wp2
                  go_meet
                  exact ⟨rfl, W1.heap.size, W2.heap.size, rfl, rfl, Lib.hid ⟨x6, x7, hB⟩⟩
          · go_simp
            have hB' := hB.alloc hB.size (.cells #[.int .i64 0, .bool false, .int .u64 0, .string ⟨#[]⟩, .int .i64 0, .slice none 0 0] 81)
            have x7 := Blk.new W1 81 #[.int .i64 0, .bool false, .int .u64 0, .string ⟨#[]⟩, .int .i64 0, .slice none 0 0]
            have hx7 : wr.heap.size ≤ W1.heap.size := hB.size
            refine hK.out _ _ (ALL _ hB') (fun hHeld => ?_)
            clear hK K
            clear hB
            have hB := hB'
            clear hB'
            generalize W1.alloc (.cells #[.int .i64 0, .bool false, .int .u64 0, .string ⟨#[]⟩, .int .i64 0, .slice none 0 0] 81) = W6 at *
            refine wpAnyH_ready (rs := [9]) (by kernel_rfl) (by simp) ?_
            refine AllReadyH.cons rfl (fun K hK => ?_) (AllReadyH.nil)
            · go_simp
              have hB' := hB.alloc hB.size (.cells #[.int .i64 0, .bool false, .int .u64 0, .string ⟨#[]⟩, .int .i64 0, .slice none 0 0] 81)
              have x6 := Blk.new W6 81 #[.int .i64 0, .bool false, .int .u64 0, .string ⟨#[]⟩, .int .i64 0, .slice none 0 0]
              have hx6 : wr.heap.size ≤ W6.heap.size := hB.size
              have hd67 : W6.heap.size ≠ W1.heap.size := by have := x7.lt; omega
              replace x7 := x7.alloc (.cells #[.int .i64 0, .bool false, .int .u64 0, .string ⟨#[]⟩, .int .i64 0, .slice none 0 0] 81)
              refine hK.out _ _ (ALL _ hB') (fun hHeld => ?_)
              clear hK K
              clear hB
              have hB := hB'
              clear hB'
              generalize W6.alloc (.cells #[.int .i64 0, .bool false, .int .u64 0, .string ⟨#[]⟩, .int .i64 0, .slice none 0 0] 81) = W7 at *
              refine wpAnyH_ready (rs := [11]) (by kernel_rfl) (by simp) ?_
              refine AllReadyH.cons rfl (fun K hK => ?_) (AllReadyH.nil)
              · have c0 : W7.cell? ⟨W6.heap.size, 0, none⟩ = some (.int .i64 0) := x6.cell 0
                have f0 := x6.frozen 0
                have c1 : W7.cell? ⟨W6.heap.size, 1, none⟩ = some (.bool false) := x6.cell 1
                have f1 := x6.frozen 1
                have c2 : W7.cell? ⟨W6.heap.size, 2, none⟩ = some (.int .u64 0) := x6.cell 2
                have f2 := x6.frozen 2
                have c3 : W7.cell? ⟨W6.heap.size, 3, none⟩ = some (.string ⟨#[]⟩) := x6.cell 3
                have f3 := x6.frozen 3
                have c4 : W7.cell? ⟨W6.heap.size, 4, none⟩ = some (.int .i64 0) := x6.cell 4
                have f4 := x6.frozen 4
                have c5 : W7.cell? ⟨W6.heap.size, 5, none⟩ = some (.slice none 0 0) := x6.cell 5
                have f5 := x6.frozen 5
                go_simp
                have hge : wr.heap.size ≤ W6.heap.size := hx6
                have hB' : Below wr.heap.size wr ((((((W7.setCell ⟨W6.heap.size, 0, none⟩ (.int .i64 s.sort)).setCell ⟨W6.heap.size, 1, none⟩ (.bool s.flag)).setCell ⟨W6.heap.size, 2, none⟩ (.int .u64 (s.bits : Int))).setCell ⟨W6.heap.size, 3, none⟩ (.string ⟨s.text.toArray⟩)).setCell ⟨W6.heap.size, 4, none⟩ (.int .i64 s.count)).setCell ⟨W6.heap.size, 5, none⟩ (.slice Ka s.keys.length qa)) := ((((((hB.setCell (p := ⟨W6.heap.size, 0, none⟩) hge (.int .i64 s.sort)).setCell (p := ⟨W6.heap.size, 1, none⟩) hge (.bool s.flag)).setCell (p := ⟨W6.heap.size, 2, none⟩) hge (.int .u64 (s.bits : Int))).setCell (p := ⟨W6.heap.size, 3, none⟩) hge (.string ⟨s.text.toArray⟩)).setCell (p := ⟨W6.heap.size, 4, none⟩) hge (.int .i64 s.count)).setCell (p := ⟨W6.heap.size, 5, none⟩) hge (.slice Ka s.keys.length qa))
                have y : Blk ((((((W7.setCell ⟨W6.heap.size, 0, none⟩ (.int .i64 s.sort)).setCell ⟨W6.heap.size, 1, none⟩ (.bool s.flag)).setCell ⟨W6.heap.size, 2, none⟩ (.int .u64 (s.bits : Int))).setCell ⟨W6.heap.size, 3, none⟩ (.string ⟨s.text.toArray⟩)).setCell ⟨W6.heap.size, 4, none⟩ (.int .i64 s.count)).setCell ⟨W6.heap.size, 5, none⟩ (.slice Ka s.keys.length qa)) W6.heap.size 81 (cell6 s Ka qa).toArray := ((((((x6.put 0 (.int .i64 s.sort)).put 1 (.bool s.flag)).put 2 (.int .u64 (s.bits : Int))).put 3 (.string ⟨s.text.toArray⟩)).put 4 (.int .i64 s.count)).put 5 (.slice Ka s.keys.length qa))
                have hne : W1.heap.size ≠ W6.heap.size := hd67.symm
                have z := ((((((x7.far (p := ⟨W6.heap.size, 0, none⟩) hne (.int .i64 s.sort)).far (p := ⟨W6.heap.size, 1, none⟩) hne (.bool s.flag)).far (p := ⟨W6.heap.size, 2, none⟩) hne (.int .u64 (s.bits : Int))).far (p := ⟨W6.heap.size, 3, none⟩) hne (.string ⟨s.text.toArray⟩)).far (p := ⟨W6.heap.size, 4, none⟩) hne (.int .i64 s.count)).far (p := ⟨W6.heap.size, 5, none⟩) hne (.slice Ka s.keys.length qa))
                refine hK.out _ _ (ALL _ hB') (fun hHeld => ?_)
                clear hK K
                clear hB c0 c1 c2 c3 c4 c5 f0 f1 f2 f3 f4 f5 x6
                have hB := hB'
                have x6 := y
                clear hB' y
                clear x7
                have x7 := z
                clear z
                generalize ((((((W7.setCell ⟨W6.heap.size, 0, none⟩ (.int .i64 s.sort)).setCell ⟨W6.heap.size, 1, none⟩ (.bool s.flag)).setCell ⟨W6.heap.size, 2, none⟩ (.int .u64 (s.bits : Int))).setCell ⟨W6.heap.size, 3, none⟩ (.string ⟨s.text.toArray⟩)).setCell ⟨W6.heap.size, 4, none⟩ (.int .i64 s.count)).setCell ⟨W6.heap.size, 5, none⟩ (.slice Ka s.keys.length qa)) = W8 at *
                refine wpAnyH_ready (rs := [12]) (by kernel_rfl) (by simp) ?_
                refine AllReadyH.cons rfl (fun K hK => ?_) (AllReadyH.nil)
                · have c0 : W8.cell? ⟨W1.heap.size, 0, none⟩ = some (.int .i64 0) := x7.cell 0
                  have f0 := x7.frozen 0
                  have c1 : W8.cell? ⟨W1.heap.size, 1, none⟩ = some (.bool false) := x7.cell 1
                  have f1 := x7.frozen 1
                  have c2 : W8.cell? ⟨W1.heap.size, 2, none⟩ = some (.int .u64 0) := x7.cell 2
                  have f2 := x7.frozen 2
                  have c3 : W8.cell? ⟨W1.heap.size, 3, none⟩ = some (.string ⟨#[]⟩) := x7.cell 3
                  have f3 := x7.frozen 3
                  have c4 : W8.cell? ⟨W1.heap.size, 4, none⟩ = some (.int .i64 0) := x7.cell 4
                  have f4 := x7.frozen 4
                  have c5 : W8.cell? ⟨W1.heap.size, 5, none⟩ = some (.slice none 0 0) := x7.cell 5
                  have f5 := x7.frozen 5
                  go_simp
                  have hge : wr.heap.size ≤ W1.heap.size := hx7
                  have hB' : Below wr.heap.size wr ((((((W8.setCell ⟨W1.heap.size, 0, none⟩ (.int .i64 s.sort)).setCell ⟨W1.heap.size, 1, none⟩ (.bool s.flag)).setCell ⟨W1.heap.size, 2, none⟩ (.int .u64 (s.bits : Int))).setCell ⟨W1.heap.size, 3, none⟩ (.string ⟨s.text.toArray⟩)).setCell ⟨W1.heap.size, 4, none⟩ (.int .i64 s.count)).setCell ⟨W1.heap.size, 5, none⟩ (.slice Kb s.keys.length qb)) := ((((((hB.setCell (p := ⟨W1.heap.size, 0, none⟩) hge (.int .i64 s.sort)).setCell (p := ⟨W1.heap.size, 1, none⟩) hge (.bool s.flag)).setCell (p := ⟨W1.heap.size, 2, none⟩) hge (.int .u64 (s.bits : Int))).setCell (p := ⟨W1.heap.size, 3, none⟩) hge (.string ⟨s.text.toArray⟩)).setCell (p := ⟨W1.heap.size, 4, none⟩) hge (.int .i64 s.count)).setCell (p := ⟨W1.heap.size, 5, none⟩) hge (.slice Kb s.keys.length qb))
                  have y : Blk ((((((W8.setCell ⟨W1.heap.size, 0, none⟩ (.int .i64 s.sort)).setCell ⟨W1.heap.size, 1, none⟩ (.bool s.flag)).setCell ⟨W1.heap.size, 2, none⟩ (.int .u64 (s.bits : Int))).setCell ⟨W1.heap.size, 3, none⟩ (.string ⟨s.text.toArray⟩)).setCell ⟨W1.heap.size, 4, none⟩ (.int .i64 s.count)).setCell ⟨W1.heap.size, 5, none⟩ (.slice Kb s.keys.length qb)) W1.heap.size 81 (cell6 s Kb qb).toArray := ((((((x7.put 0 (.int .i64 s.sort)).put 1 (.bool s.flag)).put 2 (.int .u64 (s.bits : Int))).put 3 (.string ⟨s.text.toArray⟩)).put 4 (.int .i64 s.count)).put 5 (.slice Kb s.keys.length qb))
                  have hne : W6.heap.size ≠ W1.heap.size := hd67
                  have z := ((((((x6.far (p := ⟨W1.heap.size, 0, none⟩) hne (.int .i64 s.sort)).far (p := ⟨W1.heap.size, 1, none⟩) hne (.bool s.flag)).far (p := ⟨W1.heap.size, 2, none⟩) hne (.int .u64 (s.bits : Int))).far (p := ⟨W1.heap.size, 3, none⟩) hne (.string ⟨s.text.toArray⟩)).far (p := ⟨W1.heap.size, 4, none⟩) hne (.int .i64 s.count)).far (p := ⟨W1.heap.size, 5, none⟩) hne (.slice Kb s.keys.length qb))
                  refine hK.out _ _ (ALL _ hB') (fun hHeld => ?_)
                  clear hK K
                  clear hB c0 c1 c2 c3 c4 c5 f0 f1 f2 f3 f4 f5 x7
                  have hB := hB'
                  have x7 := y
                  clear hB' y
                  clear x6
                  have x6 := z
                  clear z
                  generalize ((((((W8.setCell ⟨W1.heap.size, 0, none⟩ (.int .i64 s.sort)).setCell ⟨W1.heap.size, 1, none⟩ (.bool s.flag)).setCell ⟨W1.heap.size, 2, none⟩ (.int .u64 (s.bits : Int))).setCell ⟨W1.heap.size, 3, none⟩ (.string ⟨s.text.toArray⟩)).setCell ⟨W1.heap.size, 4, none⟩ (.int .i64 s.count)).setCell ⟨W1.heap.size, 5, none⟩ (.slice Kb s.keys.length qb)) = W9 at *
                  refine wpAnyH_done (by kernel_rfl) ?_ _
                  go_wp2
                  go_meet
                  exact ⟨rfl, W6.heap.size, W1.heap.size, rfl, rfl, Lib.hid ⟨x6, x7, hB⟩⟩
        · go_simp
          have hB' := hB.alloc hB.size (.cells #[.int .i64 0, .bool false, .int .u64 0, .string ⟨#[]⟩, .int .i64 0, .slice none 0 0] 81)
          have x6 := Blk.new W0 81 #[.int .i64 0, .bool false, .int .u64 0, .string ⟨#[]⟩, .int .i64 0, .slice none 0 0]
          have hx6 : wr.heap.size ≤ W0.heap.size := hB.size
          refine hK.out _ _ (ALL _ hB') (fun hHeld => ?_)
          clear hK K
          clear hB
          have hB := hB'
          clear hB'
          generalize W0.alloc (.cells #[.int .i64 0, .bool false, .int .u64 0, .string ⟨#[]⟩, .int .i64 0, .slice none 0 0] 81) = W10 at *
          refine wpAnyH_ready (rs := [4, 10]) (by kernel_rfl) (by simp) ?_
          refine AllReadyH.cons rfl (fun K hK => ?_) (AllReadyH.cons rfl (fun K hK => ?_) (AllReadyH.nil))
          · go_simp
            go_at_call 34
            ((with_reducible refine (lstep_any s Ka qa _).mono ?_); rintro e W11 ⟨rfl, hb2⟩; dsimp only)
            have hB' := hB.trans (hb2.mono hB.size)
            replace x6 := x6.below hb2 x6.lt
            refine hK.out _ _ (ALL _ hB') (fun hHeld => ?_)
            clear hK K
            clear hB
            have hB := hB'
            clear hB' hb2
            refine wpAnyH_ready (rs := [10]) (by kernel_rfl) (by simp) ?_
            refine AllReadyH.cons rfl (fun K hK => ?_) (AllReadyH.nil)
            · go_simp
              have hB' := hB.alloc hB.size (.cells #[.int .i64 0, .bool false, .int .u64 0, .string ⟨#[]⟩, .int .i64 0, .slice none 0 0] 81)
              have x7 := Blk.new W11 81 #[.int .i64 0, .bool false, .int .u64 0, .string ⟨#[]⟩, .int .i64 0, .slice none 0 0]
              have hx7 : wr.heap.size ≤ W11.heap.size := hB.size
              have hd67 : W0.heap.size ≠ W11.heap.size := by have := x6.lt; omega
              replace x6 := x6.alloc (.cells #[.int .i64 0, .bool false, .int .u64 0, .string ⟨#[]⟩, .int .i64 0, .slice none 0 0] 81)
              refine hK.out _ _ (ALL _ hB') (fun hHeld => ?_)
              clear hK K
              clear hB
              have hB := hB'
              clear hB'
              generalize W11.alloc (.cells #[.int .i64 0, .bool false, .int .u64 0, .string ⟨#[]⟩, .int .i64 0, .slice none 0 0] 81) = W12 at *
              refine wpAnyH_ready (rs := [11]) (by kernel_rfl) (by simp) ?_
              refine AllReadyH.cons rfl (fun K hK => ?_) (AllReadyH.nil)
              · have c0 : W12.cell? ⟨W0.heap.size, 0, none⟩ = some (.int .i64 0) := x6.cell 0
                have f0 := x6.frozen 0
                have c1 : W12.cell? ⟨W0.heap.size, 1, none⟩ = some (.bool false) := x6.cell 1
                have f1 := x6.frozen 1
                have c2 : W12.cell? ⟨W0.heap.size, 2, none⟩ = some (.int .u64 0) := x6.cell 2
                have f2 := x6.frozen 2
                have c3 : W12.cell? ⟨W0.heap.size, 3, none⟩ = some (.string ⟨#[]⟩) := x6.cell 3
                have f3 := x6.frozen 3
                have c4 : W12.cell? ⟨W0.heap.size, 4, none⟩ = some (.int .i64 0) := x6.cell 4
                have f4 := x6.frozen 4
                have c5 : W12.cell? ⟨W0.heap.size, 5, none⟩ = some (.slice none 0 0) := x6.cell 5
                have f5 := x6.frozen 5
                go_simp
                have hge : wr.heap.size ≤ W0.heap.size := hx6
                have hB' : Below wr.heap.size wr ((((((W12.setCell ⟨W0.heap.size, 0, none⟩ (.int .i64 s.sort)).setCell ⟨W0.heap.size, 1, none⟩ (.bool s.flag)).setCell ⟨W0.heap.size, 2, none⟩ (.int .u64 (s.bits : Int))).setCell ⟨W0.heap.size, 3, none⟩ (.string ⟨s.text.toArray⟩)).setCell ⟨W0.heap.size, 4, none⟩ (.int .i64 s.count)).setCell ⟨W0.heap.size, 5, none⟩ (.slice Ka s.keys.length qa)) := ((((((hB.setCell (p := ⟨W0.heap.size, 0, none⟩) hge (.int .i64 s.sort)).setCell (p := ⟨W0.heap.size, 1, none⟩) hge (.bool s.flag)).setCell (p := ⟨W0.heap.size, 2, none⟩) hge (.int .u64 (s.bits : Int))).setCell (p := ⟨W0.heap.size, 3, none⟩) hge (.string ⟨s.text.toArray⟩)).setCell (p := ⟨W0.heap.size, 4, none⟩) hge (.int .i64 s.count)).setCell (p := ⟨W0.heap.size, 5, none⟩) hge (.slice Ka s.keys.length qa))
                have y : Blk ((((((W12.setCell ⟨W0.heap.size, 0, none⟩ (.int .i64 s.sort)).setCell ⟨W0.heap.size, 1, none⟩ (.bool s.flag)).setCell ⟨W0.heap.size, 2, none⟩ (.int .u64 (s.bits : Int))).setCell ⟨W0.heap.size, 3, none⟩ (.string ⟨s.text.toArray⟩)).setCell ⟨W0.heap.size, 4, none⟩ (.int .i64 s.count)).setCell ⟨W0.heap.size, 5, none⟩ (.slice Ka s.keys.length qa)) W0.heap.size 81 (cell6 s Ka qa).toArray := ((((((x6.put 0 (.int .i64 s.sort)).put 1 (.bool s.flag)).put 2 (.int .u64 (s.bits : Int))).put 3 (.string ⟨s.text.toArray⟩)).put 4 (.int .i64 s.count)).put 5 (.slice Ka s.keys.length qa))
                have hne : W11.heap.size ≠ W0.heap.size := hd67.symm
                have z := ((((((x7.far (p := ⟨W0.heap.size, 0, none⟩) hne (.int .i64 s.sort)).far (p := ⟨W0.heap.size, 1, none⟩) hne (.bool s.flag)).far (p := ⟨W0.heap.size, 2, none⟩) hne (.int .u64 (s.bits : Int))).far (p := ⟨W0.heap.size, 3, none⟩) hne (.string ⟨s.text.toArray⟩)).far (p := ⟨W0.heap.size, 4, none⟩) hne (.int .i64 s.count)).far (p := ⟨W0.heap.size, 5, none⟩) hne (.slice Ka s.keys.length qa))
                refine hK.out _ _ (ALL _ hB') (fun hHeld => ?_)
                clear hK K
                clear hB c0 c1 c2 c3 c4 c5 f0 f1 f2 f3 f4 f5 x6
                have hB := hB'
                have x6 := y
                clear hB' y
                clear x7
                have x7 := z
                clear z
                generalize ((((((W12.setCell ⟨W0.heap.size, 0, none⟩ (.int .i64 s.sort)).setCell ⟨W0.heap.size, 1, none⟩ (.bool s.flag)).setCell ⟨W0.heap.size, 2, none⟩ (.int .u64 (s.bits : Int))).setCell ⟨W0.heap.size, 3, none⟩ (.string ⟨s.text.toArray⟩)).setCell ⟨W0.heap.size, 4, none⟩ (.int .i64 s.count)).setCell ⟨W0.heap.size, 5, none⟩ (.slice Ka s.keys.length qa)) = W13 at *
                refine wpAnyH_ready (rs := [12]) (by kernel_rfl) (by simp) ?_
                refine AllReadyH.cons rfl (fun K hK => ?_) (AllReadyH.nil)
                · have c0 : W13.cell? ⟨W11.heap.size, 0, none⟩ = some (.int .i64 0) := x7.cell 0
                  have f0 := x7.frozen 0
                  have c1 : W13.cell? ⟨W11.heap.size, 1, none⟩ = some (.bool false) := x7.cell 1
                  have f1 := x7.frozen 1
                  have c2 : W13.cell? ⟨W11.heap.size, 2, none⟩ = some (.int .u64 0) := x7.cell 2
                  have f2 := x7.frozen 2
                  have c3 : W13.cell? ⟨W11.heap.size, 3, none⟩ = some (.string ⟨#[]⟩) := x7.cell 3
                  have f3 := x7.frozen 3
                  have c4 : W13.cell? ⟨W11.heap.size, 4, none⟩ = some (.int .i64 0) := x7.cell 4
                  have f4 := x7.frozen 4
                  have c5 : W13.cell? ⟨W11.heap.size, 5, none⟩ = some (.slice none 0 0) := x7.cell 5
                  have f5 := x7.frozen 5
                  go_simp
                  have hge : wr.heap.size ≤ W11.heap.size := hx7
                  have hB' : Below wr.heap.size wr ((((((W13.setCell ⟨W11.heap.size, 0, none⟩ (.int .i64 s.sort)).setCell ⟨W11.heap.size, 1, none⟩ (.bool s.flag)).setCell ⟨W11.heap.size, 2, none⟩ (.int .u64 (s.bits : Int))).setCell ⟨W11.heap.size, 3, none⟩ (.string ⟨s.text.toArray⟩)).setCell ⟨W11.heap.size, 4, none⟩ (.int .i64 s.count)).setCell ⟨W11.heap.size, 5, none⟩ (.slice Kb s.keys.length qb)) := ((((((hB.setCell (p := ⟨W11.heap.size, 0, none⟩) hge (.int .i64 s.sort)).setCell (p := ⟨W11.heap.size, 1, none⟩) hge (.bool s.flag)).setCell (p := ⟨W11.heap.size, 2, none⟩) hge (.int .u64 (s.bits : Int))).setCell (p := ⟨W11.heap.size, 3, none⟩) hge (.string ⟨s.text.toArray⟩)).setCell (p := ⟨W11.heap.size, 4, none⟩) hge (.int .i64 s.count)).setCell (p := ⟨W11.heap.size, 5, none⟩) hge (.slice Kb s.keys.length qb))
                  have y : Blk ((((((W13.setCell ⟨W11.heap.size, 0, none⟩ (.int .i64 s.sort)).setCell ⟨W11.heap.size, 1, none⟩ (.bool s.flag)).setCell ⟨W11.heap.size, 2, none⟩ (.int .u64 (s.bits : Int))).setCell ⟨W11.heap.size, 3, none⟩ (.string ⟨s.text.toArray⟩)).setCell ⟨W11.heap.size, 4, none⟩ (.int .i64 s.count)).setCell ⟨W11.heap.size, 5, none⟩ (.slice Kb s.keys.length qb)) W11.heap.size 81 (cell6 s Kb qb).toArray := ((((((x7.put 0 (.int .i64 s.sort)).put 1 (.bool s.flag)).put 2 (.int .u64 (s.bits : Int))).put 3 (.string ⟨s.text.toArray⟩)).put 4 (.int .i64 s.count)).put 5 (.slice Kb s.keys.length qb))
                  have hne : W0.heap.size ≠ W11.heap.size := hd67
                  have z := ((((((x6.far (p := ⟨W11.heap.size, 0, none⟩) hne (.int .i64 s.sort)).far (p := ⟨W11.heap.size, 1, none⟩) hne (.bool s.flag)).far (p := ⟨W11.heap.size, 2, none⟩) hne (.int .u64 (s.bits : Int))).far (p := ⟨W11.heap.size, 3, none⟩) hne (.string ⟨s.text.toArray⟩)).far (p := ⟨W11.heap.size, 4, none⟩) hne (.int .i64 s.count)).far (p := ⟨W11.heap.size, 5, none⟩) hne (.slice Kb s.keys.length qb))
                  refine hK.out _ _ (ALL _ hB') (fun hHeld => ?_)
                  clear hK K
                  clear hB c0 c1 c2 c3 c4 c5 f0 f1 f2 f3 f4 f5 x7
                  have hB := hB'
                  have x7 := y
                  clear hB' y
                  clear x6
                  have x6 := z
                  clear z
                  generalize ((((((W13.setCell ⟨W11.heap.size, 0, none⟩ (.int .i64 s.sort)).setCell ⟨W11.heap.size, 1, none⟩ (.bool s.flag)).setCell ⟨W11.heap.size, 2, none⟩ (.int .u64 (s.bits : Int))).setCell ⟨W11.heap.size, 3, none⟩ (.string ⟨s.text.toArray⟩)).setCell ⟨W11.heap.size, 4, none⟩ (.int .i64 s.count)).setCell ⟨W11.heap.size, 5, none⟩ (.slice Kb s.keys.length qb)) = W14 at *
                  refine wpAnyH_done (by kernel_rfl) ?_ _
                  go_wp2
                  go_meet
                  exact ⟨rfl, W0.heap.size, W11.heap.size, rfl, rfl, Lib.hid ⟨x6, x7, hB⟩⟩
          · go_simp
            have hB' := hB.alloc hB.size (.cells #[.int .i64 0, .bool false, .int .u64 0, .string ⟨#[]⟩, .int .i64 0, .slice none 0 0] 81)
            have x7 := Blk.new W10 81 #[.int .i64 0, .bool false, .int .u64 0, .string ⟨#[]⟩, .int .i64 0, .slice none 0 0]
            have hx7 : wr.heap.size ≤ W10.heap.size := hB.size
            have hd67 : W0.heap.size ≠ W10.heap.size := by have := x6.lt; omega
            replace x6 := x6.alloc (.cells #[.int .i64 0, .bool false, .int .u64 0, .string ⟨#[]⟩, .int .i64 0, .slice none 0 0] 81)
            refine hK.out _ _ (ALL _ hB') (fun hHeld => ?_)
            clear hK K
            clear hB
            have hB := hB'
            clear hB'
            generalize W10.alloc (.cells #[.int .i64 0, .bool false, .int .u64 0, .string ⟨#[]⟩, .int .i64 0, .slice none 0 0] 81) = W15 at *
            refine wpAnyH_ready (rs := [4]) (by kernel_rfl) (by simp) ?_
            refine AllReadyH.cons rfl (fun K hK => ?_) (AllReadyH.nil)
            · go_simp
              go_at_call 34
              ((with_reducible refine (lstep_any s Ka qa _).mono ?_); rintro e W16 ⟨rfl, hb2⟩; dsimp only)
              have hB' := hB.trans (hb2.mono hB.size)
              replace x6 := x6.below hb2 x6.lt
              replace x7 := x7.below hb2 x7.lt
              refine hK.out _ _ (ALL _ hB') (fun hHeld => ?_)
              clear hK K
              clear hB
              have hB := hB'
              clear hB' hb2
              refine wpAnyH_ready (rs := [11]) (by kernel_rfl) (by simp) ?_
              refine AllReadyH.cons rfl (fun K hK => ?_) (AllReadyH.nil)
              · have c0 : W16.cell? ⟨W0.heap.size, 0, none⟩ = some (.int .i64 0) := x6.cell 0
                have f0 := x6.frozen 0
                have c1 : W16.cell? ⟨W0.heap.size, 1, none⟩ = some (.bool false) := x6.cell 1
                have f1 := x6.frozen 1
                have c2 : W16.cell? ⟨W0.heap.size, 2, none⟩ = some (.int .u64 0) := x6.cell 2
                have f2 := x6.frozen 2
                have c3 : W16.cell? ⟨W0.heap.size, 3, none⟩ = some (.string ⟨#[]⟩) := x6.cell 3
                have f3 := x6.frozen 3
                have c4 : W16.cell? ⟨W0.heap.size, 4, none⟩ = some (.int .i64 0) := x6.cell 4
                have f4 := x6.frozen 4
                have c5 : W16.cell? ⟨W0.heap.size, 5, none⟩ = some (.slice none 0 0) := x6.cell 5
                have f5 := x6.frozen 5
                go_simp
                have hge : wr.heap.size ≤ W0.heap.size := hx6
                have hB' : Below wr.heap.size wr ((((((W16.setCell ⟨W0.heap.size, 0, none⟩ (.int .i64 s.sort)).setCell ⟨W0.heap.size, 1, none⟩ (.bool s.flag)).setCell ⟨W0.heap.size, 2, none⟩ (.int .u64 (s.bits : Int))).setCell ⟨W0.heap.size, 3, none⟩ (.string ⟨s.text.toArray⟩)).setCell ⟨W0.heap.size, 4, none⟩ (.int .i64 s.count)).setCell ⟨W0.heap.size, 5, none⟩ (.slice Ka s.keys.length qa)) := ((((((hB.setCell (p := ⟨W0.heap.size, 0, none⟩) hge (.int .i64 s.sort)).setCell (p := ⟨W0.heap.size, 1, none⟩) hge (.bool s.flag)).setCell (p := ⟨W0.heap.size, 2, none⟩) hge (.int .u64 (s.bits : Int))).setCell (p := ⟨W0.heap.size, 3, none⟩) hge (.string ⟨s.text.toArray⟩)).setCell (p := ⟨W0.heap.size, 4, none⟩) hge (.int .i64 s.count)).setCell (p := ⟨W0.heap.size, 5, none⟩) hge (.slice Ka s.keys.length qa))
                have y : Blk ((((((W16.setCell ⟨W0.heap.size, 0, none⟩ (.int .i64 s.sort)).setCell ⟨W0.heap.size, 1, none⟩ (.bool s.flag)).setCell ⟨W0.heap.size, 2, none⟩ (.int .u64 (s.bits : Int))).setCell ⟨W0.heap.size, 3, none⟩ (.string ⟨s.text.toArray⟩)).setCell ⟨W0.heap.size, 4, none⟩ (.int .i64 s.count)).setCell ⟨W0.heap.size, 5, none⟩ (.slice Ka s.keys.length qa)) W0.heap.size 81 (cell6 s Ka qa).toArray := ((((((x6.put 0 (.int .i64 s.sort)).put 1 (.bool s.flag)).put 2 (.int .u64 (s.bits : Int))).put 3 (.string ⟨s.text.toArray⟩)).put 4 (.int .i64 s.count)).put 5 (.slice Ka s.keys.length qa))
                have hne : W10.heap.size ≠ W0.heap.size := hd67.symm
                have z := ((((((x7.far (p := ⟨W0.heap.size, 0, none⟩) hne (.int .i64 s.sort)).far (p := ⟨W0.heap.size, 1, none⟩) hne (.bool s.flag)).far (p := ⟨W0.heap.size, 2, none⟩) hne (.int .u64 (s.bits : Int))).far (p := ⟨W0.heap.size, 3, none⟩) hne (.string ⟨s.text.toArray⟩)).far (p := ⟨W0.heap.size, 4, none⟩) hne (.int .i64 s.count)).far (p := ⟨W0.heap.size, 5, none⟩) hne (.slice Ka s.keys.length qa))
                refine hK.out _ _ (ALL _ hB') (fun hHeld => ?_)
                clear hK K
                clear hB c0 c1 c2 c3 c4 c5 f0 f1 f2 f3 f4 f5 x6
                have hB := hB'
                have x6 := y
                clear hB' y
                clear x7
                have x7 := z
                clear z
                generalize ((((((W16.setCell ⟨W0.heap.size, 0, none⟩ (.int .i64 s.sort)).setCell ⟨W0.heap.size, 1, none⟩ (.bool s.flag)).setCell ⟨W0.heap.size, 2, none⟩ (.int .u64 (s.bits : Int))).setCell ⟨W0.heap.size, 3, none⟩ (.string ⟨s.text.toArray⟩)).setCell ⟨W0.heap.size, 4, none⟩ (.int .i64 s.count)).setCell ⟨W0.heap.size, 5, none⟩ (.slice Ka s.keys.length qa)) = W17 at *
                refine wpAnyH_ready (rs := [12]) (by kernel_rfl) (by simp) ?_
                refine AllReadyH.cons rfl (fun K hK => ?_) (AllReadyH.nil)
                · have c0 : W17.cell? ⟨W10.heap.size, 0, none⟩ = some (.int .i64 0) := x7.cell 0
                  have f0 := x7.frozen 0
                  have c1 : W17.cell? ⟨W10.heap.size, 1, none⟩ = some (.bool false) := x7.cell 1
                  have f1 := x7.frozen 1
                  have c2 : W17.cell? ⟨W10.heap.size, 2, none⟩ = some (.int .u64 0) := x7.cell 2
                  have f2 := x7.frozen 2
                  have c3 : W17.cell? ⟨W10.heap.size, 3, none⟩ = some (.string ⟨#[]⟩) := x7.cell 3
                  have f3 := x7.frozen 3
                  have c4 : W17.cell? ⟨W10.heap.size, 4, none⟩ = some (.int .i64 0) := x7.cell 4
                  have f4 := x7.frozen 4
                  have c5 : W17.cell? ⟨W10.heap.size, 5, none⟩ = some (.slice none 0 0) := x7.cell 5
                  have f5 := x7.frozen 5
                  go_simp
                  have hge : wr.heap.size ≤ W10.heap.size := hx7
                  have hB' : Below wr.heap.size wr ((((((W17.setCell ⟨W10.heap.size, 0, none⟩ (.int .i64 s.sort)).setCell ⟨W10.heap.size, 1, none⟩ (.bool s.flag)).setCell ⟨W10.heap.size, 2, none⟩ (.int .u64 (s.bits : Int))).setCell ⟨W10.heap.size, 3, none⟩ (.string ⟨s.text.toArray⟩)).setCell ⟨W10.heap.size, 4, none⟩ (.int .i64 s.count)).setCell ⟨W10.heap.size, 5, none⟩ (.slice Kb s.keys.length qb)) := ((((((hB.setCell (p := ⟨W10.heap.size, 0, none⟩) hge (.int .i64 s.sort)).setCell (p := ⟨W10.heap.size, 1, none⟩) hge (.bool s.flag)).setCell (p := ⟨W10.heap.size, 2, none⟩) hge (.int .u64 (s.bits : Int))).setCell (p := ⟨W10.heap.size, 3, none⟩) hge (.string ⟨s.text.toArray⟩)).setCell (p := ⟨W10.heap.size, 4, none⟩) hge (.int .i64 s.count)).setCell (p := ⟨W10.heap.size, 5, none⟩) hge (.slice Kb s.keys.length qb))
                  have y : Blk ((((((W17.setCell ⟨W10.heap.size, 0, none⟩ (.int .i64 s.sort)).setCell ⟨W10.heap.size, 1, none⟩ (.bool s.flag)).setCell ⟨W10.heap.size, 2, none⟩ (.int .u64 (s.bits : Int))).setCell ⟨W10.heap.size, 3, none⟩ (.string ⟨s.text.toArray⟩)).setCell ⟨W10.heap.size, 4, none⟩ (.int .i64 s.count)).setCell ⟨W10.heap.size, 5, none⟩ (.slice Kb s.keys.length qb)) W10.heap.size 81 (cell6 s Kb qb).toArray := ((((((x7.put 0 (.int .i64 s.sort)).put 1 (.bool s.flag)).put 2 (.int .u64 (s.bits : Int))).put 3 (.string ⟨s.text.toArray⟩)).put 4 (.int .i64 s.count)).put 5 (.slice Kb s.keys.length qb))
                  have hne : W0.heap.size ≠ W10.heap.size := hd67
                  have z := ((((((x6.far (p := ⟨W10.heap.size, 0, none⟩) hne (.int .i64 s.sort)).far (p := ⟨W10.heap.size, 1, none⟩) hne (.bool s.flag)).far (p := ⟨W10.heap.size, 2, none⟩) hne (.int .u64 (s.bits : Int))).far (p := ⟨W10.heap.size, 3, none⟩) hne (.string ⟨s.text.toArray⟩)).far (p := ⟨W10.heap.size, 4, none⟩) hne (.int .i64 s.count)).far (p := ⟨W10.heap.size, 5, none⟩) hne (.slice Kb s.keys.length qb))
                  refine hK.out _ _ (ALL _ hB') (fun hHeld => ?_)
                  clear hK K
                  clear hB c0 c1 c2 c3 c4 c5 f0 f1 f2 f3 f4 f5 x7
                  have hB := hB'
                  have x7 := y
                  clear hB' y
                  clear x6
                  have x6 := z
                  clear z
                  generalize ((((((W17.setCell ⟨W10.heap.size, 0, none⟩ (.int .i64 s.sort)).setCell ⟨W10.heap.size, 1, none⟩ (.bool s.flag)).setCell ⟨W10.heap.size, 2, none⟩ (.int .u64 (s.bits : Int))).setCell ⟨W10.heap.size, 3, none⟩ (.string ⟨s.text.toArray⟩)).setCell ⟨W10.heap.size, 4, none⟩ (.int .i64 s.count)).setCell ⟨W10.heap.size, 5, none⟩ (.slice Kb s.keys.length qb)) = W18 at *
                  refine wpAnyH_done (by kernel_rfl) ?_ _
                  go_wp2
                  go_meet
                  exact ⟨rfl, W0.heap.size, W10.heap.size, rfl, rfl, Lib.hid ⟨x6, x7, hB⟩⟩
        · go_simp
          have hB' := hB.alloc hB.size (.cells #[.int .i64 0, .bool false, .int .u64 0, .string ⟨#[]⟩, .int .i64 0, .slice none 0 0] 81)
          have x7 := Blk.new W0 81 #[.int .i64 0, .bool false, .int .u64 0, .string ⟨#[]⟩, .int .i64 0, .slice none 0 0]
          have hx7 : wr.heap.size ≤ W0.heap.size := hB.size
          refine hK.out _ _ (ALL _ hB') (fun hHeld => ?_)
          clear hK K
          clear hB
          have hB := hB'
          clear hB'
          generalize W0.alloc (.cells #[.int .i64 0, .bool false, .int .u64 0, .string ⟨#[]⟩, .int .i64 0, .slice none 0 0] 81) = W19 at *
          refine wpAnyH_ready (rs := [4, 9]) (by kernel_rfl) (by simp) ?_
          refine AllReadyH.cons rfl (fun K hK => ?_) (AllReadyH.cons rfl (fun K hK => ?_) (AllReadyH.nil))
          · go_simp
            go_at_call 34
            ((with_reducible refine (lstep_any s Ka qa _).mono ?_); rintro e W20 ⟨rfl, hb2⟩; dsimp only)
            have hB' := hB.trans (hb2.mono hB.size)
            replace x7 := x7.below hb2 x7.lt
            refine hK.out _ _ (ALL _ hB') (fun hHeld => ?_)
            clear hK K
            clear hB
            have hB := hB'
            clear hB' hb2
            refine wpAnyH_ready (rs := [9]) (by kernel_rfl) (by simp) ?_
            refine AllReadyH.cons rfl (fun K hK => ?_) (AllReadyH.nil)
            · go_simp
              have hB' := hB.alloc hB.size (.cells #[.int .i64 0, .bool false, .int .u64 0, .string ⟨#[]⟩, .int .i64 0, .slice none 0 0] 81)
              have x6 := Blk.new W20 81 #[.int .i64 0, .bool false, .int .u64 0, .string ⟨#[]⟩, .int .i64 0, .slice none 0 0]
              have hx6 : wr.heap.size ≤ W20.heap.size := hB.size
              have hd67 : W20.heap.size ≠ W0.heap.size := by have := x7.lt; omega
              replace x7 := x7.alloc (.cells #[.int .i64 0, .bool false, .int .u64 0, .string ⟨#[]⟩, .int .i64 0, .slice none 0 0] 81)
              refine hK.out _ _ (ALL _ hB') (fun hHeld => ?_)
              clear hK K
              clear hB
              have hB := hB'
              clear hB'
              generalize W20.alloc (.cells #[.int .i64 0, .bool false, .int .u64 0, .string ⟨#[]⟩, .int .i64 0, .slice none 0 0] 81) = W21 at *
              refine wpAnyH_ready (rs := [11]) (by kernel_rfl) (by simp) ?_
              refine AllReadyH.cons rfl (fun K hK => ?_) (AllReadyH.nil)
              · have c0 : W21.cell? ⟨W20.heap.size, 0, none⟩ = some (.int .i64 0) := x6.cell 0
                have f0 := x6.frozen 0
                have c1 : W21.cell? ⟨W20.heap.size, 1, none⟩ = some (.bool false) := x6.cell 1
                have f1 := x6.frozen 1
                have c2 : W21.cell? ⟨W20.heap.size, 2, none⟩ = some (.int .u64 0) := x6.cell 2
                have f2 := x6.frozen 2
                have c3 : W21.cell? ⟨W20.heap.size, 3, none⟩ = some (.string ⟨#[]⟩) := x6.cell 3
                have f3 := x6.frozen 3
                have c4 : W21.cell? ⟨W20.heap.size, 4, none⟩ = some (.int .i64 0) := x6.cell 4
                have f4 := x6.frozen 4
                have c5 : W21.cell? ⟨W20.heap.size, 5, none⟩ = some (.slice none 0 0) := x6.cell 5
                have f5 := x6.frozen 5
                go_simp
                have hge : wr.heap.size ≤ W20.heap.size := hx6
                have hB' : Below wr.heap.size wr ((((((W21.setCell ⟨W20.heap.size, 0, none⟩ (.int .i64 s.sort)).setCell ⟨W20.heap.size, 1, none⟩ (.bool s.flag)).setCell ⟨W20.heap.size, 2, none⟩ (.int .u64 (s.bits : Int))).setCell ⟨W20.heap.size, 3, none⟩ (.string ⟨s.text.toArray⟩)).setCell ⟨W20.heap.size, 4, none⟩ (.int .i64 s.count)).setCell ⟨W20.heap.size, 5, none⟩ (.slice Ka s.keys.length qa)) := ((((((hB.setCell (p := ⟨W20.heap.size, 0, none⟩) hge (.int .i64 s.sort)).setCell (p := ⟨W20.heap.size, 1, none⟩) hge (.bool s.flag)).setCell (p := ⟨W20.heap.size, 2, none⟩) hge (.int .u64 (s.bits : Int))).setCell (p := ⟨W20.heap.size, 3, none⟩) hge (.string ⟨s.text.toArray⟩)).setCell (p := ⟨W20.heap.size, 4, none⟩) hge (.int .i64 s.count)).setCell (p := ⟨W20.heap.size, 5, none⟩) hge (.slice Ka s.keys.length qa))
                have y : Blk ((((((W21.setCell ⟨W20.heap.size, 0, none⟩ (.int .i64 s.sort)).setCell ⟨W20.heap.size, 1, none⟩ (.bool s.flag)).setCell ⟨W20.heap.size, 2, none⟩ (.int .u64 (s.bits : Int))).setCell ⟨W20.heap.size, 3, none⟩ (.string ⟨s.text.toArray⟩)).setCell ⟨W20.heap.size, 4, none⟩ (.int .i64 s.count)).setCell ⟨W20.heap.size, 5, none⟩ (.slice Ka s.keys.length qa)) W20.heap.size 81 (cell6 s Ka qa).toArray := ((((((x6.put 0 (.int .i64 s.sort)).put 1 (.bool s.flag)).put 2 (.int .u64 (s.bits : Int))).put 3 (.string ⟨s.text.toArray⟩)).put 4 (.int .i64 s.count)).put 5 (.slice Ka s.keys.length qa))
                have hne : W0.heap.size ≠ W20.heap.size := hd67.symm
                have z := ((((((x7.far (p := ⟨W20.heap.size, 0, none⟩) hne (.int .i64 s.sort)).far (p := ⟨W20.heap.size, 1, none⟩) hne (.bool s.flag)).far (p := ⟨W20.heap.size, 2, none⟩) hne (.int .u64 (s.bits : Int))).far (p := ⟨W20.heap.size, 3, none⟩) hne (.string ⟨s.text.toArray⟩)).far (p := ⟨W20.heap.size, 4, none⟩) hne (.int .i64 s.count)).far (p := ⟨W20.heap.size, 5, none⟩) hne (.slice Ka s.keys.length qa))
                refine hK.out _ _ (ALL _ hB') (fun hHeld => ?_)
                clear hK K
                clear hB c0 c1 c2 c3 c4 c5 f0 f1 f2 f3 f4 f5 x6
                have hB := hB'
                have x6 := y
                clear hB' y
                clear x7
                have x7 := z
                clear z
                generalize ((((((W21.setCell ⟨W20.heap.size, 0, none⟩ (.int .i64 s.sort)).setCell ⟨W20.heap.size, 1, none⟩ (.bool s.flag)).setCell ⟨W20.heap.size, 2, none⟩ (.int .u64 (s.bits : Int))).setCell ⟨W20.heap.size, 3, none⟩ (.string ⟨s.text.toArray⟩)).setCell ⟨W20.heap.size, 4, none⟩ (.int .i64 s.count)).setCell ⟨W20.heap.size, 5, none⟩ (.slice Ka s.keys.length qa)) = W22 at *
                refine wpAnyH_ready (rs := [12]) (by kernel_rfl) (by simp) ?_
                refine AllReadyH.cons rfl (fun K hK => ?_) (AllReadyH.nil)
                · have c0 : W22.cell? ⟨W0.heap.size, 0, none⟩ = some (.int .i64 0) := x7.cell 0
                  have f0 := x7.frozen 0
                  have c1 : W22.cell? ⟨W0.heap.size, 1, none⟩ = some (.bool false) := x7.cell 1
                  have f1 := x7.frozen 1
                  have c2 : W22.cell? ⟨W0.heap.size, 2, none⟩ = some (.int .u64 0) := x7.cell 2
                  have f2 := x7.frozen 2
                  have c3 : W22.cell? ⟨W0.heap.size, 3, none⟩ = some (.string ⟨#[]⟩) := x7.cell 3
                  have f3 := x7.frozen 3
                  have c4 : W22.cell? ⟨W0.heap.size, 4, none⟩ = some (.int .i64 0) := x7.cell 4
                  have f4 := x7.frozen 4
                  have c5 : W22.cell? ⟨W0.heap.size, 5, none⟩ = some (.slice none 0 0) := x7.cell 5
                  have f5 := x7.frozen 5
                  go_simp
                  have hge : wr.heap.size ≤ W0.heap.size := hx7
                  have hB' : Below wr.heap.size wr ((((((W22.setCell ⟨W0.heap.size, 0, none⟩ (.int .i64 s.sort)).setCell ⟨W0.heap.size, 1, none⟩ (.bool s.flag)).setCell ⟨W0.heap.size, 2, none⟩ (.int .u64 (s.bits : Int))).setCell ⟨W0.heap.size, 3, none⟩ (.string ⟨s.text.toArray⟩)).setCell ⟨W0.heap.size, 4, none⟩ (.int .i64 s.count)).setCell ⟨W0.heap.size, 5, none⟩ (.slice Kb s.keys.length qb)) := ((((((hB.setCell (p := ⟨W0.heap.size, 0, none⟩) hge (.int .i64 s.sort)).setCell (p := ⟨W0.heap.size, 1, none⟩) hge (.bool s.flag)).setCell (p := ⟨W0.heap.size, 2, none⟩) hge (.int .u64 (s.bits : Int))).setCell (p := ⟨W0.heap.size, 3, none⟩) hge (.string ⟨s.text.toArray⟩)).setCell (p := ⟨W0.heap.size, 4, none⟩) hge (.int .i64 s.count)).setCell (p := ⟨W0.heap.size, 5, none⟩) hge (.slice Kb s.keys.length qb))
                  have y : Blk ((((((W22.setCell ⟨W0.heap.size, 0, none⟩ (.int .i64 s.sort)).setCell ⟨W0.heap.size, 1, none⟩ (.bool s.flag)).setCell ⟨W0.heap.size, 2, none⟩ (.int .u64 (s.bits : Int))).setCell ⟨W0.heap.size, 3, none⟩ (.string ⟨s.text.toArray⟩)).setCell ⟨W0.heap.size, 4, none⟩ (.int .i64 s.count)).setCell ⟨W0.heap.size, 5, none⟩ (.slice Kb s.keys.length qb)) W0.heap.size 81 (cell6 s Kb qb).toArray := ((((((x7.put 0 (.int .i64 s.sort)).put 1 (.bool s.flag)).put 2 (.int .u64 (s.bits : Int))).put 3 (.string ⟨s.text.toArray⟩)).put 4 (.int .i64 s.count)).put 5 (.slice Kb s.keys.length qb))
                  have hne : W20.heap.size ≠ W0.heap.size := hd67
                  have z := ((((((x6.far (p := ⟨W0.heap.size, 0, none⟩) hne (.int .i64 s.sort)).far (p := ⟨W0.heap.size, 1, none⟩) hne (.bool s.flag)).far (p := ⟨W0.heap.size, 2, none⟩) hne (.int .u64 (s.bits : Int))).far (p := ⟨W0.heap.size, 3, none⟩) hne (.string ⟨s.text.toArray⟩)).far (p := ⟨W0.heap.size, 4, none⟩) hne (.int .i64 s.count)).far (p := ⟨W0.heap.size, 5, none⟩) hne (.slice Kb s.keys.length qb))
                  refine hK.out _ _ (ALL _ hB') (fun hHeld => ?_)
                  clear hK K
                  clear hB c0 c1 c2 c3 c4 c5 f0 f1 f2 f3 f4 f5 x7
                  have hB := hB'
                  have x7 := y
                  clear hB' y
                  clear x6
                  have x6 := z
                  clear z
                  generalize ((((((W22.setCell ⟨W0.heap.size, 0, none⟩ (.int .i64 s.sort)).setCell ⟨W0.heap.size, 1, none⟩ (.bool s.flag)).setCell ⟨W0.heap.size, 2, none⟩ (.int .u64 (s.bits : Int))).setCell ⟨W0.heap.size, 3, none⟩ (.string ⟨s.text.toArray⟩)).setCell ⟨W0.heap.size, 4, none⟩ (.int .i64 s.count)).setCell ⟨W0.heap.size, 5, none⟩ (.slice Kb s.keys.length qb)) = W23 at *
                  refine wpAnyH_done (by kernel_rfl) ?_ _
                  go_wp2
                  go_meet
                  exact ⟨rfl, W20.heap.size, W0.heap.size, rfl, rfl, Lib.hid ⟨x6, x7, hB⟩⟩
          · go_simp
            have hB' := hB.alloc hB.size (.cells #[.int .i64 0, .bool false, .int .u64 0, .string ⟨#[]⟩, .int .i64 0, .slice none 0 0] 81)
            have x6 := Blk.new W19 81 #[.int .i64 0, .bool false, .int .u64 0, .string ⟨#[]⟩, .int .i64 0, .slice none 0 0]
            have hx6 : wr.heap.size ≤ W19.heap.size := hB.size
            have hd67 : W19.heap.size ≠ W0.heap.size := by have := x7.lt; omega
            replace x7 := x7.alloc (.cells #[.int .i64 0, .bool false, .int .u64 0, .string ⟨#[]⟩, .int .i64 0, .slice none 0 0] 81)
            refine hK.out _ _ (ALL _ hB') (fun hHeld => ?_)
            clear hK K
            clear hB
            have hB := hB'
            clear hB'
            generalize W19.alloc (.cells #[.int .i64 0, .bool false, .int .u64 0, .string ⟨#[]⟩, .int .i64 0, .slice none 0 0] 81) = W24 at *
            refine wpAnyH_ready (rs := [4]) (by kernel_rfl) (by simp) ?_
            refine AllReadyH.cons rfl (fun K hK => ?_) (AllReadyH.nil)
            · go_simp
              go_at_call 34
              ((with_reducible refine (lstep_any s Ka qa _).mono ?_); rintro e W25 ⟨rfl, hb2⟩; dsimp only)
              have hB' := hB.trans (hb2.mono hB.size)
              replace x6 := x6.below hb2 x6.lt
              replace x7 := x7.below hb2 x7.lt
              refine hK.out _ _ (ALL _ hB') (fun hHeld => ?_)
              clear hK K
              clear hB
              have hB := hB'
              clear hB' hb2
              refine wpAnyH_ready (rs := [11]) (by kernel_rfl) (by simp) ?_
              refine AllReadyH.cons rfl (fun K hK => ?_) (AllReadyH.nil)
              · have c0 : W25.cell? ⟨W19.heap.size, 0, none⟩ = some (.int .i64 0) := x6.cell 0
                have f0 := x6.frozen 0
                have c1 : W25.cell? ⟨W19.heap.size, 1, none⟩ = some (.bool false) := x6.cell 1
                have f1 := x6.frozen 1
                have c2 : W25.cell? ⟨W19.heap.size, 2, none⟩ = some (.int .u64 0) := x6.cell 2
                have f2 := x6.frozen 2
                have c3 : W25.cell? ⟨W19.heap.size, 3, none⟩ = some (.string ⟨#[]⟩) := x6.cell 3
                have f3 := x6.frozen 3
                have c4 : W25.cell? ⟨W19.heap.size, 4, none⟩ = some (.int .i64 0) := x6.cell 4
                have f4 := x6.frozen 4
                have c5 : W25.cell? ⟨W19.heap.size, 5, none⟩ = some (.slice none 0 0) := x6.cell 5
                have f5 := x6.frozen 5
                go_simp
                have hge : wr.heap.size ≤ W19.heap.size := hx6
                have hB' : Below wr.heap.size wr ((((((W25.setCell ⟨W19.heap.size, 0, none⟩ (.int .i64 s.sort)).setCell ⟨W19.heap.size, 1, none⟩ (.bool s.flag)).setCell ⟨W19.heap.size, 2, none⟩ (.int .u64 (s.bits : Int))).setCell ⟨W19.heap.size, 3, none⟩ (.string ⟨s.text.toArray⟩)).setCell ⟨W19.heap.size, 4, none⟩ (.int .i64 s.count)).setCell ⟨W19.heap.size, 5, none⟩ (.slice Ka s.keys.length qa)) := ((((((hB.setCell (p := ⟨W19.heap.size, 0, none⟩) hge (.int .i64 s.sort)).setCell (p := ⟨W19.heap.size, 1, none⟩) hge (.bool s.flag)).setCell (p := ⟨W19.heap.size, 2, none⟩) hge (.int .u64 (s.bits : Int))).setCell (p := ⟨W19.heap.size, 3, none⟩) hge (.string ⟨s.text.toArray⟩)).setCell (p := ⟨W19.heap.size, 4, none⟩) hge (.int .i64 s.count)).setCell (p := ⟨W19.heap.size, 5, none⟩) hge (.slice Ka s.keys.length qa))
                have y : Blk ((((((W25.setCell ⟨W19.heap.size, 0, none⟩ (.int .i64 s.sort)).setCell ⟨W19.heap.size, 1, none⟩ (.bool s.flag)).setCell ⟨W19.heap.size, 2, none⟩ (.int .u64 (s.bits : Int))).setCell ⟨W19.heap.size, 3, none⟩ (.string ⟨s.text.toArray⟩)).setCell ⟨W19.heap.size, 4, none⟩ (.int .i64 s.count)).setCell ⟨W19.heap.size, 5, none⟩ (.slice Ka s.keys.length qa)) W19.heap.size 81 (cell6 s Ka qa).toArray := ((((((x6.put 0 (.int .i64 s.sort)).put 1 (.bool s.flag)).put 2 (.int .u64 (s.bits : Int))).put 3 (.string ⟨s.text.toArray⟩)).put 4 (.int .i64 s.count)).put 5 (.slice Ka s.keys.length qa))
                have hne : W0.heap.size ≠ W19.heap.size := hd67.symm
                have z := ((((((x7.far (p := ⟨W19.heap.size, 0, none⟩) hne (.int .i64 s.sort)).far (p := ⟨W19.heap.size, 1, none⟩) hne (.bool s.flag)).far (p := ⟨W19.heap.size, 2, none⟩) hne (.int .u64 (s.bits : Int))).far (p := ⟨W19.heap.size, 3, none⟩) hne (.string ⟨s.text.toArray⟩)).far (p := ⟨W19.heap.size, 4, none⟩) hne (.int .i64 s.count)).far (p := ⟨W19.heap.size, 5, none⟩) hne (.slice Ka s.keys.length qa))
                refine hK.out _ _ (ALL _ hB') (fun hHeld => ?_)
                clear hK K
                clear hB c0 c1 c2 c3 c4 c5 f0 f1 f2 f3 f4 f5 x6
                have hB := hB'
                have x6 := y
                clear hB' y
                clear x7
                have x7 := z
                clear z
                generalize ((((((W25.setCell ⟨W19.heap.size, 0, none⟩ (.int .i64 s.sort)).setCell ⟨W19.heap.size, 1, none⟩ (.bool s.flag)).setCell ⟨W19.heap.size, 2, none⟩ (.int .u64 (s.bits : Int))).setCell ⟨W19.heap.size, 3, none⟩ (.string ⟨s.text.toArray⟩)).setCell ⟨W19.heap.size, 4, none⟩ (.int .i64 s.count)).setCell ⟨W19.heap.size, 5, none⟩ (.slice Ka s.keys.length qa)) = W26 at *
                refine wpAnyH_ready (rs := [12]) (by kernel_rfl) (by simp) ?_
                refine AllReadyH.cons rfl (fun K hK => ?_) (AllReadyH.nil)
                · have c0 : W26.cell? ⟨W0.heap.size, 0, none⟩ = some (.int .i64 0) := x7.cell 0
                  have f0 := x7.frozen 0
                  have c1 : W26.cell? ⟨W0.heap.size, 1, none⟩ = some (.bool false) := x7.cell 1
                  have f1 := x7.frozen 1
                  have c2 : W26.cell? ⟨W0.heap.size, 2, none⟩ = some (.int .u64 0) := x7.cell 2
                  have f2 := x7.frozen 2
                  have c3 : W26.cell? ⟨W0.heap.size, 3, none⟩ = some (.string ⟨#[]⟩) := x7.cell 3
                  have f3 := x7.frozen 3
                  have c4 : W26.cell? ⟨W0.heap.size, 4, none⟩ = some (.int .i64 0) := x7.cell 4
                  have f4 := x7.frozen 4
                  have c5 : W26.cell? ⟨W0.heap.size, 5, none⟩ = some (.slice none 0 0) := x7.cell 5
                  have f5 := x7.frozen 5
                  go_simp
                  have hge : wr.heap.size ≤ W0.heap.size := hx7
                  have hB' : Below wr.heap.size wr ((((((W26.setCell ⟨W0.heap.size, 0, none⟩ (.int .i64 s.sort)).setCell ⟨W0.heap.size, 1, none⟩ (.bool s.flag)).setCell ⟨W0.heap.size, 2, none⟩ (.int .u64 (s.bits : Int))).setCell ⟨W0.heap.size, 3, none⟩ (.string ⟨s.text.toArray⟩)).setCell ⟨W0.heap.size, 4, none⟩ (.int .i64 s.count)).setCell ⟨W0.heap.size, 5, none⟩ (.slice Kb s.keys.length qb)) := ((((((hB.setCell (p := ⟨W0.heap.size, 0, none⟩) hge (.int .i64 s.sort)).setCell (p := ⟨W0.heap.size, 1, none⟩) hge (.bool s.flag)).setCell (p := ⟨W0.heap.size, 2, none⟩) hge (.int .u64 (s.bits : Int))).setCell (p := ⟨W0.heap.size, 3, none⟩) hge (.string ⟨s.text.toArray⟩)).setCell (p := ⟨W0.heap.size, 4, none⟩) hge (.int .i64 s.count)).setCell (p := ⟨W0.heap.size, 5, none⟩) hge (.slice Kb s.keys.length qb))
                  have y : Blk ((((((W26.setCell ⟨W0.heap.size, 0, none⟩ (.int .i64 s.sort)).setCell ⟨W0.heap.size, 1, none⟩ (.bool s.flag)).setCell ⟨W0.heap.size, 2, none⟩ (.int .u64 (s.bits : Int))).setCell ⟨W0.heap.size, 3, none⟩ (.string ⟨s.text.toArray⟩)).setCell ⟨W0.heap.size, 4, none⟩ (.int .i64 s.count)).setCell ⟨W0.heap.size, 5, none⟩ (.slice Kb s.keys.length qb)) W0.heap.size 81 (cell6 s Kb qb).toArray := ((((((x7.put 0 (.int .i64 s.sort)).put 1 (.bool s.flag)).put 2 (.int .u64 (s.bits : Int))).put 3 (.string ⟨s.text.toArray⟩)).put 4 (.int .i64 s.count)).put 5 (.slice Kb s.keys.length qb))
                  have hne : W19.heap.size ≠ W0.heap.size := hd67
                  have z := ((((((x6.far (p := ⟨W0.heap.size, 0, none⟩) hne (.int .i64 s.sort)).far (p := ⟨W0.heap.size, 1, none⟩) hne (.bool s.flag)).far (p := ⟨W0.heap.size, 2, none⟩) hne (.int .u64 (s.bits : Int))).far (p := ⟨W0.heap.size, 3, none⟩) hne (.string ⟨s.text.toArray⟩)).far (p := ⟨W0.heap.size, 4, none⟩) hne (.int .i64 s.count)).far (p := ⟨W0.heap.size, 5, none⟩) hne (.slice Kb s.keys.length qb))
                  refine hK.out _ _ (ALL _ hB') (fun hHeld => ?_)
                  clear hK K
                  clear hB c0 c1 c2 c3 c4 c5 f0 f1 f2 f3 f4 f5 x7
                  have hB := hB'
                  have x7 := y
                  clear hB' y
                  clear x6
                  have x6 := z
                  clear z
                  generalize ((((((W26.setCell ⟨W0.heap.size, 0, none⟩ (.int .i64 s.sort)).setCell ⟨W0.heap.size, 1, none⟩ (.bool s.flag)).setCell ⟨W0.heap.size, 2, none⟩ (.int .u64 (s.bits : Int))).setCell ⟨W0.heap.size, 3, none⟩ (.string ⟨s.text.toArray⟩)).setCell ⟨W0.heap.size, 4, none⟩ (.int .i64 s.count)).setCell ⟨W0.heap.size, 5, none⟩ (.slice Kb s.keys.length qb)) = W27 at *
                  refine wpAnyH_done (by kernel_rfl) ?_ _
                  go_wp2
                  go_meet
                  exact ⟨rfl, W19.heap.size, W0.heap.size, rfl, rfl, Lib.hid ⟨x6, x7, hB⟩⟩
      case rest =>
        obtain ⟨rfl, b6, b7, rfl, rfl, HX⟩ := hcut
        have hx := HX.out
        have p0 : wc.cell? ⟨b6, 0, none⟩ = some (.int .i64 s.sort) := hx.1.cell 0
        have p1 : wc.cell? ⟨b6, 1, none⟩ = some (.bool s.flag) := hx.1.cell 1
        have p2 : wc.cell? ⟨b6, 2, none⟩ = some (.int .u64 (s.bits : Int)) := hx.1.cell 2
        have p3 : wc.cell? ⟨b6, 3, none⟩ = some (.string ⟨s.text.toArray⟩) := hx.1.cell 3
        have p4 : wc.cell? ⟨b6, 4, none⟩ = some (.int .i64 s.count) := hx.1.cell 4
        have p5 : wc.cell? ⟨b6, 5, none⟩ = some (.slice Ka s.keys.length qa) := hx.1.cell 5
        have r0 : wc.cell? ⟨b7, 0, none⟩ = some (.int .i64 s.sort) := hx.2.1.cell 0
        have r1 : wc.cell? ⟨b7, 1, none⟩ = some (.bool s.flag) := hx.2.1.cell 1
        have r2 : wc.cell? ⟨b7, 2, none⟩ = some (.int .u64 (s.bits : Int)) := hx.2.1.cell 2
        have r3 : wc.cell? ⟨b7, 3, none⟩ = some (.string ⟨s.text.toArray⟩) := hx.2.1.cell 3
        have r4 : wc.cell? ⟨b7, 4, none⟩ = some (.int .i64 s.count) := hx.2.1.cell 4
        have r5 : wc.cell? ⟨b7, 5, none⟩ = some (.slice Kb s.keys.length qb) := hx.2.1.cell 5
        have hbc := hbr.trans (hx.2.2.mono hbr.size)
        have hbs : ((⟨s.text.toArray⟩ : ByteArray) == ⟨s.text.toArray⟩) = true := by rw [bytes_beq]; simp
        have hklen : s.keys.length ≤ 1099511627776 := HFI.out.kn
        have hbx := hx.2.2
        have hlt6 := hx.1.lt
        have hlt7 := hx.2.1.lt
        have HKA := Lib.hid (HCA.out.ks.below hbx)
        have HKB := Lib.hid (HCB.out.ks.below hbx)
        clear hx
        go_wp2_with fail
        clear p0 p1 p2 p3 p4 r0 r1 r2 r3 r4
        go_loopw [73] (fun c73 wy => ∃ j : Nat, j ≤ s.keys.length ∧ c73 = .int .i64 j ∧ Below wc.heap.size wc wy) (fun c73 _ => s.keys.length - (intOf c73).toNat)
        case atStart => exact ⟨0, Nat.zero_le _, rfl, Below.refl _ _⟩
        case round =>
          obtain ⟨j, hj, rfl, hby⟩ := hrel
          have p5' := (hby.cell (p := ⟨b6, 5, none⟩) hlt6).trans p5
          have r5' := (hby.cell (p := ⟨b7, 5, none⟩) hlt7).trans r5
          by_cases hjl : j < s.keys.length
          · obtain ⟨gk, ok, rfl, hck⟩ := rdk_cell (HKA.out.below hby) hjl
            obtain ⟨gl, ol, rfl, hcl⟩ := rdk_cell (HKB.out.below hby) hjl
            have hj0 : (0 : Int) ≤ (j : Int) := by omega
            have hj1 : (j : Int) < (s.keys.length : Int) := by omega
            have hks : ((⟨(s.keys[j]).toArray⟩ : ByteArray) == ⟨(s.keys[j]).toArray⟩) = true := by rw [bytes_beq]; simp
            generalize s.keys[j] = kt at *
            clear p5 r5
            go_wp2_with fail
            go_quiet (fail)
            go_wp2
            go_roundw
            case rel => exact ⟨j + 1, by omega, by go_num, hby.trans (drewN_below _ _)⟩
            case measure => simp [intOf]; omega
          · obtain rfl : j = s.keys.length := by omega
            go_wp2
            go_roundw
            case rel => exact ⟨k + 1, by omega, by go_num, hbc.trans (hby.mono hbc.size)⟩
            case measure => simp [intOf]; omega
    · obtain rfl : k = ss.length := by omega
      go_wp2
      go_ret
      exact ⟨rfl, hbr⟩
end Nd
end Go.Proofs.YtfhfkggkbeahbaaGreat
