/-
  Walks of package node: summed.
-/
import Derived.Test.YtfhfkggkbeahbaaNtM
namespace Go.Proofs.Ytfhfkggkbeahbaa
open Go.RowKit Mem
set_option linter.unusedVariables false
namespace Nd

/-- how a loop over the items stands -/
structure SumSt (w : World) (l : List Tr) (b k : Nat) (wr : World) : Prop where
  bl : Below w.heap.size w wr
  rs : Blk wr w.heap.size 88 #[.int .i64 0, .int .i64 0, .int .i64 0]
  st : Blk wr (w.heap.size + 1) 88 #[.int .i64 ((1 + nodesL (l.take k) : Nat) : Int), .int .i64 ((b + bytesL (l.take k) : Nat) : Int), .int .i64 ((depthL (l.take k) : Nat) : Int)]
theorem SumSt.next {w wr w1 : World} {l : List Tr} {b k : Nat} (h : SumSt w l b k wr) (hb1 : Below wr.heap.size wr w1) (x y z : Int) (o : Obj)
    (hx : x = ((1 + nodesL (l.take (k + 1)) : Nat) : Int)) (hy : y = ((b + bytesL (l.take (k + 1)) : Nat) : Int)) (hz : z = ((depthL (l.take (k + 1)) : Nat) : Int)) :
    SumSt w l b (k + 1) ((((w1.setCell ⟨w.heap.size + 1, 0, none⟩ (.int .i64 x)).setCell ⟨w.heap.size + 1, 1, none⟩ (.int .i64 y)).setCell ⟨w.heap.size + 1, 2, none⟩ (.int .i64 z)).alloc o) := by
  have h1 := h.st.lt
  have hs := hb1.size
  refine ⟨?_, ?_, ?_⟩
  · exact (((((h.bl.trans (hb1.mono (by omega))).setCell (p := ⟨w.heap.size + 1, 0, none⟩) (by show w.heap.size ≤ w.heap.size + 1; omega) _).setCell (p := ⟨w.heap.size + 1, 1, none⟩) (by show w.heap.size ≤ w.heap.size + 1; omega) _).setCell (p := ⟨w.heap.size + 1, 2, none⟩) (by show w.heap.size ≤ w.heap.size + 1; omega) _).alloc (by simp; omega) _)
  · exact ((((h.rs.below hb1 h.rs.lt).far (p := ⟨w.heap.size + 1, 0, none⟩) (by show w.heap.size ≠ w.heap.size + 1; omega) _).far (p := ⟨w.heap.size + 1, 1, none⟩) (by show w.heap.size ≠ w.heap.size + 1; omega) _).far (p := ⟨w.heap.size + 1, 2, none⟩) (by show w.heap.size ≠ w.heap.size + 1; omega) _).alloc _
  · have := ((((h.st.below hb1 h1).put 0 (.int .i64 x)).put 1 (.int .i64 y)).put 2 (.int .i64 z)).alloc o
    rw [hx, hy, hz] at this ⊢
    exact this
theorem SumSt.start (w : World) (l : List Tr) (b : Nat) : SumSt w l b 0 ((w.alloc (.cells #[.int .i64 0, .int .i64 0, .int .i64 0] 88)).alloc (.cells #[.int .i64 1, .int .i64 b, .int .i64 0] 88)) := by
  refine ⟨((Below.refl _ _).alloc (Nat.le_refl _) _).alloc (by simp) _, (Blk.new _ _ _).alloc _, ?_⟩
  have := Blk.new (w.alloc (.cells #[.int .i64 0, .int .i64 0, .int .i64 0] 88)) 88 #[.int .i64 1, .int .i64 b, .int .i64 0]
  simpa [nodesL, bytesL, depthL] using this
set_option maxRecDepth 100000 in
set_option maxHeartbeats 4000000 in
theorem summed_any (S : Nat → Prop) (v : Value) (vs : List Value) (l : List Tr) (b : Nat) (w : World) (hR : Row S w 46 v vs) (hL : RdL S w l vs) (hb : b ≤ 1099511627776) (hlen : l.length ≤ 65536) (hfit : ∀ t ∈ l, t.fit = true) :
    Calls Try.prog 42 #[v, .int .i64 b] w fun e w' => e = .returned (.agg #[.int .i64 ((1 + nodesL l : Nat) : Int), .int .i64 ((b + bytesL l : Nat) : Int), .int .i64 ((depthL l + 1 : Nat) : Int)]) ∧ Below w.heap.size w w' := by
  obtain ⟨A, c, rfl, hA⟩ := hR
  have hvl := hL.len
  rw [hvl]
  have HF := Lib.hid hfit
  have HA := Lib.hid hA
  have HL := Lib.hid hL
  have HV := Lib.hid hvl
  clear hfit hA hL hvl
  go_enter Try.func42, Try.ntmps42
  go_wp2
  go_loopw [13] (fun c13 wr => ∃ k : Nat, k ≤ l.length ∧ c13 = .int .i64 k ∧ SumSt w l b k wr) (fun c13 _ => l.length - (intOf c13).toNat)
  case atStart => exact ⟨0, by omega, rfl, SumSt.start w l b⟩
  case round =>
    obtain ⟨k, hk, rfl, hS⟩ := hrel
    have hS0 : wr.cell? ⟨w.heap.size + 1, 0, none⟩ = some (.int .i64 ((1 + nodesL (l.take k) : Nat) : Int)) := hS.st.cell 0
    have hS1 : wr.cell? ⟨w.heap.size + 1, 1, none⟩ = some (.int .i64 ((b + bytesL (l.take k) : Nat) : Int)) := hS.st.cell 1
    have hS2 : wr.cell? ⟨w.heap.size + 1, 2, none⟩ = some (.int .i64 ((depthL (l.take k) : Nat) : Int)) := hS.st.cell 2
    have hF0 := hS.st.frozen 0
    have hF1 := hS.st.frozen 1
    have hF2 := hS.st.frozen 2
    by_cases hlt : k < l.length
    · rcases HA.out with h | ⟨g, o, cur, rfl, hSg, hBg, hcur⟩
      · have := HV.out
        rw [h.1] at this
        simp at this
        omega
      obtain ⟨u, hu⟩ : ∃ u, vs[k]? = some u := ⟨_, List.getElem?_eq_getElem (by rw [HV.out]; exact hlt)⟩
      have hcell : wr.cell? ⟨g, o + k, none⟩ = some u := ((hS.bl.cell (p := ⟨g, o + k, none⟩) hBg.lt).trans (hBg.cell _)).trans (hcur k u hu)
      have hrd := HL.out.at (List.getElem?_eq_getElem hlt) hu
      have hsum := sums_at l k HF.out hlen
      have hsum1 := sums_at l (k + 1) HF.out hlen
      have HN1 := Lib.hid (nodesL_snoc l k hlt)
      have HN2 := Lib.hid (bytesL_snoc l k hlt)
      have HN3 := Lib.hid (depthL_snoc l k hlt)
      have HU := Lib.hid hu
      have HS := Lib.hid hS
      have hsz := hS.st.lt
      have HBG := Lib.hid hBg
      have hblt := hBg.lt
      clear hcur hu hBg
      have hft := fit_le (HF.out l[k] (List.getElem_mem hlt))
      generalize l[k] = t at *
      cases t with
      | null =>
        unfold RdT at hrd
        subst hrd
        clear hS
        go_wp2_with fail
        refine (sized_null _).mono ?_
        rintro e w1 ⟨rfl, hb1⟩
        obtain ⟨hc1, hf1⟩ := old hb1
        have hs1 : w.heap.size + 1 < w1.heap.size := by have := hb1.size; omega
        have hc0' := (hc1 (w.heap.size + 1) 0 hsz).trans hS0
        have hc1' := (hc1 (w.heap.size + 1) 1 hsz).trans hS1
        have hc2' := (hc1 (w.heap.size + 1) 2 hsz).trans hS2
        have hf0' := (hf1 (w.heap.size + 1) 0 hsz).trans hF0
        have hf1' := (hf1 (w.heap.size + 1) 1 hsz).trans hF1
        have hf2' := (hf1 (w.heap.size + 1) 2 hsz).trans hF2
        clear hc1 hf1
        go_wp2
        go_roundw
        case rel => exact ⟨k + 1, by omega, by go_num, HS.out.next hb1 _ _ _ _ (by rw [HN1.out]; simp [Tr.nodes]; try omega) (by rw [HN2.out]; simp [Tr.bytes]; try omega) (by rw [HN3.out]; simp [Tr.depth]; try omega)⟩
        case measure => simp [intOf]; omega
      | flag f =>
        unfold RdT at hrd
        subst hrd
        clear hS
        go_wp2_with fail
        refine (sized_flag f _).mono ?_
        rintro e w1 ⟨rfl, hb1⟩
        obtain ⟨hc1, hf1⟩ := old hb1
        have hs1 : w.heap.size + 1 < w1.heap.size := by have := hb1.size; omega
        have hc0' := (hc1 (w.heap.size + 1) 0 hsz).trans hS0
        have hc1' := (hc1 (w.heap.size + 1) 1 hsz).trans hS1
        have hc2' := (hc1 (w.heap.size + 1) 2 hsz).trans hS2
        have hf0' := (hf1 (w.heap.size + 1) 0 hsz).trans hF0
        have hf1' := (hf1 (w.heap.size + 1) 1 hsz).trans hF1
        have hf2' := (hf1 (w.heap.size + 1) 2 hsz).trans hF2
        clear hc1 hf1
        go_wp2
        go_roundw
        case rel => exact ⟨k + 1, by omega, by go_num, HS.out.next hb1 _ _ _ _ (by rw [HN1.out]; simp [Tr.nodes]; try omega) (by rw [HN2.out]; simp [Tr.bytes]; try omega) (by rw [HN3.out]; simp [Tr.depth]; try omega)⟩
        case measure => simp [intOf]; omega
      | num x =>
        unfold RdT at hrd
        subst hrd
        clear hS
        go_wp2_with fail
        refine (sized_num x _).mono ?_
        rintro e w1 ⟨rfl, hb1⟩
        obtain ⟨hc1, hf1⟩ := old hb1
        have hs1 : w.heap.size + 1 < w1.heap.size := by have := hb1.size; omega
        have hc0' := (hc1 (w.heap.size + 1) 0 hsz).trans hS0
        have hc1' := (hc1 (w.heap.size + 1) 1 hsz).trans hS1
        have hc2' := (hc1 (w.heap.size + 1) 2 hsz).trans hS2
        have hf0' := (hf1 (w.heap.size + 1) 0 hsz).trans hF0
        have hf1' := (hf1 (w.heap.size + 1) 1 hsz).trans hF1
        have hf2' := (hf1 (w.heap.size + 1) 2 hsz).trans hF2
        clear hc1 hf1
        go_wp2
        go_roundw
        case rel => exact ⟨k + 1, by omega, by go_num, HS.out.next hb1 _ _ _ _ (by rw [HN1.out]; simp [Tr.nodes]; try omega) (by rw [HN2.out]; simp [Tr.bytes]; try omega) (by rw [HN3.out]; simp [Tr.depth]; try omega)⟩
        case measure => simp [intOf]; omega
      | text tt =>
        unfold RdT at hrd
        subst hrd
        clear hS
        simp only [Tr.nodes, Tr.bytes, Tr.depth] at hft
        go_wp2_with fail
        refine (sized_text tt _).mono ?_
        rintro e w1 ⟨rfl, hb1⟩
        obtain ⟨hc1, hf1⟩ := old hb1
        have hs1 : w.heap.size + 1 < w1.heap.size := by have := hb1.size; omega
        have hc0' := (hc1 (w.heap.size + 1) 0 hsz).trans hS0
        have hc1' := (hc1 (w.heap.size + 1) 1 hsz).trans hS1
        have hc2' := (hc1 (w.heap.size + 1) 2 hsz).trans hS2
        have hf0' := (hf1 (w.heap.size + 1) 0 hsz).trans hF0
        have hf1' := (hf1 (w.heap.size + 1) 1 hsz).trans hF1
        have hf2' := (hf1 (w.heap.size + 1) 2 hsz).trans hF2
        clear hc1 hf1
        go_wp2
        go_roundw
        case rel => exact ⟨k + 1, by omega, by go_num, HS.out.next hb1 _ _ _ _ (by rw [HN1.out]; simp [Tr.nodes]; try omega) (by rw [HN2.out]; simp [Tr.bytes]; try omega) (by rw [HN3.out]; simp [Tr.depth]; try omega)⟩
        case measure => simp [intOf]; omega
      | list l1 =>
        unfold RdT at hrd
        obtain ⟨g1, A1, c1, vs1, rfl, hSg1, hB1, hR1, hL1⟩ := hrd
        have hB1r := hB1.below hS.bl hB1.lt
        have hlt1 := hB1r.lt
        have d0 : wr.cell? ⟨g1, 0, none⟩ = some (.int .i64 ((Tr.list l1).nodes : Int)) := hB1r.cell 0
        have d1 : wr.cell? ⟨g1, 1, none⟩ = some (.int .i64 ((Tr.list l1).bytes : Int)) := hB1r.cell 1
        have d2 : wr.cell? ⟨g1, 2, none⟩ = some (.int .i64 ((Tr.list l1).depth : Int)) := hB1r.cell 2
        clear hB1 hR1 hL1 hB1r
        generalize (Tr.list l1).nodes = n1 at *
        generalize (Tr.list l1).bytes = b1 at *
        generalize (Tr.list l1).depth = e1 at *
        clear hS
        go_wp2_with fail
        rw [method_list _ g1 wr _ _ _ _ ?nm d0 d1 d2]
        case nm => kernel_rfl
        go_wp2_with fail
        refine (sized_size n1 b1 e1 _).mono ?_
        rintro e w1 ⟨rfl, hb1⟩
        obtain ⟨hc1, hf1⟩ := old hb1
        have hs1 : w.heap.size + 1 < w1.heap.size := by have := hb1.size; omega
        have hc0' := (hc1 (w.heap.size + 1) 0 hsz).trans hS0
        have hc1' := (hc1 (w.heap.size + 1) 1 hsz).trans hS1
        have hc2' := (hc1 (w.heap.size + 1) 2 hsz).trans hS2
        have hf0' := (hf1 (w.heap.size + 1) 0 hsz).trans hF0
        have hf1' := (hf1 (w.heap.size + 1) 1 hsz).trans hF1
        have hf2' := (hf1 (w.heap.size + 1) 2 hsz).trans hF2
        clear hc1 hf1
        go_wp2
        go_roundw
        case rel => exact ⟨k + 1, by omega, by go_num, HS.out.next hb1 _ _ _ _ (by rw [HN1.out]; (try simp); try omega) (by rw [HN2.out]; (try simp); (try omega)) (by rw [HN3.out]; (try simp); (try omega))⟩
        case measure => simp [intOf]; omega
      | obj ks l1 =>
        unfold RdT at hrd
        obtain ⟨g1, B1, e9, A1, c1, vs1, rfl, hSg1, hB1, hK1, hR1, hL1⟩ := hrd
        have hB1r := hB1.below hS.bl hB1.lt
        have hlt1 := hB1r.lt
        have d0 : wr.cell? ⟨g1, 0, none⟩ = some (.int .i64 ((Tr.obj ks l1).nodes : Int)) := hB1r.cell 0
        have d1 : wr.cell? ⟨g1, 1, none⟩ = some (.int .i64 ((Tr.obj ks l1).bytes : Int)) := hB1r.cell 1
        have d2 : wr.cell? ⟨g1, 2, none⟩ = some (.int .i64 ((Tr.obj ks l1).depth : Int)) := hB1r.cell 2
        clear hB1 hK1 hR1 hL1 hB1r
        generalize (Tr.obj ks l1).nodes = n1 at *
        generalize (Tr.obj ks l1).bytes = b1 at *
        generalize (Tr.obj ks l1).depth = e1 at *
        clear hS
        go_wp2_with fail
        rw [method_obj _ g1 wr _ _ _ _ ?nm d0 d1 d2]
        case nm => kernel_rfl
        go_wp2_with fail
        refine (sized_size n1 b1 e1 _).mono ?_
        rintro e w1 ⟨rfl, hb1⟩
        obtain ⟨hc1, hf1⟩ := old hb1
        have hs1 : w.heap.size + 1 < w1.heap.size := by have := hb1.size; omega
        have hc0' := (hc1 (w.heap.size + 1) 0 hsz).trans hS0
        have hc1' := (hc1 (w.heap.size + 1) 1 hsz).trans hS1
        have hc2' := (hc1 (w.heap.size + 1) 2 hsz).trans hS2
        have hf0' := (hf1 (w.heap.size + 1) 0 hsz).trans hF0
        have hf1' := (hf1 (w.heap.size + 1) 1 hsz).trans hF1
        have hf2' := (hf1 (w.heap.size + 1) 2 hsz).trans hF2
        clear hc1 hf1
        go_wp2
        go_roundw
        case rel => exact ⟨k + 1, by omega, by go_num, HS.out.next hb1 _ _ _ _ (by rw [HN1.out]; (try simp); try omega) (by rw [HN2.out]; (try simp); (try omega)) (by rw [HN3.out]; (try simp); (try omega))⟩
        case measure => simp [intOf]; omega
    · have hkl : k = l.length := by omega
      subst hkl
      rw [List.take_length] at hS0 hS1 hS2
      have hsum := sums_at l l.length HF.out hlen
      rw [List.take_length] at hsum
      have r0 : wr.cell? ⟨w.heap.size, 0, none⟩ = some (.int .i64 0) := hS.rs.cell 0
      have r1 : wr.cell? ⟨w.heap.size, 1, none⟩ = some (.int .i64 0) := hS.rs.cell 1
      have r2 : wr.cell? ⟨w.heap.size, 2, none⟩ = some (.int .i64 0) := hS.rs.cell 2
      have q0 := hS.rs.frozen 0
      have q1 := hS.rs.frozen 1
      have q2 := hS.rs.frozen 2
      have hbl := hS.bl
      have hRS := (((hS.rs.far (p := ⟨w.heap.size + 1, 2, none⟩) (by show w.heap.size ≠ w.heap.size + 1; omega) (.int .i64 ((depthL l : Int) + 1))).put 0 (.int .i64 (1 + (nodesL l : Int)))).put 1 (.int .i64 ((b : Int) + bytesL l))).put 2 (.int .i64 ((depthL l : Int) + 1))
      have hld := load_sz _ w.heap.size _ _ _ (hRS.cell 0) (hRS.cell 1) (hRS.cell 2)
      have HLD := Lib.hid hld
      clear hS hRS hld
      go_wp2
      refine bodyPost_ret (v := .agg #[.int .i64 ((1 + nodesL l : Nat) : Int), .int .i64 ((b + bytesL l : Nat) : Int), .int .i64 ((depthL l + 1 : Nat) : Int)]) ?_ rfl ⟨rfl, ?_⟩
      · simp only [results, Try.results42]
        simp [asAddr, HLD.out]
      · exact ((((((hbl.setCell (p := ⟨w.heap.size + 1, 2, none⟩) (by show w.heap.size ≤ w.heap.size + 1; omega) _)).setCell (p := ⟨w.heap.size, 0, none⟩) (Nat.le_refl _) _).setCell (p := ⟨w.heap.size, 1, none⟩) (Nat.le_refl _) _).setCell (p := ⟨w.heap.size, 2, none⟩) (Nat.le_refl _) _))
end Nd
end Go.Proofs.Ytfhfkggkbeahbaa
