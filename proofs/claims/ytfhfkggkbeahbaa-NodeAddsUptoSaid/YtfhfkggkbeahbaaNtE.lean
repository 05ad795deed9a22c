/-
  Walks of package node: group.
-/
import Derived.Test.YtfhfkggkbeahbaaNtM
import Derived.Test.YtfhfkggkbeahbaaNtD
import Derived.Deep.AppendLies
import Derived.RegionTactic
import Derived.IntWalk
import Derived.Deep.RegionLaw
import Derived.Deep.DrawnRows
namespace Go.Proofs.Ytfhfkggkbeahbaa
open Go.RowKit Mem
set_option linter.unusedVariables false
namespace Nd

/-- a row of trees, in a block of one cell; its items' blocks lie from B on, and none is the row's own -/
structure RowV (p : Nat) (ty : TypeId) (B : Nat) (l : List Tr) (v : Value) (xs : List Value) (w : World) : Prop where
  bl : Blk w p ty #[v]
  own : w.ownsRow B 46 1 v l.length xs
  rd : RdL (fun k => B ≤ k ∧ some k ≠ v.ownBlock) w l xs
  fit : ∀ t ∈ l, t.fit = true
  lt : p < B
  le : B ≤ w.heap.size
/-- all but the row's block and its own is as it was -/
def KeepV (p : Nat) (v : Value) (w w' : World) : Prop := ∀ k, k < w.heap.size → k ≠ p → some k ≠ v.ownBlock → w'.heap[k]? = w.heap[k]?
theorem RowV.below {p : Nat} {ty : TypeId} {B : Nat} {l : List Tr} {v : Value} {xs : List Value} {w w' : World} (h : RowV p ty B l v xs w) (hb : Below w.heap.size w w') : RowV p ty B l v xs w' :=
  ⟨h.bl.below hb h.bl.lt, own_below h.own hb, h.rd.move fun k hk hS => ⟨hS, hb.block k hk⟩, h.fit, h.lt, Nat.le_trans h.le hb.size⟩
theorem fit_within {t : Tr} : withinB (t.nodes : Int) (t.bytes : Int) (t.depth : Int) = t.fit := by
  unfold withinB Tr.fit
  congr 1
  · congr 1
    · exact decide_eq_decide.2 (by omega)
    · exact decide_eq_decide.2 (by omega)
  · exact decide_eq_decide.2 (by omega)
theorem own_take {w : World} {base n : Nat} {e : TypeId} {g cap : Nat} {xs : List Value} (h : w.ownsRow base e 1 (.slice (some ⟨g, 0, none⟩) n cap) n xs) {k : Nat} (hk : k ≤ n) : w.ownsRow base e 1 (.slice (some ⟨g, 0, none⟩) k cap) k (xs.take k) := by
  have hl := h.1
  rcases h.2 with ⟨h, _⟩ | ⟨g', cap', cur, h, hb, hg, hn, hc, hs, ht⟩
  · cases h
  · injection h with h1 _ h2
    injection h1 with h1
    injection h1 with h1
    subst h1; subst h2
    refine ⟨by simp; omega, .inr ⟨g, cap, cur, rfl, hb, hg, by omega, hc, hs, ?_⟩⟩
    rw [← ht, List.take_take]
    congr 1
    omega
theorem cut_items (g n cap m : Nat) (hm : m ≤ cap) (W : World) : (Instr.slice 70 (.slice (some ⟨g, 0, none⟩) n cap) none (some (.int .i64 (m : Int))) none).run Try.prog W = .ok (.slice (some ⟨g, 0, none⟩) m cap) W := by
  have hsz : ∀ W, (Go.sizeOf 46).run Try.prog W = .ok 1 W := fun W => by kernel_rfl
  simp [Instr.slice, Instr.sliceBounds, Instr.sliceBound, Sem.run_bind, run_underlying Try.underlying70, asIntOf, hsz, hm, Addr.add]
/-- what is left when an item was put in the place of the last ones -/
def PutV (p : Nat) (ty : TypeId) (B : Nat) (v : Value) (m : Nat) (ys : List Value) (w w' : World) : Prop :=
  ∃ v', Blk w' p ty #[v'] ∧ w'.ownsRow B 46 1 v' m ys ∧ Below p w w' ∧ KeepV p v w w' ∧ (v'.ownBlock = v.ownBlock ∨ ∀ g, v'.ownBlock = some g → w.heap.size ≤ g)
theorem PutV.row {p : Nat} {ty : TypeId} {B : Nat} {l0 : List Tr} {v x : Value} {xs : List Value} {w w' : World} {k : Nat} {t : Tr} (h : PutV p ty B v (l0.length - k + 1) (xs.take (l0.length - k) ++ [x]) w w') (hR : RowV p ty B l0 v xs w) (hk : k ≤ l0.length) (hx : RdT (fun k => B ≤ k ∧ some k ≠ v.ownBlock) w t x) (hf : t.fit = true) :
    ∃ v' xs', RowV p ty B (l0.take (l0.length - k) ++ [t]) v' xs' w' := by
  obtain ⟨v', hB, ho, hb, hkp, hob⟩ := h
  have hmv : ∀ k, k < w.heap.size → (B ≤ k ∧ some k ≠ v.ownBlock) → (B ≤ k ∧ some k ≠ v'.ownBlock) ∧ w'.heap[k]? = w.heap[k]? := by
    intro k hk ⟨h1, h2⟩
    refine ⟨⟨h1, ?_⟩, hkp k hk (by have := hR.lt; omega) h2⟩
    rcases hob with e | e
    · rw [e]; exact h2
    · intro h3
      have := e k h3.symm
      omega
  refine ⟨v', _, hB, ?_, ((hR.rd.move hmv).take (l0.length - k)).snoc (RdT.move hmv _ _ hx), ?_, hR.lt, Nat.le_trans hR.le hb.size⟩
  · have e : (l0.take (l0.length - k) ++ [t]).length = l0.length - k + 1 := by simp
    rw [e]
    exact ho
  · intro u hu
    rcases List.mem_append.1 hu with hu | hu
    · exact hR.fit u (List.mem_of_mem_take hu)
    · rw [List.mem_singleton] at hu
      rw [hu]
      exact hf
theorem put_post (p : Nat) (ty : TypeId) (B m : Nat) (v x : Value) (t : TypeId) (ys : List Value) {w w2 w9 : World} {g9 q9 : Nat} (hb : Below w.heap.size w w2) (hpB : p < B) (hBw : B ≤ w.heap.size) (hB2 : Blk w2 p ty #[v]) (hvb : ∀ k, v.ownBlock = some k → B ≤ k ∧ k < w.heap.size)
    (hown9 : w9.ownsRow B 46 1 (.slice (some ⟨g9, 0, none⟩) (m + 1) q9) (m + 1) ys) (hgr9 : (w2.alloc (.cells #[x] t)).drew.grownBy w9 v.ownBlock) (hat9 : v.ownBlock = some g9 ∨ g9 = w2.heap.size + 1) :
    PutV p ty B v (m + 1) ys w (w9.setCell ⟨p, 0, none⟩ (.slice (some ⟨g9, 0, none⟩) (m + 1) q9)) := by
  have hs := hb.size
  have hB9 := ((hB2.alloc (.cells #[x] t)).drew).only hgr9 (by intro e; have := (hvb p e.symm).1; omega)
  have hne : g9 ≠ p := by
    rcases hat9 with e | e
    · have := (hvb g9 e).1; omega
    · omega
  have hsz : w.heap.size ≤ (w2.alloc (.cells #[x] t)).drew.heap.size := by simp [World.drew]; omega
  refine ⟨_, hB9.put 0 _, hown9.kept (grown_put (grown_refl w9 (some p)) 0 _) (.inr (by intro e; injection e with e; exact hne e)), ?_, ?_, ?_⟩
  · have h1 : Below p w w2 := hb.mono (by omega)
    have h2 : Below p w (w2.alloc (.cells #[x] t)).drew := (h1.alloc (by omega) _).drew
    exact (h2.grown hgr9 (by omega) (fun q hq => by have := (hvb q hq).1; omega)).setCell (Nat.le_refl _) _
  · intro k hk h1 h2
    have e1 : (w9.setCell ⟨p, 0, none⟩ (.slice (some ⟨g9, 0, none⟩) (m + 1) q9)).heap[k]? = w9.heap[k]? := heap_setCell_other w9 _ k _ (fun e => h1 (by rw [e]))
    have e2 := hgr9.block k (by omega) h2
    have e3 : (w2.alloc (.cells #[x] t)).drew.heap[k]? = w2.heap[k]? := Below.heap_alloc w2 _ k (by omega)
    exact e1.trans (e2.trans (e3.trans (hb.block k hk)))
  · rcases hat9 with e | e
    · exact .inl e.symm
    · exact .inr fun g hg => by
        injection hg with hg
        have : g9 = g := hg
        omega
set_option maxRecDepth 100000 in
set_option maxHeartbeats 4000000 in
theorem group_some (p : Nat) (ty : TypeId) (B : Nat) (n cap : Nat) (g k : Nat) (xs : List Value) (tx : TypeId) (ux : Value) (n1 b1 e1 : Int) (w : World) (hBl : Blk w p ty #[.slice (some ⟨g, 0, none⟩) n cap]) (hown : w.ownsRow B 46 1 (.slice (some ⟨g, 0, none⟩) n cap) n xs) (hpB : p < B) (hBw : B ≤ w.heap.size) (hk : k ≤ n) (hlen : n ≤ 1048576) (m : Nat) (hmk : n - k = m)
    (hm : ∀ fuel nm, nm = itemM 0 → (method (fuel + 1) tx ux nm).run Try.prog w = .ok (109, .agg #[.int .i64 n1, .int .i64 b1, .int .i64 e1]) w) (hwi : withinB n1 b1 e1 = true) (hone : (Value.iface tx ux).oneCell' = true) :
    Calls Try.prog 41 #[.pointer (some ⟨p, 0, none⟩), .int .i64 k, .iface tx ux] w fun e w' => e = .returned (.tuple #[]) ∧ PutV p ty B (.slice (some ⟨g, 0, none⟩) n cap) (m + 1) (xs.take m ++ [.iface tx ux]) w w' := by
  obtain ⟨i0, hi0, hz0, hz1, hz2⟩ := info_parts info_item
  have HM := Lib.hid hm
  have hvb := hown.lt
  have HO := Lib.hid hown
  have HBL := Lib.hid hBl
  have hlt := hBl.lt
  have hgB := (hvb g rfl).1
  have hnc : n ≤ cap ∧ cap ≤ maxLen := by
    rcases hown.2 with ⟨h, _⟩ | ⟨g', cap', cur, h, _, _, h1, h2, _⟩
    · cases h
    · injection h with _ _ h3
      rw [h3]
      exact ⟨h1, h2⟩
  have HVB := Lib.hid hvb
  unfold maxLen at hnc
  obtain ⟨hnc, hc⟩ := hnc
  clear hm hvb hown hBl
  go_enter Try.func41, Try.ntmps41
  go_wp2_with fail
  rw [HM.out _ _ ?nm]
  case nm => kernel_rfl
  go_wp2_with fail
  refine (sized_size n1 b1 e1 _).mono ?_
  rintro e w1 ⟨rfl, hb1⟩
  go_wp2_with fail
  refine (within_any n1 b1 e1 _).mono ?_
  rw [hwi]
  rintro e w2 ⟨rfl, hb2⟩
  go_wp2_with fail
  refine (refuse_yes 3 _).mono ?_
  rintro e w' ⟨rfl, rfl⟩
  have hb := hb1.trans (hb2.mono hb1.size)
  have hBl2 := HBL.out.below hb hlt
  have hown2 := own_below HO.out hb
  have hs2 := hb.size
  have hnk : ((n : Int) - (k : Int)) = (m : Int) := by omega
  have a1 : w2.cell? ⟨p, 0, none⟩ = some (.slice (some ⟨g, 0, none⟩) n cap) := hBl2.cell 0
  have f1 := hBl2.frozen 0
  have hot := own_take hown2 (k := m) (by omega)
  have HOT := Lib.hid hot
  have HB2 := Lib.hid hBl2
  have HBB := Lib.hid hb
  have hgp : ¬ p = g := by omega
  clear hot hBl2 hb1 hb2 hown2 hb
  have hm1 : m ≤ cap := by omega
  have hm2 : m ≤ 1048576 := by omega
  clear hmk
  go_wp2_with fail
  have hwm : IntKind.i64.wrap (m : Int) = (m : Int) := IntWalk.i64_in _ (by omega)
  have HB3 := Lib.hid (HB2.out.alloc (.cells #[.iface tx ux] 46))
  have hgp2 : some p ≠ (Value.slice (some ⟨g, 0, none⟩) m cap).ownBlock := by intro e; injection e with e; exact hgp e
  have ha1 : (w2.alloc (.cells #[.iface tx ux] 46)).drew.cell? ⟨p, 0, none⟩ = some (.slice (some ⟨g, 0, none⟩) n cap) := HB3.out.drew.cell 0
  have hf1 := HB3.out.drew.frozen 0
  go_region_law ((refine step_append_lies _ (by rfl) _ _ _ (by rfl) B 46 i0 _ 1 16 Try.underlying70 hi0 hz0 hz1 hz2 (by rfl) (by omega) _ m (xs.take m) (by rfl) (HOT.out.alloc _).drew ⟨w2.heap.size, 0, none⟩ 1 1 [.iface tx ux] (by rfl) (by rfl) (one_new _ _ _) (one_cell _ hone) (by omega) (by unfold maxLen; omega) (by omega) (by simp; omega) (w2.heap.size + 1) (by simp) ?_; intro g9 q9 w9 hown9 hgr9 hat9 hlt9; have hq1 : w9.cell? ⟨p, 0, none⟩ = some (.slice (some ⟨g, 0, none⟩) n cap) := (HB3.out.drew.only hgr9 hgp2).cell 0; have hq2 := (HB3.out.drew.only hgr9 hgp2).frozen 0))
  all_goals (go_end0; exact ⟨rfl, put_post p ty B m (.slice (some ⟨g, 0, none⟩) n cap) _ _ _ HBB.out hpB hBw HB2.out HVB.out hown9 hgr9 hat9⟩)
set_option maxRecDepth 100000 in
set_option maxHeartbeats 4000000 in
theorem group_nil (p : Nat) (ty : TypeId) (B : Nat) (tx : TypeId) (ux : Value) (n1 b1 e1 : Int) (w : World) (hBl : Blk w p ty #[.slice none 0 0]) (hpB : p < B) (hBw : B ≤ w.heap.size)
    (hm : ∀ fuel nm, nm = itemM 0 → (method (fuel + 1) tx ux nm).run Try.prog w = .ok (109, .agg #[.int .i64 n1, .int .i64 b1, .int .i64 e1]) w) (hwi : withinB n1 b1 e1 = true) (hone : (Value.iface tx ux).oneCell' = true) :
    Calls Try.prog 41 #[.pointer (some ⟨p, 0, none⟩), .int .i64 0, .iface tx ux] w fun e w' => e = .returned (.tuple #[]) ∧ PutV p ty B (.slice none 0 0) (0 + 1) ([] ++ [.iface tx ux]) w w' := by
  obtain ⟨i0, hi0, hz0, hz1, hz2⟩ := info_parts info_item
  have HM := Lib.hid hm
  have HBL := Lib.hid hBl
  have hlt := hBl.lt
  clear hm hBl
  go_enter Try.func41, Try.ntmps41
  go_wp2_with fail
  rw [HM.out _ _ ?nm]
  case nm => kernel_rfl
  go_wp2_with fail
  refine (sized_size n1 b1 e1 _).mono ?_
  rintro e w1 ⟨rfl, hb1⟩
  go_wp2_with fail
  refine (within_any n1 b1 e1 _).mono ?_
  rw [hwi]
  rintro e w2 ⟨rfl, hb2⟩
  go_wp2_with fail
  refine (refuse_yes 3 _).mono ?_
  rintro e w' ⟨rfl, rfl⟩
  have hb := hb1.trans (hb2.mono hb1.size)
  have hBl2 := HBL.out.below hb hlt
  have hs2 := hb.size
  have a1 : w2.cell? ⟨p, 0, none⟩ = some (.slice none 0 0) := hBl2.cell 0
  have f1 := hBl2.frozen 0
  have HB2 := Lib.hid hBl2
  have HBB := Lib.hid hb
  clear hBl2 hb1 hb2 hb
  go_wp2_with fail
  have HB3 := Lib.hid (HB2.out.alloc (.cells #[.iface tx ux] 46))
  have hwm : IntKind.i64.wrap 0 = 0 := by decide
  have hgp2 : some p ≠ (Value.slice none 0 0).ownBlock := by intro e; cases e
  have ha1 : (w2.alloc (.cells #[.iface tx ux] 46)).drew.cell? ⟨p, 0, none⟩ = some (.slice none 0 0) := HB3.out.drew.cell 0
  have hf1 := HB3.out.drew.frozen 0
  go_region_law ((refine step_append_lies _ (by rfl) _ _ _ (by rfl) B 46 i0 _ 1 16 Try.underlying70 hi0 hz0 hz1 hz2 (by rfl) (by omega) _ 0 [] (by rfl) (World.ownsRow_nil _ _ _ _) ⟨w2.heap.size, 0, none⟩ 1 1 [.iface tx ux] (by rfl) (by rfl) (one_new _ _ _) (one_cell _ hone) (by omega) (by unfold maxLen; omega) (by omega) (by simp; omega) (w2.heap.size + 1) (by simp) ?_; intro g9 q9 w9 hown9 hgr9 hat9 hlt9; have hq1 : w9.cell? ⟨p, 0, none⟩ = some (.slice none 0 0) := (HB3.out.drew.only hgr9 hgp2).cell 0; have hq2 := (HB3.out.drew.only hgr9 hgp2).frozen 0))
  all_goals (go_end0; exact ⟨rfl, put_post p ty B 0 (.slice none 0 0) _ _ _ HBB.out hpB hBw HB2.out (by intro k e; cases e) hown9 hgr9 hat9⟩)
set_option maxRecDepth 100000 in
set_option maxHeartbeats 4000000 in
theorem group_long (a k : Value) (tx : TypeId) (ux : Value) (n1 b1 e1 : Int) (w : World)
    (hm : ∀ fuel nm, nm = itemM 0 → (method (fuel + 1) tx ux nm).run Try.prog w = .ok (109, .agg #[.int .i64 n1, .int .i64 b1, .int .i64 e1]) w) (hwi : withinB n1 b1 e1 = false) :
    Calls Try.prog 41 #[a, k, .iface tx ux] w fun e w' => e = .panicked [{ v := .iface 30 (.int .i64 3), recovered := false }] ∧ Below w.heap.size w w' := by
  have HM := Lib.hid hm
  clear hm
  go_enter Try.func41, Try.ntmps41
  go_wp2_with fail
  rw [HM.out _ _ ?nm]
  case nm => kernel_rfl
  go_wp2_with fail
  refine (sized_size n1 b1 e1 _).mono ?_
  rintro e w1 ⟨rfl, hb1⟩
  go_wp2_with fail
  refine (within_any n1 b1 e1 _).mono ?_
  rw [hwi]
  rintro e w2 ⟨rfl, hb2⟩
  go_wp2_with fail
  refine (refuse_no 3 _).mono ?_
  rintro e w' ⟨rfl, rfl⟩
  have hb := hb1.trans (hb2.mono hb1.size)
  go_wp2
  exact ⟨rfl, rfl, hb⟩
end Nd
end Go.Proofs.Ytfhfkggkbeahbaa
