/-
  Walks of package node: a Ref's Steps, a Tree's Steps, a Ref's Tree; what a row of steps reads as.
-/
import Derived.Test.YtfhfkggkbeahbaaGreatNsL
import Derived.Test.YtfhfkggkbeahbaaGreatGF
namespace Go.Proofs.YtfhfkggkbeahbaaGreat
open Go.RowKit Mem
set_option linter.unusedVariables false
namespace Nd

theorem steps_any (t : Tr) : t.Ok → ∀ u v ss B w, RdT (fun k => k < B) w t u → SRow B ss v w → B ≤ w.heap.size → ss.length + t.nodes ≤ 131072 → Calls Tryz.prog 46 #[v, u] w (StepsP B (ss ++ stepsT t) v w) := by
  induction t using Tr.ind with
  | h0 => exact fun _ u v ss B w h hR hB hn => steps_null u v ss B w h hR hB hn
  | h1 x => exact fun _ u v ss B w h hR hB hn => steps_flag x u v ss B w h hR hB hn
  | h2 x => exact fun _ u v ss B w h hR hB hn => steps_num x u v ss B w h hR hB hn
  | h3 x => exact fun _ u v ss B w h hR hB hn => steps_text x u v ss B w h hR hB hn
  | h4 l ih =>
    intro hok u v ss B w h hR hB hn
    unfold Tr.Ok at hok
    exact steps_list l u v ss B w h hR hB hn fun x hx => ih x hx ((okl_iff l).1 hok x hx).1
  | h5 ks l ih =>
    intro hok u v ss B w h hR hB hn
    unfold Tr.Ok at hok
    have h1 := nodes_len l
    have h2 : (Tr.obj ks l).nodes = 1 + nodesL l := by simp [Tr.nodes]
    exact steps_obj ks l u v ss B w h hR hB hn (by have := hok.1; omega) fun x hx => ih x hx ((okl_iff l).1 hok.2.2.2 x hx).1
/-- steps of the call's own -/
def OwnSteps (t : Tr) (w : World) (e : Ending) (w' : World) : Prop := ∃ v', e = .returned v' ∧ SRow w.heap.size (stepsT t) v' w' ∧ Below w.heap.size w w'
set_option maxRecDepth 100000 in
set_option maxHeartbeats 4000000 in
theorem rsteps_any (S : Nat → Prop) (t : Tr) (u : Value) (w : World) (h : RdT S w t u) (hok : t.Ok) (hn : t.nodes ≤ 65536) : Calls Tryz.prog 31 #[.agg #[u]] w (OwnSteps t w) := by
  obtain ⟨tx, ux, rfl⟩ := h.iface
  have hb1 : Below w.heap.size w (w.alloc (.cells #[.iface tx ux] 43)) := (Below.refl _ _).alloc (Nat.le_refl _) _
  have hr : RdT (fun k => k < w.heap.size) (w.alloc (.cells #[.iface tx ux] 43)) t (.iface tx ux) := RdT.move (fun j hj hs => ⟨hj, hb1.block j hj⟩) _ _ h
  have hc := steps_any t hok (.iface tx ux) (.slice none 0 0) [] w.heap.size _ hr (srow_nil _ _) (by simp) (by simp; omega)
  have HC := Lib.hid hc
  clear hc hr h
  go_enter Tryz.func31, Tryz.ntmps31
  go_wp2_with fail
  refine HC.out.mono ?_
  rintro e w2 ⟨v2, rfl, hr2, hg2, ho2⟩
  have hb2 := (hb1.grown hg2 hb1.size fun k hk => by cases hk)
  have HP := Lib.hid (And.intro hr2 hb2)
  clear hr2 hg2 ho2 hb2
  go_wp2
  go_ret
  exact ⟨_, rfl, by simpa using HP.out.1, HP.out.2⟩
set_option maxRecDepth 100000 in
set_option maxHeartbeats 4000000 in
theorem tsteps_any (B g : Nat) (t : Tr) (w : World) (hT : TreeAt B w g t) (hok : t.Ok) : Calls Tryz.prog 16 #[.pointer (some ⟨g, 0, none⟩)] w (OwnSteps t w) := by
  obtain ⟨_, hf, v, hB, hr⟩ := hT
  obtain ⟨tx, ux, rfl⟩ := hr.iface
  have HB := Lib.hid hB
  have HR := Lib.hid hr
  have hn := (fit_le hf).1
  clear hB hr hf
  go_enter Tryz.func16, Tryz.ntmps16
  go_wp2_with fail
  ((with_reducible refine (root_any g _ tx ux _ HB.out).mono ?_); rintro e w1 ⟨rfl, hb1⟩)
  have hr1 := RdT.move (S' := fun k => B ≤ k) (w' := w1) (fun j hj hs => ⟨hs, hb1.block j hj⟩) _ _ HR.out
  have HR1 := Lib.hid hr1
  clear hr1
  go_wp2_with fail
  ((with_reducible refine (rsteps_any _ t _ _ HR1.out hok hn).mono ?_); rintro e w2 ⟨v2, rfl, hr2, hb2⟩)
  obtain ⟨es, h1, h2, h3⟩ := hr2
  have HP : Hid (SRow w.heap.size (stepsT t) v2 w2 ∧ Below w.heap.size w w2) := Lib.hid ⟨⟨es, h1, ⟨h2.1, h2.2.imp id fun ⟨g, cap, cur, e1, e2, e3⟩ => ⟨g, cap, cur, e1, Nat.le_trans hb1.size e2, e3⟩⟩, h3⟩, hb1.trans (hb2.mono hb1.size)⟩
  clear h1 h2 h3 hb1 hb2
  go_wp2
  go_ret
  exact ⟨_, rfl, HP.out.1, HP.out.2⟩
/-- a tree of the value -/
theorem rtree_any (S : Nat → Prop) (t : Tr) (u : Value) (w : World) (h : RdT S w t u) (hf : t.fit = true) : Calls Tryz.prog 30 #[.agg #[u]] w fun e w' => (∃ g, e = .returned (.pointer (some ⟨g, 0, none⟩)) ∧ TreeAt 0 w' g t) ∧ Below w.heap.size w w' := by
  obtain ⟨tx, ux, rfl⟩ := h.iface
  have hb1 : Below w.heap.size w (w.alloc (.cells #[.iface tx ux] 43)) := (Below.refl _ _).alloc (Nat.le_refl _) _
  have hb2 := hb1.alloc hb1.size (.cells #[.iface tx ux] 77)
  have hn := Blk.new (w.alloc (.cells #[.iface tx ux] 43)) 77 #[.iface tx ux]
  have HP : Hid (TreeAt 0 ((w.alloc (.cells #[.iface tx ux] 43)).alloc (.cells #[.iface tx ux] 77)) (w.heap.size + 1) t) := Lib.hid ⟨Nat.zero_le _, hf, _, by rw [World.size_alloc] at hn; exact hn, RdT.move (fun j hj hs => ⟨Nat.zero_le _, hb2.block j hj⟩) _ _ h⟩
  clear h hn
  go_enter Tryz.func30, Tryz.ntmps30
  go_wp2
  go_ret
  exact ⟨⟨_, rfl, HP.out⟩, hb2⟩
theorem cellsE_len (es : List E6) : (cellsE es).length = es.length * 6 := by
  induction es with
  | nil => rfl
  | cons e es ih =>
    unfold cellsE at ih ⊢
    rw [List.flatMap_cons, List.length_append, ih]
    simp [cell6]
    omega
theorem cellsE_at : ∀ (es : List E6) (j : Nat) (e : E6), es[j]? = some e → ∀ i, i < 6 → (cellsE es)[j * 6 + i]? = (cell6 e.1 e.2.1 e.2.2)[i]?
  | [], j, e, h, i, hi => by simp at h
  | x :: es, 0, e, h, i, hi => by
    simp at h
    subst h
    unfold cellsE
    rw [List.flatMap_cons, Nat.zero_mul, Nat.zero_add, List.getElem?_append_left (by simp [cell6]; omega)]
  | x :: es, j + 1, e, h, i, hi => by
    have ih := cellsE_at es j e (by simpa using h) i hi
    unfold cellsE at ih ⊢
    rw [List.flatMap_cons, List.getElem?_append_right (by simp [cell6]; omega), ← ih]
    have e1 : (cell6 x.1 x.2.1 x.2.2).length = 6 := by simp [cell6]
    rw [e1]
    congr 1
    omega
theorem own_rds {w : World} {B n : Nat} {ty : TypeId} {v : Value} {es : List E6} (h : w.ownsRow B ty 6 v n (cellsE es)) (hk : ∀ e ∈ es, RdK w (.slice e.2.1 e.1.keys.length e.2.2) e.1.keys) : RdS w v (es.map (·.1)) := by
  have hl := h.1
  rw [cellsE_len] at hl
  have hn : n = es.length := by omega
  subst hn
  obtain ⟨A, c, rfl⟩ := own_slice h
  refine ⟨A, c, by simp, ?_⟩
  rcases h.2 with ⟨_, h0⟩ | ⟨g, cap, cur, hv, _, hg, _, _, hs, ht⟩
  · left
    rw [List.length_eq_zero_iff.1 h0]
    rfl
  · injection hv with hA _ _
    refine .inr ⟨g, 0, hA, fun j s hs => ?_⟩
    rw [List.getElem?_map] at hs
    cases he : es[j]? with
    | none => rw [he] at hs; cases hs
    | some e =>
      rw [he] at hs
      simp at hs
      subst hs
      have hjl : j < es.length := by
        rcases Nat.lt_or_ge j es.length with h | h
        · exact h
        · rw [List.getElem?_eq_none h] at he
          cases he
      have hc : ∀ i, i < 6 → w.cell? ⟨g, 0 + j * 6 + i, none⟩ = (cell6 e.1 e.2.1 e.2.2)[i]? := by
        intro i hi
        rw [cell_of_row w g _ cur _ _ hg, ← cellsE_at es j e he i hi, ← ht, List.getElem?_take, if_pos (by omega), Nat.zero_add]
        simp
      exact ⟨e.2.1, e.2.2, hc 0 (by omega), hc 1 (by omega), hc 2 (by omega), hc 3 (by omega), hc 4 (by omega), hc 5 (by omega), hk e (List.mem_of_getElem? he)⟩
theorem KeyRow.rdk {w : World} {e : E6} (h : KeyRow w e) : RdK w (.slice e.2.1 e.1.keys.length e.2.2) e.1.keys := by
  refine ⟨_, _, rfl, ?_⟩
  rcases h.2 with ⟨hv, h0⟩ | ⟨g, cap, cur, hv, _, hg, _, _, hs, ht⟩
  · exact .inl (List.length_eq_zero_iff.1 h0)
  · injection hv with hA _ _
    refine .inr ⟨g, 0, hA, fun j t hj => ?_⟩
    have hjl : j < e.1.keys.length := by
      rcases Nat.lt_or_ge j e.1.keys.length with h | h
      · exact h
      · rw [List.getElem?_eq_none h] at hj
        cases hj
    rw [cell_of_row w g _ cur _ _ hg, Nat.zero_add]
    have h2 : (cur.toList.take (e.1.keys.length * 1))[j]? = some (txV t) := by rw [ht, List.getElem?_map, hj]; rfl
    rw [List.getElem?_take, if_pos (by omega)] at h2
    simpa using h2
theorem SRow.rds {B : Nat} {ss : List Stp} {v : Value} {w : World} (h : SRow B ss v w) : RdS w v ss := by
  obtain ⟨es, rfl, h2, h3⟩ := h
  exact own_rds h2 fun e he => (h3 e he).rdk
end Nd
end Go.Proofs.YtfhfkggkbeahbaaGreat
