/-
  What lies within a tree that steps made; the marks of loops over functions.
-/
import Derived.Test.YtfhfkggkbeahbaaGreatNuT
import Derived.Test.YtfhfkggkbeahbaaGreatGF
namespace Go.Proofs.YtfhfkggkbeahbaaGreat
open Go.RowKit Go.Shelf Mem
set_option linter.unusedVariables false
namespace Nd

theorem own_block_ge' {w : World} {base size n : Nat} {e : TypeId} {g : Nat} {m c : Nat} {xs : List Value} (h : w.ownsRow base e size (.slice (some ⟨g, 0, none⟩) m c) n xs) : g < w.heap.size := by
  obtain ⟨_, o, ho, _⟩ := own_block_ge h g rfl
  exact (Array.getElem?_eq_some_iff.1 ho).1
def marks (ds : List Nat) : List Deferred := ds.map fun D => { target := .collected D, args := #[] }
def MarksOk (B : Nat) (ds : List Nat) (w : World) : Prop := ds.Nodup ∧ ∀ D ∈ ds, B ≤ D ∧ w.heap[D]? = some (.deferred (some []))
theorem marksOk_nil (B : Nat) (w : World) : MarksOk B [] w := ⟨List.nodup_nil, fun D h => by cases h⟩
theorem MarksOk.kept {B : Nat} {ds : List Nat} {w w' : World} (h : MarksOk B ds w) (hk : ∀ D ∈ ds, w'.heap[D]? = w.heap[D]?) : MarksOk B ds w' := ⟨h.1, fun D hD => ⟨(h.2 D hD).1, (hk D hD).trans (h.2 D hD).2⟩⟩
theorem MarksOk.below {B : Nat} {ds : List Nat} {w w' : World} (h : MarksOk B ds w) (hb : Below w.heap.size w w') : MarksOk B ds w' := h.kept fun D hD => hb.block D (Array.getElem?_eq_some_iff.1 (h.2 D hD).2).1
theorem MarksOk.cons {B D : Nat} {ds : List Nat} {w : World} (h : MarksOk B ds w) (hB : B ≤ D) (hD : w.heap[D]? = some (.deferred (some []))) (hn : D ∉ ds) : MarksOk B (D :: ds) w :=
  ⟨List.nodup_cons.2 ⟨hn, h.1⟩, fun E hE => by
    rcases List.mem_cons.1 hE with rfl | hE
    · exact ⟨hB, hD⟩
    · exact h.2 E hE⟩
/-- at the return every mark's block is taken -/
theorem leaves_marks {n : Nat} {P : Program} {fn : Func} {tmps : Array Value} {R : Ending → World → Prop} {B : Nat} : ∀ (ds : List Nat) (w : World), MarksOk B ds w → (∀ w', Below B w w' → LeavesInM Fence.wide n P fn tmps R [] .returning w') → LeavesInM Fence.wide n P fn tmps R (marks ds) .returning w
  | [], w, _, h => h w (Below.refl _ _)
  | D :: ds, w, hm, h => by
    obtain ⟨hB, hD⟩ := hm.2 D (by simp)
    refine ⟨by simp, .inl ⟨_, _, rfl, run_takeDeferred hD, ?_⟩⟩
    have hbl : Below B w (w.putObj D (.deferred none)) := (Below.refl B w).grown (grownBy_putObj' w D (.deferred none)) (Nat.le_of_lt (Nat.lt_of_le_of_lt hB (Array.getElem?_eq_some_iff.1 hD).1)) (fun k e => by injection e with e; omega)
    refine leaves_marks ds _ ?_ fun w' hb => h w' (hbl.trans hb)
    refine ⟨(List.nodup_cons.1 hm.1).2, fun E hE => ?_⟩
    have h2 := hm.2 E (by simp [hE])
    refine ⟨h2.1, ?_⟩
    have hne : E ≠ D := fun e => (List.nodup_cons.1 hm.1).1 (e ▸ hE)
    exact ((grownBy_putObj' w D (.deferred none)).block E (Array.getElem?_eq_some_iff.1 h2.2).1 (fun e => hne (by injection e))).trans h2.2
theorem subs_ok (t : Tr) : t.Ok → t.fit = true → ∀ x ∈ t.subs, x.Ok ∧ x.fit = true := by
  have grp : ∀ (t : Tr), t.Ok → t.fit = true → (∀ y, y ∈ t.kids → ∀ x ∈ y.subs, x.Ok ∧ x.fit = true) → ∀ x ∈ t.subs, x.Ok ∧ x.fit = true := by
    intro t h hf ih x hx
    have hk : ∀ (k : List Tr), (∀ y, y ∈ k → ∀ x ∈ y.subs, x.Ok ∧ x.fit = true) → ∀ x ∈ subsL k, x.Ok ∧ x.fit = true := by
      intro k
      induction k with
      | nil => intro _ s hs; simp [subsL] at hs
      | cons y k ihk =>
        intro hy s hs
        rw [subsL, List.mem_append] at hs
        rcases hs with hs | hs
        · exact hy y (by simp) s hs
        · exact ihk (fun z hz => hy z (by simp [hz])) s hs
    rw [subs_kids, List.mem_append] at hx
    rcases hx with hx | hx
    · exact hk _ ih x hx
    · rw [List.mem_singleton] at hx
      rw [hx]
      exact ⟨h, hf⟩
  induction t using Tr.ind with
  | h0 => exact fun h hf => grp _ h hf fun x hx => by cases hx
  | h1 b => exact fun h hf => grp _ h hf fun x hx => by cases hx
  | h2 x => exact fun h hf => grp _ h hf fun x hx => by cases hx
  | h3 s => exact fun h hf => grp _ h hf fun x hx => by cases hx
  | h4 k ih =>
    intro h hf
    refine grp _ h hf fun x hx => ih x hx ?_ ?_
    · unfold Tr.Ok at h
      exact ((okl_iff k).1 h x hx).1
    · unfold Tr.Ok at h
      exact ((okl_iff k).1 h x hx).2
  | h5 ks k ih =>
    intro h hf
    refine grp _ h hf fun x hx => ih x hx ?_ ?_
    · unfold Tr.Ok at h
      exact ((okl_iff k).1 h.2.2.2 x hx).1
    · unfold Tr.Ok at h
      exact ((okl_iff k).1 h.2.2.2 x hx).2
end Nd
end Go.Proofs.YtfhfkggkbeahbaaGreat
