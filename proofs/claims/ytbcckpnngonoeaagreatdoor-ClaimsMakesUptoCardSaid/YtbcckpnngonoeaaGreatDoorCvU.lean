/-
  Loads and stores of a whole block, as single steps.
-/
import Derived.Test.YtbcckpnngonoeaaGreatDoorCvN
import Derived.OrdersHeld
namespace Go.Proofs.YtbcckpnngonoeaaGreatDoor
open Go.RowKit Mem
set_option linter.unusedVariables false

/-- a block whose cells are written one by one -/
def putCells (w : World) (g : Nat) : List Value → Nat → World
  | [], _ => w
  | v :: r, i => putCells (w.setCell ⟨g, i, none⟩ v) g r (i + 1)
theorem addr_add (g i : Nat) : (⟨g, 0, none⟩ : Addr).add i = ⟨g, i, none⟩ := by
  unfold Addr.add
  split <;> simp_all
theorem run_storeCells {P : Program} : ∀ (l : List Value) (w : World) (g : Nat) (t : TypeId) (cs : Array Value) (i : Nat), Blk w g t cs → i + l.length ≤ cs.size → (∀ v ∈ l, v.oneCell' = true) →
    (storeCells ⟨g, 0, none⟩ l i).run P w = .ok () (putCells w g l i)
  | [], w, g, t, cs, i, h, hl, _ => rfl
  | v :: r, w, g, t, cs, i, h, hl, ho => by
    have hc : w.cell? ⟨g, i, none⟩ = some (cs[i]'(by simp at hl; omega)) := by
      rw [h.cell i, Array.getElem?_eq_getElem]
    have hf := h.frozen i
    have ih := run_storeCells (P := P) r (w.setCell ⟨g, i, none⟩ v) g t _ (i + 1) (h.put i v) (by simp at hl ⊢; omega) (fun u hu => ho u (List.mem_cons_of_mem _ hu))
    rw [storeCells, Sem.run_bind, addr_add, run_store P w _ v .plain (ho v (List.mem_cons_self ..)), hc]
    simp only [hf, Result.andThen_ok, Bool.false_eq_true, if_false]
    exact ih
theorem putCells_far {g k : Nat} (hk : k ≠ g) : ∀ (l : List Value) (w : World) (i : Nat) (t : TypeId) (cs : Array Value), Blk w k t cs → Blk (putCells w g l i) k t cs
  | [], w, i, t, cs, h => h
  | v :: r, w, i, t, cs, h => putCells_far hk r _ (i + 1) t cs (h.far (p := ⟨g, i, none⟩) hk v)
theorem putCells_below {B g : Nat} (hB : B ≤ g) : ∀ (l : List Value) (w0 w : World) (i : Nat), Below B w0 w → Below B w0 (putCells w g l i)
  | [], w0, w, i, h => h
  | v :: r, w0, w, i, h => putCells_below hB r w0 _ (i + 1) (h.setCell (by exact hB) v)
/-- the cells, from place i on put anew -/
def putList : List Value → Nat → Array Value → Array Value
  | [], _, cs => cs
  | v :: r, i, cs => putList r (i + 1) (cs.setIfInBounds i v)
theorem putCells_blk {g : Nat} {t : TypeId} : ∀ (l : List Value) (w : World) (i : Nat) (cs : Array Value), Blk w g t cs → Blk (putCells w g l i) g t (putList l i cs)
  | [], w, i, cs, h => h
  | v :: r, w, i, cs, h => putCells_blk r _ (i + 1) _ (h.put i v)
theorem run_storeVar_row {P : Program} (w : World) (g : Nat) (t ty : TypeId) (cs ds : Array Value) (h : Blk w g t cs) (hs : ds.size = cs.size) (ho : ∀ v ∈ ds.toList, v.oneCell' = true) (hi : (P.info? ty).map (·.size) = some ds.size) :
    (storeVar ty ⟨g, 0, none⟩ (.agg ds)).run P w = .ok () (putCells w g ds.toList 0) := by
  cases hq : P.info? ty with
  | none => simp [hq] at hi
  | some i =>
    have hz : i.size = ds.size := by simpa [hq] using hi
    have hc : (Value.agg ds).cells = ds := rfl
    have hr := run_storeCells (P := P) ds.toList w g t cs 0 h (by simp [hs]) ho
    simp [storeVar, Sem.run_bind, sizeOf, typeInfo, hq, hz, hc, hr]
theorem putList_list : ∀ (l : List Value) (i : Nat) (cs : Array Value), i + l.length = cs.size → (putList l i cs).toList = cs.toList.take i ++ l
  | [], i, cs, h => by
    rw [putList, List.append_nil, List.take_of_length_le (by simp at h ⊢; omega)]
  | v :: r, i, cs, h => by
    have hi : i < cs.toList.length := by simp at h ⊢; omega
    rw [putList, putList_list r (i + 1) _ (by simp at h ⊢; omega), Array.toList_setIfInBounds]
    rw [List.take_succ_eq_append_getElem (by simp at hi ⊢; omega), List.getElem_set_self, List.take_set_of_le (Nat.le_refl _)]
    simp
theorem putList_all {ds cs : Array Value} (h : ds.size = cs.size) : putList ds.toList 0 cs = ds := by
  apply Array.toList_inj.1
  rw [putList_list _ 0 cs (by simpa using h)]
  simp
end Go.Proofs.YtbcckpnngonoeaaGreatDoor

