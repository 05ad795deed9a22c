/-
  Plain laws of steps: sorted keys, objects, what a step does to a row.
-/
import Derived.Test.YtfhfkggkbeahbaaNtQ
import Derived.Test.YtfhfkggkbeahbaaNtN
namespace Go.Proofs.Ytfhfkggkbeahbaa
set_option linter.unusedVariables false
namespace Nd

def sortK (ks : List Tx) : List Tx := ks.mergeSort fun x y => !ltL y x
theorem sortK_perm (ks : List Tx) : (sortK ks).Perm ks := List.mergeSort_perm _ _
theorem sortK_len (ks : List Tx) : (sortK ks).length = ks.length := (sortK_perm ks).length_eq
/-- the object of keys and the values that stand beside them -/
def mkObj (ks : List Tx) (I : List Tr) : Tr := .obj (sortK ks) ((sortK ks).map fun k => I.getD (ks.idxOf k) .null)
theorem nodesL_perm {a b : List Tr} (h : a.Perm b) : nodesL a = nodesL b := by
  induction h with
  | nil => rfl
  | cons x _ ih => simp [nodesL, ih]
  | swap x y l => simp [nodesL]; omega
  | trans _ _ h1 h2 => exact h1.trans h2
theorem bytesL_perm {a b : List Tr} (h : a.Perm b) : bytesL a = bytesL b := by
  induction h with
  | nil => rfl
  | cons x _ ih => simp [bytesL, ih]
  | swap x y l => simp [bytesL]; omega
  | trans _ _ h1 h2 => exact h1.trans h2
theorem depthL_perm {a b : List Tr} (h : a.Perm b) : depthL a = depthL b := by
  induction h with
  | nil => rfl
  | cons x _ ih => simp [depthL, ih]
  | swap x y l => simp [depthL]; omega
  | trans _ _ h1 h2 => exact h1.trans h2
theorem lens_perm {a b : List Tx} (h : a.Perm b) : lens a = lens b := by
  induction h with
  | nil => rfl
  | cons x _ ih => simp [lens, ih]
  | swap x y l => simp [lens]; omega
  | trans _ _ h1 h2 => exact h1.trans h2
theorem idxOf_at : ∀ (ks : List Tx), ks.Nodup → ∀ (i : Nat) (h : i < ks.length), ks.idxOf ks[i] = i
  | x :: ks, hn, 0, h => by simp
  | x :: ks, hn, i + 1, h => by
    rw [List.nodup_cons] at hn
    have h' : i < ks.length := by simpa using h
    have hne : (x == ks[i]) = false := by
      simp only [beq_eq_false_iff_ne]
      intro e
      exact hn.1 (e ▸ List.getElem_mem h')
    rw [List.getElem_cons_succ, List.idxOf_cons, hne]
    simp [idxOf_at ks hn.2 i h']
theorem map_idx {α : Type} (d : α) (ks : List Tx) (hn : ks.Nodup) (I : List α) (hl : I.length = ks.length) : (ks.map fun k => I.getD (ks.idxOf k) d) = I := by
  apply List.ext_getElem (by simp [hl])
  intro i h1 h2
  simp only [List.getElem_map]
  have hi : i < ks.length := by omega
  have : ks.idxOf ks[i] = i := idxOf_at ks hn i hi
  rw [this, List.getD_eq_getElem?_getD, List.getElem?_eq_getElem h2]
  rfl
theorem items_perm {α : Type} (d : α) (ks : List Tx) (hn : ks.Nodup) (I : List α) (hl : I.length = ks.length) : ((sortK ks).map fun k => I.getD (ks.idxOf k) d).Perm I := by
  have h := (sortK_perm ks).map fun k => I.getD (ks.idxOf k) d
  rw [map_idx d ks hn I hl] at h
  exact h
theorem mkObj_nodes (ks : List Tx) (hn : ks.Nodup) (I : List Tr) (hl : I.length = ks.length) : (mkObj ks I).nodes = 1 + nodesL I := by
  unfold mkObj Tr.nodes
  rw [nodesL_perm (items_perm .null ks hn I hl)]
theorem mkObj_bytes (ks : List Tx) (hn : ks.Nodup) (I : List Tr) (hl : I.length = ks.length) : (mkObj ks I).bytes = lens ks + bytesL I := by
  unfold mkObj Tr.bytes
  rw [bytesL_perm (items_perm .null ks hn I hl), lens_perm (sortK_perm ks)]
theorem mkObj_depth (ks : List Tx) (hn : ks.Nodup) (I : List Tr) (hl : I.length = ks.length) : (mkObj ks I).depth = depthL I + 1 := by
  unfold mkObj Tr.depth
  rw [depthL_perm (items_perm .null ks hn I hl)]
theorem lens_snoc (ks : List Tx) (k : Nat) (h : k < ks.length) : lens (ks.take (k + 1)) = lens (ks.take k) + ks[k].length := by
  have app : ∀ a b : List Tx, lens (a ++ b) = lens a + lens b := by
    intro a b
    induction a with
    | nil => simp [lens]
    | cons x a ih => simp [lens, ih, Nat.add_assoc]
  rw [List.take_succ_eq_append_getElem h, app]
  simp [lens]
theorem lens_le (ks : List Tx) (k : Nat) : lens (ks.take k) ≤ lens ks := by
  induction ks generalizing k with
  | nil => simp [lens]
  | cons x ks ih =>
    cases k with
    | zero => simp [lens]
    | succ k =>
      have := ih k
      simp only [List.take_succ_cons, lens]
      omega
theorem lens_at (ks : List Tx) (k : Nat) (h : k < ks.length) : ks[k].length ≤ lens ks := by
  have h1 := lens_snoc ks k h
  have h2 := lens_le ks (k + 1)
  omega

/-- what the step of an object does to a row: an error, or 0, and the row then -/
def objT (R : Tx → Bool) (ks : List Tx) (l : List Tr) : Int × List Tr :=
  if ks.all R = false then (100, l)
  else if ¬ ks.Nodup then (101, l)
  else if l.length < ks.length then (102, l)
  else if (mkObj ks (l.drop (l.length - ks.length))).fit = true then (0, l.take (l.length - ks.length) ++ [mkObj ks (l.drop (l.length - ks.length))])
  else (3, l)
theorem objT_100 {R : Tx → Bool} {ks : List Tx} {l : List Tr} (k : Nat) (h : k < ks.length) (hr : R ks[k] = false) : objT R ks l = (100, l) := by
  unfold objT
  rw [if_pos]
  rw [List.all_eq_false]
  exact ⟨ks[k], List.getElem_mem h, by simp [hr]⟩
theorem objT_101 {R : Tx → Bool} {ks : List Tx} {l : List Tr} (ha : ks.all R = true) (k : Nat) (h : k < ks.length) (hr : ks[k] ∈ ks.take k) : objT R ks l = (101, l) := by
  unfold objT
  rw [if_neg (by simp [ha]), if_pos]
  intro hn
  obtain ⟨j, hj, e⟩ := List.getElem_of_mem hr
  have hj2 : j < k := by rw [List.length_take] at hj; omega
  rw [List.getElem_take] at e
  have h2 := List.pairwise_iff_getElem.1 hn j k (by omega) h hj2
  exact h2 e
theorem objT_102 {R : Tx → Bool} {ks : List Tx} {l : List Tr} (ha : ks.all R = true) (hn : ks.Nodup) (hl : l.length < ks.length) : objT R ks l = (102, l) := by
  unfold objT
  rw [if_neg (by simp [ha]), if_neg (by simpa using hn), if_pos hl]
theorem objT_3 {R : Tx → Bool} {ks : List Tx} {l : List Tr} (ha : ks.all R = true) (hn : ks.Nodup) (hl : ks.length ≤ l.length) (hf : (mkObj ks (l.drop (l.length - ks.length))).fit = false) : objT R ks l = (3, l) := by
  unfold objT
  rw [if_neg (by simp [ha]), if_neg (by simpa using hn), if_neg (by omega), if_neg (by simp [hf])]
theorem objT_0 {R : Tx → Bool} {ks : List Tx} {l : List Tr} (ha : ks.all R = true) (hn : ks.Nodup) (hl : ks.length ≤ l.length) (hf : (mkObj ks (l.drop (l.length - ks.length))).fit = true) : objT R ks l = (0, l.take (l.length - ks.length) ++ [mkObj ks (l.drop (l.length - ks.length))]) := by
  unfold objT
  rw [if_neg (by simp [ha]), if_neg (by simpa using hn), if_neg (by omega), if_pos hf]
theorem nodup_snoc {ks : List Tx} {k : Nat} (h : k < ks.length) (hn : (ks.take k).Nodup) (hm : ks[k] ∉ ks.take k) : (ks.take (k + 1)).Nodup := by
  rw [List.take_succ_eq_append_getElem h, List.nodup_append]
  refine ⟨hn, by simp, ?_⟩
  intro a ha b hb e
  simp at hb
  subst hb
  subst e
  exact hm ha
theorem all_snoc {R : Tx → Bool} {ks : List Tx} {k : Nat} (h : k < ks.length) (hn : (ks.take k).all R = true) (hm : R ks[k] = true) : (ks.take (k + 1)).all R = true := by
  rw [List.take_succ_eq_append_getElem h, List.all_append, hn]
  simp [hm]
end Nd
end Go.Proofs.Ytfhfkggkbeahbaa
