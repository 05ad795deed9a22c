/-
  A value's steps, in plain terms: they make it again.
-/
import Derived.Test.YtbcckpnngonoeaaGreatDoorGG
import Derived.Test.YtbcckpnngonoeaaGreatDoorGF
namespace Go.Proofs.YtbcckpnngonoeaaGreatDoor
open Go.RowKit Mem
set_option linter.unusedVariables false
namespace Nd

def ownS : Tr → Stp
  | .null => nullS
  | .flag b => flagS b
  | .num x => numS x
  | .text s => textS s
  | .list l => listS l.length
  | .obj ks _ => objS ks
mutual
def stepsT : Tr → List Stp
  | .null => [nullS]
  | .flag b => [flagS b]
  | .num x => [numS x]
  | .text s => [textS s]
  | .list l => stepsL l ++ [listS l.length]
  | .obj ks l => stepsL l ++ [objS ks]
def stepsL : List Tr → List Stp
  | [] => []
  | t :: l => stepsT t ++ stepsL l
end
def Tr.kid : Tr → List Tr
  | .list l => l
  | .obj _ l => l
  | _ => []
theorem stepsT_kids (t : Tr) : stepsT t = stepsL t.kid ++ [ownS t] := by
  cases t <;> simp [stepsT, Tr.kid, stepsL, ownS]
theorem stepsL_app : ∀ a b : List Tr, stepsL (a ++ b) = stepsL a ++ stepsL b
  | [], b => by simp [stepsL]
  | t :: a, b => by simp [stepsL, stepsL_app a b]
theorem stepsL_snoc (l : List Tr) (k : Nat) (h : k < l.length) : stepsL (l.take (k + 1)) = stepsL (l.take k) ++ stepsT l[k] := by
  rw [List.take_succ_eq_append_getElem h, stepsL_app]
  simp [stepsL]
theorem kid_nodes (t : Tr) : t.nodes = nodesL t.kid + 1 := by
  cases t <;> simp [Tr.nodes, Tr.kid, nodesL] <;> omega
mutual
theorem stepsT_len : ∀ t : Tr, (stepsT t).length = t.nodes
  | .null => by simp [stepsT, Tr.nodes]
  | .flag b => by simp [stepsT, Tr.nodes]
  | .num x => by simp [stepsT, Tr.nodes]
  | .text s => by simp [stepsT, Tr.nodes]
  | .list l => by simp [stepsT, Tr.nodes, stepsL_len l]; omega
  | .obj ks l => by simp [stepsT, Tr.nodes, stepsL_len l]; omega
theorem stepsL_len : ∀ l : List Tr, (stepsL l).length = nodesL l
  | [] => by simp [stepsL, nodesL]
  | t :: l => by simp [stepsL, nodesL, stepsT_len t, stepsL_len l]
end
theorem rise_nodup {ks : List Tx} (h : Rise ks) : ks.Nodup := by
  unfold Rise at h
  refine h.imp ?_
  intro a b hab e
  rw [e, cmp_self] at hab
  omega
theorem rise_sorted {ks : List Tx} (h : Rise ks) : sortK ks = ks := by
  unfold sortK
  refine List.mergeSort_of_pairwise ?_
  unfold Rise at h
  refine h.imp ?_
  intro a b hab
  simp only [Bool.not_eq_true', ltL, decide_eq_false_iff_not]
  have := cmp_turn a b
  omega
theorem mkObj_rise {ks : List Tx} {l : List Tr} (h : Rise ks) (hl : ks.length = l.length) : mkObj ks l = .obj ks l := by
  unfold mkObj
  rw [rise_sorted h, map_idx .null ks (rise_nodup h) l hl.symm]
theorem drop_own {α : Type} (l k : List α) : (l ++ k).drop ((l ++ k).length - k.length) = k := by
  rw [List.length_append, Nat.add_sub_cancel]
  exact List.drop_left
theorem take_own {α : Type} (l k : List α) : (l ++ k).take ((l ++ k).length - k.length) = l := by
  rw [List.length_append, Nat.add_sub_cancel]
  exact List.take_left
theorem doT_list (l : List Tr) (n : Nat) : doT l (listS n) = listT n l := by
  simp [doT, listS, usedB]
theorem doT_obj (l : List Tr) (ks : List Tx) : doT l (objS ks) = objT rightB ks l := by
  simp [doT, objS, usedB]
theorem doT_own (t : Tr) (h : t.Ok) (hf : t.fit = true) (l : List Tr) : doT (l ++ t.kid) (ownS t) = (0, l ++ [t]) := by
  cases t with
  | null => simp [doT, ownS, nullS, usedB, Tr.kid]
  | flag b => simp [doT, ownS, flagS, usedB, Tr.kid]
  | num x =>
    unfold Tr.Ok at h
    simp [doT, ownS, numS, usedB, Tr.kid, h.1, h.2.1]
  | text s =>
    unfold Tr.Ok at h
    have hb := (fit_le hf).2.1
    unfold Tr.bytes at hb
    simp [doT, ownS, textS, usedB, Tr.kid, h, hb]
  | list k =>
    simp only [ownS, Tr.kid]
    rw [doT_list]
    unfold listT
    rw [if_neg (by simp), drop_own, take_own, if_pos hf]
  | obj ks k =>
    unfold Tr.Ok at h
    simp only [ownS, Tr.kid]
    rw [doT_obj]
    have hle : ks.length ≤ (l ++ k).length := by simp; omega
    have hd : (l ++ k).drop ((l ++ k).length - ks.length) = k := by rw [h.1]; exact drop_own l k
    have ht : (l ++ k).take ((l ++ k).length - ks.length) = l := by rw [h.1]; exact take_own l k
    rw [objT_0 h.2.2.1 (rise_nodup h.2.1) hle (by rw [hd, mkObj_rise h.2.1 h.1]; exact hf), hd, ht, mkObj_rise h.2.1 h.1]
theorem runT_one {l l' : List Tr} {s : Stp} {ss : List Stp} {i : Nat} (h : doT l s = (0, l')) : runT l (s :: ss) i = runT l' ss (i + 1) := by
  rw [runT, h]
  simp
theorem run_steps (t : Tr) : t.Ok → t.fit = true → ∀ l rest i, runT l (stepsT t ++ rest) i = runT (l ++ [t]) rest (i + t.nodes) := by
  have grp : ∀ (t : Tr), t.Ok → t.fit = true → (∀ x, x ∈ t.kid → ∀ l rest i, runT l (stepsT x ++ rest) i = runT (l ++ [x]) rest (i + x.nodes)) → ∀ l rest i, runT l (stepsT t ++ rest) i = runT (l ++ [t]) rest (i + t.nodes) := by
    intro t h hf ih l rest i
    have hk : ∀ (k : List Tr), (∀ x, x ∈ k → ∀ l rest i, runT l (stepsT x ++ rest) i = runT (l ++ [x]) rest (i + x.nodes)) → ∀ l rest i, runT l (stepsL k ++ rest) i = runT (l ++ k) rest (i + nodesL k) := by
      intro k
      induction k with
      | nil => intro _ l rest i; simp [stepsL, nodesL]
      | cons x k ihk =>
        intro hx l rest i
        rw [stepsL, List.append_assoc, hx x (by simp), ihk fun y hy => hx y (by simp [hy])]
        simp [nodesL, Nat.add_assoc]
    rw [stepsT_kids, List.append_assoc, hk t.kid ih]
    rw [List.singleton_append, runT_one (doT_own t h hf l), kid_nodes]
    rfl
  induction t using Tr.ind with
  | h0 => exact fun h hf => grp _ h hf fun x hx => by cases hx
  | h1 b => exact fun h hf => grp _ h hf fun x hx => by cases hx
  | h2 x => exact fun h hf => grp _ h hf fun x hx => by cases hx
  | h3 s => exact fun h hf => grp _ h hf fun x hx => by cases hx
  | h4 k ih =>
    intro h hf
    refine grp _ h hf fun x hx => ih x hx ?_ ?_
    · unfold Tr.Ok at h
      exact ((okl_iff k).1 h x hx).1
    · unfold Tr.Ok at h
      exact ((okl_iff k).1 h x hx).2
  | h5 ks k ih =>
    intro h hf
    refine grp _ h hf fun x hx => ih x hx ?_ ?_
    · unfold Tr.Ok at h
      exact ((okl_iff k).1 h.2.2.2 x hx).1
    · unfold Tr.Ok at h
      exact ((okl_iff k).1 h.2.2.2 x hx).2
/-- a value's steps make it again -/
theorem build_steps {t : Tr} (h : t.Ok) (hf : t.fit = true) : buildT (stepsT t) = .inr t := by
  have hr := run_steps t h hf [] [] 0
  rw [List.append_nil, List.nil_append] at hr
  unfold buildT
  rw [if_neg (by rw [stepsT_len]; have := (fit_le hf).1; omega), hr]
  rfl
theorem ownS_fine {t : Tr} (h : t.Ok) (hf : t.fit = true) : (ownS t).Fine := by
  have hb := (fit_le hf).2.1
  have hn := (fit_le hf).1
  cases t with
  | null => exact null_fine
  | flag b => exact flag_fine b
  | num x =>
    unfold Tr.Ok at h
    exact num_fine h.2.2
  | text s =>
    unfold Tr.bytes at hb
    exact text_fine (by omega)
  | list l => exact list_fine _
  | obj ks l =>
    unfold Tr.Ok at h
    unfold Tr.bytes at hb
    unfold Tr.nodes at hn
    have := nodes_len l
    refine obj_fine (fun k hk => ?_) (by omega) (by omega)
    obtain ⟨j, hj, rfl⟩ := List.getElem_of_mem hk
    have := lens_at ks j hj
    omega
theorem steps_fine (t : Tr) : t.Ok → t.fit = true → ∀ s ∈ stepsT t, s.Fine := by
  have grp : ∀ (t : Tr), t.Ok → t.fit = true → (∀ x, x ∈ t.kid → ∀ s ∈ stepsT x, s.Fine) → ∀ s ∈ stepsT t, s.Fine := by
    intro t h hf ih s hs
    have hk : ∀ (k : List Tr), (∀ x, x ∈ k → ∀ s ∈ stepsT x, s.Fine) → ∀ s ∈ stepsL k, s.Fine := by
      intro k
      induction k with
      | nil => intro _ s hs; simp [stepsL] at hs
      | cons x k ihk =>
        intro hx s hs
        rw [stepsL, List.mem_append] at hs
        rcases hs with hs | hs
        · exact hx x (by simp) s hs
        · exact ihk (fun y hy => hx y (by simp [hy])) s hs
    rw [stepsT_kids, List.mem_append] at hs
    rcases hs with hs | hs
    · exact hk _ ih s hs
    · rw [List.mem_singleton] at hs
      rw [hs]
      exact ownS_fine h hf
  induction t using Tr.ind with
  | h0 => exact fun h hf => grp _ h hf fun x hx => by cases hx
  | h1 b => exact fun h hf => grp _ h hf fun x hx => by cases hx
  | h2 x => exact fun h hf => grp _ h hf fun x hx => by cases hx
  | h3 s => exact fun h hf => grp _ h hf fun x hx => by cases hx
  | h4 k ih =>
    intro h hf
    refine grp _ h hf fun x hx => ih x hx ?_ ?_
    · unfold Tr.Ok at h
      exact ((okl_iff k).1 h x hx).1
    · unfold Tr.Ok at h
      exact ((okl_iff k).1 h x hx).2
  | h5 ks k ih =>
    intro h hf
    refine grp _ h hf fun x hx => ih x hx ?_ ?_
    · unfold Tr.Ok at h
      exact ((okl_iff k).1 h.2.2.2 x hx).1
    · unfold Tr.Ok at h
      exact ((okl_iff k).1 h.2.2.2 x hx).2
end Nd
end Go.Proofs.YtbcckpnngonoeaaGreatDoor

