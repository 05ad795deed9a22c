/-
  Steps whose objects' members come in another order, in plain terms: they make the same tree.
-/
import Derived.Test.YtfhfkggkbeahbaaGreatNsJ
import Derived.Test.YtfhfkggkbeahbaaGreatNsI
namespace Go.Proofs.YtfhfkggkbeahbaaGreat
open Go.RowKit Mem
set_option linter.unusedVariables false
namespace Nd

def singleB (s : Stp) : Bool := !(s.sort == 5 || s.sort == 6)
/-- one step behind steps that are turned already -/
def turn1 (out : List Stp) (s : Stp) : List Stp :=
  if s.sort = 6 ∧ 2 ≤ s.keys.length ∧ s.keys.length ≤ out.length ∧ (out.drop (out.length - s.keys.length)).all singleB = true then
    out.take (out.length - s.keys.length) ++ ([out.getD (out.length - 1) nullS] ++ (out.drop (out.length - s.keys.length)).take (s.keys.length - 1)) ++ [objS (s.keys.getD (s.keys.length - 1) [] :: s.keys.take (s.keys.length - 1))]
  else out ++ [s]
def turnL (ss : List Stp) : List Stp := ss.foldl turn1 []
def runO : List Tr → List Stp → Option (List Tr)
  | l, [] => some l
  | l, s :: ss => if (doT l s).1 = 0 then runO (doT l s).2 ss else none
theorem runO_iff : ∀ (ss : List Stp) (l r : List Tr) (i : Nat), runT l ss i = .inr r ↔ runO l ss = some r
  | [], l, r, i => by simp [runT, runO]
  | s :: ss, l, r, i => by
    rw [runT, runO]
    split
    · exact runO_iff ss _ r (i + 1)
    · simp
theorem runO_app (a b : List Stp) (l : List Tr) : runO l (a ++ b) = (runO l a).bind fun l' => runO l' b := by
  induction a generalizing l with
  | nil => rfl
  | cons s a ih =>
    rw [List.cons_append, runO, runO]
    split
    · exact ih _
    · rfl
/-- what a step puts that takes nothing -/
def val (s : Stp) : Option Tr :=
  if usedB s.sort s.flag s.bits s.text s.count s.keys.length = false then none
  else if s.sort = 1 then some .null
  else if s.sort = 2 then some (.flag s.flag)
  else if s.sort = 3 then (if finB s.bits = true then some (.num (normB s.bits)) else none)
  else (if rightB s.text = true then (if s.text.length ≤ 2097152 then some (.text s.text) else none) else none)
theorem doT_single (l : List Tr) (s : Stp) (h : singleB s = true) : (∃ x, val s = some x ∧ doT l s = (0, l ++ [x])) ∨ (val s = none ∧ (doT l s).1 ≠ 0) := by
  simp only [singleB, Bool.not_eq_true', Bool.or_eq_false_iff, beq_eq_false_iff_ne, ne_eq] at h
  obtain ⟨h5, h6⟩ := h
  unfold val doT
  by_cases hu : usedB s.sort s.flag s.bits s.text s.count s.keys.length = false
  · rw [if_pos hu, if_pos hu]
    exact .inr ⟨rfl, show (2 : Int) ≠ 0 by decide⟩
  · rw [if_neg hu, if_neg hu]
    obtain ⟨h1, h2, _⟩ := used_shape (by simpa using hu)
    by_cases s1 : s.sort = 1
    · rw [if_pos s1, if_pos s1]
      exact .inl ⟨_, rfl, rfl⟩
    · rw [if_neg s1, if_neg s1]
      by_cases s2 : s.sort = 2
      · rw [if_pos s2, if_pos s2]
        exact .inl ⟨_, rfl, rfl⟩
      · rw [if_neg s2, if_neg s2]
        by_cases s3 : s.sort = 3
        · rw [if_pos s3, if_pos s3]
          by_cases hf : finB s.bits = true
          · rw [if_pos hf, if_pos hf]
            exact .inl ⟨_, rfl, rfl⟩
          · rw [if_neg hf, if_neg hf]
            exact .inr ⟨rfl, show (104 : Int) ≠ 0 by decide⟩
        · have s4 : s.sort = 4 := by omega
          rw [if_neg s3, if_neg s3, if_pos s4]
          by_cases hr : rightB s.text = true
          · rw [if_pos hr, if_pos hr]
            by_cases hl : s.text.length ≤ 2097152
            · rw [if_pos hl, if_pos hl]
              exact .inl ⟨_, rfl, rfl⟩
            · rw [if_neg hl, if_neg hl]
              exact .inr ⟨rfl, show (3 : Int) ≠ 0 by decide⟩
          · rw [if_neg hr, if_neg hr]
            exact .inr ⟨rfl, show (100 : Int) ≠ 0 by decide⟩
theorem runO_single : ∀ (X : List Stp) (l : List Tr), X.all singleB = true → runO l X = (X.mapM val).map (l ++ ·)
  | [], l, _ => by simp [runO]
  | s :: X, l, h => by
    simp only [List.all_cons, Bool.and_eq_true] at h
    rw [runO, List.mapM_cons]
    rcases doT_single l s h.1 with ⟨x, hv, hd⟩ | ⟨hv, hd⟩
    · rw [hd, if_pos rfl, hv, runO_single X _ h.2]
      cases X.mapM val with
      | none => rfl
      | some xs => simp
    · rw [if_neg hd, hv]
      rfl
theorem mapM_len : ∀ (X : List Stp) (xs : List Tr), X.mapM val = some xs → xs.length = X.length
  | [], xs, h => by simp at h; subst h; rfl
  | s :: X, xs, h => by
    rw [List.mapM_cons] at h
    cases hv : val s with
    | none => rw [hv] at h; cases h
    | some x =>
      rw [hv] at h
      cases hm : X.mapM val with
      | none => rw [hm] at h; cases h
      | some ys =>
        rw [hm] at h
        simp at h
        subst h
        simp [mapM_len X ys hm]
theorem mapM_app (X Y : List Stp) : (X ++ Y).mapM val = (X.mapM val).bind fun a => (Y.mapM val).map (a ++ ·) := by
  induction X with
  | nil => simp
  | cons s X ih =>
    rw [List.cons_append, List.mapM_cons, List.mapM_cons, ih]
    cases val s with
    | none => rfl
    | some x =>
      cases X.mapM val with
      | none => rfl
      | some xs =>
        cases Y.mapM val with
        | none => rfl
        | some ys => rfl
theorem ltL_false {a b : Tx} (h : ltL a b = false) (h' : ltL b a = false) : a = b := ltL_one a b h h'
theorem sortK_unique {a b : List Tx} (h : a.Perm b) (hn : a.Nodup) : sortK a = sortK b := by
  have h1 := sortK_rise a hn
  have h2 := sortK_rise b (h.nodup_iff.1 hn)
  have hp : (sortK a).Perm (sortK b) := ((sortK_perm a).trans h).trans (sortK_perm b).symm
  unfold Rise at h1 h2
  refine hp.eq_of_pairwise (le := fun x y => cmpL x y < 0) ?_ h1 h2
  intro x y _ _ h3 h4
  have := cmp_turn x y
  omega
theorem mkObj_turn (ks : List Tx) (k : Tx) (I : List Tr) (x : Tr) (hn : (ks ++ [k]).Nodup) (hl : I.length = ks.length) : mkObj (k :: ks) (x :: I) = mkObj (ks ++ [k]) (I ++ [x]) := by
  have hp : (k :: ks).Perm (ks ++ [k]) := (List.perm_append_singleton k ks).symm
  have hs := sortK_unique hp.symm hn
  unfold mkObj
  rw [hs]
  congr 1
  refine List.map_congr_left fun c hc => ?_
  have hm : c ∈ ks ++ [k] := hp.mem_iff.1 ((sortK_perm (k :: ks)).mem_iff.1 hc)
  rw [List.nodup_append] at hn
  by_cases e : k = c
  · subst e
    have hnk : k ∉ ks := fun h => hn.2.2 k h k (by simp) rfl
    rw [List.idxOf_cons_self, List.idxOf_append, if_neg hnk]
    simp [← hl]
  · have hck : c ∈ ks := by
      rcases List.mem_append.1 hm with h | h
      · exact h
      · rw [List.mem_singleton] at h
        exact absurd h.symm e
    have hne : (k == c) = false := by simpa using e
    have hi := List.idxOf_lt_length_of_mem hck
    rw [List.idxOf_append, if_pos hck, List.idxOf_cons, hne]
    simp only [cond_false]
    rw [List.getD_eq_getElem?_getD, List.getD_eq_getElem?_getD, List.getElem?_cons_succ, List.getElem?_append_left (by omega)]
theorem objT_inv {ks : List Tx} {l r : List Tr} (h : objT rightB ks l = (0, r)) : ks.all rightB = true ∧ ks.Nodup ∧ ks.length ≤ l.length ∧ (mkObj ks (l.drop (l.length - ks.length))).fit = true ∧ r = l.take (l.length - ks.length) ++ [mkObj ks (l.drop (l.length - ks.length))] := by
  unfold objT at h
  split at h
  · cases h
  · rename_i h1
    split at h
    · cases h
    · rename_i h2
      split at h
      · cases h
      · rename_i h3
        split at h
        · rename_i h4
          injection h with _ h
          exact ⟨by simpa using h1, by simpa using h2, by omega, h4, h.symm⟩
        · cases h
theorem runO_one {l r : List Tr} {s : Stp} : runO l [s] = some r ↔ doT l s = (0, r) := by
  rw [runO]
  constructor
  · intro h
    split at h
    · rename_i h0
      simp only [runO, Option.some.injEq] at h
      exact Prod.ext h0 h
    · cases h
  · intro h
    rw [h]
    rfl
theorem turn1_len (out : List Stp) (s : Stp) : (turn1 out s).length = out.length + 1 := by
  unfold turn1
  split
  · rename_i h
    simp only [List.length_append, List.length_take, List.length_drop, List.length_singleton]
    omega
  · simp
theorem split_last {α : Type} (X : List α) (d : α) (n : Nat) (hn : X.length = n + 1) : X = X.take n ++ [X.getD n d] := by
  rw [List.getD_eq_getElem?_getD, List.getElem?_eq_getElem (by omega)]
  simp only [Option.getD_some]
  rw [← List.take_succ_eq_append_getElem (by omega), List.take_of_length_le (by omega)]
theorem turn1_run {out : List Stp} {s : Stp} {r r' : List Tr} (h : runO [] out = some r) (hd : doT r s = (0, r')) : runO [] (turn1 out s) = some r' := by
  unfold turn1
  by_cases hc : s.sort = 6 ∧ 2 ≤ s.keys.length ∧ s.keys.length ≤ out.length ∧ (out.drop (out.length - s.keys.length)).all singleB = true
  · rw [if_pos hc]
    obtain ⟨h6, h2, hm, hs⟩ := hc
    have hso : ∃ ks, s = objS ks := by
      rcases stp_shape s (doT_used (by rw [hd])) with rfl | ⟨_, rfl⟩ | ⟨_, rfl⟩ | ⟨_, rfl⟩ | ⟨_, rfl⟩ | h
      · cases h6
      · cases h6
      · cases h6
      · cases h6
      · cases h6
      · exact h
    obtain ⟨ks, rfl⟩ := hso
    simp only [objS] at h2 hm hs ⊢
    rw [doT_obj] at hd
    obtain ⟨n, hn⟩ : ∃ n, ks.length = n + 1 := ⟨ks.length - 1, by omega⟩
    rw [hn] at hm hs ⊢
    rw [Nat.add_sub_cancel]
    obtain ⟨a, ha⟩ : ∃ a, out.length = a + (n + 1) := ⟨out.length - (n + 1), by omega⟩
    have hak : out.length - (n + 1) = a := by omega
    rw [hak] at hs ⊢
    obtain ⟨A, hA⟩ : ∃ A, out.take a = A := ⟨_, rfl⟩
    obtain ⟨X, hX⟩ : ∃ X, out.drop a = X := ⟨_, rfl⟩
    have hout : out = A ++ X := by rw [← hA, ← hX, List.take_append_drop]
    have hXl : X.length = n + 1 := by rw [← hX, List.length_drop]; omega
    have hAl : A.length = a := by rw [← hA, List.length_take]; omega
    have hlast : out.getD (out.length - 1) nullS = X.getD n nullS := by
      rw [hout, List.getD_eq_getElem?_getD, List.getD_eq_getElem?_getD, List.getElem?_append_right (by simp; omega)]
      congr 2
      simp
      omega
    rw [hlast, hA]
    rw [hX] at hs ⊢
    have hXs := split_last X nullS n hXl
    have hks := split_last ks [] n hn
    obtain ⟨Y, hY⟩ : ∃ Y, X.take n = Y := ⟨_, rfl⟩
    obtain ⟨y, hy⟩ : ∃ y, X.getD n nullS = y := ⟨_, rfl⟩
    obtain ⟨js, hjs⟩ : ∃ js, ks.take n = js := ⟨_, rfl⟩
    obtain ⟨k, hk⟩ : ∃ k, ks.getD n [] = k := ⟨_, rfl⟩
    rw [hY, hy] at hXs ⊢
    rw [hjs, hk] at hks ⊢
    rw [hout, runO_app] at h
    cases h0 : runO [] A with
    | none => rw [h0] at h; cases h
    | some r0 =>
      rw [h0] at h
      simp only [Option.bind_some] at h
      rw [runO_single X r0 hs, hXs, mapM_app] at h
      rw [hXs] at hs
      simp only [List.all_append, Bool.and_eq_true, List.all_cons, List.all_nil, Bool.and_true] at hs
      cases hmY : Y.mapM val with
      | none => rw [hmY] at h; cases h
      | some xs =>
        rw [hmY] at h
        simp only [Option.bind_some] at h
        cases hv : val y with
        | none => rw [List.mapM_cons, hv] at h; cases h
        | some x =>
          rw [List.mapM_cons, hv] at h
          simp at h
          have hxl : xs.length = n := by
            rw [mapM_len Y xs hmY, ← hY, List.length_take]
            omega
          subst h
          have hnew : runO r0 ([y] ++ Y) = some (r0 ++ (x :: xs)) := by
            rw [runO_single _ _ (by simp [hs.1, hs.2]), List.singleton_append, List.mapM_cons, hv, hmY]
            rfl
          obtain ⟨o1, o2, o3, o4, o5⟩ := objT_inv hd
          have hdr : (r0 ++ (xs ++ [x])).drop ((r0 ++ (xs ++ [x])).length - ks.length) = xs ++ [x] := by
            rw [hn, ← hxl]
            simp
          have htk : (r0 ++ (xs ++ [x])).take ((r0 ++ (xs ++ [x])).length - ks.length) = r0 := by
            rw [hn, ← hxl]
            simp
          rw [hdr] at o4 o5
          rw [htk] at o5
          have hjl : js.length = n := by rw [← hjs, List.length_take]; omega
          have hpm : (k :: js).Perm ks := by rw [hks]; exact (List.perm_append_singleton k js).symm
          have hmk : mkObj (k :: js) (x :: xs) = mkObj ks (xs ++ [x]) := by
            rw [hks] at o2 ⊢
            exact mkObj_turn js k xs x o2 (by omega)
          have hfin : doT (r0 ++ (x :: xs)) (objS (k :: js)) = (0, r') := by
            rw [doT_obj]
            have hl2 : (k :: js).length = (x :: xs).length := by simp; omega
            have hd2 : (r0 ++ (x :: xs)).drop ((r0 ++ (x :: xs)).length - (k :: js).length) = x :: xs := by rw [hl2]; exact drop_own r0 (x :: xs)
            have ht2 : (r0 ++ (x :: xs)).take ((r0 ++ (x :: xs)).length - (k :: js).length) = r0 := by rw [hl2]; exact take_own r0 (x :: xs)
            rw [objT_0 (by rw [List.all_eq_true] at o1 ⊢; exact fun c hc => o1 c (hpm.mem_iff.1 hc)) (hpm.nodup_iff.2 o2) (by rw [List.length_append]; omega) (by rw [hd2, hmk]; exact o4), hd2, ht2, hmk, o5]
          rw [List.append_assoc, runO_app, h0]
          simp only [Option.bind_some]
          rw [runO_app, hnew]
          simp only [Option.bind_some]
          exact runO_one.2 hfin
  · rw [if_neg hc, runO_app, h]
    simp only [Option.bind_some]
    exact runO_one.2 hd
theorem turn_foldl (ss : List Stp) : ∀ (out : List Stp) (r r' : List Tr), runO [] out = some r → runO r ss = some r' → runO [] (ss.foldl turn1 out) = some r' ∧ (ss.foldl turn1 out).length = out.length + ss.length := by
  induction ss with
  | nil =>
    intro out r r' h k
    simp only [runO, Option.some.injEq] at k
    subst k
    exact ⟨h, rfl⟩
  | cons s ss ih =>
    intro out r r' h k
    rw [runO] at k
    split at k
    · rename_i h0
      have h1 := turn1_run (s := s) (r' := (doT r s).2) h (Prod.ext h0 rfl)
      obtain ⟨h2, h3⟩ := ih _ _ _ h1 k
      refine ⟨h2, ?_⟩
      rw [List.foldl_cons, h3, turn1_len, List.length_cons]
      omega
    · cases k
theorem build_turn {t : Tr} (h : t.Ok) (hf : t.fit = true) : buildT (turnL (stepsT t)) = .inr t := by
  obtain ⟨hl, hr⟩ := buildT_run (build_steps h hf)
  have hr2 := (runO_iff _ _ _ 0).1 hr
  obtain ⟨h1, h2⟩ := turn_foldl (stepsT t) [] [] [t] rfl hr2
  have h3 := (runO_iff _ _ _ 0).2 h1
  unfold buildT turnL
  rw [if_neg (by rw [h2]; simp; omega), h3]
theorem turn1_fine {out : List Stp} {s : Stp} (h : ∀ x ∈ out, x.Fine) (hs : s.Fine) : ∀ x ∈ turn1 out s, x.Fine := by
  intro x hx
  unfold turn1 at hx
  split at hx
  · rename_i hc
    simp only [List.mem_append, List.mem_singleton] at hx
    rcases hx with (hx | hx | hx) | hx
    · exact h x (List.mem_of_mem_take hx)
    · rw [hx, List.getD_eq_getElem?_getD]
      rcases Nat.lt_or_ge (out.length - 1) out.length with h1 | h1
      · rw [List.getElem?_eq_getElem h1]
        exact h _ (List.getElem_mem h1)
      · rw [List.getElem?_eq_none h1]
        exact null_fine
    · exact h x (List.mem_of_mem_drop (List.mem_of_mem_take hx))
    · rw [hx]
      obtain ⟨n, hn⟩ : ∃ n, s.keys.length = n + 1 := ⟨s.keys.length - 1, by omega⟩
      have hks := split_last s.keys [] n hn
      have hpm : (s.keys.getD n [] :: s.keys.take n).Perm s.keys := by
        rw [List.perm_comm]
        exact (List.Perm.of_eq hks).trans (List.perm_append_singleton _ _)
      rw [hn, Nat.add_sub_cancel]
      exact obj_fine (fun c hc => hs.kl c (hpm.mem_iff.1 hc)) (by rw [lens_perm hpm]; exact hs.bk) (by rw [hpm.length_eq]; exact hs.kn)
  · rcases List.mem_append.1 hx with hx | hx
    · exact h x hx
    · rw [List.mem_singleton] at hx
      rw [hx]
      exact hs
theorem turnL_fine {ss : List Stp} (h : ∀ s ∈ ss, s.Fine) : ∀ x ∈ turnL ss, x.Fine := by
  have hf : ∀ (ss out : List Stp), (∀ s ∈ ss, s.Fine) → (∀ s ∈ out, s.Fine) → ∀ x ∈ ss.foldl turn1 out, x.Fine := by
    intro ss
    induction ss with
    | nil => exact fun out _ h => h
    | cons s ss ih => exact fun out h1 h2 => ih _ (fun x hx => h1 x (by simp [hx])) (turn1_fine h2 (h1 s (by simp)))
  exact hf ss [] h (fun s hs => by cases hs)
end Nd
end Go.Proofs.YtfhfkggkbeahbaaGreat
