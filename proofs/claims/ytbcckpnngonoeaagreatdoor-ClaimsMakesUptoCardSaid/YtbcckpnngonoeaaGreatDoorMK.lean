/-
  Plain law: a maker's calls for what claims, and what they come to.
  Walk of package claims: put.
  Walk of package claims: Make.
-/
import Derived.Test.YtbcckpnngonoeaaGreatDoorCrP
import Derived.Test.YtbcckpnngonoeaaGreatDoorHG
import Derived.Test.YtbcckpnngonoeaaGreatDoorCvD
import Derived.Test.YtbcckpnngonoeaaGreatDoorGG
import Derived.Laws.Cover2
import Derived.Test.YtbcckpnngonoeaaGreatDoorCvB
namespace Go.Proofs.YtbcckpnngonoeaaGreatDoor
open Go.RowKit Ref3
set_option linter.unusedVariables false
set_option linter.unusedSimpArgs false
namespace Nd
open Cl
/-- a maker's calls, one behind the other; none: one of them is refused -/
def runS : List Tr → List Stp → Option (List Tr)
  | l, [] => some l
  | l, s :: ss => if (stepT l s).1 = 0 then runS (stepT l s).2 ss else none
theorem runS_app : ∀ (a b : List Stp) (l : List Tr), runS l (a ++ b) = (runS l a).bind fun m => runS m b
  | [], b, l => rfl
  | s :: a, b, l => by
    rw [List.cons_append, runS, runS]
    split
    · exact runS_app a b _
    · rfl
theorem runS_one (l : List Tr) (s : Stp) : runS l [s] = if (stepT l s).1 = 0 then some (stepT l s).2 else none := by
  rw [runS]
  rfl
theorem mem_le : ∀ {l : List Tr} {t : Tr}, t ∈ l → t.nodes ≤ nodesL l ∧ t.bytes ≤ bytesL l ∧ t.depth ≤ depthL l
  | x :: l, t, h => by
    rcases List.mem_cons.1 h with rfl | h
    · unfold nodesL bytesL depthL
      omega
    · have := mem_le h
      unfold nodesL bytesL depthL
      omega
theorem kid_fit {t x : Tr} (hf : t.fit = true) (hx : x ∈ t.kid) : x.fit = true := by
  have h := fit_le hf
  have h2 := mem_le hx
  have h3 := kid_nodes t
  have hb : bytesL t.kid ≤ t.bytes ∧ depthL t.kid ≤ t.depth := by
    cases t with
    | list l => exact ⟨by unfold Tr.bytes; exact Nat.le_refl _, by unfold Tr.depth; exact Nat.le_succ _⟩
    | obj ks l => exact ⟨by unfold Tr.bytes; exact Nat.le_add_left _ _, by unfold Tr.depth; exact Nat.le_succ _⟩
    | null => exact ⟨Nat.zero_le _, Nat.zero_le _⟩
    | flag b => exact ⟨Nat.zero_le _, Nat.zero_le _⟩
    | num b => exact ⟨Nat.zero_le _, Nat.zero_le _⟩
    | text b => exact ⟨Nat.zero_le _, Nat.zero_le _⟩
  unfold Tr.fit
  simp only [Bool.and_eq_true, decide_eq_true_eq]
  omega
theorem own_low {t : Tr} (h : (ownS t).sort < 5) : t.kid = [] := by
  cases t with
  | list l => simp [ownS, listS] at h
  | obj ks l => simp [ownS, objS] at h
  | _ => rfl
/-- a maker that is called with a value's steps, in order -/
theorem runS_fit (t : Tr) : t.Ok → t.fit = true → ∀ l rest, l.length + t.nodes ≤ 65536 → runS l (stepsT t ++ rest) = runS (l ++ [t]) rest := by
  have grp : ∀ (t : Tr), t.Ok → t.fit = true → (∀ x, x ∈ t.kid → ∀ l rest, l.length + x.nodes ≤ 65536 → runS l (stepsT x ++ rest) = runS (l ++ [x]) rest) → ∀ l rest, l.length + t.nodes ≤ 65536 → runS l (stepsT t ++ rest) = runS (l ++ [t]) rest := by
    intro t h hf ih l rest hn
    have hk : ∀ (k : List Tr), (∀ x, x ∈ k → ∀ l rest, l.length + x.nodes ≤ 65536 → runS l (stepsT x ++ rest) = runS (l ++ [x]) rest) → ∀ l rest, l.length + nodesL k ≤ 65536 → runS l (stepsL k ++ rest) = runS (l ++ k) rest := by
      intro k
      induction k with
      | nil => intro _ l rest _; simp [stepsL]
      | cons x k ihk =>
        intro hx l rest hl
        have h1 : 1 ≤ x.nodes := by rw [kid_nodes]; omega
        unfold nodesL at hl
        rw [stepsL, List.append_assoc, hx x (by simp) _ _ (by omega), ihk (fun y hy => hx y (by simp [hy])) _ _ (by simp; omega)]
        simp
    rw [kid_nodes] at hn
    rw [stepsT_kids, List.append_assoc, hk t.kid ih _ _ (by omega)]
    rw [List.singleton_append, runS]
    have hd := doT_own t h hf l
    have hs : stepT (l ++ t.kid) (ownS t) = (0, l ++ [t]) := by
      unfold stepT
      rw [if_neg, hd]
      rintro ⟨h1, h2⟩
      rw [own_low h1] at h2
      simp at h2
      omega
    rw [hs]
    rfl
  induction t using Tr.ind with
  | h0 => exact fun h hf => grp _ h hf fun x hx => by cases hx
  | h1 b => exact fun h hf => grp _ h hf fun x hx => by cases hx
  | h2 x => exact fun h hf => grp _ h hf fun x hx => by cases hx
  | h3 s => exact fun h hf => grp _ h hf fun x hx => by cases hx
  | h4 k ih =>
    intro h hf
    refine grp _ h hf fun x hx => ih x hx ?_ ?_
    · unfold Tr.Ok at h
      exact ((okl_iff k).1 h x hx).1
    · unfold Tr.Ok at h
      exact ((okl_iff k).1 h x hx).2
  | h5 ks k ih =>
    intro h hf
    refine grp _ h hf fun x hx => ih x hx ?_ ?_
    · unfold Tr.Ok at h
      exact ((okl_iff k).1 h.2.2.2 x hx).1
    · unfold Tr.Ok at h
      exact ((okl_iff k).1 h.2.2.2 x hx).2
theorem stepT_zero {l l' : List Tr} {s : Stp} (h : runS l [s] = some l') : stepT l s = (0, l') := by
  rw [runS_one] at h
  by_cases h0 : (stepT l s).1 = 0
  · rw [if_pos h0] at h
    injection h with h
    exact Prod.ext h0 h
  · rw [if_neg h0] at h
    cases h
theorem step_text {l l' : List Tr} {s : Txt} (h : runS l [textS s] = some l') : l' = l ++ [.text s] := by
  have h := stepT_zero h
  unfold stepT at h
  by_cases hc : (textS s).sort < 5 ∧ 65536 ≤ l.length
  · rw [if_pos hc] at h
    exact absurd (congrArg Prod.fst h) (by simp)
  · rw [if_neg hc] at h
    have hd : doT l (textS s) = if rightB s = true then (if s.length ≤ 2097152 then (0, l ++ [.text s]) else (3, l)) else (100, l) := by
      simp [doT, textS, usedB]
      rfl
    rw [hd] at h
    by_cases h1 : rightB s = true
    · rw [if_pos h1] at h
      by_cases h2 : s.length ≤ 2097152
      · rw [if_pos h2] at h
        exact (congrArg Prod.snd h).symm
      · rw [if_neg h2] at h
        exact absurd (congrArg Prod.fst h) (by simp)
    · rw [if_neg h1] at h
      exact absurd (congrArg Prod.fst h) (by simp)
theorem step_num {l l' : List Tr} {x : Nat} (hn : normB x = x) (h : runS l [numS x] = some l') : l' = l ++ [.num x] := by
  have h := stepT_zero h
  unfold stepT at h
  by_cases hc : (numS x).sort < 5 ∧ 65536 ≤ l.length
  · rw [if_pos hc] at h
    exact absurd (congrArg Prod.fst h) (by simp)
  · rw [if_neg hc] at h
    have hd : doT l (numS x) = if finB x = true then (0, l ++ [.num (normB x)]) else (104, l) := by
      simp [doT, numS, usedB]
      rfl
    rw [hd, hn] at h
    by_cases h1 : finB x = true
    · rw [if_pos h1] at h
      exact (congrArg Prod.snd h).symm
    · rw [if_neg h1] at h
      exact absurd (congrArg Prod.fst h) (by simp)
theorem step_list {l ts l' : List Tr} (h : runS (l ++ ts) [listS ts.length] = some l') : l' = l ++ [.list ts] ∧ (Tr.list ts).fit = true := by
  have h := stepT_zero h
  have hs : stepT (l ++ ts) (listS ts.length) = listT ts.length (l ++ ts) := by
    unfold stepT
    rw [if_neg (by simp [listS]), doT_list]
  rw [hs] at h
  have hd : (l ++ ts).drop ((l ++ ts).length - ts.length) = ts := drop_own l ts
  have ht : (l ++ ts).take ((l ++ ts).length - ts.length) = l := take_own l ts
  unfold listT at h
  rw [hd, ht, if_neg (show ¬ (l ++ ts).length < ts.length by simp)] at h
  by_cases hf : (Tr.list ts).fit = true
  · rw [if_pos hf] at h
    exact ⟨(congrArg Prod.snd h).symm, hf⟩
  · rw [if_neg hf] at h
    exact absurd (congrArg Prod.fst h) (by simp)
theorem run_texts : ∀ {ts : List Txt} {l l' : List Tr}, runS l (ts.map textS) = some l' → l' = l ++ ts.map .text
  | [], l, l', h => by
    injection h with h
    simp [h]
  | s :: ts, l, l', h => by
    rw [List.map_cons, ← List.singleton_append, runS_app] at h
    cases hx : runS l [textS s] with
    | none => rw [hx] at h; cases h
    | some m =>
      rw [hx] at h
      have h2 := run_texts (l := m) (ts := ts) h
      rw [h2, step_text hx]
      simp
theorem stepsL_texts : ∀ ts : List Txt, stepsL (ts.map .text) = ts.map textS
  | [] => rfl
  | s :: ts => by
    rw [List.map_cons, stepsL, stepsL_texts ts, List.map_cons]
    rfl
theorem steps_text (s : Txt) : stepsT (.text s) = [textS s] := rfl
theorem steps_num (x : Nat) : stepsT (.num x) = [numS x] := rfl
theorem steps_list (ts : List Txt) : stepsT (.list (ts.map .text)) = ts.map textS ++ [listS ts.length] := by
  rw [stepsT_kids]
  show stepsL (ts.map .text) ++ _ = _
  rw [stepsL_texts]
  simp [ownS]
theorem time_norm {t : Int} (h : isTime t = true) : finB (bitsT t.toNat) = true ∧ normB (bitsT t.toNat) = bitsT t.toNat ∧ bitsT t.toNat < 18446744073709551616 := by
  unfold isTime at h
  have h := of_decide_eq_true h
  by_cases h0 : t.toNat = 0
  · rw [h0]
    decide
  · obtain ⟨k, f, hk, _, hf, _, hb⟩ := bitsT_form h0 (by omega)
    rw [hb]
    have hx : (1023 + k) * 4503599627370496 + f < 9218868437227405312 ∧ 0 < (1023 + k) * 4503599627370496 + f := by omega
    clear hb
    generalize (1023 + k) * 4503599627370496 + f = b at hx ⊢
    obtain ⟨hx, hx0⟩ := hx
    refine ⟨?_, ?_, by omega⟩
    · unfold finB
      simp
      omega
    · unfold normB
      rw [if_neg (by omega)]
theorem eight {k : Nat} (h : k < 8) : k = 0 ∨ k = 1 ∨ k = 2 ∨ k = 3 ∨ k = 4 ∨ k = 5 ∨ k = 6 ∨ k = 7 := by omega
theorem valid_at {c : C} (hm : mayB c = true) {k : Nat} (hk : k < 8) : valid c (is c k) k = true := by
  have h : ∀ j n, j ≤ 8 → mayK c j n = true → ∀ k, 8 - j ≤ k → k < 8 → valid c (is c k) k = true := by
    intro j
    induction j with
    | zero => intro n _ _ k h1 h2; omega
    | succ j ih =>
      intro n hj h k h1 h2
      rw [mayK] at h
      simp only [Bool.and_eq_true] at h
      by_cases he : k = 7 - j
      · rw [he]
        exact h.1.2
      · exact ih _ (by omega) h.2 k (by omega) h2
  exact h 8 0 (by omega) hm k (by omega) hk
theorem right_of {l : List Txt} : ∀ {p : List Txt}, rightL p l = true → ∀ s ∈ l, rightR s = true := by
  induction l with
  | nil => intro _ _ s hs; cases hs
  | cons x l ih =>
    intro p h s hs
    rw [rightL] at h
    simp only [Bool.and_eq_true] at h
    rcases List.mem_cons.1 hs with rfl | hs
    · exact h.1.1
    · exact ih h.2 s hs
theorem valK_kinds {c : C} (hm : mayB c = true) {k : Nat} (hk : k < 8) : (∃ s, valK c k = .text s ∧ rightR s = true) ∨ (∃ t, valK c k = .num (bitsT t.toNat) ∧ isTime t = true) ∨ ∃ ts, valK c k = .list (ts.map .text) ∧ rightL [] ts = true := by
  have hv := valid_at hm hk
  rcases eight hk with rfl | rfl | rfl | rfl | rfl | rfl | rfl | rfl <;> simp only [valid, txt, tim, lst, Bool.and_eq_true] at hv
  · exact .inl ⟨_, rfl, hv.2⟩
  · exact .inr (.inl ⟨_, rfl, hv.2⟩)
  · exact .inl ⟨_, rfl, hv.2⟩
  · exact .inr (.inr ⟨_, rfl, hv.2⟩)
  · exact .inr (.inl ⟨_, rfl, hv.2⟩)
  · exact .inl ⟨_, rfl, hv.2⟩
  · exact .inr (.inr ⟨_, rfl, hv.2⟩)
  · exact .inr (.inl ⟨_, rfl, hv.2⟩)
theorem run_val {c : C} (hm : mayB c = true) {k : Nat} (hk : k < 8) {l l' : List Tr} (h : runS l (stepsT (valK c k)) = some l') : l' = l ++ [valK c k] := by
  rcases valK_kinds hm hk with ⟨s, hv, hr⟩ | ⟨t, hv, ht⟩ | ⟨ts, hv, hr⟩ <;> rw [hv] at h ⊢
  · exact step_text h
  · exact step_num (time_norm ht).2.1 h
  · rw [steps_list, runS_app] at h
    cases hx : runS l (ts.map textS) with
    | none => rw [hx] at h; cases h
    | some m =>
      rw [hx] at h
      have h1 := run_texts hx
      subst h1
      have h2 : runS (l ++ ts.map .text) [listS (ts.map Tr.text).length] = some l' := by rw [List.length_map]; exact h
      exact (step_list h2).1
theorem run_vals {c : C} (hm : mayB c = true) : ∀ {ps : List Nat} {l l' : List Tr}, (∀ j ∈ ps, j < 8) → runS l (stepsL (ps.map (valK c))) = some l' → l' = l ++ ps.map (valK c)
  | [], l, l', _, h => by
    injection h with h
    simp [h]
  | k :: ps, l, l', hp, h => by
    rw [List.map_cons, stepsL, runS_app] at h
    cases hx : runS l (stepsT (valK c k)) with
    | none => rw [hx] at h; cases h
    | some m =>
      rw [hx] at h
      have h1 := run_val hm (hp k (by simp)) hx
      have h2 := run_vals hm (ps := ps) (l := m) (fun j hj => hp j (by simp [hj])) h
      rw [h2, h1]
      simp
theorem keys_right (ps : List Nat) (hp : ∀ j ∈ ps, j < 8) : (ps.map key).all rightB = true := by
  rw [List.all_eq_true]
  intro x hx
  obtain ⟨j, hj, rfl⟩ := List.mem_map.1 hx
  rcases eight (hp j hj) with rfl | rfl | rfl | rfl | rfl | rfl | rfl | rfl <;> decide +kernel
theorem key_lt : ∀ a, a < 8 → ∀ b, b < 8 → a < b → cmpL (key a) (key b) < 0 := by decide +kernel
theorem places_sorted (c : C) (k : Nat) : (placesK c k).Pairwise (· < ·) := List.Pairwise.filter _ List.pairwise_lt_range
theorem places_rise (c : C) : Rise ((placesK c 8).map key) := by
  have h1 := places_sorted c 8
  have h2 : ∀ j ∈ placesK c 8, j < 8 := fun j hj => (places_lt hj).1
  generalize placesK c 8 = l at h1 h2
  unfold Rise
  rw [List.pairwise_map]
  exact h1.imp_of_mem fun {a b} ha hb hab => key_lt a (h2 a ha) b (h2 b hb) hab
theorem objC_ok {c : C} (hm : mayB c = true) (hf : (objC c).fit = true) : (objC c).Ok := by
  have hk : ∀ x ∈ (placesK c 8).map (valK c), x.Ok ∧ x.fit = true := by
    intro x hx
    have hxf : x.fit = true := kid_fit (t := objC c) hf hx
    refine ⟨?_, hxf⟩
    obtain ⟨j, hj, rfl⟩ := List.mem_map.1 hx
    rcases valK_kinds hm (places_lt hj).1 with ⟨s, hv, hr⟩ | ⟨t, hv, ht⟩ | ⟨ts, hv, hr⟩ <;> rw [hv] at hxf ⊢ <;> unfold Tr.Ok
    · exact (rightB_R s).trans hr
    · exact time_norm ht
    · rw [okl_iff]
      intro y hy
      refine ⟨?_, kid_fit hxf hy⟩
      obtain ⟨s, hs, rfl⟩ := List.mem_map.1 hy
      unfold Tr.Ok
      exact (rightB_R s).trans (right_of hr s hs)
  unfold objC
  unfold Tr.Ok
  exact ⟨by simp, places_rise c, keys_right _ fun j hj => (places_lt hj).1, (okl_iff _).2 hk⟩
theorem objS_is (c : C) : ownS (objC c) = objS ((placesK c 8).map key) := rfl
theorem steps_objC (c : C) : stepsT (objC c) = stepsL ((placesK c 8).map (valK c)) ++ [objS ((placesK c 8).map key)] := by
  rw [stepsT_kids]
  rfl
theorem run_obj {c : C} {l' : List Tr} (h : runS ((placesK c 8).map (valK c)) [objS ((placesK c 8).map key)] = some l') : l' = [objC c] ∧ (objC c).fit = true := by
  have h := stepT_zero h
  have hs : stepT ((placesK c 8).map (valK c)) (objS ((placesK c 8).map key)) = objT rightB ((placesK c 8).map key) ((placesK c 8).map (valK c)) := by
    unfold stepT
    rw [if_neg (by simp [objS]), doT_obj]
  rw [hs] at h
  have hlen : ((placesK c 8).map (valK c)).length - ((placesK c 8).map key).length = 0 := by simp
  have hr : ((placesK c 8).map key).all rightB = true := keys_right _ fun j hj => (places_lt hj).1
  unfold objT at h
  rw [hlen, List.drop_zero, List.take_zero, List.nil_append, mkObj_rise (places_rise c) (by simp), if_neg (by rw [hr]; simp), if_neg (fun h => h (rise_nodup (places_rise c))), if_neg (show ¬ ((placesK c 8).map (valK c)).length < ((placesK c 8).map key).length by simp)] at h
  by_cases hf : (objC c).fit = true
  · rw [if_pos (show (Tr.obj ((placesK c 8).map key) ((placesK c 8).map (valK c))).fit = true from hf)] at h
    exact ⟨(congrArg Prod.snd h).symm, hf⟩
  · rw [if_neg (show ¬ (Tr.obj ((placesK c 8).map key) ((placesK c 8).map (valK c))).fit = true from hf)] at h
    exact absurd (congrArg Prod.fst h) (by simp)
/-- what a maker comes to with the claims' steps -/
theorem run_make {c : C} (hm : mayB c = true) : runS [] (stepsT (objC c)) = if (objC c).fit = true then some [objC c] else none := by
  by_cases hf : (objC c).fit = true
  · rw [if_pos hf]
    have := runS_fit (objC c) (objC_ok hm hf) hf [] [] (by have := (fit_le hf).1; simpa using this)
    rw [List.append_nil] at this
    rw [this]
    rfl
  · rw [if_neg hf]
    cases hx : runS [] (stepsT (objC c)) with
    | none => rfl
    | some l' =>
      exfalso
      rw [steps_objC, runS_app] at hx
      cases hy : runS [] (stepsL ((placesK c 8).map (valK c))) with
      | none => rw [hy] at hx; cases hx
      | some m =>
        rw [hy] at hx
        have h1 := run_vals hm (fun j hj => (places_lt hj).1) hy
        rw [List.nil_append] at h1
        subst h1
        exact hf (run_obj hx).2
theorem places_pre (c : C) : ∀ j k, k + j = 8 → ∃ r, placesK c 8 = placesK c k ++ r
  | 0, k, h => ⟨[], by rw [List.append_nil, show k = 8 by omega]⟩
  | j + 1, k, h => by
    obtain ⟨r, hr⟩ := places_pre c j (k + 1) (by omega)
    rw [places_succ c k, List.append_assoc] at hr
    exact ⟨_, hr⟩
/-- a refusal on the way -/
theorem run_stop {c : C} (hm : mayB c = true) {k : Nat} (hk : k < 8) (hi : is c k = true) (hr : runS ((placesK c k).map (valK c)) (stepsT (valK c k)) = none) (hy : runS [] (stepsL ((placesK c k).map (valK c))) = some ((placesK c k).map (valK c))) : (objC c).fit = false := by
  obtain ⟨r, h⟩ := places_pre c (8 - (k + 1)) (k + 1) (by omega)
  have hn : runS [] (stepsT (objC c)) = none := by
    rw [steps_objC, h, places_succ c k, if_pos hi]
    simp only [List.map_append, List.map_cons, List.map_nil, stepsL_app, List.append_assoc]
    rw [runS_app, hy]
    show runS _ (stepsL [valK c k] ++ _) = none
    rw [show stepsL [valK c k] = stepsT (valK c k) from by rw [stepsL]; exact List.append_nil _, runS_app, hr]
    rfl
  rw [run_make hm] at hn
  split at hn
  · cases hn
  · rename_i h
    simpa using h
end Nd
end Go.Proofs.YtbcckpnngonoeaaGreatDoor
namespace Go.Proofs.YtbcckpnngonoeaaGreatDoor
open Go.RowKit Mem Utf Ref3 Tok Cl
set_option linter.unusedVariables false
set_option linter.unusedSimpArgs false
namespace Nd
/-- claims of no great size -/
structure SzC (c : C) : Prop where
  about : c.about.length ≤ 1099511627776
  by_ : c.by_.length ≤ 1099511627776
  id_ : c.id_.length ≤ 1099511627776
  for_ : ∀ t ∈ c.for_, t.length ≤ 1099511627776
  may_ : ∀ t ∈ c.may_, t.length ≤ 1099511627776
/-- what put comes to -/
def PutP (l : List Tr) (t : Tr) (p : Nat) (ty : TypeId) (B : Nat) (w : World) (e : Ending) (w' : World) : Prop :=
  w.heap.size ≤ w'.heap.size ∧ Apart p B w w' ∧ (runS l (stepsT t) = none ∧ (∃ T u, e = .returned (.iface T u)) ∨ ∃ l', runS l (stepsT t) = some l' ∧ e = .returned .nilIface ∧ RwX p ty B l' w')
theorem errW_form (n : Int) : (n = 0 ∧ Go.Proofs.YtbcckpnngonoeaaGreatDoor.Nd.errV n = .nilIface) ∨ (n ≠ 0 ∧ ∃ T u, Go.Proofs.YtbcckpnngonoeaaGreatDoor.Nd.errV n = .iface T u) := by
  unfold Nd.errV
  by_cases h : n = 0
  · rw [if_pos h]
    exact .inl ⟨h, rfl⟩
  · rw [if_neg h]
    exact .inr ⟨h, _, _, rfl⟩
theorem tx_at {w : World} {b : Nat} {t : TypeId} {c : C} {v1 v2 v3 : Value} {k : Nat} (h : Blk w b t (clCells c v1 v2 v3)) (hz : SzC c) (hk : k = 0 ∨ k = 2 ∨ k = 5) :
    ∃ s : Txt, w.cell? ⟨b, offK k, none⟩ = some (.string ⟨s.toArray⟩) ∧ valK c k = .text s ∧ s.length ≤ 1099511627776 := by
  obtain ⟨e0, e1, e2, e3, e4, e5, e6, e7, e8⟩ := C9 h
  rcases hk with rfl | rfl | rfl
  · exact ⟨_, e1, rfl, hz.about⟩
  · exact ⟨_, e3, rfl, hz.by_⟩
  · exact ⟨_, e6, rfl, hz.id_⟩
theorem tm_at {w : World} {b : Nat} {t : TypeId} {c : C} {v1 v2 v3 : Value} {k : Nat} (h : Blk w b t (clCells c v1 v2 v3)) (hm : mayB c = true) (hk : k = 1 ∨ k = 4 ∨ k = 7) :
    ∃ s : Int, w.cell? ⟨b, offK k, none⟩ = some (.int .i64 s) ∧ valK c k = .num (bitsT s.toNat) ∧ Cl.isTime s = true := by
  obtain ⟨e0, e1, e2, e3, e4, e5, e6, e7, e8⟩ := C9 h
  have hv : ∀ {j : Nat}, j < 8 → valid c (is c j) j = true := fun hj => valid_at hm hj
  rcases hk with rfl | rfl | rfl
  · have h2 := hv (j := 1) (by omega)
    simp only [valid, tim, Bool.and_eq_true] at h2
    exact ⟨_, e2, rfl, h2.2⟩
  · have h2 := hv (j := 4) (by omega)
    simp only [valid, tim, Bool.and_eq_true] at h2
    exact ⟨_, e5, rfl, h2.2⟩
  · have h2 := hv (j := 7) (by omega)
    simp only [valid, tim, Bool.and_eq_true] at h2
    exact ⟨_, e8, rfl, h2.2⟩
theorem ls_at {w : World} {b : Nat} {t : TypeId} {c : C} {v1 v2 v3 : Value} {k : Nat} (h : Blk w b t (clCells c v1 v2 v3)) (hc : ClAt w c v1 v2 v3) (hz : SzC c) (hk : k = 3 ∨ k = 6) :
    ∃ (s : List Txt) (A : Option Addr) (q : Nat), w.cell? ⟨b, offK k, none⟩ = some (.slice A s.length q) ∧ valK c k = .list (s.map .text) ∧ Rd w (.slice A s.length q) s ∧ s.length ≤ 1099511627776 ∧ (∀ t ∈ s, t.length ≤ 1099511627776) := by
  obtain ⟨e0, e1, e2, e3, e4, e5, e6, e7, e8⟩ := C9 h
  rcases hk with rfl | rfl
  · obtain ⟨A, q, rfl, hA⟩ := hc.for_
    exact ⟨_, A, q, e4, rfl, ⟨A, q, rfl, hA⟩, hc.nfor, hz.for_⟩
  · obtain ⟨A, q, rfl, hA⟩ := hc.may
    exact ⟨_, A, q, e7, rfl, ⟨A, q, rfl, hA⟩, hc.nmay, hz.may_⟩
theorem cv_time {t : Int} (h : Cl.isTime t = true) (W : World) : (convert 2 203 (.int .i64 t)).run Tryz.prog W = .ok (.float .f64 (bitsT t.toNat)) W := by
  have hf : floatOfInt .f64 t = bitsT t.toNat := by
    unfold Cl.isTime at h
    have h := of_decide_eq_true h
    have e : FloatKind.nearest .f64 t = Ieee.double.write (.number false t.toNat 0) := by
      unfold FloatKind.nearest
      rw [show decide (t < 0) = false from decide_eq_false (by omega), show t.natAbs = t.toNat by omega]
      rfl
    unfold floatOfInt
    rw [e, write_time (by omega)]
  rw [run_convert_int_float W 2 203 .i64 .f64 t (by kernel_rfl) (by kernel_rfl), hf]
theorem step_len {l : List Tr} {s : Txt} (h : (stepT l (textS s)).1 = 0) : (stepT l (textS s)).2 = l ++ [.text s] ∧ l.length < 65536 := by
  have h1 : runS l [textS s] = some (stepT l (textS s)).2 := by rw [runS_one, if_pos h]
  refine ⟨step_text h1, ?_⟩
  unfold stepT at h
  split at h
  · cases h
  · rename_i h2
    simp [textS] at h2
    exact h2
theorem run_snoc {l m : List Tr} {a : List Stp} {s : Stp} (h : runS l a = some m) : runS l (a ++ [s]) = if (stepT m s).1 = 0 then some (stepT m s).2 else none := by
  rw [runS_app, h]
  exact runS_one m s
theorem run_gone {l : List Tr} {a b : List Stp} (h : runS l a = none) : runS l (a ++ b) = none := by
  rw [runS_app, h]
  rfl
set_option maxRecDepth 100000 in
set_option maxHeartbeats 16000000 in
theorem put_tx {k : Nat} (hk : k = 0 ∨ k = 2 ∨ k = 5) (c : C) (v0 v4 v7 : Value) (b : Nat) (K : ByteArray) (F9 : FuncId) (cap9 : Array Value) (p : Nat) (ty : TypeId) (B : Nat) (l : List Tr) (w : World) (hR : RwX p ty B l w) (hC : Blk w b 24 (clCells c v0 v4 v7)) (hz : SzC c) (hn : l.length ≤ 65535) :
    Calls Tryz.prog 52 #[.pointer (some ⟨p, 0, none⟩), .agg #[.string K, .func (.func F9) #[] cap9, .func (.func (fnK k)) #[] #[], .nilFunc, .nilFunc], .pointer (some ⟨b, 0, none⟩)] w (PutP l (valK c k) p ty B w) := by
  have k8 : k < 8 := by omega
  have n0 := fn_ne0
  have n1 := fn_ne1
  have n2 := fn_ne2
  have m0 := nil_ne0
  have m1 := nil_ne1
  have m2 := nil_ne2
  have HF := Lib.hid (@fld_any k k8)
  have HE := Lib.hid (@enter_any k k8)
  obtain ⟨s, hs, hv, hsl⟩ := tx_at hC hz hk
  rw [hv]
  generalize fnK k = F at *
  generalize offK k = off at *
  have hb : Below w.heap.size w (w.alloc (.cells #[.string K, .func (.func F9) #[] cap9, .func (.func F) #[] #[], .nilFunc, .nilFunc] 153)) := (Below.refl _ _).alloc (Nat.le_refl _) _
  have HB := Lib.hid hb
  have HR := Lib.hid (hR.below hb)
  have HP := Lib.hid hR.plt
  have HPW := Lib.hid (show p < w.heap.size by have := hR.plt; omega)
  have hs1 : (w.alloc (.cells #[.string K, .func (.func F9) #[] cap9, .func (.func F) #[] #[], .nilFunc, .nilFunc] 153)).heap.size = w.heap.size + 1 := by simp
  have HS := Lib.hid hs1
  have hsc : (w.alloc (.cells #[.string K, .func (.func F9) #[] cap9, .func (.func F) #[] #[], .nilFunc, .nilFunc] 153)).cell? ⟨b, off, none⟩ = some (.string ⟨s.toArray⟩) := ((old hb).1 _ _ (World.block_lt_of_cell? _ _ hs)).trans hs
  have HSL := Lib.hid hsl
  have HN := Lib.hid hn
  clear hR hC hz hk hs hv hsl hn hb k8 hs1
  go_enter Tryz.func52, Tryz.ntmps52
  have hE := HE.out
  go_wp2_with fail
  clear hE
  refine (HF.out _ _).mono ?_
  rintro e w3 ⟨rfl, rfl⟩
  clear HF HE
  go_wp2_with fail
  refine (mk_text s HSL.out p ty B l _ HR.out (by have := HN.out; omega)).mono ?_
  rintro e w4 ⟨rfl, hX, hA⟩
  have HX := Lib.hid hX
  have HA := Lib.hid (Apart.from_ HB.out (by have := HP.out; omega) hA)
  have HZ := Lib.hid (show w.heap.size ≤ w4.heap.size by have := hA.1.size; have := HS.out; omega)
  clear hX hA
  rcases errW_form (stepT l (textS s)).1 with ⟨h0, hev⟩ | ⟨h0, T, u, hev⟩
  · have HRW := Lib.hid (show runS l [textS s] = some (stepT l (textS s)).2 by rw [runS_one, if_pos h0])
    rw [hev]
    clear hev h0
    go_wp2
    go_ret
    exact ⟨HZ.out, HA.out, .inr ⟨_, HRW.out, rfl, HX.out⟩⟩
  · have HRW := Lib.hid (show runS l [textS s] = none by rw [runS_one, if_neg h0])
    rw [hev]
    clear hev h0
    go_wp2
    go_ret
    exact ⟨HZ.out, HA.out, .inl ⟨HRW.out, T, u, rfl⟩⟩
set_option maxRecDepth 100000 in
set_option maxHeartbeats 16000000 in
theorem put_tm {k : Nat} (hk : k = 1 ∨ k = 4 ∨ k = 7) (c : C) (v0 v4 v7 : Value) (b : Nat) (K : ByteArray) (F9 : FuncId) (cap9 : Array Value) (p : Nat) (ty : TypeId) (B : Nat) (l : List Tr) (w : World) (hR : RwX p ty B l w) (hC : Blk w b 24 (clCells c v0 v4 v7)) (hm : mayB c = true) (hn : l.length ≤ 65535) :
    Calls Tryz.prog 52 #[.pointer (some ⟨p, 0, none⟩), .agg #[.string K, .func (.func F9) #[] cap9, .nilFunc, .func (.func (fnK k)) #[] #[], .nilFunc], .pointer (some ⟨b, 0, none⟩)] w (PutP l (valK c k) p ty B w) := by
  have k8 : k < 8 := by omega
  have n0 := fn_ne0
  have n1 := fn_ne1
  have n2 := fn_ne2
  have m0 := nil_ne0
  have m1 := nil_ne1
  have m2 := nil_ne2
  have HF := Lib.hid (@fld_any k k8)
  have HE := Lib.hid (@enter_any k k8)
  obtain ⟨s, hs, hv, hst⟩ := tm_at hC hm hk
  rw [hv]
  generalize fnK k = F at *
  generalize offK k = off at *
  have hb : Below w.heap.size w (w.alloc (.cells #[.string K, .func (.func F9) #[] cap9, .nilFunc, .func (.func F) #[] #[], .nilFunc] 153)) := (Below.refl _ _).alloc (Nat.le_refl _) _
  have HB := Lib.hid hb
  have HR := Lib.hid (hR.below hb)
  have HP := Lib.hid hR.plt
  have HPW := Lib.hid (show p < w.heap.size by have := hR.plt; omega)
  have hs1 : (w.alloc (.cells #[.string K, .func (.func F9) #[] cap9, .nilFunc, .func (.func F) #[] #[], .nilFunc] 153)).heap.size = w.heap.size + 1 := by simp
  have HS := Lib.hid hs1
  have hsc : (w.alloc (.cells #[.string K, .func (.func F9) #[] cap9, .nilFunc, .func (.func F) #[] #[], .nilFunc] 153)).cell? ⟨b, off, none⟩ = some (.int .i64 s) := ((old hb).1 _ _ (World.block_lt_of_cell? _ _ hs)).trans hs
  have hcv := cv_time hst
  have HTB := Lib.hid (time_norm hst).2.2
  have HN := Lib.hid hn
  clear hR hC hm hk hs hv hst hn hb k8 hs1
  go_enter Tryz.func52, Tryz.ntmps52
  have hE := HE.out
  go_wp2_with fail
  clear hE
  refine (HF.out _ _).mono ?_
  rintro e w3 ⟨rfl, rfl⟩
  clear HF HE
  go_wp2_with fail
  generalize bitsT s.toNat = x at *
  refine (mk_num x HTB.out p ty B l _ HR.out (by have := HN.out; omega)).mono ?_
  rintro e w4 ⟨rfl, hX, hA⟩
  have HX := Lib.hid hX
  have HA := Lib.hid (Apart.from_ HB.out (by have := HP.out; omega) hA)
  have HZ := Lib.hid (show w.heap.size ≤ w4.heap.size by have := hA.1.size; have := HS.out; omega)
  clear hX hA hcv
  rcases errW_form (stepT l (numS x)).1 with ⟨h0, hev⟩ | ⟨h0, T, u, hev⟩
  · have HRW := Lib.hid (show runS l [numS x] = some (stepT l (numS x)).2 by rw [runS_one, if_pos h0])
    rw [hev]
    clear hev h0
    go_wp2
    go_ret
    exact ⟨HZ.out, HA.out, .inr ⟨_, HRW.out, rfl, HX.out⟩⟩
  · have HRW := Lib.hid (show runS l [numS x] = none by rw [runS_one, if_neg h0])
    rw [hev]
    clear hev h0
    go_wp2
    go_ret
    exact ⟨HZ.out, HA.out, .inl ⟨HRW.out, T, u, rfl⟩⟩
set_option maxRecDepth 100000 in
set_option maxHeartbeats 16000000 in
theorem put_ls {k : Nat} (hk : k = 3 ∨ k = 6) (c : C) (v0 v4 v7 : Value) (b : Nat) (K : ByteArray) (F9 : FuncId) (cap9 : Array Value) (p : Nat) (ty : TypeId) (B : Nat) (l : List Tr) (w : World) (hR : RwX p ty B l w) (hC : Blk w b 24 (clCells c v0 v4 v7)) (w0 : World) (hc : ClAt w0 c v0 v4 v7) (hb0 : Below w0.heap.size w0 w) (hp0 : w0.heap.size ≤ p) (hz : SzC c) (hn : l.length ≤ 65535) :
    Calls Tryz.prog 52 #[.pointer (some ⟨p, 0, none⟩), .agg #[.string K, .func (.func F9) #[] cap9, .nilFunc, .nilFunc, .func (.func (fnK k)) #[] #[]], .pointer (some ⟨b, 0, none⟩)] w (PutP l (valK c k) p ty B w) := by
  have k8 : k < 8 := by omega
  have n0 := fn_ne0
  have n1 := fn_ne1
  have n2 := fn_ne2
  have m0 := nil_ne0
  have m1 := nil_ne1
  have m2 := nil_ne2
  have HF := Lib.hid (@fld_any k k8)
  have HE := Lib.hid (@enter_any k k8)
  obtain ⟨s, A, q, hs, hv, hrd0, hsn, hst⟩ : ∃ (s : List Txt) (A : Option Addr) (q : Nat), w.cell? ⟨b, offK k, none⟩ = some (.slice A s.length q) ∧ valK c k = .list (s.map .text) ∧ Rd w0 (.slice A s.length q) s ∧ s.length ≤ 1099511627776 ∧ (∀ t ∈ s, t.length ≤ 1099511627776) := by
    obtain ⟨e0, e1, e2, e3, e4, e5, e6, e7, e8⟩ := C9 hC
    rcases hk with rfl | rfl
    · obtain ⟨A, q, rfl, hA⟩ := hc.for_
      exact ⟨_, A, q, e4, rfl, ⟨A, q, rfl, hA⟩, hc.nfor, hz.for_⟩
    · obtain ⟨A, q, rfl, hA⟩ := hc.may
      exact ⟨_, A, q, e7, rfl, ⟨A, q, rfl, hA⟩, hc.nmay, hz.may_⟩
  rw [hv]
  have q1 := err_ne_nil
  have q2 := err_ne_held
  generalize fnK k = F at *
  generalize offK k = off at *
  have hb : Below w.heap.size w (w.alloc (.cells #[.string K, .func (.func F9) #[] cap9, .nilFunc, .nilFunc, .func (.func F) #[] #[]] 153)) := (Below.refl _ _).alloc (Nat.le_refl _) _
  have HB := Lib.hid hb
  have HR := Lib.hid (hR.below hb)
  have HP := Lib.hid hR.plt
  have HPW := Lib.hid (show p < w.heap.size by have := hR.plt; omega)
  have hs1 : (w.alloc (.cells #[.string K, .func (.func F9) #[] cap9, .nilFunc, .nilFunc, .func (.func F) #[] #[]] 153)).heap.size = w.heap.size + 1 := by simp
  have HS := Lib.hid hs1
  have hsc : (w.alloc (.cells #[.string K, .func (.func F9) #[] cap9, .nilFunc, .nilFunc, .func (.func F) #[] #[]] 153)).cell? ⟨b, off, none⟩ = some (.slice A s.length q) := ((old hb).1 _ _ (World.block_lt_of_cell? _ _ hs)).trans hs
  have HRD := Lib.hid hrd0
  have HB0 := Lib.hid (hb0.trans (hb.mono hb0.size))
  have HP0 := Lib.hid hp0
  have HST := Lib.hid hst
  have HSN := Lib.hid hsn
  have HN := Lib.hid hn
  clear hR hC hc hb0 hp0 hz hk hs hv hst hsn hn hb k8 hrd0
  go_enter Tryz.func52, Tryz.ntmps52
  have hE := HE.out
  go_wp2_with fail
  clear hE
  refine (HF.out _ _).mono ?_
  rintro e w3 ⟨rfl, rfl⟩
  clear HF HE
  go_wp2_with fail
  generalize (w.alloc (.cells #[.string K, .func (.func F9) #[] cap9, .nilFunc, .nilFunc, .func (.func F) #[] #[]] 153)) = w1 at *
  go_loopw [44] (fun c44 wr => ∃ j : Nat, j ≤ s.length ∧ c44 = .int .i64 j ∧ Hid (runS l ((s.take j).map textS) = some (l ++ (s.take j).map Tr.text) ∧ RwX p ty B (l ++ (s.take j).map Tr.text) wr ∧ Apart p B w1 wr ∧ (l ++ (s.take j).map Tr.text).length ≤ 65536 ∧ w1.heap.size ≤ wr.heap.size)) (fun c44 _ => s.length - (intOf c44).toNat)
  case atStart => exact ⟨0, Nat.zero_le _, rfl, Lib.hid ⟨by simp [runS], by simpa using HR.out, ⟨Below.refl _ _, fun _ _ _ _ => rfl⟩, by have := HN.out; simp; omega, Nat.le_refl _⟩⟩
  case round =>
    obtain ⟨j, hj, rfl, H⟩ := hrel
    have hlen9 := HSN.out
    have hrw : Rd wr (.slice A s.length q) s := HRD.out.below (HB0.out.trans (H.out.2.2.1.1.mono HP0.out))
    by_cases hlt : j < s.length
    · obtain ⟨g, o, hA, hcell⟩ := has_at hrw hlt
      subst hA
      have hsn : s.take (j + 1) = s.take j ++ [s[j]] := by rw [List.take_succ_eq_append_getElem hlt]
      have hdr : s = s.take j ++ s[j] :: s.drop (j + 1) := by rw [List.getElem_cons_drop, List.take_append_drop]
      have ht : s[j].length ≤ 1099511627776 := HST.out _ (List.getElem_mem hlt)
      have HSN2 := Lib.hid (And.intro hsn hdr)
      have HTL := Lib.hid ht
      clear hsn hdr ht hrw
      generalize s[j] = t at *
      go_wp2_with fail
      refine (mk_text t HTL.out p ty B _ wr H.out.2.1 H.out.2.2.2.1).mono ?_
      rintro e w4 ⟨rfl, hX, hA⟩
      have HX := Lib.hid hX
      have HA := Lib.hid (H.out.2.2.1.trans hA H.out.2.2.2.2)
      have HZ := Lib.hid (show w1.heap.size ≤ w4.heap.size by have := hA.1.size; have := H.out.2.2.2.2; omega)
      clear hX hA
      rcases errW_form (stepT (l ++ (s.take j).map Tr.text) (textS t)).1 with ⟨h0, hev⟩ | ⟨h0, T, u, hev⟩
      · have hsl := step_len h0
        have hX := HX.out
        rw [hsl.1] at hX
        have HNX : Hid (runS l ((s.take (j + 1)).map textS) = some (l ++ (s.take (j + 1)).map Tr.text) ∧ RwX p ty B (l ++ (s.take (j + 1)).map Tr.text) w4 ∧ Apart p B w1 w4 ∧ (l ++ (s.take (j + 1)).map Tr.text).length ≤ 65536 ∧ w1.heap.size ≤ w4.heap.size) := Lib.hid (by
          rw [HSN2.out.1]
          simp only [List.map_append, List.map_cons, List.map_nil, ← List.append_assoc]
          refine ⟨?_, hX, HA.out, ?_, HZ.out⟩
          · rw [run_snoc H.out.1, if_pos h0, hsl.1]
          · have := hsl.2
            rw [List.length_append]
            simp only [List.length_cons, List.length_nil]
            omega)
        rw [hev]
        clear hev h0 hsl hX
        go_wp2
        go_roundw
        case rel => exact ⟨j + 1, by omega, by go_num, HNX⟩
        case measure => simp [intOf]; omega
      · have HRW := Lib.hid (show runS l (stepsT (.list (s.map .text))) = none by
          rw [steps_list]
          refine run_gone ?_
          rw [HSN2.out.2]
          simp only [List.map_append, List.map_cons]
          rw [show (s.take j).map textS ++ textS t :: (s.drop (j + 1)).map textS = ((s.take j).map textS ++ [textS t]) ++ (s.drop (j + 1)).map textS by simp]
          refine run_gone ?_
          rw [run_snoc H.out.1, if_neg h0])
        rw [hev]
        clear hev h0
        go_wp2
        go_ret
        exact ⟨by have := HZ.out; have := HB.out.size; omega, Apart.from_ HB.out HPW.out HA.out, .inl ⟨HRW.out, T, u, rfl⟩⟩
    · obtain rfl : j = s.length := by omega
      clear hrw
      go_wp2_with fail
      refine (mk_list s.length p ty B _ wr H.out.2.1 H.out.2.2.2.1).mono ?_
      rintro e w4 ⟨rfl, hX, hA⟩
      have HX := Lib.hid hX
      have HA := Lib.hid (H.out.2.2.1.trans hA H.out.2.2.2.2)
      have HZ := Lib.hid (show w1.heap.size ≤ w4.heap.size by have := hA.1.size; have := H.out.2.2.2.2; omega)
      clear hX hA
      have hrn : runS l (s.map textS) = some (l ++ (s.take s.length).map Tr.text) := by
        have := H.out.1
        rwa [List.take_length] at this ⊢
      rcases errW_form (stepT (l ++ (s.take s.length).map Tr.text) (listS s.length)).1 with ⟨h0, hev⟩ | ⟨h0, T, u, hev⟩
      · have HRW := Lib.hid (show runS l (stepsT (.list (s.map .text))) = some (stepT (l ++ (s.take s.length).map Tr.text) (listS s.length)).2 by rw [steps_list, run_snoc hrn, if_pos h0])
        rw [hev]
        clear hev h0 hrn
        go_wp2
        go_ret
        exact ⟨by have := HZ.out; have := HB.out.size; omega, Apart.from_ HB.out HPW.out HA.out, .inr ⟨_, HRW.out, rfl, HX.out⟩⟩
      · have HRW := Lib.hid (show runS l (stepsT (.list (s.map .text))) = none by rw [steps_list, run_snoc hrn, if_neg h0])
        rw [hev]
        clear hev h0 hrn
        go_wp2
        go_ret
        exact ⟨by have := HZ.out; have := HB.out.size; omega, Apart.from_ HB.out HPW.out HA.out, .inl ⟨HRW.out, T, u, rfl⟩⟩
end Nd
end Go.Proofs.YtbcckpnngonoeaaGreatDoor
namespace Go.Proofs.YtbcckpnngonoeaaGreatDoor
open Go.RowKit Mem Utf Ref3 Tok Cl
set_option linter.unusedVariables false
set_option linter.unusedSimpArgs false
namespace Nd
/-- what Make comes to -/
def MakeP (c : C) (w : World) (e : Ending) (w' : World) : Prop :=
  Below w.heap.size w w' ∧ (mayB c = false ∧ e = .returned (.tuple #[.pointer none, .iface 46 (.int .i64 2)]) ∨
    mayB c = true ∧ (objC c).fit = false ∧ e = .returned (.tuple #[.pointer none, .iface 46 (.int .i64 3)]) ∨
    mayB c = true ∧ ∃ g, e = .returned (.tuple #[.pointer (some ⟨g, 0, none⟩), .nilIface]) ∧ TreeAt w.heap.size w' g (objC c))
theorem TreeAt.base {B C : Nat} {w : World} {g : Nat} {t : Tr} (h : TreeAt B w g t) (hC : C ≤ B) : TreeAt C w g t := by
  obtain ⟨h1, h2, v, h3, h4⟩ := h
  exact ⟨Nat.le_trans hC h1, h2, v, h3, RdT.move (fun k hk hs => ⟨Nat.le_trans hC hs, rfl⟩) _ _ h4⟩
theorem rwx_nil {p B : Nat} {ty : TypeId} {w : World} (h : Blk w p ty #[.slice none 0 0]) (hp : p < B) (hB : B ≤ w.heap.size) : RwX p ty B [] w :=
  ⟨.slice none 0 0, [], ⟨h, World.ownsRow_nil _ _ _ _, by unfold RdL; trivial, (fun _ h => by cases h), hp, hB⟩⟩
theorem rd_rdk {w : World} {v : Value} {l : List Txt} (h : Rd w v l) : RdK w v l := by
  obtain ⟨A, q, rfl, h⟩ := h
  refine ⟨A, q, rfl, ?_⟩
  cases l with
  | nil => exact .inl rfl
  | cons x l =>
    obtain ⟨g, o, hA, hc⟩ := h 0 (by simp)
    refine .inr ⟨g, o, hA, fun j t hj => ?_⟩
    have hjl : j < (x :: l).length := (List.getElem?_eq_some_iff.1 hj).1
    obtain ⟨g', o', hA', hlt, hc'⟩ := h j hjl
    rw [hA] at hA'
    injection hA' with hA'
    injection hA' with h1 h2
    subst h1
    subst h2
    rw [hc']
    rw [List.getElem?_eq_getElem hjl] at hj
    injection hj with hj
    rw [hj]
    rfl
theorem keys_fine {c : C} : (objS ((placesK c 8).map key)).Fine := by
  have hl : (placesK c 8).length ≤ 8 := by
    unfold placesK
    refine Nat.le_trans (List.length_filter_le _ _) ?_
    simp
  have hk : ∀ ps : List Nat, (∀ x ∈ ps.map key, x.length ≤ 5) ∧ lens (ps.map key) ≤ 5 * ps.length := by
    have k5 : ∀ k, (key k).length ≤ 5 := by
      intro k
      unfold key
      split <;> decide
    intro ps
    induction ps with
    | nil => exact ⟨(fun x hx => by cases hx), Nat.zero_le _⟩
    | cons k ps ih =>
      refine ⟨fun x hx => ?_, ?_⟩
      · rcases List.mem_cons.1 hx with rfl | hx
        · exact k5 k
        · exact ih.1 x hx
      · have := k5 k
        have := ih.2
        simp only [List.map_cons, List.length_cons]
        show (key k).length + lens (ps.map key) ≤ _
        omega
  refine obj_fine (fun x hx => ?_) ?_ ?_
  · have := (hk _).1 x hx
    omega
  · have := (hk (placesK c 8)).2
    omega
  · rw [List.length_map]
    omega
theorem places_len (c : C) (k : Nat) : (placesK c k).length ≤ k := by
  unfold placesK
  refine Nat.le_trans (List.length_filter_le _ _) ?_
  simp
/-- where Make's loop stands at key k -/
structure MkSt (c : C) (p B : Nat) (w4 : World) (k : Nat) (wr : World) : Prop where
  run : runS [] (stepsL ((placesK c k).map (valK c))) = some ((placesK c k).map (valK c))
  row : RwX p 249 B ((placesK c k).map (valK c)) wr
  apart : Apart p B w4 wr
  size : w4.heap.size ≤ wr.heap.size
theorem MkSt.skip {c : C} {p B : Nat} {w4 : World} {k : Nat} {wr w' : World} (h : MkSt c p B w4 k wr) (hi : ¬ is c k = true) (hb : Below wr.heap.size wr w') : MkSt c p B w4 (k + 1) w' := by
  have e : placesK c (k + 1) = placesK c k := by rw [places_succ, if_neg hi, List.append_nil]
  have hs := hb.size
  have hz := h.size
  exact ⟨by rw [e]; exact h.run, by rw [e]; exact h.row.below hb, h.apart.then_ h.size (by have := h.row.plt; omega) hb, by omega⟩
theorem MkSt.next {c : C} {p B : Nat} {w4 : World} {k : Nat} {wr w1 w' : World} {l' : List Tr} (hm : mayB c = true) (hk : k < 8) (h : MkSt c p B w4 k wr) (hi : is c k = true) (hb : Below wr.heap.size wr w1) (ha : Apart p B w1 w') (hs : w1.heap.size ≤ w'.heap.size) (hr : runS ((placesK c k).map (valK c)) (stepsT (valK c k)) = some l') (hX : RwX p 249 B l' w') : MkSt c p B w4 (k + 1) w' := by
  have e : placesK c (k + 1) = placesK c k ++ [k] := by rw [places_succ, if_pos hi]
  have hl := run_val hm hk hr
  have hz := h.size
  have hbs := hb.size
  refine ⟨?_, ?_, (h.apart.then_ h.size (by have := h.row.plt; omega) hb).trans ha (by omega), by omega⟩
  · rw [e, List.map_append, stepsL_app, runS_app, h.run]
    show runS _ (stepsL [valK c k]) = _
    rw [show stepsL [valK c k] = stepsT (valK c k) from by rw [stepsL]; exact List.append_nil _, hr, hl]
    simp
  · rw [e, List.map_append, List.map_cons, List.map_nil, ← hl]
    exact hX
theorem run_endC {c : C} {k : Nat} (hk : k = 8) (h : runS [] (stepsL ((placesK c k).map (valK c))) = some ((placesK c k).map (valK c))) : runS [] (stepsT (objC c)) = if (stepT ((placesK c 8).map (valK c)) (objS ((placesK c 8).map key))).1 = 0 then some (stepT ((placesK c 8).map (valK c)) (objS ((placesK c 8).map key))).2 else none := by
  subst hk
  rw [steps_objC, run_snoc h]
set_option maxRecDepth 100000 in
set_option maxHeartbeats 16000000 in
theorem make_any (c : C) (v0 v4 v7 : Value) (w : World) (hC : ClAt w c v0 v4 v7) (hz : SzC c) :
    Calls Tryz.prog 16 #[.agg #[v0, .string ⟨c.about.toArray⟩, .int .i64 c.at_, .string ⟨c.by_.toArray⟩, v4, .int .i64 c.from_, .string ⟨c.id_.toArray⟩, v7, .int .i64 c.until_]] w (MakeP c w) := by
  have hba : Below w.heap.size w (w.alloc (.cells #[v0, .string ⟨c.about.toArray⟩, .int .i64 c.at_, .string ⟨c.by_.toArray⟩, v4, .int .i64 c.from_, .string ⟨c.id_.toArray⟩, v7, .int .i64 c.until_] 24)) := (Below.refl _ _).alloc (Nat.le_refl _) _
  have hbc := Blk.new w 24 #[v0, .string ⟨c.about.toArray⟩, .int .i64 c.at_, .string ⟨c.by_.toArray⟩, v4, .int .i64 c.from_, .string ⟨c.id_.toArray⟩, v7, .int .i64 c.until_]
  have HC := Lib.hid hC
  have HSZ := Lib.hid hz
  have HB := Lib.hid hba
  have HBC := Lib.hid (show Blk (w.alloc (.cells #[v0, .string ⟨c.about.toArray⟩, .int .i64 c.at_, .string ⟨c.by_.toArray⟩, v4, .int .i64 c.from_, .string ⟨c.id_.toArray⟩, v7, .int .i64 c.until_] 24)) w.heap.size 24 (clCells c v0 v4 v7) from hbc)
  have q1 := err_ne_nil
  have q2 := err_ne_held
  clear hC hz hba hbc
  go_enter Tryz.func16, Tryz.ntmps16
  go_wp2_with fail
  generalize (w.alloc (.cells #[v0, .string ⟨c.about.toArray⟩, .int .i64 c.at_, .string ⟨c.by_.toArray⟩, v4, .int .i64 c.from_, .string ⟨c.id_.toArray⟩, v7, .int .i64 c.until_] 24)) = w1 at *
  ((with_reducible refine (clMay_any c v0 v4 v7 w1 (HC.out.below HB.out)).mono ?_); rintro e w2 ⟨rfl, hb⟩)
  replace HBC := Lib.hid (HBC.out.below hb HBC.out.lt)
  replace HB := Lib.hid (HB.out.trans (hb.mono HB.out.size))
  clear hb
  cases hm : mayB c with
  | false =>
    have HM := Lib.hid hm
    clear hm
    go_wp2
    exact bodyPost_ret (by simp [results, Tryz.results16, go_sem]) rfl ⟨HB.out, .inl ⟨HM.out, rfl⟩⟩
  | true =>
    have HM := Lib.hid hm
    clear hm
    go_wp2_with fail
    ((with_reducible refine (mnew_any _).mono ?_); rintro e w3 ⟨rfl, hw3⟩)
    have hbm : Below w2.heap.size w2 w3 := hw3 ▸ (Below.refl _ _).alloc (Nat.le_refl _) _
    have hbk : Blk w3 w2.heap.size 249 #[.slice none 0 0] := hw3 ▸ Blk.new w2 _ _
    replace HBC := Lib.hid (HBC.out.below hbm HBC.out.lt)
    have HPW := Lib.hid (show w.heap.size ≤ w2.heap.size from HB.out.size)
    have HPC := Lib.hid (show w.heap.size < w2.heap.size by
      have := HB.out.size
      have hx : w.heap.size ≠ w2.heap.size := by
        intro e
        have h1 := hbk
        have h2 := HBC.out
        rw [← e] at h1
        have h3 := h1.symm.trans h2
        injection h3 with h3
        injection h3 with h3 _ _
        exact absurd (congrArg Array.size h3) (by simp [clCells])
      omega)
    replace HB := Lib.hid (HB.out.trans (hbm.mono HB.out.size))
    have HBK := Lib.hid hbk
    clear hw3 hbm hbk
    generalize w2.heap.size = p at *
    go_wp2_with fail
    ((with_reducible refine (rows_any _).mono ?_); rintro e w4 ⟨g, rd, rfl, hT, hg, hb⟩)
    have HGP := Lib.hid (show p < g by have := HBK.out.lt; omega)
    replace HBC := Lib.hid (HBC.out.below hb HBC.out.lt)
    replace HBK := Lib.hid (HBK.out.below hb HBK.out.lt)
    replace HB := Lib.hid (HB.out.trans (hb.mono HB.out.size))
    have HT := Lib.hid hT
    have hst0 : MkSt c p w4.heap.size w4 0 w4 := ⟨by simp [placesK, stepsL, runS], by simpa [placesK] using rwx_nil HBK.out HBK.out.lt (Nat.le_refl _), ⟨Below.refl _ _, fun _ _ _ _ => rfl⟩, Nat.le_refl _⟩
    have HST0 := Lib.hid hst0
    clear hst0 hT hb
    obtain ⟨B, hBe⟩ : ∃ B, B = w4.heap.size := ⟨_, rfl⟩
    rw [← hBe] at HST0
    have HBE := Lib.hid hBe
    clear hBe
    go_wp2_with fail
    go_loopw [15] (fun c15 wr => ∃ k : Nat, k ≤ 8 ∧ c15 = .int .i64 k ∧ Hid (MkSt c p B w4 k wr)) (fun c15 _ => 8 - (intOf c15).toNat)
    case atStart => exact ⟨0, by omega, rfl, HST0⟩
    case round =>
      obtain ⟨k, hk, rfl, HST⟩ := hrel
      have HCr := Lib.hid (HBC.out.below HST.out.apart.1 HPC.out)
      have HBWr := Lib.hid (HB.out.trans (HST.out.apart.1.mono HPW.out))
      have HCLr := Lib.hid (HC.out.below HBWr.out)
      by_cases hlt : k < 8
      · have hTr : Blk wr g 153 (rowCells rd) := (HST.out.apart.2 g HT.out.lt (by have := HGP.out; omega) (by have := HT.out.lt; have := HBE.out; omega)).trans HT.out
        have hlt' : (k : Int) < 8 := by omega
        rcases rows_at hTr hlt with ⟨hkind, hRw⟩ | ⟨hkind, hRw⟩ | ⟨hkind, hRw⟩
        all_goals clear hTr
        · obtain ⟨r0, ⟨qv, dv, r1⟩, r2, r3, r4⟩ := hRw
          have Hkind := Lib.hid hkind
          clear hkind
          unfold fnV at r2
          obtain ⟨e0, e1, e2, e3, e4, e5, e6, e7, e8⟩ := C9 HCr.out
          have hwlr := HCr.out.lt
          have HO : ∀ K, key k = K → Hid (is c k = inB c.has K) := fun K e => Lib.hid (by subst e; rfl)
          obtain ⟨K, hK⟩ : ∃ K, key k = K := ⟨_, rfl⟩
          replace HO := HO K hK
          rw [hK] at r0
          clear hK
          have HPUT := Lib.hid (fun (w5 : World) hR hC (hb0 : Below w.heap.size w w5) => @put_tx k Hkind.out c v0 v4 v7 w.heap.size ⟨K.toArray⟩ qv dv p 249 B ((placesK c k).map (valK c)) w5 hR hC HSZ.out (by rw [List.length_map]; have := places_len c k; omega))
          generalize fnK k = F at *
          have hx9 : Below wr.heap.size wr (wr.alloc (.cells #[.string ⟨K.toArray⟩, .func (.func qv) #[] dv, .func (.func F) #[] #[], .nilFunc, .nilFunc] 153)) := (Below.refl _ _).alloc (Nat.le_refl _) _
          have HX9 := Lib.hid hx9
          have HN9 := Lib.hid (Blk.new wr 153 #[.string ⟨K.toArray⟩, .func (.func qv) #[] dv, .func (.func F) #[] #[], .nilFunc, .nilFunc])
          clear hx9
          go_wp2_with fail
          ((with_reducible refine (has_any c v0 v4 v7 K _ (HCLr.out.below HX9.out)).mono ?_); rintro e w5 ⟨rfl, hb5⟩)
          have HB5 := Lib.hid (HX9.out.trans (hb5.mono HX9.out.size))
          have HR5 := Lib.hid (HN9.out.below hb5 HN9.out.lt)
          clear e0 e1 e2 e3 e4 e5 e6 e7 e8 r0 r1 r2 r3 r4 hb5
          by_cases hi : inB c.has K = true
          · have HI := Lib.hid (HO.out.trans hi)
            rw [hi]
            clear hi
            obtain ⟨x0, x1, x2, x3, x4⟩ := C5 HR5.out
            go_wp2_with fail
            ((with_reducible refine (HPUT.out w5 (HST.out.row.below HB5.out) (HCr.out.below HB5.out HCr.out.lt) (HBWr.out.trans (HB5.out.mono HBWr.out.size))).mono ?_); rintro e w6 ⟨hz6, ha6, hp6⟩)
            have HZ6 := Lib.hid hz6
            have HA6 := Lib.hid ha6
            have HBF := Lib.hid (show Below w.heap.size w w6 from (HBWr.out.trans (HB5.out.mono HBWr.out.size)).trans (ha6.1.mono HPW.out))
            clear x0 x1 x2 x3 x4 hz6 ha6
            rcases hp6 with ⟨hn, T, u, rfl⟩ | ⟨l', hl, rfl, hX⟩
            · have HF9 := Lib.hid (run_stop HM.out hlt HI.out hn HST.out.run)
              clear hn
              go_wp2
              exact bodyPost_ret (by simp [results, Tryz.results16, go_sem]) rfl ⟨HBF.out, .inr (.inl ⟨HM.out, HF9.out, rfl⟩)⟩
            · have HNX := Lib.hid (MkSt.next HM.out hlt HST.out HI.out HB5.out HA6.out HZ6.out hl hX)
              clear hl hX
              go_wp2
              go_roundw
              case rel => exact ⟨k + 1, by omega, by go_num, HNX⟩
              case measure => simp [intOf]; omega
          · have HNX := Lib.hid (MkSt.skip HST.out (by rw [HO.out]; exact hi) HB5.out)
            rw [Bool.not_eq_true] at hi
            rw [hi]
            clear hi
            go_wp2
            go_roundw
            case rel => exact ⟨k + 1, by omega, by go_num, HNX⟩
            case measure => simp [intOf]; omega
        · obtain ⟨r0, ⟨qv, dv, r1⟩, r2, r3, r4⟩ := hRw
          have Hkind := Lib.hid hkind
          clear hkind
          unfold fnV at r3
          obtain ⟨e0, e1, e2, e3, e4, e5, e6, e7, e8⟩ := C9 HCr.out
          have hwlr := HCr.out.lt
          have HO : ∀ K, key k = K → Hid (is c k = inB c.has K) := fun K e => Lib.hid (by subst e; rfl)
          obtain ⟨K, hK⟩ : ∃ K, key k = K := ⟨_, rfl⟩
          replace HO := HO K hK
          rw [hK] at r0
          clear hK
          have HPUT := Lib.hid (fun (w5 : World) hR hC (hb0 : Below w.heap.size w w5) => @put_tm k Hkind.out c v0 v4 v7 w.heap.size ⟨K.toArray⟩ qv dv p 249 B ((placesK c k).map (valK c)) w5 hR hC HM.out (by rw [List.length_map]; have := places_len c k; omega))
          generalize fnK k = F at *
          have hx9 : Below wr.heap.size wr (wr.alloc (.cells #[.string ⟨K.toArray⟩, .func (.func qv) #[] dv, .nilFunc, .func (.func F) #[] #[], .nilFunc] 153)) := (Below.refl _ _).alloc (Nat.le_refl _) _
          have HX9 := Lib.hid hx9
          have HN9 := Lib.hid (Blk.new wr 153 #[.string ⟨K.toArray⟩, .func (.func qv) #[] dv, .nilFunc, .func (.func F) #[] #[], .nilFunc])
          clear hx9
          go_wp2_with fail
          ((with_reducible refine (has_any c v0 v4 v7 K _ (HCLr.out.below HX9.out)).mono ?_); rintro e w5 ⟨rfl, hb5⟩)
          have HB5 := Lib.hid (HX9.out.trans (hb5.mono HX9.out.size))
          have HR5 := Lib.hid (HN9.out.below hb5 HN9.out.lt)
          clear e0 e1 e2 e3 e4 e5 e6 e7 e8 r0 r1 r2 r3 r4 hb5
          by_cases hi : inB c.has K = true
          · have HI := Lib.hid (HO.out.trans hi)
            rw [hi]
            clear hi
            obtain ⟨x0, x1, x2, x3, x4⟩ := C5 HR5.out
            go_wp2_with fail
            ((with_reducible refine (HPUT.out w5 (HST.out.row.below HB5.out) (HCr.out.below HB5.out HCr.out.lt) (HBWr.out.trans (HB5.out.mono HBWr.out.size))).mono ?_); rintro e w6 ⟨hz6, ha6, hp6⟩)
            have HZ6 := Lib.hid hz6
            have HA6 := Lib.hid ha6
            have HBF := Lib.hid (show Below w.heap.size w w6 from (HBWr.out.trans (HB5.out.mono HBWr.out.size)).trans (ha6.1.mono HPW.out))
            clear x0 x1 x2 x3 x4 hz6 ha6
            rcases hp6 with ⟨hn, T, u, rfl⟩ | ⟨l', hl, rfl, hX⟩
            · have HF9 := Lib.hid (run_stop HM.out hlt HI.out hn HST.out.run)
              clear hn
              go_wp2
              exact bodyPost_ret (by simp [results, Tryz.results16, go_sem]) rfl ⟨HBF.out, .inr (.inl ⟨HM.out, HF9.out, rfl⟩)⟩
            · have HNX := Lib.hid (MkSt.next HM.out hlt HST.out HI.out HB5.out HA6.out HZ6.out hl hX)
              clear hl hX
              go_wp2
              go_roundw
              case rel => exact ⟨k + 1, by omega, by go_num, HNX⟩
              case measure => simp [intOf]; omega
          · have HNX := Lib.hid (MkSt.skip HST.out (by rw [HO.out]; exact hi) HB5.out)
            rw [Bool.not_eq_true] at hi
            rw [hi]
            clear hi
            go_wp2
            go_roundw
            case rel => exact ⟨k + 1, by omega, by go_num, HNX⟩
            case measure => simp [intOf]; omega
        · obtain ⟨r0, ⟨qv, dv, r1⟩, r2, r3, r4⟩ := hRw
          have Hkind := Lib.hid hkind
          clear hkind
          unfold fnV at r4
          obtain ⟨e0, e1, e2, e3, e4, e5, e6, e7, e8⟩ := C9 HCr.out
          have hwlr := HCr.out.lt
          have HO : ∀ K, key k = K → Hid (is c k = inB c.has K) := fun K e => Lib.hid (by subst e; rfl)
          obtain ⟨K, hK⟩ : ∃ K, key k = K := ⟨_, rfl⟩
          replace HO := HO K hK
          rw [hK] at r0
          clear hK
          have HPUT := Lib.hid (fun (w5 : World) hR hC (hb0 : Below w.heap.size w w5) => @put_ls k Hkind.out c v0 v4 v7 w.heap.size ⟨K.toArray⟩ qv dv p 249 B ((placesK c k).map (valK c)) w5 hR hC w HC.out hb0 HPW.out HSZ.out (by rw [List.length_map]; have := places_len c k; omega))
          generalize fnK k = F at *
          have hx9 : Below wr.heap.size wr (wr.alloc (.cells #[.string ⟨K.toArray⟩, .func (.func qv) #[] dv, .nilFunc, .nilFunc, .func (.func F) #[] #[]] 153)) := (Below.refl _ _).alloc (Nat.le_refl _) _
          have HX9 := Lib.hid hx9
          have HN9 := Lib.hid (Blk.new wr 153 #[.string ⟨K.toArray⟩, .func (.func qv) #[] dv, .nilFunc, .nilFunc, .func (.func F) #[] #[]])
          clear hx9
          go_wp2_with fail
          ((with_reducible refine (has_any c v0 v4 v7 K _ (HCLr.out.below HX9.out)).mono ?_); rintro e w5 ⟨rfl, hb5⟩)
          have HB5 := Lib.hid (HX9.out.trans (hb5.mono HX9.out.size))
          have HR5 := Lib.hid (HN9.out.below hb5 HN9.out.lt)
          clear e0 e1 e2 e3 e4 e5 e6 e7 e8 r0 r1 r2 r3 r4 hb5
          by_cases hi : inB c.has K = true
          · have HI := Lib.hid (HO.out.trans hi)
            rw [hi]
            clear hi
            obtain ⟨x0, x1, x2, x3, x4⟩ := C5 HR5.out
            go_wp2_with fail
            ((with_reducible refine (HPUT.out w5 (HST.out.row.below HB5.out) (HCr.out.below HB5.out HCr.out.lt) (HBWr.out.trans (HB5.out.mono HBWr.out.size))).mono ?_); rintro e w6 ⟨hz6, ha6, hp6⟩)
            have HZ6 := Lib.hid hz6
            have HA6 := Lib.hid ha6
            have HBF := Lib.hid (show Below w.heap.size w w6 from (HBWr.out.trans (HB5.out.mono HBWr.out.size)).trans (ha6.1.mono HPW.out))
            clear x0 x1 x2 x3 x4 hz6 ha6
            rcases hp6 with ⟨hn, T, u, rfl⟩ | ⟨l', hl, rfl, hX⟩
            · have HF9 := Lib.hid (run_stop HM.out hlt HI.out hn HST.out.run)
              clear hn
              go_wp2
              exact bodyPost_ret (by simp [results, Tryz.results16, go_sem]) rfl ⟨HBF.out, .inr (.inl ⟨HM.out, HF9.out, rfl⟩)⟩
            · have HNX := Lib.hid (MkSt.next HM.out hlt HST.out HI.out HB5.out HA6.out HZ6.out hl hX)
              clear hl hX
              go_wp2
              go_roundw
              case rel => exact ⟨k + 1, by omega, by go_num, HNX⟩
              case measure => simp [intOf]; omega
          · have HNX := Lib.hid (MkSt.skip HST.out (by rw [HO.out]; exact hi) HB5.out)
            rw [Bool.not_eq_true] at hi
            rw [hi]
            clear hi
            go_wp2
            go_roundw
            case rel => exact ⟨k + 1, by omega, by go_num, HNX⟩
            case measure => simp [intOf]; omega
      · obtain rfl : k = 8 := by omega
        have hhas := has_may HM.out
        obtain ⟨A1, k1, hv1, hA1⟩ := HC.out.has
        subst hv1
        obtain ⟨e0, e1, e2, e3, e4, e5, e6, e7, e8⟩ := C9 HCr.out
        have HKR : Hid (RdK wr (.slice A1 ((placesK c 8).map key).length k1) ((placesK c 8).map key)) := Lib.hid (by rw [← hhas]; exact rd_rdk HCLr.out.has)
        have HNH := Lib.hid (show c.has.length = ((placesK c 8).map key).length by rw [← hhas])
        have HEND := Lib.hid (run_endC rfl HST.out.run)
        have HMK := Lib.hid (run_make HM.out)
        have HOBJ := Lib.hid (fun l' => @run_obj c l')
        clear hhas hA1
        have hcl : (c.has.length : Int) = (((placesK c 8).map key).length : Int) := by have := HNH.out; omega
        go_wp2_with fail
        rw [show c.has.length = ((placesK c 8).map key).length from HNH.out]
        ((with_reducible refine (mk_obj ((placesK c 8).map key) A1 k1 keys_fine p 249 B ((placesK c 8).map (valK c)) wr HST.out.row HKR.out (by rw [List.length_map]; have := places_len c 8; omega)).mono ?_); rintro e w5 ⟨rfl, hX, hA⟩)
        have HX := Lib.hid hX
        have HBF := Lib.hid (show Below w.heap.size w w5 from HBWr.out.trans (hA.1.mono HPW.out))
        clear hX hA e0 e1 e2 e3 e4 e5 e6 e7 e8
        rcases errW_form (stepT ((placesK c 8).map (valK c)) (objS ((placesK c 8).map key))).1 with ⟨h0, hev⟩ | ⟨h0, T, u, hev⟩
        · have hrun : runS ((placesK c 8).map (valK c)) [objS ((placesK c 8).map key)] = some (stepT ((placesK c 8).map (valK c)) (objS ((placesK c 8).map key))).2 := by rw [runS_one, if_pos h0]
          have hro := HOBJ.out _ hrun
          have hXX := HX.out
          rw [hro.1] at hXX
          have HXX := Lib.hid hXX
          rw [hev]
          clear hev h0 hrun hro hXX
          go_wp2_with fail
          ((with_reducible refine (mk_tree p 249 B (objC c) w5 HXX.out).mono ?_); rintro e w6 ⟨⟨gt, rfl, hTA⟩, hb6⟩)
          have HTA := Lib.hid (hTA.base (show w.heap.size ≤ B by have := HBE.out; have := HB.out.size; omega))
          have HBG := Lib.hid (HBF.out.trans (hb6.mono HBF.out.size))
          clear hTA hb6
          go_wp2
          exact bodyPost_ret (by simp [results, Tryz.results16, go_sem]) rfl ⟨HBG.out, .inr (.inr ⟨HM.out, gt, rfl, HTA.out⟩)⟩
        · have HF9 : Hid ((objC c).fit = false) := Lib.hid (by
            have h1 := HEND.out
            rw [if_neg h0, HMK.out] at h1
            split at h1
            · cases h1
            · rename_i h2
              simpa using h2)
          rw [hev]
          clear hev h0
          go_wp2
          exact bodyPost_ret (by simp [results, Tryz.results16, go_sem]) rfl ⟨HBF.out, .inr (.inl ⟨HM.out, HF9.out, rfl⟩)⟩
end Nd
end Go.Proofs.YtbcckpnngonoeaaGreatDoor

