/-
  Plain law of layer 25: what was read may be made.
-/
import Derived.Test.YtobaldkipnhlpaaGreatDoorS21
set_option linter.unusedVariables false
set_option linter.unusedSimpArgs false
set_option maxRecDepth 100000
set_option maxHeartbeats 16000000
namespace Go.Proofs.YtobaldkipnhlpaaGreatDoor
open Go.RowKit Ref3
namespace Cl
open Nd
def F (P : Nat → Bool) (k : Nat) : List Nat := (List.range k).filter P
theorem F_succ (P : Nat → Bool) (k : Nat) : F P (k + 1) = F P k ++ (if P k = true then [k] else []) := by
 unfold F
 rw [List.range_succ, List.filter_append]
 congr 1
 by_cases h : P k = true
 ·rw [if_pos h]
  simp [h]
 ·rw [if_neg h]
  simp [h]
theorem F_split (P : Nat → Bool) (k : Nat) : ∀ m, ∃ G, F P (k + m) = F P k ++ G ∧ ∀ x ∈ G, k ≤ x ∧ x < k + m
 | 0 => ⟨[], by simp, fun x hx => by cases hx⟩
 | m + 1 => by
  obtain ⟨G, h1, h2⟩ := F_split P k m
  refine ⟨G ++ (if P (k + m) = true then [k + m] else []), by rw [← Nat.add_assoc, F_succ, h1, List.append_assoc], fun x hx => ?_⟩
  rcases List.mem_append.1 hx with h | h
  ·have := h2 x h
   omega
  ·split at h
   ·have := List.mem_singleton.1 h
    omega
   ·cases h
theorem be_of {c : C} {P : Nat → Bool} (hh : c.has = (F P 8).map key) (hv : ∀ k, k < 8 → valid c (P k) k = true) : mayB c = true := by
 rw [mayB_beB]
 have gen : ∀ j, j ≤ 8 → beK c j (F P (8 - j)).length = true := by
  intro j
  induction j with
  | zero =>
   intro _
   rw [beK, hh, List.length_map]
   simp
  | succ j ih =>
   intro hj
   have h1 : 8 - (j + 1) = 7 - j := by omega
   have h2 : 8 - j = 7 - j + 1 := by omega
   rw [h1, beK]
   have hd : isD c (7 - j) (F P (7 - j)).length = P (7 - j) := by
    obtain ⟨G, hG, hx⟩ := F_split P (7 - j + 1) j
    have h8 : 7 - j + 1 + j = 8 := by omega
    rw [h8] at hG hx
    rw [F_succ P (7 - j)] at hG
    by_cases hp : P (7 - j) = true
    ·rw [hp, isD_iff, hh, hG, if_pos hp]
     constructor
     ·simp
     ·simp
    ·rw [Bool.eq_iff_iff, isD_iff]
     refine ⟨fun hc => ?_, fun hc => absurd hc hp⟩
     rw [if_neg hp, List.append_nil] at hG
     rw [hh, hG, List.map_append] at hc
     obtain ⟨ha, hb⟩ := hc
     rw [List.getElem?_append_right (by simp)] at hb
     simp only [List.length_map, Nat.sub_self] at hb
     cases G with
     | nil => simp at hb
     | cons g r =>
      simp only [List.map_cons, List.getElem?_cons_zero, Option.some.injEq] at hb
      have hg := hx g (List.mem_cons_self ..)
      have := key_inj _ _ (by omega) (by omega) hb
      omega
   rw [hd, hv (7 - j) (by omega), Bool.true_and]
   have := ih (by omega)
   rw [h2, F_succ] at this
   by_cases hp : P (7 - j) = true
   ·rw [if_pos hp] at this ⊢
    simpa using this
   ·rw [if_neg hp] at this ⊢
    simpa using this
 exact gen 8 (by omega)
theorem rightR_nil : rightR [] = true := by
 rw [← rightB_R]
 decide
theorem zero_valid (k : Nat) : valid cZero false k = true := by
 have h8 : k = 0 ∨ k = 1 ∨ k = 2 ∨ k = 3 ∨ k = 4 ∨ k = 5 ∨ k = 6 ∨ 7 ≤ k := by omega
 rcases h8 with rfl | rfl | rfl | rfl | rfl | rfl | rfl | h
 all_goals first
  | (show txt false [] = true; unfold txt; rw [rightR_nil]; rfl)
  | rfl
  | (obtain ⟨m, rfl⟩ : ∃ m, k = m + 7 := ⟨k - 7, by omega⟩; rfl)
theorem textsOf_right : ∀ (l : List Tr) (i : Nat) (ts : List Txt), (∀ t ∈ l, t.Ok) → textsOf l i = .inr ts → ∀ s ∈ ts, rightR s = true
 | [], _, ts, _, h, s, hs => by
  rw [textsOf] at h
  injection h with h
  subst h
  cases hs
 | t :: r, i, ts, ho, h, s, hs => by
  cases t with
  | text x =>
   rw [textsOf] at h
   cases hr : textsOf r (i + 1) with
   | inl j =>
    rw [hr] at h
    cases h
   | inr l =>
    rw [hr] at h
    injection h with h
    subst h
    rcases List.mem_cons.1 hs with rfl | hs
    ·have := ho (.text s) (List.mem_cons_self ..)
     unfold Tr.Ok at this
     rw [← rightB_R]
     exact this
    ·exact textsOf_right r (i + 1) l (fun t ht => ho t (List.mem_cons_of_mem _ ht)) hr s hs
  | null => cases h
  | flag b => cases h
  | num b => cases h
  | list b => cases h
  | obj a b => cases h
theorem twice_right : ∀ (l p : List Txt) (i : Nat), twiceAt p l i = none → (∀ s ∈ l, rightR s = true) → rightL p l = true
 | [], _, _, _, _ => rfl
 | s :: r, p, i, h, hr => by
  rw [twiceAt] at h
  by_cases hp : inB p s = true
  ·rw [if_pos hp] at h
   cases h
  ·rw [if_neg hp] at h
   rw [rightL, hr s (List.mem_cons_self ..), twice_right r _ _ h fun x hx => hr x (List.mem_cons_of_mem _ hx)]
   have : p.contains s = false := by
    have : ¬ p.contains s = true := hp
    simpa using this
   rw [this]
   rfl
theorem textK_right {k : Nat} {t : Tr} {s : Txt} (ho : t.Ok) (h : textK k t = .inr s) : txt true s = true := by
 cases t with
 | text x =>
  rw [textK] at h
  injection h with h
  subst h
  unfold Tr.Ok at ho
  unfold txt
  rw [← rightB_R, ho]
  rfl
 | null => rw [textK] at h; cases h; simp
 | flag b => rw [textK] at h; cases h; simp
 | num b => rw [textK] at h; cases h; simp
 | list b => rw [textK] at h; cases h; simp
 | obj a b => rw [textK] at h; cases h; simp
theorem timeK_right {k : Nat} {t : Tr} {s : Int} (h : timeK k t = .inr s) : tim true s = true := by
 cases t with
 | num x =>
  rw [timeK] at h
  split at h
  ·rename_i h0
   injection h with h
   subst h
   have := @timeD_lt x
   unfold tim
   rw [isTime_iff.2 ⟨h0, by omega⟩]
   rfl
  ·cases h
 | null => rw [timeK] at h; cases h; simp
 | flag b => rw [timeK] at h; cases h; simp
 | text b => rw [timeK] at h; cases h; simp
 | list b => rw [timeK] at h; cases h; simp
 | obj a b => rw [timeK] at h; cases h; simp
theorem listK_right {k : Nat} {a : Bool} {t : Tr} {s : List Txt} (ho : t.Ok) (h : listK k a t = .inr s) : lst true s = true := by
 unfold lst
 rw [Bool.true_or, Bool.true_and]
 cases t with
 | text x =>
  rw [listK] at h
  split at h
  ·injection h with h
   subst h
   unfold Tr.Ok at ho
   rw [rightL, ← rightB_R, ho]
   rfl
  ·cases h
 | list l =>
  rw [listK] at h
  cases ht : textsOf l 0 with
  | inl j => rw [ht] at h; cases h
  | inr ts =>
   rw [ht] at h
   dsimp only at h
   cases hw : twiceAt [] ts 0 with
   | some i => rw [hw] at h; cases h
   | none =>
    rw [hw] at h
    injection h with h
    subst h
    unfold Tr.Ok at ho
    exact twice_right ts [] 0 hw (textsOf_right l 0 ts (fun t h => (okl_mem ho h).1) ht)
 | null => cases h
 | flag b => cases h
 | num b => cases h
 | obj a b => cases h
theorem set_valid {c d : C} {k : Nat} {t : Tr} (hk : k < 8) (ho : t.Ok) (h : setK c k t = .inr d) : d.has = c.has ∧ valid d true k = true ∧ ∀ j b, j < 8 → j ≠ k → valid d b j = valid c b j := by
 have h8 : k = 0 ∨ k = 1 ∨ k = 2 ∨ k = 3 ∨ k = 4 ∨ k = 5 ∨ k = 6 ∨ k = 7 := by omega
 have j8 : ∀ j, j < 8 → j = 0 ∨ j = 1 ∨ j = 2 ∨ j = 3 ∨ j = 4 ∨ j = 5 ∨ j = 6 ∨ j = 7 := by omega
 rcases h8 with rfl | rfl | rfl | rfl | rfl | rfl | rfl | rfl
 ·rw [setK_0] at h
  cases hx : textK 0 t with
  | inl e => rw [hx] at h; cases h
  | inr s =>
   rw [hx] at h
   injection h with h
   subst h
   refine ⟨rfl, textK_right ho hx, fun j b hj hne => ?_⟩
   rcases j8 j hj with rfl | rfl | rfl | rfl | rfl | rfl | rfl | rfl <;> first | rfl | exact absurd rfl hne
 ·rw [setK_1] at h
  cases hx : timeK 1 t with
  | inl e => rw [hx] at h; cases h
  | inr s =>
   rw [hx] at h
   injection h with h
   subst h
   refine ⟨rfl, timeK_right hx, fun j b hj hne => ?_⟩
   rcases j8 j hj with rfl | rfl | rfl | rfl | rfl | rfl | rfl | rfl <;> first | rfl | exact absurd rfl hne
 ·rw [setK_2] at h
  cases hx : textK 2 t with
  | inl e => rw [hx] at h; cases h
  | inr s =>
   rw [hx] at h
   injection h with h
   subst h
   refine ⟨rfl, textK_right ho hx, fun j b hj hne => ?_⟩
   rcases j8 j hj with rfl | rfl | rfl | rfl | rfl | rfl | rfl | rfl <;> first | rfl | exact absurd rfl hne
 ·rw [setK_3] at h
  cases hx : listK 3 true t with
  | inl e => rw [hx] at h; cases h
  | inr s =>
   rw [hx] at h
   injection h with h
   subst h
   refine ⟨rfl, listK_right ho hx, fun j b hj hne => ?_⟩
   rcases j8 j hj with rfl | rfl | rfl | rfl | rfl | rfl | rfl | rfl <;> first | rfl | exact absurd rfl hne
 ·rw [setK_4] at h
  cases hx : timeK 4 t with
  | inl e => rw [hx] at h; cases h
  | inr s =>
   rw [hx] at h
   injection h with h
   subst h
   refine ⟨rfl, timeK_right hx, fun j b hj hne => ?_⟩
   rcases j8 j hj with rfl | rfl | rfl | rfl | rfl | rfl | rfl | rfl <;> first | rfl | exact absurd rfl hne
 ·rw [setK_5] at h
  cases hx : textK 5 t with
  | inl e => rw [hx] at h; cases h
  | inr s =>
   rw [hx] at h
   injection h with h
   subst h
   refine ⟨rfl, textK_right ho hx, fun j b hj hne => ?_⟩
   rcases j8 j hj with rfl | rfl | rfl | rfl | rfl | rfl | rfl | rfl <;> first | rfl | exact absurd rfl hne
 ·rw [setK_6] at h
  cases hx : listK 6 false t with
  | inl e => rw [hx] at h; cases h
  | inr s =>
   rw [hx] at h
   injection h with h
   subst h
   refine ⟨rfl, listK_right ho hx, fun j b hj hne => ?_⟩
   rcases j8 j hj with rfl | rfl | rfl | rfl | rfl | rfl | rfl | rfl <;> first | rfl | exact absurd rfl hne
 ·rw [setK_7] at h
  cases hx : timeK 7 t with
  | inl e => rw [hx] at h; cases h
  | inr s =>
   rw [hx] at h
   injection h with h
   subst h
   refine ⟨rfl, timeK_right hx, fun j b hj hne => ?_⟩
   rcases j8 j hj with rfl | rfl | rfl | rfl | rfl | rfl | rfl | rfl <;> first | rfl | exact absurd rfl hne
def thereT (t : Tr) (k : Nat) : Bool := (onT (key k) t).isSome
theorem read_may {t : Tr} (ho : t.Ok) (h : (readC t).2 = []) : mayB (readC t).1 = true ∧ (readC t).1.has = (F (thereT t) 8).map key := by
 have gen : ∀ k, k ≤ 8 → (readAt t k).2 = [] → (readAt t k).1.has = (F (thereT t) k).map key ∧ ∀ j, j < 8 → valid (readAt t k).1 (decide (j < k) && thereT t j) j = true := by
  intro k
  induction k with
  | zero =>
   intro _ _
   refine ⟨rfl, fun j hj => ?_⟩
   have : decide (j < 0) = false := by simp
   rw [this, Bool.false_and]
   exact zero_valid j
  | succ k ih =>
   intro hk hz
   rw [readAt] at hz ⊢
   unfold readK at hz ⊢
   have hks : ∀ j, j ≠ k → decide (j < k + 1) = decide (j < k) := fun j hne => by
    rw [decide_eq_decide]
    omega
   cases hv : onT (key k) t with
   | none =>
    have hp : thereT t k = false := by unfold thereT; rw [hv]; rfl
    rw [hv] at hz
    obtain ⟨h1, h2⟩ := ih (by omega) hz
    refine ⟨?_, fun j hj => ?_⟩
    ·rw [F_succ, if_neg (by rw [hp]; simp), List.append_nil]
     exact h1
    ·have := h2 j hj
     by_cases e : j = k
     ·subst e
      rw [hp, Bool.and_false] at this ⊢
      exact this
     ·rw [hks j e]
      exact this
   | some v =>
    have hp : thereT t k = true := by unfold thereT; rw [hv]; rfl
    rw [hv] at hz
    dsimp only at hz ⊢
    cases hs : setK (withHas (readAt t k).1 k) k v with
    | inl e =>
     rw [hs] at hz
     simp at hz
    | inr d =>
     rw [hs] at hz
     dsimp only at hz ⊢
     obtain ⟨h1, h2⟩ := ih (by omega) hz
     obtain ⟨a1, a2, a3⟩ := set_valid (by omega) (onT_ok ho hv).1 hs
     refine ⟨?_, fun j hj => ?_⟩
     ·rw [a1, F_succ, if_pos hp, List.map_append, ← h1]
      rfl
     ·by_cases e : j = k
      ·subst e
       rw [hp, decide_eq_true (by omega)]
       exact a2
      ·rw [a3 j _ hj e, hks j e]
       exact h2 j hj
 obtain ⟨h1, h2⟩ := gen 8 (by omega) h
 refine ⟨be_of h1 fun k hk => ?_, h1⟩
 have := h2 k hk
 rw [decide_eq_true hk, Bool.true_and] at this
 exact this
end Cl
end Go.Proofs.YtobaldkipnhlpaaGreatDoor
