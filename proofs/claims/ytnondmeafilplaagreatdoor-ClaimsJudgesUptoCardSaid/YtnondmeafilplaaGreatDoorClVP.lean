/-
  Plain law of layer 25: what of claims is wider than others; the keys that are there.
-/
import Derived.Test.YtnondmeafilplaaGreatDoorClP
import Derived.Test.YtnondmeafilplaaGreatDoorMoveA
namespace Go.Proofs.YtnondmeafilplaaGreatDoor
open Go.RowKit Ref3 Tok
set_option linter.unusedVariables false
namespace Cl
theorem mayK_has {c : C} : ∀ (j n : Nat), j ≤ 8 → n ≤ c.has.length → c.has.take n = ((List.range (8 - j)).filter (is c)).map key → mayK c j n = true → c.has = ((List.range 8).filter (is c)).map key
  | 0, n, _, hn, h, hm => by
    rw [mayK, beq_iff_eq] at hm
    subst hm
    rw [List.take_length] at h
    exact h
  | j + 1, n, hj, hn, h, hm => by
    rw [mayK, Bool.and_eq_true, Bool.and_eq_true] at hm
    obtain ⟨⟨ho, _⟩, hm⟩ := hm
    have e : 8 - j = (7 - j) + 1 := by omega
    have e2 : 8 - (j + 1) = 7 - j := by omega
    rw [e2] at h
    cases hi : is c (7 - j) with
    | true =>
      rw [hi, if_pos rfl] at hm
      unfold order at ho
      rw [hi, Bool.true_and, Bool.not_eq_true', Bool.or_eq_false_iff] at ho
      obtain ⟨h1, h2⟩ := ho
      have hlt : n < c.has.length := by
        have := of_decide_eq_false h1
        omega
      have hg : c.has[n] = key (7 - j) := by
        rw [Bool.not_eq_false', beq_iff_eq, List.getD_eq_getElem?_getD, List.getElem?_eq_getElem hlt] at h2
        exact h2
      refine mayK_has j (n + 1) (by omega) hlt ?_ hm
      rw [List.take_succ_eq_append_getElem hlt, h, e, List.range_succ, List.filter_append, List.map_append, hg]
      simp [hi]
    | false =>
      rw [hi, if_neg (by decide)] at hm
      refine mayK_has j n (by omega) hn ?_ hm
      rw [h, e, List.range_succ, List.filter_append, List.map_append]
      simp [hi]
/-- the places of the keys that are there -/
def ksOf (c : C) : List Nat := (List.range 8).filter (is c)
theorem may_has {c : C} (h : mayB c = true) : c.has = (ksOf c).map key := mayK_has 8 0 (by omega) (Nat.zero_le _) rfl h
theorem ksOf_lt {c : C} {j : Nat} (hj : j < (ksOf c).length) : (ksOf c)[j] < 8 := by
  have := List.getElem_mem hj
  unfold ksOf at this
  exact List.mem_range.1 (List.mem_filter.1 this).1
def widerB (c o : C) : Nat → Bool
  | 3 => !(lackF o.for_ [] c.for_).isEmpty
  | 4 => decide (c.from_ < o.from_)
  | 6 => !(lackF o.may_ [] c.may_).isEmpty
  | 7 => decide (o.until_ < c.until_)
  | _ => false
def badK (c o : C) (k : Nat) : List (Int × Txt) := if is c k = true then (if widerB c o k = true then [(251, 47 :: key k)] else []) else [(252, 47 :: key k)]
def badsF (c o : C) (l : List Nat) : List (Int × Txt) := l.flatMap (badK c o)
/-- all that is wider than others -/
def badL (c o : C) : List (Int × Txt) := badsF c o (ksOf o)
theorem badsF_snoc (c o : C) (l : List Nat) (k : Nat) : badsF c o (l ++ [k]) = badsF c o l ++ badK c o k := by
  unfold badsF
  rw [List.flatMap_append]
  simp
theorem badK_len (c o : C) (k : Nat) : (badK c o k).length ≤ 1 := by
  unfold badK
  split
  · split <;> simp
  · simp
theorem badsF_len (c o : C) : ∀ l : List Nat, (badsF c o l).length ≤ l.length
  | [] => Nat.zero_le _
  | k :: r => by
    have h1 := badK_len c o k
    have h2 := badsF_len c o r
    unfold badsF at h2 ⊢
    rw [List.flatMap_cons, List.length_append, List.length_cons]
    omega
theorem ksOf_len (c : C) : (ksOf c).length ≤ 8 := by
  have := List.length_filter_le (is c) (List.range 8)
  rw [List.length_range] at this
  exact this
/-- the keys below k, one more -/
theorem keys_succ (o : C) (k : Nat) : (List.range (k + 1)).filter (is o) = (List.range k).filter (is o) ++ if is o k = true then [k] else [] := by
  rw [List.range_succ, List.filter_append]
  congr 1
  cases h : is o k <;> simp [h]
end Cl
open Cl in
theorem down_key {k : Nat} (hk : k < 8) : downR [] (key k) = .ok (47 :: key k) := by
  have h8 : k = 0 ∨ k = 1 ∨ k = 2 ∨ k = 3 ∨ k = 4 ∨ k = 5 ∨ k = 6 ∨ k = 7 := by omega
  rcases h8 with rfl | rfl | rfl | rfl | rfl | rfl | rfl | rfl
  · exact (show downR [] (key 0) = Except.ok (47 :: key 0) by kernel_rfl)
  · exact (show downR [] (key 1) = Except.ok (47 :: key 1) by kernel_rfl)
  · exact (show downR [] (key 2) = Except.ok (47 :: key 2) by kernel_rfl)
  · exact (show downR [] (key 3) = Except.ok (47 :: key 3) by kernel_rfl)
  · exact (show downR [] (key 4) = Except.ok (47 :: key 4) by kernel_rfl)
  · exact (show downR [] (key 5) = Except.ok (47 :: key 5) by kernel_rfl)
  · exact (show downR [] (key 6) = Except.ok (47 :: key 6) by kernel_rfl)
  · exact (show downR [] (key 7) = Except.ok (47 :: key 7) by kernel_rfl)
open Cl in
theorem key_len {k : Nat} (hk : k < 8) : (key k).length ≤ 5 := by
  have h8 : k = 0 ∨ k = 1 ∨ k = 2 ∨ k = 3 ∨ k = 4 ∨ k = 5 ∨ k = 6 ∨ k = 7 := by omega
  rcases h8 with rfl | rfl | rfl | rfl | rfl | rfl | rfl | rfl <;> decide
end Go.Proofs.YtnondmeafilplaaGreatDoor
