/-
  Plain law of layer 25: what an object claims; the object that claims; there and back.
-/
import Derived.Test.YtbcckpnngonoeaaGreatDoorCvP
import Derived.Test.YtbcckpnngonoeaaGreatDoorFtB
import Derived.Test.YtbcckpnngonoeaaGreatDoorHB
import Derived.Test.YtbcckpnngonoeaaGreatDoorMD
import Derived.Lib.ItoaMem
namespace Go.Proofs.YtbcckpnngonoeaaGreatDoor
open Go.RowKit Ref3
set_option linter.unusedVariables false
namespace Cl
open Nd
/-- the texts of values; or the place of the first that is none -/
def textsOf : List Tr → Nat → Sum Nat (List Txt)
  | [], _ => .inr []
  | t :: r, i => match t with
    | .text s => match textsOf r (i + 1) with
      | .inl j => .inl j
      | .inr l => .inr (s :: l)
    | _ => .inl i
/-- the place of the first text that is among those ahead of it -/
def twiceAt : List Txt → List Txt → Nat → Option Nat
  | _, [], _ => none
  | p, s :: r, i => if inB p s = true then some i else twiceAt (p ++ [s]) r (i + 1)
abbrev Trl := Int × Txt
def path (k : Nat) : Txt := 47 :: key k
def pathAt (k i : Nat) : Txt := path k ++ 47 :: Lib.itoa (i : Int)
/-- what a value claims as a text, a time, a list; or the error -/
def textK (k : Nat) : Tr → Sum Trl Txt
  | .text s => .inr s
  | _ => .inl (5, path k)
def timeK (k : Nat) : Tr → Sum Trl Int
  | .num x => if 0 ≤ timeD x then .inr (timeD x) else .inl (250, path k)
  | _ => .inl (5, path k)
def listK (k : Nat) (alone : Bool) : Tr → Sum Trl (List Txt)
  | .text s => if alone = true then .inr [s] else .inl (5, path k)
  | .list l => match textsOf l 0 with
    | .inl j => .inl (5, pathAt k j)
    | .inr ts => match twiceAt [] ts 0 with
      | some i => .inl (101, pathAt k i)
      | none => .inr ts
  | _ => .inl (5, path k)
def setK (c : C) (k : Nat) (t : Tr) : Sum Trl C :=
  match k with
  | 0 => (match textK 0 t with | .inl e => .inl e | .inr s => .inr { c with about := s })
  | 1 => (match timeK 1 t with | .inl e => .inl e | .inr s => .inr { c with at_ := s })
  | 2 => (match textK 2 t with | .inl e => .inl e | .inr s => .inr { c with by_ := s })
  | 3 => (match listK 3 true t with | .inl e => .inl e | .inr s => .inr { c with for_ := s })
  | 4 => (match timeK 4 t with | .inl e => .inl e | .inr s => .inr { c with from_ := s })
  | 5 => (match textK 5 t with | .inl e => .inl e | .inr s => .inr { c with id_ := s })
  | 6 => (match listK 6 false t with | .inl e => .inl e | .inr s => .inr { c with may_ := s })
  | _ => (match timeK 7 t with | .inl e => .inl e | .inr s => .inr { c with until_ := s })
def cZero : C := ⟨[], [], 0, [], [], 0, [], [], 0⟩
def withHas (c : C) (k : Nat) : C := { c with has := c.has ++ [key k] }
def readK (t : Tr) (k : Nat) (st : C × List Trl) : C × List Trl :=
  match onT (key k) t with
  | none => st
  | some v => match setK (withHas st.1 k) k v with
    | .inr c => (c, st.2)
    | .inl e => (withHas st.1 k, st.2 ++ [e])
def readAt (t : Tr) : Nat → C × List Trl
  | 0 => (cZero, [])
  | k + 1 => readK t k (readAt t k)
/-- what an object claims -/
def readC (t : Tr) : C × List Trl := readAt t 8

/-! ### the object that claims -/
def valK (c : C) : Nat → Tr
  | 0 => .text c.about
  | 1 => .num (bitsT c.at_.toNat)
  | 2 => .text c.by_
  | 3 => .list (c.for_.map .text)
  | 4 => .num (bitsT c.from_.toNat)
  | 5 => .text c.id_
  | 6 => .list (c.may_.map .text)
  | _ => .num (bitsT c.until_.toNat)
def placesK (c : C) (k : Nat) : List Nat := (List.range k).filter fun j => is c j
def objC (c : C) : Tr := .obj ((placesK c 8).map key) ((placesK c 8).map (valK c))
theorem places_succ (c : C) (k : Nat) : placesK c (k + 1) = placesK c k ++ (if is c k = true then [k] else []) := by
  unfold placesK
  rw [List.range_succ, List.filter_append]
  congr 1
  by_cases h : is c k = true
  · rw [if_pos h]
    simp [h]
  · rw [if_neg h]
    simp [h]
theorem places_lt {c : C} {k j : Nat} (h : j ∈ placesK c k) : j < k ∧ is c j = true := by
  unfold placesK at h
  rw [List.mem_filter, List.mem_range] at h
  exact h
theorem places_mem {c : C} {k j : Nat} (hj : j < k) (h : is c j = true) : j ∈ placesK c k := by
  unfold placesK
  rw [List.mem_filter, List.mem_range]
  exact ⟨hj, h⟩
/-- the keys of claims that may be -/
theorem has_beK {c : C} : ∀ (j n : Nat), j ≤ 8 → Low c (8 - j) n → beK c j n = true → c.has.take n = (placesK c (8 - j)).map key → c.has = (placesK c 8).map key
  | 0, n, _, hl, h, ht => by
    rw [beK, beq_iff_eq] at h
    rw [h, List.take_length] at ht
    exact ht
  | j + 1, n, hj, hl, h, ht => by
    have hk : 8 - (j + 1) = 7 - j := by omega
    have hk2 : 8 - j = 7 - j + 1 := by omega
    rw [hk] at hl ht
    have hnext := low_next hl
    rw [beK, Bool.and_eq_true] at h
    refine has_beK j _ (by omega) (by rw [hk2]; exact hnext) h.2 ?_
    rw [hk2, places_succ, List.map_append]
    by_cases hd : isD c (7 - j) n = true
    · obtain ⟨h1, h2⟩ := isD_iff.1 hd
      have hi : is c (7 - j) = true := is_iff.2 ⟨n, h1, h2⟩
      rw [if_pos hd, if_pos hi, List.take_succ_eq_append_getElem h1, ht]
      congr 1
      rw [List.getElem?_eq_getElem h1] at h2
      injection h2 with h2
      rw [h2]
      rfl
    · rw [if_neg hd]
      have hi : ¬ is c (7 - j) = true := by
        intro hi
        obtain ⟨i, h1, h2⟩ := is_iff.1 hi
        have hin : n ≤ i := by
          refine Decidable.byContradiction fun hlt => ?_
          obtain ⟨a, ha, hx⟩ := hl.2 i (by omega)
          rw [hx] at h2
          injection h2 with h2
          have := key_inj _ _ (by omega) (by omega) h2
          omega
        have hs := stuck j n i (7 - j) (by omega) hin h2
        rw [if_neg hd] at h
        rw [hs] at h
        exact absurd h.2 (by simp)
      rw [if_neg hi, ht]
      simp
theorem has_may {c : C} (h : mayB c = true) : c.has = (placesK c 8).map key :=
  has_beK 8 0 (by omega) ⟨Nat.zero_le _, fun i hi => by omega⟩ (by rw [← h, mayB_beB]; rfl) rfl
/-- claims up to a place -/
def cut (c : C) (k : Nat) : C := ⟨(placesK c k).map key, if 0 < k then c.about else [], if 1 < k then c.at_ else 0, if 2 < k then c.by_ else [], if 3 < k then c.for_ else [], if 4 < k then c.from_ else 0, if 5 < k then c.id_ else [], if 6 < k then c.may_ else [], if 7 < k then c.until_ else 0⟩
theorem cut_end {c : C} (h : mayB c = true) : cut c 8 = c := by
  unfold cut
  rw [← has_may h]
  rfl
theorem idx_map_key {l : List Nat} (hl : ∀ j ∈ l, j < 8) {k : Nat} (hk : k < 8) : key k ∈ l.map key ↔ k ∈ l := by
  rw [List.mem_map]
  constructor
  · rintro ⟨a, ha, e⟩
    rw [← key_inj a k (hl a ha) hk e]
    exact ha
  · intro h
    exact ⟨k, h, rfl⟩
theorem idxOf_key : ∀ {l : List Nat} (hl : ∀ j ∈ l, j < 8) {k : Nat} (hk : k < 8) (hm : k ∈ l) {α : Type} (f : Nat → α), (l.map f)[(l.map key).idxOf (key k)]? = some (f k)
  | [], _, _, _, hm, _, _ => by cases hm
  | a :: r, hl, k, hk, hm, α, f => by
    rw [List.map_cons, List.map_cons, List.idxOf_cons]
    by_cases e : a = k
    · subst e
      simp
    · have hne : (key a == key k) = false := by
        rw [beq_eq_false_iff_ne]
        intro h
        exact e (key_inj a k (hl a (List.mem_cons_self ..)) hk h)
      rw [hne]
      have hm2 : k ∈ r := by
        rcases List.mem_cons.1 hm with h | h
        · exact absurd h.symm e
        · exact h
      simp only [cond_false, List.getElem?_cons_succ]
      exact idxOf_key (fun j hj => hl j (List.mem_cons_of_mem _ hj)) hk hm2 f
theorem onT_objC {c : C} {k : Nat} (hk : k < 8) : onT (key k) (objC c) = if is c k = true then some (valK c k) else none := by
  unfold objC
  rw [onT_obj]
  have hl : ∀ j ∈ placesK c 8, j < 8 := fun j hj => (places_lt hj).1
  by_cases h : is c k = true
  · have hm := places_mem hk h
    rw [if_pos h, if_pos ((idx_map_key hl hk).2 hm), idxOf_key hl hk hm]
  · rw [if_neg h, if_neg]
    intro hc
    exact h (places_lt ((idx_map_key hl hk).1 hc)).2
theorem textsOf_map : ∀ (l : List Txt) (i : Nat), textsOf (l.map .text) i = .inr l
  | [], _ => rfl
  | s :: r, i => by
    rw [List.map_cons, textsOf, textsOf_map r (i + 1)]
theorem twiceAt_none : ∀ (l p : List Txt) (i : Nat), rightL p l = true → twiceAt p l i = none
  | [], _, _, _ => rfl
  | s :: r, p, i, h => by
    rw [rightL, Bool.and_eq_true, Bool.and_eq_true] at h
    rw [twiceAt, if_neg, twiceAt_none r _ _ h.2]
    have := h.1.2
    show ¬ p.contains s = true
    simpa using this
theorem timeK_ok {k : Nat} {t : Int} (h : isTime t = true) : timeK k (.num (bitsT t.toNat)) = .inr t := by
  have h := isTime_iff.1 h
  have hb : timeD (bitsT t.toNat) = t := by
    rw [timeD_bits (by omega)]
    omega
  rw [timeK, hb, if_pos h.1]
theorem listK_ok {k : Nat} {a : Bool} {l : List Txt} (h : rightL [] l = true) : listK k a (.list (l.map .text)) = .inr l := by
  rw [listK, textsOf_map]
  dsimp only
  rw [twiceAt_none l [] 0 h]
theorem setK_0 (c : C) (t : Tr) : setK c 0 t = (match textK 0 t with | .inl e => .inl e | .inr s => .inr { c with about := s }) := rfl
theorem setK_1 (c : C) (t : Tr) : setK c 1 t = (match timeK 1 t with | .inl e => .inl e | .inr s => .inr { c with at_ := s }) := rfl
theorem setK_2 (c : C) (t : Tr) : setK c 2 t = (match textK 2 t with | .inl e => .inl e | .inr s => .inr { c with by_ := s }) := rfl
theorem setK_3 (c : C) (t : Tr) : setK c 3 t = (match listK 3 true t with | .inl e => .inl e | .inr s => .inr { c with for_ := s }) := rfl
theorem setK_4 (c : C) (t : Tr) : setK c 4 t = (match timeK 4 t with | .inl e => .inl e | .inr s => .inr { c with from_ := s }) := rfl
theorem setK_5 (c : C) (t : Tr) : setK c 5 t = (match textK 5 t with | .inl e => .inl e | .inr s => .inr { c with id_ := s }) := rfl
theorem setK_6 (c : C) (t : Tr) : setK c 6 t = (match listK 6 false t with | .inl e => .inl e | .inr s => .inr { c with may_ := s }) := rfl
theorem setK_7 (c : C) (t : Tr) : setK c 7 t = (match timeK 7 t with | .inl e => .inl e | .inr s => .inr { c with until_ := s }) := rfl
theorem valK_0 (c : C) : valK c 0 = .text c.about := rfl
theorem valK_1 (c : C) : valK c 1 = .num (bitsT c.at_.toNat) := rfl
theorem valK_2 (c : C) : valK c 2 = .text c.by_ := rfl
theorem valK_3 (c : C) : valK c 3 = .list (c.for_.map .text) := rfl
theorem valK_4 (c : C) : valK c 4 = .num (bitsT c.from_.toNat) := rfl
theorem valK_5 (c : C) : valK c 5 = .text c.id_ := rfl
theorem valK_6 (c : C) : valK c 6 = .list (c.may_.map .text) := rfl
theorem valK_7 (c : C) : valK c 7 = .num (bitsT c.until_.toNat) := rfl
/-- setting a claim that is there -/
theorem set_there {c : C} {k : Nat} (hk : k < 8) (hm : mayB c = true) (h : is c k = true) : setK (withHas (cut c k) k) k (valK c k) = .inr (cut c (k + 1)) := by
  have hv := may_valid hm hk
  have hh : (placesK c k).map key ++ [key k] = (placesK c (k + 1)).map key := by
    rw [places_succ, if_pos h, List.map_append]
    rfl
  have h8 : k = 0 ∨ k = 1 ∨ k = 2 ∨ k = 3 ∨ k = 4 ∨ k = 5 ∨ k = 6 ∨ k = 7 := by omega
  rcases h8 with rfl | rfl | rfl | rfl | rfl | rfl | rfl | rfl
  · rw [setK_0, valK_0]
    unfold withHas cut
    rw [← hh]
    rfl
  · rw [setK_1, valK_1, timeK_ok (Bool.and_eq_true_iff.1 hv).2]
    unfold withHas cut
    rw [← hh]
    rfl
  · rw [setK_2, valK_2]
    unfold withHas cut
    rw [← hh]
    rfl
  · rw [setK_3, valK_3, listK_ok (Bool.and_eq_true_iff.1 hv).2]
    unfold withHas cut
    rw [← hh]
    rfl
  · rw [setK_4, valK_4, timeK_ok (Bool.and_eq_true_iff.1 hv).2]
    unfold withHas cut
    rw [← hh]
    rfl
  · rw [setK_5, valK_5]
    unfold withHas cut
    rw [← hh]
    rfl
  · rw [setK_6, valK_6, listK_ok (Bool.and_eq_true_iff.1 hv).2]
    unfold withHas cut
    rw [← hh]
    rfl
  · rw [setK_7, valK_7, timeK_ok (Bool.and_eq_true_iff.1 hv).2]
    unfold withHas cut
    rw [← hh]
    rfl
/-- a claim that is not there says nothing -/
theorem cut_none' {c : C} {k : Nat} (hk : k < 8) (hm : mayB c = true) (h : ¬ is c k = true) : cut c k = cut c (k + 1) := by
  have hv := may_valid hm hk
  have hf : is c k = false := by simpa using h
  rw [hf] at hv
  have hh : placesK c (k + 1) = placesK c k := by
    rw [places_succ, if_neg h, List.append_nil]
  have h8 : k = 0 ∨ k = 1 ∨ k = 2 ∨ k = 3 ∨ k = 4 ∨ k = 5 ∨ k = 6 ∨ k = 7 := by omega
  rcases h8 with rfl | rfl | rfl | rfl | rfl | rfl | rfl | rfl
  all_goals
    unfold cut
    rw [hh]
    have hv1 := (Bool.and_eq_true_iff.1 hv).1
    simp only [Bool.false_or, List.isEmpty_iff, beq_iff_eq] at hv1
    simp [hv1]
/-- what is made is read as it was -/
theorem read_make {c : C} (hm : mayB c = true) : readC (objC c) = (c, []) := by
  have gen : ∀ k, k ≤ 8 → readAt (objC c) k = (cut c k, []) := by
    intro k
    induction k with
    | zero => intro _; rfl
    | succ k ih =>
      intro hk
      rw [readAt, ih (by omega), readK, onT_objC (by omega)]
      by_cases h : is c k = true
      · rw [if_pos h]
        dsimp only
        rw [set_there (by omega) hm h]
      · rw [if_neg h]
        dsimp only
        rw [cut_none' (by omega) hm h]
  unfold readC
  rw [gen 8 (by omega), cut_end hm]
end Cl
end Go.Proofs.YtbcckpnngonoeaaGreatDoor

