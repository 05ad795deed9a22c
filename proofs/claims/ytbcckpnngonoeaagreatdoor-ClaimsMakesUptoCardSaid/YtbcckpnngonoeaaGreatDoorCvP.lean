/-
  Plain law of layer 25: which claims may be, how they are judged: by the code's order of asking, and by the document's.
-/
import Derived.Test.YtbcckpnngonoeaaGreatDoorMA
namespace Go.Proofs.YtbcckpnngonoeaaGreatDoor
open Go.RowKit Ref3
set_option linter.unusedVariables false
namespace Cl
abbrev Txt := List UInt8
structure C where
  has : List Txt
  about : Txt
  at_ : Int
  by_ : Txt
  for_ : List Txt
  from_ : Int
  id_ : Txt
  may_ : List Txt
  until_ : Int
structure R where
  now : Int
  slack : Int
  who : Txt
  by_ : List Txt
  need : List Txt
  may_ : List Txt
def key : Nat → Txt
  | 0 => [97, 98, 111, 117, 116]
  | 1 => [97, 116]
  | 2 => [98, 121]
  | 3 => [102, 111, 114]
  | 4 => [102, 114, 111, 109]
  | 5 => [105, 100]
  | 6 => [109, 97, 121]
  | _ => [117, 110, 116, 105, 108]
def rightL : List Txt → List Txt → Bool
  | _, [] => true
  | p, s :: r => rightR s && !(p.contains s) && rightL (p ++ [s]) r
/-- is a text among others? (a name that the walk does not open) -/
def inB (l : List Txt) (t : Txt) : Bool := l.contains t
def isTime (t : Int) : Bool := decide (0 ≤ t ∧ t ≤ 9007199254740991)
def txt (is : Bool) (s : Txt) : Bool := (is || s.isEmpty) && rightR s
def tim (is : Bool) (t : Int) : Bool := (is || t == 0) && isTime t
def lst (is : Bool) (l : List Txt) : Bool := (is || l.isEmpty) && rightL [] l
def valid (c : C) (is : Bool) : Nat → Bool
  | 0 => txt is c.about
  | 1 => tim is c.at_
  | 2 => txt is c.by_
  | 3 => lst is c.for_
  | 4 => tim is c.from_
  | 5 => txt is c.id_
  | 6 => lst is c.may_
  | _ => tim is c.until_
def is (c : C) (k : Nat) : Bool := c.has.contains (key k)
/-- what the code's test asks at key k, so many keys having come -/
def order (c : C) (k n : Nat) : Bool := is c k && (decide (c.has.length ≤ n) || !(c.has.getD n [] == key k))
/-- the code's loop, j keys being left -/
def mayK (c : C) : Nat → Nat → Bool
  | 0, n => n == c.has.length
  | j + 1, n => !(order c (7 - j) n) && valid c (is c (7 - j)) (7 - j) && mayK c j (if is c (7 - j) then n + 1 else n)
def mayB (c : C) : Bool := mayK c 8 0
/-- the document's loop -/
def isD (c : C) (k n : Nat) : Bool := decide (n < c.has.length) && (c.has.getD n [] == key k)
def beK (c : C) : Nat → Nat → Bool
  | 0, n => n == c.has.length
  | j + 1, n => valid c (isD c (7 - j) n) (7 - j) && beK c j (if isD c (7 - j) n then n + 1 else n)
def beB (c : C) : Bool := beK c 8 0
theorem key_inj : ∀ a b : Nat, a < 8 → b < 8 → key a = key b → a = b := by
  intro a b ha hb h
  have h8 : ∀ x : Nat, x < 8 → x = 0 ∨ x = 1 ∨ x = 2 ∨ x = 3 ∨ x = 4 ∨ x = 5 ∨ x = 6 ∨ x = 7 := by omega
  rcases h8 a ha with rfl | rfl | rfl | rfl | rfl | rfl | rfl | rfl <;> rcases h8 b hb with rfl | rfl | rfl | rfl | rfl | rfl | rfl | rfl <;> first | rfl | (exact absurd h (by decide))
/-- the keys ahead of place n are those of lower number -/
def Low (c : C) (k n : Nat) : Prop := n ≤ c.has.length ∧ ∀ i, i < n → ∃ a, a < k ∧ c.has[i]? = some (key a)
theorem is_iff {c : C} {k : Nat} : is c k = true ↔ ∃ i : Nat, i < c.has.length ∧ c.has[i]? = some (key k) := by
  unfold is
  rw [List.contains_iff_mem, List.mem_iff_getElem?]
  constructor
  · rintro ⟨i, h⟩
    exact ⟨i, (List.getElem?_eq_some_iff.1 h).1, h⟩
  · rintro ⟨i, _, h⟩
    exact ⟨i, h⟩
theorem isD_iff {c : C} {k n : Nat} : isD c k n = true ↔ n < c.has.length ∧ c.has[n]? = some (key k) := by
  unfold isD
  rw [Bool.and_eq_true, decide_eq_true_iff, beq_iff_eq]
  constructor
  · rintro ⟨h1, h2⟩
    refine ⟨h1, ?_⟩
    rw [List.getD_eq_getElem?_getD, List.getElem?_eq_getElem h1] at h2
    rw [List.getElem?_eq_getElem h1]
    exact congrArg some h2
  · rintro ⟨h1, h2⟩
    exact ⟨h1, by rw [List.getD_eq_getElem?_getD, h2]; rfl⟩
theorem low_next {c : C} {k n : Nat} (h : Low c k n) : Low c (k + 1) (if isD c k n then n + 1 else n) := by
  obtain ⟨h1, h2⟩ := h
  by_cases hd : isD c k n = true
  · rw [if_pos hd]
    obtain ⟨h3, h4⟩ := isD_iff.1 hd
    refine ⟨h3, fun i hi => ?_⟩
    by_cases e : i = n
    · exact ⟨k, by omega, by rw [e]; exact h4⟩
    · obtain ⟨a, ha, hx⟩ := h2 i (by omega)
      exact ⟨a, by omega, hx⟩
  · rw [if_neg hd]
    exact ⟨h1, fun i hi => by obtain ⟨a, ha, hx⟩ := h2 i hi; exact ⟨a, by omega, hx⟩⟩
/-- a key that is there but not at its place: the document's loop never comes to the end of the keys -/
theorem stuck {c : C} : ∀ (j n i k : Nat), k + j < 8 → n ≤ i → c.has[i]? = some (key k) → beK c j n = false
  | 0, n, i, k, hk, hn, hi => by
    have := (List.getElem?_eq_some_iff.1 hi).1
    rw [beK, beq_eq_false_iff_ne]
    omega
  | j + 1, n, i, k, hk, hn, hi => by
    have hne : ¬ (isD c (7 - j) n = true ∧ n = i) := by
      rintro ⟨h1, rfl⟩
      have h2 := (isD_iff.1 h1).2
      rw [hi] at h2
      injection h2 with h2
      have := key_inj _ _ (by omega) (by omega) h2
      omega
    rw [beK]
    have ih : beK c j (if isD c (7 - j) n then n + 1 else n) = false := by
      refine stuck j _ i k (by omega) ?_ hi
      by_cases h1 : isD c (7 - j) n = true
      · rw [if_pos h1]
        have : n ≠ i := fun e => hne ⟨h1, e⟩
        omega
      · rw [if_neg h1]
        exact hn
    rw [ih, Bool.and_false]
theorem may_be {c : C} : ∀ (j n : Nat), j ≤ 8 → Low c (8 - j) n → mayK c j n = beK c j n
  | 0, n, _, _ => rfl
  | j + 1, n, hj, hl => by
    have hk : 8 - (j + 1) = 7 - j := by omega
    rw [hk] at hl
    have hnext := low_next hl
    rw [mayK, beK]
    by_cases hd : isD c (7 - j) n = true
    · have h1 := isD_iff.1 hd
      have hi : is c (7 - j) = true := is_iff.2 ⟨n, h1⟩
      have ho : order c (7 - j) n = false := by
        unfold order
        have h2 : (c.has.getD n [] == key (7 - j)) = true := by
          rw [beq_iff_eq, List.getD_eq_getElem?_getD, h1.2]
          rfl
        have h3 : decide (c.has.length ≤ n) = false := decide_eq_false (by omega)
        rw [h2, h3]
        simp
      rw [hi, ho, hd]
      simp only [Bool.not_false, Bool.true_and, if_true]
      rw [hd] at hnext
      rw [may_be j (n + 1) (by omega) (by
        have : 8 - j = 7 - j + 1 := by omega
        rw [this]
        simpa using hnext)]
    · have hd' : isD c (7 - j) n = false := by simpa using hd
      rw [hd'] at hnext
      rw [hd', if_neg (show ¬ (false = true) by simp)]
      replace hnext : Low c (7 - j + 1) n := by simpa using hnext
      by_cases hi : is c (7 - j) = true
      · -- it is there, but not here: both say no
        obtain ⟨i, h1, h2⟩ := is_iff.1 hi
        have hin : n ≤ i := by
          refine Decidable.byContradiction fun hlt => ?_
          obtain ⟨a, ha, hx⟩ := hl.2 i (by omega)
          rw [hx] at h2
          injection h2 with h2
          have := key_inj _ _ (by omega) (by omega) h2
          omega
        have ho : order c (7 - j) n = true := by
          unfold order
          rw [hi, Bool.true_and, Bool.or_eq_true]
          by_cases hlen : c.has.length ≤ n
          · exact .inl (decide_eq_true hlen)
          · refine .inr ?_
            have hd2 := hd'
            unfold isD at hd2
            rw [decide_eq_true (by omega), Bool.true_and] at hd2
            rw [hd2]
            rfl
        rw [ho, stuck j n i (7 - j) (by omega) hin h2]
        simp
      · have hi' : is c (7 - j) = false := by simpa using hi
        have ho : order c (7 - j) n = false := by
          unfold order
          rw [hi', Bool.false_and]
        rw [hi', ho, if_neg (show ¬ (false = true) by simp)]
        simp only [Bool.not_false, Bool.true_and]
        rw [may_be j n (by omega) (by
          have : 8 - j = 7 - j + 1 := by omega
          rw [this]
          exact hnext)]
/-- the code's answer is the document's -/
theorem mayB_beB (c : C) : mayB c = beB c := may_be 8 0 (by omega) ⟨Nat.zero_le _, fun i hi => by omega⟩
/-- those of some texts, each once, that are not among others -/
def lackF (among : List Txt) : List Txt → List Txt → List Txt
  | out, [] => out
  | out, s :: r => lackF among (if !(among.contains s) && !(out.contains s) then out ++ [s] else out) r
theorem lackF_len (among : List Txt) : ∀ (l out : List Txt), (lackF among out l).length ≤ out.length + l.length
  | [], out => by rw [lackF]; simp
  | s :: r, out => by
    rw [lackF]
    split
    · have := lackF_len among r (out ++ [s])
      simp at this ⊢
      omega
    · have := lackF_len among r out
      simp at this ⊢
      omega
theorem lackF_take (among : List Txt) (l : List Txt) (k : Nat) (hk : k < l.length) : lackF among [] (l.take (k + 1)) = if !(among.contains l[k]) && !((lackF among [] (l.take k)).contains l[k]) then lackF among [] (l.take k) ++ [l[k]] else lackF among [] (l.take k) := by
  have gen : ∀ (l out : List Txt) (x : Txt), lackF among out (l ++ [x]) = if !(among.contains x) && !((lackF among out l).contains x) then lackF among out l ++ [x] else lackF among out l := by
    intro l
    induction l with
    | nil => intro out x; rfl
    | cons s r ih =>
      intro out x
      rw [List.cons_append, lackF, ih, lackF]
  rw [List.take_succ_eq_append_getElem hk, gen]
theorem rightL_drop (l : List Txt) (k : Nat) (hk : k < l.length) : rightL (l.take k) (l.drop k) = (rightR l[k] && !((l.take k).contains l[k]) && rightL (l.take (k + 1)) (l.drop (k + 1))) := by
  rw [List.drop_eq_getElem_cons hk, rightL, List.take_succ_eq_append_getElem hk]
/-! ### how claims are judged -/
structure Verd where
  kind : Nat
  time : Int
  text : Txt
  list : List Txt
/-- the greater one of from and at, and whether one is there -/
def startP (c : C) : Int × Bool :=
  if inB c.has (key 1) = true then (max (if inB c.has (key 4) = true then c.from_ else 0) c.at_, true) else if inB c.has (key 4) = true then (c.from_, true) else (0, false)
def needF (h : List Txt) : List Txt → Option Txt
  | [] => none
  | k :: r => if inB h k = true then needF h r else some k
theorem needF_drop {h l : List Txt} {k : Nat} (hk : k < l.length) : needF h (l.drop k) = if inB h l[k] = true then needF h (l.drop (k + 1)) else some l[k] := by
  rw [List.drop_eq_getElem_cons hk, needF]
def alienB (c : C) (r : R) : Bool := !r.by_.isEmpty && (!inB c.has (key 2) || !inB r.by_ c.by_)
def otherB (c : C) (r : R) : Bool := !r.who.isEmpty && (inB c.has (key 3) && !inB c.for_ r.who)
def earlyB (c : C) (r : R) : Bool := (startP c).2 && decide (r.now + r.slack < (startP c).1)
def overB (c : C) (r : R) : Bool := inB c.has (key 7) && decide (c.until_ + r.slack ≤ r.now)
def judge5 (c : C) (r : R) : Verd := if (lackF c.may_ [] r.may_).isEmpty = true then ⟨1, if inB c.has (key 7) = true then c.until_ else -1, [], []⟩ else ⟨7, 0, [], lackF c.may_ [] r.may_⟩
def judge4 (c : C) (r : R) : Verd := if overB c r = true then ⟨3, c.until_, [], []⟩ else judge5 c r
def judge3 (c : C) (r : R) : Verd := if earlyB c r = true then ⟨2, (startP c).1, [], []⟩ else judge4 c r
def judge2 (c : C) (r : R) : Verd := if otherB c r = true then ⟨6, 0, [], c.for_⟩ else judge3 c r
def judge1 (c : C) (r : R) : Verd := if alienB c r = true then ⟨5, 0, c.by_, []⟩ else judge2 c r
def judge0 (c : C) (r : R) : Verd := match needF c.has r.need with
  | some k => ⟨4, 0, k, []⟩
  | none => judge1 c r
def fit (c : C) (r : R) : Bool := mayB c && (isTime r.now && isTime r.slack)
def judgeP (c : C) (r : R) : Verd := if fit c r = true then judge0 c r else ⟨0, 0, [], []⟩
theorem mayK_valid {c : C} : ∀ (j n : Nat), j ≤ 8 → mayK c j n = true → ∀ k, 8 - j ≤ k → k < 8 → valid c (is c k) k = true
  | 0, n, _, _, k, h1, h2 => by omega
  | j + 1, n, hj, h, k, h1, h2 => by
    rw [mayK, Bool.and_eq_true, Bool.and_eq_true] at h
    by_cases e : k = 7 - j
    · rw [e]
      exact h.1.2
    · exact mayK_valid j _ (by omega) h.2 k (by omega) h2
theorem may_valid {c : C} (h : mayB c = true) {k : Nat} (hk : k < 8) : valid c (is c k) k = true := mayK_valid 8 0 (by omega) h k (by omega) hk
theorem isTime_iff {t : Int} : isTime t = true ↔ 0 ≤ t ∧ t ≤ 9007199254740991 := decide_eq_true_iff
theorem may_times {c : C} (h : mayB c = true) : isTime c.at_ = true ∧ isTime c.from_ = true ∧ isTime c.until_ = true := by
  have h1 := may_valid h (k := 1) (by decide)
  have h4 := may_valid h (k := 4) (by decide)
  have h7 := may_valid h (k := 7) (by decide)
  exact ⟨(Bool.and_eq_true_iff.1 h1).2, (Bool.and_eq_true_iff.1 h4).2, (Bool.and_eq_true_iff.1 h7).2⟩
end Cl
end Go.Proofs.YtbcckpnngonoeaaGreatDoor
