/-
  Plain law of layer 25: which claims may be, how they are judged: by the code's order of asking, and by the document's.
  Plain law: the index that a token says: by strconv.Atoi and strconv.Itoa, and by the document's reckoning. Plain law: pointers as lists of bytes: replaceAll as a scan, tokens, parsing, printing. No program here. Plain law: pointers there and back: what was read is printed as it stood; what was printed is read as it was; one begins another.
  Plain laws: right texts joined and cut. Walks of package pointer: Parse. Walks of the reference of layer 13: Parse. Walks of the statements' own functions of layer 13: texts. Walks of package pointer: quoted, Print. Walks of the statements' own functions of layer 13: wakes. Walks of the index that a token says: strconv.Atoi, strconv.Itoa, Index of package pointer, Index of the reference.
  Walks of package claims: has, right, lacking, isTime; slices of texts that are read.
-/
import Derived.Test.YtobaldkipnhlpaaGreatDoorS9
import Derived.Test.YtobaldkipnhlpaaGreatDoorS6
import Derived.Lib.AtoiAllCases
import Derived.Lib.ItoaMem
import Derived.Lib.Replace
import Derived.Lib.SmallJoins
import Derived.Deep.LoopGhost
import Derived.Laws.IdiomStrings
import Derived.Laws.BytesArg
import Derived.KernelRfl
import Derived.Lib.AppendIntMem
import Derived.Lib.AtoiErrMem
import Derived.Lib.LaidTab
set_option linter.unusedVariables false
set_option linter.unusedSimpArgs false
set_option maxRecDepth 100000
set_option maxHeartbeats 16000000
namespace Go.Proofs.YtobaldkipnhlpaaGreatDoor
open Go.RowKit Ref3
namespace Cl
abbrev Txt := List UInt8
structure C where
 has : List Txt
 about : Txt
 at_ : Int
 by_ : Txt
 for_ : List Txt
 from_ : Int
 id_ : Txt
 may_ : List Txt
 until_ : Int
structure R where
 now : Int
 slack : Int
 who : Txt
 by_ : List Txt
 need : List Txt
 may_ : List Txt
def key : Nat → Txt
 | 0 => [97, 98, 111, 117, 116]
 | 1 => [97, 116]
 | 2 => [98, 121]
 | 3 => [102, 111, 114]
 | 4 => [102, 114, 111, 109]
 | 5 => [105, 100]
 | 6 => [109, 97, 121]
 | _ => [117, 110, 116, 105, 108]
def rightL : List Txt → List Txt → Bool
 | _, [] => true
 | p, s :: r => rightR s && !(p.contains s) && rightL (p ++ [s]) r
def inB (l : List Txt) (t : Txt) : Bool := l.contains t
def isTime (t : Int) : Bool := decide (0 ≤ t ∧ t ≤ 9007199254740991)
def txt (is : Bool) (s : Txt) : Bool := (is || s.isEmpty) && rightR s
def tim (is : Bool) (t : Int) : Bool := (is || t == 0) && isTime t
def lst (is : Bool) (l : List Txt) : Bool := (is || l.isEmpty) && rightL [] l
def valid (c : C) (is : Bool) : Nat → Bool
 | 0 => txt is c.about
 | 1 => tim is c.at_
 | 2 => txt is c.by_
 | 3 => lst is c.for_
 | 4 => tim is c.from_
 | 5 => txt is c.id_
 | 6 => lst is c.may_
 | _ => tim is c.until_
def is (c : C) (k : Nat) : Bool := c.has.contains (key k)
def order (c : C) (k n : Nat) : Bool := is c k && (decide (c.has.length ≤ n) || !(c.has.getD n [] == key k))
def mayK (c : C) : Nat → Nat → Bool
 | 0, n => n == c.has.length
 | j + 1, n => !(order c (7 - j) n) && valid c (is c (7 - j)) (7 - j) && mayK c j (if is c (7 - j) then n + 1 else n)
def mayB (c : C) : Bool := mayK c 8 0
def isD (c : C) (k n : Nat) : Bool := decide (n < c.has.length) && (c.has.getD n [] == key k)
def beK (c : C) : Nat → Nat → Bool
 | 0, n => n == c.has.length
 | j + 1, n => valid c (isD c (7 - j) n) (7 - j) && beK c j (if isD c (7 - j) n then n + 1 else n)
def beB (c : C) : Bool := beK c 8 0
theorem key_inj : ∀ a b : Nat, a < 8 → b < 8 → key a = key b → a = b := by
 intro a b ha hb h
 have h8 : ∀ x : Nat, x < 8 → x = 0 ∨ x = 1 ∨ x = 2 ∨ x = 3 ∨ x = 4 ∨ x = 5 ∨ x = 6 ∨ x = 7 := by omega
 rcases h8 a ha with rfl | rfl | rfl | rfl | rfl | rfl | rfl | rfl <;> rcases h8 b hb with rfl | rfl | rfl | rfl | rfl | rfl | rfl | rfl <;> first | rfl | (exact absurd h (by decide))
def Low (c : C) (k n : Nat) : Prop := n ≤ c.has.length ∧ ∀ i, i < n → ∃ a, a < k ∧ c.has[i]? = some (key a)
theorem is_iff {c : C} {k : Nat} : is c k = true ↔ ∃ i : Nat, i < c.has.length ∧ c.has[i]? = some (key k) := by
 unfold is
 rw [List.contains_iff_mem, List.mem_iff_getElem?]
 constructor
 ·rintro ⟨i, h⟩
  exact ⟨i, (List.getElem?_eq_some_iff.1 h).1, h⟩
 ·rintro ⟨i, _, h⟩
  exact ⟨i, h⟩
theorem isD_iff {c : C} {k n : Nat} : isD c k n = true ↔ n < c.has.length ∧ c.has[n]? = some (key k) := by
 unfold isD
 rw [Bool.and_eq_true, decide_eq_true_iff, beq_iff_eq]
 constructor
 ·rintro ⟨h1, h2⟩
  refine ⟨h1, ?_⟩
  rw [List.getD_eq_getElem?_getD, List.getElem?_eq_getElem h1] at h2
  rw [List.getElem?_eq_getElem h1]
  exact congrArg some h2
 ·rintro ⟨h1, h2⟩
  exact ⟨h1, by rw [List.getD_eq_getElem?_getD, h2]; rfl⟩
theorem low_next {c : C} {k n : Nat} (h : Low c k n) : Low c (k + 1) (if isD c k n then n + 1 else n) := by
 obtain ⟨h1, h2⟩ := h
 by_cases hd : isD c k n = true
 ·rw [if_pos hd]
  obtain ⟨h3, h4⟩ := isD_iff.1 hd
  refine ⟨h3, fun i hi => ?_⟩
  by_cases e : i = n
  ·exact ⟨k, by omega, by rw [e]; exact h4⟩
  ·obtain ⟨a, ha, hx⟩ := h2 i (by omega)
   exact ⟨a, by omega, hx⟩
 ·rw [if_neg hd]
  exact ⟨h1, fun i hi => by obtain ⟨a, ha, hx⟩ := h2 i hi; exact ⟨a, by omega, hx⟩⟩
theorem stuck {c : C} : ∀ (j n i k : Nat), k + j < 8 → n ≤ i → c.has[i]? = some (key k) → beK c j n = false
 | 0, n, i, k, hk, hn, hi => by
  have := (List.getElem?_eq_some_iff.1 hi).1
  rw [beK, beq_eq_false_iff_ne]
  omega
 | j + 1, n, i, k, hk, hn, hi => by
  have hne : ¬ (isD c (7 - j) n = true ∧ n = i) := by
   rintro ⟨h1, rfl⟩
   have h2 := (isD_iff.1 h1).2
   rw [hi] at h2
   injection h2 with h2
   have := key_inj _ _ (by omega) (by omega) h2
   omega
  rw [beK]
  have ih : beK c j (if isD c (7 - j) n then n + 1 else n) = false := by
   refine stuck j _ i k (by omega) ?_ hi
   by_cases h1 : isD c (7 - j) n = true
   ·rw [if_pos h1]
    have : n ≠ i := fun e => hne ⟨h1, e⟩
    omega
   ·rw [if_neg h1]
    exact hn
  rw [ih, Bool.and_false]
theorem may_be {c : C} : ∀ (j n : Nat), j ≤ 8 → Low c (8 - j) n → mayK c j n = beK c j n
 | 0, n, _, _ => rfl
 | j + 1, n, hj, hl => by
  have hk : 8 - (j + 1) = 7 - j := by omega
  rw [hk] at hl
  have hnext := low_next hl
  rw [mayK, beK]
  by_cases hd : isD c (7 - j) n = true
  ·have h1 := isD_iff.1 hd
   have hi : is c (7 - j) = true := is_iff.2 ⟨n, h1⟩
   have ho : order c (7 - j) n = false := by
    unfold order
    have h2 : (c.has.getD n [] == key (7 - j)) = true := by
     rw [beq_iff_eq, List.getD_eq_getElem?_getD, h1.2]
     rfl
    have h3 : decide (c.has.length ≤ n) = false := decide_eq_false (by omega)
    rw [h2, h3]
    simp
   rw [hi, ho, hd]
   simp only [Bool.not_false, Bool.true_and, if_true]
   rw [hd] at hnext
   rw [may_be j (n + 1) (by omega) (by
    have : 8 - j = 7 - j + 1 := by omega
    rw [this]
    simpa using hnext)]
  ·have hd' : isD c (7 - j) n = false := by simpa using hd
   rw [hd'] at hnext
   rw [hd', if_neg (show ¬ (false = true) by simp)]
   replace hnext : Low c (7 - j + 1) n := by simpa using hnext
   by_cases hi : is c (7 - j) = true
   · -- it is there, but not here: both say no
    obtain ⟨i, h1, h2⟩ := is_iff.1 hi
    have hin : n ≤ i := by
     refine Decidable.byContradiction fun hlt => ?_
     obtain ⟨a, ha, hx⟩ := hl.2 i (by omega)
     rw [hx] at h2
     injection h2 with h2
     have := key_inj _ _ (by omega) (by omega) h2
     omega
    have ho : order c (7 - j) n = true := by
     unfold order
     rw [hi, Bool.true_and, Bool.or_eq_true]
     by_cases hlen : c.has.length ≤ n
     ·exact .inl (decide_eq_true hlen)
     ·refine .inr ?_
      have hd2 := hd'
      unfold isD at hd2
      rw [decide_eq_true (by omega), Bool.true_and] at hd2
      rw [hd2]
      rfl
    rw [ho, stuck j n i (7 - j) (by omega) hin h2]
    simp
   ·have hi' : is c (7 - j) = false := by simpa using hi
    have ho : order c (7 - j) n = false := by
     unfold order
     rw [hi', Bool.false_and]
    rw [hi', ho, if_neg (show ¬ (false = true) by simp)]
    simp only [Bool.not_false, Bool.true_and]
    rw [may_be j n (by omega) (by
     have : 8 - j = 7 - j + 1 := by omega
     rw [this]
     exact hnext)]
theorem mayB_beB (c : C) : mayB c = beB c := may_be 8 0 (by omega) ⟨Nat.zero_le _, fun i hi => by omega⟩
def lackF (among : List Txt) : List Txt → List Txt → List Txt
 | out, [] => out
 | out, s :: r => lackF among (if !(among.contains s) && !(out.contains s) then out ++ [s] else out) r
theorem lackF_len (among : List Txt) : ∀ (l out : List Txt), (lackF among out l).length ≤ out.length + l.length
 | [], out => by rw [lackF]; simp
 | s :: r, out => by
  rw [lackF]
  split
  ·have := lackF_len among r (out ++ [s])
   simp at this ⊢
   omega
  ·have := lackF_len among r out
   simp at this ⊢
   omega
theorem lackF_take (among : List Txt) (l : List Txt) (k : Nat) (hk : k < l.length) : lackF among [] (l.take (k + 1)) = if !(among.contains l[k]) && !((lackF among [] (l.take k)).contains l[k]) then lackF among [] (l.take k) ++ [l[k]] else lackF among [] (l.take k) := by
 have gen : ∀ (l out : List Txt) (x : Txt), lackF among out (l ++ [x]) = if !(among.contains x) && !((lackF among out l).contains x) then lackF among out l ++ [x] else lackF among out l := by
  intro l
  induction l with
  | nil => intro out x; rfl
  | cons s r ih =>
   intro out x
   rw [List.cons_append, lackF, ih, lackF]
 rw [List.take_succ_eq_append_getElem hk, gen]
theorem rightL_drop (l : List Txt) (k : Nat) (hk : k < l.length) : rightL (l.take k) (l.drop k) = (rightR l[k] && !((l.take k).contains l[k]) && rightL (l.take (k + 1)) (l.drop (k + 1))) := by
 rw [List.drop_eq_getElem_cons hk, rightL, List.take_succ_eq_append_getElem hk]
/-! ### how claims are judged -/
structure Verd where
 kind : Nat
 time : Int
 text : Txt
 list : List Txt
def startP (c : C) : Int × Bool :=
 if inB c.has (key 1) = true then (max (if inB c.has (key 4) = true then c.from_ else 0) c.at_, true) else if inB c.has (key 4) = true then (c.from_, true) else (0, false)
def needF (h : List Txt) : List Txt → Option Txt
 | [] => none
 | k :: r => if inB h k = true then needF h r else some k
theorem needF_drop {h l : List Txt} {k : Nat} (hk : k < l.length) : needF h (l.drop k) = if inB h l[k] = true then needF h (l.drop (k + 1)) else some l[k] := by
 rw [List.drop_eq_getElem_cons hk, needF]
def alienB (c : C) (r : R) : Bool := !r.by_.isEmpty && (!inB c.has (key 2) || !inB r.by_ c.by_)
def otherB (c : C) (r : R) : Bool := !r.who.isEmpty && (inB c.has (key 3) && !inB c.for_ r.who)
def earlyB (c : C) (r : R) : Bool := (startP c).2 && decide (r.now + r.slack < (startP c).1)
def overB (c : C) (r : R) : Bool := inB c.has (key 7) && decide (c.until_ + r.slack ≤ r.now)
def judge5 (c : C) (r : R) : Verd := if (lackF c.may_ [] r.may_).isEmpty = true then ⟨1, if inB c.has (key 7) = true then c.until_ else -1, [], []⟩ else ⟨7, 0, [], lackF c.may_ [] r.may_⟩
def judge4 (c : C) (r : R) : Verd := if overB c r = true then ⟨3, c.until_, [], []⟩ else judge5 c r
def judge3 (c : C) (r : R) : Verd := if earlyB c r = true then ⟨2, (startP c).1, [], []⟩ else judge4 c r
def judge2 (c : C) (r : R) : Verd := if otherB c r = true then ⟨6, 0, [], c.for_⟩ else judge3 c r
def judge1 (c : C) (r : R) : Verd := if alienB c r = true then ⟨5, 0, c.by_, []⟩ else judge2 c r
def judge0 (c : C) (r : R) : Verd := match needF c.has r.need with
 | some k => ⟨4, 0, k, []⟩
 | none => judge1 c r
def fit (c : C) (r : R) : Bool := mayB c && (isTime r.now && isTime r.slack)
def judgeP (c : C) (r : R) : Verd := if fit c r = true then judge0 c r else ⟨0, 0, [], []⟩
theorem mayK_valid {c : C} : ∀ (j n : Nat), j ≤ 8 → mayK c j n = true → ∀ k, 8 - j ≤ k → k < 8 → valid c (is c k) k = true
 | 0, n, _, _, k, h1, h2 => by omega
 | j + 1, n, hj, h, k, h1, h2 => by
  rw [mayK, Bool.and_eq_true, Bool.and_eq_true] at h
  by_cases e : k = 7 - j
  ·rw [e]
   exact h.1.2
  ·exact mayK_valid j _ (by omega) h.2 k (by omega) h2
theorem may_valid {c : C} (h : mayB c = true) {k : Nat} (hk : k < 8) : valid c (is c k) k = true := mayK_valid 8 0 (by omega) h k (by omega) hk
theorem isTime_iff {t : Int} : isTime t = true ↔ 0 ≤ t ∧ t ≤ 9007199254740991 := decide_eq_true_iff
theorem may_times {c : C} (h : mayB c = true) : isTime c.at_ = true ∧ isTime c.from_ = true ∧ isTime c.until_ = true := by
 have h1 := may_valid h (k := 1) (by decide)
 have h4 := may_valid h (k := 4) (by decide)
 have h7 := may_valid h (k := 7) (by decide)
 exact ⟨(Bool.and_eq_true_iff.1 h1).2, (Bool.and_eq_true_iff.1 h4).2, (Bool.and_eq_true_iff.1 h7).2⟩
end Cl
end Go.Proofs.YtobaldkipnhlpaaGreatDoor
namespace Go.Proofs.YtobaldkipnhlpaaGreatDoor
open Go Go.Lib
namespace Idx
def idxLoop : List UInt8 → Nat → Option Nat
 | [], x => some x
 | c :: r, x => if c.toNat < 48 ∨ 57 < c.toNat then none else if (9223372036854775807 - (c.toNat - 48)) / 10 < x then none else idxLoop r (10 * x + (c.toNat - 48))
def Lead (l : List UInt8) : Prop := l = [] ∨ (1 < l.length ∧ l.head? = some 48)
instance (l : List UInt8) : Decidable (Lead l) := by unfold Lead; infer_instance
def idxR (l : List UInt8) (n : Int) : Int := if Lead l then -1 else match idxLoop l 0 with
 | none => -1
 | some x => if n ≤ (x : Int) then -1 else (x : Int)
def idxC (l : List UInt8) (n : Int) : Option Int := match atoiAll l with
 | .ok v => if v < 0 ∨ n ≤ v ∨ ¬ itoa v = l then none else some v
 | _ => none
theorem idx_cons (c : UInt8) (r : List UInt8) (x : Nat) : idxLoop (c :: r) x = if c.toNat < 48 ∨ 57 < c.toNat then none else if (9223372036854775807 - (c.toNat - 48)) / 10 < x then none else idxLoop r (10 * x + (c.toNat - 48)) := by rw [idxLoop]
theorem idx_snoc : ∀ (p : List UInt8) (c : UInt8) (x : Nat), idxLoop (p ++ [c]) x = (idxLoop p x).bind fun y => idxLoop [c] y
 | [], c, x => rfl
 | d :: p, c, x => by
  rw [List.cons_append, idx_cons, idx_cons d p]
  split
  ·rfl
  ·split
   ·rfl
   ·exact idx_snoc p c _
theorem dec_big {u : Nat} (h : ¬ u < 10) : decDigits u = decDigits (u / 10) ++ [UInt8.ofNat (48 + u % 10)] := by rw [decDigits, dif_neg h]
theorem byte_toNat {n : Nat} (h : n < 256) : (UInt8.ofNat n).toNat = n := by
 simp [UInt8.toNat_ofNat']
 omega
theorem one_step {d x : Nat} (h : d < 10) (hx : 10 * x + d < 9223372036854775808) : idxLoop [UInt8.ofNat (48 + d)] x = some (10 * x + d) := by
 rw [idx_cons, byte_toNat (by omega), if_neg (by omega), if_neg (by omega), idxLoop]
 congr 2
 omega
theorem loop_dec (u : Nat) (hu : u < 9223372036854775808) : idxLoop (decDigits u) 0 = some u := by
 induction u using Nat.strongRecOn with
 | _ u ih =>
  by_cases h : u < 10
  ·rw [decDigits_one h, one_step h (by omega)]
   simp
  ·rw [dec_big h, idx_snoc, ih (u / 10) (by omega) (by omega)]
   show idxLoop _ (u / 10) = _
   rw [one_step (by omega) (by omega)]
   congr 1
   omega
theorem dec_head (u : Nat) : ∃ c r, decDigits u = c :: r ∧ (0 < u → c ≠ 48) := by
 induction u using Nat.strongRecOn with
 | _ u ih =>
  by_cases h : u < 10
  ·refine ⟨_, [], decDigits_one h, fun h0 e => ?_⟩
   have := congrArg UInt8.toNat e
   rw [byte_toNat (by omega)] at this
   have : (48 : UInt8).toNat = 48 := rfl
   omega
  ·obtain ⟨c, r, hc, hn⟩ := ih (u / 10) (by omega)
   exact ⟨c, r ++ [UInt8.ofNat (48 + u % 10)], by rw [dec_big h, hc]; rfl, fun _ => hn (by omega)⟩
theorem dec_lead (u : Nat) : ¬ Lead (decDigits u) := by
 obtain ⟨c, r, hc, hn⟩ := dec_head u
 rintro (h | ⟨h1, h2⟩)
 ·rw [hc] at h
  cases h
 ·by_cases h0 : u = 0
  ·subst h0
   rw [decDigits_one (by decide)] at h1
   simp at h1
  ·rw [hc] at h2
   injection h2 with h2
   exact hn (by omega) h2
theorem dec_ten {y d : Nat} (hy : 0 < y) (hd : d < 10) : decDigits (10 * y + d) = decDigits y ++ [UInt8.ofNat (48 + d)] := by
 rw [dec_big (by omega), show (10 * y + d) / 10 = y from by omega, show (10 * y + d) % 10 = d from by omega]
theorem digit_of {c : UInt8} {x y : Nat} (h : idxLoop [c] x = some y) : 48 ≤ c.toNat ∧ c.toNat ≤ 57 ∧ y = 10 * x + (c.toNat - 48) ∧ y < 9223372036854775808 := by
 rw [idx_cons] at h
 by_cases h1 : c.toNat < 48 ∨ 57 < c.toNat
 ·rw [if_pos h1] at h
  cases h
 ·rw [if_neg h1] at h
  by_cases h2 : (9223372036854775807 - (c.toNat - 48)) / 10 < x
  ·rw [if_pos h2] at h
   cases h
  ·rw [if_neg h2, idxLoop] at h
   injection h with h
   omega
theorem byte_of {c : UInt8} (h : 48 ≤ c.toNat) : UInt8.ofNat (48 + (c.toNat - 48)) = c := by
 rw [show 48 + (c.toNat - 48) = c.toNat from by omega]
 exact UInt8.toNat_inj.1 (byte_toNat c.toNat_lt)
theorem loop_inv : ∀ (N : Nat) (l : List UInt8) (x : Nat), l.length = N → ¬ Lead l → idxLoop l 0 = some x → decDigits x = l ∧ x < 9223372036854775808
 | 0, l, x, hN, hl, h => by
  obtain rfl : l = [] := List.eq_nil_of_length_eq_zero hN
  exact absurd (.inl rfl) hl
 | N + 1, l, x, hN, hl, h => by
  have hne : l ≠ [] := by
   rintro rfl
   cases hN
  have he := (List.dropLast_concat_getLast hne).symm
  generalize l.dropLast = p at he
  generalize l.getLast hne = c at he
  subst he
  rw [idx_snoc] at h
  cases hp : idxLoop p 0 with
  | none =>
   rw [hp] at h
   cases h
  | some y =>
   rw [hp] at h
   obtain ⟨h1, h2, h3, h4⟩ := digit_of (h : idxLoop [c] y = some x)
   by_cases hp0 : p = []
   ·subst hp0
    injection hp with hp
    subst hp
    refine ⟨?_, h4⟩
    rw [h3, decDigits_one (by omega)]
    simp [byte_of h1]
   ·have hlen : p.length = N := by simpa using hN
    have hlp : ¬ Lead p := by
     rintro (e | ⟨e1, e2⟩)
     ·exact hp0 e
     ·refine hl (.inr ⟨by simp; omega, ?_⟩)
      rw [List.head?_append, e2]
      rfl
    obtain ⟨i1, i2⟩ := loop_inv N p y hlen hlp hp
    have hy : 0 < y := by
     refine Nat.pos_of_ne_zero fun e => ?_
     subst e
     rw [decDigits_one (by decide)] at i1
     refine hl (.inr ⟨by rw [← i1]; simp, ?_⟩)
     rw [← i1]
     rfl
    rw [h3]
    exact ⟨by rw [dec_ten hy (by omega), i1, byte_of h1], by omega⟩
theorem parse_loop : ∀ (l : List UInt8) (x y : Nat), idxLoop l x = some y → y < 9223372036854775808 → parseUint10 x l = .ok y
 | [], x, y, h, _ => by
  injection h with h
  subst h
  rfl
 | c :: r, x, y, h, hy => by
  rw [idx_cons] at h
  by_cases h1 : c.toNat < 48 ∨ 57 < c.toNat
  ·rw [if_pos h1] at h
   cases h
  ·rw [if_neg h1] at h
   by_cases h2 : (9223372036854775807 - (c.toNat - 48)) / 10 < x
   ·rw [if_pos h2] at h
    cases h
   ·rw [if_neg h2] at h
    have ih := parse_loop r _ y h hy
    rw [parseUint10, if_pos (by omega), if_neg (by omega), if_neg (by omega), show x * 10 + (c.toNat - 48) = 10 * x + (c.toNat - 48) from by omega]
    exact ih
theorem atoi_dec (u : Nat) (hu : u < 9223372036854775808) : atoiAll (decDigits u) = .ok (u : Int) := by
 have h := loop_dec u hu
 have hp := parse_loop _ _ _ h hu
 obtain ⟨c, r, hc, _⟩ := dec_head u
 rw [hc] at h hp ⊢
 have hd : 48 ≤ c.toNat ∧ c.toNat ≤ 57 := by
  rw [idx_cons] at h
  by_cases h1 : c.toNat < 48 ∨ 57 < c.toNat
  ·rw [if_pos h1] at h
   cases h
  ·omega
 rw [atoiAll_plain c r (by omega) (by omega), parseMag, if_neg (by simp), hp, signless, if_neg (by omega)]
theorem idx_law (l : List UInt8) (n : Int) : idxC l n = if idxR l n < 0 then none else some (idxR l n) := by
 by_cases hx : ∃ x : Nat, ¬ Lead l ∧ idxLoop l 0 = some x ∧ ¬ n ≤ (x : Int)
 ·obtain ⟨x, h1, h2, h3⟩ := hx
  obtain ⟨h4, h5⟩ := loop_inv _ l x rfl h1 h2
  have hr : idxR l n = (x : Int) := by rw [idxR, if_neg h1, h2]; simp only []; rw [if_neg h3]
  rw [hr, if_neg (by omega), idxC, ← h4, atoi_dec x h5]
  simp only []
  rw [itoa_nonneg, if_neg]
  rintro (h | h | h)
  ·omega
  ·exact h3 h
  ·exact h rfl
 ·have hr : idxR l n = -1 := by
   unfold idxR
   by_cases h1 : Lead l
   ·rw [if_pos h1]
   ·rw [if_neg h1]
    cases h2 : idxLoop l 0 with
    | none => rfl
    | some x =>
     simp only []
     by_cases h3 : n ≤ (x : Int)
     ·rw [if_pos h3]
     ·exact absurd ⟨x, h1, h2, h3⟩ hx
  rw [hr, if_pos (by decide)]
  unfold idxC
  rcases ha : atoiAll l with v | _ | _
  rotate_left
  ·rfl
  ·rfl
  ·simp only []
   by_cases hv : v < 0 ∨ n ≤ v ∨ ¬ itoa v = l
   ·rw [if_pos hv]
   ·exfalso
    have hb := atoiAll_bounds ha
    have h0 : 0 ≤ v := by omega
    obtain ⟨u, rfl⟩ := Int.eq_ofNat_of_zero_le h0
    have hl : itoa (u : Int) = l := by
     refine Decidable.byContradiction fun e => hv (.inr (.inr e))
    rw [itoa_nonneg] at hl
    refine hx ⟨u, ?_, ?_, fun h => hv (.inr (.inl h))⟩
    ·rw [← hl]
     exact dec_lead u
    ·rw [← hl]
     exact loop_dec u (by omega)
end Idx
end Go.Proofs.YtobaldkipnhlpaaGreatDoor
namespace Go.Proofs.YtobaldkipnhlpaaGreatDoor
open Go Go.Lib
namespace Tok

/-! ### replaceAll, byte by byte -/
/-! ### printing -/
/-! ### parsing, as the document defines it -/
/-! ### a token -/
/-! ### reading a token -/
/-! ### parsing: one by one, and at once -/
def bulkS : List (List UInt8) → Nat
 | [] => 0
 | t :: r => t.length + 1 + bulkS r
end Tok
end Go.Proofs.YtobaldkipnhlpaaGreatDoor
namespace Go.Proofs.YtobaldkipnhlpaaGreatDoor
open Go Go.Lib
namespace Tok

/-! ### read, and printed -/
/-! ### printed, and read -/
/-! ### one within another -/
end Tok
end Go.Proofs.YtobaldkipnhlpaaGreatDoor
namespace Go.Proofs.YtobaldkipnhlpaaGreatDoor
open Go.RowKit Utf Ref3 UtfLaw Tok
namespace TokC
end TokC
end Go.Proofs.YtobaldkipnhlpaaGreatDoor
namespace Go.Proofs.YtobaldkipnhlpaaGreatDoor
open Go.RowKit Mem Utf Ref3 Tok

theorem info_str : (Tryz.prog.info? 9).map (fun i => (i.zero, i.size, i.bytes)) = some (some (.string ByteArray.empty), 1, 16) := by kernel_rfl
def strV (l : List UInt8) : Value := .string ⟨l.toArray⟩
namespace Tok
end Tok
end Go.Proofs.YtobaldkipnhlpaaGreatDoor
namespace Go.Proofs.YtobaldkipnhlpaaGreatDoor
open Go.RowKit Mem Utf Ref3 Tok

theorem one_newP (w : World) (t : TypeId) (v : Value) : ∀ j u, [v][j]? = some u → (w.alloc (.cells #[v] t)).cell? ((⟨w.heap.size, 0, none⟩ : Addr).add j) = some u := by
 intro j u hj
 match j, hj with
 | 0, hj =>
  injection hj with hj
  subst hj
  exact Blk.cell (Blk.new w t #[v]) 0
 | j + 1, hj => cases hj
theorem one_cellP (v : Value) (h : v.oneCell' = true) : ∀ u ∈ [v], u.oneCell' = true := by
 intro u hu
 rw [List.mem_singleton] at hu
 rw [hu]
 exact h
theorem own_sliceP {w : World} {base size n : Nat} {e : TypeId} {v : Value} {xs : List Value} (h : w.ownsRow base e size v n xs) : ∃ A c, v = .slice A n c := by
 rcases Joins.ownsRow_forms h with ⟨rfl, rfl⟩ | ⟨g, cap, rfl, _⟩
 ·exact ⟨none, 0, rfl⟩
 ·exact ⟨_, _, rfl⟩
namespace Tok
end Tok
end Go.Proofs.YtobaldkipnhlpaaGreatDoor
namespace Go.Proofs.YtobaldkipnhlpaaGreatDoor
open Go.RowKit Mem Utf Ref3 Tok

def Rd (w : World) (v : Value) (xs : List (List UInt8)) : Prop :=
 ∃ A c, v = .slice A xs.length c ∧ ∀ j (h : j < xs.length), ∃ g o, A = some ⟨g, o, none⟩ ∧ g < w.heap.size ∧ w.cell? ⟨g, o + j, none⟩ = some (strV xs[j])
theorem Rd.of_own {w : World} {base : Nat} {e : TypeId} {v : Value} {xs : List (List UInt8)} (h : w.ownsRow base e 1 v xs.length (xs.map strV)) : Rd w v xs := by
 rcases Joins.ownsRow_forms h with ⟨rfl, h0⟩ | ⟨g, cap, rfl, hlt⟩
 ·refine ⟨none, 0, by rw [h0], fun j hj => by omega⟩
 ·refine ⟨_, _, rfl, fun j hj => ⟨g, 0, rfl, (h.lt g rfl).2, ?_⟩⟩
  have := h.cellAt j (by omega)
  rw [Nat.zero_add, this, List.getElem?_map, List.getElem?_eq_getElem hj]
  rfl
theorem Rd.below {w w' : World} {v : Value} {xs : List (List UInt8)} (h : Rd w v xs) (hb : Below w.heap.size w w') : Rd w' v xs := by
 obtain ⟨A, c, rfl, hc⟩ := h
 refine ⟨A, c, rfl, fun j hj => ?_⟩
 obtain ⟨g, o, rfl, hl, hcell⟩ := hc j hj
 exact ⟨g, o, rfl, Nat.lt_of_lt_of_le hl hb.size, (hb.cell (by exact hl)).trans hcell⟩

end Go.Proofs.YtobaldkipnhlpaaGreatDoor
namespace Go.Proofs.YtobaldkipnhlpaaGreatDoor
open Go.RowKit Mem Utf Ref3 Tok

theorem right_wrong (l : List UInt8) : isNil (chkV l) = decide ((wrong l).1 = 0) := by
 rw [UtfLaw.chk_wrong]
 by_cases h : (wrong l).1 = 0
 ·rw [if_pos h, decide_eq_true h]; rfl
 ·rw [if_neg h, decide_eq_false h]; rfl

end Go.Proofs.YtobaldkipnhlpaaGreatDoor
namespace Go.Proofs.YtobaldkipnhlpaaGreatDoor
open Go.RowKit Mem Utf Ref3 Tok

end Go.Proofs.YtobaldkipnhlpaaGreatDoor
namespace Go.Proofs.YtobaldkipnhlpaaGreatDoor
open Go.RowKit Mem Utf Ref3 Tok Idx

theorem gPow : Tryz.prog.globalNamed "internal/strconv.uint64pow10" = some 1 := by kernel_rfl
end Go.Proofs.YtobaldkipnhlpaaGreatDoor
namespace Go.Proofs.YtobaldkipnhlpaaGreatDoor
open Go.RowKit Mem Utf Ref3 Tok Cl

def bts (l : List Txt) : List ByteArray := l.map fun t => ⟨t.toArray⟩
theorem bts_len (l : List Txt) : (bts l).length = l.length := List.length_map _
theorem rd_cells {w : World} {b off c : Nat} {l : List Txt} (h : Rd w (.slice (some ⟨b, off, none⟩) l.length c) l) : ∀ j, j < (bts l).length → w.cell? ⟨b, off + j, none⟩ = some (.string ((bts l).getD j ByteArray.empty)) := by
 intro j hj
 rw [bts_len] at hj
 obtain ⟨A, c', e, hc⟩ := h
 injection e with e1 _ _
 subst e1
 obtain ⟨g, o, e2, _, hcell⟩ := hc j hj
 injection e2 with e2
 injection e2 with e3 e4
 subst e3; subst e4
 rw [hcell]
 unfold bts
 rw [List.getD_eq_getElem?_getD, List.getElem?_map, List.getElem?_eq_getElem hj]
 rfl
theorem rd_forms {w : World} {v : Value} {l : List Txt} (h : Rd w v l) : (l = [] ∧ ∃ A c, v = .slice A 0 c) ∨ ∃ b off c, v = .slice (some ⟨b, off, none⟩) l.length c ∧ Rd w (.slice (some ⟨b, off, none⟩) l.length c) l := by
 obtain ⟨A, c, rfl, hc⟩ := h
 cases l with
 | nil => exact .inl ⟨rfl, A, c, rfl⟩
 | cons t l =>
  obtain ⟨g, o, rfl, hg, hcell⟩ := hc 0 (by simp)
  exact .inr ⟨g, o, c, rfl, _, _, rfl, hc⟩
theorem bts_contains (l : List Txt) (t : Txt) : Lib.containsS (bts l) ⟨t.toArray⟩ = l.contains t := by
 rw [Bool.eq_iff_iff, Lib.containsS_iff, List.contains_iff_mem]
 unfold bts
 rw [List.mem_map]
 constructor
 ·rintro ⟨x, hx, e⟩
  have : x = t := by
   have := congrArg (fun b : ByteArray => b.data.toList) e
   simpa using this
  exact this ▸ hx
 ·exact fun h => ⟨t, h, rfl⟩
theorem contains_any (v : Value) (l : List Txt) (t : Txt) (w : World) (h : Rd w v l) (hl : l.length ≤ 1099511627776) :
  Calls Tryz.prog 72 #[v, .string ⟨t.toArray⟩] w fun e w' => e = .returned (.bool (inB l t)) ∧ w = w' := by
 rcases rd_forms h with ⟨rfl, A, c, rfl⟩ | ⟨b, off, c, rfl, h⟩
 ·refine (Tryz.slices_Contains_string_empty A c _ w).mono ?_
  rintro e w' ⟨rfl, rfl⟩
  exact ⟨rfl, rfl⟩
 ·refine (Tryz.slices_Contains_string b off l.length c (bts l) _ w (by rw [bts_len]; exact Nat.le_refl _) (by omega) (rd_cells h)).mono ?_
  rintro e w' ⟨rfl, rfl⟩
  rw [List.take_of_length_le (by rw [bts_len]; exact Nat.le_refl _), bts_contains]
  exact ⟨rfl, rfl⟩
def idxT (l : List Txt) (t : Txt) : Int := Lib.idxOfS (bts l) ⟨t.toArray⟩
theorem slicesIndex_any (v : Value) (l : List Txt) (t : Txt) (w : World) (h : Rd w v l) (hl : l.length ≤ 1099511627776) :
  Calls Tryz.prog 98 #[v, .string ⟨t.toArray⟩] w fun e w' => e = .returned (.int .i64 (idxT l t)) ∧ w = w' := by
 rcases rd_forms h with ⟨rfl, A, c, rfl⟩ | ⟨b, off, c, rfl, h⟩
 ·refine (Tryz.slices_Index_string_empty A c _ w).mono ?_
  rintro e w' ⟨rfl, rfl⟩
  exact ⟨rfl, rfl⟩
 ·refine (Tryz.slices_Index_string b off l.length c (bts l) _ w (by rw [bts_len]; exact Nat.le_refl _) (by omega) (rd_cells h)).mono ?_
  rintro e w' ⟨rfl, rfl⟩
  rw [List.take_of_length_le (by rw [bts_len]; exact Nat.le_refl _)]
  exact ⟨rfl, rfl⟩
theorem bts_eq {a t : Txt} : (ByteArray.mk a.toArray = ByteArray.mk t.toArray) ↔ a = t := by
 constructor
 ·intro e
  have := congrArg (fun b : ByteArray => b.data.toList) e
  simpa using this
 ·rintro rfl
  rfl
theorem idxFrom_law : ∀ (l : List Txt) (t : Txt) (i k : Nat) (hk : k < l.length), l[k] = t →
  (Lib.idxFromS (bts l) ⟨t.toArray⟩ i ≤ (i : Int) + k ∧ (Lib.idxFromS (bts l) ⟨t.toArray⟩ i < (i : Int) + k ↔ (l.take k).contains t = true))
 | [], _, _, k, hk, _ => by cases hk
 | a :: r, t, i, k, hk, he => by
  have hdef : Lib.idxFromS (bts (a :: r)) ⟨t.toArray⟩ i = if a = t then (i : Int) else Lib.idxFromS (bts r) ⟨t.toArray⟩ (i + 1) := by
   show Lib.idxFromS (⟨a.toArray⟩ :: bts r) ⟨t.toArray⟩ i = _
   rw [Lib.idxFromS]
   by_cases h : a = t
   ·rw [if_pos h, if_pos (bts_eq.2 h)]
   ·rw [if_neg h, if_neg fun hh => h (bts_eq.1 hh)]
  rw [hdef]
  by_cases h : a = t
  ·rw [if_pos h]
   cases k with
   | zero => simp
   | succ k =>
    refine ⟨by omega, fun _ => ?_, fun _ => by omega⟩
    rw [List.take_succ_cons, h]
    simp
  ·rw [if_neg h]
   cases k with
   | zero => exact absurd he h
   | succ k =>
    obtain ⟨h1, h2⟩ := idxFrom_law r t (i + 1) k (by simpa using hk) (by simpa using he)
    refine ⟨by omega, ?_⟩
    rw [List.take_succ_cons, List.contains_cons, show ((t == a) || (r.take k).contains t) = (r.take k).contains t from by rw [show (t == a) = false from by simpa using fun e => h e.symm]; rfl, ← h2]
    constructor
    ·intro h3; omega
    ·intro h3; omega
theorem idxT_law {l : List Txt} {k : Nat} (hk : k < l.length) : (idxT l l[k] < (k : Int)) ↔ (l.take k).contains l[k] = true := by
 have := (idxFrom_law l l[k] 0 k hk rfl).2
 simpa [idxT, Lib.idxOfS] using this

theorem isTime_any (t : Int) (w : World) : Calls Tryz.prog 70 #[.int .i64 t] w fun e w' => e = .returned (.bool (Cl.isTime t)) ∧ w = w' := by
 unfold Cl.isTime
 by_cases h : 0 ≤ t
 ·by_cases h2 : t ≤ 9007199254740991
  ·rw [decide_eq_true ⟨h, h2⟩]
   go_enter Tryz.func70, Tryz.ntmps70
   go_wp2
   go_ret
   exact ⟨rfl, rfl⟩
  ·rw [decide_eq_false fun x => h2 x.2]
   go_enter Tryz.func70, Tryz.ntmps70
   go_wp2
   go_ret
   exact ⟨rfl, rfl⟩
 ·rw [decide_eq_false fun x => h x.1]
  go_enter Tryz.func70, Tryz.ntmps70
  go_wp2
  go_ret
  exact ⟨rfl, rfl⟩

structure ClAt (w : World) (c : C) (v1 v2 v3 : Value) : Prop where
 has : Rd w v1 c.has
 for_ : Rd w v2 c.for_
 may : Rd w v3 c.may_
 nhas : c.has.length ≤ 1099511627776
 nfor : c.for_.length ≤ 1099511627776
 nmay : c.may_.length ≤ 1099511627776
 tabout : c.about.length ≤ 140737488355328
 tby : c.by_.length ≤ 140737488355328
 tid : c.id_.length ≤ 140737488355328
 efor : ∀ t ∈ c.for_, t.length ≤ 140737488355328
 emay : ∀ t ∈ c.may_, t.length ≤ 140737488355328
 cfor : ∀ A n, v2 = .slice A c.for_.length n → c.for_.length ≤ n ∧ n ≤ 9223372036854775807
 cmay : ∀ A n, v3 = .slice A c.may_.length n → c.may_.length ≤ n ∧ n ≤ 9223372036854775807
theorem ClAt.below {w w' : World} {c : C} {v1 v2 v3 : Value} (h : ClAt w c v1 v2 v3) (hb : Below w.heap.size w w') : ClAt w' c v1 v2 v3 :=
 ⟨h.has.below hb, h.for_.below hb, h.may.below hb, h.nhas, h.nfor, h.nmay, h.tabout, h.tby, h.tid, h.efor, h.emay, h.cfor, h.cmay⟩
theorem has_any (c : C) (v1 v2 v3 : Value) (t : Txt) (w : World) (h : ClAt w c v1 v2 v3) :
  Calls Tryz.prog 71 #[.agg #[v1, .string ⟨c.about.toArray⟩, .int .i64 c.at_, .string ⟨c.by_.toArray⟩, v2, .int .i64 c.from_, .string ⟨c.id_.toArray⟩, v3, .int .i64 c.until_], .string ⟨t.toArray⟩] w fun e w' => e = .returned (.bool (inB c.has t)) ∧ Below w.heap.size w w' := by
 have hb : ∀ cs, Below w.heap.size w (w.alloc (.cells cs 38)) := fun cs => (Below.refl _ _).alloc (Nat.le_refl _) _
 go_enter Tryz.func71, Tryz.ntmps71
 go_wp2_with fail
 refine (contains_any v1 c.has t _ (h.has.below (hb _)) h.nhas).mono ?_
 rintro e w' ⟨rfl, rfl⟩
 go_wp2
 go_ret
 exact ⟨rfl, hb _⟩
theorem rightL_any (v : Value) (l : List Txt) (w : World) (h : Rd w v l) (hl : l.length ≤ 1099511627776) (hs : ∀ t ∈ l, t.length ≤ 140737488355328) :
  Calls Tryz.prog 104 #[v] w fun e w' => e = .returned (.bool (rightL [] l)) ∧ Below w.heap.size w w' := by
 obtain ⟨A, c, rfl, hA⟩ := h
 have h : Rd w (.slice A l.length c) l := ⟨A, c, rfl, hA⟩
 clear hA
 go_enter Tryz.func104, Tryz.ntmps104
 go_wp2
 go_loopw [7] (fun c7 wr => ∃ k : Nat, k ≤ l.length ∧ c7 = .int .i64 k ∧ Hid (rightL (l.take k) (l.drop k) = rightL [] l) ∧ Below w.heap.size w wr) (fun c7 _ => l.length - (intOf c7).toNat)
 case atStart => exact ⟨0, by omega, rfl, Lib.hid rfl, Below.refl _ _⟩
 case round =>
  obtain ⟨k, hk, rfl, H, hbw⟩ := hrel
  by_cases hlt : k < l.length
  ·have hst := rightL_drop l k hlt
   rw [H.out] at hst
   have hsl := hs l[k] (List.getElem_mem hlt)
   have hix := idxT_law hlt
   have hr2 := h.below hbw
   obtain ⟨A', c', hAc, hcell⟩ := h.below hbw
   injection hAc with hA1 _ hc1
   subst hA1; subst hc1
   obtain ⟨g, o, rfl, hgl, hcell⟩ := hcell k hlt
   have hc2 : wr.cell? ⟨g, o + k, none⟩ = some (.string ⟨l[k].toArray⟩) := hcell
   have hi0 : (0 : Int) ≤ (k : Int) := by omega
   have hi1 : (k : Int) < (l.length : Int) := by omega
   have Hst := Lib.hid hst
   have Hix := Lib.hid hix
   clear hcell hst hix
   generalize l[k] = t at *
   go_wp2_with fail
   refine (right_any ⟨t.toArray⟩ _ hsl).mono ?_
   rintro e w1 ⟨rfl, hb1⟩
   replace hb1 := hb1.toBelow
   have hbw1 := below_chain hbw hbw.size hb1
   rw [show (ByteArray.mk t.toArray).data.toList = t from rfl, right_wrong]
   by_cases hr : (wrong t).1 = 0
   ·have hR : rightR t = true := decide_eq_true hr
    rw [decide_eq_true hr]
    clear hr hc2
    go_wp2_with fail
    refine (slicesIndex_any _ l t _ (hr2.below hb1) hl).mono ?_
    rintro e w2 ⟨rfl, rfl⟩
    by_cases hi : idxT l t < (k : Int)
    ·have HF : Hid (rightL [] l = false) := Lib.hid (by rw [Hst.out, Hix.out.1 hi]; simp)
     go_wp2
     go_ret
     exact ⟨by rw [HF.out]; rfl, hbw1⟩
    ·have HF : Hid (rightL (l.take (k + 1)) (l.drop (k + 1)) = rightL [] l) := Lib.hid (by
      rw [Hst.out, hR]
      have : (l.take k).contains t = false := by
       rw [Bool.eq_false_iff]
       exact fun hh => hi (Hix.out.2 hh)
      rw [this]
      simp)
     go_wp2
     go_roundw
     case rel => exact ⟨k + 1, by omega, by go_num, HF, hbw1⟩
     case measure => simp [intOf]; omega
   ·have HF : Hid (rightL [] l = false) := Lib.hid (by rw [Hst.out, rightR, decide_eq_false hr]; simp)
    rw [decide_eq_false hr]
    clear hr hc2
    go_wp2
    go_ret
    exact ⟨by rw [HF.out]; rfl, hbw1⟩
  ·obtain rfl : k = l.length := by omega
   have HF : Hid (rightL [] l = true) := Lib.hid (by rw [← H.out, List.drop_length]; rfl)
   go_wp2
   go_ret
   exact ⟨by rw [HF.out]; rfl, hbw⟩
end Go.Proofs.YtobaldkipnhlpaaGreatDoor
