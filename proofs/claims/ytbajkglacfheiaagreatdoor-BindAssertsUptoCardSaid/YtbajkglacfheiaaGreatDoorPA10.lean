/-
  Plain law: the index that a token says: by strconv.Atoi and strconv.Itoa, and by the document's reckoning. Plain law: pointers as lists of bytes: replaceAll as a scan, tokens, parsing, printing. No program here. Plain law: pointers there and back: what was read is printed as it stood; what was printed is read as it was; one begins another.
-/
import Derived.Lib.AtoiAllCases
import Derived.Lib.ItoaMem
import Derived.Lib.Replace
import Derived.Lib.SmallJoins
set_option linter.unusedVariables false
set_option linter.unusedSimpArgs false
set_option maxRecDepth 100000
set_option maxHeartbeats 16000000
namespace Go.Proofs.YtbajkglacfheiaaGreatDoor
open Go Go.Lib
namespace Idx
def idxLoop : List UInt8 → Nat → Option Nat
 | [], x => some x
 | c :: r, x => if c.toNat < 48 ∨ 57 < c.toNat then none else if (9223372036854775807 - (c.toNat - 48)) / 10 < x then none else idxLoop r (10 * x + (c.toNat - 48))
def Lead (l : List UInt8) : Prop := l = [] ∨ (1 < l.length ∧ l.head? = some 48)
instance (l : List UInt8) : Decidable (Lead l) := by unfold Lead; infer_instance
def idxC (l : List UInt8) (n : Int) : Option Int := match atoiAll l with
 | .ok v => if v < 0 ∨ n ≤ v ∨ ¬ itoa v = l then none else some v
 | _ => none
end Idx
end Go.Proofs.YtbajkglacfheiaaGreatDoor
namespace Go.Proofs.YtbajkglacfheiaaGreatDoor
open Go Go.Lib
namespace Tok

/-! ### replaceAll, byte by byte -/
theorem ra_of_ne {s old new : List UInt8} (h : old ≠ new) : replaceAll s old new = replaceK old new (count s old) s := by
 unfold replaceAll replace replaceNum
 rw [if_neg (by simpa using h), if_pos (.inl (by decide))]
theorem replaceK_miss {old new s : List UInt8} (k : Nat) (h : index s old = -1) : replaceK old new k s = s := by
 cases k with
 | zero => rfl
 | succ k => rw [replaceK, if_pos (by simpa using h)]
theorem ra_nil {old new : List UInt8} (h : old ≠ new) (h0 : old ≠ []) : replaceAll [] old new = [] := by
 rw [ra_of_ne h]
 exact replaceK_miss _ (by cases old with | nil => exact absurd rfl h0 | cons a t => rfl)
theorem ra_hit {old new : List UInt8} (h : old ≠ new) (h0 : old ≠ []) (b : UInt8) (l : List UInt8) (hp : old.isPrefixOf (b :: l) = true) :
  replaceAll (b :: l) old new = new ++ replaceAll ((b :: l).drop old.length) old new := by
 have hix : index (b :: l) old = ((0 : Nat) : Int) := by rw [index, if_pos hp]; rfl
 rw [ra_of_ne h, ra_of_ne h, count_hit h0 hix, Nat.add_comm 1, replaceK_hit _ _ _ _ _ hix, Nat.zero_add]
 simp
theorem ra_pass {old new : List UInt8} (h : old ≠ new) (h0 : old ≠ []) (b : UInt8) (l : List UInt8) (hp : old.isPrefixOf (b :: l) = false) :
  replaceAll (b :: l) old new = b :: replaceAll l old new := by
 have hix : index (b :: l) old = if index l old == -1 then -1 else index l old + 1 := by rw [index, hp]; rfl
 have hge := index_ge l old
 rw [ra_of_ne h, ra_of_ne h]
 by_cases hm : index l old = -1
 ·rw [replaceK_miss _ hm, replaceK_miss]
  rw [hix, hm]
  rfl
 ·obtain ⟨i, hi⟩ : ∃ i : Nat, index l old = i := ⟨(index l old).toNat, by omega⟩
  have hi1 : index (b :: l) old = ((i + 1 : Nat) : Int) := by
   rw [hix, hi, if_neg (by simp)]
   rfl
  rw [count_hit h0 hi1, count_hit h0 hi, Nat.add_comm 1, Nat.add_comm 1, replaceK_hit _ _ _ _ _ hi1, replaceK_hit _ _ _ _ _ hi,
   show i + 1 + old.length = (i + old.length) + 1 from by omega, List.drop_succ_cons, List.take_succ_cons]
  rfl

/-! ### printing -/
def esc (c : UInt8) : List UInt8 := if c = 126 then [126, 48] else if c = 47 then [126, 49] else [c]
def piece (t : List UInt8) : List UInt8 := 47 :: t.flatMap esc
def printS (ts : List (List UInt8)) : List UInt8 := ts.flatMap piece
def quotedP (t : List UInt8) : List UInt8 := 47 :: replaceAll (replaceAll t [126] [126, 48]) [47] [126, 49]
theorem pre_one (c b : UInt8) (l : List UInt8) : ([c] : List UInt8).isPrefixOf (b :: l) = decide (c = b) := by
 simp [List.isPrefixOf]
 rfl
theorem ra_tilde : ∀ t : List UInt8, replaceAll t [126] [126, 48] = t.flatMap fun c => if c = 126 then [126, 48] else [c]
 | [] => ra_nil (by decide) (by decide)
 | b :: l => by
  by_cases h : b = 126
  ·subst h
   rw [ra_hit (by decide) (by decide) _ _ (by rw [pre_one]; decide)]
   simp [ra_tilde l]
  ·rw [ra_pass (by decide) (by decide) _ _ (by rw [pre_one]; simpa using fun e => h e.symm), ra_tilde l]
   simp [h]
theorem ra_slash : ∀ t : List UInt8, replaceAll t [47] [126, 49] = t.flatMap fun c => if c = 47 then [126, 49] else [c]
 | [] => ra_nil (by decide) (by decide)
 | b :: l => by
  by_cases h : b = 47
  ·subst h
   rw [ra_hit (by decide) (by decide) _ _ (by rw [pre_one]; decide)]
   simp [ra_slash l]
  ·rw [ra_pass (by decide) (by decide) _ _ (by rw [pre_one]; simpa using fun e => h e.symm), ra_slash l]
   simp [h]
theorem quoted_piece (t : List UInt8) : quotedP t = piece t := by
 unfold quotedP piece
 rw [ra_tilde, ra_slash, List.flatMap_assoc]
 congr 2
 funext c
 unfold esc
 by_cases h : c = 126
 ·subst h; rfl
 ·by_cases h' : c = 47
  ·subst h'; rfl
  ·simp [h, h']

/-! ### parsing, as the document defines it -/
def run (toks : List (List UInt8)) (cur : Option (List UInt8)) : List UInt8 → Nat → Except Nat (List (List UInt8))
 | [], _ => .ok (match cur with | none => toks | some b => toks ++ [b])
 | c :: t, i => match cur with
  | none => if c = 47 then run toks (some []) t (i + 1) else .error i
  | some b => if c = 47 then run (toks ++ [b]) (some []) t (i + 1) else if c = 126 then match t with
    | [] => .error (i + 1)
    | x :: t' => if x = 48 then run toks (some (b ++ [126])) t' (i + 2) else if x = 49 then run toks (some (b ++ [47])) t' (i + 2) else .error (i + 1)
   else run toks (some (b ++ [c])) t (i + 1)

theorem run_eq (toks : List (List UInt8)) (b : List UInt8) (c : UInt8) (t : List UInt8) (i : Nat) :
  run toks (some b) (c :: t) i = if c = 47 then run (toks ++ [b]) (some []) t (i + 1) else if c = 126 then (match t with
    | [] => .error (i + 1)
    | x :: t' => if x = 48 then run toks (some (b ++ [126])) t' (i + 2) else if x = 49 then run toks (some (b ++ [47])) t' (i + 2) else .error (i + 1))
   else run toks (some (b ++ [c])) t (i + 1) := by cases t <;> rfl
theorem run_end (toks : List (List UInt8)) (cur : Option (List UInt8)) (i : Nat) : run toks cur [] i = .ok (match cur with | none => toks | some b => toks ++ [b]) := rfl
theorem run_none (toks : List (List UInt8)) (c : UInt8) (t : List UInt8) (i : Nat) : run toks none (c :: t) i = if c = 47 then run toks (some []) t (i + 1) else .error i := by cases t <;> rfl

def unesc : List UInt8 → List UInt8
 | [] => []
 | c :: t => if c = 126 then match t with
   | [] => [126]
   | x :: t' => if x = 48 then 126 :: unesc t' else if x = 49 then 47 :: unesc t' else 126 :: unesc (x :: t')
  else c :: unesc t
def badT : List UInt8 → Nat → Option Nat
 | [], _ => none
 | c :: t, i => if c = 126 then match t with
   | [] => some (i + 1)
   | x :: _ => if x = 48 ∨ x = 49 then badT t (i + 1) else some (i + 1)
  else badT t (i + 1)
theorem unesc_eq (c : UInt8) (t : List UInt8) : unesc (c :: t) = if c = 126 then (match t with
   | [] => [126]
   | x :: t' => if x = 48 then 126 :: unesc t' else if x = 49 then 47 :: unesc t' else 126 :: unesc (x :: t'))
  else c :: unesc t := by cases t <;> rfl
theorem badT_eq (c : UInt8) (t : List UInt8) (i : Nat) : badT (c :: t) i = if c = 126 then (match t with
   | [] => some (i + 1)
   | x :: _ => if x = 48 ∨ x = 49 then badT t (i + 1) else some (i + 1))
  else badT t (i + 1) := by cases t <;> rfl
theorem badT_two (x : UInt8) (t : List UInt8) (i : Nat) : badT (126 :: x :: t) i = if x = 48 ∨ x = 49 then badT (x :: t) (i + 1) else some (i + 1) := by
 rw [badT_eq, if_pos rfl]
def token (l : List UInt8) : List UInt8 := (cut l [47]).1
def unescP (t : List UInt8) : List UInt8 := replaceAll (replaceAll t [126, 49] [47]) [126, 48] [126]
def splitF : Nat → List UInt8 → List (List UInt8)
 | 0, _ => []
 | f + 1, l => match l with
  | [] => []
  | _ :: t => unescP (token t) :: splitF f (t.drop (token t).length)

/-! ### a token -/
theorem token_nil : token [] = [] := by decide
theorem token_cons (c : UInt8) (l : List UInt8) : token (c :: l) = if c = 47 then [] else c :: token l := by
 have hix : index (c :: l) [47] = if ([47] : List UInt8).isPrefixOf (c :: l) then 0 else if index l [47] == -1 then -1 else index l [47] + 1 := rfl
 rw [pre_one] at hix
 have hge := index_ge l [47]
 unfold token cut
 by_cases h : c = 47
 ·subst h
  rw [if_pos rfl, hix]
  simp
 ·have h' : ¬ (47 : UInt8) = c := fun e => h e.symm
  rw [decide_eq_false h'] at hix
  by_cases hm : index l [47] = -1
  ·rw [hix, hm]
   simp [h]
  ·obtain ⟨i, hi⟩ : ∃ i : Nat, index l [47] = i := ⟨(index l [47]).toNat, by omega⟩
   have h1 : index (c :: l) [47] = ((i + 1 : Nat) : Int) := by
    rw [hix, hi]
    have : ((i : Int) == -1) = false := by rw [beq_eq_false_iff_ne]; omega
    simp [this]
   rw [h1, hi]
   rw [if_neg h, if_pos (by omega), if_pos (by omega), Int.toNat_natCast, Int.toNat_natCast]
   rfl
theorem token_all : ∀ l : List UInt8, token l ++ l.drop (token l).length = l
 | [] => by rw [token_nil]; rfl
 | c :: l => by
  rw [token_cons]
  by_cases h : c = 47
  ·rw [if_pos h]; rfl
  ·rw [if_neg h]
   simp [token_all l]
theorem token_rest : ∀ l : List UInt8, l.drop (token l).length = [] ∨ ∃ t, l.drop (token l).length = 47 :: t
 | [] => by rw [token_nil]; exact .inl rfl
 | c :: l => by
  rw [token_cons]
  by_cases h : c = 47
  ·rw [if_pos h, h]; exact .inr ⟨l, rfl⟩
  ·rw [if_neg h]
   simpa using token_rest l
theorem token_no : ∀ l : List UInt8, (token l).count 47 = 0
 | [] => by rw [token_nil]; rfl
 | c :: l => by
  rw [token_cons]
  by_cases h : c = 47
  ·rw [if_pos h]; rfl
  ·rw [if_neg h, List.count_cons, token_no l]
   simp [h]
theorem token_le (l : List UInt8) : (token l).length ≤ l.length := by
 have h := congrArg List.length (token_all l)
 rw [List.length_append] at h
 omega
theorem token_count (l : List UInt8) : (l.drop (token l).length).count 47 = l.count 47 := by
 have h := congrArg (List.count 47) (token_all l)
 rw [List.count_append, token_no, Nat.zero_add] at h
 exact h

/-! ### reading a token -/
theorem r1_nil : replaceAll [] [126, 49] [47] = [] := ra_nil (by decide) (by decide)
theorem r0_nil : replaceAll [] [126, 48] [126] = [] := ra_nil (by decide) (by decide)
theorem r1_cons {c : UInt8} (h : c ≠ 126) (l : List UInt8) : replaceAll (c :: l) [126, 49] [47] = c :: replaceAll l [126, 49] [47] :=
 ra_pass (by decide) (by decide) _ _ (by simp [List.isPrefixOf]; exact fun e => absurd e.symm h)
theorem r0_cons {c : UInt8} (h : c ≠ 126) (l : List UInt8) : replaceAll (c :: l) [126, 48] [126] = c :: replaceAll l [126, 48] [126] :=
 ra_pass (by decide) (by decide) _ _ (by simp [List.isPrefixOf]; exact fun e => absurd e.symm h)
theorem r1_hit (l : List UInt8) : replaceAll (126 :: 49 :: l) [126, 49] [47] = 47 :: replaceAll l [126, 49] [47] :=
 ra_hit (by decide) (by decide) _ _ (by simp [List.isPrefixOf])
theorem r0_hit (l : List UInt8) : replaceAll (126 :: 48 :: l) [126, 48] [126] = 126 :: replaceAll l [126, 48] [126] :=
 ra_hit (by decide) (by decide) _ _ (by simp [List.isPrefixOf])
theorem r1_pass (l : List UInt8) : replaceAll (126 :: 48 :: l) [126, 49] [47] = 126 :: 48 :: replaceAll l [126, 49] [47] := by
 rw [ra_pass (by decide) (by decide) _ _ (by simp [List.isPrefixOf]), r1_cons (by decide)]

theorem badT_shift : ∀ (l : List UInt8) (i j : Nat), badT l i = none → badT l j = none
 | [], i, j, _ => rfl
 | c :: t, i, j, h => by
  unfold badT at h ⊢
  by_cases hc : c = 126
  ·rw [if_pos hc] at h ⊢
   match t, h with
   | [], h => cases h
   | x :: t', h =>
    dsimp only at h ⊢
    by_cases hx : x = 48 ∨ x = 49
    ·rw [if_pos hx] at h ⊢
     exact badT_shift _ _ _ h
    ·rw [if_neg hx] at h
     cases h
  ·rw [if_neg hc] at h ⊢
   exact badT_shift _ _ _ h
theorem badT_esc {x : UInt8} (hx : x = 48 ∨ x = 49) (t : List UInt8) (i : Nat) : badT (126 :: x :: t) i = badT t (i + 2) := by
 have h1 : badT (126 :: x :: t) i = badT (x :: t) (i + 1) := by
  rw [badT_two, if_pos hx]
 rw [h1, badT_eq, if_neg (by rcases hx with rfl | rfl <;> decide)]
theorem badT_not {c : UInt8} (h : c ≠ 126) (t : List UInt8) (i : Nat) : badT (c :: t) i = badT t (i + 1) := by rw [badT_eq, if_neg h]
theorem look (l : List UInt8) : l = [] ∨ (∃ c t, l = c :: t ∧ c ≠ 126) ∨ (∃ x t, l = 126 :: x :: t ∧ (x = 48 ∨ x = 49)) ∨ (∃ t, l = 126 :: t ∧ ∀ i, badT l i = some (i + 1)) := by
 match l with
 | [] => exact .inl rfl
 | c :: t =>
  by_cases hc : c = 126
  ·subst hc
   match t with
   | [] => exact .inr (.inr (.inr ⟨[], rfl, fun i => rfl⟩))
   | x :: t' =>
    by_cases hx : x = 48 ∨ x = 49
    ·exact .inr (.inr (.inl ⟨x, t', rfl, hx⟩))
    ·refine .inr (.inr (.inr ⟨_, rfl, fun i => ?_⟩))
     rw [badT_two, if_neg hx]
  ·exact .inr (.inl ⟨c, t, rfl, hc⟩)

theorem unesc_not {c : UInt8} (h : c ≠ 126) (t : List UInt8) : unesc (c :: t) = c :: unesc t := by rw [unesc_eq, if_neg h]
theorem unesc_0 (t : List UInt8) : unesc (126 :: 48 :: t) = 126 :: unesc t := by rw [unesc_eq, if_pos rfl]; rfl
theorem unesc_1 (t : List UInt8) : unesc (126 :: 49 :: t) = 47 :: unesc t := by rw [unesc_eq, if_pos rfl]; rfl
theorem unesc_P : ∀ (N : Nat) (l : List UInt8), l.length ≤ N → badT l 0 = none → unescP l = unesc l
 | 0, l, hN, _ => by
  obtain rfl : l = [] := List.eq_nil_of_length_eq_zero (by omega)
  unfold unescP
  rw [r1_nil, r0_nil]; rfl
 | N + 1, l, hN, h => by
  rcases look l with rfl | ⟨c, t, rfl, hc⟩ | ⟨x, t, rfl, hx⟩ | ⟨t, rfl, hb⟩
  ·unfold unescP
   rw [r1_nil, r0_nil]; rfl
  ·rw [badT_not hc] at h
   have ih := unesc_P N t (by simpa using hN) (badT_shift _ _ _ h)
   unfold unescP at ih ⊢
   rw [r1_cons hc, r0_cons hc, ih, unesc_not hc]
  ·rw [badT_esc hx] at h
   have ih := unesc_P N t (by simp at hN; omega) (badT_shift _ _ _ h)
   unfold unescP at ih ⊢
   rcases hx with rfl | rfl
   ·rw [r1_pass, r0_hit, ih, unesc_0]
   ·rw [r1_hit, r0_cons (by decide), ih, unesc_1]
  ·rw [hb] at h
   cases h

/-! ### parsing: one by one, and at once -/
theorem run_some (toks : List (List UInt8)) (b : List UInt8) {c : UInt8} (t : List UInt8) (i : Nat) (h1 : c ≠ 47) (h2 : c ≠ 126) : run toks (some b) (c :: t) i = run toks (some (b ++ [c])) t (i + 1) := by
 rw [run_eq, if_neg h1, if_neg h2]
theorem run_slash (toks : List (List UInt8)) (b : List UInt8) (t : List UInt8) (i : Nat) : run toks (some b) (47 :: t) i = run (toks ++ [b]) (some []) t (i + 1) := by
 rw [run_eq]
 rfl
theorem run_0 (toks : List (List UInt8)) (b : List UInt8) (t : List UInt8) (i : Nat) : run toks (some b) (126 :: 48 :: t) i = run toks (some (b ++ [126])) t (i + 2) := by
 rw [run_eq]
 rfl
theorem run_1 (toks : List (List UInt8)) (b : List UInt8) (t : List UInt8) (i : Nat) : run toks (some b) (126 :: 49 :: t) i = run toks (some (b ++ [47])) t (i + 2) := by
 rw [run_eq]
 rfl
theorem run_bad (toks : List (List UInt8)) (b : List UInt8) (t : List UInt8) (i : Nat) (h : badT (126 :: t) i = some (i + 1)) : run toks (some b) (126 :: t) i = .error (i + 1) := by
 match t, h with
 | [], _ => rw [run_eq]; rfl
 | x :: t', h =>
  by_cases hx : x = 48 ∨ x = 49
  ·rw [badT_esc hx] at h
   have : ∀ (t : List UInt8) (i p : Nat), badT t i = some p → i < p := by
    intro t
    induction t with
    | nil => intro i p h; cases h
    | cons c t ih =>
     intro i p h
     unfold badT at h
     by_cases hc : c = 126
     ·rw [if_pos hc] at h
      match t, h, ih with
      | [], h, _ => injection h with h; omega
      | y :: t', h, ih =>
       dsimp only at h
       by_cases hy : y = 48 ∨ y = 49
       ·rw [if_pos hy] at h
        have := ih _ _ h
        omega
       ·rw [if_neg hy] at h
        injection h with h
        omega
     ·rw [if_neg hc] at h
      have := ih _ _ h
      omega
   have := this _ _ _ h
   omega
  ·rw [run_eq, if_neg (by decide), if_pos rfl]
   dsimp only
   rw [if_neg (fun e => hx (.inl e)), if_neg (fun e => hx (.inr e))]

theorem run_err : ∀ (N : Nat) (l : List UInt8) (toks : List (List UInt8)) (b : List UInt8) (i p : Nat), l.length ≤ N → badT l i = some p → run toks (some b) l i = .error p
 | 0, l, toks, b, i, p, hN, h => by
  obtain rfl : l = [] := List.eq_nil_of_length_eq_zero (by omega)
  cases h
 | N + 1, l, toks, b, i, p, hN, h => by
  rcases look l with rfl | ⟨c, t, rfl, hc⟩ | ⟨x, t, rfl, hx⟩ | ⟨t, rfl, hb⟩
  ·cases h
  ·rw [badT_not hc] at h
   by_cases h47 : c = 47
   ·subst h47
    rw [run_slash]
    exact run_err N t _ _ _ _ (by simpa using hN) h
   ·rw [run_some _ _ _ _ h47 hc]
    exact run_err N t _ _ _ _ (by simpa using hN) h
  ·rw [badT_esc hx] at h
   rcases hx with rfl | rfl
   ·rw [run_0]
    exact run_err N t _ _ _ _ (by simp at hN; omega) h
   ·rw [run_1]
    exact run_err N t _ _ _ _ (by simp at hN; omega) h
  ·rw [run_bad _ _ _ _ (hb i)]
   rw [hb i] at h
   injection h with h
   rw [h]

def splitU : Nat → List UInt8 → List (List UInt8)
 | 0, _ => []
 | f + 1, l => match l with
  | [] => []
  | _ :: t => unesc (token t) :: splitU f (t.drop (token t).length)
theorem splitU_nil (f : Nat) : splitU f [] = [] := by cases f <;> rfl
theorem splitF_nil (f : Nat) : splitF f [] = [] := by cases f <;> rfl

theorem splitU_more : ∀ (N : Nat) (l : List UInt8), l.length ≤ N → splitU (N + 1) l = splitU (N + 1 + 1) l
 | _, [], _ => by rw [splitU_nil, splitU_nil]
 | 0, c :: t, h => by simp at h
 | N + 1, c :: t, h => by
  rw [splitU, splitU, splitU_more N _ (by rw [List.length_drop]; simp at h; omega)]
theorem run_ok : ∀ (N : Nat) (l : List UInt8) (toks : List (List UInt8)) (b : List UInt8) (i : Nat), l.length ≤ N → badT l i = none →
  run toks (some b) l i = .ok (toks ++ (b ++ unesc (token l)) :: splitU (N + 1) (l.drop (token l).length))
 | 0, l, toks, b, i, hN, h => by
  obtain rfl : l = [] := List.eq_nil_of_length_eq_zero (by omega)
  rw [token_nil, run_end]
  simp [unesc, splitU]
 | N + 1, l, toks, b, i, hN, h => by
  rcases look l with rfl | ⟨c, t, rfl, hc⟩ | ⟨x, t, rfl, hx⟩ | ⟨t, rfl, hb⟩
  ·rw [token_nil, run_end]
   simp [unesc, splitU]
  ·rw [badT_not hc] at h
   by_cases h47 : c = 47
   ·subst h47
    rw [run_slash, run_ok N t _ _ _ (by simpa using hN) h, token_cons, if_pos rfl]
    simp [unesc, splitU]
   ·rw [run_some _ _ _ _ h47 hc, run_ok N t _ _ _ (by simpa using hN) h, token_cons, if_neg h47, unesc_not hc]
    simp
    exact splitU_more N _ (by rw [List.length_drop]; simp at hN; omega)
  ·rw [badT_esc hx] at h
   have hlen : t.length ≤ N := by simp at hN; omega
   have ht : token (126 :: x :: t) = 126 :: x :: token t := by
    rw [token_cons, if_neg (by decide), token_cons, if_neg (by rcases hx with rfl | rfl <;> decide)]
   have hs : splitU (N + 1) (t.drop (token t).length) = splitU (N + 1 + 1) (t.drop (token t).length) := splitU_more N _ (by rw [List.length_drop]; omega)
   rcases hx with rfl | rfl
   ·rw [run_0, run_ok N t _ _ _ hlen h, ht, unesc_0, hs]
    simp
   ·rw [run_1, run_ok N t _ _ _ hlen h, ht, unesc_1, hs]
    simp
  ·rw [hb] at h
   cases h
def parseS (w : Int × Int) (l : List UInt8) : Except (Int × Int) (List (List UInt8)) :=
 if w.1 = 0 then (match run [] none l 0 with
  | .error p => .error (130, (p : Int))
  | .ok ts => if 65536 < ts.length then .error (3, -1) else .ok ts)
 else .error (100, w.2)
def Stroke (l : List UInt8) : Prop := l = [] ∨ ∃ t, l = 47 :: t

theorem badT_token : ∀ (N : Nat) (l : List UInt8) (i j k : Nat), l.length ≤ N → badT l i = none → badT (token l) j = none ∧ badT (l.drop (token l).length) k = none
 | 0, l, i, j, k, hN, h => by
  obtain rfl : l = [] := List.eq_nil_of_length_eq_zero (by omega)
  rw [token_nil]
  exact ⟨rfl, rfl⟩
 | N + 1, l, i, j, k, hN, h => by
  rcases look l with rfl | ⟨c, t, rfl, hc⟩ | ⟨x, t, rfl, hx⟩ | ⟨t, rfl, hb⟩
  ·rw [token_nil]
   exact ⟨rfl, rfl⟩
  ·by_cases h47 : c = 47
   ·rw [token_cons, if_pos h47]
    exact ⟨rfl, badT_shift _ _ _ h⟩
   ·rw [badT_not hc] at h
    obtain ⟨h1, h2⟩ := badT_token N t (i + 1) (j + 1) k (by simpa using hN) h
    rw [token_cons, if_neg h47, badT_not hc]
    exact ⟨h1, by simpa using h2⟩
  ·rw [badT_esc hx] at h
   obtain ⟨h1, h2⟩ := badT_token N t (i + 2) (j + 2) k (by simp at hN; omega) h
   have ht : token (126 :: x :: t) = 126 :: x :: token t := by
    rw [token_cons, if_neg (by decide), token_cons, if_neg (by rcases hx with rfl | rfl <;> decide)]
   rw [ht, badT_esc hx]
   exact ⟨h1, by simpa using h2⟩
  ·rw [hb] at h
   cases h
theorem splitU_F : ∀ (N : Nat) (l : List UInt8), l.length ≤ N → Stroke l → badT l 0 = none → splitU N l = splitF N l
 | 0, l, _, _, _ => rfl
 | N + 1, l, hN, hs, h => by
  rcases hs with rfl | ⟨t, rfl⟩
  ·rw [splitU_nil, splitF_nil]
  ·rw [badT_not (by decide)] at h
   obtain ⟨h1, h2⟩ := badT_token t.length t 1 0 0 (Nat.le_refl _) h
   rw [splitU, splitF, unesc_P _ _ (Nat.le_refl _) h1, splitU_F N _ (by rw [List.length_drop]; simp at hN; omega) (token_rest t) h2]
theorem splitF_count : ∀ (N : Nat) (l : List UInt8), l.length ≤ N → Stroke l → (splitF N l).length = l.count 47
 | 0, l, hN, hs => by
  obtain rfl : l = [] := List.eq_nil_of_length_eq_zero (by omega)
  rfl
 | N + 1, l, hN, hs => by
  rcases hs with rfl | ⟨t, rfl⟩
  ·rw [splitF_nil]; rfl
  ·rw [splitF, List.length_cons, splitF_count N _ (by rw [List.length_drop]; simp at hN; omega) (token_rest t), token_count, List.count_cons_self]
theorem splitU_one : ∀ (N : Nat) (l : List UInt8), l.length ≤ N → splitU N l = splitU (N + 1) l
 | _, [], _ => by rw [splitU_nil, splitU_nil]
 | 0, c :: t, h => by simp at h
 | N + 1, c :: t, h => by rw [splitU, splitU, splitU_one N _ (by rw [List.length_drop]; simp at h; omega)]
theorem run_good {l : List UInt8} (hs : Stroke l) (h : badT l 0 = none) : run [] none l 0 = .ok (splitF l.length l) := by
 rw [← splitU_F _ _ (Nat.le_refl _) hs h]
 rcases hs with rfl | ⟨t, rfl⟩
 ·rfl
 ·rw [badT_not (by decide)] at h
  rw [run_none, if_pos rfl, run_ok t.length t _ _ _ (Nat.le_refl _) h, List.length_cons, splitU, ← splitU_one _ _ (by rw [List.length_drop]; omega)]
  rfl

theorem parse_utf {w : Int × Int} (l : List UInt8) (h : ¬ w.1 = 0) : parseS w l = .error (100, w.2) := by rw [parseS, if_neg h]
theorem parse_head {w : Int × Int} {c : UInt8} (t : List UInt8) (h : w.1 = 0) (hc : c ≠ 47) : parseS w (c :: t) = .error (130, 0) := by
 rw [parseS, if_pos h, run_none, if_neg hc]
 rfl
theorem parse_bad {w : Int × Int} {l : List UInt8} {p : Nat} (h : w.1 = 0) (hs : Stroke l) (hb : badT l 0 = some p) : parseS w l = .error (130, (p : Int)) := by
 rcases hs with rfl | ⟨t, rfl⟩
 ·cases hb
 ·rw [badT_not (by decide)] at hb
  rw [parseS, if_pos h, run_none, if_pos rfl, run_err t.length t _ _ _ _ (Nat.le_refl _) hb]
theorem parse_long {w : Int × Int} {l : List UInt8} (h : w.1 = 0) (hs : Stroke l) (hb : badT l 0 = none) (hc : 65536 < l.count 47) : parseS w l = .error (3, -1) := by
 rw [parseS, if_pos h, run_good hs hb]
 dsimp only
 rw [splitF_count _ _ (Nat.le_refl _) hs, if_pos hc]
theorem parse_good {w : Int × Int} {l : List UInt8} (h : w.1 = 0) (hs : Stroke l) (hb : badT l 0 = none) (hc : ¬ 65536 < l.count 47) : parseS w l = .ok (splitF l.length l) := by
 rw [parseS, if_pos h, run_good hs hb]
 dsimp only
 rw [splitF_count _ _ (Nat.le_refl _) hs, if_neg hc]
theorem splitF_fuel : ∀ (N M : Nat) (l : List UInt8), l.length ≤ N → l.length ≤ M → splitF N l = splitF M l
 | _, _, [], _, _ => by rw [splitF_nil, splitF_nil]
 | 0, _, c :: t, h, _ => by simp at h
 | _, 0, c :: t, _, h => by simp at h
 | N + 1, M + 1, c :: t, h, h' => by
  rw [splitF, splitF, splitF_fuel N M _ (by rw [List.length_drop]; simp at h; omega) (by rw [List.length_drop]; simp at h'; omega)]
theorem split_step (t : List UInt8) : splitF (47 :: t).length (47 :: t) = unescP (token t) :: splitF (t.drop (token t).length).length (t.drop (token t).length) := by
 rw [List.length_cons, splitF, splitF_fuel t.length (t.drop (token t).length).length _ (by rw [List.length_drop]; omega) (Nat.le_refl _)]
theorem ra_len {old new : List UInt8} (hne : old ≠ new) (h0 : old ≠ []) (hl : new.length ≤ old.length) : ∀ (N : Nat) (s : List UInt8), s.length ≤ N → (replaceAll s old new).length ≤ s.length
 | 0, s, h => by
  obtain rfl : s = [] := List.eq_nil_of_length_eq_zero (by omega)
  rw [ra_nil hne h0]
  exact Nat.le_refl _
 | N + 1, [], h => by
  rw [ra_nil hne h0]
  exact Nat.le_refl _
 | N + 1, b :: l, h => by
  cases hp : old.isPrefixOf (b :: l) with
  | true =>
   have hpl : old.length ≤ (b :: l).length := by
    rw [List.isPrefixOf_iff_prefix] at hp
    exact hp.length_le
   have h1 : 1 ≤ old.length := by
    cases old with
    | nil => exact absurd rfl h0
    | cons x y => simp
   have ih := ra_len hne h0 hl N ((b :: l).drop old.length) (by rw [List.length_drop]; omega)
   rw [ra_hit hne h0 _ _ hp, List.length_append]
   rw [List.length_drop] at ih
   omega
  | false =>
   have ih := ra_len hne h0 hl N l (by simpa using h)
   rw [ra_pass hne h0 _ _ hp]
   simpa using ih
theorem run_close (toks : List (List UInt8)) (b : List UInt8) {l : List UInt8} (i : Nat) (h : Stroke l) : run toks (some b) l i = run (toks ++ [b]) none l i := by
 rcases h with rfl | ⟨t, rfl⟩
 ·rfl
 ·rw [run_slash, run_none, if_pos rfl]
theorem flat_le (f : UInt8 → List UInt8) (h : ∀ c, (f c).length ≤ 2) : ∀ l : List UInt8, (l.flatMap f).length ≤ 2 * l.length
 | [] => Nat.le_refl _
 | c :: l => by
  have := flat_le f h l
  have := h c
  rw [List.flatMap_cons, List.length_append, List.length_cons]
  omega
theorem tilde_le (l : List UInt8) : (replaceAll l [126] [126, 48]).length ≤ 2 * l.length := by
 rw [ra_tilde]
 refine flat_le _ (fun c => ?_) l
 split <;> simp
theorem slash_le (l : List UInt8) : (replaceAll l [47] [126, 49]).length ≤ 2 * l.length := by
 rw [ra_slash]
 refine flat_le _ (fun c => ?_) l
 split <;> simp
theorem piece_le (t : List UInt8) : (piece t).length ≤ 2 * t.length + 1 := by
 unfold piece
 rw [List.length_cons]
 have := flat_le esc (fun c => by
  unfold esc
  by_cases h : c = 126
  ·simp [h]
  ·by_cases h' : c = 47 <;> simp [h, h']) t
 omega
def bulkS : List (List UInt8) → Nat
 | [] => 0
 | t :: r => t.length + 1 + bulkS r
theorem print_le : ∀ ts : List (List UInt8), (printS ts).length ≤ 2 * bulkS ts
 | [] => Nat.le_refl _
 | t :: r => by
  have h1 := print_le r
  have h2 := piece_le t
  unfold printS at h1 ⊢
  rw [List.flatMap_cons, List.length_append, bulkS]
  omega
theorem bulk_le : ∀ (ts : List (List UInt8)) (k : Nat), bulkS (ts.take k) ≤ bulkS ts
 | [], k => by simp [bulkS]
 | t :: r, 0 => by simp [bulkS]
 | t :: r, k + 1 => by
  have := bulk_le r k
  simp only [List.take_succ_cons, bulkS]
  omega
theorem bulk_at : ∀ (ts : List (List UInt8)) (k : Nat) (h : k < ts.length), ts[k].length + 1 ≤ bulkS ts
 | t :: r, 0, h => by simp [bulkS]
 | t :: r, k + 1, h => by
  have := bulk_at r k (by simpa using h)
  simp only [List.getElem_cons_succ, bulkS]
  omega
theorem bulk_len : ∀ ts : List (List UInt8), ts.length ≤ bulkS ts
 | [] => Nat.le_refl _
 | t :: r => by
  have := bulk_len r
  rw [List.length_cons, bulkS]
  omega
theorem print_snoc (ts : List (List UInt8)) (k : Nat) (h : k < ts.length) : printS (ts.take (k + 1)) = printS (ts.take k) ++ piece ts[k] := by
 rw [List.take_succ_eq_append_getElem h]
 unfold printS
 rw [List.flatMap_append]
 simp
def badI (w : List UInt8 → Int × Int) : List (List UInt8) → Nat → Option Nat
 | [], _ => none
 | t :: r, i => if (w t).1 = 0 then badI w r (i + 1) else some i
theorem badI_at (w : List UInt8 → Int × Int) {ts : List (List UInt8)} {k : Nat} (h : k < ts.length) (i : Nat) : badI w (ts.drop k) i = if (w ts[k]).1 = 0 then badI w (ts.drop (k + 1)) (i + 1) else some i := by
 rw [List.drop_eq_getElem_cons h, badI]
def printR (w : List UInt8 → Int × Int) (ts : List (List UInt8)) : Except (Int × Int) (List UInt8) :=
 if 65536 < ts.length then .error (3, -1) else match badI w ts 0 with
  | some i => .error (100, (i : Int))
  | none => .ok (printS ts)
end Tok
theorem mk_append (a b : List UInt8) : (ByteArray.mk a.toArray ++ ByteArray.mk b.toArray : ByteArray) = ⟨(a ++ b).toArray⟩ := by
 rw [← Joins.bytes_eta (ByteArray.mk a.toArray ++ ByteArray.mk b.toArray), Joins.data_append]
end Go.Proofs.YtbajkglacfheiaaGreatDoor
namespace Go.Proofs.YtbajkglacfheiaaGreatDoor
open Go Go.Lib
namespace Tok

/-! ### read, and printed -/
theorem esc_unesc : ∀ (N : Nat) (l : List UInt8), l.length ≤ N → badT l 0 = none → l.count 47 = 0 → (unesc l).flatMap esc = l
 | 0, l, hN, _, _ => by
  obtain rfl : l = [] := List.eq_nil_of_length_eq_zero (by omega)
  rfl
 | N + 1, l, hN, h, h47 => by
  rcases look l with rfl | ⟨c, t, rfl, hc⟩ | ⟨x, t, rfl, hx⟩ | ⟨t, rfl, hb⟩
  ·rfl
  ·rw [badT_not hc] at h
   rw [List.count_cons] at h47
   have hne : c ≠ 47 := by
    rintro rfl
    simp at h47
   rw [unesc_not hc, List.flatMap_cons, esc_unesc N t (by simpa using hN) (badT_shift _ _ _ h) (by omega)]
   simp [esc, hc, hne]
  ·rw [badT_esc hx] at h
   rw [List.count_cons, List.count_cons] at h47
   have ih := esc_unesc N t (by simp at hN; omega) (badT_shift _ _ _ h) (by omega)
   rcases hx with rfl | rfl
   ·rw [unesc_0, List.flatMap_cons, ih]; rfl
   ·rw [unesc_1, List.flatMap_cons, ih]; rfl
  ·rw [hb] at h
   cases h
theorem print_split : ∀ (N : Nat) (l : List UInt8), l.length ≤ N → Stroke l → badT l 0 = none → printS (splitF N l) = l
 | 0, l, hN, _, _ => by
  obtain rfl : l = [] := List.eq_nil_of_length_eq_zero (by omega)
  rfl
 | N + 1, l, hN, hs, h => by
  rcases hs with rfl | ⟨t, rfl⟩
  ·rw [splitF_nil]; rfl
  ·rw [badT_not (by decide)] at h
   obtain ⟨h1, h2⟩ := badT_token t.length t 1 0 0 (Nat.le_refl _) h
   have ih := print_split N _ (by rw [List.length_drop]; simp at hN; omega) (token_rest t) h2
   unfold printS at ih ⊢
   rw [splitF, List.flatMap_cons, ih, unesc_P _ _ (Nat.le_refl _) h1, piece, esc_unesc _ _ (Nat.le_refl _) h1 (token_no t), List.cons_append, token_all]
theorem parse_print {w : Int × Int} {l : List UInt8} {ts : List (List UInt8)} (h : parseS w l = .ok ts) : w.1 = 0 ∧ printS ts = l ∧ ts.length ≤ 65536 := by
 by_cases hw : w.1 = 0
 ·refine ⟨hw, ?_⟩
  have hstroke : Stroke l := by
   cases l with
   | nil => exact .inl rfl
   | cons c t =>
    by_cases hc : c = 47
    ·rw [hc]; exact .inr ⟨t, rfl⟩
    ·rw [parse_head t hw hc] at h
     cases h
  cases hb : badT l 0 with
  | some p =>
   rw [parse_bad hw hstroke hb] at h
   cases h
  | none =>
   by_cases hc : 65536 < l.count 47
   ·rw [parse_long hw hstroke hb hc] at h
    cases h
   ·rw [parse_good hw hstroke hb hc] at h
    injection h with h
    subst h
    exact ⟨print_split _ _ (Nat.le_refl _) hstroke hb, by rw [splitF_count _ _ (Nat.le_refl _) hstroke]; omega⟩
 ·rw [parse_utf l hw] at h
  cases h

/-! ### printed, and read -/
def escs (t : List UInt8) : List UInt8 := t.flatMap esc
theorem escs_cons (c : UInt8) (t : List UInt8) : escs (c :: t) = esc c ++ escs t := List.flatMap_cons
theorem unesc_escs (t r : List UInt8) (i : Nat) (toks : List (List UInt8)) (b : List UInt8) : ∃ j, run toks (some b) (escs t ++ r) i = run toks (some (b ++ t)) r j := by
 induction t generalizing b i with
 | nil => exact ⟨i, by simp [escs]⟩
 | cons c t ih =>
  rw [escs_cons]
  by_cases h : c = 126
  ·subst h
   obtain ⟨j, hj⟩ := ih (i + 2) (b ++ [126])
   refine ⟨j, ?_⟩
   show run toks (some b) (126 :: 48 :: (escs t ++ r)) i = _
   rw [run_0, hj]
   simp
  ·by_cases h' : c = 47
   ·subst h'
    obtain ⟨j, hj⟩ := ih (i + 2) (b ++ [47])
    refine ⟨j, ?_⟩
    show run toks (some b) (126 :: 49 :: (escs t ++ r)) i = _
    rw [run_1, hj]
    simp
   ·obtain ⟨j, hj⟩ := ih (i + 1) (b ++ [c])
    refine ⟨j, ?_⟩
    have e : esc c = [c] := by rw [esc, if_neg h, if_neg h']
    rw [e]
    show run toks (some b) (c :: (escs t ++ r)) i = _
    rw [run_some _ _ _ _ h' h, hj]
    simp
theorem print_cons (t : List UInt8) (ts : List (List UInt8)) : printS (t :: ts) = 47 :: (escs t ++ printS ts) := rfl
theorem print_stroke : ∀ ts : List (List UInt8), Stroke (printS ts)
 | [] => .inl rfl
 | t :: ts => .inr ⟨_, print_cons t ts⟩
theorem run_print : ∀ (ts toks : List (List UInt8)) (i : Nat), run toks none (printS ts) i = .ok (toks ++ ts)
 | [], toks, i => by
  rw [List.append_nil]
  rfl
 | t :: ts, toks, i => by
  rw [print_cons, run_none, if_pos rfl]
  obtain ⟨j, hj⟩ := unesc_escs t (printS ts) (i + 1) toks []
  rw [hj, run_close _ _ _ (print_stroke ts), run_print ts]
  simp
theorem parse_of_print {w : Int × Int} {ts : List (List UInt8)} (hw : w.1 = 0) (hl : ts.length ≤ 65536) : parseS w (printS ts) = .ok ts := by
 rw [parseS, if_pos hw, run_print, List.nil_append]
 dsimp only
 rw [if_neg (by omega)]

/-! ### one within another -/
end Tok
end Go.Proofs.YtbajkglacfheiaaGreatDoor
