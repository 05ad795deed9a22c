/-
  Plain: right texts held against each other by their UTF-16 units, or by their bytes with two of them moved behind: the same. Plain: a text in which the reference finds nothing wrong is a row of characters. The reference's character at the head of a right text. The reference's At of a good head: its character and how wide it is.
-/
import Derived.Test.YtbajkglacfheiaaGreatDoorTA1
import Derived.Test.YtbajkglacfheiaaGreatDoorTA11
set_option linter.unusedVariables false
set_option maxRecDepth 100000
set_option maxHeartbeats 16000000
namespace Go.Proofs.YtbajkglacfheiaaGreatDoor
namespace Nd
def ordN (x : Nat) : Nat := if 238 ≤ x ∧ x < 240 then x + 256 else x
def cmpN : List Nat → List Nat → Int
 | [], [] => 0
 | [], _ :: _ => -1
 | _ :: _, [] => 1
 | x :: a, y :: b => if x = y then cmpN a b else if ordN x < ordN y then -1 else 1
def cmpU : List Nat → List Nat → Int
 | [], [] => 0
 | [], _ :: _ => -1
 | _ :: _, [] => 1
 | x :: a, y :: b => if x < y then -1 else if y < x then 1 else cmpU a b
def unitsN (x : Nat) : List Nat := if x < 65536 then [x] else [55296 + (x - 65536) / 1024, 56320 + (x - 65536) % 1024]
inductive Form : List Nat → Nat → Prop
 | one (a : Nat) : a < 128 → Form [a] (a % 128)
 | two (a b : Nat) : 194 ≤ a → a ≤ 223 → 128 ≤ b → b ≤ 191 → Form [a, b] (64 * (a - 192) + (b - 128))
 | three (a b c : Nat) : 224 ≤ a → a ≤ 239 → 128 ≤ b → b ≤ 191 → (a = 224 → 160 ≤ b) → (a = 237 → b ≤ 159) → 128 ≤ c → c ≤ 191 → Form [a, b, c] (4096 * (a - 224) + 64 * (b - 128) + (c - 128))
 | four (a b c d : Nat) : 240 ≤ a → a ≤ 244 → 128 ≤ b → b ≤ 191 → (a = 240 → 144 ≤ b) → (a = 244 → b ≤ 143) → 128 ≤ c → c ≤ 191 → 128 ≤ d → d ≤ 191 →
   Form [a, b, c, d] (262144 * (a - 240) + 4096 * (b - 128) + 64 * (c - 128) + (d - 128))
theorem units_low {x : Nat} (h : x < 65536) : unitsN x = [x] := if_pos h
theorem units_high {x : Nat} (h : ¬ x < 65536) : unitsN x = [55296 + (x - 65536) / 1024, 56320 + (x - 65536) % 1024] := if_neg h
theorem cmpN_ne {x y : Nat} {a b : List Nat} (h : x ≠ y) : cmpN (x :: a) (y :: b) = if ordN x < ordN y then -1 else 1 := by simp [cmpN, h]
theorem cmpN_eq {x : Nat} {a b : List Nat} : cmpN (x :: a) (x :: b) = cmpN a b := by simp [cmpN]
theorem cmpU_eq {x : Nat} {a b : List Nat} : cmpU (x :: a) (x :: b) = cmpU a b := by simp [cmpU]
theorem cmpU_lt {x y : Nat} {a b : List Nat} (h : x < y) : cmpU (x :: a) (y :: b) = -1 := by simp [cmpU, h]
theorem cmpU_gt {x y : Nat} {a b : List Nat} (h : y < x) : cmpU (x :: a) (y :: b) = 1 := by
 have : ¬ x < y := by omega
 simp [cmpU, h, this]
theorem low_ne {x y : Nat} {s t u v : List Nat} (hx : x < 65536) (hy : y < 65536) (c d : Nat) (hne : c ≠ d) (h : (ordN c < ordN d ∧ x < y) ∨ (¬ ordN c < ordN d ∧ y < x)) :
  cmpN (c :: s) (d :: t) = cmpU (unitsN x ++ u) (unitsN y ++ v) := by
 rw [units_low hx, units_low hy, cmpN_ne hne]
 rcases h with ⟨h1, h2⟩ | ⟨h1, h2⟩
 ·rw [if_pos h1]; exact (cmpU_lt h2).symm
 ·rw [if_neg h1]; exact (cmpU_gt h2).symm
theorem lh_ne {x y : Nat} {s t u v : List Nat} (hx : x < 65536) (hy : ¬ y < 65536) (hy2 : y < 1114112) (c d : Nat) (hne : c ≠ d) (h : (ordN c < ordN d ∧ x < 55296) ∨ (¬ ordN c < ordN d ∧ 57344 ≤ x)) :
  cmpN (c :: s) (d :: t) = cmpU (unitsN x ++ u) (unitsN y ++ v) := by
 rw [units_low hx, units_high hy, cmpN_ne hne]
 rcases h with ⟨h1, h2⟩ | ⟨h1, h2⟩
 ·rw [if_pos h1]; exact (cmpU_lt (by omega)).symm
 ·rw [if_neg h1]; exact (cmpU_gt (by omega)).symm
theorem hl_ne {x y : Nat} {s t u v : List Nat} (hx : ¬ x < 65536) (hy : y < 65536) (hx2 : x < 1114112) (c d : Nat) (hne : c ≠ d) (h : (¬ ordN c < ordN d ∧ y < 55296) ∨ (ordN c < ordN d ∧ 57344 ≤ y)) :
  cmpN (c :: s) (d :: t) = cmpU (unitsN x ++ u) (unitsN y ++ v) := by
 rw [units_high hx, units_low hy, cmpN_ne hne]
 rcases h with ⟨h1, h2⟩ | ⟨h1, h2⟩
 ·rw [if_neg h1]; exact (cmpU_gt (by omega)).symm
 ·rw [if_pos h1]; exact (cmpU_lt (by omega)).symm
theorem hh_ne {x y : Nat} {s t u v : List Nat} (hx : ¬ x < 65536) (hy : ¬ y < 65536) (c d : Nat) (hne : c ≠ d) (h : (ordN c < ordN d ∧ x < y) ∨ (¬ ordN c < ordN d ∧ y < x)) :
  cmpN (c :: s) (d :: t) = cmpU (unitsN x ++ u) (unitsN y ++ v) := by
 rw [units_high hx, units_high hy, cmpN_ne hne]
 by_cases he : (x - 65536) / 1024 = (y - 65536) / 1024
 ·rw [he]
  show _ = cmpU (_ :: _ :: _) (_ :: _ :: _)
  rw [cmpU_eq]
  rcases h with ⟨h1, h2⟩ | ⟨h1, h2⟩
  ·rw [if_pos h1]; exact (cmpU_lt (by omega)).symm
  ·rw [if_neg h1]; exact (cmpU_gt (by omega)).symm
 ·rcases h with ⟨h1, h2⟩ | ⟨h1, h2⟩
  ·rw [if_pos h1]; exact (cmpU_lt (by omega)).symm
  ·rw [if_neg h1]; exact (cmpU_gt (by omega)).symm
theorem form_head {f : List Nat} {x : Nat} (h : Form f x) : ∃ a r, f = a :: r := by cases h <;> exact ⟨_, _, rfl⟩
theorem units_self (x : Nat) (u v : List Nat) : cmpU (unitsN x ++ u) (unitsN x ++ v) = cmpU u v := by
 by_cases h : x < 65536
 ·rw [units_low h]; exact cmpU_eq
 ·rw [units_high h]
  show cmpU (_ :: _ :: _) (_ :: _ :: _) = _
  rw [cmpU_eq, cmpU_eq]
  rfl
theorem form_cmp {f g : List Nat} {x y : Nat} (hf : Form f x) (hg : Form g y) (s t u v : List Nat) (hst : cmpN s t = cmpU u v) : cmpN (f ++ s) (g ++ t) = cmpU (unitsN x ++ u) (unitsN y ++ v) := by
 cases hf with
 | one a ha =>
  cases hg with
  | one b hb =>
   by_cases h : a = b
   ·subst h; rw [units_self]; exact (cmpN_eq).trans hst
   ·exact low_ne (by omega) (by omega) a b h (by unfold ordN; split <;> split <;> omega)
  | two b _ h1 h2 => exact low_ne (by omega) (by omega) a b (by omega) (by unfold ordN; split <;> split <;> omega)
  | three b _ _ h1 h2 => exact low_ne (by omega) (by omega) a b (by omega) (by unfold ordN; split <;> split <;> omega)
  | four b _ _ _ h1 h2 => exact lh_ne (by omega) (by omega) (by omega) a b (by omega) (by unfold ordN; split <;> split <;> omega)
 | two a a2 g1 g2 g3 g4 =>
  cases hg with
  | one b hb => exact low_ne (by omega) (by omega) a b (by omega) (by unfold ordN; split <;> split <;> omega)
  | two b b2 h1 h2 h3 h4 =>
   by_cases h : a = b
   ·subst h
    by_cases h' : a2 = b2
    ·subst h'; rw [units_self]; exact (cmpN_eq).trans ((cmpN_eq).trans hst)
    ·exact (cmpN_eq).trans (low_ne (by omega) (by omega) a2 b2 h' (by unfold ordN; split <;> split <;> omega))
   ·exact low_ne (by omega) (by omega) a b h (by unfold ordN; split <;> split <;> omega)
  | three b _ _ h1 h2 => exact low_ne (by omega) (by omega) a b (by omega) (by unfold ordN; split <;> split <;> omega)
  | four b _ _ _ h1 h2 => exact lh_ne (by omega) (by omega) (by omega) a b (by omega) (by unfold ordN; split <;> split <;> omega)
 | three a a2 a3 g1 g2 g3 g4 g5 g6 g7 g8 =>
  cases hg with
  | one b hb => exact low_ne (by omega) (by omega) a b (by omega) (by unfold ordN; split <;> split <;> omega)
  | two b b2 h1 h2 h3 h4 => exact low_ne (by omega) (by omega) a b (by omega) (by unfold ordN; split <;> split <;> omega)
  | three b b2 b3 h1 h2 h3 h4 h5 h6 h7 h8 =>
   by_cases h : a = b
   ·subst h
    by_cases h' : a2 = b2
    ·subst h'
     by_cases h'' : a3 = b3
     ·subst h''; rw [units_self]; exact (cmpN_eq).trans ((cmpN_eq).trans ((cmpN_eq).trans hst))
     ·exact (cmpN_eq).trans ((cmpN_eq).trans (low_ne (by omega) (by omega) a3 b3 h'' (by unfold ordN; split <;> split <;> omega)))
    ·exact (cmpN_eq).trans (low_ne (by omega) (by omega) a2 b2 h' (by unfold ordN; split <;> split <;> omega))
   ·exact low_ne (by omega) (by omega) a b h (by unfold ordN; split <;> split <;> omega)
  | four b b2 _ _ h1 h2 h3 h4 h5 h6 => exact lh_ne (by omega) (by omega) (by omega) a b (by omega) (by unfold ordN; split <;> split <;> omega)
 | four a a2 a3 a4 g1 g2 g3 g4 g5 g6 g7 g8 g9 g10 =>
  cases hg with
  | one b hb => exact hl_ne (by omega) (by omega) (by omega) a b (by omega) (by unfold ordN; split <;> split <;> omega)
  | two b b2 h1 h2 h3 h4 => exact hl_ne (by omega) (by omega) (by omega) a b (by omega) (by unfold ordN; split <;> split <;> omega)
  | three b b2 b3 h1 h2 h3 h4 h5 h6 h7 h8 => exact hl_ne (by omega) (by omega) (by omega) a b (by omega) (by unfold ordN; split <;> split <;> omega)
  | four b b2 b3 b4 h1 h2 h3 h4 h5 h6 h7 h8 h9 h10 =>
   by_cases h : a = b
   ·subst h
    by_cases h' : a2 = b2
    ·subst h'
     by_cases h'' : a3 = b3
     ·subst h''
      by_cases h3 : a4 = b4
      ·subst h3; rw [units_self]; exact (cmpN_eq).trans ((cmpN_eq).trans ((cmpN_eq).trans ((cmpN_eq).trans hst)))
      ·exact (cmpN_eq).trans ((cmpN_eq).trans ((cmpN_eq).trans (hh_ne (by omega) (by omega) a4 b4 h3 (by unfold ordN; split <;> split <;> omega))))
     ·exact (cmpN_eq).trans ((cmpN_eq).trans (hh_ne (by omega) (by omega) a3 b3 h'' (by unfold ordN; split <;> split <;> omega)))
    ·exact (cmpN_eq).trans (hh_ne (by omega) (by omega) a2 b2 h' (by unfold ordN; split <;> split <;> omega))
   ·exact hh_ne (by omega) (by omega) a b h (by unfold ordN; split <;> split <;> omega)
theorem form_nil_l {g : List Nat} {y : Nat} (hg : Form g y) (t v : List Nat) : cmpN [] (g ++ t) = cmpU [] (unitsN y ++ v) := by
 obtain ⟨a, r, rfl⟩ := form_head hg
 unfold unitsN
 split <;> rfl
theorem form_nil_r {g : List Nat} {y : Nat} (hg : Form g y) (t v : List Nat) : cmpN (g ++ t) [] = cmpU (unitsN y ++ v) [] := by
 obtain ⟨a, r, rfl⟩ := form_head hg
 unfold unitsN
 split <;> rfl
inductive Chars : List Nat → List Nat → Prop
 | nil : Chars [] []
 | cons {f : List Nat} {x : Nat} {t xs : List Nat} : Form f x → Chars t xs → Chars (f ++ t) (x :: xs)
theorem chars_cmp : ∀ {xs ys a b : List Nat}, Chars a xs → Chars b ys → cmpN a b = cmpU (xs.flatMap unitsN) (ys.flatMap unitsN) := by
 intro xs
 induction xs with
 | nil =>
  intro ys a b ha hb
  cases ha
  cases hb with
  | nil => rfl
  | cons hf hr => simpa using form_nil_l hf _ _
 | cons x xs ih =>
  intro ys a b ha hb
  cases ha with
  | cons hf hr =>
   cases hb with
   | nil => simpa using form_nil_r hf _ _
   | cons hg hs => simpa using form_cmp hf hg _ _ _ _ (ih hr hs)
theorem cmpL_N : ∀ a b : Tx, cmpL a b = cmpN (a.map UInt8.toNat) (b.map UInt8.toNat)
 | [], [] => rfl
 | [], _ :: _ => rfl
 | _ :: _, [] => rfl
 | x :: a, y :: b => by
  show (if x = y then cmpL a b else if ord x < ord y then -1 else 1) = (if x.toNat = y.toNat then cmpN (a.map UInt8.toNat) (b.map UInt8.toNat) else if ordN x.toNat < ordN y.toNat then -1 else 1)
  by_cases h : x = y
  ·rw [if_pos h, if_pos (by rw [h])]; exact cmpL_N a b
  ·rw [if_neg h, if_neg (fun e => h (UInt8.toNat_inj.1 e))]; rfl
end Nd
end Go.Proofs.YtbajkglacfheiaaGreatDoor
namespace Go.Proofs.YtbajkglacfheiaaGreatDoor
open Ref3
namespace Nd
theorem badF_step {r : List UInt8} {c p : Int} {f k : Nat} (h : badF r c p (f + 1) k = none) :
  ∃ d, r[k]? = some d ∧ ¬ ((k = 1 ∧ second c (d.toNat : Int) = false) ∨ (d.toNat : Int) < 128 ∨ 191 < (d.toNat : Int)) ∧ badF r c p f (k + 1) = none := by
 unfold badF at h
 split at h
 ·cases h
 ·rename_i d hd
  split at h
  ·cases h
  ·rename_i hn
   exact ⟨d, hd, hn, h⟩
def runeN (r : List UInt8) : Nat :=
 if wideAt r = 1 then (r.getD 0 0).toNat % 128
 else if wideAt r = 2 then 64 * ((r.getD 0 0).toNat - 192) + ((r.getD 1 0).toNat - 128)
 else if wideAt r = 3 then 4096 * ((r.getD 0 0).toNat - 224) + 64 * ((r.getD 1 0).toNat - 128) + ((r.getD 2 0).toNat - 128)
 else 262144 * ((r.getD 0 0).toNat - 240) + 4096 * ((r.getD 1 0).toNat - 128) + 64 * ((r.getD 2 0).toNat - 128) + ((r.getD 3 0).toNat - 128)
theorem wide_one {c : Int} (h : wide c = 1) : c < 128 := by
 unfold wide at h; repeat' split at h
 all_goals omega
theorem wide_two {c : Int} (h : wide c = 2) : 194 ≤ c ∧ c ≤ 223 := by
 unfold wide at h; repeat' split at h
 all_goals omega
theorem wide_three {c : Int} (h : wide c = 3) : 224 ≤ c ∧ c ≤ 239 := by
 unfold wide at h; repeat' split at h
 all_goals omega
theorem wide_four {c : Int} (h : wide c = 4) : 240 ≤ c ∧ c ≤ 244 := by
 unfold wide at h; repeat' split at h
 all_goals omega
theorem second_bd {c d : Int} (h : second c d = true) : (c = 224 → 160 ≤ d) ∧ (c = 237 → d ≤ 159) ∧ (c = 240 → 144 ≤ d) ∧ (c = 244 → d ≤ 143) := by
 unfold second at h
 repeat' split at h
 all_goals (try simp only [decide_eq_true_eq] at h)
 all_goals first | omega | (cases h)
theorem good_head (r : List UInt8) (p : Int) (h : faultAt r p = none) : Form ((r.take (wideAt r)).map UInt8.toNat) (runeN r) := by
 cases r with
 | nil => cases h
 | cons c t =>
  have hw := wide_bd (c.toNat : Int)
  by_cases h0 : wide (c.toNat : Int) = 0
  ·simp [faultAt, h0] at h
  ·have hb : badF (c :: t) (c.toNat : Int) p ((wide (c.toNat : Int)).toNat - 1) 1 = none := by simpa [faultAt, h0] using h
   have hc : wide (c.toNat : Int) = 1 ∨ wide (c.toNat : Int) = 2 ∨ wide (c.toNat : Int) = 3 ∨ wide (c.toNat : Int) = 4 := by omega
   have hwa : wideAt (c :: t) = (wide (c.toNat : Int)).toNat := rfl
   unfold runeN
   rw [hwa]
   rcases hc with e | e | e | e
   ·rw [e]
    exact Form.one _ (by have := wide_one e; omega)
   ·rw [e] at hb ⊢
    have hbb := wide_two e
    obtain ⟨d, hd, hn, _⟩ := badF_step (f := 0) hb
    cases t with
    | nil => cases hd
    | cons d' t =>
     obtain rfl : d' = d := by simpa using hd
     exact Form.two _ _ (by omega) (by omega) (by omega) (by omega)
   ·rw [e] at hb ⊢
    have hbb := wide_three e
    obtain ⟨d, hd, hn, hb⟩ := badF_step (f := 1) hb
    obtain ⟨d2, hd2, hn2, _⟩ := badF_step (f := 0) hb
    have hs := second_bd (c := (c.toNat : Int)) (d := (d.toNat : Int)) (by cases hq : second (c.toNat : Int) (d.toNat : Int) with
     | true => rfl
     | false => exact absurd (Or.inl ⟨rfl, hq⟩) hn)
    rcases t with _ | ⟨d', _ | ⟨d2', t⟩⟩
    ·cases hd
    ·cases hd2
    ·obtain rfl : d' = d := by simpa using hd
     obtain rfl : d2' = d2 := by simpa using hd2
     exact Form.three _ _ _ (by omega) (by omega) (by omega) (by omega) (by omega) (by omega) (by omega) (by omega)
   ·rw [e] at hb ⊢
    have hbb := wide_four e
    obtain ⟨d, hd, hn, hb⟩ := badF_step (f := 2) hb
    obtain ⟨d2, hd2, hn2, hb⟩ := badF_step (f := 1) hb
    obtain ⟨d3, hd3, hn3, _⟩ := badF_step (f := 0) hb
    have hs := second_bd (c := (c.toNat : Int)) (d := (d.toNat : Int)) (by cases hq : second (c.toNat : Int) (d.toNat : Int) with
     | true => rfl
     | false => exact absurd (Or.inl ⟨rfl, hq⟩) hn)
    rcases t with _ | ⟨d', _ | ⟨d2', _ | ⟨d3', t⟩⟩⟩
    ·cases hd
    ·cases hd2
    ·cases hd3
    ·obtain rfl : d' = d := by simpa using hd
     obtain rfl : d2' = d2 := by simpa using hd2
     obtain rfl : d3' = d3 := by simpa using hd3
     exact Form.four _ _ _ _ (by omega) (by omega) (by omega) (by omega) (by omega) (by omega) (by omega) (by omega) (by omega) (by omega)
def charsF : Nat → List UInt8 → List Nat
 | 0, _ => []
 | f + 1, r => if wideAt r = 0 then [] else runeN r :: charsF f (r.drop (wideAt r))
theorem wrong_chars : ∀ (f : Nat) (r : List UInt8) (p : Int), r.length ≤ f → (wrongF f r p).1 = 0 → Chars (r.map UInt8.toNat) (charsF f r) := by
 intro f
 induction f with
 | zero =>
  intro r p hl _
  obtain rfl : r = [] := List.eq_nil_of_length_eq_zero (by omega)
  exact Chars.nil
 | succ f ih =>
  intro r p hl h
  unfold wrongF scanF at h
  cases hs : faultAt r p with
  | some y =>
   rw [hs] at h
   cases r with
   | nil => exact Chars.nil
   | cons c t =>
    exfalso
    have hw := wide_bd (c.toNat : Int)
    by_cases h0 : wide (c.toNat : Int) = 0
    ·simp [faultAt, h0] at hs
     rw [← hs] at h
     have h : (30 : Int) = 0 := h
     omega
    ·have hb : badF (c :: t) (c.toNat : Int) p ((wide (c.toNat : Int)).toNat - 1) 1 = some y := by simpa [faultAt, h0] using hs
     have := badF_pos _ _ _ _ _ _ hb
     have h : y.1 = 0 := h
     omega
  | none =>
   rw [hs] at h
   have hp := wideAt_pos r p hs
   have hg := good_head r p hs
   have hr := ih (r.drop (wideAt r)) (p + wideAt r) (by rw [List.length_drop]; omega) h
   have he : r.map UInt8.toNat = (r.take (wideAt r)).map UInt8.toNat ++ (r.drop (wideAt r)).map UInt8.toNat := by
    rw [← List.map_append, List.take_append_drop]
   have hc : charsF (f + 1) r = runeN r :: charsF f (r.drop (wideAt r)) := by
    show (if wideAt r = 0 then [] else runeN r :: charsF f (r.drop (wideAt r))) = _
    rw [if_neg (by omega)]
   rw [he, hc]
   exact Chars.cons hg hr
def chars (l : List UInt8) : List Nat := charsF l.length l
theorem right_chars {l : List UInt8} (h : rightR l = true) : Chars (l.map UInt8.toNat) (chars l) :=
 wrong_chars l.length l 0 (Nat.le_refl _) (of_decide_eq_true h)
theorem units_cmp {a b : List UInt8} (ha : rightR a = true) (hb : rightR b = true) : cmpU ((chars a).flatMap unitsN) ((chars b).flatMap unitsN) = cmpL a b := by
 rw [cmpL_N]
 exact (chars_cmp (right_chars ha) (right_chars hb)).symm
end Nd
end Go.Proofs.YtbajkglacfheiaaGreatDoor
namespace Go.Proofs.YtbajkglacfheiaaGreatDoor
open Go.RowKit Ref3
namespace Nd
def base (c : Int) (nw : Nat) : Int := if nw = 2 then c - 192 else if nw = 3 then c - 224 else if nw = 4 then c - 240 else c
def valM (s : ByteArray) (i nw : Nat) : Nat → Int
 | 0 => 0
 | 1 => base ((s.data.toList.getD i 0).toNat : Int) nw
 | m + 2 => 64 * valM s i nw (m + 1) + ((s.data.toList.getD (i + (m + 1)) 0).toNat : Int) - 128
theorem valM_next (s : ByteArray) (i nw m : Nat) (h : 1 ≤ m) : valM s i nw (m + 1) = 64 * valM s i nw m + ((s.data.toList.getD (i + m) 0).toNat : Int) - 128 := by
 obtain ⟨m, rfl⟩ : ∃ m', m = m' + 1 := ⟨m - 1, by omega⟩
 rfl
theorem getD_at (s : ByteArray) (j : Nat) (h : j < s.size) : s.data.toList.getD j 0 = s[j] := by
 rw [List.getD_eq_getElem?_getD, List.getElem?_eq_getElem (by simpa using h)]
 rfl
theorem at_value (s : ByteArray) (i nw : Nat) (hi : i < s.size) (hs : s.size ≤ 140737488355328) (w : World) (hnw : wide (s[i].toNat : Int) = nw) (h1 : 1 ≤ nw) (hin : i + nw ≤ s.size)
  (hsec : 2 ≤ nw → second (s[i].toNat : Int) ((s.data.toList.getD (i + 1) 0).toNat : Int) = true)
  (hby : ∀ k, 1 ≤ k → k < nw → 128 ≤ ((s.data.toList.getD (i + k) 0).toNat : Int) ∧ ((s.data.toList.getD (i + k) 0).toNat : Int) ≤ 191)
  (hv : ∀ m, 1 ≤ m → m ≤ nw → 0 ≤ valM s i nw m ∧ valM s i nw m ≤ 1114111) :
  Calls Tryz.prog 149 #[.string s, .int .i64 i] w fun e w' => e = .returned (.tuple #[.int .i32 (valM s i nw nw), .int .i64 nw, .int .i64 0, .int .i64 0]) ∧ w = w' := by
 have hb0 : (0 : Int) ≤ (s[i].toNat : Int) := by omega
 have hb1 : (s[i].toNat : Int) ≤ 255 := by have := s[i].toNat_lt; omega
 have HS := Lib.hid hsec
 have HB := Lib.hid hby
 have HV := Lib.hid hv
 have hbw := wide_bd (s[i].toNat : Int)
 have hn4 : nw ≤ 4 := by omega
 have Hnw := Lib.hid hnw
 clear hsec hby hv
 go_enter Tryz.func149, Tryz.ntmps149
 go_wp2_with fail
 refine (wide_any _ hb0 hb1 _).mono ?_
 rintro e w' ⟨rfl, rfl⟩
 rw [hnw]
 clear hnw hbw
 have e0 : ((nw : Int) == 0) = false := by simp; omega
 go_wp2
 go_loop [9] (fun j => ∃ k : Nat, 1 ≤ k ∧ k ≤ nw ∧ j = .int .i64 k) (fun j => nw - (intOf j).toNat)
 case atStart => exact ⟨1, by omega, by omega, rfl⟩
 case round =>
  obtain ⟨k, hk1, hkn, rfl⟩ := hrel
  by_cases hlt : k < nw
  ·have hik : i + k < s.size := by omega
   have hbk := HB.out k hk1 hlt
   rw [getD_at s (i + k) hik] at hbk
   obtain ⟨h128, h191⟩ := hbk
   by_cases hk : k = 1
   ·subst hk
    have hse := HS.out (by omega)
    rw [getD_at s (i + 1) hik] at hse
    have Hsec := Lib.hid hse
    clear hse
    go_wp2_with fail
    refine (second_any _ _ _).mono ?_
    rintro e w' ⟨rfl, rfl⟩
    rw [Hsec.out]
    go_wp2
    go_round
    case rel => exact ⟨2, by omega, by omega, by go_num⟩
    case measure => simp [intOf]; omega
   ·have ek : ((k : Int) == 1) = false := by simp; omega
    go_wp2
    go_round
    case rel => exact ⟨k + 1, by omega, by omega, by go_num⟩
    case measure => simp [intOf]; omega
  ·obtain rfl : k = nw := by omega
   have hv1 := HV.out 1 (by omega) (by omega)
   have hbase : valM s i k 1 = base (s[i].toNat : Int) k := by
    show base _ _ = _
    rw [getD_at s i hi]
   have HBs := Lib.hid hbase
   clear hv1 hbase
   go_wp2
   all_goals
    go_loop [11, 12] (fun x j => ∃ m : Nat, 1 ≤ m ∧ m ≤ k ∧ Hid (x = .int .i64 (valM s i k m)) ∧ j = .int .i64 m) (fun _ j => k - (intOf j).toNat)
    case atStart => exact ⟨1, by omega, by omega, Lib.hid (by rw [HBs.out]; unfold base; first | rfl | (simp_all; try omega)), rfl⟩
    case round =>
     obtain ⟨m, hm1, hmk, HX, rfl⟩ := hrel
     have hx := HX.out
     subst hx
     have hvm := HV.out m hm1 hmk
     obtain ⟨hvm0, hvm1⟩ := hvm
     obtain ⟨q, hq⟩ : ∃ q, valM s i k m = q := ⟨_, rfl⟩
     by_cases hlt2 : m < k
     ·have hin2 : i + m < s.size := by omega
      have hnx := valM_next s i k m hm1
      have hvn := HV.out (m + 1) (by omega) (by omega)
      rw [getD_at s (i + m) hin2] at hnx
      rw [hnx] at hvn
      have hby := s[i + m].toNat_lt
      rw [hq] at hvm0 hvm1 hnx hvn ⊢
      have HN := Lib.hid hnx
      clear hnx hq HX
      go_wp2
      go_round
      case rel => exact ⟨m + 1, by omega, by omega, Lib.hid (by rw [HN.out]), by go_num⟩
      case measure => simp [intOf]; omega
     ·obtain rfl : m = k := by omega
      have Hq := Lib.hid hq
      rw [hq] at hvm0 hvm1 ⊢
      clear hq HX
      go_wp2
      exact bodyPost_ret (results_tmp4 (t := 4) (u := 5) (v := 6) (x := 7) rfl _ _ _) rfl ⟨by rw [Hq.out]; try rfl, rfl⟩
end Nd
end Go.Proofs.YtbajkglacfheiaaGreatDoor
namespace Go.Proofs.YtbajkglacfheiaaGreatDoor
open Go.RowKit Ref3
namespace Nd
theorem at_right (s : ByteArray) (i : Nat) (hi : i < s.size) (hs : s.size ≤ 140737488355328) (p : Int) (w : World) (h : faultAt (s.data.toList.drop i) p = none) :
  Calls Tryz.prog 149 #[.string s, .int .i64 i] w fun e w' =>
   e = .returned (.tuple #[.int .i32 (runeN (s.data.toList.drop i)), .int .i64 (wideAt (s.data.toList.drop i)), .int .i64 0, .int .i64 0]) ∧ w = w' := by
 have hg : ∀ k, (s.data.toList.drop i).getD k 0 = s.data.toList.getD (i + k) 0 := fun k => by
  rw [List.getD_eq_getElem?_getD, List.getElem?_drop, List.getD_eq_getElem?_getD]
 have hd : ∀ k d, (s.data.toList.drop i)[k]? = some d → s.data.toList.getD (i + k) 0 = d ∧ i + k < s.size := fun k d h => by
  rw [List.getElem?_drop] at h
  refine ⟨by rw [List.getD_eq_getElem?_getD, h]; rfl, ?_⟩
  obtain ⟨hk, _⟩ := List.getElem?_eq_some_iff.1 h
  simpa using hk
 have hi' : i < s.data.toList.length := by simpa using hi
 have hc : s.data.toList[i] = s[i] := rfl
 have hg0 := getD_at s i hi
 rw [faultAt_drop hi', hc] at h
 have hwa : wideAt (s.data.toList.drop i) = (wide (s[i].toNat : Int)).toNat := by rw [wideAt_drop hi', hc]
 have hw := wide_bd (s[i].toNat : Int)
 by_cases h0 : wide (s[i].toNat : Int) = 0
 ·simp [h0] at h
 rw [if_neg h0] at h
 have hcs : wide (s[i].toNat : Int) = 1 ∨ wide (s[i].toNat : Int) = 2 ∨ wide (s[i].toNat : Int) = 3 ∨ wide (s[i].toNat : Int) = 4 := by omega
 have hsc : ∀ d : UInt8, ¬ ((1 = 1 ∧ second (s[i].toNat : Int) (d.toNat : Int) = false) ∨ (d.toNat : Int) < 128 ∨ 191 < (d.toNat : Int)) → second (s[i].toNat : Int) (d.toNat : Int) = true := fun d hn => by
  cases hq : second (s[i].toNat : Int) (d.toNat : Int) with
  | true => rfl
  | false => exact absurd (Or.inl ⟨rfl, hq⟩) hn
 unfold runeN
 rw [hwa]
 simp only [hg, Nat.add_zero, hg0]
 generalize hcc : s[i].toNat = c at *
 have hv1 : ∀ nw, valM s i nw 1 = base (c : Int) nw := fun nw => by
  show base ((s.data.toList.getD i 0).toNat : Int) nw = _
  rw [hg0, hcc]
 rcases hcs with e | e | e | e
 ·have hb := wide_one e
  rw [e]
  have v1 : valM s i 1 1 = (c : Int) := (hv1 1).trans rfl
  refine (at_value s i 1 hi hs w (by rw [hcc]; exact e) (by omega) (by omega) (fun h => by omega) (fun k h1 h2 => by omega) (fun m h1 h2 => ?_)).mono ?_
  ·obtain rfl : m = 1 := by omega
   rw [v1]; omega
  ·rintro e w' ⟨rfl, rfl⟩
   refine ⟨?_, rfl⟩
   have : valM s i 1 1 = ((c % 128 : Nat) : Int) := by rw [v1]; omega
   rw [this]; rfl
 ·have hb := wide_two e
  rw [e] at h ⊢
  obtain ⟨d, h1, n1, _⟩ := badF_step (f := 0) h
  obtain ⟨g1, l1⟩ := hd _ _ h1
  have s1 := hsc d n1
  have v1 : valM s i 2 1 = (c : Int) - 192 := (hv1 2).trans rfl
  have v2 : valM s i 2 2 = 64 * ((c : Int) - 192) + (d.toNat : Int) - 128 := by rw [valM_next s i 2 1 (by omega), v1, g1]
  have hby : ∀ k, 1 ≤ k → k < 2 → 128 ≤ ((s.data.toList.getD (i + k) 0).toNat : Int) ∧ ((s.data.toList.getD (i + k) 0).toNat : Int) ≤ 191 := fun k h1 h2 => by
   obtain rfl : k = 1 := by omega
   rw [g1]; omega
  refine (at_value s i 2 hi hs w (by rw [hcc]; exact e) (by omega) (by omega) (fun _ => by rw [hcc, g1]; exact s1) hby (fun m h1 h2 => ?_)).mono ?_
  ·have : m = 1 ∨ m = 2 := by omega
   rcases this with rfl | rfl
   ·rw [v1]; omega
   ·rw [v2]; omega
  ·rintro e w' ⟨rfl, rfl⟩
   refine ⟨?_, rfl⟩
   have : valM s i 2 2 = ((64 * (c - 192) + (d.toNat - 128) : Nat) : Int) := by rw [v2]; omega
   rw [this, g1]; rfl
 ·have hb := wide_three e
  rw [e] at h ⊢
  obtain ⟨d, h1, n1, h⟩ := badF_step (f := 1) h
  obtain ⟨d2, h2, n2, _⟩ := badF_step (f := 0) h
  obtain ⟨g1, l1⟩ := hd _ _ h1
  obtain ⟨g2, l2⟩ := hd _ _ h2
  have s1 := hsc d n1
  have v1 : valM s i 3 1 = (c : Int) - 224 := (hv1 3).trans rfl
  have v2 : valM s i 3 2 = 64 * ((c : Int) - 224) + (d.toNat : Int) - 128 := by rw [valM_next s i 3 1 (by omega), v1, g1]
  have v3 : valM s i 3 3 = 64 * (64 * ((c : Int) - 224) + (d.toNat : Int) - 128) + (d2.toNat : Int) - 128 := by rw [valM_next s i 3 2 (by omega), v2, g2]
  have hby : ∀ k, 1 ≤ k → k < 3 → 128 ≤ ((s.data.toList.getD (i + k) 0).toNat : Int) ∧ ((s.data.toList.getD (i + k) 0).toNat : Int) ≤ 191 := fun k h1 h2 => by
   have : k = 1 ∨ k = 2 := by omega
   rcases this with rfl | rfl
   ·rw [g1]; omega
   ·rw [g2]; omega
  refine (at_value s i 3 hi hs w (by rw [hcc]; exact e) (by omega) (by omega) (fun _ => by rw [hcc, g1]; exact s1) hby (fun m h1 h2 => ?_)).mono ?_
  ·have : m = 1 ∨ m = 2 ∨ m = 3 := by omega
   rcases this with rfl | rfl | rfl
   ·rw [v1]; omega
   ·rw [v2]; omega
   ·rw [v3]; omega
  ·rintro e w' ⟨rfl, rfl⟩
   refine ⟨?_, rfl⟩
   have : valM s i 3 3 = ((4096 * (c - 224) + 64 * (d.toNat - 128) + (d2.toNat - 128) : Nat) : Int) := by rw [v3]; omega
   rw [this, g1, g2]; rfl
 ·have hb := wide_four e
  rw [e] at h ⊢
  obtain ⟨d, h1, n1, h⟩ := badF_step (f := 2) h
  obtain ⟨d2, h2, n2, h⟩ := badF_step (f := 1) h
  obtain ⟨d3, h3, n3, _⟩ := badF_step (f := 0) h
  obtain ⟨g1, l1⟩ := hd _ _ h1
  obtain ⟨g2, l2⟩ := hd _ _ h2
  obtain ⟨g3, l3⟩ := hd _ _ h3
  have s1 := hsc d n1
  have s2 := second_bd s1
  have v1 : valM s i 4 1 = (c : Int) - 240 := (hv1 4).trans rfl
  have v2 : valM s i 4 2 = 64 * ((c : Int) - 240) + (d.toNat : Int) - 128 := by rw [valM_next s i 4 1 (by omega), v1, g1]
  have v3 : valM s i 4 3 = 64 * (64 * ((c : Int) - 240) + (d.toNat : Int) - 128) + (d2.toNat : Int) - 128 := by rw [valM_next s i 4 2 (by omega), v2, g2]
  have v4 : valM s i 4 4 = 64 * (64 * (64 * ((c : Int) - 240) + (d.toNat : Int) - 128) + (d2.toNat : Int) - 128) + (d3.toNat : Int) - 128 := by rw [valM_next s i 4 3 (by omega), v3, g3]
  have hby : ∀ k, 1 ≤ k → k < 4 → 128 ≤ ((s.data.toList.getD (i + k) 0).toNat : Int) ∧ ((s.data.toList.getD (i + k) 0).toNat : Int) ≤ 191 := fun k h1 h2 => by
   have : k = 1 ∨ k = 2 ∨ k = 3 := by omega
   rcases this with rfl | rfl | rfl
   ·rw [g1]; omega
   ·rw [g2]; omega
   ·rw [g3]; omega
  refine (at_value s i 4 hi hs w (by rw [hcc]; exact e) (by omega) (by omega) (fun _ => by rw [hcc, g1]; exact s1) hby (fun m h1 h2 => ?_)).mono ?_
  ·have : m = 1 ∨ m = 2 ∨ m = 3 ∨ m = 4 := by omega
   rcases this with rfl | rfl | rfl | rfl
   ·rw [v1]; omega
   ·rw [v2]; omega
   ·rw [v3]; omega
   ·rw [v4]; omega
  ·rintro e w' ⟨rfl, rfl⟩
   refine ⟨?_, rfl⟩
   have : valM s i 4 4 = ((262144 * (c - 240) + 4096 * (d.toNat - 128) + 64 * (d2.toNat - 128) + (d3.toNat - 128) : Nat) : Int) := by rw [v4]; omega
   rw [this, g1, g2, g3]; rfl
end Nd
end Go.Proofs.YtbajkglacfheiaaGreatDoor
