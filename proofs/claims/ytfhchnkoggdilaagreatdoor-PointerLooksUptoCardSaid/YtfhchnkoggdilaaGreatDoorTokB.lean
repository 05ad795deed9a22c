/-
  Plain law: pointers there and back: what was read is printed as it stood; what was printed is read as it was; one begins another.
-/
import Derived.Test.YtfhchnkoggdilaaGreatDoorTok
namespace Go.Proofs.YtfhchnkoggdilaaGreatDoor
open Go Go.Lib
set_option linter.unusedVariables false
namespace Tok

/-! ### read, and printed -/
theorem esc_unesc : ∀ (N : Nat) (l : List UInt8), l.length ≤ N → badT l 0 = none → l.count 47 = 0 → (unesc l).flatMap esc = l
  | 0, l, hN, _, _ => by
    obtain rfl : l = [] := List.eq_nil_of_length_eq_zero (by omega)
    rfl
  | N + 1, l, hN, h, h47 => by
    rcases look l with rfl | ⟨c, t, rfl, hc⟩ | ⟨x, t, rfl, hx⟩ | ⟨t, rfl, hb⟩
    · rfl
    · rw [badT_not hc] at h
      rw [List.count_cons] at h47
      have hne : c ≠ 47 := by
        rintro rfl
        simp at h47
      rw [unesc_not hc, List.flatMap_cons, esc_unesc N t (by simpa using hN) (badT_shift _ _ _ h) (by omega)]
      simp [esc, hc, hne]
    · rw [badT_esc hx] at h
      rw [List.count_cons, List.count_cons] at h47
      have ih := esc_unesc N t (by simp at hN; omega) (badT_shift _ _ _ h) (by omega)
      rcases hx with rfl | rfl
      · rw [unesc_0, List.flatMap_cons, ih]; rfl
      · rw [unesc_1, List.flatMap_cons, ih]; rfl
    · rw [hb] at h
      cases h
theorem print_split : ∀ (N : Nat) (l : List UInt8), l.length ≤ N → Stroke l → badT l 0 = none → printS (splitF N l) = l
  | 0, l, hN, _, _ => by
    obtain rfl : l = [] := List.eq_nil_of_length_eq_zero (by omega)
    rfl
  | N + 1, l, hN, hs, h => by
    rcases hs with rfl | ⟨t, rfl⟩
    · rw [splitF_nil]; rfl
    · rw [badT_not (by decide)] at h
      obtain ⟨h1, h2⟩ := badT_token t.length t 1 0 0 (Nat.le_refl _) h
      have ih := print_split N _ (by rw [List.length_drop]; simp at hN; omega) (token_rest t) h2
      unfold printS at ih ⊢
      rw [splitF, List.flatMap_cons, ih, unesc_P _ _ (Nat.le_refl _) h1, piece, esc_unesc _ _ (Nat.le_refl _) h1 (token_no t), List.cons_append, token_all]
/-- a pointer that can be read is what its tokens print -/
theorem parse_print {w : Int × Int} {l : List UInt8} {ts : List (List UInt8)} (h : parseS w l = .ok ts) : w.1 = 0 ∧ printS ts = l ∧ ts.length ≤ 65536 := by
  by_cases hw : w.1 = 0
  · refine ⟨hw, ?_⟩
    have hstroke : Stroke l := by
      cases l with
      | nil => exact .inl rfl
      | cons c t =>
        by_cases hc : c = 47
        · rw [hc]; exact .inr ⟨t, rfl⟩
        · rw [parse_head t hw hc] at h
          cases h
    cases hb : badT l 0 with
    | some p =>
      rw [parse_bad hw hstroke hb] at h
      cases h
    | none =>
      by_cases hc : 65536 < l.count 47
      · rw [parse_long hw hstroke hb hc] at h
        cases h
      · rw [parse_good hw hstroke hb hc] at h
        injection h with h
        subst h
        exact ⟨print_split _ _ (Nat.le_refl _) hstroke hb, by rw [splitF_count _ _ (Nat.le_refl _) hstroke]; omega⟩
  · rw [parse_utf l hw] at h
    cases h

/-! ### printed, and read -/
/-- a token's letters as they are printed -/
def escs (t : List UInt8) : List UInt8 := t.flatMap esc
theorem escs_cons (c : UInt8) (t : List UInt8) : escs (c :: t) = esc c ++ escs t := List.flatMap_cons
theorem escs_no (t : List UInt8) : (escs t).count 47 = 0 := by
  induction t with
  | nil => rfl
  | cons c t ih =>
    rw [escs_cons, List.count_append, ih]
    unfold esc
    by_cases h : c = 126
    · rw [if_pos h]; rfl
    · rw [if_neg h]
      by_cases h' : c = 47
      · rw [if_pos h']; rfl
      · rw [if_neg h', List.count_cons]
        simp [h']
theorem unesc_escs (t r : List UInt8) (i : Nat) (toks : List (List UInt8)) (b : List UInt8) : ∃ j, run toks (some b) (escs t ++ r) i = run toks (some (b ++ t)) r j := by
  induction t generalizing b i with
  | nil => exact ⟨i, by simp [escs]⟩
  | cons c t ih =>
    rw [escs_cons]
    by_cases h : c = 126
    · subst h
      obtain ⟨j, hj⟩ := ih (i + 2) (b ++ [126])
      refine ⟨j, ?_⟩
      show run toks (some b) (126 :: 48 :: (escs t ++ r)) i = _
      rw [run_0, hj]
      simp
    · by_cases h' : c = 47
      · subst h'
        obtain ⟨j, hj⟩ := ih (i + 2) (b ++ [47])
        refine ⟨j, ?_⟩
        show run toks (some b) (126 :: 49 :: (escs t ++ r)) i = _
        rw [run_1, hj]
        simp
      · obtain ⟨j, hj⟩ := ih (i + 1) (b ++ [c])
        refine ⟨j, ?_⟩
        have e : esc c = [c] := by rw [esc, if_neg h, if_neg h']
        rw [e]
        show run toks (some b) (c :: (escs t ++ r)) i = _
        rw [run_some _ _ _ _ h' h, hj]
        simp
theorem print_cons (t : List UInt8) (ts : List (List UInt8)) : printS (t :: ts) = 47 :: (escs t ++ printS ts) := rfl
theorem print_stroke : ∀ ts : List (List UInt8), Stroke (printS ts)
  | [] => .inl rfl
  | t :: ts => .inr ⟨_, print_cons t ts⟩
theorem run_print : ∀ (ts toks : List (List UInt8)) (i : Nat), run toks none (printS ts) i = .ok (toks ++ ts)
  | [], toks, i => by
    rw [List.append_nil]
    rfl
  | t :: ts, toks, i => by
    rw [print_cons, run_none, if_pos rfl]
    obtain ⟨j, hj⟩ := unesc_escs t (printS ts) (i + 1) toks []
    rw [hj, run_close _ _ _ (print_stroke ts), run_print ts]
    simp
/-- what was printed is read as it was, if it is right -/
theorem parse_of_print {w : Int × Int} {ts : List (List UInt8)} (hw : w.1 = 0) (hl : ts.length ≤ 65536) : parseS w (printS ts) = .ok ts := by
  rw [parseS, if_pos hw, run_print, List.nil_append]
  dsimp only
  rw [if_neg (by omega)]

/-! ### one within another -/
theorem escs_inj {a b : List UInt8} (h : escs a = escs b) : a = b := by
  obtain ⟨i, hi⟩ := unesc_escs a [] 0 [] []
  obtain ⟨j, hj⟩ := unesc_escs b [] 0 [] []
  rw [h, hj, run_end, run_end] at hi
  simpa using hi.symm
theorem print_inj {a b : List (List UInt8)} (h : printS a = printS b) : a = b := by
  have h1 := run_print a [] 0
  have h2 := run_print b [] 0
  rw [h, h2] at h1
  simpa using h1.symm
/-- what stands ahead of the first stroke -/
theorem ahead_eq {a b r s : List UInt8} (ha : a.count 47 = 0) (hb : b.count 47 = 0) (hs : Stroke s) (h : a ++ 47 :: r <+: b ++ s) : a = b ∧ 47 :: r <+: s := by
  induction a generalizing b with
  | nil =>
    cases b with
    | nil => exact ⟨rfl, by simpa using h⟩
    | cons c b =>
      rw [List.nil_append, List.cons_append, List.cons_prefix_cons] at h
      rw [← h.1, List.count_cons_self] at hb
      omega
  | cons c a ih =>
    rw [List.count_cons] at ha
    have hc : c ≠ 47 := by
      rintro rfl
      simp at ha
    cases b with
    | nil =>
      rw [List.nil_append, List.cons_append] at h
      rcases hs with rfl | ⟨t, rfl⟩
      · exact absurd h.length_le (by simp)
      · rw [List.cons_prefix_cons] at h
        exact absurd h.1 hc
    | cons d b =>
      rw [List.cons_append, List.cons_append, List.cons_prefix_cons] at h
      rw [List.count_cons] at hb
      obtain ⟨h1, h2⟩ := ih (b := b) (by omega) (by omega) h.2
      exact ⟨by rw [h.1, h1], h2⟩
theorem print_prefix : ∀ (ts ms : List (List UInt8)), (printS ts ++ [47] <+: printS ms) → ts <+: ms
  | [], ms, _ => List.nil_prefix
  | t :: ts, ms, h => by
    cases ms with
    | nil => exact absurd h.length_le (by simp [printS])
    | cons m ms =>
      rw [print_cons, print_cons, List.cons_append, List.cons_prefix_cons, List.append_assoc] at h
      obtain ⟨r, hr⟩ : ∃ r, printS ts ++ [47] = 47 :: r := by
        rcases print_stroke ts with e | ⟨t', e⟩
        · exact ⟨[], by rw [e]; rfl⟩
        · exact ⟨t' ++ [47], by rw [e]; rfl⟩
      rw [hr] at h
      obtain ⟨h1, h2⟩ := ahead_eq (escs_no t) (escs_no m) (print_stroke ms) h.2
      rw [← hr] at h2
      rw [escs_inj h1]
      exact (List.cons_prefix_cons).2 ⟨rfl, print_prefix ts ms h2⟩
/-- a pointer's tokens begin with another one's: by their texts -/
theorem within_iff (ts ms : List (List UInt8)) : (printS ms = printS ts ∨ printS ts ++ [47] <+: printS ms) ↔ ts <+: ms := by
  constructor
  · rintro (h | h)
    · rw [print_inj h]; exact List.prefix_refl _
    · exact print_prefix ts ms h
  · rintro ⟨r, rfl⟩
    cases r with
    | nil => exact .inl (by rw [List.append_nil])
    | cons t r =>
      refine .inr ?_
      have : printS (ts ++ t :: r) = printS ts ++ (47 :: (escs t ++ printS r)) := by
        unfold printS
        rw [List.flatMap_append]
        rfl
      rw [this]
      exact ⟨escs t ++ printS r, by simp⟩
/-- the last token's piece begins at the last stroke -/
theorem print_last (ts : List (List UInt8)) (h : ts ≠ []) : printS ts = printS ts.dropLast ++ 47 :: escs (ts.getLast h) := by
  have e : printS ts = printS (ts.dropLast ++ [ts.getLast h]) := by rw [List.dropLast_concat_getLast h]
  refine e.trans ?_
  unfold printS
  rw [List.flatMap_append]
  simp [piece, escs]
end Tok
end Go.Proofs.YtfhchnkoggdilaaGreatDoor
