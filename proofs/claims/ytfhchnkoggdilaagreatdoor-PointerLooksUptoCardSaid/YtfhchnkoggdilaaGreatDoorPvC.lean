/-
  Plain laws: right texts joined and cut.
-/
import Derived.Test.YtfhchnkoggdilaaGreatDoorTokB
import Derived.Test.YtfhchnkoggdilaaGreatDoorRdL
namespace Go.Proofs.YtfhchnkoggdilaaGreatDoor
open Go.RowKit Utf Ref3 UtfLaw Tok
set_option linter.unusedVariables false
namespace TokC
/-- where the feeder stands behind these bytes, its places left out -/
def go8 : List UInt8 → Int → Int → Option (Int × Int)
  | [], h, m => some (h, m)
  | c :: r, h, m => match fstep h m (c.toNat : Int) with
    | none => none
    | some x => go8 r x.1 x.2
theorem go8_cons (c : UInt8) (r : List UInt8) (h m : Int) : go8 (c :: r) h m = (fstep h m (c.toNat : Int)).bind fun x => go8 r x.1 x.2 := by
  rw [go8]
  cases fstep h m (c.toNat : Int) <;> rfl
theorem go8_append : ∀ (a b : List UInt8) (h m : Int), go8 (a ++ b) h m = (go8 a h m).bind fun x => go8 b x.1 x.2
  | [], b, h, m => rfl
  | c :: a, b, h, m => by
    rw [List.cons_append, go8_cons, go8_cons]
    cases fstep h m (c.toNat : Int) with
    | none => rfl
    | some x => exact go8_append a b x.1 x.2
theorem feed_go8 : ∀ (l : List UInt8) (p h m : Int), match go8 l h m with
    | none => (feed l p h m).2.2.2 = true ∧ (feed l p h m).2.2.1 = 0
    | some x => (feed l p h m).2.2.2 = false ∧ (feed l p h m).2.2.1 = x.2
  | [], p, h, m => ⟨rfl, rfl⟩
  | c :: r, p, h, m => by
    rw [go8_cons, feed_cons]
    cases fstep h m (c.toNat : Int) with
    | none => exact ⟨rfl, rfl⟩
    | some x => exact feed_go8 r (p + 1) x.1 x.2
theorem right_go8 (l : List UInt8) : (wrong l).1 = 0 ↔ ∃ x, go8 l 0 0 = some x ∧ ¬ 0 < x.2 := by
  rw [← end_wrong]
  have h := feed_go8 l 0 0 0
  unfold endP
  cases hg : go8 l 0 0 with
  | none =>
    rw [hg] at h
    obtain ⟨h1, h2⟩ := h
    rw [h1, h2]
    simp
  | some x =>
    rw [hg] at h
    obtain ⟨h1, h2⟩ := h
    rw [h1, h2]
    by_cases hx : 0 < x.2
    · simp [hx]
    · simp [hx]
      omega
theorem go8_inv : ∀ (l : List UInt8) (h m : Int) (x : Int × Int), Inv h m → go8 l h m = some x → Inv x.1 x.2
  | [], h, m, x, hi, e => by
    injection e with e
    rw [← e]
    exact hi
  | c :: r, h, m, x, hi, e => by
    rw [go8_cons] at e
    cases hs : fstep h m (c.toNat : Int) with
    | none =>
      rw [hs] at e
      cases e
    | some y =>
      rw [hs] at e
      have hc := c.toNat_lt
      exact go8_inv r y.1 y.2 x (fstep_inv hi (by omega) (by omega) hs) e
theorem fstep_any (h h' : Int) (c : Int) : (fstep h 0 c).map (fun x => if x.2 = 0 then (0, 0) else x) = (fstep h' 0 c).map (fun x => if x.2 = 0 then (0, 0) else x) := by
  unfold fstep
  simp only [if_true]
  split
  · rfl
  · split <;> rfl
def Fine (l : List UInt8) (h : Int) : Prop := ∃ x, go8 l h 0 = some x ∧ ¬ 0 < x.2
theorem fstep_zero (h c : Int) : fstep h 0 c = if (form c).1 = 0 then none else if 1 < (form c).1 then some (c, 1) else some (h, 0) := by
  rw [fstep, if_pos rfl]
theorem fine_free (l : List UInt8) (h h' : Int) : Fine l h → Fine l h' := by
  induction l with
  | nil => exact fun _ => ⟨(h', 0), rfl, by simp⟩
  | cons c r ih =>
    unfold Fine at ih ⊢
    rw [go8_cons, go8_cons, fstep_zero, fstep_zero]
    generalize form (c.toNat : Int) = f at *
    by_cases h1 : f.1 = 0
    · rw [if_pos h1, if_pos h1]
      rintro ⟨x, e, _⟩
      cases e
    · rw [if_neg h1, if_neg h1]
      by_cases h2 : 1 < f.1
      · rw [if_pos h2, if_pos h2]
        exact id
      · rw [if_neg h2, if_neg h2]
        exact ih
theorem right_append {a b : List UInt8} (ha : (wrong a).1 = 0) (hb : (wrong b).1 = 0) : (wrong (a ++ b)).1 = 0 := by
  obtain ⟨x, e, hx⟩ := (right_go8 a).1 ha
  have hi := go8_inv a 0 0 x (by unfold Utf.Inv; omega) e
  have hx0 : x.2 = 0 := by unfold Utf.Inv at hi; omega
  obtain ⟨y, e2, hy⟩ := fine_free b 0 x.1 ((right_go8 b).1 hb)
  refine (right_go8 _).2 ⟨y, ?_, hy⟩
  rw [go8_append, e]
  show go8 b x.1 x.2 = some y
  rw [hx0]
  exact e2
theorem form_lo {h : Int} (h2 : 2 ≤ (form h).1) : 128 ≤ (form h).2.1 := by
  unfold form at h2 ⊢
  repeat' split
  all_goals first | (simp; done) | (simp_all; done) | omega
theorem fstep_low {h m c : Int} {y : Int × Int} (hi : Utf.Inv h m) (hc : c < 128) (e : fstep h m c = some y) : m = 0 ∧ y = (h, 0) := by
  obtain ⟨_, _, hm0, hm⟩ := hi
  by_cases h0 : m = 0
  · subst h0
    refine ⟨rfl, ?_⟩
    rw [fstep_zero] at e
    have : form c = (1, 0, 0) := by unfold form; rw [if_pos hc]
    rw [this] at e
    simp at e
    exact e.symm
  · exfalso
    have hlo := form_lo (h := h) (by omega)
    unfold fstep at e
    rw [if_neg h0] at e
    have hf : mayB (form h).2.1 (form h).2.2 m c = false := by
      unfold mayB
      split
      · rw [decide_eq_false (by omega)]; rfl
      · rw [decide_eq_false (by omega)]; rfl
    rw [hf] at e
    simp at e
theorem right_cut {a b : List UInt8} {c : UInt8} (hc : (c.toNat : Int) < 128) (h : (wrong (a ++ c :: b)).1 = 0) : (wrong a).1 = 0 ∧ (wrong b).1 = 0 := by
  obtain ⟨x, e, hx⟩ := (right_go8 _).1 h
  rw [go8_append] at e
  cases ha : go8 a 0 0 with
  | none =>
    rw [ha] at e
    cases e
  | some y =>
    rw [ha] at e
    replace e : go8 (c :: b) y.1 y.2 = some x := e
    rw [go8_cons] at e
    cases hs : fstep y.1 y.2 (c.toNat : Int) with
    | none =>
      rw [hs] at e
      cases e
    | some z =>
      rw [hs] at e
      obtain ⟨h1, h2⟩ := fstep_low (go8_inv a 0 0 y (by unfold Utf.Inv; omega) ha) hc hs
      subst h2
      refine ⟨(right_go8 a).2 ⟨y, ha, by omega⟩, (right_go8 b).2 (fine_free b y.1 0 ⟨x, e, hx⟩)⟩
theorem right_low {c : UInt8} (hc : (c.toNat : Int) < 128) : (wrong [c]).1 = 0 := by
  refine (right_go8 _).2 ⟨(0, 0), ?_, by simp⟩
  rw [go8_cons, fstep_zero]
  have : form (c.toNat : Int) = (1, 0, 0) := by unfold form; rw [if_pos hc]
  rw [this]
  rfl
theorem escs_split : ∀ l : List UInt8, escs l = l ∨ ∃ a c b, l = a ++ c :: b ∧ (c = 126 ∨ c = 47) ∧ escs l = a ++ (esc c ++ escs b)
  | [] => .inl rfl
  | c :: r => by
    by_cases hc : c = 126 ∨ c = 47
    · exact .inr ⟨[], c, r, rfl, hc, escs_cons c r⟩
    · have he : esc c = [c] := by
        unfold esc
        rw [if_neg (fun h => hc (.inl h)), if_neg (fun h => hc (.inr h))]
      rw [escs_cons, he]
      rcases escs_split r with h | ⟨a, d, b, h1, h2, h3⟩
      · exact .inl (by rw [h]; rfl)
      · exact .inr ⟨c :: a, d, b, by rw [h1]; rfl, h2, by rw [h3]; rfl⟩
theorem right_escs : ∀ (N : Nat) (l : List UInt8), l.length ≤ N → (wrong l).1 = 0 → (wrong (escs l)).1 = 0
  | N, l, hl, h => by
    rcases escs_split l with e | ⟨a, c, b, e1, hc, e2⟩
    · rw [e]
      exact h
    · cases N with
      | zero =>
        rw [e1, List.length_append, List.length_cons] at hl
        omega
      | succ N =>
        rw [e1, List.length_append, List.length_cons] at hl
        rw [e1] at h
        have hlow : (c.toNat : Int) < 128 := by rcases hc with rfl | rfl <;> decide
        obtain ⟨h1, h2⟩ := right_cut hlow h
        have h3 := right_escs N b (by omega) h2
        have h4 : (wrong (esc c)).1 = 0 := by
          rcases hc with rfl | rfl
          · exact right_append (a := [126]) (b := [48]) (right_low (by decide)) (right_low (by decide))
          · exact right_append (a := [126]) (b := [49]) (right_low (by decide)) (right_low (by decide))
        rw [e2]
        exact right_append h1 (right_append h4 h3)
theorem esc_two {c : UInt8} (hc : c = 126 ∨ c = 47) : ∃ x : UInt8, esc c = [126, x] ∧ (x.toNat : Int) < 128 := by
  rcases hc with rfl | rfl
  · exact ⟨48, by rw [esc, if_pos rfl], by decide⟩
  · exact ⟨49, by rw [esc, if_neg (by decide), if_pos rfl], by decide⟩
theorem right_of_escs (N : Nat) : ∀ l : List UInt8, l.length ≤ N → (wrong (escs l)).1 = 0 → (wrong l).1 = 0 := by
  induction N with
  | zero =>
    intro l hl h
    obtain rfl : l = [] := List.eq_nil_of_length_eq_zero (by omega)
    rfl
  | succ N ih =>
    intro l hl h
    rcases escs_split l with e | ⟨a, c, b, e1, hc, e2⟩
    · rwa [e] at h
    · rw [e1, List.length_append, List.length_cons] at hl
      have hlow : (c.toNat : Int) < 128 := by rcases hc with rfl | rfl <;> decide
      obtain ⟨x, hx, hxl⟩ := esc_two hc
      rw [e2, hx] at h
      have h' : (wrong (a ++ 126 :: (x :: escs b))).1 = 0 := h
      obtain ⟨h1, h2⟩ := right_cut (by decide) h'
      have h2' : (wrong ([] ++ x :: escs b)).1 = 0 := h2
      obtain ⟨_, h3⟩ := right_cut hxl h2'
      have h4 := ih b (by omega) h3
      rw [e1]
      exact right_append h1 (right_append (a := [c]) (b := b) (right_low hlow) h4)
theorem right_print : ∀ ts : List (List UInt8), (wrong (printS ts)).1 = 0 ↔ ∀ t ∈ ts, (wrong t).1 = 0
  | [] => ⟨fun _ t h => (by cases h), fun _ => rfl⟩
  | t :: ts => by
    have ih := right_print ts
    rw [print_cons]
    constructor
    · intro h
      obtain ⟨_, h1⟩ := right_cut (a := []) (c := 47) (b := escs t ++ printS ts) (by decide) h
      have h2 : (wrong (escs t)).1 = 0 ∧ (wrong (printS ts)).1 = 0 := by
        rcases print_stroke ts with e | ⟨r, e⟩
        · rw [e, List.append_nil] at h1
          rw [e]
          exact ⟨h1, rfl⟩
        · rw [e] at h1 ⊢
          obtain ⟨h3, h4⟩ := right_cut (c := 47) (by decide) h1
          exact ⟨h3, right_append (a := [47]) (b := r) (right_low (by decide)) h4⟩
      intro u hu
      rcases List.mem_cons.1 hu with rfl | hu
      · exact right_of_escs u.length u (Nat.le_refl _) h2.1
      · exact ih.1 h2.2 u hu
    · intro h
      exact right_append (a := [47]) (right_low (by decide)) (right_append (right_escs t.length t (Nat.le_refl _) (h t (List.mem_cons_self ..))) (ih.2 fun u hu => h u (List.mem_cons_of_mem _ hu)))
theorem badI_none : ∀ (ts : List (List UInt8)) (i : Nat), badI wrong ts i = none ↔ ∀ t ∈ ts, (wrong t).1 = 0
  | [], i => ⟨fun _ t h => (by cases h), fun _ => rfl⟩
  | t :: ts, i => by
    have ih := badI_none ts (i + 1)
    rw [badI]
    by_cases h : (wrong t).1 = 0
    · rw [if_pos h, ih]
      exact ⟨fun h' u hu => (List.mem_cons.1 hu).elim (fun e => e ▸ h) (h' u), fun h' u hu => h' u (List.mem_cons_of_mem _ hu)⟩
    · rw [if_neg h]
      exact ⟨fun e => (by cases e), fun h' => absurd (h' t (List.mem_cons_self ..)) h⟩
/-- what printed parses back -/
theorem print_back {ts : List (List UInt8)} {l : List UInt8} (h : printR wrong ts = .ok l) : l = printS ts ∧ ts.length ≤ 65536 ∧ parseS (wrong l) l = .ok ts := by
  unfold printR at h
  by_cases hl : 65536 < ts.length
  · rw [if_pos hl] at h
    cases h
  · rw [if_neg hl] at h
    cases hb : badI wrong ts 0 with
    | some i =>
      rw [hb] at h
      cases h
    | none =>
      rw [hb] at h
      injection h with h
      subst h
      exact ⟨rfl, by omega, parse_of_print ((right_print ts).2 ((badI_none ts 0).1 hb)) (by omega)⟩
/-- what parsed prints back -/
theorem parse_back {ts : List (List UInt8)} {l : List UInt8} (h : parseS (wrong l) l = .ok ts) : printR wrong ts = .ok l ∧ ∀ t ∈ ts, (wrong t).1 = 0 := by
  obtain ⟨h1, h2, h3⟩ := parse_print h
  have hr : ∀ t ∈ ts, (wrong t).1 = 0 := (right_print ts).1 (by rw [h2]; exact h1)
  refine ⟨?_, hr⟩
  unfold printR
  rw [if_neg (by omega), (badI_none ts 0).2 hr]
  show Except.ok (printS ts) = _
  rw [h2]
end TokC
end Go.Proofs.YtfhchnkoggdilaaGreatDoor
