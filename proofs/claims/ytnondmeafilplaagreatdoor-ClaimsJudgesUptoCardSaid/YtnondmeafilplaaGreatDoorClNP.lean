/-
  Plain law of layer 25: who is within others; by which rules they are good.
-/
import Derived.Test.YtnondmeafilplaaGreatDoorClVP
namespace Go.Proofs.YtnondmeafilplaaGreatDoor
open Go.RowKit Ref3 Tok
set_option linter.unusedVariables false
namespace Cl
theorem lackF_out (among : List Txt) : ∀ (l out : List Txt), ∀ t ∈ out, t ∈ lackF among out l
  | [], out, t, h => h
  | s :: r, out, t, h => by
    rw [lackF]
    apply lackF_out among r
    split
    · exact List.mem_append_left _ h
    · exact h
theorem lackF_nil {among : List Txt} : ∀ {l out : List Txt}, lackF among out l = [] → ∀ t ∈ l, t ∈ among
  | s :: r, out, h, t, ht => by
    rw [lackF] at h
    have hs : s ∈ among := by
      refine Decidable.byContradiction fun hn => ?_
      have hc : among.contains s = false := by
        rw [Bool.eq_false_iff, Ne, List.contains_iff_mem]
        exact hn
      have hmem : s ∈ (if !(among.contains s) && !(out.contains s) then out ++ [s] else out) := by
        rw [hc]
        by_cases ho : out.contains s = true
        · rw [ho]
          exact List.contains_iff_mem.1 ho
        · rw [Bool.not_eq_true] at ho
          rw [ho]
          exact List.mem_append_right _ (List.mem_singleton.2 rfl)
      have := lackF_out among r _ s hmem
      rw [h] at this
      cases this
    rcases List.mem_cons.1 ht with rfl | ht
    · exact hs
    · exact lackF_nil h t ht
theorem lackF_sub {among : List Txt} : ∀ {l out : List Txt}, (∀ t ∈ l, t ∈ among) → lackF among out l = out
  | [], out, _ => rfl
  | s :: r, out, h => by
    have hc : among.contains s = true := List.contains_iff_mem.2 (h s (List.mem_cons_self ..))
    rw [lackF, hc]
    exact lackF_sub (fun t ht => h t (List.mem_cons_of_mem _ ht))
theorem lackF_iff {among l : List Txt} : lackF among [] l = [] ↔ ∀ t ∈ l, t ∈ among := ⟨lackF_nil, fun h => lackF_sub h⟩
/-- nothing is wider -/
def Inside (c o : C) : Prop := ∀ k, k < 8 → is o k = true → is c k = true ∧ widerB c o k = false
theorem badK_nil {c o : C} {k : Nat} : badK c o k = [] ↔ is c k = true ∧ widerB c o k = false := by
  unfold badK
  cases h1 : is c k <;> cases h2 : widerB c o k <;> simp
theorem badL_nil {c o : C} : badL c o = [] ↔ Inside c o := by
  unfold badL badsF Inside ksOf
  rw [List.flatMap_eq_nil_iff]
  constructor
  · intro h k hk hi
    exact badK_nil.1 (h k (List.mem_filter.2 ⟨List.mem_range.2 hk, hi⟩))
  · intro h k hk
    obtain ⟨h1, h2⟩ := List.mem_filter.1 hk
    exact badK_nil.2 (h k (List.mem_range.1 h1) h2)
theorem wider_iff {c o : C} {k : Nat} : widerB c o k = false ↔ (k = 3 → ∀ t ∈ c.for_, t ∈ o.for_) ∧ (k = 4 → o.from_ ≤ c.from_) ∧ (k = 6 → ∀ t ∈ c.may_, t ∈ o.may_) ∧ (k = 7 → c.until_ ≤ o.until_) := by
  unfold widerB
  split
  · rw [Bool.not_eq_false', List.isEmpty_iff, lackF_iff]
    exact ⟨fun h => ⟨fun _ => h, fun e => absurd e (by decide), fun e => absurd e (by decide), fun e => absurd e (by decide)⟩, fun h => h.1 rfl⟩
  · rw [decide_eq_false_iff_not]
    exact ⟨fun h => ⟨fun e => absurd e (by decide), fun _ => by omega, fun e => absurd e (by decide), fun e => absurd e (by decide)⟩, fun h => by have := h.2.1 rfl; omega⟩
  · rw [Bool.not_eq_false', List.isEmpty_iff, lackF_iff]
    exact ⟨fun h => ⟨fun e => absurd e (by decide), fun e => absurd e (by decide), fun _ => h, fun e => absurd e (by decide)⟩, fun h => h.2.2.1 rfl⟩
  · rw [decide_eq_false_iff_not]
    exact ⟨fun h => ⟨fun e => absurd e (by decide), fun e => absurd e (by decide), fun e => absurd e (by decide), fun _ => by omega⟩, fun h => by have := h.2.2.2 rfl; omega⟩
  · rename_i h3 h4 h6 h7
    exact ⟨fun _ => ⟨fun e => absurd e h3, fun e => absurd e h4, fun e => absurd e h6, fun e => absurd e h7⟩, fun _ => rfl⟩
theorem inside_self (c : C) : Inside c c := fun k _ hi => ⟨hi, wider_iff.2 ⟨fun _ t h => h, fun _ => Int.le_refl _, fun _ t h => h, fun _ => Int.le_refl _⟩⟩
theorem inside_trans {a b c : C} (h1 : Inside a b) (h2 : Inside b c) : Inside a c := by
  intro k hk hi
  obtain ⟨hb, w2⟩ := h2 k hk hi
  obtain ⟨ha, w1⟩ := h1 k hk hb
  obtain ⟨p3, p4, p6, p7⟩ := wider_iff.1 w1
  obtain ⟨q3, q4, q6, q7⟩ := wider_iff.1 w2
  exact ⟨ha, wider_iff.2 ⟨fun e t ht => q3 e t (p3 e t ht), fun e => by have := p4 e; have := q4 e; omega, fun e t ht => q6 e t (p6 e t ht), fun e => by have := p7 e; have := q7 e; omega⟩⟩
/-- what is good was asked of all -/
theorem good_all {c : C} {r : R} (h : (judge0 c r).kind = 1) : alienB c r = false ∧ otherB c r = false ∧ earlyB c r = false ∧ overB c r = false ∧ lackF c.may_ [] r.may_ = [] := by
  unfold judge0 at h
  split at h
  · cases h
  · unfold judge1 at h
    split at h
    · cases h
    · unfold judge2 at h
      split at h
      · cases h
      · unfold judge3 at h
        split at h
        · cases h
        · unfold judge4 at h
          split at h
          · cases h
          · unfold judge5 at h
            split at h
            · rename_i h1 h2 h3 h4 h5
              exact ⟨by simpa using h1, by simpa using h2, by simpa using h3, by simpa using h4, List.isEmpty_iff.1 h5⟩
            · cases h
theorem kind_other {c : C} {r : R} (h : (judge0 c r).kind = 6) : otherB c r = true := by
  unfold judge0 at h
  split at h
  · cases h
  · unfold judge1 at h
    split at h
    · cases h
    · unfold judge2 at h
      split at h
      · assumption
      · unfold judge3 at h
        split at h
        · cases h
        · unfold judge4 at h
          split at h
          · cases h
          · unfold judge5 at h
            split at h <;> cases h
theorem kind_early {c : C} {r : R} (h : (judge0 c r).kind = 2) : earlyB c r = true := by
  unfold judge0 at h
  split at h
  · cases h
  · unfold judge1 at h
    split at h
    · cases h
    · unfold judge2 at h
      split at h
      · cases h
      · unfold judge3 at h
        split at h
        · assumption
        · unfold judge4 at h
          split at h
          · cases h
          · unfold judge5 at h
            split at h <;> cases h
theorem kind_over {c : C} {r : R} (h : (judge0 c r).kind = 3) : overB c r = true := by
  unfold judge0 at h
  split at h
  · cases h
  · unfold judge1 at h
    split at h
    · cases h
    · unfold judge2 at h
      split at h
      · cases h
      · unfold judge3 at h
        split at h
        · cases h
        · unfold judge4 at h
          split at h
          · assumption
          · unfold judge5 at h
            split at h <;> cases h
theorem kind_barred {c : C} {r : R} (h : (judge0 c r).kind = 7) : lackF c.may_ [] r.may_ ≠ [] := by
  unfold judge0 at h
  split at h
  · cases h
  · unfold judge1 at h
    split at h
    · cases h
    · unfold judge2 at h
      split at h
      · cases h
      · unfold judge3 at h
        split at h
        · cases h
        · unfold judge4 at h
          split at h
          · cases h
          · unfold judge5 at h
            split at h
            · cases h
            · rename_i h5
              intro e
              exact h5 (List.isEmpty_iff.2 e)
theorem over_inside {c o : C} {r : R} (h : Inside c o) (hk : (judge0 o r).kind = 3) : (judge0 c r).kind ≠ 1 := by
  intro h1
  have hov := kind_over hk
  obtain ⟨_, _, _, hv, _⟩ := good_all h1
  unfold overB at hov hv
  obtain ⟨hi, hd⟩ := Bool.and_eq_true_iff.1 hov
  obtain ⟨hc, hw⟩ := h 7 (by decide) hi
  have hc' : inB c.has (key 7) = true := hc
  have h7 := (wider_iff.1 hw).2.2.2 rfl
  rw [hc', Bool.true_and, decide_eq_false_iff_not] at hv
  have := of_decide_eq_true hd
  omega
theorem other_inside {c o : C} {r : R} (h : Inside c o) (hk : (judge0 o r).kind = 6) : (judge0 c r).kind ≠ 1 := by
  intro h1
  have hot := kind_other hk
  obtain ⟨_, hv, _⟩ := good_all h1
  unfold otherB at hot hv
  obtain ⟨hw, hot⟩ := Bool.and_eq_true_iff.1 hot
  obtain ⟨hi, hn⟩ := Bool.and_eq_true_iff.1 hot
  obtain ⟨hc, hwd⟩ := h 3 (by decide) hi
  have hc' : inB c.has (key 3) = true := hc
  have h3 := (wider_iff.1 hwd).1 rfl
  rw [hw, hc', Bool.true_and, Bool.true_and, Bool.not_eq_false'] at hv
  have hm : r.who ∈ o.for_ := h3 _ (List.contains_iff_mem.1 hv)
  have : inB o.for_ r.who = true := List.contains_iff_mem.2 hm
  rw [this] at hn
  cases hn
theorem barred_inside {c o : C} {r : R} (h : Inside c o) (hk : (judge0 o r).kind = 7) (hi : is o 6 = true) : (judge0 c r).kind ≠ 1 := by
  intro h1
  have hb := kind_barred hk
  obtain ⟨_, _, _, _, hv⟩ := good_all h1
  obtain ⟨hc, hwd⟩ := h 6 (by decide) hi
  have h6 := (wider_iff.1 hwd).2.2.1 rfl
  exact hb (lackF_iff.2 fun t ht => h6 t (lackF_iff.1 hv t ht))
theorem early_inside {c o : C} {r : R} (h : Inside c o) (hk : (judge0 o r).kind = 2) (hi : is o 1 = false) : (judge0 c r).kind ≠ 1 := by
  intro h1
  have he := kind_early hk
  obtain ⟨_, _, hv, _, _⟩ := good_all h1
  unfold earlyB at he hv
  obtain ⟨h2, hd⟩ := Bool.and_eq_true_iff.1 he
  have hd := of_decide_eq_true hd
  have hi' : inB o.has (key 1) = false := hi
  unfold startP at h2 hd
  rw [hi'] at h2 hd
  cases h4 : inB o.has (key 4) with
  | false =>
    rw [h4] at h2
    cases h2
  | true =>
    rw [h4] at hd
    obtain ⟨hc, hwd⟩ := h 4 (by decide) h4
    have hc' : inB c.has (key 4) = true := hc
    have hf := (wider_iff.1 hwd).2.1 rfl
    have hd' : r.now + r.slack < o.from_ := hd
    unfold startP at hv
    rw [hc'] at hv
    cases h5 : inB c.has (key 1) with
    | false =>
      rw [h5] at hv
      have : r.now + r.slack < c.from_ := by omega
      simp [this] at hv
    | true =>
      rw [h5] at hv
      have : r.now + r.slack < max c.from_ c.at_ := by omega
      simp [this] at hv
end Cl
end Go.Proofs.YtnondmeafilplaaGreatDoor
