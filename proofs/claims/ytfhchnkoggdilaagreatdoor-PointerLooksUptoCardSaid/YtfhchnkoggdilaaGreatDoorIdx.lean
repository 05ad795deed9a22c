/-
  Plain law: the index that a token says: by strconv.Atoi and strconv.Itoa, and by the document's reckoning.
-/
import Derived.Lib.AtoiAllCases
import Derived.Lib.ItoaMem
namespace Go.Proofs.YtfhchnkoggdilaaGreatDoor
open Go Go.Lib
set_option linter.unusedVariables false
namespace Idx
/-- the document's loop over the digits -/
def idxLoop : List UInt8 → Nat → Option Nat
  | [], x => some x
  | c :: r, x => if c.toNat < 48 ∨ 57 < c.toNat then none else if (9223372036854775807 - (c.toNat - 48)) / 10 < x then none else idxLoop r (10 * x + (c.toNat - 48))
def Lead (l : List UInt8) : Prop := l = [] ∨ (1 < l.length ∧ l.head? = some 48)
instance (l : List UInt8) : Decidable (Lead l) := by unfold Lead; infer_instance
def idxR (l : List UInt8) (n : Int) : Int := if Lead l then -1 else match idxLoop l 0 with
  | none => -1
  | some x => if n ≤ (x : Int) then -1 else (x : Int)
/-- the code's answer -/
def idxC (l : List UInt8) (n : Int) : Option Int := match atoiAll l with
  | .ok v => if v < 0 ∨ n ≤ v ∨ ¬ itoa v = l then none else some v
  | _ => none
theorem idx_cons (c : UInt8) (r : List UInt8) (x : Nat) : idxLoop (c :: r) x = if c.toNat < 48 ∨ 57 < c.toNat then none else if (9223372036854775807 - (c.toNat - 48)) / 10 < x then none else idxLoop r (10 * x + (c.toNat - 48)) := by rw [idxLoop]
theorem idx_snoc : ∀ (p : List UInt8) (c : UInt8) (x : Nat), idxLoop (p ++ [c]) x = (idxLoop p x).bind fun y => idxLoop [c] y
  | [], c, x => rfl
  | d :: p, c, x => by
    rw [List.cons_append, idx_cons, idx_cons d p]
    split
    · rfl
    · split
      · rfl
      · exact idx_snoc p c _
theorem dec_big {u : Nat} (h : ¬ u < 10) : decDigits u = decDigits (u / 10) ++ [UInt8.ofNat (48 + u % 10)] := by rw [decDigits, dif_neg h]
theorem byte_toNat {n : Nat} (h : n < 256) : (UInt8.ofNat n).toNat = n := by
  simp [UInt8.toNat_ofNat']
  omega
theorem one_step {d x : Nat} (h : d < 10) (hx : 10 * x + d < 9223372036854775808) : idxLoop [UInt8.ofNat (48 + d)] x = some (10 * x + d) := by
  rw [idx_cons, byte_toNat (by omega), if_neg (by omega), if_neg (by omega), idxLoop]
  congr 2
  omega
theorem loop_dec (u : Nat) (hu : u < 9223372036854775808) : idxLoop (decDigits u) 0 = some u := by
  induction u using Nat.strongRecOn with
  | _ u ih =>
    by_cases h : u < 10
    · rw [decDigits_one h, one_step h (by omega)]
      simp
    · rw [dec_big h, idx_snoc, ih (u / 10) (by omega) (by omega)]
      show idxLoop _ (u / 10) = _
      rw [one_step (by omega) (by omega)]
      congr 1
      omega
theorem dec_head (u : Nat) : ∃ c r, decDigits u = c :: r ∧ (0 < u → c ≠ 48) := by
  induction u using Nat.strongRecOn with
  | _ u ih =>
    by_cases h : u < 10
    · refine ⟨_, [], decDigits_one h, fun h0 e => ?_⟩
      have := congrArg UInt8.toNat e
      rw [byte_toNat (by omega)] at this
      have : (48 : UInt8).toNat = 48 := rfl
      omega
    · obtain ⟨c, r, hc, hn⟩ := ih (u / 10) (by omega)
      exact ⟨c, r ++ [UInt8.ofNat (48 + u % 10)], by rw [dec_big h, hc]; rfl, fun _ => hn (by omega)⟩
theorem dec_lead (u : Nat) : ¬ Lead (decDigits u) := by
  obtain ⟨c, r, hc, hn⟩ := dec_head u
  rintro (h | ⟨h1, h2⟩)
  · rw [hc] at h
    cases h
  · by_cases h0 : u = 0
    · subst h0
      rw [decDigits_one (by decide)] at h1
      simp at h1
    · rw [hc] at h2
      injection h2 with h2
      exact hn (by omega) h2
theorem dec_ten {y d : Nat} (hy : 0 < y) (hd : d < 10) : decDigits (10 * y + d) = decDigits y ++ [UInt8.ofNat (48 + d)] := by
  rw [dec_big (by omega), show (10 * y + d) / 10 = y from by omega, show (10 * y + d) % 10 = d from by omega]
theorem digit_of {c : UInt8} {x y : Nat} (h : idxLoop [c] x = some y) : 48 ≤ c.toNat ∧ c.toNat ≤ 57 ∧ y = 10 * x + (c.toNat - 48) ∧ y < 9223372036854775808 := by
  rw [idx_cons] at h
  by_cases h1 : c.toNat < 48 ∨ 57 < c.toNat
  · rw [if_pos h1] at h
    cases h
  · rw [if_neg h1] at h
    by_cases h2 : (9223372036854775807 - (c.toNat - 48)) / 10 < x
    · rw [if_pos h2] at h
      cases h
    · rw [if_neg h2, idxLoop] at h
      injection h with h
      omega
theorem byte_of {c : UInt8} (h : 48 ≤ c.toNat) : UInt8.ofNat (48 + (c.toNat - 48)) = c := by
  rw [show 48 + (c.toNat - 48) = c.toNat from by omega]
  exact UInt8.toNat_inj.1 (byte_toNat c.toNat_lt)
theorem loop_inv : ∀ (N : Nat) (l : List UInt8) (x : Nat), l.length = N → ¬ Lead l → idxLoop l 0 = some x → decDigits x = l ∧ x < 9223372036854775808
  | 0, l, x, hN, hl, h => by
    obtain rfl : l = [] := List.eq_nil_of_length_eq_zero hN
    exact absurd (.inl rfl) hl
  | N + 1, l, x, hN, hl, h => by
    have hne : l ≠ [] := by
      rintro rfl
      cases hN
    have he := (List.dropLast_concat_getLast hne).symm
    generalize l.dropLast = p at he
    generalize l.getLast hne = c at he
    subst he
    rw [idx_snoc] at h
    cases hp : idxLoop p 0 with
    | none =>
      rw [hp] at h
      cases h
    | some y =>
      rw [hp] at h
      obtain ⟨h1, h2, h3, h4⟩ := digit_of (h : idxLoop [c] y = some x)
      by_cases hp0 : p = []
      · subst hp0
        injection hp with hp
        subst hp
        refine ⟨?_, h4⟩
        rw [h3, decDigits_one (by omega)]
        simp [byte_of h1]
      · have hlen : p.length = N := by simpa using hN
        have hlp : ¬ Lead p := by
          rintro (e | ⟨e1, e2⟩)
          · exact hp0 e
          · refine hl (.inr ⟨by simp; omega, ?_⟩)
            rw [List.head?_append, e2]
            rfl
        obtain ⟨i1, i2⟩ := loop_inv N p y hlen hlp hp
        have hy : 0 < y := by
          refine Nat.pos_of_ne_zero fun e => ?_
          subst e
          rw [decDigits_one (by decide)] at i1
          refine hl (.inr ⟨by rw [← i1]; simp, ?_⟩)
          rw [← i1]
          rfl
        rw [h3]
        exact ⟨by rw [dec_ten hy (by omega), i1, byte_of h1], by omega⟩
theorem parse_loop : ∀ (l : List UInt8) (x y : Nat), idxLoop l x = some y → y < 9223372036854775808 → parseUint10 x l = .ok y
  | [], x, y, h, _ => by
    injection h with h
    subst h
    rfl
  | c :: r, x, y, h, hy => by
    rw [idx_cons] at h
    by_cases h1 : c.toNat < 48 ∨ 57 < c.toNat
    · rw [if_pos h1] at h
      cases h
    · rw [if_neg h1] at h
      by_cases h2 : (9223372036854775807 - (c.toNat - 48)) / 10 < x
      · rw [if_pos h2] at h
        cases h
      · rw [if_neg h2] at h
        have ih := parse_loop r _ y h hy
        rw [parseUint10, if_pos (by omega), if_neg (by omega), if_neg (by omega), show x * 10 + (c.toNat - 48) = 10 * x + (c.toNat - 48) from by omega]
        exact ih
theorem atoi_dec (u : Nat) (hu : u < 9223372036854775808) : atoiAll (decDigits u) = .ok (u : Int) := by
  have h := loop_dec u hu
  have hp := parse_loop _ _ _ h hu
  obtain ⟨c, r, hc, _⟩ := dec_head u
  rw [hc] at h hp ⊢
  have hd : 48 ≤ c.toNat ∧ c.toNat ≤ 57 := by
    rw [idx_cons] at h
    by_cases h1 : c.toNat < 48 ∨ 57 < c.toNat
    · rw [if_pos h1] at h
      cases h
    · omega
  rw [atoiAll_plain c r (by omega) (by omega), parseMag, if_neg (by simp), hp, signless, if_neg (by omega)]
theorem idx_law (l : List UInt8) (n : Int) : idxC l n = if idxR l n < 0 then none else some (idxR l n) := by
  by_cases hx : ∃ x : Nat, ¬ Lead l ∧ idxLoop l 0 = some x ∧ ¬ n ≤ (x : Int)
  · obtain ⟨x, h1, h2, h3⟩ := hx
    obtain ⟨h4, h5⟩ := loop_inv _ l x rfl h1 h2
    have hr : idxR l n = (x : Int) := by rw [idxR, if_neg h1, h2]; simp only []; rw [if_neg h3]
    rw [hr, if_neg (by omega), idxC, ← h4, atoi_dec x h5]
    simp only []
    rw [itoa_nonneg, if_neg]
    rintro (h | h | h)
    · omega
    · exact h3 h
    · exact h rfl
  · have hr : idxR l n = -1 := by
      unfold idxR
      by_cases h1 : Lead l
      · rw [if_pos h1]
      · rw [if_neg h1]
        cases h2 : idxLoop l 0 with
        | none => rfl
        | some x =>
          simp only []
          by_cases h3 : n ≤ (x : Int)
          · rw [if_pos h3]
          · exact absurd ⟨x, h1, h2, h3⟩ hx
    rw [hr, if_pos (by decide)]
    unfold idxC
    rcases ha : atoiAll l with v | _ | _
    rotate_left
    · rfl
    · rfl
    · simp only []
      by_cases hv : v < 0 ∨ n ≤ v ∨ ¬ itoa v = l
      · rw [if_pos hv]
      · exfalso
        have hb := atoiAll_bounds ha
        have h0 : 0 ≤ v := by omega
        obtain ⟨u, rfl⟩ := Int.eq_ofNat_of_zero_le h0
        have hl : itoa (u : Int) = l := by
          refine Decidable.byContradiction fun e => hv (.inr (.inr e))
        rw [itoa_nonneg] at hl
        refine hx ⟨u, ?_, ?_, fun h => hv (.inr (.inl h))⟩
        · rw [← hl]
          exact dec_lead u
        · rw [← hl]
          exact loop_dec u (by omega)
end Idx
end Go.Proofs.YtfhchnkoggdilaaGreatDoor
