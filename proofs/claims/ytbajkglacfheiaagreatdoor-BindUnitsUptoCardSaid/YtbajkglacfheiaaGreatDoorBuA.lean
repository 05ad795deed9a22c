/-
  Plain: a right text is its characters' forms, one behind the other.
-/
import Derived.Test.YtbajkglacfheiaaGreatDoorNtJ
import GoSem.Core.Utf8
namespace Go.Proofs.YtbajkglacfheiaaGreatDoor
open Go
set_option linter.unusedVariables false
set_option linter.unusedSimpArgs false
set_option maxRecDepth 100000
namespace Nd
/-- a character's form -/
def encB (r : Nat) : List UInt8 := (Go.Utf8.encode (r : Int)).data.toList
def okR (r : Nat) : Prop := r < 55296 ∨ (57344 ≤ r ∧ r ≤ 1114111)
theorem okR_valid {r : Nat} (h : okR r) : Go.Utf8.valid (r : Int) = true := by
  unfold okR at h
  unfold Go.Utf8.valid
  simp only [Bool.or_eq_true, Bool.and_eq_true, decide_eq_true_eq]
  omega
theorem enc_one {r : Nat} (h : r < 128) : encB r = [UInt8.ofNat r] := by
  unfold encB Go.Utf8.encode
  rw [if_pos (okR_valid (by unfold okR; omega))]
  simp only [Int.toNat_natCast]
  rw [if_pos h]
theorem enc_two {r : Nat} (h : 128 ≤ r) (h2 : r < 2048) : encB r = [UInt8.ofNat (0xC0 + r / 64), UInt8.ofNat (0x80 + r % 64)] := by
  unfold encB Go.Utf8.encode
  rw [if_pos (okR_valid (by unfold okR; omega))]
  simp only [Int.toNat_natCast]
  rw [if_neg (by omega), if_pos h2]
theorem enc_three {r : Nat} (h : 2048 ≤ r) (h2 : r < 65536) (ho : okR r) : encB r = [UInt8.ofNat (0xE0 + r / 4096), UInt8.ofNat (0x80 + r / 64 % 64), UInt8.ofNat (0x80 + r % 64)] := by
  unfold encB Go.Utf8.encode
  rw [if_pos (okR_valid ho)]
  simp only [Int.toNat_natCast]
  rw [if_neg (by omega), if_neg (by omega), if_pos h2]
theorem enc_four {r : Nat} (h : 65536 ≤ r) (ho : okR r) : encB r = [UInt8.ofNat (0xF0 + r / 262144), UInt8.ofNat (0x80 + r / 4096 % 64), UInt8.ofNat (0x80 + r / 64 % 64), UInt8.ofNat (0x80 + r % 64)] := by
  unfold encB Go.Utf8.encode
  rw [if_pos (okR_valid ho)]
  simp only [Int.toNat_natCast]
  rw [if_neg (by omega), if_neg (by omega), if_neg (by omega)]
theorem ofNat_eq {n : Nat} {c : UInt8} (h : n = c.toNat) : UInt8.ofNat n = c := by
  rw [h]
  exact UInt8.ofNat_toNat
/-- what feed says of a right text -/
def Fed (l : List UInt8) (p h m : Int) : Prop := ¬ 0 < (Utf.feed l p h m).2.2.1 ∧ (Utf.feed l p h m).2.2.2 = false
theorem right_fed {l : List UInt8} (h : rightB l = true) : Fed l 0 0 0 := by
  unfold rightB Utf.chkV Utf.endV Utf.faultV at h
  unfold Fed
  split at h
  · simp [Utf.isNil, Utf.spotV] at h
  · rename_i h1
    refine ⟨h1, ?_⟩
    split at h
    · simp [Utf.isNil, Utf.spotV] at h
    · rename_i h2
      simpa using h2
theorem fed_cons {c : UInt8} {r : List UInt8} {p h m : Int} (hf : Fed (c :: r) p h m) : ∃ x : Int × Int, Utf.fstep h m (c.toNat : Int) = some x ∧ Fed r (p + 1) x.1 x.2 := by
  unfold Fed Utf.feed at hf
  cases hs : Utf.fstep h m (c.toNat : Int) with
  | none =>
    rw [hs] at hf
    simp at hf
  | some x =>
    rw [hs] at hf
    exact ⟨x, rfl, hf⟩
theorem fed_nil {p h m : Int} (hf : Fed [] p h m) : ¬ 0 < m := hf.1
/-- one more byte of a form -/
theorem fed_more {l : List UInt8} {p c m : Int} (hm : 0 < m) (hf : Fed l p c m) : ∃ (d : UInt8) (r : List UInt8), l = d :: r ∧ Utf.mayB (Utf.form c).2.1 (Utf.form c).2.2 m (d.toNat : Int) = true ∧ Fed r (p + 1) c (if m + 1 = (Utf.form c).1 then 0 else m + 1) := by
  cases l with
  | nil => exact absurd hm (fed_nil hf)
  | cons d r =>
    obtain ⟨x, hs, hr⟩ := fed_cons hf
    unfold Utf.fstep at hs
    rw [if_neg (by omega)] at hs
    split at hs
    · rename_i hmay
      refine ⟨d, r, rfl, hmay, ?_⟩
      split at hs
      · rename_i he
        rw [if_pos he]
        injection hs with hs
        subst hs
        exact hr
      · rename_i he
        rw [if_neg he]
        injection hs with hs
        subst hs
        exact hr
    · cases hs
theorem form_one {c : Int} (h : ¬ (Utf.form c).1 = 0) (h2 : ¬ 1 < (Utf.form c).1) : c < 128 := by
  generalize hx : Utf.form c = x at *
  unfold Utf.form at hx
  repeat' split at hx
  all_goals subst hx
  all_goals first | assumption | (exfalso; revert h; decide) | (exfalso; revert h2; decide)
theorem form_two {c : Int} (h : (Utf.form c).1 = 2) : 194 ≤ c ∧ c < 224 ∧ (Utf.form c).2.1 = 128 ∧ (Utf.form c).2.2 = 191 := by
  generalize hx : Utf.form c = x at *
  unfold Utf.form at hx
  repeat' split at hx
  all_goals subst hx
  all_goals first | (exfalso; revert h; decide) | (exact ⟨by omega, by omega, rfl, rfl⟩)
theorem form_three {c : Int} (h : (Utf.form c).1 = 3) : 224 ≤ c ∧ c < 240 ∧ (c = 224 → 160 ≤ (Utf.form c).2.1) ∧ 128 ≤ (Utf.form c).2.1 ∧ (Utf.form c).2.2 ≤ 191 ∧ (c = 237 → (Utf.form c).2.2 ≤ 159) := by
  generalize hx : Utf.form c = x at *
  unfold Utf.form at hx
  repeat' split at hx
  all_goals subst hx
  all_goals first | (exfalso; revert h; decide) | (dsimp only; exact ⟨by omega, by omega, fun _ => by omega, by omega, by omega, fun _ => by omega⟩)
theorem form_four {c : Int} (h : (Utf.form c).1 = 4) : 240 ≤ c ∧ c ≤ 244 ∧ (c = 240 → 144 ≤ (Utf.form c).2.1) ∧ 128 ≤ (Utf.form c).2.1 ∧ (Utf.form c).2.2 ≤ 191 ∧ (c = 244 → (Utf.form c).2.2 ≤ 143) := by
  generalize hx : Utf.form c = x at *
  unfold Utf.form at hx
  repeat' split at hx
  all_goals subst hx
  all_goals first | (exfalso; revert h; decide) | (dsimp only; exact ⟨by omega, by omega, fun _ => by omega, by omega, by omega, fun _ => by omega⟩)
theorem form_wide (c : Int) : (Utf.form c).1 ≤ 4 := (Utf.form_bd c).2.1
theorem may_one {lo hi c : Int} (h : Utf.mayB lo hi 1 c = true) : lo ≤ c ∧ c ≤ hi := by
  unfold Utf.mayB at h
  rw [if_pos rfl] at h
  simpa using h
theorem may_on {lo hi i c : Int} (hi1 : ¬ i = 1) (h : Utf.mayB lo hi i c = true) : 128 ≤ c ∧ c ≤ 191 := by
  unfold Utf.mayB at h
  rw [if_neg hi1] at h
  simpa using h
theorem fed_runes : ∀ (n : Nat) (l : List UInt8) (p h : Int), l.length ≤ n → Fed l p h 0 → ∃ rs : List Nat, (∀ r ∈ rs, okR r) ∧ l = rs.flatMap encB
  | _, [], _, _, _, _ => ⟨[], by simp, rfl⟩
  | 0, c :: r, _, _, hn, _ => by simp at hn
  | n + 1, c :: r, p, h, hn, hf => by
    obtain ⟨x, hs, hr⟩ := fed_cons hf
    have hc := c.toNat_lt
    unfold Utf.fstep at hs
    rw [if_pos rfl] at hs
    have go : ∀ (r' : List UInt8) (q k : Int) (z : Nat) (pre : List UInt8), Fed r' q k 0 → r'.length ≤ n → okR z → encB z = pre → c :: r = pre ++ r' → ∃ rs : List Nat, (∀ r ∈ rs, okR r) ∧ c :: r = rs.flatMap encB := by
      intro r' q k z pre hf' hl hz he hcr
      obtain ⟨rs, h1, h2⟩ := fed_runes n r' q k hl hf'
      refine ⟨z :: rs, fun y hy => ?_, ?_⟩
      · rcases List.mem_cons.1 hy with rfl | hy
        · exact hz
        · exact h1 y hy
      · rw [hcr, List.flatMap_cons, he, ← h2]
    simp only [List.length_cons] at hn
    by_cases h0 : (Utf.form (c.toNat : Int)).1 = 0
    · rw [if_pos h0] at hs
      cases hs
    rw [if_neg h0] at hs
    by_cases hw : 1 < (Utf.form (c.toNat : Int)).1
    · rw [if_pos hw] at hs
      injection hs with hs
      subst hs
      dsimp only at hr
      obtain ⟨d, r1, rfl, hd, hf1⟩ := fed_more (by omega) hr
      have hd := may_one hd
      have hd' := d.toNat_lt
      simp only [List.length_cons] at hn
      by_cases w2 : (1 : Int) + 1 = (Utf.form (c.toNat : Int)).1
      · rw [if_pos w2] at hf1
        obtain ⟨a1, a2, a3, a4⟩ := form_two w2.symm
        rw [a3, a4] at hd
        refine go r1 _ _ ((c.toNat - 192) * 64 + (d.toNat - 128)) [c, d] hf1 (by omega) (by unfold okR; omega) ?_ rfl
        rw [enc_two (by omega) (by omega), ofNat_eq (c := c) (by omega), ofNat_eq (c := d) (by omega)]
      rw [if_neg w2] at hf1
      obtain ⟨e, r2, rfl, he, hf2⟩ := fed_more (by omega) hf1
      have he := may_on (by omega) he
      have he' := e.toNat_lt
      simp only [List.length_cons] at hn
      by_cases w3 : (1 : Int) + 1 + 1 = (Utf.form (c.toNat : Int)).1
      · rw [if_pos w3] at hf2
        obtain ⟨a1, a2, a3, a4, a5, a6⟩ := form_three w3.symm
        refine go r2 _ _ ((c.toNat - 224) * 4096 + (d.toNat - 128) * 64 + (e.toNat - 128)) [c, d, e] hf2 (by omega) (by unfold okR; omega) ?_ rfl
        rw [enc_three (by omega) (by omega) (by unfold okR; omega), ofNat_eq (c := c) (by omega), ofNat_eq (c := d) (by omega), ofNat_eq (c := e) (by omega)]
      rw [if_neg w3] at hf2
      obtain ⟨f, r3, rfl, hff, hf3⟩ := fed_more (by omega) hf2
      have hff := may_on (by omega) hff
      have hf' := f.toNat_lt
      simp only [List.length_cons] at hn
      have w4 : (1 : Int) + 1 + 1 + 1 = (Utf.form (c.toNat : Int)).1 := by
        have := form_wide (c.toNat : Int)
        omega
      rw [if_pos w4] at hf3
      obtain ⟨a1, a2, a3, a4, a5, a6⟩ := form_four w4.symm
      refine go r3 _ _ ((c.toNat - 240) * 262144 + (d.toNat - 128) * 4096 + (e.toNat - 128) * 64 + (f.toNat - 128)) [c, d, e, f] hf3 (by omega) (by unfold okR; omega) ?_ rfl
      rw [enc_four (by omega) (by unfold okR; omega), ofNat_eq (c := c) (by omega), ofNat_eq (c := d) (by omega), ofNat_eq (c := e) (by omega), ofNat_eq (c := f) (by omega)]
    · rw [if_neg hw] at hs
      injection hs with hs
      subst hs
      have h1 : c.toNat < 128 := by have := form_one h0 hw; omega
      exact go r _ _ c.toNat [c] hr (by omega) (by unfold okR; omega) (by rw [enc_one h1, ofNat_eq rfl]) rfl
theorem right_runes {l : List UInt8} (h : rightB l = true) : ∃ rs : List Nat, (∀ r ∈ rs, okR r) ∧ l = rs.flatMap encB := fed_runes l.length l 0 0 (Nat.le_refl _) (right_fed h)
end Nd
end Go.Proofs.YtbajkglacfheiaaGreatDoor

