/-
  Plain: a character's form is a right text.
-/
import Derived.Test.YtbajkglacfheiaaGreatDoorBuA
namespace Go.Proofs.YtbajkglacfheiaaGreatDoor
open Go
set_option linter.unusedVariables false
set_option linter.unusedSimpArgs false
set_option maxRecDepth 100000
namespace Nd
theorem fed_step {c : UInt8} {r : List UInt8} {p h m : Int} {x : Int × Int} (hs : Utf.fstep h m (c.toNat : Int) = some x) (hf : Fed r (p + 1) x.1 x.2) : Fed (c :: r) p h m := by
  unfold Fed Utf.feed
  rw [hs]
  exact hf
theorem fed_end (p h : Int) : Fed [] p h 0 := by
  unfold Fed Utf.feed
  exact ⟨by simp, rfl⟩
theorem fed_right {l : List UInt8} (h : Fed l 0 0 0) : rightB l = true := by
  obtain ⟨h1, h2⟩ := h
  unfold rightB Utf.chkV Utf.endV Utf.faultV
  rw [if_neg h1, h2]
  rfl
theorem chk_right {l : List UInt8} (h : rightB l = true) : Utf.chkV l = .nilIface := by
  rcases Utf.chkV_cases l with e | ⟨n, a, e⟩
  · exact e
  · unfold rightB at h
    rw [e] at h
    simp [Utf.isNil, Utf.spotV] at h
theorem step_head {c : Int} {p : Int} {wd lo hi : Int} (hf : Utf.form c = (wd, lo, hi)) (hw : 1 < wd) : Utf.fstep 0 0 c = some (c, 1) := by
  unfold Utf.fstep
  rw [if_pos rfl, hf]
  dsimp only
  rw [if_neg (by omega), if_pos hw]
theorem step_two {h c wd lo hi : Int} (hf : Utf.form h = (wd, lo, hi)) (h1 : lo ≤ c) (h2 : c ≤ hi) : Utf.fstep h 1 c = some (if (1 : Int) + 1 = wd then (h, 0) else (h, 1 + 1)) := by
  unfold Utf.fstep
  rw [if_neg (by omega), hf]
  dsimp only
  have : Utf.mayB lo hi 1 c = true := by
    unfold Utf.mayB
    rw [if_pos rfl]
    simp [h1, h2]
  rw [if_pos this]
  split <;> rfl
theorem step_on {h c wd lo hi m : Int} (hf : Utf.form h = (wd, lo, hi)) (hm : 2 ≤ m) (h1 : 128 ≤ c) (h2 : c ≤ 191) : Utf.fstep h m c = some (if m + 1 = wd then (h, 0) else (h, m + 1)) := by
  unfold Utf.fstep
  rw [if_neg (by omega), hf]
  dsimp only
  have : Utf.mayB lo hi m c = true := by
    unfold Utf.mayB
    rw [if_neg (by omega)]
    simp [h1, h2]
  rw [if_pos this]
  split <;> rfl
theorem form_1 {c : Int} (h : c < 128) : Utf.form c = (1, 0, 0) := by
  unfold Utf.form
  rw [if_pos h]
theorem form_2 {c : Int} (h1 : 194 ≤ c) (h2 : c < 224) : Utf.form c = (2, 128, 191) := by
  unfold Utf.form
  rw [if_neg (by omega), if_neg (by omega), if_pos h2]
theorem form_3 {c : Int} (h1 : 224 ≤ c) (h2 : c < 240) : ∃ lo hi, Utf.form c = (3, lo, hi) ∧ (c ≠ 224 → lo = 128) ∧ (c = 224 → lo = 160) ∧ (c ≠ 237 → hi = 191) ∧ (c = 237 → hi = 159) := by
  unfold Utf.form
  rw [if_neg (by omega), if_neg (by omega), if_neg (by omega)]
  by_cases a : c = 224
  · rw [if_pos a]
    exact ⟨_, _, rfl, fun h => absurd a h, fun _ => rfl, fun _ => rfl, fun h => by omega⟩
  · rw [if_neg a]
    by_cases b : c = 237
    · rw [if_pos b]
      exact ⟨_, _, rfl, fun _ => rfl, fun h => by omega, fun h => absurd b h, fun _ => rfl⟩
    · rw [if_neg b, if_pos h2]
      exact ⟨_, _, rfl, fun _ => rfl, fun h => by omega, fun _ => rfl, fun h => by omega⟩
theorem form_4 {c : Int} (h1 : 240 ≤ c) (h2 : c ≤ 244) : ∃ lo hi, Utf.form c = (4, lo, hi) ∧ (c ≠ 240 → lo = 128) ∧ (c = 240 → lo = 144) ∧ (c ≠ 244 → hi = 191) ∧ (c = 244 → hi = 143) := by
  unfold Utf.form
  rw [if_neg (by omega), if_neg (by omega), if_neg (by omega), if_neg (by omega), if_neg (by omega), if_neg (by omega)]
  by_cases a : c = 240
  · rw [if_pos a]
    exact ⟨_, _, rfl, fun h => absurd a h, fun _ => rfl, fun _ => rfl, fun h => by omega⟩
  · rw [if_neg a]
    by_cases b : c < 244
    · rw [if_pos b]
      exact ⟨_, _, rfl, fun _ => rfl, fun h => by omega, fun _ => rfl, fun h => by omega⟩
    · rw [if_neg b, if_pos (by omega)]
      exact ⟨_, _, rfl, fun _ => rfl, fun h => by omega, fun h => by omega, fun _ => rfl⟩
theorem n8 (n : Nat) (h : n < 256) : ((UInt8.ofNat n).toNat : Int) = (n : Int) := by
  rw [UInt8.toNat_ofNat', Nat.mod_eq_of_lt h]
theorem right_enc {r : Nat} (h : okR r) : rightB (encB r) = true := by
  apply fed_right
  unfold okR at h
  by_cases h1 : r < 128
  · rw [enc_one h1]
    have hs : Utf.fstep 0 0 ((UInt8.ofNat r).toNat : Int) = some (0, 0) := by
      rw [n8 r (by omega)]
      unfold Utf.fstep
      rw [if_pos rfl, form_1 (by omega)]
      rfl
    exact fed_step hs (fed_end _ _)
  by_cases h2 : r < 2048
  · rw [enc_two (by omega) h2]
    have f := form_2 (c := ((192 + r / 64 : Nat) : Int)) (by omega) (by omega)
    refine fed_step (x := (((192 + r / 64 : Nat) : Int), 1)) (by rw [n8 _ (by omega)]; exact step_head (p := 0) f (by omega)) ?_
    refine fed_step (by rw [n8 _ (by omega)]; exact step_two f (by omega) (by omega)) ?_
    exact fed_end _ _
  by_cases h3 : r < 65536
  · rw [enc_three (by omega) h3 h]
    obtain ⟨lo, hi, f, a1, a2, a3, a4⟩ := form_3 (c := ((224 + r / 4096 : Nat) : Int)) (by omega) (by omega)
    refine fed_step (x := (((224 + r / 4096 : Nat) : Int), 1)) (by rw [n8 _ (by omega)]; exact step_head (p := 0) f (by omega)) ?_
    refine fed_step (x := (((224 + r / 4096 : Nat) : Int), 2)) (by rw [n8 _ (by omega)]; exact step_two f (by omega) (by omega)) ?_
    refine fed_step (x := (((224 + r / 4096 : Nat) : Int), 0)) (by rw [n8 _ (by omega)]; exact step_on f (by omega) (by omega) (by omega)) ?_
    exact fed_end _ _
  · rw [enc_four (by omega) h]
    obtain ⟨lo, hi, f, a1, a2, a3, a4⟩ := form_4 (c := ((240 + r / 262144 : Nat) : Int)) (by omega) (by omega)
    refine fed_step (x := (((240 + r / 262144 : Nat) : Int), 1)) (by rw [n8 _ (by omega)]; exact step_head (p := 0) f (by omega)) ?_
    refine fed_step (x := (((240 + r / 262144 : Nat) : Int), 2)) (by rw [n8 _ (by omega)]; exact step_two f (by omega) (by omega)) ?_
    refine fed_step (x := (((240 + r / 262144 : Nat) : Int), 3)) (by rw [n8 _ (by omega)]; exact step_on f (by omega) (by omega) (by omega)) ?_
    refine fed_step (x := (((240 + r / 262144 : Nat) : Int), 0)) (by rw [n8 _ (by omega)]; exact step_on f (by omega) (by omega) (by omega)) ?_
    exact fed_end _ _
end Nd
end Go.Proofs.YtbajkglacfheiaaGreatDoor

