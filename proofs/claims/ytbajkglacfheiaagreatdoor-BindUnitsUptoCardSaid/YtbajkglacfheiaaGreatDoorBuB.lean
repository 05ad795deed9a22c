/-
  Plain: what the model decodes of a right text: its characters, one by one.
-/
import Derived.Test.YtbajkglacfheiaaGreatDoorBuA
namespace Go.Proofs.YtbajkglacfheiaaGreatDoor
open Go
set_option linter.unusedVariables false
set_option linter.unusedSimpArgs false
set_option maxRecDepth 100000
namespace Nd
theorem get_pre (pre l : List UInt8) (k : Nat) (c : UInt8) (h : l[k]? = some c) : ((ByteArray.mk (pre ++ l).toArray).get! (pre.length + k)).toNat = c.toNat := by
  have hk := (List.getElem?_eq_some_iff.1 h).1
  have e : (ByteArray.mk (pre ++ l).toArray).get! (pre.length + k) = (pre ++ l).toArray[pre.length + k]! := rfl
  rw [e, getElem!_pos (pre ++ l).toArray (pre.length + k) (by simp; omega), List.getElem_toArray, List.getElem_append_right (by omega)]
  have := (List.getElem?_eq_some_iff.1 h).2
  simp only [Nat.add_sub_cancel_left]
  rw [this]
theorem size_pre (pre l : List UInt8) : (ByteArray.mk (pre ++ l).toArray).size = pre.length + l.length := by
  show (pre ++ l).toArray.size = _
  simp
theorem nat8 (n : Nat) (h : n < 256) : (UInt8.ofNat n).toNat = n := by
  rw [UInt8.toNat_ofNat']
  exact Nat.mod_eq_of_lt h
theorem decode_at (pre post : List UInt8) (r : Nat) (h : okR r) : Go.Utf8.decode ⟨(pre ++ (encB r ++ post)).toArray⟩ pre.length = (r, (encB r).length) := by
  have hsz := size_pre pre (encB r ++ post)
  have hv := okR_valid h
  unfold okR at h
  by_cases h1 : r < 128
  · rw [enc_one h1] at hsz ⊢
    have g0 := get_pre pre ([UInt8.ofNat r] ++ post) 0 (UInt8.ofNat r) rfl
    rw [nat8 r (by omega)] at g0
    unfold Go.Utf8.decode
    simp only [g0]
    rw [if_pos h1]
    rfl
  by_cases h2 : r < 2048
  · rw [enc_two (by omega) h2] at hsz ⊢
    have g0 := get_pre pre ([UInt8.ofNat (0xC0 + r / 64), UInt8.ofNat (0x80 + r % 64)] ++ post) 0 _ rfl
    have g1 := get_pre pre ([UInt8.ofNat (0xC0 + r / 64), UInt8.ofNat (0x80 + r % 64)] ++ post) 1 _ rfl
    rw [nat8 _ (by omega)] at g0 g1
    simp only [List.length_append, List.length_cons, List.length_nil] at hsz
    have ec : (192 + r / 64) % 32 * 64 + (128 + r % 64) % 64 = r := by omega
    unfold Go.Utf8.decode
    simp only [g0, g1, hsz, ec]
    rw [if_neg (by omega), if_pos (by simp; omega), if_pos (by omega)]
    rfl
  by_cases h3 : r < 65536
  · rw [enc_three (by omega) h3 h] at hsz ⊢
    have g0 := get_pre pre ([UInt8.ofNat (0xE0 + r / 4096), UInt8.ofNat (0x80 + r / 64 % 64), UInt8.ofNat (0x80 + r % 64)] ++ post) 0 _ rfl
    have g1 := get_pre pre ([UInt8.ofNat (0xE0 + r / 4096), UInt8.ofNat (0x80 + r / 64 % 64), UInt8.ofNat (0x80 + r % 64)] ++ post) 1 _ rfl
    have g2 := get_pre pre ([UInt8.ofNat (0xE0 + r / 4096), UInt8.ofNat (0x80 + r / 64 % 64), UInt8.ofNat (0x80 + r % 64)] ++ post) 2 _ rfl
    rw [nat8 _ (by omega)] at g0 g1 g2
    simp only [List.length_append, List.length_cons, List.length_nil] at hsz
    have ec : (224 + r / 4096) % 16 * 4096 + (128 + r / 64 % 64) % 64 * 64 + (128 + r % 64) % 64 = r := by omega
    unfold Go.Utf8.decode
    simp only [g0, g1, g2, hsz, ec, hv]
    rw [if_neg (by omega), if_neg (by simp; omega), if_pos (by simp; omega), if_pos (by simp; omega)]
    rfl
  · rw [enc_four (by omega) h] at hsz ⊢
    have g0 := get_pre pre ([UInt8.ofNat (0xF0 + r / 262144), UInt8.ofNat (0x80 + r / 4096 % 64), UInt8.ofNat (0x80 + r / 64 % 64), UInt8.ofNat (0x80 + r % 64)] ++ post) 0 _ rfl
    have g1 := get_pre pre ([UInt8.ofNat (0xF0 + r / 262144), UInt8.ofNat (0x80 + r / 4096 % 64), UInt8.ofNat (0x80 + r / 64 % 64), UInt8.ofNat (0x80 + r % 64)] ++ post) 1 _ rfl
    have g2 := get_pre pre ([UInt8.ofNat (0xF0 + r / 262144), UInt8.ofNat (0x80 + r / 4096 % 64), UInt8.ofNat (0x80 + r / 64 % 64), UInt8.ofNat (0x80 + r % 64)] ++ post) 2 _ rfl
    have g3 := get_pre pre ([UInt8.ofNat (0xF0 + r / 262144), UInt8.ofNat (0x80 + r / 4096 % 64), UInt8.ofNat (0x80 + r / 64 % 64), UInt8.ofNat (0x80 + r % 64)] ++ post) 3 _ rfl
    rw [nat8 _ (by omega)] at g0 g1 g2 g3
    simp only [List.length_append, List.length_cons, List.length_nil] at hsz
    have ec : (240 + r / 262144) % 8 * 262144 + (128 + r / 4096 % 64) % 64 * 4096 + (128 + r / 64 % 64) % 64 * 64 + (128 + r % 64) % 64 = r := by omega
    unfold Go.Utf8.decode
    simp only [g0, g1, g2, g3, hsz, ec, hv]
    rw [if_neg (by omega), if_neg (by simp; omega), if_neg (by simp; omega), if_pos (by simp; omega), if_pos (by simp; omega)]
    rfl
theorem enc_pos (r : Nat) (h : okR r) : 1 ≤ (encB r).length := by
  by_cases h1 : r < 128
  · rw [enc_one h1]; simp
  by_cases h2 : r < 2048
  · rw [enc_two (by omega) h2]; simp
  by_cases h3 : r < 65536
  · rw [enc_three (by omega) h3 h]; simp
  · rw [enc_four (by omega) h]; simp
/-- the model's characters of a right text -/
theorem runes_from (rs : List Nat) : ∀ (pre : List UInt8) (b : Nat) (acc : Array Value), (∀ r ∈ rs, okR r) → (rs.flatMap encB).length ≤ b →
    Go.Conv.runesFrom ⟨(pre ++ rs.flatMap encB).toArray⟩ b pre.length acc = acc ++ (rs.map fun r => Value.int .i32 (Int.ofNat r)).toArray := by
  induction rs with
  | nil =>
    intro pre b acc _ _
    cases b with
    | zero => simp [Go.Conv.runesFrom]
    | succ b =>
      unfold Go.Conv.runesFrom
      rw [if_neg (by rw [size_pre]; simp)]
      simp
  | cons r rs ih =>
    intro pre b acc hr hb
    have h1 := enc_pos r (hr r (by simp))
    rw [List.flatMap_cons, List.length_append] at hb
    cases b with
    | zero => omega
    | succ b =>
      unfold Go.Conv.runesFrom
      rw [List.flatMap_cons, if_pos (by rw [size_pre, List.length_append]; omega), decode_at pre (rs.flatMap encB) r (hr r (by simp))]
      dsimp only
      have ih := ih (pre ++ encB r) b (acc.push (.int .i32 (Int.ofNat r))) (fun x hx => hr x (by simp [hx])) (by omega)
      rw [List.length_append, List.append_assoc] at ih
      rw [ih]
      simp
theorem runes_all {l : List UInt8} {rs : List Nat} (hr : ∀ r ∈ rs, okR r) (hl : l = rs.flatMap encB) : Go.Conv.runesFrom ⟨l.toArray⟩ (ByteArray.mk l.toArray).size 0 #[] = (rs.map fun r => Value.int .i32 (Int.ofNat r)).toArray := by
  subst hl
  have := runes_from rs [] (ByteArray.mk (rs.flatMap encB).toArray).size #[] hr (by show _ ≤ (rs.flatMap encB).toArray.size; simp)
  simpa using this
end Nd
end Go.Proofs.YtbajkglacfheiaaGreatDoor

