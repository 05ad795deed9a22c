/-
  Walks of the reference of layer 3: wide, second, At, Wrong, Right, Check. Walks of the reference of layer 3: At. Walks of the reference of layer 3: Wrong, Right, Check. Plain law: what the Feeder tells of bytes is what the reference's scan finds.
-/
import Derived.Test.YtbajkglacfheiaaGreatDoorProg
import Derived.Test.YtbajkglacfheiaaGreatDoorPA3
import Derived.Test.YtbajkglacfheiaaGreatDoorPA4
import Derived.WalkKit
import Derived.LoopTactic
import Derived.Deep.QuietTactic
import Derived.BigQuiet
import Derived.Lib.Hide
import Derived.Outline
set_option linter.unusedVariables false
set_option linter.unusedSimpArgs false
set_option maxRecDepth 100000
set_option maxHeartbeats 16000000
namespace Go.Proofs.YtbajkglacfheiaaGreatDoor
open Go.RowKit Mem
namespace Ref3
def wide (c : Int) : Int :=
 if c < 128 then 1 else if 194 ≤ c ∧ c ≤ 223 then 2 else if 224 ≤ c ∧ c ≤ 239 then 3 else if 240 ≤ c ∧ c ≤ 244 then 4 else 0
def second (c d : Int) : Bool :=
 if d < 128 ∨ 191 < d then false else if c = 224 then decide (160 ≤ d) else if c = 237 then decide (d ≤ 159) else if c = 240 then decide (144 ≤ d) else if c = 244 then decide (d ≤ 143) else true
end Ref3
open Ref3

end Go.Proofs.YtbajkglacfheiaaGreatDoor
namespace Go.Proofs.YtbajkglacfheiaaGreatDoor
open Go.RowKit Mem Ref3
namespace Ref3
def badF (r : List UInt8) (c0 p : Int) : Nat → Nat → Option (Int × Int)
 | 0, _ => none
 | f + 1, k => match r[k]? with
  | none => some (31, p + r.length)
  | some d => if (k = 1 ∧ second c0 (d.toNat : Int) = false) ∨ (d.toNat : Int) < 128 ∨ 191 < (d.toNat : Int) then some (30, p + k) else badF r c0 p f (k + 1)
end Ref3

end Go.Proofs.YtbajkglacfheiaaGreatDoor
namespace Go.Proofs.YtbajkglacfheiaaGreatDoor
open Go.RowKit Mem Ref3
namespace Ref3
def scanF (st : List UInt8 → Int → Option (Int × Int)) (wd : List UInt8 → Nat) : Nat → List UInt8 → Int → Int × Int
 | 0, _, _ => (0, 0)
 | f + 1, r, p => match st r p with
  | some y => y
  | none => scanF st wd f (r.drop (wd r)) (p + wd r)
def faultAt : List UInt8 → Int → Option (Int × Int)
 | [], _ => some (0, 0)
 | c :: t, p => if wide (c.toNat : Int) = 0 then some (30, p) else badF (c :: t) (c.toNat : Int) p ((wide (c.toNat : Int)).toNat - 1) 1
def wideAt : List UInt8 → Nat
 | [] => 0
 | c :: _ => (wide (c.toNat : Int)).toNat
def wrongF (f : Nat) (r : List UInt8) (p : Int) : Int × Int := scanF faultAt wideAt f r p
def wrong (l : List UInt8) : Int × Int := wrongF l.length l 0
theorem wrongF_nil (f : Nat) (p : Int) : wrongF f [] p = (0, 0) := by cases f <;> rfl
theorem badF_place : ∀ (f k : Nat) (r : List UInt8) (c p : Int) (y : Int × Int), 0 ≤ p → badF r c p f k = some y → 0 ≤ y.2
 | 0, k, r, c, p, y, _, h => by cases h
 | f + 1, k, r, c, p, y, hp, h => by
  unfold badF at h
  split at h
  ·injection h with h; subst h; show 0 ≤ p + (r.length : Int); omega
  ·split at h
   ·injection h with h; subst h; show 0 ≤ p + (k : Int); omega
   ·exact badF_place f (k + 1) r c p y hp h
theorem scanF_place (st : List UInt8 → Int → Option (Int × Int)) (wd : List UInt8 → Nat) (h : ∀ r p y, 0 ≤ p → st r p = some y → 0 ≤ y.2) : ∀ (f : Nat) (r : List UInt8) (p : Int), 0 ≤ p → 0 ≤ (scanF st wd f r p).2
 | 0, _, _, _ => Int.le_refl _
 | f + 1, r, p, hp => by
  rw [scanF]
  cases hs : st r p with
  | some y => exact h r p y hp hs
  | none => exact scanF_place st wd h f _ _ (by omega)
theorem wrong_place (l : List UInt8) : 0 ≤ (wrong l).2 := by
 refine scanF_place _ _ (fun r p y hp h => ?_) _ _ _ (Int.le_refl _)
 cases r with
 | nil => injection h with h; rw [← h]; exact Int.le_refl _
 | cons c t =>
  have e : faultAt (c :: t) p = if wide (c.toNat : Int) = 0 then some (30, p) else badF (c :: t) (c.toNat : Int) p ((wide (c.toNat : Int)).toNat - 1) 1 := rfl
  rw [e] at h
  by_cases h0 : wide (c.toNat : Int) = 0
  ·rw [if_pos h0] at h
   injection h with h
   rw [← h]
   exact hp
  ·rw [if_neg h0] at h
   exact badF_place _ _ _ _ _ _ hp h
end Ref3

end Go.Proofs.YtbajkglacfheiaaGreatDoor
namespace Go.Proofs.YtbajkglacfheiaaGreatDoor
open Go.RowKit Utf Ref3
namespace UtfLaw

theorem wide_form (c : Int) (h0 : 0 ≤ c) (h1 : c ≤ 255) : wide c = (form c).1 := by
 unfold wide form
 repeat' split
 all_goals first | rfl | (exfalso; omega)
theorem may_one (c d : Int) (h : 2 ≤ (form c).1) : mayB (form c).2.1 (form c).2.2 1 d = true ↔ ¬ (second c d = false ∨ d < 128 ∨ 191 < d) := by
 unfold form at h ⊢
 unfold mayB second
 repeat' split
 all_goals first
  | (exfalso; omega)
  | (simp_all; omega)
  | (simp_all; done)
  | skip
theorem may_more (lo hi k d : Int) (h : k ≠ 1) : mayB lo hi k d = true ↔ ¬ (d < 128 ∨ 191 < d) := by
 unfold mayB
 rw [if_neg h]
 simp
def endP (x : Int × Int × Int × Bool) : Int × Int := if 0 < x.2.2.1 then (31, x.1) else if x.2.2.2 then (30, x.1) else (0, 0)

theorem feed_cons (d : UInt8) (t : List UInt8) (p h m : Int) : feed (d :: t) p h m = match fstep h m (d.toNat : Int) with
  | none => (p, h, 0, true)
  | some x => feed t (p + 1) x.1 x.2 := rfl
theorem fstep_in (c d : Int) (k n : Nat) (hk : 1 ≤ k) (hn : (form c).1 = n) (h2 : 2 ≤ n) (hkn : k < n) :
  fstep c k d = if (k = 1 ∧ second c d = false) ∨ d < 128 ∨ 191 < d then none else if k + 1 = n then some (c, 0) else some (c, ((k + 1 : Nat) : Int)) := by
 have hk0 : ¬ (k : Int) = 0 := by omega
 unfold fstep
 rw [if_neg hk0]
 have hm : mayB (form c).2.1 (form c).2.2 k d = true ↔ ¬ ((k = 1 ∧ second c d = false) ∨ d < 128 ∨ 191 < d) := by
  by_cases h1 : k = 1
  ·subst h1
   have := may_one c d (by omega)
   simpa using this
  ·have := may_more (form c).2.1 (form c).2.2 k d (by omega)
   rw [this]
   simp [h1]
 by_cases hb : (k = 1 ∧ second c d = false) ∨ d < 128 ∨ 191 < d
 ·rw [if_pos hb, if_neg (fun h => (hm.1 h) hb)]
 ·rw [if_neg hb, if_pos (hm.2 hb), hn]
  by_cases h1 : k + 1 = n
  ·rw [if_pos h1, if_pos (by omega)]
  ·rw [if_neg h1, if_neg (by omega)]
   rfl

theorem feed_in (r : List UInt8) (c p : Int) (n : Nat) (hn : (form c).1 = n) (h2 : 2 ≤ n) : ∀ (f k : Nat), 1 ≤ k → k + (f + 1) = n → k ≤ r.length →
  endP (feed (r.drop k) (p + k) c k) = match badF r c p (f + 1) k with
   | some y => y
   | none => endP (feed (r.drop n) (p + n) c 0)
 | f, k, hk, hf, hkl => by
  rw [badF]
  rcases Nat.lt_or_ge k r.length with hlt | hge
  ·rw [List.getElem?_eq_getElem hlt, List.drop_eq_getElem_cons hlt, feed_cons]
   dsimp only
   generalize hd : r[k] = d
   rw [fstep_in c d.toNat k n hk hn h2 (by omega)]
   by_cases hb : (k = 1 ∧ second c d.toNat = false) ∨ (d.toNat : Int) < 128 ∨ 191 < (d.toNat : Int)
   ·rw [if_pos hb, if_pos hb]
    rfl
   ·rw [if_neg hb, if_neg hb]
    by_cases h1 : k + 1 = n
    ·obtain rfl : f = 0 := by omega
     rw [if_pos h1, badF]
     subst h1
     dsimp only
     rw [Int.add_assoc, ← Int.natCast_add_one]
    ·rw [if_neg h1]
     dsimp only
     match f, hf with
     | 0, hf => omega
     | f + 1, hf =>
      have := feed_in r c p n hn h2 f (k + 1) (by omega) (by omega) hlt
      rw [← this, Int.add_assoc, ← Int.natCast_add_one]
  ·rw [List.getElem?_eq_none hge, List.drop_eq_nil_of_le hge]
   have : k = r.length := by omega
   subst this
   have hne : ¬ r = [] := by rintro rfl; simp at hk
   simp [feed, endP, hne]

theorem feed_out : ∀ (N : Nat) (r : List UInt8) (p h : Int), r.length ≤ N → endP (feed r p h 0) = wrongF N r p
 | 0, r, p, h, hN => by
  obtain rfl : r = [] := List.eq_nil_of_length_eq_zero (by omega)
  rfl
 | N + 1, [], p, h, hN => by rw [wrongF_nil]; rfl
 | N + 1, c :: t, p, h, hN => by
  have hb0 : (0 : Int) ≤ (c.toNat : Int) := by omega
  have hb1 : (c.toNat : Int) ≤ 255 := by have := c.toNat_lt; omega
  have hw := wide_form (c.toNat : Int) hb0 hb1
  have hbd := form_bd (c.toNat : Int)
  obtain ⟨n, hn⟩ : ∃ n : Nat, (form (c.toNat : Int)).1 = n := ⟨((form (c.toNat : Int)).1).toNat, by omega⟩
  have hn4 : n ≤ 4 := by omega
  have hfa : faultAt (c :: t) p = if wide (c.toNat : Int) = 0 then some (30, p) else badF (c :: t) (c.toNat : Int) p ((wide (c.toNat : Int)).toNat - 1) 1 := rfl
  have hwa : wideAt (c :: t) = (wide (c.toNat : Int)).toNat := rfl
  have hf0 : fstep h 0 (c.toNat : Int) = if (form (c.toNat : Int)).1 = 0 then none else if 1 < (form (c.toNat : Int)).1 then some ((c.toNat : Int), 1) else some (h, 0) := by
   unfold fstep
   rw [if_pos rfl]
  rw [wrongF, scanF, hfa, hwa, feed_cons, hf0, hw, hn, Int.toNat_natCast]
  simp only [List.length_cons] at hN
  generalize (c.toNat : Int) = q at *
  match n, hn, hn4 with
  | 0, hn, _ => rfl
  | 1, hn, _ =>
   have := feed_out N t (p + 1) h (by omega)
   exact this
  | n + 2, hn, _ =>
   rw [if_neg (by omega), if_pos (by omega), if_neg (by omega)]
   have h1 := feed_in (c :: t) q p (n + 2) hn (by omega) n 1 (Nat.le_refl _) (by omega) (by simp)
   have e1 : endP (feed t (p + 1) q 1) = endP (feed ((c :: t).drop 1) (p + (1 : Nat)) q ((1 : Nat) : Int)) := rfl
   have e2 : n + 2 - 1 = n + 1 := rfl
   dsimp only
   rw [e1, h1, e2]
   cases badF (c :: t) q p (n + 1) 1 with
   | some y => rfl
   | none => exact feed_out N _ _ q (by rw [List.length_drop, List.length_cons]; omega)

theorem end_wrong (l : List UInt8) : endP (feed l 0 0 0) = wrong l := feed_out l.length l 0 0 (Nat.le_refl _)
theorem chk_wrong (l : List UInt8) : chkV l = if (wrong l).1 = 0 then .nilIface else spotV (wrong l).1 (wrong l).2 := by
 rw [← end_wrong]
 unfold chkV endV faultV endP
 repeat' split
 all_goals simp_all
end UtfLaw
end Go.Proofs.YtbajkglacfheiaaGreatDoor
