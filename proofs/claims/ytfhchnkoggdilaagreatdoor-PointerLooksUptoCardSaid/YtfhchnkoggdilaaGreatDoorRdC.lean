/-
  Walks of the reference of layer 3: Wrong, Right, Check.
-/
import Derived.Test.YtfhchnkoggdilaaGreatDoorRdB
namespace Go.Proofs.YtfhchnkoggdilaaGreatDoor
open Go.RowKit Mem Ref3
set_option linter.unusedVariables false
namespace Ref3
/-- a scan: what st tells at a place ends it; else wd bytes are passed over -/
def scanF (st : List UInt8 → Int → Option (Int × Int)) (wd : List UInt8 → Nat) : Nat → List UInt8 → Int → Int × Int
  | 0, _, _ => (0, 0)
  | f + 1, r, p => match st r p with
    | some y => y
    | none => scanF st wd f (r.drop (wd r)) (p + wd r)
theorem scanF_fuel (st : List UInt8 → Int → Option (Int × Int)) (wd : List UInt8 → Nat) (h0 : ∀ p, st [] p = some (0, 0)) (h1 : ∀ r p, st r p = none → 1 ≤ wd r) :
    ∀ (f f' : Nat) (r : List UInt8) (p : Int), r.length ≤ f → r.length ≤ f' → scanF st wd f r p = scanF st wd f' r p
  | 0, 0, _, _, _, _ => rfl
  | 0, f' + 1, r, p, h, _ => by
    obtain rfl : r = [] := List.eq_nil_of_length_eq_zero (by omega)
    rw [scanF, scanF, h0]
  | f + 1, 0, r, p, _, h => by
    obtain rfl : r = [] := List.eq_nil_of_length_eq_zero (by omega)
    rw [scanF, scanF, h0]
  | f + 1, f' + 1, r, p, h, h' => by
    rw [scanF, scanF]
    cases hs : st r p with
    | some y => rfl
    | none =>
      have := h1 r p hs
      exact scanF_fuel st wd h0 h1 f f' _ _ (by rw [List.length_drop]; omega) (by rw [List.length_drop]; omega)
def faultAt : List UInt8 → Int → Option (Int × Int)
  | [], _ => some (0, 0)
  | c :: t, p => if wide (c.toNat : Int) = 0 then some (30, p) else badF (c :: t) (c.toNat : Int) p ((wide (c.toNat : Int)).toNat - 1) 1
def wideAt : List UInt8 → Nat
  | [] => 0
  | c :: _ => (wide (c.toNat : Int)).toNat
theorem wideAt_pos (r : List UInt8) (p : Int) (h : faultAt r p = none) : 1 ≤ wideAt r := by
  cases r with
  | nil => cases h
  | cons c t =>
    have hw := wide_bd (c.toNat : Int)
    by_cases h0 : wide (c.toNat : Int) = 0
    · simp [faultAt, h0] at h
    · show 1 ≤ (wide (c.toNat : Int)).toNat
      omega
/-- what is wrong with bytes, from the place p on; fuel: as many as there are -/
def wrongF (f : Nat) (r : List UInt8) (p : Int) : Int × Int := scanF faultAt wideAt f r p
def wrong (l : List UInt8) : Int × Int := wrongF l.length l 0
theorem wrongF_fuel (f f' : Nat) (r : List UInt8) (p : Int) (h : r.length ≤ f) (h' : r.length ≤ f') : wrongF f r p = wrongF f' r p :=
  scanF_fuel faultAt wideAt (fun _ => rfl) wideAt_pos f f' r p h h'
theorem wrongF_nil (f : Nat) (p : Int) : wrongF f [] p = (0, 0) := by cases f <;> rfl
theorem faultAt_drop {l : List UInt8} {i : Nat} (hi : i < l.length) (p : Int) :
    faultAt (l.drop i) p = if wide (l[i].toNat : Int) = 0 then some (30, p) else badF (l.drop i) (l[i].toNat : Int) p ((wide (l[i].toNat : Int)).toNat - 1) 1 := by
  rw [List.drop_eq_getElem_cons hi]
  rfl
theorem wideAt_drop {l : List UInt8} {i : Nat} (hi : i < l.length) : wideAt (l.drop i) = (wide (l[i].toNat : Int)).toNat := by
  rw [List.drop_eq_getElem_cons hi]
  rfl
theorem badF_none_len : ∀ (f k : Nat) (r : List UInt8) (c p : Int), badF r c p f k = none → k ≤ r.length → k + f ≤ r.length
  | 0, k, r, c, p, _, hk => by omega
  | f + 1, k, r, c, p, h, hk => by
    unfold badF at h
    split at h
    · cases h
    · rename_i d hd
      have hlt : k < r.length := (List.getElem?_eq_some_iff.1 hd).1
      split at h
      · cases h
      · have := badF_none_len f (k + 1) r c p h (by omega)
        omega
/-- one form further -/
theorem wrong_next {l : List UInt8} {i : Nat} (hi : i < l.length) (h1 : 1 ≤ wide (l[i].toNat : Int))
    (hb : badF (l.drop i) (l[i].toNat : Int) i ((wide (l[i].toNat : Int)).toNat - 1) 1 = none) :
    wrongF (l.length - i) (l.drop i) i = wrongF (l.length - (i + (wide (l[i].toNat : Int)).toNat)) (l.drop (i + (wide (l[i].toNat : Int)).toNat)) ((i + (wide (l[i].toNat : Int)).toNat : Nat) : Int) ∧
    i + (wide (l[i].toNat : Int)).toNat ≤ l.length := by
  have hw := wide_bd (l[i].toNat : Int)
  have hlen := badF_none_len _ _ _ _ _ hb (by rw [List.length_drop]; omega)
  rw [List.length_drop] at hlen
  refine ⟨?_, by omega⟩
  obtain ⟨f, hf⟩ : ∃ f, l.length - i = f + 1 := ⟨l.length - i - 1, by omega⟩
  rw [hf, wrongF, scanF, faultAt_drop hi, if_neg (by omega), hb]
  dsimp only
  rw [wideAt_drop hi, List.drop_drop, ← Int.natCast_add]
  exact wrongF_fuel _ _ _ _ (by rw [List.length_drop]; omega) (by rw [List.length_drop]; omega)
theorem wrong_none {l : List UInt8} {i : Nat} (hi : i < l.length) (h1 : wide (l[i].toNat : Int) = 0) : wrongF (l.length - i) (l.drop i) i = (30, (i : Int)) := by
  obtain ⟨f, hf⟩ : ∃ f, l.length - i = f + 1 := ⟨l.length - i - 1, by omega⟩
  rw [hf, wrongF, scanF, faultAt_drop hi, if_pos h1]
theorem wrong_bad {l : List UInt8} {i : Nat} {y : Int × Int} (hi : i < l.length) (h1 : 1 ≤ wide (l[i].toNat : Int))
    (hb : badF (l.drop i) (l[i].toNat : Int) i ((wide (l[i].toNat : Int)).toNat - 1) 1 = some y) : wrongF (l.length - i) (l.drop i) i = y := by
  obtain ⟨f, hf⟩ : ∃ f, l.length - i = f + 1 := ⟨l.length - i - 1, by omega⟩
  rw [hf, wrongF, scanF, faultAt_drop hi, if_neg (by omega), hb]
theorem badF_pos : ∀ (f k : Nat) (r : List UInt8) (c p : Int) (y : Int × Int), badF r c p f k = some y → y.1 = 30 ∨ y.1 = 31
  | 0, k, r, c, p, y, h => by cases h
  | f + 1, k, r, c, p, y, h => by
    unfold badF at h
    split at h
    · injection h with h; subst h; exact .inr rfl
    · split at h
      · injection h with h; subst h; exact .inl rfl
      · exact badF_pos f (k + 1) r c p y h
theorem wrong_next_s {s : ByteArray} {i : Nat} (hi : i < s.size) (h1 : 1 ≤ wide (s[i].toNat : Int))
    (hb : badF (s.data.toList.drop i) (s[i].toNat : Int) i ((wide (s[i].toNat : Int)).toNat - 1) 1 = none) :
    ∃ n : Nat, 1 ≤ n ∧ i + n ≤ s.size ∧ wide (s[i].toNat : Int) = n ∧
      wrongF (s.data.toList.length - i) (s.data.toList.drop i) i = wrongF (s.data.toList.length - (i + n)) (s.data.toList.drop (i + n)) ((i + n : Nat) : Int) := by
  have e1 : 1 ≤ (wide (s[i].toNat : Int)).toNat := by omega
  have e2 : wide (s[i].toNat : Int) = ((wide (s[i].toNat : Int)).toNat : Int) := by omega
  have h := wrong_next (l := s.data.toList) (by simpa using hi) h1 hb
  exact ⟨_, e1, h.2, e2, h.1⟩
theorem badF_place : ∀ (f k : Nat) (r : List UInt8) (c p : Int) (y : Int × Int), 0 ≤ p → badF r c p f k = some y → 0 ≤ y.2
  | 0, k, r, c, p, y, _, h => by cases h
  | f + 1, k, r, c, p, y, hp, h => by
    unfold badF at h
    split at h
    · injection h with h; subst h; show 0 ≤ p + (r.length : Int); omega
    · split at h
      · injection h with h; subst h; show 0 ≤ p + (k : Int); omega
      · exact badF_place f (k + 1) r c p y hp h
theorem scanF_place (st : List UInt8 → Int → Option (Int × Int)) (wd : List UInt8 → Nat) (h : ∀ r p y, 0 ≤ p → st r p = some y → 0 ≤ y.2) : ∀ (f : Nat) (r : List UInt8) (p : Int), 0 ≤ p → 0 ≤ (scanF st wd f r p).2
  | 0, _, _, _ => Int.le_refl _
  | f + 1, r, p, hp => by
    rw [scanF]
    cases hs : st r p with
    | some y => exact h r p y hp hs
    | none => exact scanF_place st wd h f _ _ (by omega)
theorem wrong_place (l : List UInt8) : 0 ≤ (wrong l).2 := by
  refine scanF_place _ _ (fun r p y hp h => ?_) _ _ _ (Int.le_refl _)
  cases r with
  | nil => injection h with h; rw [← h]; exact Int.le_refl _
  | cons c t =>
    have e : faultAt (c :: t) p = if wide (c.toNat : Int) = 0 then some (30, p) else badF (c :: t) (c.toNat : Int) p ((wide (c.toNat : Int)).toNat - 1) 1 := rfl
    rw [e] at h
    by_cases h0 : wide (c.toNat : Int) = 0
    · rw [if_pos h0] at h
      injection h with h
      rw [← h]
      exact hp
    · rw [if_neg h0] at h
      exact badF_place _ _ _ _ _ _ hp h
def rightR (l : List UInt8) : Bool := decide ((wrong l).1 = 0)
def checkR (l : List UInt8) : Int := if (wrong l).1 = 0 then -1 else (wrong l).2
end Ref3

set_option maxHeartbeats 4000000 in
theorem wrong_any (s : ByteArray) (hs : s.size ≤ 140737488355328) (w : World) :
    Calls Tryz.prog 51 #[.string s] w fun e w' => e = .returned (.tuple #[.int .i64 (wrong s.data.toList).1, .int .i64 (wrong s.data.toList).2]) ∧ w = w' := by
  go_enter Tryz.func51, Tryz.ntmps51
  go_wp2
  go_loop [4] (fun j => ∃ i : Nat, i ≤ s.size ∧ j = .int .i64 i ∧ Hid (wrongF (s.data.toList.length - i) (s.data.toList.drop i) i = wrong s.data.toList)) (fun j => s.size - (intOf j).toNat)
  case atStart => exact ⟨0, by omega, rfl, Lib.hid rfl⟩
  case round =>
    obtain ⟨i, hi, rfl, HW⟩ := hrel
    by_cases hlt : i < s.size
    · have hlt' : i < s.data.toList.length := by simpa using hlt
      have hbw := wide_bd (s[i].toNat : Int)
      go_wp2_with fail
      refine (at_any s i hlt hs _).mono ?_
      rintro e w' ⟨rfl, h0, hb, hg⟩
      by_cases hw0 : wide (s[i].toNat : Int) = 0
      · rw [h0 hw0]
        have hres := wrong_none hlt' hw0
        rw [HW.out] at hres
        have H := Lib.hid hres
        clear h0 hb hg hres hw0
        go_wp2
        go_ret2
        exact ⟨by rw [H.out]; rfl, rfl⟩
      · have h1 : 1 ≤ wide (s[i].toNat : Int) := by omega
        cases hbad : badF (s.data.toList.drop i) (s[i].toNat : Int) i ((wide (s[i].toNat : Int)).toNat - 1) 1 with
        | some y =>
          rw [hb h1 y hbad]
          have hres := wrong_bad hlt' h1 hbad
          rw [HW.out] at hres
          have hy := badF_pos _ _ _ _ _ _ hbad
          have ey : (y.1 != 0) = true := by rw [bne_iff_ne]; omega
          have H := Lib.hid hres
          clear h0 hb hg hres hw0 hbad
          go_wp2
          go_ret2
          exact ⟨by rw [H.out]; rfl, rfl⟩
        | none =>
          obtain ⟨x, he⟩ := hg h1 hbad
          rw [he]
          obtain ⟨n, hn1, hle, hn, hnext⟩ := wrong_next_s hlt h1 hbad
          rw [HW.out] at hnext
          rw [hn]
          have H := Lib.hid hnext
          clear h0 hb hg hnext hw0 hbad he hn h1 hbw
          go_wp2
          go_round
          case rel => exact ⟨i + n, hle, by go_num, Lib.hid H.out.symm⟩
          case measure => simp [intOf]; omega
    · obtain rfl : i = s.size := by omega
      have hres := HW.out
      rw [List.drop_eq_nil_of_le (by simp), wrongF_nil] at hres
      have H := Lib.hid hres
      clear hres
      go_wp2
      go_ret2
      exact ⟨by rw [← H.out]; rfl, rfl⟩

theorem refRight_any (s : ByteArray) (hs : s.size ≤ 140737488355328) (w : World) :
    Calls Tryz.prog 70 #[.string s] w fun e w' => e = .returned (.bool (rightR s.data.toList)) ∧ w = w' := by
  by_cases h : (wrong s.data.toList).1 = 0
  all_goals
    have H := Lib.hid h
    have h' : ((wrong s.data.toList).1 == 0) = decide ((wrong s.data.toList).1 = 0) := rfl
    have H' := Lib.hid h'
    clear h h'
    go_enter Tryz.func70, Tryz.ntmps70
    go_wp2_with fail
    refine (wrong_any s hs _).mono ?_
    rintro e w' ⟨rfl, rfl⟩
    go_wp2
    go_ret
    exact ⟨by first | rfl | (rw [rightR, ← H'.out]), rfl⟩

theorem refCheck_any (s : ByteArray) (hs : s.size ≤ 140737488355328) (w : World) :
    Calls Tryz.prog 26 #[.string s] w fun e w' => e = .returned (.int .i64 (checkR s.data.toList)) ∧ w = w' := by
  by_cases h : (wrong s.data.toList).1 = 0
  all_goals
    have H := Lib.hid h
    have hb : ((wrong s.data.toList).1 == 0) = decide ((wrong s.data.toList).1 = 0) := rfl
    first | rw [decide_eq_true h] at hb | rw [decide_eq_false h] at hb
    clear h
    go_enter Tryz.func26, Tryz.ntmps26
    go_wp2_with fail
    refine (wrong_any s hs _).mono ?_
    rintro e w' ⟨rfl, rfl⟩
    go_wp2
    go_ret
    exact ⟨by first | (rw [checkR, if_pos H.out]; rfl) | (rw [checkR, if_neg H.out]; rfl), rfl⟩
end Go.Proofs.YtfhchnkoggdilaaGreatDoor
