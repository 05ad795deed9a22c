/-
  Walks of the reference of layer 3: wide, second, At, Wrong, Right, Check. Walks of the reference of layer 3: At. Walks of the reference of layer 3: Wrong, Right, Check. Plain law: what the Feeder tells of bytes is what the reference's scan finds.
-/
import Derived.Test.YtbajkglacfheiaaGreatDoorProg
import Derived.Test.YtbajkglacfheiaaGreatDoorTA3
import Derived.Test.YtbajkglacfheiaaGreatDoorTA4
import Derived.WalkKit
import Derived.LoopTactic
import Derived.Deep.QuietTactic
import Derived.BigQuiet
import Derived.Lib.Hide
import Derived.Outline
set_option linter.unusedVariables false
set_option maxRecDepth 100000
set_option maxHeartbeats 16000000
namespace Go.Proofs.YtbajkglacfheiaaGreatDoor
open Go.RowKit Mem
namespace Ref3
def wide (c : Int) : Int :=
 if c < 128 then 1 else if 194 ≤ c ∧ c ≤ 223 then 2 else if 224 ≤ c ∧ c ≤ 239 then 3 else if 240 ≤ c ∧ c ≤ 244 then 4 else 0
theorem wide_bd (c : Int) : 0 ≤ wide c ∧ wide c ≤ 4 := by
 unfold wide
 repeat' split
 all_goals omega
def second (c d : Int) : Bool :=
 if d < 128 ∨ 191 < d then false else if c = 224 then decide (160 ≤ d) else if c = 237 then decide (d ≤ 159) else if c = 240 then decide (144 ≤ d) else if c = 244 then decide (d ≤ 143) else true
end Ref3
open Ref3
theorem wide_any (c : Int) (h0 : 0 ≤ c) (h1 : c ≤ 255) (w : World) :
  Calls Tryz.prog 177 #[.int .u8 c] w fun e w' => e = .returned (.int .i64 (wide c)) ∧ w = w' := by
 go_enter Tryz.func177, Tryz.ntmps177
 go_wp2
 all_goals
  go_ret
  refine ⟨congrArg (fun n => Ending.returned (.int .i64 n)) ?_, rfl⟩
  unfold wide
  repeat' split
  all_goals first | rfl | omega
theorem second_any (c d : Int) (w : World) :
  Calls Tryz.prog 178 #[.int .u8 c, .int .u8 d] w fun e w' => e = .returned (.bool (second c d)) ∧ w = w' := by
 go_enter Tryz.func178, Tryz.ntmps178
 go_wp2
 all_goals
  go_ret
  refine ⟨congrArg (fun n => Ending.returned (.bool n)) ?_, rfl⟩
  try simp only [beq_iff_eq, beq_eq_false_iff_ne, ne_eq] at *
  unfold second
  repeat' split
  all_goals first | rfl | (exfalso; omega) | (simp; omega)
end Go.Proofs.YtbajkglacfheiaaGreatDoor
namespace Go.Proofs.YtbajkglacfheiaaGreatDoor
open Go.RowKit Mem Ref3
namespace Ref3
def badF (r : List UInt8) (c0 p : Int) : Nat → Nat → Option (Int × Int)
 | 0, _ => none
 | f + 1, k => match r[k]? with
  | none => some (31, p + r.length)
  | some d => if (k = 1 ∧ second c0 (d.toNat : Int) = false) ∨ (d.toNat : Int) < 128 ∨ 191 < (d.toNat : Int) then some (30, p + k) else badF r c0 p f (k + 1)
end Ref3
theorem results_tmp4 {fn : Func} {t u v x : Tmp} (h : fn.results = #[.tmp t, .tmp u, .tmp v, .tmp x]) (tmps : Array Value) (P : Program) (w : World) :
  (results fn tmps).run P w = .ok (.tuple #[tmps.getD t undef, tmps.getD u undef, tmps.getD v undef, tmps.getD x undef]) w := by simp [results, h]
def AtP (l : List UInt8) (i : Nat) (c : Int) (w : World) (e : Ending) (w' : World) : Prop :=
 w = w' ∧ (wide c = 0 → e = .returned (.tuple #[.int .i32 0, .int .i64 0, .int .i64 30, .int .i64 i])) ∧
 (1 ≤ wide c → ∀ y, badF (l.drop i) c i ((wide c).toNat - 1) 1 = some y → e = .returned (.tuple #[.int .i32 0, .int .i64 0, .int .i64 y.1, .int .i64 y.2])) ∧
 (1 ≤ wide c → badF (l.drop i) c i ((wide c).toNat - 1) 1 = none → ∃ x, e = .returned (.tuple #[.int .i32 x, .int .i64 (wide c), .int .i64 0, .int .i64 0]))
theorem at_bad {l : List UInt8} {i nw : Nat} {c : Int} {y : Int × Int} (hw : wide c = nw) (h1 : 1 ≤ nw) (hb : badF (l.drop i) c i (nw - 1) 1 = some y) (w : World) :
  AtP l i c w (.returned (.tuple #[.int .i32 0, .int .i64 0, .int .i64 y.1, .int .i64 y.2])) w := by
 have e : (wide c).toNat - 1 = nw - 1 := by rw [hw]; simp
 refine ⟨rfl, fun h => by omega, fun _ z hz => ?_, fun _ hz => ?_⟩
 ·rw [e, hb] at hz
  injection hz with hz
  rw [hz]
 ·rw [e, hb] at hz
  cases hz
theorem at_good {l : List UInt8} {i nw : Nat} {c : Int} (hw : wide c = nw) (h1 : 1 ≤ nw) (hb : badF (l.drop i) c i (nw - 1) 1 = none) (w : World) (x : Int) :
  AtP l i c w (.returned (.tuple #[.int .i32 x, .int .i64 nw, .int .i64 0, .int .i64 0])) w := by
 have e : (wide c).toNat - 1 = nw - 1 := by rw [hw]; simp
 refine ⟨rfl, fun h => by omega, fun _ z hz => ?_, fun _ hz => ⟨x, by rw [hw]⟩⟩
 rw [e, hb] at hz
 cases hz
theorem at_any (s : ByteArray) (i : Nat) (hi : i < s.size) (hs : s.size ≤ 140737488355328) (w : World) :
  Calls Tryz.prog 149 #[.string s, .int .i64 i] w (AtP s.data.toList i (s[i].toNat : Int) w) := by
 have hb0 : (0 : Int) ≤ (s[i].toNat : Int) := by omega
 have hb1 : (s[i].toNat : Int) ≤ 255 := by have := s[i].toNat_lt; omega
 go_enter Tryz.func149, Tryz.ntmps149
 go_wp2_with fail
 refine (wide_any _ hb0 hb1 _).mono ?_
 rintro e w' ⟨rfl, rfl⟩
 have hbw := wide_bd (s[i].toNat : Int)
 by_cases hw0 : wide (s[i].toNat : Int) = 0
 ·have H : AtP s.data.toList i (s[i].toNat : Int) w (.returned (.tuple #[.int .i32 0, .int .i64 0, .int .i64 30, .int .i64 i])) w :=
   ⟨rfl, fun _ => rfl, fun h => by omega, fun h => by omega⟩
  have HH := Lib.hid H
  clear H
  rw [hw0]
  clear hw0
  go_wp2
  exact bodyPost_ret (results_tmp4 (t := 4) (u := 5) (v := 6) (x := 7) rfl _ _ _) rfl HH.out
 ·obtain ⟨nw, hnw⟩ : ∃ nw : Nat, wide (s[i].toNat : Int) = nw := ⟨(wide (s[i].toNat : Int)).toNat, by omega⟩
  have hn1 : 1 ≤ nw := by omega
  have hn4 : nw ≤ 4 := by omega
  have Hnw := Lib.hid hnw
  rw [hnw]
  clear hnw hw0 hbw
  have e0 : ((nw : Int) == 0) = false := by simp; omega
  go_wp2
  go_loop [9] (fun j => ∃ k : Nat, 1 ≤ k ∧ k ≤ nw ∧ i + k ≤ s.size ∧ j = .int .i64 k ∧ Hid (badF (s.data.toList.drop i) (s[i].toNat : Int) i (nw - k) k = badF (s.data.toList.drop i) (s[i].toNat : Int) i (nw - 1) 1)) (fun j => nw - (intOf j).toNat)
  case atStart => exact ⟨1, by omega, by omega, by omega, rfl, Lib.hid rfl⟩
  case round =>
   obtain ⟨k, hk1, hkn, hks, rfl, HB⟩ := hrel
   by_cases hlt : k < nw
   ·by_cases hin : i + k < s.size
    ·have hgk : (s.data.toList.drop i)[k]? = some s[i + k] := by
      rw [List.getElem?_drop, List.getElem?_eq_getElem (by simpa using hin)]
      rfl
     have hfold : nw - k = (nw - (k + 1)) + 1 := by omega
     have hd0 : (0 : Int) ≤ (s[i + k].toNat : Int) := by omega
     have hd1 : (s[i + k].toNat : Int) ≤ 255 := by have := s[i + k].toNat_lt; omega
     by_cases hk : k = 1
     ·subst hk
      by_cases hbad : second (s[i].toNat : Int) (s[i + 1].toNat : Int) = false ∨ (s[i + 1].toNat : Int) < 128 ∨ 191 < (s[i + 1].toNat : Int)
      ·have hb : badF (s.data.toList.drop i) (s[i].toNat : Int) i (nw - 1) 1 = some (30, (i : Int) + ((1 : Nat) : Int)) := by
        rw [hfold, badF, hgk]
        dsimp only
        rw [if_pos (by rcases hbad with h | h; exact .inl ⟨rfl, h⟩; exact .inr h)]
       have HH := Lib.hid (at_bad Hnw.out hn1 hb w)
       clear hb hgk hfold
       cases hsec : second (s[i].toNat : Int) (s[i + 1].toNat : Int) with
       | false =>
        have Hsec := Lib.hid hsec
        clear hsec hbad
        go_wp2_with fail
        refine (second_any _ _ _).mono ?_
        rintro e w' ⟨rfl, rfl⟩
        rw [Hsec.out]
        go_wp2
        exact bodyPost_ret (results_tmp4 (t := 4) (u := 5) (v := 6) (x := 7) rfl _ _ _) rfl HH.out
       | true =>
        have Hsec := Lib.hid hsec
        have hbad' : (s[i + 1].toNat : Int) < 128 ∨ 191 < (s[i + 1].toNat : Int) := by
         rcases hbad with h | h
         ·rw [hsec] at h; cases h
         ·exact h
        clear hsec hbad
        rcases hbad' with h | h
        all_goals
         go_wp2_with fail
         refine (second_any _ _ _).mono ?_
         rintro e w' ⟨rfl, rfl⟩
         rw [Hsec.out]
         go_wp2
         exact bodyPost_ret (results_tmp4 (t := 4) (u := 5) (v := 6) (x := 7) rfl _ _ _) rfl HH.out
      ·have hsec : second (s[i].toNat : Int) (s[i + 1].toNat : Int) = true := by
        cases h : second (s[i].toNat : Int) (s[i + 1].toNat : Int)
        ·exact absurd (.inl h) hbad
        ·rfl
       have h128 : 128 ≤ (s[i + 1].toNat : Int) := by omega
       have h191 : (s[i + 1].toNat : Int) ≤ 191 := by omega
       have hnext : badF (s.data.toList.drop i) (s[i].toNat : Int) i (nw - 1) 1 = badF (s.data.toList.drop i) (s[i].toNat : Int) i (nw - 2) 2 := by
        rw [hfold, badF, hgk]
        dsimp only
        rw [if_neg (by rintro (⟨_, h⟩ | h); exact hbad (.inl h); exact hbad (.inr h))]
       have HN := Lib.hid hnext
       have Hsec := Lib.hid hsec
       clear hsec hbad hnext hgk hfold
       go_wp2_with fail
       refine (second_any _ _ _).mono ?_
       rintro e w' ⟨rfl, rfl⟩
       rw [Hsec.out]
       go_wp2
       go_round
       case rel => exact ⟨2, by omega, by omega, by omega, by go_num, Lib.hid HN.out.symm⟩
       case measure => simp [intOf]; omega
     ·by_cases hbad : (s[i + k].toNat : Int) < 128 ∨ 191 < (s[i + k].toNat : Int)
      ·have hb : badF (s.data.toList.drop i) (s[i].toNat : Int) i (nw - 1) 1 = some (30, (i : Int) + (k : Int)) := by
        rw [← HB.out, hfold, badF, hgk]
        dsimp only
        rw [if_pos (.inr hbad)]
       have HH := Lib.hid (at_bad Hnw.out hn1 hb w)
       have ek : ((k : Int) == 1) = false := by simp; omega
       clear hb hgk hfold
       rcases hbad with h | h
       all_goals
        go_wp2
        exact bodyPost_ret (results_tmp4 (t := 4) (u := 5) (v := 6) (x := 7) rfl _ _ _) rfl HH.out
      ·have h128 : 128 ≤ (s[i + k].toNat : Int) := by omega
       have h191 : (s[i + k].toNat : Int) ≤ 191 := by omega
       have hnext : badF (s.data.toList.drop i) (s[i].toNat : Int) i (nw - (k + 1)) (k + 1) = badF (s.data.toList.drop i) (s[i].toNat : Int) i (nw - 1) 1 := by
        rw [← HB.out, hfold, badF, hgk]
        dsimp only
        rw [if_neg (by rintro (⟨h, _⟩ | h); exact hk h; exact hbad h)]
       have HN := Lib.hid hnext
       have ek : ((k : Int) == 1) = false := by simp; omega
       clear hbad hnext hgk hfold
       go_wp2
       go_round
       case rel => exact ⟨k + 1, by omega, by omega, by omega, by go_num, Lib.hid HN.out⟩
       case measure => simp [intOf]; omega
    ·have hgk : (s.data.toList.drop i)[k]? = none := by
      rw [List.getElem?_drop, List.getElem?_eq_none (by simpa using hin)]
     have hlen : ((s.data.toList.drop i).length : Int) = (s.size : Int) - i := by
      rw [List.length_drop]
      have : s.data.toList.length = s.size := rfl
      omega
     have hfold : nw - k = (nw - (k + 1)) + 1 := by omega
     have hb : badF (s.data.toList.drop i) (s[i].toNat : Int) i (nw - 1) 1 = some (31, (s.size : Int)) := by
      rw [← HB.out, hfold, badF, hgk]
      dsimp only
      rw [hlen]
      congr 2
      omega
     have HH := Lib.hid (at_bad Hnw.out hn1 hb w)
     clear hb hgk hfold hlen
     go_wp2
     exact bodyPost_ret (results_tmp4 (t := 4) (u := 5) (v := 6) (x := 7) rfl _ _ _) rfl HH.out
   ·obtain rfl : k = nw := by omega
    have hb : badF (s.data.toList.drop i) (s[i].toNat : Int) i (k - 1) 1 = none := by
     rw [← HB.out, Nat.sub_self, badF]
    have HH := Lib.hid (at_good Hnw.out hn1 hb w)
    clear hb
    go_wp2
    all_goals
     go_loop [11, 12] (fun x j => ∃ (q : Int) (m : Nat), 1 ≤ m ∧ m ≤ k ∧ x = .int .i64 q ∧ j = .int .i64 m) (fun _ j => k - (intOf j).toNat)
     case atStart => exact ⟨_, 1, by omega, by omega, rfl, rfl⟩
     case round =>
      obtain ⟨q, m, hm1, hmk, rfl, rfl⟩ := hrel
      by_cases hlt2 : m < k
      ·have hin2 : i + m < s.size := by omega
       go_wp2
       go_round
       case rel => exact ⟨_, m + 1, by omega, by omega, rfl, by go_num⟩
       case measure => simp [intOf]; omega
      ·obtain rfl : m = k := by omega
       go_wp2
       exact bodyPost_ret (results_tmp4 (t := 4) (u := 5) (v := 6) (x := 7) rfl _ _ _) rfl (HH.out _)
end Go.Proofs.YtbajkglacfheiaaGreatDoor
namespace Go.Proofs.YtbajkglacfheiaaGreatDoor
open Go.RowKit Mem Ref3
namespace Ref3
def scanF (st : List UInt8 → Int → Option (Int × Int)) (wd : List UInt8 → Nat) : Nat → List UInt8 → Int → Int × Int
 | 0, _, _ => (0, 0)
 | f + 1, r, p => match st r p with
  | some y => y
  | none => scanF st wd f (r.drop (wd r)) (p + wd r)
theorem scanF_fuel (st : List UInt8 → Int → Option (Int × Int)) (wd : List UInt8 → Nat) (h0 : ∀ p, st [] p = some (0, 0)) (h1 : ∀ r p, st r p = none → 1 ≤ wd r) :
  ∀ (f f' : Nat) (r : List UInt8) (p : Int), r.length ≤ f → r.length ≤ f' → scanF st wd f r p = scanF st wd f' r p
 | 0, 0, _, _, _, _ => rfl
 | 0, f' + 1, r, p, h, _ => by
  obtain rfl : r = [] := List.eq_nil_of_length_eq_zero (by omega)
  rw [scanF, scanF, h0]
 | f + 1, 0, r, p, _, h => by
  obtain rfl : r = [] := List.eq_nil_of_length_eq_zero (by omega)
  rw [scanF, scanF, h0]
 | f + 1, f' + 1, r, p, h, h' => by
  rw [scanF, scanF]
  cases hs : st r p with
  | some y => rfl
  | none =>
   have := h1 r p hs
   exact scanF_fuel st wd h0 h1 f f' _ _ (by rw [List.length_drop]; omega) (by rw [List.length_drop]; omega)
def faultAt : List UInt8 → Int → Option (Int × Int)
 | [], _ => some (0, 0)
 | c :: t, p => if wide (c.toNat : Int) = 0 then some (30, p) else badF (c :: t) (c.toNat : Int) p ((wide (c.toNat : Int)).toNat - 1) 1
def wideAt : List UInt8 → Nat
 | [] => 0
 | c :: _ => (wide (c.toNat : Int)).toNat
theorem wideAt_pos (r : List UInt8) (p : Int) (h : faultAt r p = none) : 1 ≤ wideAt r := by
 cases r with
 | nil => cases h
 | cons c t =>
  have hw := wide_bd (c.toNat : Int)
  by_cases h0 : wide (c.toNat : Int) = 0
  ·simp [faultAt, h0] at h
  ·show 1 ≤ (wide (c.toNat : Int)).toNat
   omega
def wrongF (f : Nat) (r : List UInt8) (p : Int) : Int × Int := scanF faultAt wideAt f r p
def wrong (l : List UInt8) : Int × Int := wrongF l.length l 0
theorem wrongF_fuel (f f' : Nat) (r : List UInt8) (p : Int) (h : r.length ≤ f) (h' : r.length ≤ f') : wrongF f r p = wrongF f' r p :=
 scanF_fuel faultAt wideAt (fun _ => rfl) wideAt_pos f f' r p h h'
theorem wrongF_nil (f : Nat) (p : Int) : wrongF f [] p = (0, 0) := by cases f <;> rfl
theorem faultAt_drop {l : List UInt8} {i : Nat} (hi : i < l.length) (p : Int) :
  faultAt (l.drop i) p = if wide (l[i].toNat : Int) = 0 then some (30, p) else badF (l.drop i) (l[i].toNat : Int) p ((wide (l[i].toNat : Int)).toNat - 1) 1 := by
 rw [List.drop_eq_getElem_cons hi]
 rfl
theorem wideAt_drop {l : List UInt8} {i : Nat} (hi : i < l.length) : wideAt (l.drop i) = (wide (l[i].toNat : Int)).toNat := by
 rw [List.drop_eq_getElem_cons hi]
 rfl
theorem badF_none_len : ∀ (f k : Nat) (r : List UInt8) (c p : Int), badF r c p f k = none → k ≤ r.length → k + f ≤ r.length
 | 0, k, r, c, p, _, hk => by omega
 | f + 1, k, r, c, p, h, hk => by
  unfold badF at h
  split at h
  ·cases h
  ·rename_i d hd
   have hlt : k < r.length := (List.getElem?_eq_some_iff.1 hd).1
   split at h
   ·cases h
   ·have := badF_none_len f (k + 1) r c p h (by omega)
    omega
theorem wrong_next {l : List UInt8} {i : Nat} (hi : i < l.length) (h1 : 1 ≤ wide (l[i].toNat : Int))
  (hb : badF (l.drop i) (l[i].toNat : Int) i ((wide (l[i].toNat : Int)).toNat - 1) 1 = none) :
  wrongF (l.length - i) (l.drop i) i = wrongF (l.length - (i + (wide (l[i].toNat : Int)).toNat)) (l.drop (i + (wide (l[i].toNat : Int)).toNat)) ((i + (wide (l[i].toNat : Int)).toNat : Nat) : Int) ∧
  i + (wide (l[i].toNat : Int)).toNat ≤ l.length := by
 have hw := wide_bd (l[i].toNat : Int)
 have hlen := badF_none_len _ _ _ _ _ hb (by rw [List.length_drop]; omega)
 rw [List.length_drop] at hlen
 refine ⟨?_, by omega⟩
 obtain ⟨f, hf⟩ : ∃ f, l.length - i = f + 1 := ⟨l.length - i - 1, by omega⟩
 rw [hf, wrongF, scanF, faultAt_drop hi, if_neg (by omega), hb]
 dsimp only
 rw [wideAt_drop hi, List.drop_drop, ← Int.natCast_add]
 exact wrongF_fuel _ _ _ _ (by rw [List.length_drop]; omega) (by rw [List.length_drop]; omega)
theorem wrong_none {l : List UInt8} {i : Nat} (hi : i < l.length) (h1 : wide (l[i].toNat : Int) = 0) : wrongF (l.length - i) (l.drop i) i = (30, (i : Int)) := by
 obtain ⟨f, hf⟩ : ∃ f, l.length - i = f + 1 := ⟨l.length - i - 1, by omega⟩
 rw [hf, wrongF, scanF, faultAt_drop hi, if_pos h1]
theorem wrong_bad {l : List UInt8} {i : Nat} {y : Int × Int} (hi : i < l.length) (h1 : 1 ≤ wide (l[i].toNat : Int))
  (hb : badF (l.drop i) (l[i].toNat : Int) i ((wide (l[i].toNat : Int)).toNat - 1) 1 = some y) : wrongF (l.length - i) (l.drop i) i = y := by
 obtain ⟨f, hf⟩ : ∃ f, l.length - i = f + 1 := ⟨l.length - i - 1, by omega⟩
 rw [hf, wrongF, scanF, faultAt_drop hi, if_neg (by omega), hb]
theorem badF_pos : ∀ (f k : Nat) (r : List UInt8) (c p : Int) (y : Int × Int), badF r c p f k = some y → y.1 = 30 ∨ y.1 = 31
 | 0, k, r, c, p, y, h => by cases h
 | f + 1, k, r, c, p, y, h => by
  unfold badF at h
  split at h
  ·injection h with h; subst h; exact .inr rfl
  ·split at h
   ·injection h with h; subst h; exact .inl rfl
   ·exact badF_pos f (k + 1) r c p y h
theorem wrong_next_s {s : ByteArray} {i : Nat} (hi : i < s.size) (h1 : 1 ≤ wide (s[i].toNat : Int))
  (hb : badF (s.data.toList.drop i) (s[i].toNat : Int) i ((wide (s[i].toNat : Int)).toNat - 1) 1 = none) :
  ∃ n : Nat, 1 ≤ n ∧ i + n ≤ s.size ∧ wide (s[i].toNat : Int) = n ∧
   wrongF (s.data.toList.length - i) (s.data.toList.drop i) i = wrongF (s.data.toList.length - (i + n)) (s.data.toList.drop (i + n)) ((i + n : Nat) : Int) := by
 have e1 : 1 ≤ (wide (s[i].toNat : Int)).toNat := by omega
 have e2 : wide (s[i].toNat : Int) = ((wide (s[i].toNat : Int)).toNat : Int) := by omega
 have h := wrong_next (l := s.data.toList) (by simpa using hi) h1 hb
 exact ⟨_, e1, h.2, e2, h.1⟩
theorem badF_place : ∀ (f k : Nat) (r : List UInt8) (c p : Int) (y : Int × Int), 0 ≤ p → badF r c p f k = some y → 0 ≤ y.2
 | 0, k, r, c, p, y, _, h => by cases h
 | f + 1, k, r, c, p, y, hp, h => by
  unfold badF at h
  split at h
  ·injection h with h; subst h; show 0 ≤ p + (r.length : Int); omega
  ·split at h
   ·injection h with h; subst h; show 0 ≤ p + (k : Int); omega
   ·exact badF_place f (k + 1) r c p y hp h
theorem scanF_place (st : List UInt8 → Int → Option (Int × Int)) (wd : List UInt8 → Nat) (h : ∀ r p y, 0 ≤ p → st r p = some y → 0 ≤ y.2) : ∀ (f : Nat) (r : List UInt8) (p : Int), 0 ≤ p → 0 ≤ (scanF st wd f r p).2
 | 0, _, _, _ => Int.le_refl _
 | f + 1, r, p, hp => by
  rw [scanF]
  cases hs : st r p with
  | some y => exact h r p y hp hs
  | none => exact scanF_place st wd h f _ _ (by omega)
theorem wrong_place (l : List UInt8) : 0 ≤ (wrong l).2 := by
 refine scanF_place _ _ (fun r p y hp h => ?_) _ _ _ (Int.le_refl _)
 cases r with
 | nil => injection h with h; rw [← h]; exact Int.le_refl _
 | cons c t =>
  have e : faultAt (c :: t) p = if wide (c.toNat : Int) = 0 then some (30, p) else badF (c :: t) (c.toNat : Int) p ((wide (c.toNat : Int)).toNat - 1) 1 := rfl
  rw [e] at h
  by_cases h0 : wide (c.toNat : Int) = 0
  ·rw [if_pos h0] at h
   injection h with h
   rw [← h]
   exact hp
  ·rw [if_neg h0] at h
   exact badF_place _ _ _ _ _ _ hp h
def rightR (l : List UInt8) : Bool := decide ((wrong l).1 = 0)
def checkR (l : List UInt8) : Int := if (wrong l).1 = 0 then -1 else (wrong l).2
end Ref3
theorem wrong_any (s : ByteArray) (hs : s.size ≤ 140737488355328) (w : World) :
  Calls Tryz.prog 174 #[.string s] w fun e w' => e = .returned (.tuple #[.int .i64 (wrong s.data.toList).1, .int .i64 (wrong s.data.toList).2]) ∧ w = w' := by
 go_enter Tryz.func174, Tryz.ntmps174
 go_wp2
 go_loop [4] (fun j => ∃ i : Nat, i ≤ s.size ∧ j = .int .i64 i ∧ Hid (wrongF (s.data.toList.length - i) (s.data.toList.drop i) i = wrong s.data.toList)) (fun j => s.size - (intOf j).toNat)
 case atStart => exact ⟨0, by omega, rfl, Lib.hid rfl⟩
 case round =>
  obtain ⟨i, hi, rfl, HW⟩ := hrel
  by_cases hlt : i < s.size
  ·have hlt' : i < s.data.toList.length := by simpa using hlt
   have hbw := wide_bd (s[i].toNat : Int)
   go_wp2_with fail
   refine (at_any s i hlt hs _).mono ?_
   rintro e w' ⟨rfl, h0, hb, hg⟩
   by_cases hw0 : wide (s[i].toNat : Int) = 0
   ·rw [h0 hw0]
    have hres := wrong_none hlt' hw0
    rw [HW.out] at hres
    have H := Lib.hid hres
    clear h0 hb hg hres hw0
    go_wp2
    go_ret2
    exact ⟨by rw [H.out]; rfl, rfl⟩
   ·have h1 : 1 ≤ wide (s[i].toNat : Int) := by omega
    cases hbad : badF (s.data.toList.drop i) (s[i].toNat : Int) i ((wide (s[i].toNat : Int)).toNat - 1) 1 with
    | some y =>
     rw [hb h1 y hbad]
     have hres := wrong_bad hlt' h1 hbad
     rw [HW.out] at hres
     have hy := badF_pos _ _ _ _ _ _ hbad
     have ey : (y.1 != 0) = true := by rw [bne_iff_ne]; omega
     have H := Lib.hid hres
     clear h0 hb hg hres hw0 hbad
     go_wp2
     go_ret2
     exact ⟨by rw [H.out]; rfl, rfl⟩
    | none =>
     obtain ⟨x, he⟩ := hg h1 hbad
     rw [he]
     obtain ⟨n, hn1, hle, hn, hnext⟩ := wrong_next_s hlt h1 hbad
     rw [HW.out] at hnext
     rw [hn]
     have H := Lib.hid hnext
     clear h0 hb hg hnext hw0 hbad he hn h1 hbw
     go_wp2
     go_round
     case rel => exact ⟨i + n, hle, by go_num, Lib.hid H.out.symm⟩
     case measure => simp [intOf]; omega
  ·obtain rfl : i = s.size := by omega
   have hres := HW.out
   rw [List.drop_eq_nil_of_le (by simp), wrongF_nil] at hres
   have H := Lib.hid hres
   clear hres
   go_wp2
   go_ret2
   exact ⟨by rw [← H.out]; rfl, rfl⟩
theorem refRight_any (s : ByteArray) (hs : s.size ≤ 140737488355328) (w : World) :
  Calls Tryz.prog 168 #[.string s] w fun e w' => e = .returned (.bool (rightR s.data.toList)) ∧ w = w' := by
 by_cases h : (wrong s.data.toList).1 = 0
 all_goals
  have H := Lib.hid h
  have h' : ((wrong s.data.toList).1 == 0) = decide ((wrong s.data.toList).1 = 0) := rfl
  have H' := Lib.hid h'
  clear h h'
  go_enter Tryz.func168, Tryz.ntmps168
  go_wp2_with fail
  refine (wrong_any s hs _).mono ?_
  rintro e w' ⟨rfl, rfl⟩
  go_wp2
  go_ret
  exact ⟨by first | rfl | (rw [rightR, ← H'.out]), rfl⟩
theorem refCheck_any (s : ByteArray) (hs : s.size ≤ 140737488355328) (w : World) :
  Calls Tryz.prog 143 #[.string s] w fun e w' => e = .returned (.int .i64 (checkR s.data.toList)) ∧ w = w' := by
 by_cases h : (wrong s.data.toList).1 = 0
 all_goals
  have H := Lib.hid h
  have hb : ((wrong s.data.toList).1 == 0) = decide ((wrong s.data.toList).1 = 0) := rfl
  first | rw [decide_eq_true h] at hb | rw [decide_eq_false h] at hb
  clear h
  go_enter Tryz.func143, Tryz.ntmps143
  go_wp2_with fail
  refine (wrong_any s hs _).mono ?_
  rintro e w' ⟨rfl, rfl⟩
  go_wp2
  go_ret
  exact ⟨by first | (rw [checkR, if_pos H.out]; rfl) | (rw [checkR, if_neg H.out]; rfl), rfl⟩
end Go.Proofs.YtbajkglacfheiaaGreatDoor
namespace Go.Proofs.YtbajkglacfheiaaGreatDoor
open Go.RowKit Utf Ref3
namespace UtfLaw
theorem wide_form (c : Int) (h0 : 0 ≤ c) (h1 : c ≤ 255) : wide c = (form c).1 := by
 unfold wide form
 repeat' split
 all_goals first | rfl | (exfalso; omega)
theorem may_one (c d : Int) (h : 2 ≤ (form c).1) : mayB (form c).2.1 (form c).2.2 1 d = true ↔ ¬ (second c d = false ∨ d < 128 ∨ 191 < d) := by
 unfold form at h ⊢
 unfold mayB second
 repeat' split
 all_goals first
  | (exfalso; omega)
  | (simp_all; omega)
  | (simp_all; done)
  | skip
theorem may_more (lo hi k d : Int) (h : k ≠ 1) : mayB lo hi k d = true ↔ ¬ (d < 128 ∨ 191 < d) := by
 unfold mayB
 rw [if_neg h]
 simp
def endP (x : Int × Int × Int × Bool) : Int × Int := if 0 < x.2.2.1 then (31, x.1) else if x.2.2.2 then (30, x.1) else (0, 0)
theorem feed_cons (d : UInt8) (t : List UInt8) (p h m : Int) : feed (d :: t) p h m = match fstep h m (d.toNat : Int) with
  | none => (p, h, 0, true)
  | some x => feed t (p + 1) x.1 x.2 := rfl
theorem fstep_in (c d : Int) (k n : Nat) (hk : 1 ≤ k) (hn : (form c).1 = n) (h2 : 2 ≤ n) (hkn : k < n) :
  fstep c k d = if (k = 1 ∧ second c d = false) ∨ d < 128 ∨ 191 < d then none else if k + 1 = n then some (c, 0) else some (c, ((k + 1 : Nat) : Int)) := by
 have hk0 : ¬ (k : Int) = 0 := by omega
 unfold fstep
 rw [if_neg hk0]
 have hm : mayB (form c).2.1 (form c).2.2 k d = true ↔ ¬ ((k = 1 ∧ second c d = false) ∨ d < 128 ∨ 191 < d) := by
  by_cases h1 : k = 1
  ·subst h1
   have := may_one c d (by omega)
   simpa using this
  ·have := may_more (form c).2.1 (form c).2.2 k d (by omega)
   rw [this]
   simp [h1]
 by_cases hb : (k = 1 ∧ second c d = false) ∨ d < 128 ∨ 191 < d
 ·rw [if_pos hb, if_neg (fun h => (hm.1 h) hb)]
 ·rw [if_neg hb, if_pos (hm.2 hb), hn]
  by_cases h1 : k + 1 = n
  ·rw [if_pos h1, if_pos (by omega)]
  ·rw [if_neg h1, if_neg (by omega)]
   rfl
theorem feed_in (r : List UInt8) (c p : Int) (n : Nat) (hn : (form c).1 = n) (h2 : 2 ≤ n) : ∀ (f k : Nat), 1 ≤ k → k + (f + 1) = n → k ≤ r.length →
  endP (feed (r.drop k) (p + k) c k) = match badF r c p (f + 1) k with
   | some y => y
   | none => endP (feed (r.drop n) (p + n) c 0)
 | f, k, hk, hf, hkl => by
  rw [badF]
  rcases Nat.lt_or_ge k r.length with hlt | hge
  ·rw [List.getElem?_eq_getElem hlt, List.drop_eq_getElem_cons hlt, feed_cons]
   dsimp only
   generalize hd : r[k] = d
   rw [fstep_in c d.toNat k n hk hn h2 (by omega)]
   by_cases hb : (k = 1 ∧ second c d.toNat = false) ∨ (d.toNat : Int) < 128 ∨ 191 < (d.toNat : Int)
   ·rw [if_pos hb, if_pos hb]
    rfl
   ·rw [if_neg hb, if_neg hb]
    by_cases h1 : k + 1 = n
    ·obtain rfl : f = 0 := by omega
     rw [if_pos h1, badF]
     subst h1
     dsimp only
     rw [Int.add_assoc, ← Int.natCast_add_one]
    ·rw [if_neg h1]
     dsimp only
     match f, hf with
     | 0, hf => omega
     | f + 1, hf =>
      have := feed_in r c p n hn h2 f (k + 1) (by omega) (by omega) hlt
      rw [← this, Int.add_assoc, ← Int.natCast_add_one]
  ·rw [List.getElem?_eq_none hge, List.drop_eq_nil_of_le hge]
   have : k = r.length := by omega
   subst this
   have hne : ¬ r = [] := by rintro rfl; simp at hk
   simp [feed, endP, hne]
theorem feed_out : ∀ (N : Nat) (r : List UInt8) (p h : Int), r.length ≤ N → endP (feed r p h 0) = wrongF N r p
 | 0, r, p, h, hN => by
  obtain rfl : r = [] := List.eq_nil_of_length_eq_zero (by omega)
  rfl
 | N + 1, [], p, h, hN => by rw [wrongF_nil]; rfl
 | N + 1, c :: t, p, h, hN => by
  have hb0 : (0 : Int) ≤ (c.toNat : Int) := by omega
  have hb1 : (c.toNat : Int) ≤ 255 := by have := c.toNat_lt; omega
  have hw := wide_form (c.toNat : Int) hb0 hb1
  have hbd := form_bd (c.toNat : Int)
  obtain ⟨n, hn⟩ : ∃ n : Nat, (form (c.toNat : Int)).1 = n := ⟨((form (c.toNat : Int)).1).toNat, by omega⟩
  have hn4 : n ≤ 4 := by omega
  have hfa : faultAt (c :: t) p = if wide (c.toNat : Int) = 0 then some (30, p) else badF (c :: t) (c.toNat : Int) p ((wide (c.toNat : Int)).toNat - 1) 1 := rfl
  have hwa : wideAt (c :: t) = (wide (c.toNat : Int)).toNat := rfl
  have hf0 : fstep h 0 (c.toNat : Int) = if (form (c.toNat : Int)).1 = 0 then none else if 1 < (form (c.toNat : Int)).1 then some ((c.toNat : Int), 1) else some (h, 0) := by
   unfold fstep
   rw [if_pos rfl]
  rw [wrongF, scanF, hfa, hwa, feed_cons, hf0, hw, hn, Int.toNat_natCast]
  simp only [List.length_cons] at hN
  generalize (c.toNat : Int) = q at *
  match n, hn, hn4 with
  | 0, hn, _ => rfl
  | 1, hn, _ =>
   have := feed_out N t (p + 1) h (by omega)
   exact this
  | n + 2, hn, _ =>
   rw [if_neg (by omega), if_pos (by omega), if_neg (by omega)]
   have h1 := feed_in (c :: t) q p (n + 2) hn (by omega) n 1 (Nat.le_refl _) (by omega) (by simp)
   have e1 : endP (feed t (p + 1) q 1) = endP (feed ((c :: t).drop 1) (p + (1 : Nat)) q ((1 : Nat) : Int)) := rfl
   have e2 : n + 2 - 1 = n + 1 := rfl
   dsimp only
   rw [e1, h1, e2]
   cases badF (c :: t) q p (n + 1) 1 with
   | some y => rfl
   | none => exact feed_out N _ _ q (by rw [List.length_drop, List.length_cons]; omega)
theorem end_wrong (l : List UInt8) : endP (feed l 0 0 0) = wrong l := feed_out l.length l 0 0 (Nat.le_refl _)
theorem chk_wrong (l : List UInt8) : chkV l = if (wrong l).1 = 0 then .nilIface else spotV (wrong l).1 (wrong l).2 := by
 rw [← end_wrong]
 unfold chkV endV faultV endP
 repeat' split
 all_goals simp_all
end UtfLaw
end Go.Proofs.YtbajkglacfheiaaGreatDoor
