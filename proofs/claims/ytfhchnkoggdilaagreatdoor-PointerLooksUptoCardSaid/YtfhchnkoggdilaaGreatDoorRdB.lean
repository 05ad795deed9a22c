/-
  Walks of the reference of layer 3: At.
-/
import Derived.Test.YtfhchnkoggdilaaGreatDoorRdA
namespace Go.Proofs.YtfhchnkoggdilaaGreatDoor
open Go.RowKit Mem Ref3
set_option linter.unusedVariables false
namespace Ref3
/-- the first fault of a form from its byte k on, so many bytes more -/
def badF (r : List UInt8) (c0 p : Int) : Nat → Nat → Option (Int × Int)
  | 0, _ => none
  | f + 1, k => match r[k]? with
    | none => some (31, p + r.length)
    | some d => if (k = 1 ∧ second c0 (d.toNat : Int) = false) ∨ (d.toNat : Int) < 128 ∨ 191 < (d.toNat : Int) then some (30, p + k) else badF r c0 p f (k + 1)
end Ref3

theorem results_tmp4 {fn : Func} {t u v x : Tmp} (h : fn.results = #[.tmp t, .tmp u, .tmp v, .tmp x]) (tmps : Array Value) (P : Program) (w : World) :
    (results fn tmps).run P w = .ok (.tuple #[tmps.getD t undef, tmps.getD u undef, tmps.getD v undef, tmps.getD x undef]) w := by simp [results, h]

def AtP (l : List UInt8) (i : Nat) (c : Int) (w : World) (e : Ending) (w' : World) : Prop :=
  w = w' ∧ (wide c = 0 → e = .returned (.tuple #[.int .i32 0, .int .i64 0, .int .i64 30, .int .i64 i])) ∧
  (1 ≤ wide c → ∀ y, badF (l.drop i) c i ((wide c).toNat - 1) 1 = some y → e = .returned (.tuple #[.int .i32 0, .int .i64 0, .int .i64 y.1, .int .i64 y.2])) ∧
  (1 ≤ wide c → badF (l.drop i) c i ((wide c).toNat - 1) 1 = none → ∃ x, e = .returned (.tuple #[.int .i32 x, .int .i64 (wide c), .int .i64 0, .int .i64 0]))

theorem at_bad {l : List UInt8} {i nw : Nat} {c : Int} {y : Int × Int} (hw : wide c = nw) (h1 : 1 ≤ nw) (hb : badF (l.drop i) c i (nw - 1) 1 = some y) (w : World) :
    AtP l i c w (.returned (.tuple #[.int .i32 0, .int .i64 0, .int .i64 y.1, .int .i64 y.2])) w := by
  have e : (wide c).toNat - 1 = nw - 1 := by rw [hw]; simp
  refine ⟨rfl, fun h => by omega, fun _ z hz => ?_, fun _ hz => ?_⟩
  · rw [e, hb] at hz
    injection hz with hz
    rw [hz]
  · rw [e, hb] at hz
    cases hz
theorem at_good {l : List UInt8} {i nw : Nat} {c : Int} (hw : wide c = nw) (h1 : 1 ≤ nw) (hb : badF (l.drop i) c i (nw - 1) 1 = none) (w : World) (x : Int) :
    AtP l i c w (.returned (.tuple #[.int .i32 x, .int .i64 nw, .int .i64 0, .int .i64 0])) w := by
  have e : (wide c).toNat - 1 = nw - 1 := by rw [hw]; simp
  refine ⟨rfl, fun h => by omega, fun _ z hz => ?_, fun _ hz => ⟨x, by rw [hw]⟩⟩
  rw [e, hb] at hz
  cases hz

set_option maxRecDepth 100000 in
set_option maxHeartbeats 4000000 in
theorem at_any (s : ByteArray) (i : Nat) (hi : i < s.size) (hs : s.size ≤ 140737488355328) (w : World) :
    Calls Tryz.prog 81 #[.string s, .int .i64 i] w (AtP s.data.toList i (s[i].toNat : Int) w) := by
  have hb0 : (0 : Int) ≤ (s[i].toNat : Int) := by omega
  have hb1 : (s[i].toNat : Int) ≤ 255 := by have := s[i].toNat_lt; omega
  go_enter Tryz.func81, Tryz.ntmps81
  go_wp2_with fail
  refine (wide_any _ hb0 hb1 _).mono ?_
  rintro e w' ⟨rfl, rfl⟩
  have hbw := wide_bd (s[i].toNat : Int)
  by_cases hw0 : wide (s[i].toNat : Int) = 0
  · have H : AtP s.data.toList i (s[i].toNat : Int) w (.returned (.tuple #[.int .i32 0, .int .i64 0, .int .i64 30, .int .i64 i])) w :=
      ⟨rfl, fun _ => rfl, fun h => by omega, fun h => by omega⟩
    have HH := Lib.hid H
    clear H
    rw [hw0]
    clear hw0
    go_wp2
    exact bodyPost_ret (results_tmp4 (t := 4) (u := 5) (v := 6) (x := 7) rfl _ _ _) rfl HH.out
  · obtain ⟨nw, hnw⟩ : ∃ nw : Nat, wide (s[i].toNat : Int) = nw := ⟨(wide (s[i].toNat : Int)).toNat, by omega⟩
    have hn1 : 1 ≤ nw := by omega
    have hn4 : nw ≤ 4 := by omega
    have Hnw := Lib.hid hnw
    rw [hnw]
    clear hnw hw0 hbw
    have e0 : ((nw : Int) == 0) = false := by simp; omega
    go_wp2
    go_loop [9] (fun j => ∃ k : Nat, 1 ≤ k ∧ k ≤ nw ∧ i + k ≤ s.size ∧ j = .int .i64 k ∧ Hid (badF (s.data.toList.drop i) (s[i].toNat : Int) i (nw - k) k = badF (s.data.toList.drop i) (s[i].toNat : Int) i (nw - 1) 1)) (fun j => nw - (intOf j).toNat)
    case atStart => exact ⟨1, by omega, by omega, by omega, rfl, Lib.hid rfl⟩
    case round =>
      obtain ⟨k, hk1, hkn, hks, rfl, HB⟩ := hrel
      by_cases hlt : k < nw
      · by_cases hin : i + k < s.size
        · have hgk : (s.data.toList.drop i)[k]? = some s[i + k] := by
            rw [List.getElem?_drop, List.getElem?_eq_getElem (by simpa using hin)]
            rfl
          have hfold : nw - k = (nw - (k + 1)) + 1 := by omega
          have hd0 : (0 : Int) ≤ (s[i + k].toNat : Int) := by omega
          have hd1 : (s[i + k].toNat : Int) ≤ 255 := by have := s[i + k].toNat_lt; omega
          by_cases hk : k = 1
          · subst hk
            by_cases hbad : second (s[i].toNat : Int) (s[i + 1].toNat : Int) = false ∨ (s[i + 1].toNat : Int) < 128 ∨ 191 < (s[i + 1].toNat : Int)
            · have hb : badF (s.data.toList.drop i) (s[i].toNat : Int) i (nw - 1) 1 = some (30, (i : Int) + ((1 : Nat) : Int)) := by
                rw [hfold, badF, hgk]
                dsimp only
                rw [if_pos (by rcases hbad with h | h; exact .inl ⟨rfl, h⟩; exact .inr h)]
              have HH := Lib.hid (at_bad Hnw.out hn1 hb w)
              clear hb hgk hfold
              cases hsec : second (s[i].toNat : Int) (s[i + 1].toNat : Int) with
              | false =>
                have Hsec := Lib.hid hsec
                clear hsec hbad
                go_wp2_with fail
                refine (second_any _ _ _).mono ?_
                rintro e w' ⟨rfl, rfl⟩
                rw [Hsec.out]
                go_wp2
                exact bodyPost_ret (results_tmp4 (t := 4) (u := 5) (v := 6) (x := 7) rfl _ _ _) rfl HH.out
              | true =>
                have Hsec := Lib.hid hsec
                have hbad' : (s[i + 1].toNat : Int) < 128 ∨ 191 < (s[i + 1].toNat : Int) := by
                  rcases hbad with h | h
                  · rw [hsec] at h; cases h
                  · exact h
                clear hsec hbad
                rcases hbad' with h | h
                all_goals
                  go_wp2_with fail
                  refine (second_any _ _ _).mono ?_
                  rintro e w' ⟨rfl, rfl⟩
                  rw [Hsec.out]
                  go_wp2
                  exact bodyPost_ret (results_tmp4 (t := 4) (u := 5) (v := 6) (x := 7) rfl _ _ _) rfl HH.out
            · have hsec : second (s[i].toNat : Int) (s[i + 1].toNat : Int) = true := by
                cases h : second (s[i].toNat : Int) (s[i + 1].toNat : Int)
                · exact absurd (.inl h) hbad
                · rfl
              have h128 : 128 ≤ (s[i + 1].toNat : Int) := by omega
              have h191 : (s[i + 1].toNat : Int) ≤ 191 := by omega
              have hnext : badF (s.data.toList.drop i) (s[i].toNat : Int) i (nw - 1) 1 = badF (s.data.toList.drop i) (s[i].toNat : Int) i (nw - 2) 2 := by
                rw [hfold, badF, hgk]
                dsimp only
                rw [if_neg (by rintro (⟨_, h⟩ | h); exact hbad (.inl h); exact hbad (.inr h))]
              have HN := Lib.hid hnext
              have Hsec := Lib.hid hsec
              clear hsec hbad hnext hgk hfold
              go_wp2_with fail
              refine (second_any _ _ _).mono ?_
              rintro e w' ⟨rfl, rfl⟩
              rw [Hsec.out]
              go_wp2
              go_round
              case rel => exact ⟨2, by omega, by omega, by omega, by go_num, Lib.hid HN.out.symm⟩
              case measure => simp [intOf]; omega
          · by_cases hbad : (s[i + k].toNat : Int) < 128 ∨ 191 < (s[i + k].toNat : Int)
            · have hb : badF (s.data.toList.drop i) (s[i].toNat : Int) i (nw - 1) 1 = some (30, (i : Int) + (k : Int)) := by
                rw [← HB.out, hfold, badF, hgk]
                dsimp only
                rw [if_pos (.inr hbad)]
              have HH := Lib.hid (at_bad Hnw.out hn1 hb w)
              have ek : ((k : Int) == 1) = false := by simp; omega
              clear hb hgk hfold
              rcases hbad with h | h
              all_goals
                go_wp2
                exact bodyPost_ret (results_tmp4 (t := 4) (u := 5) (v := 6) (x := 7) rfl _ _ _) rfl HH.out
            · have h128 : 128 ≤ (s[i + k].toNat : Int) := by omega
              have h191 : (s[i + k].toNat : Int) ≤ 191 := by omega
              have hnext : badF (s.data.toList.drop i) (s[i].toNat : Int) i (nw - (k + 1)) (k + 1) = badF (s.data.toList.drop i) (s[i].toNat : Int) i (nw - 1) 1 := by
                rw [← HB.out, hfold, badF, hgk]
                dsimp only
                rw [if_neg (by rintro (⟨h, _⟩ | h); exact hk h; exact hbad h)]
              have HN := Lib.hid hnext
              have ek : ((k : Int) == 1) = false := by simp; omega
              clear hbad hnext hgk hfold
              go_wp2
              go_round
              case rel => exact ⟨k + 1, by omega, by omega, by omega, by go_num, Lib.hid HN.out⟩
              case measure => simp [intOf]; omega
        · have hgk : (s.data.toList.drop i)[k]? = none := by
            rw [List.getElem?_drop, List.getElem?_eq_none (by simpa using hin)]
          have hlen : ((s.data.toList.drop i).length : Int) = (s.size : Int) - i := by
            rw [List.length_drop]
            have : s.data.toList.length = s.size := rfl
            omega
          have hfold : nw - k = (nw - (k + 1)) + 1 := by omega
          have hb : badF (s.data.toList.drop i) (s[i].toNat : Int) i (nw - 1) 1 = some (31, (s.size : Int)) := by
            rw [← HB.out, hfold, badF, hgk]
            dsimp only
            rw [hlen]
            congr 2
            omega
          have HH := Lib.hid (at_bad Hnw.out hn1 hb w)
          clear hb hgk hfold hlen
          go_wp2
          exact bodyPost_ret (results_tmp4 (t := 4) (u := 5) (v := 6) (x := 7) rfl _ _ _) rfl HH.out
      · obtain rfl : k = nw := by omega
        have hb : badF (s.data.toList.drop i) (s[i].toNat : Int) i (k - 1) 1 = none := by
          rw [← HB.out, Nat.sub_self, badF]
        have HH := Lib.hid (at_good Hnw.out hn1 hb w)
        clear hb
        go_wp2
        all_goals
          go_loop [11, 12] (fun x j => ∃ (q : Int) (m : Nat), 1 ≤ m ∧ m ≤ k ∧ x = .int .i64 q ∧ j = .int .i64 m) (fun _ j => k - (intOf j).toNat)
          case atStart => exact ⟨_, 1, by omega, by omega, rfl, rfl⟩
          case round =>
            obtain ⟨q, m, hm1, hmk, rfl, rfl⟩ := hrel
            by_cases hlt2 : m < k
            · have hin2 : i + m < s.size := by omega
              go_wp2
              go_round
              case rel => exact ⟨_, m + 1, by omega, by omega, rfl, by go_num⟩
              case measure => simp [intOf]; omega
            · obtain rfl : m = k := by omega
              go_wp2
              exact bodyPost_ret (results_tmp4 (t := 4) (u := 5) (v := 6) (x := 7) rfl _ _ _) rfl (HH.out _)
end Go.Proofs.YtfhchnkoggdilaaGreatDoor
