/-
  The walk of the statement PointerParses.
-/
import Derived.Test.YtnldkbgbgngjjaaDoorWakes
import Derived.Test.YtnldkbgbgngjjaaDoorSpoil
namespace Go.Proofs.YtnldkbgbgngjjaaDoor
open Go.RowKit Mem Utf Ref3 Tok App
set_option linter.unusedVariables false
namespace Tok
theorem parse_code {w : Int × Int} {l : List UInt8} {x : Int × Int} (h : parseS w l = .error x) : x.1 = 100 ∨ x.1 = 130 ∨ x.1 = 3 := by
  unfold parseS at h
  by_cases hw : w.1 = 0
  · rw [if_pos hw] at h
    cases hr : run [] none l 0 with
    | error p =>
      rw [hr] at h
      injection h with h
      rw [← h]
      exact .inr (.inl rfl)
    | ok ts =>
      rw [hr] at h
      dsimp only at h
      by_cases hl : 65536 < ts.length
      · rw [if_pos hl] at h
        injection h with h
        rw [← h]
        exact .inr (.inr rfl)
      · rw [if_neg hl] at h
        cases h
  · rw [if_neg hw] at h
    injection h with h
    rw [← h]
    exact .inl rfl
theorem parse_le {w : Int × Int} {l : List UInt8} {ts : List (List UInt8)} (h : parseS w l = .ok ts) : ts.length ≤ 65536 := by
  unfold parseS at h
  by_cases hw : w.1 = 0
  · rw [if_pos hw] at h
    cases hr : run [] none l 0 with
    | error p =>
      rw [hr] at h
      cases h
    | ok ts' =>
      rw [hr] at h
      dsimp only at h
      by_cases hl : 65536 < ts'.length
      · rw [if_pos hl] at h
        cases h
      · rw [if_neg hl] at h
        injection h with h
        rw [← h]
        omega
  · rw [if_neg hw] at h
    cases h
end Tok
theorem own_apart {w w' : World} {base size n : Nat} {e : TypeId} {v v' : Value} {xs : List Value} (h : w.ownsRow base e size v n xs) (hg : w.grownBy w' v'.ownBlock) (hlt : ∀ g, v'.ownBlock = some g → g < base) : w'.ownsRow base e size v n xs := by
  refine h.kept hg ?_
  cases hv : v.ownBlock with
  | none => exact .inl rfl
  | some g =>
    refine .inr fun e => ?_
    have h1 := (h.lt g hv).1
    have h2 := hlt g e.symm
    omega

set_option maxRecDepth 100000 in
set_option maxHeartbeats 8000000 in
theorem parses_any (s : ByteArray) (hs : s.size ≤ 2147483648) (w : World) (hg : Glob w) :
    Calls Tryd.prog 3 #[.string s] w fun e w' => e = .returned (.bool true) ∧ Below w.heap.size w w' := by
  have q1 := err_eq_nil
  have q2 := err_ne_nil
  go_enter Tryd.func3, Tryd.ntmps3
  go_wp2_with fail
  refine (parse_any s hs _ hg).mono ?_
  rintro e w1 ⟨hb1, herr1, hok1⟩
  have hg1 := hg.next hb1
  cases hp : parseS (wrong s.data.toList) s.data.toList with
  | error x =>
    rw [herr1 x hp]
    have hcode := parse_code hp
    have hne : (x.1 != 0) = true := by rw [bne_iff_ne]; omega
    have HP := Lib.hid hp
    clear herr1 hok1 hp hcode
    go_wp2_with fail
    refine (refParse_any s hs _).mono ?_
    rintro e w2 ⟨hb2, herr2, hok2⟩
    rw [herr2 x HP.out]
    have hg2 := hg1.next hb2
    clear herr2 hok2
    go_wp2_with fail
    refine (fault_err x.1 x.2 _ _).mono ?_
    rintro e w3 ⟨rfl, hb3⟩
    have hg3 := hg2.next hb3
    go_wp2_with fail
    refine (wakes_any _ hg3).mono ?_
    rintro e w4 ⟨rfl, hb4⟩
    have hbw := below_chain (below_chain (below_chain hb1 hb1.size hb2) (Nat.le_trans hb1.size hb2.size) hb3) (Nat.le_trans (Nat.le_trans hb1.size hb2.size) hb3.size) hb4
    clear hb1 hb2 hb3 hb4
    go_wp2
    go_ret
    exact ⟨rfl, hbw⟩
  | ok ts =>
    obtain ⟨a, rfl, hownA⟩ := hok1 ts hp
    have hle := parse_le hp
    have HP := Lib.hid hp
    clear herr1 hok1 hp
    go_wp2_with fail
    refine (refParse_any s hs _).mono ?_
    rintro e w2 ⟨hb2, _, hok2⟩
    obtain ⟨q, rfl, hownW⟩ := hok2 ts HP.out
    have hg2 := hg1.next hb2
    clear hok2
    go_wp2_with fail
    refine (parse_any s hs _ hg2).mono ?_
    rintro e w3 ⟨hb3, _, hok3⟩
    obtain ⟨b, rfl, hownB⟩ := hok3 ts HP.out
    have hg3 := hg2.next hb3
    clear hok3
    have hA3 := own_below (own_below hownA hb2) hb3
    have hW3 := own_below hownW hb3
    have hA1 := fun g (h : a.ownBlock = some g) => (hownA.lt g h).2
    have hA0 := fun g (h : a.ownBlock = some g) => (hownA.lt g h).1
    have hW1 := fun g (h : q.ownBlock = some g) => (hownW.lt g h).2
    have hB0 := fun g (h : b.ownBlock = some g) => (hownB.lt g h).1
    have hs1 := hb1.size
    have hs2 := hb2.size
    have hs3 := hb3.size
    have hbw3 := below_chain (below_chain hb1 hs1 hb2) (by omega) hb3
    clear hb1 hb2 hb3 hownA hownW hg1 hg2
    go_wp2_with fail
    refine (texts_any _ _ ts ts _ (Rd.of_own hA3) (Rd.of_own hW3) (by omega) (by omega)).mono ?_
    rintro e w4 ⟨rfl, hb4⟩
    rw [decide_eq_true rfl]
    have hA4 := own_below hA3 hb4
    have hW4 := own_below hW3 hb4
    have hB4 := own_below hownB hb4
    have hg4 := hg3.next hb4
    have hs4 := hb4.size
    have hbw4 := below_chain hbw3 (by omega) hb4
    clear hA3 hW3 hownB hb4 hbw3 hg3
    go_wp2_with fail
    refine (texts_any _ _ ts ts _ (Rd.of_own hB4) (Rd.of_own hW4) (by omega) (by omega)).mono ?_
    rintro e w5 ⟨rfl, hb5⟩
    rw [decide_eq_true rfl]
    have hA5 := own_below hA4 hb5
    have hW5 := own_below hW4 hb5
    have hB5 := own_below hB4 hb5
    have hg5 := hg4.next hb5
    have hs5 := hb5.size
    have hbw5 := below_chain hbw4 (by omega) hb5
    clear hA4 hW4 hB4 hb5 hbw4 hg4
    go_wp2_with fail
    refine (spoil_any a ts.length _ (RowOf.of_own hA5) (by omega)).mono ?_
    rintro e w6 ⟨rfl, hgr6⟩
    have hW6 := own_apart hW5 hgr6 hA1
    have hB6 := own_apart hB5 hgr6 (fun g h => Nat.lt_of_lt_of_le (hA1 g h) hs2)
    have hbw6 : Below w.heap.size w w6 := hbw5.grown hgr6 (by omega) hA0
    have hs6 := hgr6.size
    have hg6 := hg.next hbw6
    clear hA5 hW5 hB5 hgr6 hbw5 hg5
    go_wp2_with fail
    refine (texts_any _ _ ts ts _ (Rd.of_own hB6) (Rd.of_own hW6) (by omega) (by omega)).mono ?_
    rintro e w7 ⟨rfl, hb7⟩
    rw [decide_eq_true rfl]
    have hW7 := own_below hW6 hb7
    have hB7 := own_below hB6 hb7
    have hg7 := hg6.next hb7
    have hs7 := hb7.size
    have hbw7 := below_chain hbw6 (by omega) hb7
    clear hW6 hB6 hb7 hbw6 hg6
    go_wp2_with fail
    refine (spoil_any b ts.length _ (RowOf.of_own hB7) (by omega)).mono ?_
    rintro e w8 ⟨rfl, hgr8⟩
    have hW8 := hW7.kept hgr8 (by
      cases hq : q.ownBlock with
      | none => exact .inl rfl
      | some g =>
        refine .inr fun e => ?_
        have h1 := hW1 g hq
        have h2 := hB0 g e.symm
        omega)
    have hbw8 : Below w.heap.size w w8 := hbw7.grown hgr8 (by omega) (fun g h => by have := hB0 g h; omega)
    have hs8 := hgr8.size
    have hg8 := hg.next hbw8
    clear hW7 hB7 hgr8 hbw7 hg7 hA0 hA1 hB0 hW1
    go_wp2_with fail
    refine (parse_any s hs _ hg8).mono ?_
    rintro e w9 ⟨hb9, _, hok9⟩
    obtain ⟨c, rfl, hownC⟩ := hok9 ts HP.out
    have hW9 := own_below hW8 hb9
    have hs9 := hb9.size
    have hbw9 := below_chain hbw8 (by omega) hb9
    clear hok9 hW8 hb9 hg8 hbw8
    go_wp2_with fail
    refine (texts_any _ _ ts ts _ (Rd.of_own hownC) (Rd.of_own hW9) (by omega) (by omega)).mono ?_
    rintro e w10 ⟨rfl, hb10⟩
    rw [decide_eq_true rfl]
    have hs10 := hb10.size
    have hbw10 := below_chain hbw9 (by omega) hb10
    clear hownC hW9 hb10 hbw9
    go_wp2_with fail
    refine (wakes_any _ (hg.next hbw10)).mono ?_
    rintro e w11 ⟨rfl, hb11⟩
    have hbw11 := below_chain hbw10 (by omega) hb11
    clear hb11 hbw10
    go_wp2
    go_ret
    exact ⟨rfl, hbw11⟩
end Go.Proofs.YtnldkbgbgngjjaaDoor
