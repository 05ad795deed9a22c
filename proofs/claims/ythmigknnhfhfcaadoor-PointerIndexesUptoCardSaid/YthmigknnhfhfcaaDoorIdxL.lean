/-
  Walk of the statement PointerIndexes.
-/
import Derived.Test.YthmigknnhfhfcaaDoorIdxW
namespace Go.Proofs.YthmigknnhfhfcaaDoor
open Go.RowKit Mem Utf Ref3 Tok Idx
set_option linter.unusedVariables false

theorem idx_drop {s : ByteArray} {k x : Nat} (hk : k < s.size) : idxLoop (s.data.toList.drop k) x = if s[k].toNat < 48 ∨ 57 < s[k].toNat then none else if (9223372036854775807 - (s[k].toNat - 48)) / 10 < x then none else idxLoop (s.data.toList.drop (k + 1)) (10 * x + (s[k].toNat - 48)) := by
  have hk' : k < s.data.toList.length := hk
  rw [List.drop_eq_getElem_cons hk', idx_cons]
  rfl
def IdxRel (s : ByteArray) (c5 c6 : Value) : Prop := ∃ k x : Nat, k ≤ s.size ∧ x < 9223372036854775808 ∧ c6 = .int .i64 k ∧ c5 = .int .i64 x ∧ Hid (idxLoop (s.data.toList.drop k) x = idxLoop s.data.toList 0)
theorem ret_int {k : IntKind} {a b : Int} (h : a = b) : Ending.returned (.int k a) = .returned (.int k b) := by rw [h]
theorem lead_cases {s : ByteArray} : (s.size = 0 → Lead s.data.toList) ∧ (∀ h : 0 < s.size, 1 < s.size → s[0].toNat = 48 → Lead s.data.toList) ∧
    (Lead s.data.toList → s.size = 0 ∨ ∃ h : 0 < s.size, 1 < s.size ∧ s[0].toNat = 48) := by
  refine ⟨fun h => .inl (List.eq_nil_of_length_eq_zero h), fun h h1 h2 => .inr ⟨h1, ?_⟩, ?_⟩
  · have h' : 0 < s.data.toList.length := h
    rw [List.head?_eq_getElem?, List.getElem?_eq_getElem h']
    congr 1
    exact UInt8.toNat_inj.1 h2
  · rintro (h | ⟨h1, h2⟩)
    · exact .inl (by show s.data.toList.length = 0; rw [h]; rfl)
    · have h' : 0 < s.data.toList.length := by omega
      rw [List.head?_eq_getElem?, List.getElem?_eq_getElem h'] at h2
      injection h2 with h2
      refine .inr ⟨h', h1, ?_⟩
      show (s.data.toList[0]).toNat = 48
      rw [h2]
      rfl
set_option maxRecDepth 100000 in
set_option maxHeartbeats 2000000 in
theorem refIndex_any (s : ByteArray) (n : Int) (hl : s.size ≤ 281474976710656) (w : World) :
    Calls Tryd.prog 5 #[.string s, .int .i64 n] w fun e w' => e = .returned (.int .i64 (idxR s.data.toList n)) ∧ w' = w := by
  obtain ⟨hL0, hL1, hL2⟩ := lead_cases (s := s)
  by_cases hlead : Lead s.data.toList
  · have HR : Hid (idxR s.data.toList n = -1) := Lib.hid (by rw [idxR, if_pos hlead])
    rcases hL2 hlead with h1 | ⟨h0, h1, h2⟩
    · clear hL0 hL1 hL2 hlead
      have e1 : ((s.size : Int) == 0) = true := by simp [h1]
      clear h1
      go_enter Tryd.func5, Tryd.ntmps5
      go_wp2
      go_ret
      exact ⟨ret_int HR.out.symm, rfl⟩
    · clear hL0 hL1 hL2 hlead
      have e1 : ((s.size : Int) == 0) = false := by rw [beq_eq_false_iff_ne]; omega
      have e2 : ((s[0].toNat : Int) == 48) = true := by simp [h2]
      have e3 : (1 : Int) < (s.size : Int) := by omega
      clear h2
      go_enter Tryd.func5, Tryd.ntmps5
      go_wp2
      go_ret
      exact ⟨ret_int HR.out.symm, rfl⟩
  · have h0 : 0 < s.size := by
      rcases Nat.eq_zero_or_pos s.size with h | h
      · exact absurd (hL0 h) hlead
      · exact h
    have HR : ∀ o, Hid (idxLoop s.data.toList 0 = o → idxR s.data.toList n = match o with | none => -1 | some x => if n ≤ (x : Int) then -1 else (x : Int)) := fun o => Lib.hid (by intro h; rw [idxR, if_neg hlead, h]; rfl)
    have hh : ¬ 1 < s.size ∨ ¬ s[0].toNat = 48 := by
      by_cases h1 : 1 < s.size
      · exact .inr fun h2 => hlead (hL1 h0 h1 h2)
      · exact .inl h1
    clear hL0 hL1 hL2 hlead
    have e1 : ((s.size : Int) == 0) = false := by rw [beq_eq_false_iff_ne]; omega
    rcases hh with h1 | h1
    all_goals
      first
        | (have e3 : ¬ (1 : Int) < (s.size : Int) := by omega)
        | (have e2 : ((s[0].toNat : Int) == 48) = false := by rw [beq_eq_false_iff_ne]; omega)
      try clear h1
      go_enter Tryd.func5, Tryd.ntmps5
      go_wp2
      all_goals
      go_loop [5, 6] (fun c5 c6 => IdxRel s c5 c6) (fun _ c6 => s.size - (intOf c6).toNat)
      case atStart => exact ⟨0, 0, by omega, by omega, rfl, rfl, Lib.hid rfl⟩
      case round =>
        obtain ⟨k, x, hk, hx, rfl, rfl, H⟩ := hrel
        by_cases hlt : k < s.size
        · have hst := idx_drop (x := x) hlt
          rw [H.out] at hst
          have hcb := s[k].toNat_lt
          by_cases hd : s[k].toNat < 48 ∨ 57 < s[k].toNat
          · rw [if_pos hd] at hst
            have HV := Lib.hid ((HR none).out hst)
            clear hst
            rcases hd with hd | hd
            · have e4 : (s[k].toNat : Int) < 48 := by omega
              go_wp2
              go_ret
              exact ⟨ret_int HV.out.symm, rfl⟩
            · have e4 : ¬ (s[k].toNat : Int) < 48 := by omega
              have e5 : (57 : Int) < (s[k].toNat : Int) := by omega
              go_wp2
              go_ret
              exact ⟨ret_int HV.out.symm, rfl⟩
          · rw [if_neg hd] at hst
            have e4 : ¬ (s[k].toNat : Int) < 48 := by omega
            have e5 : ¬ (57 : Int) < (s[k].toNat : Int) := by omega
            by_cases ho : (9223372036854775807 - (s[k].toNat - 48)) / 10 < x
            · rw [if_pos ho] at hst
              have HV := Lib.hid ((HR none).out hst)
              have e6 : (9223372036854775807 - ((s[k].toNat : Int) - 48)) / 10 < (x : Int) := by omega
              clear hst ho
              go_wp2
              go_ret
              exact ⟨ret_int HV.out.symm, rfl⟩
            · rw [if_neg ho] at hst
              have HS := Lib.hid hst.symm
              have e6 : ¬ (9223372036854775807 - ((s[k].toNat : Int) - 48)) / 10 < (x : Int) := by omega
              have e7 : (10 * x + (s[k].toNat - 48) : Nat) < 9223372036854775808 := by omega
              have e8 : 10 * (x : Int) + ((s[k].toNat : Int) - 48) = ((10 * x + (s[k].toNat - 48) : Nat) : Int) := by omega
              have E8 := Lib.hid e8
              clear hst e8 ho
              go_wp2
              go_round
              case rel => exact ⟨k + 1, 10 * x + (s[k].toNat - 48), by omega, e7, by go_num, by rw [E8.out], HS⟩
              case measure => simp [intOf]; omega
        · obtain rfl : k = s.size := by omega
          have hend : idxLoop (s.data.toList.drop s.size) x = some x := by
            rw [List.drop_of_length_le (show s.data.toList.length ≤ s.size from Nat.le_refl _)]
            rfl
          rw [H.out] at hend
          have hv := (HR (some x)).out hend
          simp only [] at hv
          by_cases hn : n ≤ (x : Int)
          · rw [if_pos hn] at hv
            have HV := Lib.hid hv
            clear hv hend
            go_wp2
            go_ret
            exact ⟨ret_int HV.out.symm, rfl⟩
          · rw [if_neg hn] at hv
            have HV := Lib.hid hv
            clear hv hend
            go_wp2
            go_ret
            exact ⟨ret_int HV.out.symm, rfl⟩
theorem idx_three : idxC [51] 4 = some 3 := by kernel_rfl
set_option maxRecDepth 100000 in
set_option maxHeartbeats 1000000 in
theorem indexes_any (s : ByteArray) (n : Int) (hl : s.size ≤ 1048576) (w : World) (hg : Glob w) (hT : Tab w) :
    Calls Tryd.prog 3 #[.string s, .int .i64 n] w fun e w' => e = .returned (.bool true) ∧ Below w.heap.size w w' := by
  have hlaw := idx_law s.data.toList n
  obtain ⟨r, hr⟩ : ∃ r, idxR s.data.toList n = r := ⟨_, rfl⟩
  rw [hr] at hlaw
  have HR := Lib.hid hr
  have h1 : s.data.toList.length ≤ 281474976710656 := by show s.size ≤ _; omega
  have e1 : (r == r) = true := by simp
  clear hr
  by_cases hr : r < 0
  · rw [if_pos hr] at hlaw
    have HL := Lib.hid hlaw
    clear hlaw
    go_enter Tryd.func3, Tryd.ntmps3
    go_wp2_with fail
    refine (index_any s.data.toList n h1 _ hT).mono ?_
    rintro e w1 ⟨rfl, hb⟩
    rw [HL.out, idxV]
    go_wp2_with fail
    refine (refIndex_any s n (by omega) _).mono ?_
    rintro e w2 ⟨rfl, rfl⟩
    rw [HR.out]
    go_wp2_with fail
    refine (wakes_any _ (hg.next hb)).mono ?_
    rintro e w3 ⟨rfl, hb3⟩
    have hbw := below_chain hb hb.size hb3
    go_wp2
    go_ret
    exact ⟨rfl, hbw⟩
  · rw [if_neg hr] at hlaw
    have HL := Lib.hid hlaw
    clear hlaw
    go_enter Tryd.func3, Tryd.ntmps3
    go_wp2_with fail
    refine (index_any s.data.toList n h1 _ hT).mono ?_
    rintro e w1 ⟨rfl, hb⟩
    rw [HL.out, idxV]
    go_wp2_with fail
    refine (refIndex_any s n (by omega) _).mono ?_
    rintro e w2 ⟨rfl, rfl⟩
    rw [HR.out]
    go_wp2_with fail
    refine (index_any [51] 4 (by decide) _ (hT.next hb)).mono ?_
    rintro e w3 ⟨rfl, hb3⟩
    rw [idx_three, idxV]
    have hbw := below_chain hb hb.size hb3
    go_wp2
    go_ret
    exact ⟨rfl, hbw⟩
end Go.Proofs.YthmigknnhfhfcaaDoor
