/-
  Walks of layer 10's law: single; parts of a row of steps.
-/
import Derived.Test.YtfhfkggkbeahbaaGreatNoA
import Derived.Test.YtfhfkggkbeahbaaGreatNsN
namespace Go.Proofs.YtfhfkggkbeahbaaGreat
open Go.RowKit Mem
set_option linter.unusedVariables false
set_option linter.unusedSimpArgs false
namespace Nd

theorem rds_drop {w : World} {g o m c c' j : Nat} {ss : List Stp} (h : RdS w (.slice (some ⟨g, o, none⟩) m c) ss) (hj : j ≤ m) : RdS w (.slice (some ⟨g, o + j * 6, none⟩) (m - j) c') (ss.drop j) := by
  obtain ⟨A, c2, e, h⟩ := h
  injection e with e1 e2 e3
  refine ⟨_, c', by rw [List.length_drop, e2], ?_⟩
  rcases h with rfl | ⟨g', o', hA, hc⟩
  · exact .inl (by simp)
  · rw [hA] at e1
    injection e1 with e1
    injection e1 with e4 e5 _
    subst e4
    subst e5
    refine .inr ⟨_, _, rfl, fun i s hs => ?_⟩
    rw [List.getElem?_drop] at hs
    obtain ⟨K, q, h⟩ := hc _ s hs
    have e6 : o + j * 6 + i * 6 = o + (j + i) * 6 := by omega
    rw [e6]
    exact ⟨K, q, h⟩
theorem cellsE_app (a b : List E6) : cellsE (a ++ b) = cellsE a ++ cellsE b := by
  unfold cellsE
  rw [List.flatMap_append]
theorem cellsE_mid (es : List E6) (a b j : Nat) (u : Value) (ha : a ≤ es.length) (h : (cellsE ((es.drop a).take b))[j]? = some u) : (cellsE es)[a * 6 + j]? = some u := by
  have h1 : es = es.take a ++ ((es.drop a).take b ++ (es.drop a).drop b) := by rw [List.take_append_drop, List.take_append_drop]
  have hl : (cellsE (es.take a)).length = a * 6 := by rw [cellsE_len, List.length_take]; omega
  have hj : j < (cellsE ((es.drop a).take b)).length := by
    rcases Nat.lt_or_ge j (cellsE ((es.drop a).take b)).length with h2 | h2
    · exact h2
    · rw [List.getElem?_eq_none h2] at h
      cases h
  rw [h1, cellsE_app, cellsE_app, List.getElem?_append_right (by omega), hl, Nat.add_sub_cancel_left, List.getElem?_append_left hj]
  exact h
theorem turnL_len (ss : List Stp) : (turnL ss).length = ss.length := by
  have h : ∀ (ss out : List Stp), (ss.foldl turn1 out).length = out.length + ss.length := by
    intro ss
    induction ss with
    | nil => exact fun out => rfl
    | cons s ss ih =>
      intro out
      rw [List.foldl_cons, ih, turn1_len, List.length_cons]
      omega
  have := h ss []
  unfold turnL
  rw [this]
  simp
theorem turnL_snoc (ss : List Stp) (k : Nat) (h : k < ss.length) : turnL (ss.take (k + 1)) = turn1 (turnL (ss.take k)) ss[k] := by
  unfold turnL
  rw [List.take_succ_eq_append_getElem h, List.foldl_append]
  rfl
set_option maxRecDepth 100000 in
set_option maxHeartbeats 8000000 in
theorem single_any (v : Value) (ss : List Stp) (w : World) (hS : RdS w v ss) (hn : ss.length ≤ 1048576) : Calls Tryz.prog 41 #[v] w fun e w' => e = .returned (.bool (ss.all singleB)) ∧ Below w.heap.size w w' := by
  have HS := Lib.hid hS
  obtain ⟨A, c, rfl, _⟩ := hS
  go_enter Tryz.func41, Tryz.ntmps41
  go_wp2_with fail
  go_loopw [7] (fun c7 wr => ∃ k : Nat, k ≤ ss.length ∧ c7 = .int .i64 k ∧ Hid ((ss.take k).all singleB = true) ∧ Below w.heap.size w wr) (fun c7 _ => ss.length - (intOf c7).toNat)
  case atStart => exact ⟨0, Nat.zero_le _, rfl, Lib.hid (by simp), Below.refl _ _⟩
  case round =>
    obtain ⟨k, hk, rfl, HA, hbr⟩ := hrel
    have hbs := hbr.size
    by_cases hlt : k < ss.length
    · obtain ⟨g, o, K, q, rfl, hC⟩ := rds_at HS.out hbr hlt
      obtain ⟨c0, c1, c2, c3, c4, c5, _⟩ := hC
      have hsn : (ss.take (k + 1)).all singleB = ((ss.take k).all singleB && singleB ss[k]) := by rw [List.take_succ_eq_append_getElem hlt]; simp only [List.all_append, List.all_cons, List.all_nil, Bool.and_true]
      have hno : singleB ss[k] = false → ss.all singleB = false := fun h => by
        rw [List.all_eq_false]
        exact ⟨ss[k], List.getElem_mem hlt, by simp [h]⟩
      have HSN := Lib.hid hsn
      have HNO := Lib.hid hno
      clear hsn hno
      generalize ss[k] = s at *
      have hba : Below w.heap.size w (wr.alloc (.cells #[.int .i64 s.sort, .bool s.flag, .int .u64 (s.bits : Int), .string ⟨s.text.toArray⟩, .int .i64 s.count, .slice K s.keys.length q] 54)) := hbr.alloc hbs _
      have HBA := Lib.hid hba
      clear hba
      by_cases h5 : s.sort = 5
      · have e5 : (s.sort == 5) = true := by simpa using h5
        have hf : ss.all singleB = false := HNO.out (by simp [singleB, h5])
        have HF := Lib.hid hf
        clear hf h5
        go_wp2
        go_ret
        exact ⟨by rw [HF.out]; rfl, HBA.out⟩
      · have e5 : (s.sort == 5) = false := by simpa using h5
        by_cases h6 : s.sort = 6
        · have e6 : (s.sort == 6) = true := by simpa using h6
          have hf : ss.all singleB = false := HNO.out (by simp [singleB, h6])
          have HF := Lib.hid hf
          clear hf h5 h6
          go_wp2
          go_ret
          exact ⟨by rw [HF.out]; rfl, HBA.out⟩
        · have e6 : (s.sort == 6) = false := by simpa using h6
          have hf : singleB s = true := by simp [singleB, h5, h6]
          have HA2 : Hid ((ss.take (k + 1)).all singleB = true) := Lib.hid (by rw [HSN.out, HA.out, hf]; rfl)
          clear hf h5 h6
          go_wp2
          go_roundw
          case rel => exact ⟨k + 1, by omega, by go_num, HA2, HBA.out⟩
          case measure => simp [intOf]; omega
    · obtain rfl : k = ss.length := by omega
      rw [List.take_of_length_le (Nat.le_refl _)] at HA
      go_wp2
      go_ret
      exact ⟨by rw [HA.out]; rfl, hbr⟩
end Nd
end Go.Proofs.YtfhfkggkbeahbaaGreat
