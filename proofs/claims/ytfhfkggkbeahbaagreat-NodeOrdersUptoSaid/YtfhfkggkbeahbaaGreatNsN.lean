/-
  Walks of layer 10's law: step, steps.
-/
import Derived.Test.YtfhfkggkbeahbaaGreatNsM
namespace Go.Proofs.YtfhfkggkbeahbaaGreat
open Go.RowKit Mem
set_option linter.unusedVariables false
namespace Nd

def stV (s : Stp) (K : Option Addr) (q : Nat) : Value := .agg #[.int .i64 s.sort, .bool s.flag, .int .u64 (s.bits : Int), .string ⟨s.text.toArray⟩, .int .i64 s.count, .slice K s.keys.length q]
set_option maxRecDepth 100000 in
set_option maxHeartbeats 4000000 in
theorem lstep_any (s : Stp) (K : Option Addr) (q : Nat) (w : World) : Calls Tryz.prog 34 #[.agg #[.int .i64 s.sort, .bool s.flag, .int .u64 (s.bits : Int), .string ⟨s.text.toArray⟩, .int .i64 s.count, .slice K s.keys.length q]] w fun e w' => e = .returned (.agg #[.int .i64 s.sort, .bool s.flag, .int .u64 (s.bits : Int), .string ⟨s.text.toArray⟩, .int .i64 s.count, .slice K s.keys.length q]) ∧ Below w.heap.size w w' := by
  have hb1 : Below w.heap.size w (w.alloc (.cells #[.int .i64 s.sort, .bool s.flag, .int .u64 (s.bits : Int), .string ⟨s.text.toArray⟩, .int .i64 s.count, .slice K s.keys.length q] 54)) := (Below.refl _ _).alloc (Nat.le_refl _) _
  go_enter Tryz.func34, Tryz.ntmps34
  go_wp2
  refine bodyPost_ret (v := .agg #[.int .i64 s.sort, .bool s.flag, .int .u64 (s.bits : Int), .string ⟨s.text.toArray⟩, .int .i64 s.count, .slice K s.keys.length q]) ?_ rfl ⟨rfl, hb1.alloc hb1.size _⟩
  simp [results, Tryz.results34, go_sem]
theorem rds_es {w : World} {A : Option Addr} {c : Nat} {ss : List Stp} (h : RdS w (.slice A ss.length c) ss) : ∃ es : List E6, es.map (·.1) = ss ∧ ∀ (k : Nat) (hk : k < ss.length), ∃ g o K q, A = some ⟨g, o, none⟩ ∧ CellS w g (o + k * 6) ss[k] K q ∧ es[k]? = some (ss[k], K, q) := by
  obtain ⟨A', c', e', h'⟩ := h
  injection e' with e1 e2 e3
  subst e1
  rcases h' with rfl | ⟨g, o, rfl, hc⟩
  · exact ⟨[], rfl, fun k hk => by simp at hk⟩
  · have hex : ∀ m, m ≤ ss.length → ∃ es : List E6, es.map (·.1) = ss.take m ∧ ∀ (k : Nat) (hk : k < m) (hk2 : k < ss.length), ∃ K q, CellS w g (o + k * 6) ss[k] K q ∧ es[k]? = some (ss[k], K, q) := by
      intro m
      induction m with
      | zero => exact fun _ => ⟨[], rfl, fun k hk => by omega⟩
      | succ m ih =>
        intro hm
        obtain ⟨es, h1, h2⟩ := ih (by omega)
        obtain ⟨K, q, hcs⟩ := hc m _ (List.getElem?_eq_getElem (by omega))
        have hel : es.length = m := by
          have := congrArg List.length h1
          simp at this
          omega
        refine ⟨es ++ [(ss[m], K, q)], ?_, fun k hk hk2 => ?_⟩
        · rw [List.map_append, h1, List.take_succ_eq_append_getElem (by omega)]
          rfl
        · rcases Nat.lt_or_ge k m with hlt | hge
          · obtain ⟨K', q', h3, h4⟩ := h2 k hlt hk2
            exact ⟨K', q', h3, by rw [List.getElem?_append_left (by omega)]; exact h4⟩
          · obtain rfl : k = m := by omega
            exact ⟨K, q, hcs, by rw [List.getElem?_append_right (by omega), hel]; simp⟩
    obtain ⟨es, h1, h2⟩ := hex ss.length (Nat.le_refl _)
    rw [List.take_of_length_le (Nat.le_refl _)] at h1
    exact ⟨es, h1, fun k hk => by obtain ⟨K, q, h3, h4⟩ := h2 k hk hk; exact ⟨g, o, K, q, rfl, h3, h4⟩⟩
theorem cellsE_snoc (es : List E6) (k : Nat) (e : E6) (h : es[k]? = some e) : cellsE (es.take (k + 1)) = cellsE (es.take k) ++ cell6 e.1 e.2.1 e.2.2 := by
  have hk : k < es.length := by
    rcases Nat.lt_or_ge k es.length with h1 | h1
    · exact h1
    · rw [List.getElem?_eq_none h1] at h
      cases h
  rw [List.take_succ_eq_append_getElem hk]
  unfold cellsE
  rw [List.flatMap_append]
  rw [List.getElem?_eq_getElem hk] at h
  injection h with h
  rw [h]
  simp
theorem info_rstep : (Tryz.prog.info? 81).map (fun i => (i.zero, i.size, i.bytes)) = some (some (.agg #[.int .i64 0, .bool false, .int .u64 0, .string ⟨#[]⟩, .int .i64 0, .slice none 0 0]), 6, 72) := by kernel_rfl
set_option maxRecDepth 100000 in
set_option maxHeartbeats 8000000 in
theorem lsteps_any (v : Value) (ss : List Stp) (w : World) (hS : RdS w v ss) (hn : ss.length ≤ 1048576) : Calls Tryz.prog 9 #[v] w fun e w' => (∃ v', e = .returned v' ∧ RdS w' v' ss) ∧ Below w.heap.size w w' := by
  have hS0 := hS
  obtain ⟨A, c, rfl, _⟩ := hS0
  obtain ⟨es, hes, hec⟩ := rds_es hS
  have hel : es.length = ss.length := by rw [← hes]; simp
  obtain ⟨i0, hi0, hz0, hz1, hz2⟩ := info_parts info_rstep
  have HES := Lib.hid (And.intro hes hec)
  have HEL := Lib.hid hel
  have hnn : ss.length < 1048577 := by omega
  clear hS hes hec hel hn
  go_enter Tryz.func9, Tryz.ntmps9
  go_wp2_with fail
  go_loopw [3, 8] (fun c3 c8 wr => ∃ k : Nat, k ≤ ss.length ∧ c8 = .int .i64 k ∧ Hid (wr.ownsRow w.heap.size 81 6 c3 k (cellsE (es.take k)) ∧ Below w.heap.size w wr)) (fun _ c8 _ => ss.length - (intOf c8).toNat)
  case atStart => exact ⟨0, Nat.zero_le _, rfl, Lib.hid ⟨World.ownsRow_nil _ _ _ _, Below.refl _ _⟩⟩
  case round =>
    obtain ⟨k, hk, rfl, HI⟩ := hrel
    have hbs := HI.out.2.size
    by_cases hlt : k < ss.length
    · obtain ⟨g, o, K, q, rfl, hC, hek⟩ := HES.out.2 k hlt
      have hsn := cellsE_snoc es k _ hek
      obtain ⟨c0, c1, c2, c3, c4, c5, ck⟩ := hC.below HI.out.2
      have HSN := Lib.hid hsn
      clear ck hC hek hsn
      generalize ss[k] = s at *
      obtain ⟨A3, q3, rfl⟩ := own_slice HI.out.1
      have hba : Below wr.heap.size wr (wr.alloc (.cells #[.int .i64 s.sort, .bool s.flag, .int .u64 (s.bits : Int), .string ⟨s.text.toArray⟩, .int .i64 s.count, .slice K s.keys.length q] 54)) := (Below.refl _ _).alloc (Nat.le_refl _) _
      have HBA := Lib.hid hba
      clear hba
      go_wp2_with fail
      ((with_reducible refine (lstep_any s K q _).mono ?_); rintro e w2 ⟨rfl, hb2⟩)
      have hb12 := HBA.out.trans (hb2.mono HBA.out.size)
      have ho2 := own_below HI.out.1 hb12
      have hbw2 := HI.out.2.trans (hb12.mono hbs)
      have hs2 := hbw2.size
      have ho9 : (w2.alloc (.cells #[.int .i64 s.sort, .bool s.flag, .int .u64 (s.bits : Int), .string ⟨s.text.toArray⟩, .int .i64 s.count, .slice K s.keys.length q] 81)).ownsRow w.heap.size 81 6 (.slice A3 k q3) k (cellsE (es.take k)) := own_below ho2 ((Below.refl _ _).alloc (Nat.le_refl _) _)
      have HBW2 := Lib.hid hbw2
      clear hb2 hb12 ho2 hbw2 c0 c1 c2 c3 c4 c5
      go_wp2_with (at_builtin; refine wpList_append_own_at _ rfl _ _ 35 rfl w.heap.size 81 i0 _ 6 72 Tryz.underlying35 hi0 hz0 hz1 hz2 rfl (by omega) (.slice A3 k q3) k (cellsE (es.take k)) rfl ho9 ⟨w2.heap.size, 0, none⟩ 1 1 (cell6 s K q) rfl rfl (cells_new w2 (cell6 s K q) 81) (cell6_one s K q) ?b1 ?b2 ?b3 ?_; (unfold maxLen; omega); omega; (simp; omega); intro v9 w9 hown9 hgr9 hnil9 hat9)
      have hb9 : Below w.heap.size w w9 := (HBW2.out.alloc hs2 _).grown hgr9 (by simp; omega) (fun j hj => (own_typed ho9 j hj).1)
      have HN : Hid (w9.ownsRow w.heap.size 81 6 v9 (k + 1) (cellsE (es.take (k + 1))) ∧ Below w.heap.size w w9) := Lib.hid ⟨by rw [HSN.out]; exact hown9, hb9⟩
      clear hown9 hgr9 hnil9 hat9 hb9 ho9
      go_roundw
      case rel => exact ⟨k + 1, by omega, by go_num, HN⟩
      case measure => simp [intOf]; omega
    · obtain rfl : k = ss.length := by omega
      have hfin : RdS wr u3 ss := by
        have h1 := HI.out.1
        rw [← HEL.out, List.take_of_length_le (Nat.le_refl _)] at h1
        have h2 := own_rds h1 (fun e he => by
          obtain ⟨j, hj, hje⟩ := List.getElem_of_mem he
          obtain ⟨g, o, K, q, _, hC, hek⟩ := HES.out.2 j (by rw [← HEL.out]; exact hj)
          rw [List.getElem?_eq_getElem hj, hje] at hek
          injection hek with hek
          rw [hek]
          exact hC.ks.below HI.out.2)
        rw [HES.out.1] at h2
        exact h2
      have HF := Lib.hid (And.intro hfin HI.out.2)
      clear hfin HI
      go_wp2
      go_ret
      exact ⟨⟨_, rfl, HF.out.1⟩, HF.out.2⟩
end Nd
end Go.Proofs.YtfhfkggkbeahbaaGreat
