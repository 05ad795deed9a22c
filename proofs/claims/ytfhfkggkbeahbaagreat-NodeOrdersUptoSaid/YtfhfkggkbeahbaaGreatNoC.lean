/-
  Walks of layer 10's law: turned.
-/
import Derived.Test.YtfhfkggkbeahbaaGreatNoB
import Derived.Test.YtfhfkggkbeahbaaGreatNbD
import Derived.Deep.AppendLies
import Derived.Test.YtfhfkggkbeahbaaGreatGI
import Derived.Deep.RegionHeldLaw
import Derived.Deep.RegionLawGrows
namespace Go.Proofs.YtfhfkggkbeahbaaGreat
open Go.RowKit Mem
set_option linter.unusedVariables false
set_option linter.unusedSimpArgs false
namespace Nd

theorem srow_at {B : Nat} {ss : List Stp} {v : Value} {w : World} {k : Nat} (h : SRow B ss v w) (hk : k < ss.length) : ∃ g cap K q, v = .slice (some ⟨g, 0, none⟩) ss.length cap ∧ CellS w g (k * 6) ss[k] K q ∧ KeyRow w (ss[k], K, q) := by
  obtain ⟨es, rfl, h2, h3⟩ := h
  rw [List.length_map] at hk
  rcases h2.2 with ⟨_, h0⟩ | ⟨g, cap, cur, hv, _, hg, _, _, hs, ht⟩
  · simp at h0
    rw [h0] at hk
    simp at hk
  · have he : es[k]? = some es[k] := List.getElem?_eq_getElem hk
    have hc : ∀ i, i < 6 → w.cell? ⟨g, k * 6 + i, none⟩ = (cell6 es[k].1 es[k].2.1 es[k].2.2)[i]? := by
      intro i hi
      rw [cell_of_row w g _ cur _ _ hg, ← cellsE_at es k _ he i hi, ← ht, List.getElem?_take, if_pos (by rw [List.length_map]; omega)]
      simp
    refine ⟨g, cap, es[k].2.1, es[k].2.2, hv, ?_, ?_⟩
    · simp only [List.getElem_map]
      exact ⟨hc 0 (by omega), hc 1 (by omega), hc 2 (by omega), hc 3 (by omega), hc 4 (by omega), hc 5 (by omega), (h3 _ (List.getElem_mem hk)).rdk⟩
    · simp only [List.getElem_map]
      exact h3 _ (List.getElem_mem hk)
theorem own_cap6 {w : World} {base n : Nat} {e : TypeId} {A : Option Addr} {m c : Nat} {xs : List Value} (h : w.ownsRow base e 6 (.slice A m c) n xs) : m ≤ c := by
  rcases h.2 with ⟨hv, h0⟩ | ⟨g, cap, cur, hv, _, _, hc, _⟩
  · injection hv with _ h1 h2
    omega
  · injection hv with _ h1 h2
    omega
theorem own_cells {w : World} {B : Nat} {ty : TypeId} {g n cap : Nat} {es : List E6} (h : w.ownsRow B ty 6 (.slice (some ⟨g, 0, none⟩) n cap) n (cellsE es)) {j : Nat} {e : E6} (he : es[j]? = some e) : ∀ i, i < 6 → w.cell? ⟨g, j * 6 + i, none⟩ = (cell6 e.1 e.2.1 e.2.2)[i]? := by
  have hl := h.1
  rw [cellsE_len] at hl
  have hj : j < es.length := by
    rcases Nat.lt_or_ge j es.length with h1 | h1
    · exact h1
    · rw [List.getElem?_eq_none h1] at he
      cases he
  rcases h.2 with ⟨hv, _⟩ | ⟨g', cap', cur, hv, _, hg, _, _, hs, ht⟩
  · cases hv
  · injection hv with hA _ _
    injection hA with hA
    injection hA with hA
    subst hA
    intro i hi
    rw [cell_of_row w g _ cur _ _ hg, ← cellsE_at es j e he i hi, ← ht, List.getElem?_take, if_pos (by omega)]
    simp
theorem cellsE_one (es : List E6) : ∀ u ∈ cellsE es, u.oneCell' = true := by
  intro u hu
  unfold cellsE at hu
  rw [List.mem_flatMap] at hu
  obtain ⟨e, _, h⟩ := hu
  exact cell6_one e.1 e.2.1 e.2.2 u h
theorem info_str : (Tryz.prog.info? 9).map (fun i => (i.zero, i.size, i.bytes)) = some (some (.string ⟨#[]⟩), 1, 16) := by kernel_rfl
theorem key_cap {w : World} {s : Stp} {A : Option Addr} {q : Nat} (h : KeyRow w (s, A, q)) : s.keys.length ≤ q := by
  rcases h.2 with ⟨hv, h0⟩ | ⟨g, cap, cur, hv, _, _, hc, _⟩
  · injection hv with _ h1 h2
    have h3 : s.keys.length = 0 := h1
    omega
  · injection hv with _ h1 h2
    have h3 : q = cap := h2
    have h4 : s.keys.length ≤ cap := hc
    omega
theorem turn1_no {out : List Stp} {s : Stp} (h : ¬ (s.sort = 6 ∧ 2 ≤ s.keys.length ∧ s.keys.length ≤ out.length ∧ (out.drop (out.length - s.keys.length)).all singleB = true)) : turn1 out s = out ++ [s] := by
  unfold turn1
  rw [if_neg h]
set_option maxRecDepth 100000 in
set_option maxHeartbeats 16000000 in
theorem turned_any (v : Value) (ss : List Stp) (B0 : Nat) (w : World) (hS : SRow B0 ss v w) (hF : ∀ s ∈ ss, s.Fine) (hn : ss.length ≤ 65536) : Calls Tryz.prog 15 #[v] w fun e w' => (∃ v', e = .returned v' ∧ SRow w.heap.size (turnL ss) v' w') ∧ Below w.heap.size w w' := by
  have HS := Lib.hid hS
  have HF := Lib.hid hF
  obtain ⟨A, c, rfl⟩ := StepsP.form hS
  obtain ⟨i0, hi0, hz0, hz1, hz2⟩ := info_parts info_step
  clear hS hF
  go_enter Tryz.func15, Tryz.ntmps15
  go_wp2_with fail
  go_loopw [3, 12] (fun c3 c12 wr => ∃ k : Nat, k ≤ ss.length ∧ c12 = .int .i64 k ∧ Hid (SRow w.heap.size (turnL (ss.take k)) c3 wr ∧ Below w.heap.size w wr)) (fun _ c12 _ => ss.length - (intOf c12).toNat)
  case atStart => exact ⟨0, Nat.zero_le _, rfl, Lib.hid ⟨by rw [List.take_zero]; exact srow_nil _ _, Below.refl _ _⟩⟩
  case round =>
    obtain ⟨k, hk, rfl, HI⟩ := hrel
    have hbr := HI.out.2
    have hbs := hbr.size
    by_cases hlt : k < ss.length
    · obtain ⟨ga, ca, K, q, hva, hC, hkr⟩ := srow_at HS.out hlt
      injection hva with hA _ hca
      subst hA
      subst hca
      obtain ⟨c0, c1, c2, c3, c4, c5, _⟩ := hC.below hbr
      have hks := hkr.below hbr
      have hts := turnL_snoc ss k hlt
      have hfi := HF.out _ (List.getElem_mem hlt)
      have HTS := Lib.hid hts
      have HFI := Lib.hid hfi
      clear hkr hC hts hfi
      generalize ss[k] = s at *
      obtain ⟨es, he1, he2, he3⟩ := HI.out.1
      rw [turnL_len, List.length_take, Nat.min_eq_left hk] at he2
      obtain ⟨A3, q3, rfl⟩ := own_slice he2
      have hb1 : Below wr.heap.size wr (wr.alloc (.cells #[.int .i64 s.sort, .bool s.flag, .int .u64 (s.bits : Int), .string ⟨s.text.toArray⟩, .int .i64 s.count, .slice K s.keys.length q] 54)) := (Below.refl _ _).alloc (Nat.le_refl _) _
      have blk5 : Blk (wr.alloc (.cells #[.int .i64 s.sort, .bool s.flag, .int .u64 (s.bits : Int), .string ⟨s.text.toArray⟩, .int .i64 s.count, .slice K s.keys.length q] 54)) wr.heap.size 54 (cell6 s K q).toArray := Blk.new wr 54 #[.int .i64 s.sort, .bool s.flag, .int .u64 (s.bits : Int), .string ⟨s.text.toArray⟩, .int .i64 s.count, .slice K s.keys.length q]
      have hW1 : Below w.heap.size w (wr.alloc (.cells #[.int .i64 s.sort, .bool s.flag, .int .u64 (s.bits : Int), .string ⟨s.text.toArray⟩, .int .i64 s.count, .slice K s.keys.length q] 54)) := hbr.trans (hb1.mono hbs)
      have HO := Lib.hid (own_below he2 hb1)
      have HK := Lib.hid (hks.below hb1)
      have HEK : Hid (es.map (·.1) = turnL (ss.take k) ∧ ∀ e ∈ es, KeyRow (wr.alloc (.cells #[.int .i64 s.sort, .bool s.flag, .int .u64 (s.bits : Int), .string ⟨s.text.toArray⟩, .int .i64 s.count, .slice K s.keys.length q] 54)) e) := Lib.hid ⟨he1, fun e he => (he3 e he).below hb1⟩
      clear he1 he2 he3 hks HI
      go_upto_region 5 with fail
      generalize wr.alloc (.cells #[.int .i64 s.sort, .bool s.flag, .int .u64 (s.bits : Int), .string ⟨s.text.toArray⟩, .int .i64 s.count, .slice K s.keys.length q] 54) = W1 at *
      generalize wr.heap.size = b5 at *
      have hkn := HFI.out.kn
      have hbW := hW1
      clear c0 c1 c2 c3 c4 c5 hW1 hbr
      have j0 : W1.cell? ⟨b5, 0, none⟩ = some (.int .i64 s.sort) := blk5.cell 0
      have j1 : W1.cell? ⟨b5, 1, none⟩ = some (.bool s.flag) := blk5.cell 1
      have j2 : W1.cell? ⟨b5, 2, none⟩ = some (.int .u64 (s.bits : Int)) := blk5.cell 2
      have j3 : W1.cell? ⟨b5, 3, none⟩ = some (.string ⟨s.text.toArray⟩) := blk5.cell 3
      have j4 : W1.cell? ⟨b5, 4, none⟩ = some (.int .i64 s.count) := blk5.cell 4
      have j5 : W1.cell? ⟨b5, 5, none⟩ = some (.slice K s.keys.length q) := blk5.cell 5
      by_cases h6 : s.sort = 6
      · have e6 : (s.sort != 6) = false := by rw [h6]; rfl
        have H6 := Lib.hid h6
        clear h6
        by_cases h2 : s.keys.length < 2
        · have hnt : turn1 (turnL (ss.take k)) s = turnL (ss.take k) ++ [s] := turn1_no fun h => by omega
          have d2 : decide ((s.keys.length : Int) < 2) = true := decide_eq_true (by omega)
          have ho9 : (W1.alloc (.cells #[.int .i64 s.sort, .bool s.flag, .int .u64 (s.bits : Int), .string ⟨s.text.toArray⟩, .int .i64 s.count, .slice K s.keys.length q] 54)).ownsRow w.heap.size 54 6 (.slice A3 k q3) k (cellsE es) := own_below HO.out ((Below.refl _ _).alloc (Nat.le_refl _) _)
          have hbs9 := hbW.size
          have k0 : W1.cell? ⟨b5, 0, none⟩ = some (.int .i64 s.sort) := blk5.cell 0
          have k1 : W1.cell? ⟨b5, 1, none⟩ = some (.bool s.flag) := blk5.cell 1
          have k2 : W1.cell? ⟨b5, 2, none⟩ = some (.int .u64 (s.bits : Int)) := blk5.cell 2
          have k3 : W1.cell? ⟨b5, 3, none⟩ = some (.string ⟨s.text.toArray⟩) := blk5.cell 3
          have k4 : W1.cell? ⟨b5, 4, none⟩ = some (.int .i64 s.count) := blk5.cell 4
          have k5 : W1.cell? ⟨b5, 5, none⟩ = some (.slice K s.keys.length q) := blk5.cell 5
          have HROW : Hid (SRow w.heap.size (turnL (ss.take k)) (.slice A3 k q3) W1) := Lib.hid ⟨es, HEK.out.1, by rw [turnL_len, List.length_take, Nat.min_eq_left hk]; exact HO.out, HEK.out.2⟩
          go_wp2_with (at_builtin; refine wpList_append_own_at _ rfl _ _ 22 rfl w.heap.size 54 i0 _ 6 72 Tryz.underlying22 hi0 hz0 hz1 hz2 rfl (by omega) (.slice A3 k q3) k (cellsE es) rfl ho9 ⟨W1.heap.size, 0, none⟩ 1 1 (cell6 s K q) rfl rfl (cells_new W1 (cell6 s K q) 54) (cell6_one s K q) ?b11 ?b21 ?b31 ?_; (unfold maxLen; omega); omega; (simp; omega); intro v9 w9 hown9 hgr9 hnil9 hat9)
          have hnew : SRow w.heap.size (turnL (ss.take (k + 1))) v9 w9 := by
            have h1 := HROW.out.append (e := (s, K, q)) HK.out ((Below.refl _ _).alloc (Nat.le_refl _) _) es HEK.out.1 HEK.out.2 (by rw [turnL_len, List.length_take, Nat.min_eq_left hk]; exact hown9) hgr9
            rw [HTS.out, hnt]
            exact h1
          have hb9 : Below w.heap.size w w9 := (hbW.alloc hbs9 _).grown hgr9 (by simp; omega) (fun j hj => (own_typed ho9 j hj).1)
          have HN := Lib.hid (And.intro hnew hb9)
          clear hnew hb9 hown9 hgr9 hnil9 hat9 ho9
          go_roundw
          case rel => exact ⟨k + 1, by omega, by go_num, HN⟩
          case measure => simp [intOf]; omega
        · have d2 : decide ((s.keys.length : Int) < 2) = false := decide_eq_false (by omega)
          by_cases h3 : k < s.keys.length
          · have hnt : turn1 (turnL (ss.take k)) s = turnL (ss.take k) ++ [s] := turn1_no fun h => by rw [turnL_len, List.length_take, Nat.min_eq_left hk] at h; omega
            have d3 : decide ((k : Int) < (s.keys.length : Int)) = true := decide_eq_true (by omega)
            have ho9 : (W1.alloc (.cells #[.int .i64 s.sort, .bool s.flag, .int .u64 (s.bits : Int), .string ⟨s.text.toArray⟩, .int .i64 s.count, .slice K s.keys.length q] 54)).ownsRow w.heap.size 54 6 (.slice A3 k q3) k (cellsE es) := own_below HO.out ((Below.refl _ _).alloc (Nat.le_refl _) _)
            have hbs9 := hbW.size
            have k0 : W1.cell? ⟨b5, 0, none⟩ = some (.int .i64 s.sort) := blk5.cell 0
            have k1 : W1.cell? ⟨b5, 1, none⟩ = some (.bool s.flag) := blk5.cell 1
            have k2 : W1.cell? ⟨b5, 2, none⟩ = some (.int .u64 (s.bits : Int)) := blk5.cell 2
            have k3 : W1.cell? ⟨b5, 3, none⟩ = some (.string ⟨s.text.toArray⟩) := blk5.cell 3
            have k4 : W1.cell? ⟨b5, 4, none⟩ = some (.int .i64 s.count) := blk5.cell 4
            have k5 : W1.cell? ⟨b5, 5, none⟩ = some (.slice K s.keys.length q) := blk5.cell 5
            have HROW : Hid (SRow w.heap.size (turnL (ss.take k)) (.slice A3 k q3) W1) := Lib.hid ⟨es, HEK.out.1, by rw [turnL_len, List.length_take, Nat.min_eq_left hk]; exact HO.out, HEK.out.2⟩
            go_wp2_with (at_builtin; refine wpList_append_own_at _ rfl _ _ 22 rfl w.heap.size 54 i0 _ 6 72 Tryz.underlying22 hi0 hz0 hz1 hz2 rfl (by omega) (.slice A3 k q3) k (cellsE es) rfl ho9 ⟨W1.heap.size, 0, none⟩ 1 1 (cell6 s K q) rfl rfl (cells_new W1 (cell6 s K q) 54) (cell6_one s K q) ?b12 ?b22 ?b32 ?_; (unfold maxLen; omega); omega; (simp; omega); intro v9 w9 hown9 hgr9 hnil9 hat9)
            have hnew : SRow w.heap.size (turnL (ss.take (k + 1))) v9 w9 := by
              have h1 := HROW.out.append (e := (s, K, q)) HK.out ((Below.refl _ _).alloc (Nat.le_refl _) _) es HEK.out.1 HEK.out.2 (by rw [turnL_len, List.length_take, Nat.min_eq_left hk]; exact hown9) hgr9
              rw [HTS.out, hnt]
              exact h1
            have hb9 : Below w.heap.size w w9 := (hbW.alloc hbs9 _).grown hgr9 (by simp; omega) (fun j hj => (own_typed ho9 j hj).1)
            have HN := Lib.hid (And.intro hnew hb9)
            clear hnew hb9 hown9 hgr9 hnil9 hat9 ho9
            go_roundw
            case rel => exact ⟨k + 1, by omega, by go_num, HN⟩
            case measure => simp [intOf]; omega
          · obtain ⟨a, ha⟩ : ∃ a, k = a + s.keys.length := ⟨k - s.keys.length, by omega⟩
            have d3 : decide ((k : Int) < (s.keys.length : Int)) = false := decide_eq_false (by omega)
            obtain ⟨g3, hg3⟩ : ∃ g3, A3 = some ⟨g3, 0, none⟩ := by
              rcases HO.out.2 with ⟨_, h0⟩ | ⟨g, cap, cur, hv, _⟩
              · omega
              · injection hv with e1 _ _
                exact ⟨g, e1⟩
            subst hg3
            have hqk : k ≤ q3 := own_cap6 HO.out
            have hdi : (k : Int) - (s.keys.length : Int) = (a : Int) := by omega
            have hka : k - a = s.keys.length := by omega
            have haq : a < q3 := by omega
            have hak : a ≤ k := by omega
            have hrd : RdS W1 (.slice (some ⟨g3, 0, none⟩) k q3) (turnL (ss.take k)) := by
              rw [← HEK.out.1]
              exact own_rds HO.out fun e he => (HEK.out.2 e he).rdk
            have hrd2 := rds_drop (j := a) (c' := q3 - a) hrd hak
            rw [Nat.zero_add, hka] at hrd2
            have HRD := Lib.hid hrd2
            have HA := Lib.hid ha
            have HKA := Lib.hid (And.intro hka hak)
            have HD2 : Hid (¬ s.keys.length < 2 ∧ ¬ k < s.keys.length) := Lib.hid ⟨h2, h3⟩
            clear hrd hrd2 ha h2 h3
            go_wp2_with fail
            ((with_reducible refine (single_any _ _ _ HRD.out (by rw [List.length_drop, turnL_len, List.length_take]; omega)).mono ?_); rintro e w2 ⟨rfl, hb2⟩)
            have hbW2 := hbW.trans (hb2.mono hbW.size)
            have blk52 := blk5.below hb2 blk5.lt
            have HO2 := Lib.hid (own_below HO.out hb2)
            have HK2 := Lib.hid (HK.out.below hb2)
            have HEK2 : Hid (es.map (·.1) = turnL (ss.take k) ∧ ∀ e ∈ es, KeyRow w2 e) := Lib.hid ⟨HEK.out.1, fun e he => (HEK.out.2 e he).below hb2⟩
            have hml : (turnL (ss.take k)).length - s.keys.length = a := by rw [turnL_len, List.length_take, Nat.min_eq_left hk]; have := HA.out; omega
            have HML := Lib.hid hml
            clear j0 j1 j2 j3 j4 j5 hml
            clear blk5 HO HK HEK hbW hb2 HRD
            have blk5 := blk52
            have HO := HO2
            have HK := HK2
            have HEK := HEK2
            have hbW := hbW2
            clear blk52 HO2 HK2 HEK2 hbW2
            cases hsg : ((turnL (ss.take k)).drop a).all singleB with
            | false =>
              have hnt : turn1 (turnL (ss.take k)) s = turnL (ss.take k) ++ [s] := turn1_no fun h => by rw [HML.out, hsg] at h; exact absurd h.2.2.2 (by simp)
              clear hsg
              have ho9 : (w2.alloc (.cells #[.int .i64 s.sort, .bool s.flag, .int .u64 (s.bits : Int), .string ⟨s.text.toArray⟩, .int .i64 s.count, .slice K s.keys.length q] 54)).ownsRow w.heap.size 54 6 (.slice (some ⟨g3, 0, none⟩) k q3) k (cellsE es) := own_below HO.out ((Below.refl _ _).alloc (Nat.le_refl _) _)
              have hbs9 := hbW.size
              have k0 : w2.cell? ⟨b5, 0, none⟩ = some (.int .i64 s.sort) := blk5.cell 0
              have k1 : w2.cell? ⟨b5, 1, none⟩ = some (.bool s.flag) := blk5.cell 1
              have k2 : w2.cell? ⟨b5, 2, none⟩ = some (.int .u64 (s.bits : Int)) := blk5.cell 2
              have k3 : w2.cell? ⟨b5, 3, none⟩ = some (.string ⟨s.text.toArray⟩) := blk5.cell 3
              have k4 : w2.cell? ⟨b5, 4, none⟩ = some (.int .i64 s.count) := blk5.cell 4
              have k5 : w2.cell? ⟨b5, 5, none⟩ = some (.slice K s.keys.length q) := blk5.cell 5
              have HROW : Hid (SRow w.heap.size (turnL (ss.take k)) (.slice (some ⟨g3, 0, none⟩) k q3) w2) := Lib.hid ⟨es, HEK.out.1, by rw [turnL_len, List.length_take, Nat.min_eq_left hk]; exact HO.out, HEK.out.2⟩
              go_wp2_with (at_builtin; refine wpList_append_own_at _ rfl _ _ 22 rfl w.heap.size 54 i0 _ 6 72 Tryz.underlying22 hi0 hz0 hz1 hz2 rfl (by omega) (.slice (some ⟨g3, 0, none⟩) k q3) k (cellsE es) rfl ho9 ⟨w2.heap.size, 0, none⟩ 1 1 (cell6 s K q) rfl rfl (cells_new w2 (cell6 s K q) 54) (cell6_one s K q) ?b13 ?b23 ?b33 ?_; (unfold maxLen; omega); omega; (simp; omega); intro v9 w9 hown9 hgr9 hnil9 hat9)
              have hnew : SRow w.heap.size (turnL (ss.take (k + 1))) v9 w9 := by
                have h1 := HROW.out.append (e := (s, K, q)) HK.out ((Below.refl _ _).alloc (Nat.le_refl _) _) es HEK.out.1 HEK.out.2 (by rw [turnL_len, List.length_take, Nat.min_eq_left hk]; exact hown9) hgr9
                rw [HTS.out, hnt]
                exact h1
              have hb9 : Below w.heap.size w w9 := (hbW.alloc hbs9 _).grown hgr9 (by simp; omega) (fun j hj => (own_typed ho9 j hj).1)
              have HN := Lib.hid (And.intro hnew hb9)
              clear hnew hb9 hown9 hgr9 hnil9 hat9 ho9
              go_roundw
              case rel => exact ⟨k + 1, by omega, by go_num, HN⟩
              case measure => simp [intOf]; omega
            | true =>
              have hyt : turn1 (turnL (ss.take k)) s = (turnL (ss.take k)).take a ++ ([(turnL (ss.take k)).getD (k - 1) nullS] ++ ((turnL (ss.take k)).drop a).take (s.keys.length - 1)) ++ [objS (s.keys.getD (s.keys.length - 1) [] :: s.keys.take (s.keys.length - 1))] := by
                unfold turn1
                have h1 := HD2.out
                have h2 : (turnL (ss.take k)).length = k := by rw [turnL_len, List.length_take, Nat.min_eq_left hk]
                rw [HML.out, h2, if_pos ⟨H6.out, by omega, by omega, hsg⟩]
              have HYT := Lib.hid hyt
              obtain ⟨nm, hnm⟩ : ∃ nm, s.keys.length = nm + 1 := ⟨s.keys.length - 1, by have := HD2.out.1; omega⟩
              obtain ⟨km, hkm⟩ : ∃ km, k = km + 1 := ⟨k - 1, by have := HA.out; omega⟩
              have hnm1 : 1 ≤ nm := by have := HD2.out.1; omega
              have hkma : km = a + nm := by have := HA.out; omega
              have hel : es.length = k := by
                have := congrArg List.length HEK.out.1
                simpa [turnL_len, List.length_take, Nat.min_eq_left hk] using this
              obtain ⟨el, hele⟩ : ∃ el, es[km]? = some el := ⟨_, List.getElem?_eq_getElem (by omega : km < es.length)⟩
              have hlc := own_cells HO.out hele
              have l0 : w2.cell? ⟨g3, km * 6, none⟩ = some (.int .i64 el.1.sort) := hlc 0 (by omega)
              have l1 : w2.cell? ⟨g3, km * 6 + 1, none⟩ = some (.bool el.1.flag) := hlc 1 (by omega)
              have l2 : w2.cell? ⟨g3, km * 6 + 2, none⟩ = some (.int .u64 (el.1.bits : Int)) := hlc 2 (by omega)
              have l3 : w2.cell? ⟨g3, km * 6 + 3, none⟩ = some (.string ⟨el.1.text.toArray⟩) := hlc 3 (by omega)
              have l4 : w2.cell? ⟨g3, km * 6 + 4, none⟩ = some (.int .i64 el.1.count) := hlc 4 (by omega)
              have l5 : w2.cell? ⟨g3, km * 6 + 5, none⟩ = some (.slice el.2.1 el.1.keys.length el.2.2) := hlc 5 (by omega)
              have hbl : Below w2.heap.size w2 (w2.alloc (.cells #[.int .i64 el.1.sort, .bool el.1.flag, .int .u64 (el.1.bits : Int), .string ⟨el.1.text.toArray⟩, .int .i64 el.1.count, .slice el.2.1 el.1.keys.length el.2.2] 54)) := (Below.refl _ _).alloc (Nat.le_refl _) _
              have blk7 : Blk (w2.alloc (.cells #[.int .i64 el.1.sort, .bool el.1.flag, .int .u64 (el.1.bits : Int), .string ⟨el.1.text.toArray⟩, .int .i64 el.1.count, .slice el.2.1 el.1.keys.length el.2.2] 54)) w2.heap.size 54 (cell6 el.1 el.2.1 el.2.2).toArray := Blk.new w2 54 #[.int .i64 el.1.sort, .bool el.1.flag, .int .u64 (el.1.bits : Int), .string ⟨el.1.text.toArray⟩, .int .i64 el.1.count, .slice el.2.1 el.1.keys.length el.2.2]
              have blk58 := blk5.below hbl blk5.lt
              have HO8 := Lib.hid (own_below HO.out hbl)
              have HK8 := Lib.hid (HK.out.below hbl)
              have HEK8 : Hid (es.map (·.1) = turnL (ss.take k) ∧ ∀ e ∈ es, KeyRow (w2.alloc (.cells #[.int .i64 el.1.sort, .bool el.1.flag, .int .u64 (el.1.bits : Int), .string ⟨el.1.text.toArray⟩, .int .i64 el.1.count, .slice el.2.1 el.1.keys.length el.2.2] 54)) e) := Lib.hid ⟨HEK.out.1, fun e he => (HEK.out.2 e he).below hbl⟩
              have hbW8 := hbW.trans (hbl.mono hbW.size)
              have hk1 : (k : Int) - 1 = (km : Int) := by omega
              have hk2 : (0 : Int) ≤ (km : Int) := by omega
              have hk3 : (km : Int) < (k : Int) := by omega
              have HNM := Lib.hid (And.intro hnm (And.intro hkm (And.intro hkma hel)))
              have HELE := Lib.hid hele
              clear blk5 HO HK HEK hbW hbl hyt hlc hnm hkm hkma hel hele hsg
              go_upto_region 9 with fail
              generalize w2.alloc (.cells #[.int .i64 el.1.sort, .bool el.1.flag, .int .u64 (el.1.bits : Int), .string ⟨el.1.text.toArray⟩, .int .i64 el.1.count, .slice el.2.1 el.1.keys.length el.2.2] 54) = W8 at *
              generalize w2.heap.size = b7 at *
              have hkn2 : km - a = nm := by have := HNM.out; omega
              have hakm : a ≤ km := by have := HNM.out; omega
              clear l0 l1 l2 l3 l4 l5
              obtain ⟨md, hmd⟩ : ∃ md, (es.drop a).take nm = md := ⟨_, rfl⟩
              have hmdl : md.length = nm := by rw [← hmd, List.length_take, List.length_drop]; have := HNM.out; omega
              have hnews : ∀ j u, (cellsE md)[j]? = some u → (W8.alloc (.cells #[] 54)).cell? ((⟨g3, a * 6, none⟩ : Addr).add j) = some u := fun j u hj => by
                have e1 : (⟨g3, a * 6, none⟩ : Addr).add j = ⟨g3, a * 6 + j, none⟩ := by
                  unfold Addr.add
                  split <;> simp_all
                rw [← hmd] at hj
                have hm := cellsE_mid es a nm j u (by have := HNM.out; omega) hj
                have hjl : a * 6 + j < (cellsE es).length := by
                  rcases Nat.lt_or_ge (a * 6 + j) (cellsE es).length with h1 | h1
                  · exact h1
                  · rw [List.getElem?_eq_none h1] at hm
                    cases hm
                rw [e1, (own_below HO8.out ((Below.refl _ _).alloc (Nat.le_refl _) _)).cellAt (a * 6 + j) (by rw [cellsE_len] at hjl; have := HNM.out; omega)]
                exact hm
              have hw8s := hbW8.size
              have own0 : (W8.alloc (.cells #[] 54)).ownsRow w.heap.size 54 6 (.slice (some ⟨W8.heap.size, 0, none⟩) 0 0) 0 [] := ⟨rfl, .inr ⟨W8.heap.size, 0, #[], rfl, hw8s, Blk.new W8 54 #[], Nat.le_refl _, by unfold maxLen; omega, rfl, rfl⟩⟩
              have HMD := Lib.hid (And.intro hmd hmdl)
              have hmdc : (cellsE md).length = nm * 6 := by rw [cellsE_len, hmdl]
              have HMC := Lib.hid hmdc
              have hnmb : nm ≤ 65536 := by have := HNM.out; omega
              clear hmd hmdl hmdc
              go_wp2_with (at_builtin; refine wpList_append_own_at _ rfl _ _ 22 rfl w.heap.size 54 i0 _ 6 72 Tryz.underlying22 hi0 hz0 hz1 hz2 rfl (by omega) (.slice (some ⟨W8.heap.size, 0, none⟩) 0 0) 0 [] rfl own0 ⟨g3, a * 6, none⟩ nm (q3 - a) (cellsE md) rfl HMC.out hnews (cellsE_one md) ?x1 ?x2 ?x3 ?_; (unfold maxLen; omega); omega; (simp; omega); intro v9 w9 hown9 hgr9 hnil9 hat9)
              rw [Nat.zero_add, List.nil_append] at hown9
              have hb9 : Below W8.heap.size W8 w9 := ((Below.refl _ W8).alloc (Nat.le_refl _) _).grown hgr9 (by simp) (fun j hj => by simp only [Value.ownBlock, Option.some.injEq] at hj; omega)
              have HR9 := Lib.hid hown9
              have HO9 := Lib.hid (own_below HO8.out hb9)
              have HK9 := Lib.hid (HK8.out.below hb9)
              have HEK9 : Hid (es.map (·.1) = turnL (ss.take k) ∧ ∀ e ∈ es, KeyRow w9 e) := Lib.hid ⟨HEK8.out.1, fun e he => (HEK8.out.2 e he).below hb9⟩
              have bl59 := blk58.below hb9 blk58.lt
              have bl79 := blk7.below hb9 blk7.lt
              have hbW9 := hbW8.trans (hb9.mono hw8s)
              obtain ⟨A9, q9, rfl⟩ := own_slice hown9
              clear hown9 hgr9 hnil9 hat9 own0 hnews HO8 HK8 HEK8 blk58 blk7 hbW8 hb9
              have hg9 : ∃ g9, A9 = some ⟨g9, 0, none⟩ := by
                rcases HR9.out.2 with ⟨_, h0⟩ | ⟨g, cap, cur, hv, _⟩
                · omega
                · injection hv with e1 _ _
                  exact ⟨g, e1⟩
              obtain ⟨g9, rfl⟩ := hg9
              have ALL : ∀ W, Below w9.heap.size w9 W → (W.cell? ⟨b7, 0, none⟩ = some (.int .i64 el.1.sort) ∧ W.cell? ⟨b7, 1, none⟩ = some (.bool el.1.flag) ∧ W.cell? ⟨b7, 2, none⟩ = some (.int .u64 (el.1.bits : Int)) ∧ W.cell? ⟨b7, 3, none⟩ = some (.string ⟨el.1.text.toArray⟩) ∧ W.cell? ⟨b7, 4, none⟩ = some (.int .i64 el.1.count) ∧ W.cell? ⟨b7, 5, none⟩ = some (.slice el.2.1 el.1.keys.length el.2.2) ∧ Below w9.heap.size w9 W) := fun W hW => ⟨((old hW).1 _ _ bl79.lt).trans (bl79.cell 0), ((old hW).1 _ _ bl79.lt).trans (bl79.cell 1), ((old hW).1 _ _ bl79.lt).trans (bl79.cell 2), ((old hW).1 _ _ bl79.lt).trans (bl79.cell 3), ((old hW).1 _ _ bl79.lt).trans (bl79.cell 4), ((old hW).1 _ _ bl79.lt).trans (bl79.cell 5), hW⟩
              have hw9s := hbW9.size
              have haq2 : a ≤ q3 := by omega
              have hwa : IntKind.i64.wrap (a : Int) = (a : Int) := IntWalk.i64_in _ (by omega)
              have hwk : IntKind.i64.wrap (k : Int) = (k : Int) := IntWalk.i64_in _ (by omega)
              go_upto_region 10 with fail
              have hB0 : Below w9.heap.size w9 w9.drew := drewN_below w9 1
              refine wp_region_held_drew (S := fun W => W.cell? ⟨b7, 0, none⟩ = some (.int .i64 el.1.sort) ∧ W.cell? ⟨b7, 1, none⟩ = some (.bool el.1.flag) ∧ W.cell? ⟨b7, 2, none⟩ = some (.int .u64 (el.1.bits : Int)) ∧ W.cell? ⟨b7, 3, none⟩ = some (.string ⟨el.1.text.toArray⟩) ∧ W.cell? ⟨b7, 4, none⟩ = some (.int .i64 el.1.count) ∧ W.cell? ⟨b7, 5, none⟩ = some (.slice el.2.1 el.1.keys.length el.2.2) ∧ Below w9.heap.size w9 W) (by kernel_rfl) (ALL _ hB0) (fun hHeld => ?_)
              refine held_take (i := 0) (v := ?_) (some 63) rfl rfl (by kernel_rfl) (by kernel_rfl) (by kernel_rfl) (fun _ _ _ h => h) (Or.inl ⟨by rfl, ?_⟩) hHeld ?_
              rotate_left
              · intro w hSw
                try dsimp only at hSw
                go_simp
                try with_reducible rfl
              simp only [Act.put, List.setIfInBounds_toArray, List.set_cons_zero, List.set_cons_succ]
              refine held_take (i := 1) (v := ?_) (some 64) rfl rfl (by kernel_rfl) (by kernel_rfl) (by kernel_rfl) (fun _ _ _ h => h) (Or.inl ⟨by rfl, ?_⟩) hHeld ?_
              rotate_left
              · intro w hSw
                try dsimp only at hSw
                go_simp
                try with_reducible rfl
              simp only [Act.put, List.setIfInBounds_toArray, List.set_cons_zero, List.set_cons_succ]
              refine held_take (i := 2) (v := ?_) (some 65) rfl rfl (by kernel_rfl) (by kernel_rfl) (by kernel_rfl) (fun _ _ _ h => h) (Or.inl ⟨by rfl, ?_⟩) hHeld ?_
              rotate_left
              · intro w hSw
                try dsimp only at hSw
                go_simp
                try with_reducible rfl
              simp only [Act.put, List.setIfInBounds_toArray, List.set_cons_zero, List.set_cons_succ]
              refine held_take (i := 3) (v := ?_) (some 66) rfl rfl (by kernel_rfl) (by kernel_rfl) (by kernel_rfl) (fun _ _ _ h => h) (Or.inl ⟨by rfl, ?_⟩) hHeld ?_
              rotate_left
              · intro w hSw
                try dsimp only at hSw
                go_simp
                try with_reducible rfl
              simp only [Act.put, List.setIfInBounds_toArray, List.set_cons_zero, List.set_cons_succ]
              refine held_take (i := 4) (v := ?_) (some 67) rfl rfl (by kernel_rfl) (by kernel_rfl) (by kernel_rfl) (fun _ _ _ h => h) (Or.inl ⟨by rfl, ?_⟩) hHeld ?_
              rotate_left
              · intro w hSw
                try dsimp only at hSw
                go_simp
                try with_reducible rfl
              simp only [Act.put, List.setIfInBounds_toArray, List.set_cons_zero, List.set_cons_succ]
              refine held_take (i := 5) (v := ?_) (some 68) rfl rfl (by kernel_rfl) (by kernel_rfl) (by kernel_rfl) (fun _ _ _ h => h) (Or.inl ⟨by rfl, ?_⟩) hHeld ?_
              rotate_left
              · intro w hSw
                try dsimp only at hSw
                go_simp
                try with_reducible rfl
              simp only [Act.put, List.setIfInBounds_toArray, List.set_cons_zero, List.set_cons_succ]
              refine held_take (i := 6) (v := ?_) (some 69) rfl rfl (by kernel_rfl) (by kernel_rfl) (by kernel_rfl) (fun _ _ _ h => h) (Or.inl ⟨by rfl, ?_⟩) hHeld ?_
              rotate_left
              · intro w hSw
                try dsimp only at hSw
                go_simp
                try with_reducible rfl
              simp only [Act.put, List.setIfInBounds_toArray, List.set_cons_zero, List.set_cons_succ]
              refine held_take (i := 7) (v := ?_) (some 70) rfl rfl (by kernel_rfl) (by kernel_rfl) (by kernel_rfl) (fun _ _ _ h => h) (Or.inl ⟨by rfl, ?_⟩) hHeld ?_
              rotate_left
              · intro w hSw
                try dsimp only at hSw
                go_simp
                try with_reducible rfl
              simp only [Act.put, List.setIfInBounds_toArray, List.set_cons_zero, List.set_cons_succ]
              refine held_take (i := 8) (v := ?_) (some 71) rfl rfl (by kernel_rfl) (by kernel_rfl) (by kernel_rfl) (fun _ _ _ h => h) (Or.inl ⟨by rfl, ?_⟩) hHeld ?_
              rotate_left
              · intro w hSw
                try dsimp only at hSw
                go_simp
                try with_reducible rfl
              simp only [Act.put, List.setIfInBounds_toArray, List.set_cons_zero, List.set_cons_succ]
              refine held_take (i := 9) (v := ?_) (some 72) rfl rfl (by kernel_rfl) (by kernel_rfl) (by kernel_rfl) (fun _ _ _ h => h) (Or.inl ⟨by rfl, ?_⟩) hHeld ?_
              rotate_left
              · intro w hSw
                try dsimp only at hSw
                go_simp
                try with_reducible rfl
              simp only [Act.put, List.setIfInBounds_toArray, List.set_cons_zero, List.set_cons_succ]
              refine held_take (i := 10) (v := ?_) (some 73) rfl rfl (by kernel_rfl) (by kernel_rfl) (by kernel_rfl) (fun _ _ _ h => h) (Or.inl ⟨by rfl, ?_⟩) hHeld ?_
              rotate_left
              · intro w hSw
                try dsimp only at hSw
                go_simp
                try with_reducible rfl
              simp only [Act.put, List.setIfInBounds_toArray, List.set_cons_zero, List.set_cons_succ]
              refine held_take (i := 13) (v := ?_) (some 76) rfl rfl (by kernel_rfl) (by kernel_rfl) (by kernel_rfl) (fun _ _ _ h => h) (Or.inl ⟨by rfl, ?_⟩) hHeld ?_
              rotate_left
              · intro w hSw
                try dsimp only at hSw
                go_simp
                try with_reducible rfl
              simp only [Act.put, List.setIfInBounds_toArray, List.set_cons_zero, List.set_cons_succ]
              generalize w9.drew = V0 at *
              refine wpAnyH_ready (rs := [11]) (by kernel_rfl) (by simp) ?_
              refine AllReadyH.cons rfl (fun K hK => ?_) AllReadyH.nil
              go_simp
              have hBa := hB0.alloc hB0.size (.cells #[.int .i64 el.1.sort, .bool el.1.flag, .int .u64 (el.1.bits : Int), .string ⟨el.1.text.toArray⟩, .int .i64 el.1.count, .slice el.2.1 el.1.keys.length el.2.2] 54)
              refine hK.out _ _ (ALL _ hBa) (fun hHeld => ?_)
              clear hK K
              refine wpAnyH_ready (rs := [12]) (by kernel_rfl) (by simp) ?_
              refine AllReadyH.cons rfl (fun K hK => ?_) AllReadyH.nil
              have hOV := own_below HO9.out (hB0.trans ((Below.refl _ _).alloc hB0.size (.cells #[.int .i64 el.1.sort, .bool el.1.flag, .int .u64 (el.1.bits : Int), .string ⟨el.1.text.toArray⟩, .int .i64 el.1.count, .slice el.2.1 el.1.keys.length el.2.2] 54)))
              refine step_append_grows rfl (.tmp 72) (.tmp 74) _ rfl 54 i0 _ 6 72 Tryz.underlying22 hi0 hz0 hz1 hz2 rfl (by omega) (some ⟨g3, 0, none⟩) a a (cellsE (es.take a)) rfl (fun h => by cases h) ?lo ?holds ⟨V0.heap.size, 0, none⟩ 1 1 (cell6 el.1 el.2.1 el.2.2) rfl rfl (cells_new V0 (cell6 el.1 el.2.1 el.2.2) 54) (cell6_one el.1 el.2.1 el.2.2) (by omega) ?bb1 ?bb2 ?_
              case lo => rw [cellsE_len, List.length_take]; have := HNM.out; omega
              case holds =>
                rintro b ⟨⟩ j u hj
                have e1 : (⟨g3, 0, none⟩ : Addr).add j = ⟨g3, j, none⟩ := by
                  unfold Addr.add
                  split <;> simp_all
                have hm := cellsE_mid es 0 a j u (Nat.zero_le _) (by simpa using hj)
                rw [Nat.zero_mul, Nat.zero_add] at hm
                have hjl : j < (cellsE es).length := by
                  rcases Nat.lt_or_ge j (cellsE es).length with h1 | h1
                  · exact h1
                  · rw [List.getElem?_eq_none h1] at hm
                    cases hm
                rw [e1, hOV.cellAt j (by rw [cellsE_len] at hjl; have := HNM.out; omega)]
                exact hm
              case bb1 => unfold maxLen; have := HNM.out; omega
              case bb2 => have := HNM.out; omega
              intro va wa howna hgra
              have hBwa : Below w9.heap.size w9 wa := hBa.grown hgra hBa.size (fun j hj => by cases hj)
              obtain ⟨gx, cx, rfl, hgx, _⟩ := World.ownsRow.form howna (by omega)
              have hBas := hBa.size
              have hBws := hBwa.size
              refine hK.out (Act.put _ (some 75) (.slice (some ⟨gx, 0, none⟩) (a + 1) cx)) wa (ALL _ hBwa) (fun hHeld => ?_)
              clear hK K
              simp only [Act.put, List.setIfInBounds_toArray, List.set_cons_zero, List.set_cons_succ]
              refine wpAnyH_ready (rs := [14]) (by kernel_rfl) (by simp) ?_
              refine AllReadyH.cons rfl (fun K hK => ?_) AllReadyH.nil
              have hR9a := own_below HR9.out hBwa
              have hnews2 : ∀ j u, (cellsE md)[j]? = some u → wa.cell? ((⟨g9, 0, none⟩ : Addr).add j) = some u := fun j u hj => by
                have e1 : (⟨g9, 0, none⟩ : Addr).add j = ⟨g9, j, none⟩ := by
                  unfold Addr.add
                  split <;> simp_all
                have hjl : j < (cellsE md).length := by
                  rcases Nat.lt_or_ge j (cellsE md).length with h1 | h1
                  · exact h1
                  · rw [List.getElem?_eq_none h1] at hj
                    cases hj
                rw [e1, hR9a.cellAt j (by have := HMC.out; omega)]
                exact hj
              refine step_append_lies wa rfl (.tmp 75) (.tmp 76) _ rfl w.heap.size 54 i0 _ 6 72 Tryz.underlying22 hi0 hz0 hz1 hz2 rfl (by omega) (.slice (some ⟨gx, 0, none⟩) (a + 1) cx) (a + 1) _ rfl (own_lower howna (by omega)) ⟨g9, 0, none⟩ nm q9 (cellsE md) rfl HMC.out hnews2 (cellsE_one md) hnm1 ?cc1 ?cc2 (by omega) wa.heap.size rfl ?_
              case cc1 => unfold maxLen; have := HNM.out; omega
              case cc2 => have := HNM.out; omega
              intro gn cn wn hownn hgrn hatn hltn
              have hBn : Below w9.heap.size w9 wn := hBwa.grown hgrn hBwa.size (fun j hj => by simp only [Value.ownBlock, Option.some.injEq] at hj; omega)
              refine hK.out (Act.put _ (some 77) (.slice (some ⟨gn, 0, none⟩) (a + 1 + nm) cn)) wn (ALL _ hBn) (fun hHeld => ?_)
              clear hK K
              simp only [Act.put, List.setIfInBounds_toArray, List.set_cons_zero, List.set_cons_succ]
              refine held_take (i := 15) (v := ?_) (some 3) rfl rfl (by kernel_rfl) (by kernel_rfl) (by kernel_rfl) (fun _ _ _ h => h) (Or.inl ⟨by rfl, ?_⟩) hHeld ?_
              rotate_left
              · intro w hSw
                try dsimp only at hSw
                go_simp
                try with_reducible rfl
              simp only [Act.put, List.setIfInBounds_toArray, List.set_cons_zero, List.set_cons_succ]
              refine wpAnyH_done (by kernel_rfl) ?_ _
              have hkk : a + 1 + nm = k := by have := HNM.out; omega
              rw [hkk] at hownn ⊢
              have HON : Hid (wn.ownsRow w.heap.size 54 6 (.slice (some ⟨gn, 0, none⟩) k cn) k (cellsE (es.take a ++ el :: md))) := Lib.hid (by
                rw [cellsE_app]
                have e : cellsE (el :: md) = cell6 el.1 el.2.1 el.2.2 ++ cellsE md := by unfold cellsE; rw [List.flatMap_cons]
                rw [e, ← List.append_assoc]
                exact hownn)
              have HKN := Lib.hid (HK9.out.below hBn)
              have HEKN : Hid (es.map (·.1) = turnL (ss.take k) ∧ ∀ e ∈ es, KeyRow wn e) := Lib.hid ⟨HEK9.out.1, fun e he => (HEK9.out.2 e he).below hBn⟩
              have bl5n := bl59.below hBn bl59.lt
              have hbWn := hbW9.trans (hBn.mono hw9s)
              clear hHeld hownn hgrn hatn hltn hBn hBwa hBa hBas hBws hB0 hOV howna hgra hR9a hnews2 HR9 HO9 HK9 HEK9 bl59 bl79 hbW9 ALL hgx hkk hwa hwk
              obtain ⟨gk, rfl⟩ : ∃ gk, K = some ⟨gk, 0, none⟩ := by
                rcases HKN.out.2 with ⟨_, h0⟩ | ⟨g, cap, cur, hv, _⟩
                · have h1 : s.keys.length = 0 := h0
                  have := HNM.out
                  omega
                · injection hv with e1 _ _
                  exact ⟨g, e1⟩
              obtain ⟨kl, hkl⟩ : ∃ kl, s.keys.getD nm [] = kl := ⟨_, rfl⟩
              have hkq : s.keys.length ≤ q := key_cap HKN.out
              have hkc : wn.cell? ⟨gk, nm, none⟩ = some (.string ⟨kl.toArray⟩) := by
                have h1 := World.ownsRow.cellAt HKN.out nm (by show nm < s.keys.length * 1; have := HNM.out; omega)
                rw [h1, List.getElem?_map, List.getElem?_eq_getElem (by show nm < s.keys.length; have := HNM.out; omega), ← hkl, List.getD_eq_getElem?_getD, List.getElem?_eq_getElem (by have := HNM.out; omega)]
                rfl
              have hgk : gk < wn.heap.size := own_block_ge' HKN.out
              have h5n : wn.cell? ⟨b5, 5, none⟩ = some (.slice (some ⟨gk, 0, none⟩) s.keys.length q) := bl5n.cell 5
              have hb5n := bl5n.lt
              have ALL : ∀ W, Below wn.heap.size wn W → (W.cell? ⟨b5, 5, none⟩ = some (.slice (some ⟨gk, 0, none⟩) s.keys.length q) ∧ W.cell? ⟨gk, nm, none⟩ = some (.string ⟨kl.toArray⟩) ∧ Below wn.heap.size wn W) := fun W hW => ⟨((old hW).1 _ _ hb5n).trans h5n, ((old hW).1 _ _ hgk).trans hkc, hW⟩
              have hwns := hbWn.size
              have hkm1 : (s.keys.length : Int) - 1 = (nm : Int) := by have := HNM.out; omega
              have hx0 : (0 : Int) ≤ (nm : Int) := by omega
              have hx1 : (nm : Int) < (s.keys.length : Int) := by have := HNM.out; omega
              have hnq : nm ≤ q := by have := HNM.out; omega
              have hwn1 : IntKind.i64.wrap (nm : Int) = (nm : Int) := IntWalk.i64_in _ (by omega)
              have hwn2 : IntKind.i64.wrap (s.keys.length : Int) = (s.keys.length : Int) := IntWalk.i64_in _ (by omega)
              obtain ⟨i1, hi1, hy0, hy1, hy2⟩ := info_parts info_str
              go_upto_region 11 with fail
              have hB0 : Below wn.heap.size wn wn.drew := drewN_below wn 1
              refine wp_region_held_drew (S := fun W => W.cell? ⟨b5, 5, none⟩ = some (.slice (some ⟨gk, 0, none⟩) s.keys.length q) ∧ W.cell? ⟨gk, nm, none⟩ = some (.string ⟨kl.toArray⟩) ∧ Below wn.heap.size wn W) (by kernel_rfl) (ALL _ hB0) (fun hHeld => ?_)
              refine held_take (i := 0) (v := ?_) (some 78) rfl rfl (by kernel_rfl) (by kernel_rfl) (by kernel_rfl) (fun _ _ _ h => h) (Or.inl ⟨by rfl, ?_⟩) hHeld ?_
              rotate_left
              · intro w hSw
                try dsimp only at hSw
                go_simp
                try with_reducible rfl
              simp only [Act.put, List.setIfInBounds_toArray, List.set_cons_zero, List.set_cons_succ]
              refine held_take (i := 1) (v := ?_) (some 79) rfl rfl (by kernel_rfl) (by kernel_rfl) (by kernel_rfl) (fun _ _ _ h => h) (Or.inl ⟨by rfl, ?_⟩) hHeld ?_
              rotate_left
              · intro w hSw
                try dsimp only at hSw
                go_simp
                try with_reducible rfl
              simp only [Act.put, List.setIfInBounds_toArray, List.set_cons_zero, List.set_cons_succ]
              refine held_take (i := 2) (v := ?_) (some 80) rfl rfl (by kernel_rfl) (by kernel_rfl) (by kernel_rfl) (fun _ _ _ h => h) (Or.inl ⟨by rfl, ?_⟩) hHeld ?_
              rotate_left
              · intro w hSw
                try dsimp only at hSw
                go_simp
                try with_reducible rfl
              simp only [Act.put, List.setIfInBounds_toArray, List.set_cons_zero, List.set_cons_succ]
              refine held_take (i := 3) (v := ?_) (some 81) rfl rfl (by kernel_rfl) (by kernel_rfl) (by kernel_rfl) (fun _ _ _ h => h) (Or.inl ⟨by rfl, ?_⟩) hHeld ?_
              rotate_left
              · intro w hSw
                try dsimp only at hSw
                go_simp
                try with_reducible rfl
              simp only [Act.put, List.setIfInBounds_toArray, List.set_cons_zero, List.set_cons_succ]
              refine held_take (i := 4) (v := ?_) (some 82) rfl rfl (by kernel_rfl) (by kernel_rfl) (by kernel_rfl) (fun _ _ _ h => h) (Or.inl ⟨by rfl, ?_⟩) hHeld ?_
              rotate_left
              · intro w hSw
                try dsimp only at hSw
                go_simp
                try with_reducible rfl
              simp only [Act.put, List.setIfInBounds_toArray, List.set_cons_zero, List.set_cons_succ]
              refine held_take (i := 5) (v := ?_) (some 83) rfl rfl (by kernel_rfl) (by kernel_rfl) (by kernel_rfl) (fun _ _ _ h => h) (Or.inl ⟨by rfl, ?_⟩) hHeld ?_
              rotate_left
              · intro w hSw
                try dsimp only at hSw
                go_simp
                try with_reducible rfl
              simp only [Act.put, List.setIfInBounds_toArray, List.set_cons_zero, List.set_cons_succ]
              refine held_take (i := 7) (v := ?_) (some 85) rfl rfl (by kernel_rfl) (by kernel_rfl) (by kernel_rfl) (fun _ _ _ h => h) (Or.inl ⟨by rfl, ?_⟩) hHeld ?_
              rotate_left
              · intro w hSw
                try dsimp only at hSw
                go_simp
                try with_reducible rfl
              simp only [Act.put, List.setIfInBounds_toArray, List.set_cons_zero, List.set_cons_succ]
              refine held_take (i := 8) (v := ?_) (some 86) rfl rfl (by kernel_rfl) (by kernel_rfl) (by kernel_rfl) (fun _ _ _ h => h) (Or.inl ⟨by rfl, ?_⟩) hHeld ?_
              rotate_left
              · intro w hSw
                try dsimp only at hSw
                go_simp
                try with_reducible rfl
              simp only [Act.put, List.setIfInBounds_toArray, List.set_cons_zero, List.set_cons_succ]
              refine held_take (i := 9) (v := ?_) (some 87) rfl rfl (by kernel_rfl) (by kernel_rfl) (by kernel_rfl) (fun _ _ _ h => h) (Or.inl ⟨by rfl, ?_⟩) hHeld ?_
              rotate_left
              · intro w hSw
                try dsimp only at hSw
                go_simp
                try with_reducible rfl
              simp only [Act.put, List.setIfInBounds_toArray, List.set_cons_zero, List.set_cons_succ]
              refine held_take (i := 10) (v := ?_) (some 88) rfl rfl (by kernel_rfl) (by kernel_rfl) (by kernel_rfl) (fun _ _ _ h => h) (Or.inl ⟨by rfl, ?_⟩) hHeld ?_
              rotate_left
              · intro w hSw
                try dsimp only at hSw
                go_simp
                try with_reducible rfl
              simp only [Act.put, List.setIfInBounds_toArray, List.set_cons_zero, List.set_cons_succ]
              refine held_take (i := 11) (v := ?_) (some 89) rfl rfl (by kernel_rfl) (by kernel_rfl) (by kernel_rfl) (fun _ _ _ h => h) (Or.inl ⟨by rfl, ?_⟩) hHeld ?_
              rotate_left
              · intro w hSw
                try dsimp only at hSw
                go_simp
                try with_reducible rfl
              simp only [Act.put, List.setIfInBounds_toArray, List.set_cons_zero, List.set_cons_succ]
              generalize wn.drew = V1 at *
              refine wpAnyH_ready (rs := [6]) (by kernel_rfl) (by simp) ?_
              refine AllReadyH.cons rfl (fun K hK => ?_) AllReadyH.nil
              go_simp
              have hBa := hB0.alloc hB0.size (.cells #[.string ⟨kl.toArray⟩] 9)
              refine hK.out _ _ (ALL _ hBa) (fun hHeld => ?_)
              clear hK K
              refine wpAnyH_ready (rs := [12]) (by kernel_rfl) (by simp) ?_
              refine AllReadyH.cons rfl (fun K hK => ?_) AllReadyH.nil
              have hB0s := hB0.size
              have hown1 : (V1.alloc (.cells #[.string ⟨kl.toArray⟩] 9)).ownsRow w.heap.size 9 1 (.slice (some ⟨V1.heap.size, 0, none⟩) 1 1) 1 [.string ⟨kl.toArray⟩] := ⟨rfl, .inr ⟨V1.heap.size, 1, #[.string ⟨kl.toArray⟩], rfl, by omega, Blk.new V1 9 #[.string ⟨kl.toArray⟩], Nat.le_refl _, by unfold maxLen; omega, rfl, rfl⟩⟩
              have hkx := HKN.out.below hBa
              have hnews3 : ∀ j u, ((s.keys.take nm).map txV)[j]? = some u → (V1.alloc (.cells #[.string ⟨kl.toArray⟩] 9)).cell? ((⟨gk, 0, none⟩ : Addr).add j) = some u := fun j u hj => by
                have e1 : (⟨gk, 0, none⟩ : Addr).add j = ⟨gk, j, none⟩ := by
                  unfold Addr.add
                  split <;> simp_all
                rw [List.getElem?_map, List.getElem?_take] at hj
                split at hj
                · rename_i hjn
                  rw [e1, World.ownsRow.cellAt hkx j (by show j < s.keys.length * 1; have := HNM.out; omega), List.getElem?_map]
                  exact hj
                · cases hj
              refine step_append_lies (V1.alloc (.cells #[.string ⟨kl.toArray⟩] 9)) rfl (.tmp 84) (.tmp 89) _ rfl w.heap.size 9 i1 _ 1 16 Tryz.underlying30 hi1 hy0 hy1 hy2 rfl (by omega) (.slice (some ⟨V1.heap.size, 0, none⟩) 1 1) 1 _ rfl hown1 ⟨gk, 0, none⟩ nm q ((s.keys.take nm).map txV) rfl ?dd0 hnews3 ?dd1 hnm1 ?dd2 ?dd3 ?dd4 (V1.alloc (.cells #[.string ⟨kl.toArray⟩] 9)).heap.size rfl ?_
              case dd0 => rw [List.length_map, List.length_take]; have := HNM.out; omega
              case dd1 => intro u hu; obtain ⟨x, _, rfl⟩ := List.mem_map.1 hu; rfl
              case dd2 => unfold maxLen; omega
              case dd3 => omega
              case dd4 => simp; omega
              intro gy cy wy howny hgry haty hlty
              have hBy : Below wn.heap.size wn wy := hBa.grown hgry hBa.size (fun j hj => by simp only [Value.ownBlock, Option.some.injEq] at hj; omega)
              refine hK.out (Act.put _ (some 90) (.slice (some ⟨gy, 0, none⟩) (1 + nm) cy)) wy (ALL _ hBy) (fun hHeld => ?_)
              clear hK K
              simp only [Act.put, List.setIfInBounds_toArray, List.set_cons_zero, List.set_cons_succ]
              refine held_take (i := 13) (v := ?_) (some 9) rfl rfl (by kernel_rfl) (by kernel_rfl) (by kernel_rfl) (fun _ _ _ h => h) (Or.inl ⟨by rfl, ?_⟩) hHeld ?_
              rotate_left
              · intro w hSw
                try dsimp only at hSw
                go_simp
                try with_reducible rfl
              simp only [Act.put, List.setIfInBounds_toArray, List.set_cons_zero, List.set_cons_succ]
              refine wpAnyH_done (by kernel_rfl) ?_ _
              obtain ⟨ks2, hks2⟩ : ∃ ks2, kl :: s.keys.take nm = ks2 := ⟨_, rfl⟩
              have hk2l : ks2.length = 1 + nm := by rw [← hks2, List.length_cons, List.length_take]; have := HNM.out; omega
              rw [← hk2l] at howny ⊢
              have HKY : Hid (KeyRow wy (objS ks2, some ⟨gy, 0, none⟩, cy)) := Lib.hid (by
                have h1 := own_lower0 howny
                have e : [Value.string ⟨kl.toArray⟩] ++ (s.keys.take nm).map txV = ks2.map txV := by rw [← hks2]; rfl
                rw [e] at h1
                exact h1)
              obtain ⟨es2, hes2⟩ : ∃ es2, es.take a ++ el :: md = es2 := ⟨_, rfl⟩
              have hes2l : es2.length = k := by
                rw [← hes2, List.length_append, List.length_take, List.length_cons, HMD.out.2]
                have := HNM.out
                omega
              have hmem : ∀ e ∈ es2, e ∈ es := by
                intro e he
                rw [← hes2] at he
                rcases List.mem_append.1 he with he | he
                · exact List.mem_of_mem_take he
                · rcases List.mem_cons.1 he with rfl | he
                  · exact List.mem_of_getElem? HELE.out
                  · rw [← HMD.out.1] at he
                    exact List.mem_of_mem_drop (List.mem_of_mem_take he)
              have hmap : es2.map (·.1) ++ [objS ks2] = turnL (ss.take (k + 1)) := by
                have hkk : k - 1 = km := by have := HNM.out; omega
                have hnn : s.keys.length - 1 = nm := by have := HNM.out; omega
                rw [HTS.out, HYT.out, hkk, hnn, hkl, hks2, ← hes2, ← HMD.out.1, ← HEKN.out.1]
                have hge : (es.map (·.1)).getD km nullS = el.1 := by
                  rw [List.getD_eq_getElem?_getD, List.getElem?_map, HELE.out]
                  rfl
                rw [hge]
                simp [List.map_take, List.map_drop]
              have hwye := hBy
              have HOY := Lib.hid (own_below HON.out hBy)
              rw [hes2] at HOY
              have HEKY : Hid (∀ e ∈ es2, KeyRow wy e) := Lib.hid fun e he => (HEKN.out.2 e (hmem e he)).below hBy
              have hbWy := hbWn.trans (hBy.mono hwns)
              have hwys := hbWy.size
              have HSROW : Hid (SRow w.heap.size (es2.map (·.1)) (.slice (some ⟨gn, 0, none⟩) k cn) wy) := Lib.hid ⟨es2, rfl, by rw [List.length_map, hes2l]; exact HOY.out, HEKY.out⟩
              have ho9 : (wy.alloc (.cells #[.int .i64 6, .bool false, .int .u64 0, .string ⟨#[]⟩, .int .i64 0, .slice (some ⟨gy, 0, none⟩) ks2.length cy] 54)).ownsRow w.heap.size 54 6 (.slice (some ⟨gn, 0, none⟩) k cn) k (cellsE es2) := own_below HOY.out ((Below.refl _ _).alloc (Nat.le_refl _) _)
              have HMAP := Lib.hid hmap
              have HE2 := Lib.hid hes2l
              clear hHeld howny hgry haty hlty hBy hBa hB0 hown1 hkx hnews3 ALL hks2 hk2l hes2 hmem hmap hes2l hwye HON HEKN HKN hkc h5n hb5n hgk hwn1 hwn2 hB0s hbWn bl5n hkl
              go_wp2_with (at_builtin; refine wpList_append_own_at _ rfl _ _ 22 rfl w.heap.size 54 i0 _ 6 72 Tryz.underlying22 hi0 hz0 hz1 hz2 rfl (by omega) (.slice (some ⟨gn, 0, none⟩) k cn) k (cellsE es2) rfl ho9 ⟨wy.heap.size, 0, none⟩ 1 1 (cell6 (objS ks2) (some ⟨gy, 0, none⟩) cy) rfl rfl (cells_new wy (cell6 (objS ks2) (some ⟨gy, 0, none⟩) cy) 54) (cell6_one (objS ks2) (some ⟨gy, 0, none⟩) cy) ?y1 ?y2 ?y3 ?_; (unfold maxLen; omega); omega; (simp; omega); intro v9 wz hown9 hgr9 hnil9 hat9)
              have hnew : SRow w.heap.size (turnL (ss.take (k + 1))) v9 wz := by
                have h1 := HSROW.out.append (e := (objS ks2, some ⟨gy, 0, none⟩, cy)) HKY.out ((Below.refl _ _).alloc (Nat.le_refl _) _) es2 rfl HEKY.out (by rw [List.length_map, HE2.out]; exact hown9) hgr9
                rw [← HMAP.out]
                exact h1
              have hbz : Below w.heap.size w wz := (hbWy.alloc hwys _).grown hgr9 (by simp; omega) (fun j hj => (own_typed ho9 j hj).1)
              have HN := Lib.hid (And.intro hnew hbz)
              clear hnew hbz hown9 hgr9 hnil9 hat9 ho9
              go_roundw
              case rel => exact ⟨k + 1, by omega, by go_num, HN⟩
              case measure => simp [intOf]; omega
      · have e6 : (s.sort != 6) = true := by simpa using h6
        have hnt : turn1 (turnL (ss.take k)) s = turnL (ss.take k) ++ [s] := turn1_no fun h => h6 h.1
        have ho9 : (W1.alloc (.cells #[.int .i64 s.sort, .bool s.flag, .int .u64 (s.bits : Int), .string ⟨s.text.toArray⟩, .int .i64 s.count, .slice K s.keys.length q] 54)).ownsRow w.heap.size 54 6 (.slice A3 k q3) k (cellsE es) := own_below HO.out ((Below.refl _ _).alloc (Nat.le_refl _) _)
        have hbs9 := hbW.size
        have k0 : W1.cell? ⟨b5, 0, none⟩ = some (.int .i64 s.sort) := blk5.cell 0
        have k1 : W1.cell? ⟨b5, 1, none⟩ = some (.bool s.flag) := blk5.cell 1
        have k2 : W1.cell? ⟨b5, 2, none⟩ = some (.int .u64 (s.bits : Int)) := blk5.cell 2
        have k3 : W1.cell? ⟨b5, 3, none⟩ = some (.string ⟨s.text.toArray⟩) := blk5.cell 3
        have k4 : W1.cell? ⟨b5, 4, none⟩ = some (.int .i64 s.count) := blk5.cell 4
        have k5 : W1.cell? ⟨b5, 5, none⟩ = some (.slice K s.keys.length q) := blk5.cell 5
        have HROW : Hid (SRow w.heap.size (turnL (ss.take k)) (.slice A3 k q3) W1) := Lib.hid ⟨es, HEK.out.1, by rw [turnL_len, List.length_take, Nat.min_eq_left hk]; exact HO.out, HEK.out.2⟩
        go_wp2_with (at_builtin; refine wpList_append_own_at _ rfl _ _ 22 rfl w.heap.size 54 i0 _ 6 72 Tryz.underlying22 hi0 hz0 hz1 hz2 rfl (by omega) (.slice A3 k q3) k (cellsE es) rfl ho9 ⟨W1.heap.size, 0, none⟩ 1 1 (cell6 s K q) rfl rfl (cells_new W1 (cell6 s K q) 54) (cell6_one s K q) ?b14 ?b24 ?b34 ?_; (unfold maxLen; omega); omega; (simp; omega); intro v9 w9 hown9 hgr9 hnil9 hat9)
        have hnew : SRow w.heap.size (turnL (ss.take (k + 1))) v9 w9 := by
          have h1 := HROW.out.append (e := (s, K, q)) HK.out ((Below.refl _ _).alloc (Nat.le_refl _) _) es HEK.out.1 HEK.out.2 (by rw [turnL_len, List.length_take, Nat.min_eq_left hk]; exact hown9) hgr9
          rw [HTS.out, hnt]
          exact h1
        have hb9 : Below w.heap.size w w9 := (hbW.alloc hbs9 _).grown hgr9 (by simp; omega) (fun j hj => (own_typed ho9 j hj).1)
        have HN := Lib.hid (And.intro hnew hb9)
        clear hnew hb9 hown9 hgr9 hnil9 hat9 ho9
        go_roundw
        case rel => exact ⟨k + 1, by omega, by go_num, HN⟩
        case measure => simp [intOf]; omega
    · obtain rfl : k = ss.length := by omega
      rw [List.take_of_length_le (Nat.le_refl _)] at HI
      have HF2 := HI
      clear HI hbr
      go_wp2
      go_ret
      exact ⟨⟨_, rfl, HF2.out.1⟩, HF2.out.2⟩
end Nd
end Go.Proofs.YtfhfkggkbeahbaaGreat
