import Derived.Test.YtmcmoaeheadihaaGreatDoorMEs
import Derived.Test.YtmcmoaeheadihaaGreatDoorGF
import Derived.BigRegion
set_option maxRecDepth 100000
set_option maxHeartbeats 4000000
namespace Go.Proofs.YtmcmoaeheadihaaGreatDoor
open Go.RowKit Mem
set_option linter.unusedVariables false
set_option linter.unusedSimpArgs false
namespace Nd
def MadeP (ss : List Stp) (w : World) (e : Ending) (w' : World) : Prop :=
  Below w.heap.size w w' ∧ match buildT ss with
    | .inl _ => e = .returned (.tuple #[.pointer none, noVal, .bool false])
    | .inr t => ∃ g A c K d, e = .returned (.tuple #[.pointer (some ⟨g, 0, none⟩), valV t A c K d, .bool true]) ∧ RdVA w' t ((A, c), (K, d)) ∧ TreeAt w.heap.size w' g t
theorem madeP_no {ss : List Stp} {w w' : World} {x : Int × Int} (h : buildT ss = .inl x) (hb : Below w.heap.size w w') : MadeP ss w (.returned (.tuple #[.pointer none, noVal, .bool false])) w' := by
  unfold MadeP
  rw [h]
  exact ⟨hb, rfl⟩
theorem madeP_yes {ss : List Stp} {w w' : World} {t : Tr} {g : Nat} (h : buildT ss = .inr t) {A : Option Addr} {c : Nat} {K : Option Addr} {d : Nat} (hr : RdVA w' t ((A, c), (K, d))) (hT : TreeAt w.heap.size w' g t) (hb : Below w.heap.size w w') : MadeP ss w (.returned (.tuple #[.pointer (some ⟨g, 0, none⟩), valV t A c K d, .bool true])) w' := by
  unfold MadeP
  rw [h]
  exact ⟨hb, g, A, c, K, d, rfl, hr, hT⟩
theorem tree_far {B C p g : Nat} {t : Tr} {w w' : World} (h : TreeAt B w g t) (hC : C ≤ B) (hp : p < B) (hg : w.grownBy w' (some p)) : TreeAt C w'.drew g t := by
  obtain ⟨h1, h2, v, hB, hr⟩ := h
  exact ⟨by omega, h2, v, (hB.only hg (by intro e; injection e with e; omega)).drew, RdT.move (w' := w'.drew) (fun k hk hs => ⟨by have h9 : B ≤ k := hs; show C ≤ k; omega, hg.block k hk (by have h9 : B ≤ k := hs; intro e; injection e with e; omega)⟩) _ _ hr⟩
set_option maxHeartbeats 8000000 in
theorem made_law (v : Value) (ss : List Stp) (w : World) (hS : RdS w v ss) (hF : ∀ s ∈ ss, s.Fine) (hC : ∀ s ∈ ss, s.Cnt) (hn : ss.length ≤ 1048576) : Calls Tryz.prog 25 #[v] w (MadeP ss w) := by
  have hba : Below w.heap.size w (w.alloc (.cells #[.int .i64 0, .bool false, .int .u64 0, .string ⟨#[]⟩, .slice none 0 0, .slice none 0 0] 32)) := (Below.refl _ _).alloc (Nat.le_refl _) _
  have hB2 := Blk.new w 32 #[.int .i64 0, .bool false, .int .u64 0, .string ⟨#[]⟩, .slice none 0 0, .slice none 0 0]
  have hsz : (w.alloc (.cells #[.int .i64 0, .bool false, .int .u64 0, .string ⟨#[]⟩, .slice none 0 0, .slice none 0 0] 32)).heap.size = w.heap.size + 1 := by simp
  have hS1 := hS.below hba
  obtain ⟨A, c, rfl, _⟩ := id hS1
  obtain ⟨es, hes, hec⟩ := rds_es hS1
  have hel : es.length = ss.length := by rw [← hes]; simp
  obtain ⟨i0, hi0, hz0, hz1, hz2⟩ := info_parts info_rstep
  have HSS := Lib.hid hS1
  have HES := Lib.hid (And.intro hes hec)
  have HEL := Lib.hid hel
  have HFC := Lib.hid (And.intro hF hC)
  have HB2 := Lib.hid hB2
  have HBA := Lib.hid hba
  have hnn : ss.length < 1048577 := by omega
  clear hS hS1 hes hec hel hn hF hC hba hB2
  go_enter Tryz.func25, Tryz.ntmps25
  go_wp2_with fail
  generalize (w.alloc (.cells #[.int .i64 0, .bool false, .int .u64 0, .string ⟨#[]⟩, .slice none 0 0, .slice none 0 0] 32)) = w1 at *
  go_loopw [5, 15] (fun c5 c15 wr => ∃ k : Nat, k ≤ ss.length ∧ c15 = .int .i64 k ∧ Hid (wr.ownsRow w1.heap.size 161 6 c5 k (cellsE (es.take k)) ∧ Below w1.heap.size w1 wr)) (fun _ c15 _ => ss.length - (intOf c15).toNat)
  case atStart => exact ⟨0, Nat.zero_le _, rfl, Lib.hid ⟨World.ownsRow_nil _ _ _ _, Below.refl _ _⟩⟩
  case round =>
    obtain ⟨k, hk, rfl, HI⟩ := hrel
    have hbs := HI.out.2.size
    by_cases hlt : k < ss.length
    · obtain ⟨g, o, K, q, rfl, hC, hek⟩ := HES.out.2 k hlt
      have hsn := cellsE_snoc es k _ hek
      obtain ⟨c0, c1, c2, c3, c4, c5, ck⟩ := hC.below HI.out.2
      have HSN := Lib.hid hsn
      clear ck hC hek hsn
      generalize ss[k] = s at *
      obtain ⟨A3, q3, rfl⟩ := own_slice HI.out.1
      have hba : Below wr.heap.size wr (wr.alloc (.cells #[.int .i64 s.sort, .bool s.flag, .int .u64 (s.bits : Int), .string ⟨s.text.toArray⟩, .int .i64 s.count, .slice K s.keys.length q] 154)) := (Below.refl _ _).alloc (Nat.le_refl _) _
      have ho9 : ((wr.alloc (.cells #[.int .i64 s.sort, .bool s.flag, .int .u64 (s.bits : Int), .string ⟨s.text.toArray⟩, .int .i64 s.count, .slice K s.keys.length q] 154)).alloc (.cells #[.int .i64 s.sort, .bool s.flag, .int .u64 (s.bits : Int), .string ⟨s.text.toArray⟩, .int .i64 s.count, .slice K s.keys.length q] 161)).ownsRow w1.heap.size 161 6 (.slice A3 k q3) k (cellsE (es.take k)) := own_below (own_below HI.out.1 hba) ((Below.refl _ _).alloc (Nat.le_refl _) _)
      have hcn := cells_new (wr.alloc (.cells #[.int .i64 s.sort, .bool s.flag, .int .u64 (s.bits : Int), .string ⟨s.text.toArray⟩, .int .i64 s.count, .slice K s.keys.length q] 154)) (cell6 s K q) 161
      rw [World.size_alloc] at hcn
      have HBB := Lib.hid (HI.out.2.trans ((hba.alloc hba.size (.cells #[.int .i64 s.sort, .bool s.flag, .int .u64 (s.bits : Int), .string ⟨s.text.toArray⟩, .int .i64 s.count, .slice K s.keys.length q] 161)).mono hbs))
      go_wp2_with (at_builtin; refine wpList_append_own_at _ rfl _ _ 159 rfl w1.heap.size 161 i0 _ 6 72 Tryz.underlying159 hi0 hz0 hz1 hz2 rfl (by omega) (.slice A3 k q3) k (cellsE (es.take k)) rfl ho9 ⟨wr.heap.size + 1, 0, none⟩ 1 1 (cell6 s K q) rfl rfl hcn (cell6_one s K q) ?b1 ?b2 ?b3 ?_; (unfold maxLen; omega); omega; (simp; omega); intro v9 w9 hown9 hgr9 hnil9 hat9)
      have hb9 : Below w1.heap.size w1 w9 := HBB.out.grown hgr9 (by simp; omega) (fun j hj => (own_typed ho9 j hj).1)
      have HN : Hid (w9.ownsRow w1.heap.size 161 6 v9 (k + 1) (cellsE (es.take (k + 1))) ∧ Below w1.heap.size w1 w9) := Lib.hid ⟨by rw [HSN.out]; exact hown9, hb9⟩
      clear hown9 hgr9 hnil9 hat9 hb9 ho9
      go_roundw
      case rel => exact ⟨k + 1, by omega, by go_num, HN⟩
      case measure => simp [intOf]; omega
    · obtain rfl : k = ss.length := by omega
      have hfin : RdS wr u5 ss := by
        have h1 := HI.out.1
        rw [← HEL.out, List.take_of_length_le (Nat.le_refl _)] at h1
        have h2 := own_rds h1 (fun e he => by
          obtain ⟨j, hj, hje⟩ := List.getElem_of_mem he
          obtain ⟨g, o, K, q, _, hC, hek⟩ := HES.out.2 j (by rw [← HEL.out]; exact hj)
          rw [List.getElem?_eq_getElem hj, hje] at hek
          injection hek with hek
          rw [hek]
          exact ⟨hC.ks.below HI.out.2, hC.kc⟩)
        rw [HES.out.1] at h2
        exact h2
      have HFI := Lib.hid hfin
      clear hfin
      go_wp2_with fail
      ((with_reducible refine (refBuild_all u5 ss _ HFI.out HFC.out.1 HFC.out.2).mono ?_); rintro e w2 ⟨hb2, he⟩)
      have hb12 := HI.out.2.trans (hb2.mono hbs)
      have blk2 := HB2.out.below hb12 (by omega)
      have BLK2 := Lib.hid blk2
      have HBW := Lib.hid (HBA.out.trans (hb12.mono (by omega)))
      have hs2 := blk2.lt
      have HB2W := Lib.hid hb2
      clear hb12 hb2
      cases hbt : buildT ss with
      | inl x =>
        rw [hbt] at he
        obtain rfl := he
        have hx0 := buildT_ne hbt
        have hx1 : (x.1 != 0) = true := by simpa using hx0
        have HBT := Lib.hid hbt
        clear hbt hx0
        have z0 : w2.cell? ⟨w.heap.size, 0, none⟩ = some (.int .i64 0) := blk2.cell 0
        have z1 : w2.cell? ⟨w.heap.size, 1, none⟩ = some (.bool false) := blk2.cell 1
        have z2 : w2.cell? ⟨w.heap.size, 2, none⟩ = some (.int .u64 0) := blk2.cell 2
        have z3 : w2.cell? ⟨w.heap.size, 3, none⟩ = some (.string ⟨#[]⟩) := blk2.cell 3
        have z4 : w2.cell? ⟨w.heap.size, 4, none⟩ = some (.slice none 0 0) := blk2.cell 4
        have z5 : w2.cell? ⟨w.heap.size, 5, none⟩ = some (.slice none 0 0) := blk2.cell 5
        have q0 := blk2.frozen 0
        have q1 := blk2.frozen 1
        have q2 := blk2.frozen 2
        have q3 := blk2.frozen 3
        have q4 := blk2.frozen 4
        have q5 := blk2.frozen 5
        clear blk2
        go_upto_region 9 with fail
        go_region
        all_goals
          go_wp2
          have hf := (six_blk BLK2.out (.int .i64 0) (.bool false) (.int .u64 0) (.string ⟨#[]⟩) (.slice none 0 0) (.slice none 0 0)).alloc (.cells #[.int .i64 0, .bool false, .int .u64 0, .string ⟨#[]⟩, .slice none 0 0, .slice none 0 0] 32)
          have hbel := (six_below HBW.out (Nat.le_refl w.heap.size) (.int .i64 0) (.bool false) (.int .u64 0) (.string ⟨#[]⟩) (.slice none 0 0) (.slice none 0 0)).alloc (by have := HBW.out.size; simp [six]; omega) (.cells #[.int .i64 0, .bool false, .int .u64 0, .string ⟨#[]⟩, .slice none 0 0, .slice none 0 0] 32)
          unfold six at hf hbel
          generalize ((((((w2.setCell ⟨w.heap.size, 0, none⟩ (.int .i64 0)).setCell ⟨w.heap.size, 1, none⟩ (.bool false)).setCell ⟨w.heap.size, 2, none⟩ (.int .u64 0)).setCell ⟨w.heap.size, 3, none⟩ (.string ⟨#[]⟩)).setCell ⟨w.heap.size, 4, none⟩ (.slice none 0 0)).setCell ⟨w.heap.size, 5, none⟩ (.slice none 0 0)).alloc (.cells #[.int .i64 0, .bool false, .int .u64 0, .string ⟨#[]⟩, .slice none 0 0, .slice none 0 0] 32) = wf at *
          have dd0 : wf.cell? ⟨w.heap.size, 0, none⟩ = some (.int .i64 0) := hf.cell 0
          have dd1 : wf.cell? ⟨w.heap.size, 1, none⟩ = some (.bool false) := hf.cell 1
          have dd2 : wf.cell? ⟨w.heap.size, 2, none⟩ = some (.int .u64 0) := hf.cell 2
          have dd3 : wf.cell? ⟨w.heap.size, 3, none⟩ = some (.string ⟨#[]⟩) := hf.cell 3
          have dd4 : wf.cell? ⟨w.heap.size, 4, none⟩ = some (.slice none 0 0) := hf.cell 4
          have dd5 : wf.cell? ⟨w.heap.size, 5, none⟩ = some (.slice none 0 0) := hf.cell 5
          refine bodyPost_ret (v := .tuple #[.pointer none, noVal, .bool false]) ?_ rfl (madeP_no HBT.out (hbel.trans ((drewN_below wf 1).mono hbel.size)))
          simp [results, Tryz.results25, go_sem, dd0, dd1, dd2, dd3, dd4, dd5]
      | inr t =>
        rw [hbt] at he
        obtain ⟨A2, c2, K2, d2, rfl, hrd⟩ := he
        have hx1 : ((0 : Int) != 0) = false := by decide
        have hb8 : Below w2.heap.size w2 (w2.alloc (.cells #[.int .i64 (t.srt : Nat), .bool t.fl, .int .u64 (t.bi : Nat), .string ⟨t.tx.toArray⟩, .slice A2 t.kids.length c2, .slice K2 t.kn.length d2] 32)) := (Below.refl _ _).alloc (Nat.le_refl _) _
        have H8 := Lib.hid hb8
        have HB82 := Lib.hid (HBW.out.trans (hb8.mono HBW.out.size))
        have HRD := Lib.hid hrd
        have HBT := Lib.hid hbt
        have HS8 := Lib.hid ((HSS.out.below HI.out.2).below ((HB2W.out).trans (hb8.mono HB2W.out.size)))
        have b80 := (Blk.new w2 32 #[.int .i64 (t.srt : Nat), .bool t.fl, .int .u64 (t.bi : Nat), .string ⟨t.tx.toArray⟩, .slice A2 t.kids.length c2, .slice K2 t.kn.length d2])
        have HB80 := Lib.hid b80
        clear hbt hrd hb8 b80
        clear blk2
        go_wp2_with fail
        ((with_reducible refine (build_all _ ss _ HS8.out HFC.out.1).mono ?_); rintro e w3 ⟨hb3, he⟩)
        rw [HBT.out] at he
        obtain ⟨g, rfl, hTA⟩ := he
        have HTA := Lib.hid hTA
        have h23 := H8.out.trans (hb3.mono H8.out.size)
        have H23 := Lib.hid h23
        have HBW3 := Lib.hid (HBW.out.trans (h23.mono HBW.out.size))
        have blk2 := BLK2.out.below h23 hs2
        have BLK3 := Lib.hid blk2
        have hB80 := HB80.out.below hb3 HB80.out.lt
        have hs3 := blk2.lt
        have z0 : w3.cell? ⟨w.heap.size, 0, none⟩ = some (.int .i64 0) := blk2.cell 0
        have z1 : w3.cell? ⟨w.heap.size, 1, none⟩ = some (.bool false) := blk2.cell 1
        have z2 : w3.cell? ⟨w.heap.size, 2, none⟩ = some (.int .u64 0) := blk2.cell 2
        have z3 : w3.cell? ⟨w.heap.size, 3, none⟩ = some (.string ⟨#[]⟩) := blk2.cell 3
        have z4 : w3.cell? ⟨w.heap.size, 4, none⟩ = some (.slice none 0 0) := blk2.cell 4
        have z5 : w3.cell? ⟨w.heap.size, 5, none⟩ = some (.slice none 0 0) := blk2.cell 5
        have q0 := blk2.frozen 0
        have q1 := blk2.frozen 1
        have q2 := blk2.frozen 2
        have q3 := blk2.frozen 3
        have q4 := blk2.frozen 4
        have q5 := blk2.frozen 5
        clear blk2
        have y0 : w3.cell? ⟨w2.heap.size, 0, none⟩ = some (.int .i64 (t.srt : Nat)) := hB80.cell 0
        have y1 : w3.cell? ⟨w2.heap.size, 1, none⟩ = some (.bool t.fl) := hB80.cell 1
        have y2 : w3.cell? ⟨w2.heap.size, 2, none⟩ = some (.int .u64 (t.bi : Nat)) := hB80.cell 2
        have y3 : w3.cell? ⟨w2.heap.size, 3, none⟩ = some (.string ⟨t.tx.toArray⟩) := hB80.cell 3
        have y4 : w3.cell? ⟨w2.heap.size, 4, none⟩ = some (.slice A2 t.kids.length c2) := hB80.cell 4
        have y5 : w3.cell? ⟨w2.heap.size, 5, none⟩ = some (.slice K2 t.kn.length d2) := hB80.cell 5
        clear hB80 h23 hb3 hTA
        go_upto_region 11 with fail
        go_region
        all_goals
          go_wp2
          have hf := six_blk BLK3.out (.int .i64 (t.srt : Nat)) (.bool t.fl) (.int .u64 (t.bi : Nat)) (.string ⟨t.tx.toArray⟩) (.slice A2 t.kids.length c2) (.slice K2 t.kn.length d2)
          have hbel := six_below HBW3.out (Nat.le_refl w.heap.size) (.int .i64 (t.srt : Nat)) (.bool t.fl) (.int .u64 (t.bi : Nat)) (.string ⟨t.tx.toArray⟩) (.slice A2 t.kids.length c2) (.slice K2 t.kn.length d2)
          have hg6 := six_grown w3 w.heap.size (.int .i64 (t.srt : Nat)) (.bool t.fl) (.int .u64 (t.bi : Nat)) (.string ⟨t.tx.toArray⟩) (.slice A2 t.kids.length c2) (.slice K2 t.kn.length d2)
          have HH := Lib.hid (madeP_yes HBT.out (A := A2) (c := c2) (K := K2) (d := d2) (g := g) (RdV.move (w' := (six w3 w.heap.size (.int .i64 (t.srt : Nat)) (.bool t.fl) (.int .u64 (t.bi : Nat)) (.string ⟨t.tx.toArray⟩) (.slice A2 t.kids.length c2) (.slice K2 t.kn.length d2)).drew) (S' := fun _ => True) (fun k hk hs => ⟨trivial, (hg6.block k (Nat.lt_of_lt_of_le hk H23.out.size) (by have h9 : wr.heap.size ≤ k := hs; intro e; injection e with e; omega)).trans (H23.out.block k hk)⟩) _ _ HRD.out) (tree_far HTA.out (by have := H8.out.size; omega) (by have := H8.out.size; omega) hg6) (hbel.trans ((drewN_below _ 1).mono hbel.size)))
          unfold six at hf hbel HH
          generalize ((((((w3.setCell ⟨w.heap.size, 0, none⟩ (.int .i64 (t.srt : Nat))).setCell ⟨w.heap.size, 1, none⟩ (.bool t.fl)).setCell ⟨w.heap.size, 2, none⟩ (.int .u64 (t.bi : Nat))).setCell ⟨w.heap.size, 3, none⟩ (.string ⟨t.tx.toArray⟩)).setCell ⟨w.heap.size, 4, none⟩ (.slice A2 t.kids.length c2)).setCell ⟨w.heap.size, 5, none⟩ (.slice K2 t.kn.length d2)) = wf at *
          have dd0 : wf.cell? ⟨w.heap.size, 0, none⟩ = some (.int .i64 (t.srt : Nat)) := hf.cell 0
          have dd1 : wf.cell? ⟨w.heap.size, 1, none⟩ = some (.bool t.fl) := hf.cell 1
          have dd2 : wf.cell? ⟨w.heap.size, 2, none⟩ = some (.int .u64 (t.bi : Nat)) := hf.cell 2
          have dd3 : wf.cell? ⟨w.heap.size, 3, none⟩ = some (.string ⟨t.tx.toArray⟩) := hf.cell 3
          have dd4 : wf.cell? ⟨w.heap.size, 4, none⟩ = some (.slice A2 t.kids.length c2) := hf.cell 4
          have dd5 : wf.cell? ⟨w.heap.size, 5, none⟩ = some (.slice K2 t.kn.length d2) := hf.cell 5
          refine bodyPost_ret (v := .tuple #[.pointer (some ⟨g, 0, none⟩), valV t A2 c2 K2 d2, .bool true]) ?_ rfl HH.out
          simp [results, Tryz.results25, go_sem, dd0, dd1, dd2, dd3, dd4, dd5]
end Nd
end Go.Proofs.YtmcmoaeheadihaaGreatDoor
