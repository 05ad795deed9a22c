/-
  Layer 14: the tree of steps, and the document's value.
  The law AskCounts: a round of its loop.
-/
import Derived.Test.YtlailcmhpnnidaaGreatDoorU30
import Derived.Test.YtlailcmhpnnidaaGreatDoorU10
import Derived.Test.YtlailcmhpnnidaaGreatDoorU31
import Derived.Test.YtlailcmhpnnidaaGreatDoorU23
import Derived.BigRegion
set_option linter.unusedVariables false
set_option linter.unusedSimpArgs false
set_option maxRecDepth 100000
set_option maxHeartbeats 16000000
namespace Go.Proofs.YtlailcmhpnnidaaGreatDoor
open Go.RowKit Mem
namespace Nd
def MadeP (ss : List Stp) (w : World) (e : Ending) (w' : World) : Prop :=
 Below w.heap.size w w' ∧ match buildT ss with
  | .inl _ => e = .returned (.tuple #[.pointer none, noVal, .bool false])
  | .inr t => ∃ g A c K d, e = .returned (.tuple #[.pointer (some ⟨g, 0, none⟩), valV t A c K d, .bool true]) ∧ RdVA w' t ((A, c), (K, d)) ∧ TreeAt w.heap.size w' g t
theorem madeP_no {ss : List Stp} {w w' : World} {x : Int × Int} (h : buildT ss = .inl x) (hb : Below w.heap.size w w') : MadeP ss w (.returned (.tuple #[.pointer none, noVal, .bool false])) w' := by
 unfold MadeP
 rw [h]
 exact ⟨hb, rfl⟩
theorem madeP_yes {ss : List Stp} {w w' : World} {t : Tr} {g : Nat} (h : buildT ss = .inr t) {A : Option Addr} {c : Nat} {K : Option Addr} {d : Nat} (hr : RdVA w' t ((A, c), (K, d))) (hT : TreeAt w.heap.size w' g t) (hb : Below w.heap.size w w') : MadeP ss w (.returned (.tuple #[.pointer (some ⟨g, 0, none⟩), valV t A c K d, .bool true])) w' := by
 unfold MadeP
 rw [h]
 exact ⟨hb, g, A, c, K, d, rfl, hr, hT⟩
theorem tree_far {B C p g : Nat} {t : Tr} {w w' : World} (h : TreeAt B w g t) (hC : C ≤ B) (hp : p < B) (hg : w.grownBy w' (some p)) : TreeAt C w'.drew g t := by
 obtain ⟨h1, h2, v, hB, hr⟩ := h
 exact ⟨by omega, h2, v, (hB.only hg (by intro e; injection e with e; omega)).drew, RdT.move (w' := w'.drew) (fun k hk hs => ⟨by have h9 : B ≤ k := hs; show C ≤ k; omega, hg.block k hk (by have h9 : B ≤ k := hs; intro e; injection e with e; omega)⟩) _ _ hr⟩
theorem made_law (v : Value) (ss : List Stp) (w : World) (hS : RdS w v ss) (hF : ∀ s ∈ ss, s.Fine) (hC : ∀ s ∈ ss, s.Cnt) (hn : ss.length ≤ 1048576) : Calls Tryz.prog 6 #[v] w (MadeP ss w) := by
 have hba : Below w.heap.size w (w.alloc (.cells #[.int .i64 0, .bool false, .int .u64 0, .string ⟨#[]⟩, .slice none 0 0, .slice none 0 0] 28)) := (Below.refl _ _).alloc (Nat.le_refl _) _
 have hB2 := Blk.new w 28 #[.int .i64 0, .bool false, .int .u64 0, .string ⟨#[]⟩, .slice none 0 0, .slice none 0 0]
 have hsz : (w.alloc (.cells #[.int .i64 0, .bool false, .int .u64 0, .string ⟨#[]⟩, .slice none 0 0, .slice none 0 0] 28)).heap.size = w.heap.size + 1 := by simp
 have hS1 := hS.below hba
 obtain ⟨A, c, rfl, _⟩ := id hS1
 obtain ⟨es, hes, hec⟩ := rds_es hS1
 have hel : es.length = ss.length := by rw [← hes]; simp
 obtain ⟨i0, hi0, hz0, hz1, hz2⟩ := info_parts info_rstep
 have HSS := Lib.hid hS1
 have HES := Lib.hid (And.intro hes hec)
 have HEL := Lib.hid hel
 have HFC := Lib.hid (And.intro hF hC)
 have HB2 := Lib.hid hB2
 have HBA := Lib.hid hba
 have hnn : ss.length < 1048577 := by omega
 clear hS hS1 hes hec hel hn hF hC hba hB2
 go_enter Tryz.func6, Tryz.ntmps6
 go_wp2_with fail
 generalize (w.alloc (.cells #[.int .i64 0, .bool false, .int .u64 0, .string ⟨#[]⟩, .slice none 0 0, .slice none 0 0] 28)) = w1 at *
 go_loopw [5, 15] (fun c5 c15 wr => ∃ k : Nat, k ≤ ss.length ∧ c15 = .int .i64 k ∧ Hid (wr.ownsRow w1.heap.size 81 6 c5 k (cellsE (es.take k)) ∧ Below w1.heap.size w1 wr)) (fun _ c15 _ => ss.length - (intOf c15).toNat)
 case atStart => exact ⟨0, Nat.zero_le _, rfl, Lib.hid ⟨World.ownsRow_nil _ _ _ _, Below.refl _ _⟩⟩
 case round =>
  obtain ⟨k, hk, rfl, HI⟩ := hrel
  have hbs := HI.out.2.size
  by_cases hlt : k < ss.length
  ·obtain ⟨g, o, K, q, rfl, hC, hek⟩ := HES.out.2 k hlt
   have hsn := cellsE_snoc es k _ hek
   obtain ⟨c0, c1, c2, c3, c4, c5, ck⟩ := hC.below HI.out.2
   have HSN := Lib.hid hsn
   clear ck hC hek hsn
   generalize ss[k] = s at *
   obtain ⟨A3, q3, rfl⟩ := own_slice HI.out.1
   have hba : Below wr.heap.size wr (wr.alloc (.cells #[.int .i64 s.sort, .bool s.flag, .int .u64 (s.bits : Int), .string ⟨s.text.toArray⟩, .int .i64 s.count, .slice K s.keys.length q] 79)) := (Below.refl _ _).alloc (Nat.le_refl _) _
   have ho9 : ((wr.alloc (.cells #[.int .i64 s.sort, .bool s.flag, .int .u64 (s.bits : Int), .string ⟨s.text.toArray⟩, .int .i64 s.count, .slice K s.keys.length q] 79)).alloc (.cells #[.int .i64 s.sort, .bool s.flag, .int .u64 (s.bits : Int), .string ⟨s.text.toArray⟩, .int .i64 s.count, .slice K s.keys.length q] 81)).ownsRow w1.heap.size 81 6 (.slice A3 k q3) k (cellsE (es.take k)) := own_below (own_below HI.out.1 hba) ((Below.refl _ _).alloc (Nat.le_refl _) _)
   have hcn := cells_new (wr.alloc (.cells #[.int .i64 s.sort, .bool s.flag, .int .u64 (s.bits : Int), .string ⟨s.text.toArray⟩, .int .i64 s.count, .slice K s.keys.length q] 79)) (cell6 s K q) 81
   rw [World.size_alloc] at hcn
   have HBB := Lib.hid (HI.out.2.trans ((hba.alloc hba.size (.cells #[.int .i64 s.sort, .bool s.flag, .int .u64 (s.bits : Int), .string ⟨s.text.toArray⟩, .int .i64 s.count, .slice K s.keys.length q] 81)).mono hbs))
   go_wp2_with (at_builtin; refine wpList_append_own_at _ rfl _ _ 76 rfl w1.heap.size 81 i0 _ 6 72 Tryz.underlying76 hi0 hz0 hz1 hz2 rfl (by omega) (.slice A3 k q3) k (cellsE (es.take k)) rfl ho9 ⟨wr.heap.size + 1, 0, none⟩ 1 1 (cell6 s K q) rfl rfl hcn (cell6_one s K q) ?b1 ?b2 ?b3 ?_; (unfold maxLen; omega); omega; (simp; omega); intro v9 w9 hown9 hgr9 hnil9 hat9)
   have hb9 : Below w1.heap.size w1 w9 := HBB.out.grown hgr9 (by simp; omega) (fun j hj => (own_typed ho9 j hj).1)
   have HN : Hid (w9.ownsRow w1.heap.size 81 6 v9 (k + 1) (cellsE (es.take (k + 1))) ∧ Below w1.heap.size w1 w9) := Lib.hid ⟨by rw [HSN.out]; exact hown9, hb9⟩
   clear hown9 hgr9 hnil9 hat9 hb9 ho9
   go_roundw
   case rel => exact ⟨k + 1, by omega, by go_num, HN⟩
   case measure => simp [intOf]; omega
  ·obtain rfl : k = ss.length := by omega
   have hfin : RdS wr u5 ss := by
    have h1 := HI.out.1
    rw [← HEL.out, List.take_of_length_le (Nat.le_refl _)] at h1
    have h2 := own_rds h1 (fun e he => by
     obtain ⟨j, hj, hje⟩ := List.getElem_of_mem he
     obtain ⟨g, o, K, q, _, hC, hek⟩ := HES.out.2 j (by rw [← HEL.out]; exact hj)
     rw [List.getElem?_eq_getElem hj, hje] at hek
     injection hek with hek
     rw [hek]
     exact ⟨hC.ks.below HI.out.2, hC.kc⟩)
    rw [HES.out.1] at h2
    exact h2
   have HFI := Lib.hid hfin
   clear hfin
   go_wp2_with fail
   ((with_reducible refine (refBuild_all u5 ss _ HFI.out HFC.out.1 HFC.out.2).mono ?_); rintro e w2 ⟨hb2, he⟩)
   have hb12 := HI.out.2.trans (hb2.mono hbs)
   have blk2 := HB2.out.below hb12 (by omega)
   have BLK2 := Lib.hid blk2
   have HBW := Lib.hid (HBA.out.trans (hb12.mono (by omega)))
   have hs2 := blk2.lt
   have HB2W := Lib.hid hb2
   clear hb12 hb2
   cases hbt : buildT ss with
   | inl x =>
    rw [hbt] at he
    obtain rfl := he
    have hx0 := buildT_ne hbt
    have hx1 : (x.1 != 0) = true := by simpa using hx0
    have HBT := Lib.hid hbt
    clear hbt hx0
    have z0 : w2.cell? ⟨w.heap.size, 0, none⟩ = some (.int .i64 0) := blk2.cell 0
    have z1 : w2.cell? ⟨w.heap.size, 1, none⟩ = some (.bool false) := blk2.cell 1
    have z2 : w2.cell? ⟨w.heap.size, 2, none⟩ = some (.int .u64 0) := blk2.cell 2
    have z3 : w2.cell? ⟨w.heap.size, 3, none⟩ = some (.string ⟨#[]⟩) := blk2.cell 3
    have z4 : w2.cell? ⟨w.heap.size, 4, none⟩ = some (.slice none 0 0) := blk2.cell 4
    have z5 : w2.cell? ⟨w.heap.size, 5, none⟩ = some (.slice none 0 0) := blk2.cell 5
    have q0 := blk2.frozen 0
    have q1 := blk2.frozen 1
    have q2 := blk2.frozen 2
    have q3 := blk2.frozen 3
    have q4 := blk2.frozen 4
    have q5 := blk2.frozen 5
    clear blk2
    go_upto_region 9 with fail
    go_region
    all_goals
     go_wp2
     have hf := (six_blk BLK2.out (.int .i64 0) (.bool false) (.int .u64 0) (.string ⟨#[]⟩) (.slice none 0 0) (.slice none 0 0)).alloc (.cells #[.int .i64 0, .bool false, .int .u64 0, .string ⟨#[]⟩, .slice none 0 0, .slice none 0 0] 28)
     have hbel := (six_below HBW.out (Nat.le_refl w.heap.size) (.int .i64 0) (.bool false) (.int .u64 0) (.string ⟨#[]⟩) (.slice none 0 0) (.slice none 0 0)).alloc (by have := HBW.out.size; simp [six]; omega) (.cells #[.int .i64 0, .bool false, .int .u64 0, .string ⟨#[]⟩, .slice none 0 0, .slice none 0 0] 28)
     unfold six at hf hbel
     generalize ((((((w2.setCell ⟨w.heap.size, 0, none⟩ (.int .i64 0)).setCell ⟨w.heap.size, 1, none⟩ (.bool false)).setCell ⟨w.heap.size, 2, none⟩ (.int .u64 0)).setCell ⟨w.heap.size, 3, none⟩ (.string ⟨#[]⟩)).setCell ⟨w.heap.size, 4, none⟩ (.slice none 0 0)).setCell ⟨w.heap.size, 5, none⟩ (.slice none 0 0)).alloc (.cells #[.int .i64 0, .bool false, .int .u64 0, .string ⟨#[]⟩, .slice none 0 0, .slice none 0 0] 28) = wf at *
     have dd0 : wf.cell? ⟨w.heap.size, 0, none⟩ = some (.int .i64 0) := hf.cell 0
     have dd1 : wf.cell? ⟨w.heap.size, 1, none⟩ = some (.bool false) := hf.cell 1
     have dd2 : wf.cell? ⟨w.heap.size, 2, none⟩ = some (.int .u64 0) := hf.cell 2
     have dd3 : wf.cell? ⟨w.heap.size, 3, none⟩ = some (.string ⟨#[]⟩) := hf.cell 3
     have dd4 : wf.cell? ⟨w.heap.size, 4, none⟩ = some (.slice none 0 0) := hf.cell 4
     have dd5 : wf.cell? ⟨w.heap.size, 5, none⟩ = some (.slice none 0 0) := hf.cell 5
     refine bodyPost_ret (v := .tuple #[.pointer none, noVal, .bool false]) ?_ rfl (madeP_no HBT.out (hbel.trans ((drewN_below wf 1).mono hbel.size)))
     simp [results, Tryz.results6, go_sem, dd0, dd1, dd2, dd3, dd4, dd5]
   | inr t =>
    rw [hbt] at he
    obtain ⟨A2, c2, K2, d2, rfl, hrd⟩ := he
    have hx1 : ((0 : Int) != 0) = false := by decide
    have hb8 : Below w2.heap.size w2 (w2.alloc (.cells #[.int .i64 (t.srt : Nat), .bool t.fl, .int .u64 (t.bi : Nat), .string ⟨t.tx.toArray⟩, .slice A2 t.kids.length c2, .slice K2 t.kn.length d2] 28)) := (Below.refl _ _).alloc (Nat.le_refl _) _
    have H8 := Lib.hid hb8
    have HB82 := Lib.hid (HBW.out.trans (hb8.mono HBW.out.size))
    have HRD := Lib.hid hrd
    have HBT := Lib.hid hbt
    have HS8 := Lib.hid ((HSS.out.below HI.out.2).below ((HB2W.out).trans (hb8.mono HB2W.out.size)))
    have b80 := (Blk.new w2 28 #[.int .i64 (t.srt : Nat), .bool t.fl, .int .u64 (t.bi : Nat), .string ⟨t.tx.toArray⟩, .slice A2 t.kids.length c2, .slice K2 t.kn.length d2])
    have HB80 := Lib.hid b80
    clear hbt hrd hb8 b80
    clear blk2
    go_wp2_with fail
    ((with_reducible refine (build_all _ ss _ HS8.out HFC.out.1).mono ?_); rintro e w3 ⟨hb3, he⟩)
    rw [HBT.out] at he
    obtain ⟨g, rfl, hTA⟩ := he
    have HTA := Lib.hid hTA
    have h23 := H8.out.trans (hb3.mono H8.out.size)
    have H23 := Lib.hid h23
    have HBW3 := Lib.hid (HBW.out.trans (h23.mono HBW.out.size))
    have blk2 := BLK2.out.below h23 hs2
    have BLK3 := Lib.hid blk2
    have hB80 := HB80.out.below hb3 HB80.out.lt
    have hs3 := blk2.lt
    have z0 : w3.cell? ⟨w.heap.size, 0, none⟩ = some (.int .i64 0) := blk2.cell 0
    have z1 : w3.cell? ⟨w.heap.size, 1, none⟩ = some (.bool false) := blk2.cell 1
    have z2 : w3.cell? ⟨w.heap.size, 2, none⟩ = some (.int .u64 0) := blk2.cell 2
    have z3 : w3.cell? ⟨w.heap.size, 3, none⟩ = some (.string ⟨#[]⟩) := blk2.cell 3
    have z4 : w3.cell? ⟨w.heap.size, 4, none⟩ = some (.slice none 0 0) := blk2.cell 4
    have z5 : w3.cell? ⟨w.heap.size, 5, none⟩ = some (.slice none 0 0) := blk2.cell 5
    have q0 := blk2.frozen 0
    have q1 := blk2.frozen 1
    have q2 := blk2.frozen 2
    have q3 := blk2.frozen 3
    have q4 := blk2.frozen 4
    have q5 := blk2.frozen 5
    clear blk2
    have y0 : w3.cell? ⟨w2.heap.size, 0, none⟩ = some (.int .i64 (t.srt : Nat)) := hB80.cell 0
    have y1 : w3.cell? ⟨w2.heap.size, 1, none⟩ = some (.bool t.fl) := hB80.cell 1
    have y2 : w3.cell? ⟨w2.heap.size, 2, none⟩ = some (.int .u64 (t.bi : Nat)) := hB80.cell 2
    have y3 : w3.cell? ⟨w2.heap.size, 3, none⟩ = some (.string ⟨t.tx.toArray⟩) := hB80.cell 3
    have y4 : w3.cell? ⟨w2.heap.size, 4, none⟩ = some (.slice A2 t.kids.length c2) := hB80.cell 4
    have y5 : w3.cell? ⟨w2.heap.size, 5, none⟩ = some (.slice K2 t.kn.length d2) := hB80.cell 5
    clear hB80 h23 hb3 hTA
    go_upto_region 11 with fail
    go_region
    all_goals
     go_wp2
     have hf := six_blk BLK3.out (.int .i64 (t.srt : Nat)) (.bool t.fl) (.int .u64 (t.bi : Nat)) (.string ⟨t.tx.toArray⟩) (.slice A2 t.kids.length c2) (.slice K2 t.kn.length d2)
     have hbel := six_below HBW3.out (Nat.le_refl w.heap.size) (.int .i64 (t.srt : Nat)) (.bool t.fl) (.int .u64 (t.bi : Nat)) (.string ⟨t.tx.toArray⟩) (.slice A2 t.kids.length c2) (.slice K2 t.kn.length d2)
     have hg6 := six_grown w3 w.heap.size (.int .i64 (t.srt : Nat)) (.bool t.fl) (.int .u64 (t.bi : Nat)) (.string ⟨t.tx.toArray⟩) (.slice A2 t.kids.length c2) (.slice K2 t.kn.length d2)
     have HH := Lib.hid (madeP_yes HBT.out (A := A2) (c := c2) (K := K2) (d := d2) (g := g) (RdV.move (w' := (six w3 w.heap.size (.int .i64 (t.srt : Nat)) (.bool t.fl) (.int .u64 (t.bi : Nat)) (.string ⟨t.tx.toArray⟩) (.slice A2 t.kids.length c2) (.slice K2 t.kn.length d2)).drew) (S' := fun _ => True) (fun k hk hs => ⟨trivial, (hg6.block k (Nat.lt_of_lt_of_le hk H23.out.size) (by have h9 : wr.heap.size ≤ k := hs; intro e; injection e with e; omega)).trans (H23.out.block k hk)⟩) _ _ HRD.out) (tree_far HTA.out (by have := H8.out.size; omega) (by have := H8.out.size; omega) hg6) (hbel.trans ((drewN_below _ 1).mono hbel.size)))
     unfold six at hf hbel HH
     generalize ((((((w3.setCell ⟨w.heap.size, 0, none⟩ (.int .i64 (t.srt : Nat))).setCell ⟨w.heap.size, 1, none⟩ (.bool t.fl)).setCell ⟨w.heap.size, 2, none⟩ (.int .u64 (t.bi : Nat))).setCell ⟨w.heap.size, 3, none⟩ (.string ⟨t.tx.toArray⟩)).setCell ⟨w.heap.size, 4, none⟩ (.slice A2 t.kids.length c2)).setCell ⟨w.heap.size, 5, none⟩ (.slice K2 t.kn.length d2)) = wf at *
     have dd0 : wf.cell? ⟨w.heap.size, 0, none⟩ = some (.int .i64 (t.srt : Nat)) := hf.cell 0
     have dd1 : wf.cell? ⟨w.heap.size, 1, none⟩ = some (.bool t.fl) := hf.cell 1
     have dd2 : wf.cell? ⟨w.heap.size, 2, none⟩ = some (.int .u64 (t.bi : Nat)) := hf.cell 2
     have dd3 : wf.cell? ⟨w.heap.size, 3, none⟩ = some (.string ⟨t.tx.toArray⟩) := hf.cell 3
     have dd4 : wf.cell? ⟨w.heap.size, 4, none⟩ = some (.slice A2 t.kids.length c2) := hf.cell 4
     have dd5 : wf.cell? ⟨w.heap.size, 5, none⟩ = some (.slice K2 t.kn.length d2) := hf.cell 5
     refine bodyPost_ret (v := .tuple #[.pointer (some ⟨g, 0, none⟩), valV t A2 c2 K2 d2, .bool true]) ?_ rfl HH.out
     simp [results, Tryz.results6, go_sem, dd0, dd1, dd2, dd3, dd4, dd5]
end Nd
end Go.Proofs.YtlailcmhpnnidaaGreatDoor
namespace Go.Proofs.YtlailcmhpnnidaaGreatDoor
open Go.RowKit Go.Shelf Mem Rg Tok Go.Sort
namespace Nd
attribute [local go_sem] Oper.semAt_some
theorem tsize_any (S : Nat → Prop) (g : Nat) (t : Tr) (v : Value) (w : World) (hB : Blk w g 155 #[v]) (hr : RdT S w t v) (hf : t.fit = true) : Calls Tryz.prog 9 #[.pointer (some ⟨g, 0, none⟩)] w (Rz.SizeP t w) := by
 obtain ⟨tx, ux, rfl⟩ := hr.iface
 have HR := Lib.hid (root_any g _ tx ux w hB)
 have HS : Hid (∀ w', Below w.heap.size w w' → Calls Tryz.prog 34 #[.agg #[.iface tx ux]] w' (Rz.SizeP t w')) := Lib.hid fun w' hb => Rz.size_any S t _ w' (RdT.move (S' := S) (fun j hj hs => ⟨hs, hb.block j hj⟩) _ _ hr) hf
 clear hr hB hf
 go_enter Tryz.func9, Tryz.ntmps9
 go_wp2_with fail
 (refine HR.out.mono ?_; rintro e w2 ⟨rfl, hb2⟩)
 have HB2 := Lib.hid hb2
 clear HR hb2
 go_wp2_with fail
 ((with_reducible refine (HS.out _ HB2.out).mono ?_); rintro e w3 ⟨rfl, hb3⟩)
 have HB3 := Lib.hid (HB2.out.trans (hb3.mono HB2.out.size))
 clear HS hb3
 go_wp2
 go_ret3
 exact ⟨rfl, HB3.out⟩
theorem fnv_nil (g h : Nat) (W : World) : (binOp .eql 32 (.func (.func 27) #[] #[.pointer (some ⟨g, 0, none⟩), .pointer (some ⟨h, 0, none⟩)]) .nilFunc).run Tryz.prog W = .ok (.bool false) W := by kernel_rfl
def partsK (L : List (Tx × Tr)) : Nat → List Tx
 | 0 => []
 | k + 1 => partsK L k ++ (wantL ((k : Int) + 2) L).map (·.1)
theorem made_six {ss : List Stp} {w w1 : World} {e : Ending} (hF : ∀ s ∈ ss, s.Fine) (he : match buildT ss with
  | .inl _ => e = .returned (.tuple #[.pointer none, noVal, .bool false])
  | .inr t => ∃ g A c K d, e = .returned (.tuple #[.pointer (some ⟨g, 0, none⟩), valV t A c K d, .bool true]) ∧ RdVA w1 t ((A, c), (K, d)) ∧ TreeAt w.heap.size w1 g t) :
  ∃ (o : Option Tr) (tp : Value) (x0 : Int) (x1 : Bool) (x2 : Int) (x3 : ByteArray) (A : Option Addr) (nA cA : Nat) (K : Option Addr) (nK cK : Nat), e = .returned (.tuple #[tp, .agg #[.int .i64 x0, .bool x1, .int .u64 x2, .string x3, .slice A nA cA, .slice K nK cK], .bool o.isSome]) ∧ HasT w1 o tp ∧ (∀ t, o = some t → t.Ok ∧ t.fit = true) := by
 cases hb : buildT ss with
 | inl x =>
  rw [hb] at he
  exact ⟨none, .pointer none, _, _, _, _, _, _, _, _, _, _, he, .inl ⟨rfl, rfl⟩, fun t h => by cases h⟩
 | inr t =>
  rw [hb] at he
  obtain ⟨g, A, c, K, d, he, hr, hT⟩ := he
  obtain ⟨_, hfit, tv, hblk, hrd0⟩ := hT
  exact ⟨some t, .pointer (some ⟨g, 0, none⟩), _, _, _, _, _, _, _, _, _, _, he, .inr ⟨t, g, tv, rfl, rfl, hblk, RdT.toA hrd0, (buildT_ok hF hb).1, hfit⟩, fun t' h => by cases h; exact ⟨(buildT_ok hF hb).1, hfit⟩⟩
theorem hasT_below {w w' : World} {o : Option Tr} {tp : Value} (h : HasT w o tp) (hb : Below w.heap.size w w') : HasT w' o tp := by
 rcases h with ⟨h1, h2⟩ | ⟨t, g, v, h1, h2, h3, h4, h5⟩
 ·exact .inl ⟨h1, h2⟩
 ·exact .inr ⟨t, g, v, h1, h2, h3.below hb h3.lt, rda_below h4 hb, h5⟩
theorem hasT_ptr {w : World} {o : Option Tr} {tp : Value} (h : HasT w o tp) : tp = .pointer none ∨ ∃ a, tp = .pointer (some a) := by
 rcases h with ⟨_, rfl⟩ | ⟨t, g, v, _, rfl, _⟩
 ·exact .inl rfl
 ·exact .inr ⟨_, rfl⟩
theorem allO_few {o : Option Tr} (h : ∀ t, o = some t → t.Ok ∧ t.fit = true) : (allO o).length ≤ 65536 := by
 rw [allO_len]
 cases o with
 | none => exact Nat.zero_le _
 | some t => exact (fit_le (h t rfl).2).1
theorem wantL_le (n : Int) (l : List (Tx × Tr)) : (wantL n l).length ≤ l.length := List.length_filter_le _ _
def ptrs (l : List TvT) : List Tx := l.map fun y => y.1.1
theorem ptrs_snoc (l : List TvT) (y : TvT) : ptrs (l ++ [y]) = ptrs l ++ [y.1.1] := by unfold ptrs; simp
theorem ptrs_all {xs : List TvT} {n : Int} {L : List (Tx × Tr)} (h : xs.map prT = wantL n L) : ptrs xs = (wantL n L).map (·.1) := by
 rw [← h, List.map_map]
 rfl
theorem ptrs_len {pre : List TvT} {y : TvT} {n : Int} {o : Option Tr} (hf : ∀ t, o = some t → t.Ok ∧ t.fit = true) (h : (pre.map prT ++ [prT y]) <+: wantL n (allO o)) : (ptrs pre).length + 1 ≤ 65536 := by
 have h1 := h.length_le
 have h2 := wantL_le n (allO o)
 have h3 := allO_few hf
 rw [List.length_append, List.length_map] at h1
 unfold ptrs
 rw [List.length_map]
 simp at h1
 omega
theorem parts_len (L : List (Tx × Tr)) : ∀ k, (partsK L k).length ≤ k * L.length
 | 0 => by simp [partsK]
 | k + 1 => by
  have h1 := parts_len L k
  have h2 := wantL_le ((k : Int) + 2) L
  rw [partsK, List.length_append, List.length_map, Nat.add_mul]
  omega
structure CtS (w2 Wb : World) (CA : Nat → Prop) (L : List (Tx × Tr)) (k : Nat) (ds : List Nat) (W : World) : Prop where
 row : ∃ C, RowI (w2.heap.size + 1) w2.heap.size C (partsK L k) W ∧ (∀ D ∈ ds, ¬ C D) ∧ Nw (fun j => j = w2.heap.size + 1) C Wb
 fr : Fr (fun j => j = w2.heap.size + 1) Wb W
 marks : MarksOk w2.heap.size ds W
 far : ∀ D ∈ ds, ¬ CA D
theorem ct_next {w2 Wb W W5 W7 : World} {CA C C' : Nat → Prop} {L : List (Tx × Tr)} {k D : Nat} {ds : List Nat} {xs : List TvT} (hb2 : Below w2.heap.size w2 Wb) (hCA : ∀ j, CA j → j < Wb.heap.size) (h2 : ∀ D ∈ ds, ¬ C D) (h3 : Nw (fun j => j = w2.heap.size + 1) C Wb) (hf : Fr (fun j => j = w2.heap.size + 1) Wb W) (hm : MarksOk w2.heap.size ds W) (hfar : ∀ D ∈ ds, ¬ CA D)
  (hb5 : Below W.heap.size W W5) (hD : D = W5.heap.size) (hDC : ¬ C' D) (hx : xs.map prT = wantL ((k : Int) + 2) L) (hI : RowI (w2.heap.size + 1) w2.heap.size C' (partsK L k ++ ptrs xs) W7) (hfr : Fr C W5 W7) (hnw : Nw C C' W5) (hK : W7.heap[D]? = some (.deferred (some []))) :
  CtS w2 Wb CA L (k + 1) (D :: ds) W7 := by
 have s1 := hb2.size
 have s2 := hf.size
 have s3 := hb5.size
 have hlt : ∀ E ∈ ds, E < W.heap.size := fun E hE => (Array.getElem?_eq_some_iff.1 (hm.2 E hE).2).1
 refine ⟨⟨C', ?_, fun E hE => ?_, fun j hj => ?_⟩, ?_, ?_, fun E hE => ?_⟩
 ·rw [partsK, ← ptrs_all hx]
  exact hI
 ·rcases List.mem_cons.1 hE with rfl | hE
  ·exact hDC
  ·intro hc
   rcases hnw E hc with h | h
   ·exact h2 E hE h
   ·have := hlt E hE; omega
 ·rcases hnw j hj with h | h
  ·exact h3 j h
  ·exact .inr (by omega)
 ·refine (hf.trans (Fr.of_below (C := fun _ => False) hb5) fun k _ h => h.elim).trans hfr fun j hj hc => ?_
  rcases h3 j hc with h | h
  ·exact h
  ·omega
 ·refine ((hm.below hb5).fr hfr h2).cons (by omega) hK fun hE => ?_
  have := hlt D hE
  omega
 ·rcases List.mem_cons.1 hE with rfl | hE
  ·intro hc
   have := hCA E hc
   omega
  ·exact hfar E hE
def paLoop : Code → Code
 | .loop b => b
 | c => c
noncomputable def ctX : Code := paLoop (paBlk (paNxt (paFst (paNxt (paNxt (paNxt (paNxt (paNxt (paNxt (Tryz.f3.body.getD .skip))))))))))
theorem ct_round (b0 it : Nat) (w2 Wb : World) (o : Option Tr) (tp : Value) (CA : Nat → Prop) (k : Nat) (hk : k < 2) (hT0 : HasT w2 o tp) (hG : Glob w2) (hA : Tab w2) (hOK : ∀ t, o = some t → t.Ok ∧ t.fit = true) (hb2 : Below w2.heap.size w2 Wb) (hit : w2.heap.size + 2 ≤ it ∧ it < Wb.heap.size) (hcell : Wb.cell? ⟨it, k, none⟩ = some (.int .i64 ((k : Int) + 2))) (hCA : ∀ j, CA j → j < Wb.heap.size) (W : World) (ds : List Nat) (hS : CtS w2 Wb CA (allO o) k ds W) (z0 z1 z4 z8 z9 z10 z11 z12 z13 z14 z15 z16 z17 z18 z19 z20 z21 z22 z23 z24 z25 z26 z27 z28 z29 z30 z31 z32 z33 z37 z38 z39 z40 z41 z42 z43 z44 z45 z46 z47 z48 z49 z50 z51 z52 z53 z54 z55 z56 z57 z58 z59 z60 z61 z62 z63 z64 z65 z66 z67 z68 z69 z70 z71 z72 z73 z74 z75 z76 z77 z78 z79 z80 z81 z82 : Value) (KK : Act → World → Prop) (Q : Exit → Act → World → Prop)
  (hKK : ∀ (z0 z1 z4 z8 z9 z10 z11 z12 z13 z14 z15 z16 z17 z18 z19 z20 z21 z22 z23 z24 z25 z26 z27 z28 z29 z30 z31 z32 z33 z37 z38 z39 z40 z41 z42 z43 z44 z45 z46 z47 z48 z49 z50 z51 z52 z53 z54 z55 z56 z57 z58 z59 z60 z61 z62 z63 z64 z65 z66 z67 z68 z69 z70 z71 z72 z73 z74 z75 z76 z77 z78 z79 z80 z81 z82 : Value) (ds' : List Nat) (w' : World), CtS w2 Wb CA (allO o) (k + 1) ds' w' → KK { tmps := (z0 :: z1 :: (.pointer (some ⟨b0, 0, none⟩)) :: tp :: z4 :: (.bool o.isSome) :: (.pointer (some ⟨w2.heap.size, 0, none⟩)) :: (.pointer (some ⟨w2.heap.size + 1, 0, none⟩)) :: z8 :: z9 :: z10 :: z11 :: z12 :: z13 :: z14 :: z15 :: z16 :: z17 :: z18 :: z19 :: z20 :: z21 :: z22 :: z23 :: z24 :: z25 :: z26 :: z27 :: z28 :: z29 :: z30 :: z31 :: z32 :: z33 :: (.slice (some ⟨it, 0, none⟩) 2 2) :: (.int .i64 2) :: (.int .i64 ((k + 1 : Nat) : Int)) :: z37 :: z38 :: z39 :: z40 :: z41 :: z42 :: z43 :: z44 :: z45 :: z46 :: z47 :: z48 :: z49 :: z50 :: z51 :: z52 :: z53 :: z54 :: z55 :: z56 :: z57 :: z58 :: z59 :: z60 :: z61 :: z62 :: z63 :: z64 :: z65 :: z66 :: z67 :: z68 :: z69 :: z70 :: z71 :: z72 :: z73 :: z74 :: z75 :: z76 :: z77 :: z78 :: z79 :: z80 :: z81 :: z82 :: []).toArray, defers := marks ds' } w') :
  ctX.wpIn Fence.wide 9 Tryz.prog (Exit.then KK Q) { tmps := (z0 :: z1 :: (.pointer (some ⟨b0, 0, none⟩)) :: tp :: z4 :: (.bool o.isSome) :: (.pointer (some ⟨w2.heap.size, 0, none⟩)) :: (.pointer (some ⟨w2.heap.size + 1, 0, none⟩)) :: z8 :: z9 :: z10 :: z11 :: z12 :: z13 :: z14 :: z15 :: z16 :: z17 :: z18 :: z19 :: z20 :: z21 :: z22 :: z23 :: z24 :: z25 :: z26 :: z27 :: z28 :: z29 :: z30 :: z31 :: z32 :: z33 :: (.slice (some ⟨it, 0, none⟩) 2 2) :: (.int .i64 2) :: (.int .i64 (k : Nat)) :: z37 :: z38 :: z39 :: z40 :: z41 :: z42 :: z43 :: z44 :: z45 :: z46 :: z47 :: z48 :: z49 :: z50 :: z51 :: z52 :: z53 :: z54 :: z55 :: z56 :: z57 :: z58 :: z59 :: z60 :: z61 :: z62 :: z63 :: z64 :: z65 :: z66 :: z67 :: z68 :: z69 :: z70 :: z71 :: z72 :: z73 :: z74 :: z75 :: z76 :: z77 :: z78 :: z79 :: z80 :: z81 :: z82 :: []).toArray, defers := marks ds } W := by
 obtain ⟨k', hk'⟩ : ∃ k', k + 1 = k' := ⟨_, rfl⟩
 rw [hk'] at hKK
 have HKK := Lib.hid hKK
 obtain ⟨n, hn⟩ : ∃ n : Int, (k : Int) + 2 = n := ⟨_, rfl⟩
 rw [hn] at hcell
 have htp := hasT_ptr hT0
 have hk0 : (0 : Int) ≤ (k : Int) := by omega
 have hk1 : (k : Int) < 2 := by omega
 obtain ⟨⟨C, hI, h2, h3⟩, hf, hm, hfar⟩ := hS
 have hc : W.cell? ⟨it, k, none⟩ = some (.int .i64 n) := by
  rw [← hcell]
  unfold World.cell?
  rw [hf.block it hit.2 (by omega)]
 have HIT := Lib.hid hit
 have HB2 := Lib.hid hb2
 have HFM := Lib.hid (And.intro hf (And.intro hm hfar))
 have HI := Lib.hid hI
 have HC2 := Lib.hid (And.intro h2 h3)
 have HCA := Lib.hid hCA
 have HN := Lib.hid hn
 have HOK := Lib.hid hOK
 have hbW : Below w2.heap.size w2 W := hb2.trans (hf.below hb2.size fun j _ hj => by omega)
 have HBW := Lib.hid hbW
 have HT2 := Lib.hid hT0
 have HGA := Lib.hid (And.intro hG hA)
 clear hKK hcell hf hm hfar h2 h3 hI hT0 hG hA hb2 hit hCA hn hbW hOK
 conv => arg 4; whnf
 gi_wp2_with fail
 refine ⟨trivial, (callsIn_wide.2 (aall_any tp htp n W)).mono ?_⟩
 rintro e W5 ⟨rfl, hw5⟩
 have hs5 : W5.heap.size = W.heap.size + 2 := by rw [← hw5]; simp
 have hb5 : Below W.heap.size W W5 := by rw [← hw5]; exact ((Below.refl _ _).alloc (Nat.le_refl _) _).alloc (by simp) _
 have bt5 : Boxed W5 W.heap.size 23 tp := by rw [← hw5]; exact (Boxed.new W 23 _).alloc _
 have bw5 : Boxed W5 (W.heap.size + 1) 3 (.int .i64 n) := by
  have := Boxed.new (W.alloc (.cells #[tp] 23)) 3 (.int .i64 n)
  rw [World.size_alloc, hw5] at this
  exact this
 clear hw5 hc
 obtain ⟨q, hq⟩ : ∃ q, W.heap.size = q := ⟨_, rfl⟩
 have hws := HBW.out.size
 rw [hq] at bt5 bw5 hs5 hws ⊢
 have hfn := fnv_nil q (q + 1)
 have HSQ := Lib.hid (aall1_stops 8 q (q + 1) n w2 W5 o tp HT2.out HGA.out.1 HGA.out.2 (HBW.out.trans (hb5.mono HBW.out.size)) bt5 bw5 ⟨by omega, by omega⟩)
 have HQ := Lib.hid (And.intro hq hs5)
 have HB5 := Lib.hid hb5
 clear bt5 bw5 hb5 hs5 hq
 gi_wp2_with fail
 clear hfn
 refine wpIn_rangeC rfl (by omega) (gf := 27) (lb := #[.pointer (some ⟨q, 0, none⟩), .pointer (some ⟨q + 1, 0, none⟩)]) rfl trivial (enters_of Tryz.func27 (by kernel_rfl) rfl) HSQ.out (Fr.refl _ _)
  (fun j hj => by have := HQ.out.2; rcases hj with h | h | h <;> omega) (fun _ => rfl)
  (fun C pre W7 => RowI (w2.heap.size + 1) w2.heap.size C (partsK (allO o) k ++ ptrs pre) W7) (fun _ _ _ _ => False) (rowI_abd _ _ _ _) (fun _ _ _ _ _ h _ => h) (rowI_bdd _ _ _) (fun _ _ _ _ h => h.elim) C
  (by
   show RowI _ _ C (partsK (allO o) k ++ []) W5
   rw [List.append_nil]
   exact rowI_fr HI.out (Fr.of_below HB5.out))
  (fun j hj hr => by
   obtain ⟨_, _, _, _, _, _, _, h6⟩ := HI.out
   have h7 := h6 j hj
   have h8 := HQ.out.1
   rcases hr with h | h | h <;> omega)
  (fun x a' C W9 => a' = { tmps := (z0 :: z1 :: (.pointer (some ⟨b0, 0, none⟩)) :: tp :: z4 :: (.bool o.isSome) :: (.pointer (some ⟨w2.heap.size, 0, none⟩)) :: (.pointer (some ⟨w2.heap.size + 1, 0, none⟩)) :: (.func (.func 27) #[] #[.pointer (some ⟨q, 0, none⟩), .pointer (some ⟨q + 1, 0, none⟩)]) :: z9 :: z10 :: z11 :: (.int .i64 n) :: (.string ⟨x.1.1.toArray⟩) :: z14 :: z15 :: z16 :: z17 :: z18 :: z19 :: z20 :: z21 :: z22 :: z23 :: z24 :: z25 :: z26 :: z27 :: z28 :: z29 :: z30 :: z31 :: z32 :: z33 :: (.slice (some ⟨it, 0, none⟩) 2 2) :: (.int .i64 2) :: (.int .i64 (k : Nat)) :: (.bool true) :: (.pointer (some ⟨it, k, none⟩)) :: (.int .i64 n) :: tp :: (.int .i64 n) :: (.func (.func 27) #[] #[.pointer (some ⟨q, 0, none⟩), .pointer (some ⟨q + 1, 0, none⟩)]) :: (.func (.func 27) #[] #[.pointer (some ⟨q, 0, none⟩), .pointer (some ⟨q + 1, 0, none⟩)]) :: (.bool false) :: (.func (.func 27) #[] #[.pointer (some ⟨q, 0, none⟩), .pointer (some ⟨q + 1, 0, none⟩)]) :: (.string ⟨x.1.1.toArray⟩) :: x.1.2.2 :: z48 :: z49 :: z50 :: z51 :: z52 :: z53 :: z54 :: z55 :: z56 :: z57 :: z58 :: z59 :: z60 :: z61 :: z62 :: z63 :: z64 :: z65 :: z66 :: z67 :: z68 :: z69 :: z70 :: z71 :: z72 :: z73 :: z74 :: z75 :: z76 :: z77 :: z78 :: z79 :: z80 :: z81 :: z82 :: []).toArray, defers := [] })
  (fun x a' C u W9 W' h hF => h)
  ?assign ?body ?done ?stop
 case assign =>
  rintro l1 Cd pre1 x W7 K hfr hnw hI7 hnx hK
  have hK2 := hK _ W7 Cd (Fr.refl _ _) (Nw.refl _ _) hI7 rfl
  clear hK
  obtain ⟨T9, U9, he⟩ := x.2.2.2
  simp only [encT, he] at hK2 ⊢
  gi_wp2
  exact hK2
 case body =>
  rintro l1 Cd pre1 x a' W7 hfr hnw hI7 rfl hnx
  obtain ⟨T9, U9, he⟩ := x.2.2.2
  rw [he]
  have hpl := ptrs_len HOK.out hnx
  have hpk := parts_len (allO o) k
  have hfw := allO_few HOK.out
  have hpl2 : (partsK (allO o) k ++ ptrs pre1).length + 1 ≤ 3 * 65536 := by
   rw [List.length_append]
   have : k * (allO o).length ≤ 2 * 65536 := Nat.mul_le_mul (by omega) hfw
   omega
  obtain ⟨qs, hqs⟩ : ∃ qs, partsK (allO o) k ++ ptrs pre1 = qs := ⟨_, rfl⟩
  have hI8 : RowI (w2.heap.size + 1) w2.heap.size Cd (partsK (allO o) k ++ ptrs pre1) W7 := hI7
  rw [hqs] at hI8 hpl2
  have HQS := Lib.hid hqs
  clear hI7 hqs
  obtain ⟨h1, h0, v, hbx, hrow, hCb, hCo, hCl⟩ := hI8
  obtain ⟨yA, yc, rfl⟩ := own_slice hrow
  obtain ⟨i0, hi0, hz0, hz1, hz2⟩ := info_parts info_str
  have c7 := hbx.cell
  have c7' := (hbx.alloc (.cells #[.string ⟨x.1.1.toArray⟩] 9)).cell
  have HX := Lib.hid (And.intro hbx (And.intro hCb (And.intro hCo hCl)))
  clear hpl hpk hfw hfr hnw hnx hbx hCb hCo hCl
  gi_wp2_with (gi_at_builtin; refine wpListIn_append_own_at _ rfl _ _ 26 rfl w2.heap.size 9 i0 _ 1 16 Tryz.underlying26 hi0 hz0 hz1 hz2 rfl (by omega) (.slice yA qs.length yc) qs.length (qs.map encStr) rfl (hrow.alloc _) ⟨W7.heap.size, 0, none⟩ 1 1 [.string ⟨x.1.1.toArray⟩] rfl rfl (one_new _ _ _) (one_cell _ rfl) ?b1 ?b2 ?b3 ?_; (unfold maxLen; omega); omega; (simp; omega); intro v8 w8 hown8 hgr8 hnil8 hat8; obtain ⟨g9, c9, rfl⟩ := ownsRow_succ hown8; have hap := Boxed.appended HX.out.1 (by decide) hrow h1 h0 hown8 hgr8; have c8 := hap.1.cell; have f8 := hap.1.frozen; have HEND := Lib.hid (rowI_next h1 h0 HX.out.1 hrow HX.out.2.1 HX.out.2.2.1 HX.out.2.2.2 hown8 hgr8 hat8); clear hap hown8 hgr8 hnil8 hat8 hrow HX)
  have HE2 := HEND.out
  clear HEND
  rw [show qs ++ [x.1.1] = partsK (allO o) k ++ ptrs (pre1 ++ [x]) by rw [ptrs_snoc, ← List.append_assoc, HQS.out]] at HE2
  exact HE2
 case done =>
  rintro D Cd xs W7 W8 hD hDC hxs hF8 hI7 hfr hnw hKD
  have HNX := Lib.hid (ct_next HB2.out HCA.out HC2.out.1 HC2.out.2 HFM.out.1 HFM.out.2.1 HFM.out.2.2 HB5.out hD hDC (by rw [HN.out]; exact hxs.1) hI7 hfr hnw hKD)
  have hkk : (k : Int) + 1 = (k' : Int) := by omega
  have hkw : wrap64 (k' : Int) = (k' : Int) := by unfold wrap64; omega
  rw [hk'] at HNX
  clear hfr hnw hI7 hxs hF8 hKD hDC hD
  gi_wp2_with fail
  exact HKK.out _ _ _ _ _ _ _ _ _ _ _ _ _ _ _ _ _ _ _ _ _ _ _ _ _ _ _ _ _ _ _ _ _ _ _ _ _ _ _ _ _ _ _ _ _ _ _ _ _ _ _ _ _ _ _ _ _ _ _ _ _ _ _ _ _ _ _ _ _ _ _ _ _ _ _ (D :: ds) W7 HNX.out
 case stop =>
  rintro D c Cd pre1 W7 hD hDC hsp h
  exact h.elim
end Nd
end Go.Proofs.YtlailcmhpnnidaaGreatDoor
