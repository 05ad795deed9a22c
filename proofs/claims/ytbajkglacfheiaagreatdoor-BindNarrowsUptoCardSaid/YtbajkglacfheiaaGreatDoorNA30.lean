/-
  The law's value of layer 16: what steps make, by the reference (printed out of PkJ).
-/
import Derived.Test.YtbajkglacfheiaaGreatDoorNA27
set_option linter.unusedVariables false
set_option linter.unusedSimpArgs false
set_option maxRecDepth 100000
set_option maxHeartbeats 16000000
namespace Go.Proofs.YtbajkglacfheiaaGreatDoor
open Go.RowKit Mem
namespace Nd
def ValueS (ss : List Stp) (w : World) (e : Ending) (w' : World) : Prop :=
 Below w.heap.size w w' ∧ match buildT ss with
  | .inl _ => e = .returned (.tuple #[noVal, .bool false])
  | .inr t => ∃ A c K d, e = .returned (.tuple #[valV t A c K d, .bool true]) ∧ RdV (fun k => w.heap.size ≤ k) w' t ((A, c), (K, d))
theorem valueS_no {ss : List Stp} {w w' : World} {x : Int × Int} (h : buildT ss = .inl x) (hb : Below w.heap.size w w') : ValueS ss w (.returned (.tuple #[noVal, .bool false])) w' := by
 unfold ValueS
 rw [h]
 exact ⟨hb, rfl⟩
theorem valueS_yes {ss : List Stp} {w w' : World} {t : Tr} (h : buildT ss = .inr t) {A : Option Addr} {c : Nat} {K : Option Addr} {d : Nat} (hr : RdV (fun k => w.heap.size ≤ k) w' t ((A, c), (K, d))) (hb : Below w.heap.size w w') : ValueS ss w (.returned (.tuple #[valV t A c K d, .bool true])) w' := by
 unfold ValueS
 rw [h]
 exact ⟨hb, A, c, K, d, rfl, hr⟩
theorem value16_law (v : Value) (ss : List Stp) (w : World) (hS : RdS w v ss) (hF : ∀ s ∈ ss, s.Fine) (hC : ∀ s ∈ ss, s.Cnt) (hn : ss.length ≤ 1048576) : Calls Tryz.prog 44 #[v] w (ValueS ss w) := by
 have hba : Below w.heap.size w (w.alloc (.cells #[.int .i64 0, .bool false, .int .u64 0, .string ⟨#[]⟩, .slice none 0 0, .slice none 0 0] 79)) := (Below.refl _ _).alloc (Nat.le_refl _) _
 have hB2 := Blk.new w 79 #[.int .i64 0, .bool false, .int .u64 0, .string ⟨#[]⟩, .slice none 0 0, .slice none 0 0]
 have hsz : (w.alloc (.cells #[.int .i64 0, .bool false, .int .u64 0, .string ⟨#[]⟩, .slice none 0 0, .slice none 0 0] 79)).heap.size = w.heap.size + 1 := by simp
 have hS1 := hS.below hba
 have hS0 := hS1
 obtain ⟨A, c, rfl, _⟩ := hS0
 obtain ⟨es, hes, hec⟩ := rds_es hS1
 have hel : es.length = ss.length := by rw [← hes]; simp
 obtain ⟨i0, hi0, hz0, hz1, hz2⟩ := info_parts info_rstep
 have HES := Lib.hid (And.intro hes hec)
 have HEL := Lib.hid hel
 have HFC := Lib.hid (And.intro hF hC)
 have HB2 := Lib.hid hB2
 have HBA := Lib.hid hba
 have hnn : ss.length < 1048577 := by omega
 clear hS hS1 hes hec hel hn hF hC hba hB2
 go_enter Tryz.func44, Tryz.ntmps44
 go_wp2_with fail
 generalize (w.alloc (.cells #[.int .i64 0, .bool false, .int .u64 0, .string ⟨#[]⟩, .slice none 0 0, .slice none 0 0] 79)) = w1 at *
 go_loopw [4, 12] (fun c4 c12 wr => ∃ k : Nat, k ≤ ss.length ∧ c12 = .int .i64 k ∧ Hid (wr.ownsRow w1.heap.size 240 6 c4 k (cellsE (es.take k)) ∧ Below w1.heap.size w1 wr)) (fun _ c12 _ => ss.length - (intOf c12).toNat)
 case atStart => exact ⟨0, Nat.zero_le _, rfl, Lib.hid ⟨World.ownsRow_nil _ _ _ _, Below.refl _ _⟩⟩
 case round =>
  obtain ⟨k, hk, rfl, HI⟩ := hrel
  have hbs := HI.out.2.size
  by_cases hlt : k < ss.length
  ·obtain ⟨g, o, K, q, rfl, hC, hek⟩ := HES.out.2 k hlt
   have hsn := cellsE_snoc es k _ hek
   obtain ⟨c0, c1, c2, c3, c4, c5, ck⟩ := hC.below HI.out.2
   have HSN := Lib.hid hsn
   clear ck hC hek hsn
   generalize ss[k] = s at *
   obtain ⟨A3, q3, rfl⟩ := own_slice HI.out.1
   have hba : Below wr.heap.size wr (wr.alloc (.cells #[.int .i64 s.sort, .bool s.flag, .int .u64 (s.bits : Int), .string ⟨s.text.toArray⟩, .int .i64 s.count, .slice K s.keys.length q] 119)) := (Below.refl _ _).alloc (Nat.le_refl _) _
   have ho9 : ((wr.alloc (.cells #[.int .i64 s.sort, .bool s.flag, .int .u64 (s.bits : Int), .string ⟨s.text.toArray⟩, .int .i64 s.count, .slice K s.keys.length q] 119)).alloc (.cells #[.int .i64 s.sort, .bool s.flag, .int .u64 (s.bits : Int), .string ⟨s.text.toArray⟩, .int .i64 s.count, .slice K s.keys.length q] 240)).ownsRow w1.heap.size 240 6 (.slice A3 k q3) k (cellsE (es.take k)) := own_below (own_below HI.out.1 hba) ((Below.refl _ _).alloc (Nat.le_refl _) _)
   have hcn := cells_new (wr.alloc (.cells #[.int .i64 s.sort, .bool s.flag, .int .u64 (s.bits : Int), .string ⟨s.text.toArray⟩, .int .i64 s.count, .slice K s.keys.length q] 119)) (cell6 s K q) 240
   rw [World.size_alloc] at hcn
   have HBB := Lib.hid (HI.out.2.trans ((hba.alloc hba.size (.cells #[.int .i64 s.sort, .bool s.flag, .int .u64 (s.bits : Int), .string ⟨s.text.toArray⟩, .int .i64 s.count, .slice K s.keys.length q] 240)).mono hbs))
   go_wp2_with (at_builtin; refine wpList_append_own_at _ rfl _ _ 238 rfl w1.heap.size 240 i0 _ 6 72 Tryz.underlying238 hi0 hz0 hz1 hz2 rfl (by omega) (.slice A3 k q3) k (cellsE (es.take k)) rfl ho9 ⟨wr.heap.size + 1, 0, none⟩ 1 1 (cell6 s K q) rfl rfl hcn (cell6_one s K q) ?b1 ?b2 ?b3 ?_; (unfold maxLen; omega); omega; (simp; omega); intro v9 w9 hown9 hgr9 hnil9 hat9)
   have hb9 : Below w1.heap.size w1 w9 := HBB.out.grown hgr9 (by simp; omega) (fun j hj => (own_typed ho9 j hj).1)
   have HN : Hid (w9.ownsRow w1.heap.size 240 6 v9 (k + 1) (cellsE (es.take (k + 1))) ∧ Below w1.heap.size w1 w9) := Lib.hid ⟨by rw [HSN.out]; exact hown9, hb9⟩
   clear hown9 hgr9 hnil9 hat9 hb9 ho9
   go_roundw
   case rel => exact ⟨k + 1, by omega, by go_num, HN⟩
   case measure => simp [intOf]; omega
  ·obtain rfl : k = ss.length := by omega
   have hfin : RdS wr u4 ss := by
    have h1 := HI.out.1
    rw [← HEL.out, List.take_of_length_le (Nat.le_refl _)] at h1
    have h2 := own_rds h1 (fun e he => by
     obtain ⟨j, hj, hje⟩ := List.getElem_of_mem he
     obtain ⟨g, o, K, q, _, hC, hek⟩ := HES.out.2 j (by rw [← HEL.out]; exact hj)
     rw [List.getElem?_eq_getElem hj, hje] at hek
     injection hek with hek
     rw [hek]
     exact ⟨hC.ks.below HI.out.2, hC.kc⟩)
    rw [HES.out.1] at h2
    exact h2
   have HFI := Lib.hid hfin
   clear hfin
   go_wp2_with fail
   ((with_reducible refine (refBuild_all u4 ss _ HFI.out HFC.out.1 HFC.out.2).mono ?_); rintro e w2 ⟨hb2, he⟩)
   have hb12 := HI.out.2.trans (hb2.mono hbs)
   have blk2 := HB2.out.below hb12 (by omega)
   have BLK2 := Lib.hid blk2
   have HBW := Lib.hid (HBA.out.trans (hb12.mono (by omega)))
   have hs2 := blk2.lt
   clear hb12 hb2
   cases hbt : buildT ss with
   | inl x =>
    rw [hbt] at he
    obtain rfl := he
    have hx0 := buildT_ne hbt
    have hx1 : (x.1 == 0) = false := by simpa using hx0
    have HBT := Lib.hid hbt
    clear hbt hx0
    have z0 : w2.cell? ⟨w.heap.size, 0, none⟩ = some (.int .i64 0) := blk2.cell 0
    have z1 : w2.cell? ⟨w.heap.size, 1, none⟩ = some (.bool false) := blk2.cell 1
    have z2 : w2.cell? ⟨w.heap.size, 2, none⟩ = some (.int .u64 0) := blk2.cell 2
    have z3 : w2.cell? ⟨w.heap.size, 3, none⟩ = some (.string ⟨#[]⟩) := blk2.cell 3
    have z4 : w2.cell? ⟨w.heap.size, 4, none⟩ = some (.slice none 0 0) := blk2.cell 4
    have z5 : w2.cell? ⟨w.heap.size, 5, none⟩ = some (.slice none 0 0) := blk2.cell 5
    have q0 := blk2.frozen 0
    have q1 := blk2.frozen 1
    have q2 := blk2.frozen 2
    have q3 := blk2.frozen 3
    have q4 := blk2.frozen 4
    have q5 := blk2.frozen 5
    clear blk2
    go_wp2
    have hf := (six_blk BLK2.out (.int .i64 0) (.bool false) (.int .u64 0) (.string ⟨#[]⟩) (.slice none 0 0) (.slice none 0 0)).alloc (.cells #[.int .i64 0, .bool false, .int .u64 0, .string ⟨#[]⟩, .slice none 0 0, .slice none 0 0] 79)
    have hbel := (six_below HBW.out (Nat.le_refl w.heap.size) (.int .i64 0) (.bool false) (.int .u64 0) (.string ⟨#[]⟩) (.slice none 0 0) (.slice none 0 0)).alloc (by have := HBW.out.size; simp [six]; omega) (.cells #[.int .i64 0, .bool false, .int .u64 0, .string ⟨#[]⟩, .slice none 0 0, .slice none 0 0] 79)
    unfold six at hf hbel
    generalize ((((((w2.setCell ⟨w.heap.size, 0, none⟩ (.int .i64 0)).setCell ⟨w.heap.size, 1, none⟩ (.bool false)).setCell ⟨w.heap.size, 2, none⟩ (.int .u64 0)).setCell ⟨w.heap.size, 3, none⟩ (.string ⟨#[]⟩)).setCell ⟨w.heap.size, 4, none⟩ (.slice none 0 0)).setCell ⟨w.heap.size, 5, none⟩ (.slice none 0 0)).alloc (.cells #[.int .i64 0, .bool false, .int .u64 0, .string ⟨#[]⟩, .slice none 0 0, .slice none 0 0] 79) = wf at *
    have dd0 : wf.cell? ⟨w.heap.size, 0, none⟩ = some (.int .i64 0) := hf.cell 0
    have dd1 : wf.cell? ⟨w.heap.size, 1, none⟩ = some (.bool false) := hf.cell 1
    have dd2 : wf.cell? ⟨w.heap.size, 2, none⟩ = some (.int .u64 0) := hf.cell 2
    have dd3 : wf.cell? ⟨w.heap.size, 3, none⟩ = some (.string ⟨#[]⟩) := hf.cell 3
    have dd4 : wf.cell? ⟨w.heap.size, 4, none⟩ = some (.slice none 0 0) := hf.cell 4
    have dd5 : wf.cell? ⟨w.heap.size, 5, none⟩ = some (.slice none 0 0) := hf.cell 5
    refine bodyPost_ret (v := .tuple #[noVal, .bool false]) ?_ rfl (valueS_no HBT.out hbel)
    simp [results, Tryz.results44, go_sem, dd0, dd1, dd2, dd3, dd4, dd5]
   | inr t =>
    rw [hbt] at he
    obtain ⟨A2, c2, K2, d2, rfl, hrd⟩ := he
    have HRD := Lib.hid hrd
    have HBT := Lib.hid hbt
    clear hbt hrd
    have z0 : w2.cell? ⟨w.heap.size, 0, none⟩ = some (.int .i64 0) := blk2.cell 0
    have z1 : w2.cell? ⟨w.heap.size, 1, none⟩ = some (.bool false) := blk2.cell 1
    have z2 : w2.cell? ⟨w.heap.size, 2, none⟩ = some (.int .u64 0) := blk2.cell 2
    have z3 : w2.cell? ⟨w.heap.size, 3, none⟩ = some (.string ⟨#[]⟩) := blk2.cell 3
    have z4 : w2.cell? ⟨w.heap.size, 4, none⟩ = some (.slice none 0 0) := blk2.cell 4
    have z5 : w2.cell? ⟨w.heap.size, 5, none⟩ = some (.slice none 0 0) := blk2.cell 5
    have q0 := blk2.frozen 0
    have q1 := blk2.frozen 1
    have q2 := blk2.frozen 2
    have q3 := blk2.frozen 3
    have q4 := blk2.frozen 4
    have q5 := blk2.frozen 5
    clear blk2
    go_wp2
    have hf := (six_blk BLK2.out (.int .i64 (t.srt : Nat)) (.bool t.fl) (.int .u64 (t.bi : Nat)) (.string ⟨t.tx.toArray⟩) (.slice A2 t.kids.length c2) (.slice K2 t.kn.length d2)).alloc (.cells #[.int .i64 (t.srt : Nat), .bool t.fl, .int .u64 (t.bi : Nat), .string ⟨t.tx.toArray⟩, .slice A2 t.kids.length c2, .slice K2 t.kn.length d2] 79)
    have hbel := (six_below HBW.out (Nat.le_refl w.heap.size) (.int .i64 (t.srt : Nat)) (.bool t.fl) (.int .u64 (t.bi : Nat)) (.string ⟨t.tx.toArray⟩) (.slice A2 t.kids.length c2) (.slice K2 t.kn.length d2)).alloc (by have := HBW.out.size; simp [six]; omega) (.cells #[.int .i64 (t.srt : Nat), .bool t.fl, .int .u64 (t.bi : Nat), .string ⟨t.tx.toArray⟩, .slice A2 t.kids.length c2, .slice K2 t.kn.length d2] 79)
    have hg6 := grown_alloc (six_grown w2 w.heap.size (.int .i64 (t.srt : Nat)) (.bool t.fl) (.int .u64 (t.bi : Nat)) (.string ⟨t.tx.toArray⟩) (.slice A2 t.kids.length c2) (.slice K2 t.kn.length d2)) (.cells #[.int .i64 (t.srt : Nat), .bool t.fl, .int .u64 (t.bi : Nat), .string ⟨t.tx.toArray⟩, .slice A2 t.kids.length c2, .slice K2 t.kn.length d2] 79)
    unfold six at hf hbel hg6
    generalize ((((((w2.setCell ⟨w.heap.size, 0, none⟩ (.int .i64 (t.srt : Nat))).setCell ⟨w.heap.size, 1, none⟩ (.bool t.fl)).setCell ⟨w.heap.size, 2, none⟩ (.int .u64 (t.bi : Nat))).setCell ⟨w.heap.size, 3, none⟩ (.string ⟨t.tx.toArray⟩)).setCell ⟨w.heap.size, 4, none⟩ (.slice A2 t.kids.length c2)).setCell ⟨w.heap.size, 5, none⟩ (.slice K2 t.kn.length d2)).alloc (.cells #[.int .i64 (t.srt : Nat), .bool t.fl, .int .u64 (t.bi : Nat), .string ⟨t.tx.toArray⟩, .slice A2 t.kids.length c2, .slice K2 t.kn.length d2] 79) = wf at *
    have dd0 : wf.cell? ⟨w.heap.size, 0, none⟩ = some (.int .i64 (t.srt : Nat)) := hf.cell 0
    have dd1 : wf.cell? ⟨w.heap.size, 1, none⟩ = some (.bool t.fl) := hf.cell 1
    have dd2 : wf.cell? ⟨w.heap.size, 2, none⟩ = some (.int .u64 (t.bi : Nat)) := hf.cell 2
    have dd3 : wf.cell? ⟨w.heap.size, 3, none⟩ = some (.string ⟨t.tx.toArray⟩) := hf.cell 3
    have dd4 : wf.cell? ⟨w.heap.size, 4, none⟩ = some (.slice A2 t.kids.length c2) := hf.cell 4
    have dd5 : wf.cell? ⟨w.heap.size, 5, none⟩ = some (.slice K2 t.kn.length d2) := hf.cell 5
    refine bodyPost_ret (v := .tuple #[valV t A2 c2 K2 d2, .bool true]) ?_ rfl (valueS_yes HBT.out (A := A2) (c := c2) (K := K2) (d := d2) (RdV.move (fun k hk hs => ⟨by have h9 : wr.heap.size ≤ k := hs; have h8 := HBA.out.size; show w.heap.size ≤ k; omega, hg6.block k hk (by have h9 : wr.heap.size ≤ k := hs; intro e; injection e with e; omega)⟩) _ _ HRD.out) hbel)
    simp [results, Tryz.results44, go_sem, dd0, dd1, dd2, dd3, dd4, dd5]
end Nd
end Go.Proofs.YtbajkglacfheiaaGreatDoor
