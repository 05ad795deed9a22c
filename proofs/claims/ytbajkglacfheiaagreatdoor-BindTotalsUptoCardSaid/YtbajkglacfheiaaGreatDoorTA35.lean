/-
  The reference's Of at the kind of floats.
  The law's value of layer 16: what steps make, by the reference (printed out of PkJ).
-/
import Derived.Test.YtbajkglacfheiaaGreatDoorTA34
import Derived.Test.YtbajkglacfheiaaGreatDoorTA27
set_option linter.unusedVariables false
set_option linter.unusedSimpArgs false
set_option maxRecDepth 100000
set_option maxHeartbeats 16000000
namespace Go.Proofs.YtbajkglacfheiaaGreatDoor
open Go.RowKit Mem Utf Ref3 Idx Tok TokC Ieee
namespace Nd
theorem rof_19 (u : Tr) (A : Option Addr) (c : Nat) (K : Option Addr) (d : Nat) (p : Tx) (hp : p.length ≤ 4194304) (w : World) (h : RdVA w u ((A, c), (K, d))) (hf : u.fit = true) : Calls Tryz.prog 20 #[valV u A c K d, .string ⟨p.toArray⟩, .int .i64 19] w (RFloP p u w) := by
 obtain ⟨w0, hw0⟩ : ∃ w0, (((w.alloc (.cells #[.int .i64 (u.srt : Nat), .bool u.fl, .int .u64 (u.bi : Nat), .string ⟨u.tx.toArray⟩, .slice A u.kids.length c, .slice K u.kn.length d] 79)).alloc (.cells #[.int .i64 0, .bool false, .int .i64 0, .int .u64 0, .int .u64 0, .int .u32 0, .int .u64 0, .int .u32 0, .string ⟨#[]⟩, .slice none 0 0, .slice none 0 0, .slice none 0 0, .slice none 0 0] 92)).alloc (.cells #[.int .i64 0, .int .i64 0, .bool false, .string ⟨#[]⟩] 81)) = w0 := ⟨_, rfl⟩
 have hb0 : Below w.heap.size w w0 := by rw [← hw0]; exact (((Below.refl _ _).alloc (Nat.le_refl _) _).alloc (by simp) _).alloc (by simp; omega) _
 have hv0 : Blk w0 w.heap.size 79 #[.int .i64 (u.srt : Nat), .bool u.fl, .int .u64 (u.bi : Nat), .string ⟨u.tx.toArray⟩, .slice A u.kids.length c, .slice K u.kn.length d] := by rw [← hw0]; exact ((Blk.new w _ _).alloc _).alloc _
 have hz3 : Blk w0 (w.heap.size + 1) 92 #[.int .i64 0, .bool false, .int .i64 0, .int .u64 0, .int .u64 0, .int .u32 0, .int .u64 0, .int .u32 0, .string ⟨#[]⟩, .slice none 0 0, .slice none 0 0, .slice none 0 0, .slice none 0 0] := by
  have := (Blk.new (w.alloc (.cells #[.int .i64 (u.srt : Nat), .bool u.fl, .int .u64 (u.bi : Nat), .string ⟨u.tx.toArray⟩, .slice A u.kids.length c, .slice K u.kn.length d] 79)) 92 #[.int .i64 0, .bool false, .int .i64 0, .int .u64 0, .int .u64 0, .int .u32 0, .int .u64 0, .int .u32 0, .string ⟨#[]⟩, .slice none 0 0, .slice none 0 0, .slice none 0 0, .slice none 0 0]).alloc (.cells #[.int .i64 0, .int .i64 0, .bool false, .string ⟨#[]⟩] 81)
  rw [World.size_alloc, hw0] at this
  exact this
 have hf0 : Blk w0 (w.heap.size + 1 + 1) 81 #[.int .i64 0, .int .i64 0, .bool false, .string ⟨#[]⟩] := by
  have := Blk.new ((w.alloc (.cells #[.int .i64 (u.srt : Nat), .bool u.fl, .int .u64 (u.bi : Nat), .string ⟨u.tx.toArray⟩, .slice A u.kids.length c, .slice K u.kn.length d] 79)).alloc (.cells #[.int .i64 0, .bool false, .int .i64 0, .int .u64 0, .int .u64 0, .int .u32 0, .int .u64 0, .int .u32 0, .string ⟨#[]⟩, .slice none 0 0, .slice none 0 0, .slice none 0 0, .slice none 0 0] 92)) 81 #[.int .i64 0, .int .i64 0, .bool false, .string ⟨#[]⟩]
  rw [World.size_alloc, World.size_alloc, hw0] at this
  exact this
 have hs0 : w0.heap.size = w.heap.size + 1 + 1 + 1 := by rw [← hw0]; simp
 have HLS := Lib.hid (rlists_19 u A c K d p hp w0 (RdV.move (fun j hj hs => ⟨trivial, hb0.block j hj⟩) _ _ h) hf)
 unfold valV at HLS ⊢
 have HW0 := Lib.hid hw0
 have HV := Lib.hid hv0
 have HZ := Lib.hid hz3
 have HF := Lib.hid hf0
 have HBW := Lib.hid hb0
 have HS0 := Lib.hid hs0
 clear hw0 hb0 hv0 hf0 h hp hz3 hs0 hf
 go_enter Tryz.func20, Tryz.ntmps20
 go_upto_region 1 with fail
 rw [HW0.out]
 have v0 : w0.cell? ⟨w.heap.size, 0, none⟩ = some (.int .i64 (u.srt : Nat)) := HV.out.cell 0
 have v1 : w0.cell? ⟨w.heap.size, 1, none⟩ = some (.bool u.fl) := HV.out.cell 1
 have v2 : w0.cell? ⟨w.heap.size, 2, none⟩ = some (.int .u64 (u.bi : Nat)) := HV.out.cell 2
 have v3 : w0.cell? ⟨w.heap.size, 3, none⟩ = some (.string ⟨u.tx.toArray⟩) := HV.out.cell 3
 have v4 : w0.cell? ⟨w.heap.size, 4, none⟩ = some (.slice A u.kids.length c) := HV.out.cell 4
 have v5 : w0.cell? ⟨w.heap.size, 5, none⟩ = some (.slice K u.kn.length d) := HV.out.cell 5
 go_wp2_with fail
 ((with_reducible refine (HLS.out).mono ?_); rintro e w2 ⟨he, hb2⟩)
 clear HLS
 by_cases hs : u.srt = 5
 ·rw [if_pos hs] at he
  have HS := Lib.hid hs
  cases hbk : badK u.kids 0 with
  | some i =>
   rw [hbk] at he
   obtain rfl := he
   have HPF := Lib.hid (fun w' : World => @rfloP_bad p u w w' i HS.out hbk)
   obtain ⟨pk, hpk⟩ : ∃ pk, atP p i = pk := ⟨_, rfl⟩
   rw [hpk] at HPF ⊢
   clear hs hbk hpk
   have HBW := Lib.hid (HBW.out.trans (hb2.mono HBW.out.size))
   have HF := Lib.hid (HF.out.below hb2 HF.out.lt)
   have HZ := Lib.hid (HZ.out.below hb2 HZ.out.lt)
   clear hb2
   have y0 : w2.cell? ⟨w.heap.size + 1, 0, none⟩ = some (.int .i64 0) := HZ.out.cell 0
   have y1 : w2.cell? ⟨w.heap.size + 1, 1, none⟩ = some (.bool false) := HZ.out.cell 1
   have y2 : w2.cell? ⟨w.heap.size + 1, 2, none⟩ = some (.int .i64 0) := HZ.out.cell 2
   have y3 : w2.cell? ⟨w.heap.size + 1, 3, none⟩ = some (.int .u64 0) := HZ.out.cell 3
   have y4 : w2.cell? ⟨w.heap.size + 1, 4, none⟩ = some (.int .u64 0) := HZ.out.cell 4
   have y5 : w2.cell? ⟨w.heap.size + 1, 5, none⟩ = some (.int .u32 0) := HZ.out.cell 5
   have y6 : w2.cell? ⟨w.heap.size + 1, 6, none⟩ = some (.int .u64 0) := HZ.out.cell 6
   have y7 : w2.cell? ⟨w.heap.size + 1, 7, none⟩ = some (.int .u32 0) := HZ.out.cell 7
   have y8 : w2.cell? ⟨w.heap.size + 1, 8, none⟩ = some (.string ⟨#[]⟩) := HZ.out.cell 8
   have y9 : w2.cell? ⟨w.heap.size + 1, 9, none⟩ = some (.slice none 0 0) := HZ.out.cell 9
   have y10 : w2.cell? ⟨w.heap.size + 1, 10, none⟩ = some (.slice none 0 0) := HZ.out.cell 10
   have y11 : w2.cell? ⟨w.heap.size + 1, 11, none⟩ = some (.slice none 0 0) := HZ.out.cell 11
   have y12 : w2.cell? ⟨w.heap.size + 1, 12, none⟩ = some (.slice none 0 0) := HZ.out.cell 12
   have r0 := HZ.out.frozen 0
   have r1 := HZ.out.frozen 1
   have r2 := HZ.out.frozen 2
   have r3 := HZ.out.frozen 3
   have r4 := HZ.out.frozen 4
   have r5 := HZ.out.frozen 5
   have r6 := HZ.out.frozen 6
   have r7 := HZ.out.frozen 7
   have r8 := HZ.out.frozen 8
   have r9 := HZ.out.frozen 9
   have r10 := HZ.out.frozen 10
   have r11 := HZ.out.frozen 11
   have r12 := HZ.out.frozen 12
   have yf0 : w2.cell? ⟨w.heap.size + 1 + 1, 0, none⟩ = some (.int .i64 0) := HF.out.cell 0
   have yf1 : w2.cell? ⟨w.heap.size + 1 + 1, 1, none⟩ = some (.int .i64 0) := HF.out.cell 1
   have yf2 : w2.cell? ⟨w.heap.size + 1 + 1, 2, none⟩ = some (.bool false) := HF.out.cell 2
   have yf3 : w2.cell? ⟨w.heap.size + 1 + 1, 3, none⟩ = some (.string ⟨#[]⟩) := HF.out.cell 3
   have rf0 := HF.out.frozen 0
   have rf1 := HF.out.frozen 1
   have rf2 := HF.out.frozen 2
   have rf3 := HF.out.frozen 3
   have hkz := HZ.out.lt
   have hkf := HF.out.lt
   go_wp2
   have hfz := four_far (thir_blk HZ.out (.int .i64 0) (.bool false) (.int .i64 0) (.int .u64 0) (.int .u64 0) (.int .u32 0) (.int .u64 0) (.int .u32 0) (.string ⟨#[]⟩) (.slice none 0 0) (.slice none 0 0) (.slice none 0 0) (.slice none 0 0)) (show w.heap.size + 1 ≠ w.heap.size + 1 + 1 by omega) (.int .i64 5) (.int .i64 0) (.bool true) (.string ⟨pk.toArray⟩)
   have hff := four_blk (thir_far HF.out (show w.heap.size + 1 + 1 ≠ w.heap.size + 1 by omega) (.int .i64 0) (.bool false) (.int .i64 0) (.int .u64 0) (.int .u64 0) (.int .u32 0) (.int .u64 0) (.int .u32 0) (.string ⟨#[]⟩) (.slice none 0 0) (.slice none 0 0) (.slice none 0 0) (.slice none 0 0)) (.int .i64 5) (.int .i64 0) (.bool true) (.string ⟨pk.toArray⟩)
   have hbl := four_below (thir_below HBW.out (show w.heap.size ≤ w.heap.size + 1 by omega) (.int .i64 0) (.bool false) (.int .i64 0) (.int .u64 0) (.int .u64 0) (.int .u32 0) (.int .u64 0) (.int .u32 0) (.string ⟨#[]⟩) (.slice none 0 0) (.slice none 0 0) (.slice none 0 0) (.slice none 0 0)) (show w.heap.size ≤ w.heap.size + 1 + 1 by omega) (.int .i64 5) (.int .i64 0) (.bool true) (.string ⟨pk.toArray⟩)
   unfold four thir at hfz hff hbl
   generalize (((((((((((((((((w2.setCell ⟨w.heap.size + 1, 0, none⟩ (.int .i64 0)).setCell ⟨w.heap.size + 1, 1, none⟩ (.bool false)).setCell ⟨w.heap.size + 1, 2, none⟩ (.int .i64 0)).setCell ⟨w.heap.size + 1, 3, none⟩ (.int .u64 0)).setCell ⟨w.heap.size + 1, 4, none⟩ (.int .u64 0)).setCell ⟨w.heap.size + 1, 5, none⟩ (.int .u32 0)).setCell ⟨w.heap.size + 1, 6, none⟩ (.int .u64 0)).setCell ⟨w.heap.size + 1, 7, none⟩ (.int .u32 0)).setCell ⟨w.heap.size + 1, 8, none⟩ (.string ⟨#[]⟩)).setCell ⟨w.heap.size + 1, 9, none⟩ (.slice none 0 0)).setCell ⟨w.heap.size + 1, 10, none⟩ (.slice none 0 0)).setCell ⟨w.heap.size + 1, 11, none⟩ (.slice none 0 0)).setCell ⟨w.heap.size + 1, 12, none⟩ (.slice none 0 0)).setCell ⟨w.heap.size + 1 + 1, 0, none⟩ (.int .i64 5)).setCell ⟨w.heap.size + 1 + 1, 1, none⟩ (.int .i64 0)).setCell ⟨w.heap.size + 1 + 1, 2, none⟩ (.bool true)).setCell ⟨w.heap.size + 1 + 1, 3, none⟩ (.string ⟨pk.toArray⟩)) = wf at *
   have dd0 : wf.cell? ⟨w.heap.size + 1, 0, none⟩ = some (.int .i64 0) := hfz.cell 0
   have dd1 : wf.cell? ⟨w.heap.size + 1, 1, none⟩ = some (.bool false) := hfz.cell 1
   have dd2 : wf.cell? ⟨w.heap.size + 1, 2, none⟩ = some (.int .i64 0) := hfz.cell 2
   have dd3 : wf.cell? ⟨w.heap.size + 1, 3, none⟩ = some (.int .u64 0) := hfz.cell 3
   have dd4 : wf.cell? ⟨w.heap.size + 1, 4, none⟩ = some (.int .u64 0) := hfz.cell 4
   have dd5 : wf.cell? ⟨w.heap.size + 1, 5, none⟩ = some (.int .u32 0) := hfz.cell 5
   have dd6 : wf.cell? ⟨w.heap.size + 1, 6, none⟩ = some (.int .u64 0) := hfz.cell 6
   have dd7 : wf.cell? ⟨w.heap.size + 1, 7, none⟩ = some (.int .u32 0) := hfz.cell 7
   have dd8 : wf.cell? ⟨w.heap.size + 1, 8, none⟩ = some (.string ⟨#[]⟩) := hfz.cell 8
   have dd9 : wf.cell? ⟨w.heap.size + 1, 9, none⟩ = some (.slice none 0 0) := hfz.cell 9
   have dd10 : wf.cell? ⟨w.heap.size + 1, 10, none⟩ = some (.slice none 0 0) := hfz.cell 10
   have dd11 : wf.cell? ⟨w.heap.size + 1, 11, none⟩ = some (.slice none 0 0) := hfz.cell 11
   have dd12 : wf.cell? ⟨w.heap.size + 1, 12, none⟩ = some (.slice none 0 0) := hfz.cell 12
   have ee0 : wf.cell? ⟨w.heap.size + 1 + 1, 0, none⟩ = some (.int .i64 5) := hff.cell 0
   have ee1 : wf.cell? ⟨w.heap.size + 1 + 1, 1, none⟩ = some (.int .i64 0) := hff.cell 1
   have ee2 : wf.cell? ⟨w.heap.size + 1 + 1, 2, none⟩ = some (.bool true) := hff.cell 2
   have ee3 : wf.cell? ⟨w.heap.size + 1 + 1, 3, none⟩ = some (.string ⟨pk.toArray⟩) := hff.cell 3
   refine bodyPost_ret (v := .tuple #[.agg #[.int .i64 0, .bool false, .int .i64 0, .int .u64 0, .int .u64 0, .int .u32 0, .int .u64 0, .int .u32 0, .string ⟨#[]⟩, .slice none 0 0, .slice none 0 0, .slice none 0 0, .slice none 0 0], .agg #[.int .i64 5, .int .i64 0, .bool true, .string ⟨pk.toArray⟩]]) ?_ rfl (HPF.out _ hbl)
   simp [results, Tryz.results20, go_sem, dd0, dd1, dd2, dd3, dd4, dd5, dd6, dd7, dd8, dd9, dd10, dd11, dd12, ee0, ee1, ee2, ee3]
  | none =>
   rw [hbk] at he
   obtain ⟨vf, rfl, hown⟩ := he
   obtain ⟨Av, cv, rfl⟩ := own_slice hown
   have hown2 := hown.mono (show w.heap.size + 1 + 1 + 1 ≤ w0.heap.size by rw [HS0.out]; exact Nat.le_refl _)
   have HOW := Lib.hid hown2
   have HPF := Lib.hid (fun w' : World => @rfloP_ok p u w w' (.slice Av u.kids.length cv) HS.out hbk)
   clear hs hbk hown hown2
   have HBW := Lib.hid (HBW.out.trans (hb2.mono HBW.out.size))
   have HF := Lib.hid (HF.out.below hb2 HF.out.lt)
   have HZ := Lib.hid (HZ.out.below hb2 HZ.out.lt)
   clear hb2
   have y0 : w2.cell? ⟨w.heap.size + 1, 0, none⟩ = some (.int .i64 0) := HZ.out.cell 0
   have y1 : w2.cell? ⟨w.heap.size + 1, 1, none⟩ = some (.bool false) := HZ.out.cell 1
   have y2 : w2.cell? ⟨w.heap.size + 1, 2, none⟩ = some (.int .i64 0) := HZ.out.cell 2
   have y3 : w2.cell? ⟨w.heap.size + 1, 3, none⟩ = some (.int .u64 0) := HZ.out.cell 3
   have y4 : w2.cell? ⟨w.heap.size + 1, 4, none⟩ = some (.int .u64 0) := HZ.out.cell 4
   have y5 : w2.cell? ⟨w.heap.size + 1, 5, none⟩ = some (.int .u32 0) := HZ.out.cell 5
   have y6 : w2.cell? ⟨w.heap.size + 1, 6, none⟩ = some (.int .u64 0) := HZ.out.cell 6
   have y7 : w2.cell? ⟨w.heap.size + 1, 7, none⟩ = some (.int .u32 0) := HZ.out.cell 7
   have y8 : w2.cell? ⟨w.heap.size + 1, 8, none⟩ = some (.string ⟨#[]⟩) := HZ.out.cell 8
   have y9 : w2.cell? ⟨w.heap.size + 1, 9, none⟩ = some (.slice none 0 0) := HZ.out.cell 9
   have y10 : w2.cell? ⟨w.heap.size + 1, 10, none⟩ = some (.slice none 0 0) := HZ.out.cell 10
   have y11 : w2.cell? ⟨w.heap.size + 1, 11, none⟩ = some (.slice none 0 0) := HZ.out.cell 11
   have y12 : w2.cell? ⟨w.heap.size + 1, 12, none⟩ = some (.slice none 0 0) := HZ.out.cell 12
   have r0 := HZ.out.frozen 0
   have r1 := HZ.out.frozen 1
   have r2 := HZ.out.frozen 2
   have r3 := HZ.out.frozen 3
   have r4 := HZ.out.frozen 4
   have r5 := HZ.out.frozen 5
   have r6 := HZ.out.frozen 6
   have r7 := HZ.out.frozen 7
   have r8 := HZ.out.frozen 8
   have r9 := HZ.out.frozen 9
   have r10 := HZ.out.frozen 10
   have r11 := HZ.out.frozen 11
   have r12 := HZ.out.frozen 12
   have yf0 : w2.cell? ⟨w.heap.size + 1 + 1, 0, none⟩ = some (.int .i64 0) := HF.out.cell 0
   have yf1 : w2.cell? ⟨w.heap.size + 1 + 1, 1, none⟩ = some (.int .i64 0) := HF.out.cell 1
   have yf2 : w2.cell? ⟨w.heap.size + 1 + 1, 2, none⟩ = some (.bool false) := HF.out.cell 2
   have yf3 : w2.cell? ⟨w.heap.size + 1 + 1, 3, none⟩ = some (.string ⟨#[]⟩) := HF.out.cell 3
   have rf0 := HF.out.frozen 0
   have rf1 := HF.out.frozen 1
   have rf2 := HF.out.frozen 2
   have rf3 := HF.out.frozen 3
   have hkz := HZ.out.lt
   have hkf := HF.out.lt
   go_wp2
   have hfz := four_far (thir_blk HZ.out (.int .i64 19) (.bool false) (.int .i64 0) (.int .u64 0) (.int .u64 0) (.int .u32 0) (.int .u64 0) (.int .u32 0) (.string ⟨#[]⟩) (.slice none 0 0) (.slice none 0 0) (.slice none 0 0) (.slice Av u.kids.length cv)) (show w.heap.size + 1 ≠ w.heap.size + 1 + 1 by omega) (.int .i64 0) (.int .i64 0) (.bool false) (.string ⟨#[]⟩)
   have hff := four_blk (thir_far HF.out (show w.heap.size + 1 + 1 ≠ w.heap.size + 1 by omega) (.int .i64 19) (.bool false) (.int .i64 0) (.int .u64 0) (.int .u64 0) (.int .u32 0) (.int .u64 0) (.int .u32 0) (.string ⟨#[]⟩) (.slice none 0 0) (.slice none 0 0) (.slice none 0 0) (.slice Av u.kids.length cv)) (.int .i64 0) (.int .i64 0) (.bool false) (.string ⟨#[]⟩)
   have hbl := four_below (thir_below HBW.out (show w.heap.size ≤ w.heap.size + 1 by omega) (.int .i64 19) (.bool false) (.int .i64 0) (.int .u64 0) (.int .u64 0) (.int .u32 0) (.int .u64 0) (.int .u32 0) (.string ⟨#[]⟩) (.slice none 0 0) (.slice none 0 0) (.slice none 0 0) (.slice Av u.kids.length cv)) (show w.heap.size ≤ w.heap.size + 1 + 1 by omega) (.int .i64 0) (.int .i64 0) (.bool false) (.string ⟨#[]⟩)
   have hwn := (own_four (own_thir HOW.out (show w.heap.size + 1 < w.heap.size + 1 + 1 + 1 by omega) (.int .i64 19) (.bool false) (.int .i64 0) (.int .u64 0) (.int .u64 0) (.int .u32 0) (.int .u64 0) (.int .u32 0) (.string ⟨#[]⟩) (.slice none 0 0) (.slice none 0 0) (.slice none 0 0) (.slice Av u.kids.length cv)) (show w.heap.size + 1 + 1 < w.heap.size + 1 + 1 + 1 by omega) (.int .i64 0) (.int .i64 0) (.bool false) (.string ⟨#[]⟩)).mono (show w.heap.size ≤ w.heap.size + 1 + 1 + 1 by omega)
   unfold four thir at hfz hff hbl hwn
   generalize (((((((((((((((((w2.setCell ⟨w.heap.size + 1, 0, none⟩ (.int .i64 19)).setCell ⟨w.heap.size + 1, 1, none⟩ (.bool false)).setCell ⟨w.heap.size + 1, 2, none⟩ (.int .i64 0)).setCell ⟨w.heap.size + 1, 3, none⟩ (.int .u64 0)).setCell ⟨w.heap.size + 1, 4, none⟩ (.int .u64 0)).setCell ⟨w.heap.size + 1, 5, none⟩ (.int .u32 0)).setCell ⟨w.heap.size + 1, 6, none⟩ (.int .u64 0)).setCell ⟨w.heap.size + 1, 7, none⟩ (.int .u32 0)).setCell ⟨w.heap.size + 1, 8, none⟩ (.string ⟨#[]⟩)).setCell ⟨w.heap.size + 1, 9, none⟩ (.slice none 0 0)).setCell ⟨w.heap.size + 1, 10, none⟩ (.slice none 0 0)).setCell ⟨w.heap.size + 1, 11, none⟩ (.slice none 0 0)).setCell ⟨w.heap.size + 1, 12, none⟩ (.slice Av u.kids.length cv)).setCell ⟨w.heap.size + 1 + 1, 0, none⟩ (.int .i64 0)).setCell ⟨w.heap.size + 1 + 1, 1, none⟩ (.int .i64 0)).setCell ⟨w.heap.size + 1 + 1, 2, none⟩ (.bool false)).setCell ⟨w.heap.size + 1 + 1, 3, none⟩ (.string ⟨#[]⟩)) = wf at *
   have dd0 : wf.cell? ⟨w.heap.size + 1, 0, none⟩ = some (.int .i64 19) := hfz.cell 0
   have dd1 : wf.cell? ⟨w.heap.size + 1, 1, none⟩ = some (.bool false) := hfz.cell 1
   have dd2 : wf.cell? ⟨w.heap.size + 1, 2, none⟩ = some (.int .i64 0) := hfz.cell 2
   have dd3 : wf.cell? ⟨w.heap.size + 1, 3, none⟩ = some (.int .u64 0) := hfz.cell 3
   have dd4 : wf.cell? ⟨w.heap.size + 1, 4, none⟩ = some (.int .u64 0) := hfz.cell 4
   have dd5 : wf.cell? ⟨w.heap.size + 1, 5, none⟩ = some (.int .u32 0) := hfz.cell 5
   have dd6 : wf.cell? ⟨w.heap.size + 1, 6, none⟩ = some (.int .u64 0) := hfz.cell 6
   have dd7 : wf.cell? ⟨w.heap.size + 1, 7, none⟩ = some (.int .u32 0) := hfz.cell 7
   have dd8 : wf.cell? ⟨w.heap.size + 1, 8, none⟩ = some (.string ⟨#[]⟩) := hfz.cell 8
   have dd9 : wf.cell? ⟨w.heap.size + 1, 9, none⟩ = some (.slice none 0 0) := hfz.cell 9
   have dd10 : wf.cell? ⟨w.heap.size + 1, 10, none⟩ = some (.slice none 0 0) := hfz.cell 10
   have dd11 : wf.cell? ⟨w.heap.size + 1, 11, none⟩ = some (.slice none 0 0) := hfz.cell 11
   have dd12 : wf.cell? ⟨w.heap.size + 1, 12, none⟩ = some (.slice Av u.kids.length cv) := hfz.cell 12
   have ee0 : wf.cell? ⟨w.heap.size + 1 + 1, 0, none⟩ = some (.int .i64 0) := hff.cell 0
   have ee1 : wf.cell? ⟨w.heap.size + 1 + 1, 1, none⟩ = some (.int .i64 0) := hff.cell 1
   have ee2 : wf.cell? ⟨w.heap.size + 1 + 1, 2, none⟩ = some (.bool false) := hff.cell 2
   have ee3 : wf.cell? ⟨w.heap.size + 1 + 1, 3, none⟩ = some (.string ⟨#[]⟩) := hff.cell 3
   refine bodyPost_ret (v := .tuple #[.agg #[.int .i64 19, .bool false, .int .i64 0, .int .u64 0, .int .u64 0, .int .u32 0, .int .u64 0, .int .u32 0, .string ⟨#[]⟩, .slice none 0 0, .slice none 0 0, .slice none 0 0, .slice Av u.kids.length cv], .agg #[.int .i64 0, .int .i64 0, .bool false, .string ⟨#[]⟩]]) ?_ rfl (HPF.out _ hwn hbl)
   simp [results, Tryz.results20, go_sem, dd0, dd1, dd2, dd3, dd4, dd5, dd6, dd7, dd8, dd9, dd10, dd11, dd12, ee0, ee1, ee2, ee3]
 ·rw [if_neg hs] at he
  obtain rfl := he
  have HPF := Lib.hid (fun w' : World => @rfloP_sort p u w w' hs)
  clear hs
  have HBW := Lib.hid (HBW.out.trans (hb2.mono HBW.out.size))
  have HF := Lib.hid (HF.out.below hb2 HF.out.lt)
  have HZ := Lib.hid (HZ.out.below hb2 HZ.out.lt)
  clear hb2
  have y0 : w2.cell? ⟨w.heap.size + 1, 0, none⟩ = some (.int .i64 0) := HZ.out.cell 0
  have y1 : w2.cell? ⟨w.heap.size + 1, 1, none⟩ = some (.bool false) := HZ.out.cell 1
  have y2 : w2.cell? ⟨w.heap.size + 1, 2, none⟩ = some (.int .i64 0) := HZ.out.cell 2
  have y3 : w2.cell? ⟨w.heap.size + 1, 3, none⟩ = some (.int .u64 0) := HZ.out.cell 3
  have y4 : w2.cell? ⟨w.heap.size + 1, 4, none⟩ = some (.int .u64 0) := HZ.out.cell 4
  have y5 : w2.cell? ⟨w.heap.size + 1, 5, none⟩ = some (.int .u32 0) := HZ.out.cell 5
  have y6 : w2.cell? ⟨w.heap.size + 1, 6, none⟩ = some (.int .u64 0) := HZ.out.cell 6
  have y7 : w2.cell? ⟨w.heap.size + 1, 7, none⟩ = some (.int .u32 0) := HZ.out.cell 7
  have y8 : w2.cell? ⟨w.heap.size + 1, 8, none⟩ = some (.string ⟨#[]⟩) := HZ.out.cell 8
  have y9 : w2.cell? ⟨w.heap.size + 1, 9, none⟩ = some (.slice none 0 0) := HZ.out.cell 9
  have y10 : w2.cell? ⟨w.heap.size + 1, 10, none⟩ = some (.slice none 0 0) := HZ.out.cell 10
  have y11 : w2.cell? ⟨w.heap.size + 1, 11, none⟩ = some (.slice none 0 0) := HZ.out.cell 11
  have y12 : w2.cell? ⟨w.heap.size + 1, 12, none⟩ = some (.slice none 0 0) := HZ.out.cell 12
  have r0 := HZ.out.frozen 0
  have r1 := HZ.out.frozen 1
  have r2 := HZ.out.frozen 2
  have r3 := HZ.out.frozen 3
  have r4 := HZ.out.frozen 4
  have r5 := HZ.out.frozen 5
  have r6 := HZ.out.frozen 6
  have r7 := HZ.out.frozen 7
  have r8 := HZ.out.frozen 8
  have r9 := HZ.out.frozen 9
  have r10 := HZ.out.frozen 10
  have r11 := HZ.out.frozen 11
  have r12 := HZ.out.frozen 12
  have yf0 : w2.cell? ⟨w.heap.size + 1 + 1, 0, none⟩ = some (.int .i64 0) := HF.out.cell 0
  have yf1 : w2.cell? ⟨w.heap.size + 1 + 1, 1, none⟩ = some (.int .i64 0) := HF.out.cell 1
  have yf2 : w2.cell? ⟨w.heap.size + 1 + 1, 2, none⟩ = some (.bool false) := HF.out.cell 2
  have yf3 : w2.cell? ⟨w.heap.size + 1 + 1, 3, none⟩ = some (.string ⟨#[]⟩) := HF.out.cell 3
  have rf0 := HF.out.frozen 0
  have rf1 := HF.out.frozen 1
  have rf2 := HF.out.frozen 2
  have rf3 := HF.out.frozen 3
  have hkz := HZ.out.lt
  have hkf := HF.out.lt
  go_wp2
  have hfz := four_far (thir_blk HZ.out (.int .i64 0) (.bool false) (.int .i64 0) (.int .u64 0) (.int .u64 0) (.int .u32 0) (.int .u64 0) (.int .u32 0) (.string ⟨#[]⟩) (.slice none 0 0) (.slice none 0 0) (.slice none 0 0) (.slice none 0 0)) (show w.heap.size + 1 ≠ w.heap.size + 1 + 1 by omega) (.int .i64 5) (.int .i64 0) (.bool true) (.string ⟨p.toArray⟩)
  have hff := four_blk (thir_far HF.out (show w.heap.size + 1 + 1 ≠ w.heap.size + 1 by omega) (.int .i64 0) (.bool false) (.int .i64 0) (.int .u64 0) (.int .u64 0) (.int .u32 0) (.int .u64 0) (.int .u32 0) (.string ⟨#[]⟩) (.slice none 0 0) (.slice none 0 0) (.slice none 0 0) (.slice none 0 0)) (.int .i64 5) (.int .i64 0) (.bool true) (.string ⟨p.toArray⟩)
  have hbl := four_below (thir_below HBW.out (show w.heap.size ≤ w.heap.size + 1 by omega) (.int .i64 0) (.bool false) (.int .i64 0) (.int .u64 0) (.int .u64 0) (.int .u32 0) (.int .u64 0) (.int .u32 0) (.string ⟨#[]⟩) (.slice none 0 0) (.slice none 0 0) (.slice none 0 0) (.slice none 0 0)) (show w.heap.size ≤ w.heap.size + 1 + 1 by omega) (.int .i64 5) (.int .i64 0) (.bool true) (.string ⟨p.toArray⟩)
  unfold four thir at hfz hff hbl
  generalize (((((((((((((((((w2.setCell ⟨w.heap.size + 1, 0, none⟩ (.int .i64 0)).setCell ⟨w.heap.size + 1, 1, none⟩ (.bool false)).setCell ⟨w.heap.size + 1, 2, none⟩ (.int .i64 0)).setCell ⟨w.heap.size + 1, 3, none⟩ (.int .u64 0)).setCell ⟨w.heap.size + 1, 4, none⟩ (.int .u64 0)).setCell ⟨w.heap.size + 1, 5, none⟩ (.int .u32 0)).setCell ⟨w.heap.size + 1, 6, none⟩ (.int .u64 0)).setCell ⟨w.heap.size + 1, 7, none⟩ (.int .u32 0)).setCell ⟨w.heap.size + 1, 8, none⟩ (.string ⟨#[]⟩)).setCell ⟨w.heap.size + 1, 9, none⟩ (.slice none 0 0)).setCell ⟨w.heap.size + 1, 10, none⟩ (.slice none 0 0)).setCell ⟨w.heap.size + 1, 11, none⟩ (.slice none 0 0)).setCell ⟨w.heap.size + 1, 12, none⟩ (.slice none 0 0)).setCell ⟨w.heap.size + 1 + 1, 0, none⟩ (.int .i64 5)).setCell ⟨w.heap.size + 1 + 1, 1, none⟩ (.int .i64 0)).setCell ⟨w.heap.size + 1 + 1, 2, none⟩ (.bool true)).setCell ⟨w.heap.size + 1 + 1, 3, none⟩ (.string ⟨p.toArray⟩)) = wf at *
  have dd0 : wf.cell? ⟨w.heap.size + 1, 0, none⟩ = some (.int .i64 0) := hfz.cell 0
  have dd1 : wf.cell? ⟨w.heap.size + 1, 1, none⟩ = some (.bool false) := hfz.cell 1
  have dd2 : wf.cell? ⟨w.heap.size + 1, 2, none⟩ = some (.int .i64 0) := hfz.cell 2
  have dd3 : wf.cell? ⟨w.heap.size + 1, 3, none⟩ = some (.int .u64 0) := hfz.cell 3
  have dd4 : wf.cell? ⟨w.heap.size + 1, 4, none⟩ = some (.int .u64 0) := hfz.cell 4
  have dd5 : wf.cell? ⟨w.heap.size + 1, 5, none⟩ = some (.int .u32 0) := hfz.cell 5
  have dd6 : wf.cell? ⟨w.heap.size + 1, 6, none⟩ = some (.int .u64 0) := hfz.cell 6
  have dd7 : wf.cell? ⟨w.heap.size + 1, 7, none⟩ = some (.int .u32 0) := hfz.cell 7
  have dd8 : wf.cell? ⟨w.heap.size + 1, 8, none⟩ = some (.string ⟨#[]⟩) := hfz.cell 8
  have dd9 : wf.cell? ⟨w.heap.size + 1, 9, none⟩ = some (.slice none 0 0) := hfz.cell 9
  have dd10 : wf.cell? ⟨w.heap.size + 1, 10, none⟩ = some (.slice none 0 0) := hfz.cell 10
  have dd11 : wf.cell? ⟨w.heap.size + 1, 11, none⟩ = some (.slice none 0 0) := hfz.cell 11
  have dd12 : wf.cell? ⟨w.heap.size + 1, 12, none⟩ = some (.slice none 0 0) := hfz.cell 12
  have ee0 : wf.cell? ⟨w.heap.size + 1 + 1, 0, none⟩ = some (.int .i64 5) := hff.cell 0
  have ee1 : wf.cell? ⟨w.heap.size + 1 + 1, 1, none⟩ = some (.int .i64 0) := hff.cell 1
  have ee2 : wf.cell? ⟨w.heap.size + 1 + 1, 2, none⟩ = some (.bool true) := hff.cell 2
  have ee3 : wf.cell? ⟨w.heap.size + 1 + 1, 3, none⟩ = some (.string ⟨p.toArray⟩) := hff.cell 3
  refine bodyPost_ret (v := .tuple #[.agg #[.int .i64 0, .bool false, .int .i64 0, .int .u64 0, .int .u64 0, .int .u32 0, .int .u64 0, .int .u32 0, .string ⟨#[]⟩, .slice none 0 0, .slice none 0 0, .slice none 0 0, .slice none 0 0], .agg #[.int .i64 5, .int .i64 0, .bool true, .string ⟨p.toArray⟩]]) ?_ rfl (HPF.out _ hbl)
  simp [results, Tryz.results20, go_sem, dd0, dd1, dd2, dd3, dd4, dd5, dd6, dd7, dd8, dd9, dd10, dd11, dd12, ee0, ee1, ee2, ee3]
end Nd
end Go.Proofs.YtbajkglacfheiaaGreatDoor
namespace Go.Proofs.YtbajkglacfheiaaGreatDoor
open Go.RowKit Mem
namespace Nd
def ValueS (ss : List Stp) (w : World) (e : Ending) (w' : World) : Prop :=
 Below w.heap.size w w' ∧ match buildT ss with
  | .inl _ => e = .returned (.tuple #[noVal, .bool false])
  | .inr t => ∃ A c K d, e = .returned (.tuple #[valV t A c K d, .bool true]) ∧ RdV (fun k => w.heap.size ≤ k) w' t ((A, c), (K, d))
theorem valueS_no {ss : List Stp} {w w' : World} {x : Int × Int} (h : buildT ss = .inl x) (hb : Below w.heap.size w w') : ValueS ss w (.returned (.tuple #[noVal, .bool false])) w' := by
 unfold ValueS
 rw [h]
 exact ⟨hb, rfl⟩
theorem valueS_yes {ss : List Stp} {w w' : World} {t : Tr} (h : buildT ss = .inr t) {A : Option Addr} {c : Nat} {K : Option Addr} {d : Nat} (hr : RdV (fun k => w.heap.size ≤ k) w' t ((A, c), (K, d))) (hb : Below w.heap.size w w') : ValueS ss w (.returned (.tuple #[valV t A c K d, .bool true])) w' := by
 unfold ValueS
 rw [h]
 exact ⟨hb, A, c, K, d, rfl, hr⟩
theorem value16_law (v : Value) (ss : List Stp) (w : World) (hS : RdS w v ss) (hF : ∀ s ∈ ss, s.Fine) (hC : ∀ s ∈ ss, s.Cnt) (hn : ss.length ≤ 1048576) : Calls Tryz.prog 44 #[v] w (ValueS ss w) := by
 have hba : Below w.heap.size w (w.alloc (.cells #[.int .i64 0, .bool false, .int .u64 0, .string ⟨#[]⟩, .slice none 0 0, .slice none 0 0] 79)) := (Below.refl _ _).alloc (Nat.le_refl _) _
 have hB2 := Blk.new w 79 #[.int .i64 0, .bool false, .int .u64 0, .string ⟨#[]⟩, .slice none 0 0, .slice none 0 0]
 have hsz : (w.alloc (.cells #[.int .i64 0, .bool false, .int .u64 0, .string ⟨#[]⟩, .slice none 0 0, .slice none 0 0] 79)).heap.size = w.heap.size + 1 := by simp
 have hS1 := hS.below hba
 have hS0 := hS1
 obtain ⟨A, c, rfl, _⟩ := hS0
 obtain ⟨es, hes, hec⟩ := rds_es hS1
 have hel : es.length = ss.length := by rw [← hes]; simp
 obtain ⟨i0, hi0, hz0, hz1, hz2⟩ := info_parts info_rstep
 have HES := Lib.hid (And.intro hes hec)
 have HEL := Lib.hid hel
 have HFC := Lib.hid (And.intro hF hC)
 have HB2 := Lib.hid hB2
 have HBA := Lib.hid hba
 have hnn : ss.length < 1048577 := by omega
 clear hS hS1 hes hec hel hn hF hC hba hB2
 go_enter Tryz.func44, Tryz.ntmps44
 go_wp2_with fail
 generalize (w.alloc (.cells #[.int .i64 0, .bool false, .int .u64 0, .string ⟨#[]⟩, .slice none 0 0, .slice none 0 0] 79)) = w1 at *
 go_loopw [4, 12] (fun c4 c12 wr => ∃ k : Nat, k ≤ ss.length ∧ c12 = .int .i64 k ∧ Hid (wr.ownsRow w1.heap.size 240 6 c4 k (cellsE (es.take k)) ∧ Below w1.heap.size w1 wr)) (fun _ c12 _ => ss.length - (intOf c12).toNat)
 case atStart => exact ⟨0, Nat.zero_le _, rfl, Lib.hid ⟨World.ownsRow_nil _ _ _ _, Below.refl _ _⟩⟩
 case round =>
  obtain ⟨k, hk, rfl, HI⟩ := hrel
  have hbs := HI.out.2.size
  by_cases hlt : k < ss.length
  ·obtain ⟨g, o, K, q, rfl, hC, hek⟩ := HES.out.2 k hlt
   have hsn := cellsE_snoc es k _ hek
   obtain ⟨c0, c1, c2, c3, c4, c5, ck⟩ := hC.below HI.out.2
   have HSN := Lib.hid hsn
   clear ck hC hek hsn
   generalize ss[k] = s at *
   obtain ⟨A3, q3, rfl⟩ := own_slice HI.out.1
   have hba : Below wr.heap.size wr (wr.alloc (.cells #[.int .i64 s.sort, .bool s.flag, .int .u64 (s.bits : Int), .string ⟨s.text.toArray⟩, .int .i64 s.count, .slice K s.keys.length q] 119)) := (Below.refl _ _).alloc (Nat.le_refl _) _
   have ho9 : ((wr.alloc (.cells #[.int .i64 s.sort, .bool s.flag, .int .u64 (s.bits : Int), .string ⟨s.text.toArray⟩, .int .i64 s.count, .slice K s.keys.length q] 119)).alloc (.cells #[.int .i64 s.sort, .bool s.flag, .int .u64 (s.bits : Int), .string ⟨s.text.toArray⟩, .int .i64 s.count, .slice K s.keys.length q] 240)).ownsRow w1.heap.size 240 6 (.slice A3 k q3) k (cellsE (es.take k)) := own_below (own_below HI.out.1 hba) ((Below.refl _ _).alloc (Nat.le_refl _) _)
   have hcn := cells_new (wr.alloc (.cells #[.int .i64 s.sort, .bool s.flag, .int .u64 (s.bits : Int), .string ⟨s.text.toArray⟩, .int .i64 s.count, .slice K s.keys.length q] 119)) (cell6 s K q) 240
   rw [World.size_alloc] at hcn
   have HBB := Lib.hid (HI.out.2.trans ((hba.alloc hba.size (.cells #[.int .i64 s.sort, .bool s.flag, .int .u64 (s.bits : Int), .string ⟨s.text.toArray⟩, .int .i64 s.count, .slice K s.keys.length q] 240)).mono hbs))
   go_wp2_with (at_builtin; refine wpList_append_own_at _ rfl _ _ 238 rfl w1.heap.size 240 i0 _ 6 72 Tryz.underlying238 hi0 hz0 hz1 hz2 rfl (by omega) (.slice A3 k q3) k (cellsE (es.take k)) rfl ho9 ⟨wr.heap.size + 1, 0, none⟩ 1 1 (cell6 s K q) rfl rfl hcn (cell6_one s K q) ?b1 ?b2 ?b3 ?_; (unfold maxLen; omega); omega; (simp; omega); intro v9 w9 hown9 hgr9 hnil9 hat9)
   have hb9 : Below w1.heap.size w1 w9 := HBB.out.grown hgr9 (by simp; omega) (fun j hj => (own_typed ho9 j hj).1)
   have HN : Hid (w9.ownsRow w1.heap.size 240 6 v9 (k + 1) (cellsE (es.take (k + 1))) ∧ Below w1.heap.size w1 w9) := Lib.hid ⟨by rw [HSN.out]; exact hown9, hb9⟩
   clear hown9 hgr9 hnil9 hat9 hb9 ho9
   go_roundw
   case rel => exact ⟨k + 1, by omega, by go_num, HN⟩
   case measure => simp [intOf]; omega
  ·obtain rfl : k = ss.length := by omega
   have hfin : RdS wr u4 ss := by
    have h1 := HI.out.1
    rw [← HEL.out, List.take_of_length_le (Nat.le_refl _)] at h1
    have h2 := own_rds h1 (fun e he => by
     obtain ⟨j, hj, hje⟩ := List.getElem_of_mem he
     obtain ⟨g, o, K, q, _, hC, hek⟩ := HES.out.2 j (by rw [← HEL.out]; exact hj)
     rw [List.getElem?_eq_getElem hj, hje] at hek
     injection hek with hek
     rw [hek]
     exact ⟨hC.ks.below HI.out.2, hC.kc⟩)
    rw [HES.out.1] at h2
    exact h2
   have HFI := Lib.hid hfin
   clear hfin
   go_wp2_with fail
   ((with_reducible refine (refBuild_all u4 ss _ HFI.out HFC.out.1 HFC.out.2).mono ?_); rintro e w2 ⟨hb2, he⟩)
   have hb12 := HI.out.2.trans (hb2.mono hbs)
   have blk2 := HB2.out.below hb12 (by omega)
   have BLK2 := Lib.hid blk2
   have HBW := Lib.hid (HBA.out.trans (hb12.mono (by omega)))
   have hs2 := blk2.lt
   clear hb12 hb2
   cases hbt : buildT ss with
   | inl x =>
    rw [hbt] at he
    obtain rfl := he
    have hx0 := buildT_ne hbt
    have hx1 : (x.1 == 0) = false := by simpa using hx0
    have HBT := Lib.hid hbt
    clear hbt hx0
    have z0 : w2.cell? ⟨w.heap.size, 0, none⟩ = some (.int .i64 0) := blk2.cell 0
    have z1 : w2.cell? ⟨w.heap.size, 1, none⟩ = some (.bool false) := blk2.cell 1
    have z2 : w2.cell? ⟨w.heap.size, 2, none⟩ = some (.int .u64 0) := blk2.cell 2
    have z3 : w2.cell? ⟨w.heap.size, 3, none⟩ = some (.string ⟨#[]⟩) := blk2.cell 3
    have z4 : w2.cell? ⟨w.heap.size, 4, none⟩ = some (.slice none 0 0) := blk2.cell 4
    have z5 : w2.cell? ⟨w.heap.size, 5, none⟩ = some (.slice none 0 0) := blk2.cell 5
    have q0 := blk2.frozen 0
    have q1 := blk2.frozen 1
    have q2 := blk2.frozen 2
    have q3 := blk2.frozen 3
    have q4 := blk2.frozen 4
    have q5 := blk2.frozen 5
    clear blk2
    go_wp2
    have hf := (six_blk BLK2.out (.int .i64 0) (.bool false) (.int .u64 0) (.string ⟨#[]⟩) (.slice none 0 0) (.slice none 0 0)).alloc (.cells #[.int .i64 0, .bool false, .int .u64 0, .string ⟨#[]⟩, .slice none 0 0, .slice none 0 0] 79)
    have hbel := (six_below HBW.out (Nat.le_refl w.heap.size) (.int .i64 0) (.bool false) (.int .u64 0) (.string ⟨#[]⟩) (.slice none 0 0) (.slice none 0 0)).alloc (by have := HBW.out.size; simp [six]; omega) (.cells #[.int .i64 0, .bool false, .int .u64 0, .string ⟨#[]⟩, .slice none 0 0, .slice none 0 0] 79)
    unfold six at hf hbel
    generalize ((((((w2.setCell ⟨w.heap.size, 0, none⟩ (.int .i64 0)).setCell ⟨w.heap.size, 1, none⟩ (.bool false)).setCell ⟨w.heap.size, 2, none⟩ (.int .u64 0)).setCell ⟨w.heap.size, 3, none⟩ (.string ⟨#[]⟩)).setCell ⟨w.heap.size, 4, none⟩ (.slice none 0 0)).setCell ⟨w.heap.size, 5, none⟩ (.slice none 0 0)).alloc (.cells #[.int .i64 0, .bool false, .int .u64 0, .string ⟨#[]⟩, .slice none 0 0, .slice none 0 0] 79) = wf at *
    have dd0 : wf.cell? ⟨w.heap.size, 0, none⟩ = some (.int .i64 0) := hf.cell 0
    have dd1 : wf.cell? ⟨w.heap.size, 1, none⟩ = some (.bool false) := hf.cell 1
    have dd2 : wf.cell? ⟨w.heap.size, 2, none⟩ = some (.int .u64 0) := hf.cell 2
    have dd3 : wf.cell? ⟨w.heap.size, 3, none⟩ = some (.string ⟨#[]⟩) := hf.cell 3
    have dd4 : wf.cell? ⟨w.heap.size, 4, none⟩ = some (.slice none 0 0) := hf.cell 4
    have dd5 : wf.cell? ⟨w.heap.size, 5, none⟩ = some (.slice none 0 0) := hf.cell 5
    refine bodyPost_ret (v := .tuple #[noVal, .bool false]) ?_ rfl (valueS_no HBT.out hbel)
    simp [results, Tryz.results44, go_sem, dd0, dd1, dd2, dd3, dd4, dd5]
   | inr t =>
    rw [hbt] at he
    obtain ⟨A2, c2, K2, d2, rfl, hrd⟩ := he
    have HRD := Lib.hid hrd
    have HBT := Lib.hid hbt
    clear hbt hrd
    have z0 : w2.cell? ⟨w.heap.size, 0, none⟩ = some (.int .i64 0) := blk2.cell 0
    have z1 : w2.cell? ⟨w.heap.size, 1, none⟩ = some (.bool false) := blk2.cell 1
    have z2 : w2.cell? ⟨w.heap.size, 2, none⟩ = some (.int .u64 0) := blk2.cell 2
    have z3 : w2.cell? ⟨w.heap.size, 3, none⟩ = some (.string ⟨#[]⟩) := blk2.cell 3
    have z4 : w2.cell? ⟨w.heap.size, 4, none⟩ = some (.slice none 0 0) := blk2.cell 4
    have z5 : w2.cell? ⟨w.heap.size, 5, none⟩ = some (.slice none 0 0) := blk2.cell 5
    have q0 := blk2.frozen 0
    have q1 := blk2.frozen 1
    have q2 := blk2.frozen 2
    have q3 := blk2.frozen 3
    have q4 := blk2.frozen 4
    have q5 := blk2.frozen 5
    clear blk2
    go_wp2
    have hf := (six_blk BLK2.out (.int .i64 (t.srt : Nat)) (.bool t.fl) (.int .u64 (t.bi : Nat)) (.string ⟨t.tx.toArray⟩) (.slice A2 t.kids.length c2) (.slice K2 t.kn.length d2)).alloc (.cells #[.int .i64 (t.srt : Nat), .bool t.fl, .int .u64 (t.bi : Nat), .string ⟨t.tx.toArray⟩, .slice A2 t.kids.length c2, .slice K2 t.kn.length d2] 79)
    have hbel := (six_below HBW.out (Nat.le_refl w.heap.size) (.int .i64 (t.srt : Nat)) (.bool t.fl) (.int .u64 (t.bi : Nat)) (.string ⟨t.tx.toArray⟩) (.slice A2 t.kids.length c2) (.slice K2 t.kn.length d2)).alloc (by have := HBW.out.size; simp [six]; omega) (.cells #[.int .i64 (t.srt : Nat), .bool t.fl, .int .u64 (t.bi : Nat), .string ⟨t.tx.toArray⟩, .slice A2 t.kids.length c2, .slice K2 t.kn.length d2] 79)
    have hg6 := grown_alloc (six_grown w2 w.heap.size (.int .i64 (t.srt : Nat)) (.bool t.fl) (.int .u64 (t.bi : Nat)) (.string ⟨t.tx.toArray⟩) (.slice A2 t.kids.length c2) (.slice K2 t.kn.length d2)) (.cells #[.int .i64 (t.srt : Nat), .bool t.fl, .int .u64 (t.bi : Nat), .string ⟨t.tx.toArray⟩, .slice A2 t.kids.length c2, .slice K2 t.kn.length d2] 79)
    unfold six at hf hbel hg6
    generalize ((((((w2.setCell ⟨w.heap.size, 0, none⟩ (.int .i64 (t.srt : Nat))).setCell ⟨w.heap.size, 1, none⟩ (.bool t.fl)).setCell ⟨w.heap.size, 2, none⟩ (.int .u64 (t.bi : Nat))).setCell ⟨w.heap.size, 3, none⟩ (.string ⟨t.tx.toArray⟩)).setCell ⟨w.heap.size, 4, none⟩ (.slice A2 t.kids.length c2)).setCell ⟨w.heap.size, 5, none⟩ (.slice K2 t.kn.length d2)).alloc (.cells #[.int .i64 (t.srt : Nat), .bool t.fl, .int .u64 (t.bi : Nat), .string ⟨t.tx.toArray⟩, .slice A2 t.kids.length c2, .slice K2 t.kn.length d2] 79) = wf at *
    have dd0 : wf.cell? ⟨w.heap.size, 0, none⟩ = some (.int .i64 (t.srt : Nat)) := hf.cell 0
    have dd1 : wf.cell? ⟨w.heap.size, 1, none⟩ = some (.bool t.fl) := hf.cell 1
    have dd2 : wf.cell? ⟨w.heap.size, 2, none⟩ = some (.int .u64 (t.bi : Nat)) := hf.cell 2
    have dd3 : wf.cell? ⟨w.heap.size, 3, none⟩ = some (.string ⟨t.tx.toArray⟩) := hf.cell 3
    have dd4 : wf.cell? ⟨w.heap.size, 4, none⟩ = some (.slice A2 t.kids.length c2) := hf.cell 4
    have dd5 : wf.cell? ⟨w.heap.size, 5, none⟩ = some (.slice K2 t.kn.length d2) := hf.cell 5
    refine bodyPost_ret (v := .tuple #[valV t A2 c2 K2 d2, .bool true]) ?_ rfl (valueS_yes HBT.out (A := A2) (c := c2) (K := K2) (d := d2) (RdV.move (fun k hk hs => ⟨by have h9 : wr.heap.size ≤ k := hs; have h8 := HBA.out.size; show w.heap.size ≤ k; omega, hg6.block k hk (by have h9 : wr.heap.size ≤ k := hs; intro e; injection e with e; omega)⟩) _ _ HRD.out) hbel)
    simp [results, Tryz.results44, go_sem, dd0, dd1, dd2, dd3, dd4, dd5]
end Nd
end Go.Proofs.YtbajkglacfheiaaGreatDoor
