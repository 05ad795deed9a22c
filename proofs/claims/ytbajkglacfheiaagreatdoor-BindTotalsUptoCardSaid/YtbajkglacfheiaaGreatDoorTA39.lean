/-
  The law's product of layer 16: its walk.
-/
import Derived.Test.YtbajkglacfheiaaGreatDoorTA38
set_option linter.unusedVariables false
set_option linter.unusedSimpArgs false
set_option maxRecDepth 100000
set_option maxHeartbeats 16000000
namespace Go.Proofs.YtbajkglacfheiaaGreatDoor
open Go.RowKit Mem Utf Ref3 Idx Tok TokC Ieee
namespace Nd
theorem pairF_num {u : Tr} {p q : Tx} {n : Int} (h : pairF u p = .inl (n, q)) : (n != 0) = true := by
 unfold pairF at h
 repeat' split at h
 all_goals first | (injection h with h; injection h with h1 h2; rw [← h1]; rfl) | cases h
theorem prodD_lt : ∀ (l : List (Nat × Nat)) (i a b j : Nat), prodD l i a b = .inl j → j < i + l.length
 | [], i, a, b, j, h => by
  rw [prodD] at h
  cases h
 | x :: r, i, a, b, j, h => by
  rw [prodD] at h
  rw [List.length_cons]
  split at h
  ·have := prodD_lt r _ _ _ _ h
   omega
  ·injection h with h
   omega
theorem rpair_one {f : FuncId} {args : Array Value} {u : Tr} {p : Tx} {w0 : World} (h : ∀ W, Below w0.heap.size w0 W → Calls Tryz.prog f args W (RPairP p u W)) : ∃ (a b : Nat) (n : Int) (tr : Bool) (s : Tx), ((pairF u p = .inr (a, b) ∧ n = 0 ∧ tr = false ∧ s = []) ∨ (pairF u p = .inl (n, s) ∧ a = 0 ∧ b = 0 ∧ tr = true)) ∧ ∀ W, Below w0.heap.size w0 W → Calls Tryz.prog f args W fun e w' => e = .returned (.tuple #[.int .u64 (a : Int), .int .u64 (b : Int), .agg #[.int .i64 n, .int .i64 0, .bool tr, .string ⟨s.toArray⟩]]) ∧ Below W.heap.size W w' := by
 unfold RPairP at h
 cases hp : pairF u p with
 | inl x =>
  obtain ⟨n, s⟩ := x
  rw [hp] at h
  exact ⟨0, 0, n, true, s, .inr ⟨rfl, rfl, rfl, rfl⟩, h⟩
 | inr x =>
  obtain ⟨a, b⟩ := x
  rw [hp] at h
  exact ⟨a, b, 0, false, [], .inl ⟨rfl, rfl, rfl, rfl⟩, h⟩
theorem lprod_all (u : Tr) (hok : u.Ok) (A : Option Addr) (c : Nat) (K : Option Addr) (d : Nat) (p : Tx) (hp : p.length ≤ 4194304) (w : World) (h : RdVA w u ((A, c), (K, d))) (hf : u.fit = true) (z1 z2 : Nat) (ev : Value) (hx : match prdD u p with
  | .inl e => z1 = 0 ∧ z2 = 0 ∧ ev = e
  | .inr x => z1 = normB x.1 ∧ z2 = normB x.2 ∧ ev = .nilIface) : Calls Tryz.prog 31 #[valV u A c K d, .string ⟨p.toArray⟩, .complex .f64 z1 z2, ev] w (TrueN w) := by
 unfold valV
 have q1 := f64bits
 have q3 := err_eq_nil
 have q4 := err_eq_held
 obtain ⟨i0, hi0, hz0, hz1, hz2⟩ := info_parts info_au2
 obtain ⟨w0, hw0⟩ : ∃ w0, w.alloc (.cells #[.int .i64 (u.srt : Nat), .bool u.fl, .int .u64 (u.bi : Nat), .string ⟨u.tx.toArray⟩, .slice A u.kids.length c, .slice K u.kn.length d] 79) = w0 := ⟨_, rfl⟩
 have hb0 : Below w.heap.size w w0 := by rw [← hw0]; exact (Below.refl _ _).alloc (Nat.le_refl _) _
 have hv0 : Blk w0 w.heap.size 79 #[.int .i64 (u.srt : Nat), .bool u.fl, .int .u64 (u.bi : Nat), .string ⟨u.tx.toArray⟩, .slice A u.kids.length c, .slice K u.kn.length d] := by rw [← hw0]; exact Blk.new w _ _
 have HW0 := Lib.hid hw0
 have HV := Lib.hid hv0
 have HBW := Lib.hid hb0
 have HR := Lib.hid h
 have HPL := Lib.hid hp
 have HXX := Lib.hid hx
 have HOK := Lib.hid hok
 have hkl := kids_len (fit_le hf).1
 have HKL := Lib.hid hkl
 obtain ⟨xs, hCs, hLs⟩ := h.kids
 have HCL := Lib.hid (And.intro hCs hLs)
 clear hw0 hb0 hv0 h hp hx hok hf hkl hCs hLs
 go_enter Tryz.func31, Tryz.ntmps31
 go_upto_region 1 with fail
 rw [HW0.out]
 have v0 : w0.cell? ⟨w.heap.size, 0, none⟩ = some (.int .i64 (u.srt : Nat)) := HV.out.cell 0
 have v1 : w0.cell? ⟨w.heap.size, 1, none⟩ = some (.bool u.fl) := HV.out.cell 1
 have v2 : w0.cell? ⟨w.heap.size, 2, none⟩ = some (.int .u64 (u.bi : Nat)) := HV.out.cell 2
 have v3 : w0.cell? ⟨w.heap.size, 3, none⟩ = some (.string ⟨u.tx.toArray⟩) := HV.out.cell 3
 have v4 : w0.cell? ⟨w.heap.size, 4, none⟩ = some (.slice A u.kids.length c) := HV.out.cell 4
 have v5 : w0.cell? ⟨w.heap.size, 5, none⟩ = some (.slice K u.kn.length d) := HV.out.cell 5
 go_wp2_with fail
 go_loopw [11, 28] (fun c11 c28 wr => ∃ qs : List (Nat × Nat), qs.length ≤ u.kids.length ∧ c28 = .int .i64 (qs.length : Int) ∧ Hid (PlL u A c K d p w qs c11 wr)) (fun _ c28 _ => u.kids.length - (intOf c28).toNat)
 case atStart => exact ⟨[], Nat.zero_le _, rfl, Lib.hid ⟨HBW.out, HV.out, World.ownsRow_nil _ _ _ _, fun _ h => (by cases h), (preD_nil _).symm⟩⟩
 case round =>
  obtain ⟨qs, hk, rfl, HI⟩ := hrel
  by_cases hlt : qs.length < u.kids.length
  ·obtain ⟨k, hkq⟩ : ∃ k, qs.length = k := ⟨_, rfl⟩
   have HKQ := Lib.hid hkq
   rw [hkq] at hlt hk ⊢
   have hlti : (k : Int) < (u.kids.length : Int) := by omega
   have hkb : (k : Int) ≤ 65536 := by have := HKL.out; omega
   have HLT := Lib.hid hlt
   obtain ⟨g, ob, ⟨⟨xa, xc⟩, ya, yc⟩, rfl, _, _, hcl, hrx⟩ := cells_at HCL.out.1 HCL.out.2 hlt
   have hclr := hcl.below HI.out.bl
   obtain ⟨y, hy⟩ : ∃ y, u.kids[k]'hlt = y := ⟨_, rfl⟩
   have HY := Lib.hid hy
   rw [hy] at hclr hrx
   have v4 : wr.cell? ⟨w.heap.size, 4, none⟩ = some (.slice (some ⟨g, ob, none⟩) u.kids.length c) := HI.out.box.cell 4
   have HSP : Hid (∀ W', Below wr.heap.size wr W' → W'.cell? ⟨w.heap.size, 4, none⟩ = some (.slice (some ⟨g, ob, none⟩) u.kids.length c) ∧ W'.cell? ⟨g, ob + k * 6, none⟩ = some (.int .i64 (y.srt : Nat)) ∧ W'.cell? ⟨g, ob + k * 6 + 1, none⟩ = some (.bool y.fl) ∧ W'.cell? ⟨g, ob + k * 6 + 2, none⟩ = some (.int .u64 (y.bi : Nat)) ∧ W'.cell? ⟨g, ob + k * 6 + 3, none⟩ = some (.string ⟨y.tx.toArray⟩) ∧ W'.cell? ⟨g, ob + k * 6 + 4, none⟩ = some (.slice xa y.kids.length xc) ∧ W'.cell? ⟨g, ob + k * 6 + 5, none⟩ = some (.slice ya y.kn.length yc) ∧ Below wr.heap.size wr W') := Lib.hid fun W' hB => ⟨(hB.cell (World.block_lt_of_cell? _ _ v4)).trans v4, (hB.cell (World.block_lt_of_cell? _ _ hclr.c0)).trans hclr.c0, (hB.cell (World.block_lt_of_cell? _ _ hclr.c1)).trans hclr.c1, (hB.cell (World.block_lt_of_cell? _ _ hclr.c2)).trans hclr.c2, (hB.cell (World.block_lt_of_cell? _ _ hclr.c3)).trans hclr.c3, (hB.cell (World.block_lt_of_cell? _ _ hclr.c4)).trans hclr.c4, (hB.cell (World.block_lt_of_cell? _ _ hclr.c5)).trans hclr.c5, hB⟩
   have HLS : Hid (∀ W', (W'.cell? ⟨w.heap.size, 4, none⟩ = some (.slice (some ⟨g, ob, none⟩) u.kids.length c) ∧ W'.cell? ⟨g, ob + k * 6, none⟩ = some (.int .i64 (y.srt : Nat)) ∧ W'.cell? ⟨g, ob + k * 6 + 1, none⟩ = some (.bool y.fl) ∧ W'.cell? ⟨g, ob + k * 6 + 2, none⟩ = some (.int .u64 (y.bi : Nat)) ∧ W'.cell? ⟨g, ob + k * 6 + 3, none⟩ = some (.string ⟨y.tx.toArray⟩) ∧ W'.cell? ⟨g, ob + k * 6 + 4, none⟩ = some (.slice xa y.kids.length xc) ∧ W'.cell? ⟨g, ob + k * 6 + 5, none⟩ = some (.slice ya y.kn.length yc) ∧ Below wr.heap.size wr W') → Below wr.heap.size wr W') := Lib.hid fun W' hB => hB.2.2.2.2.2.2.2
   obtain ⟨dg, hdg⟩ : ∃ dg, Lib.itoa (k : Int) = dg := ⟨_, rfl⟩
   have hdl : dg.length ≤ 21 := by rw [← hdg]; exact Lib.itoa_length_le (k : Int) (by omega) (by omega)
   have HIT := Lib.hid (fun W => figures_any k (by omega) W)
   rw [hdg] at HIT
   have hpl : p.length ≤ 4194304 := HPL.out
   have HPR := Lib.hid (fun (W : World) (hb : Below wr.heap.size wr W) => rpair_any y xa xc ya yc (p ++ 47 :: dg) (by rw [List.length_append, List.length_cons]; omega) W (RdV.move (fun j hj hs => ⟨trivial, (HI.out.bl.trans (hb.mono HI.out.bl.size)).block j hj⟩) _ _ hrx))
   have HDG := Lib.hid hdg
   unfold valV at HPR
   clear hcl hclr hrx hy hdg hk hkq
   obtain ⟨x1, x2, n, tr, s, hcase, hpr⟩ := rpair_one HPR.out
   have HCASE := Lib.hid hcase
   have HPR := Lib.hid hpr
   clear hcase hpr
   go_upto_region 6 with fail
   go_cut [13, 14, 15] (fun c13 c14 c15 wx => ∃ gf, c13 = .int .u64 (x1 : Int) ∧ c14 = .int .u64 (x2 : Int) ∧ c15 = .pointer (some ⟨gf, 0, none⟩) ∧ Hid (Blk wx gf 81 #[.int .i64 n, .int .i64 0, .bool tr, .string ⟨s.toArray⟩] ∧ Below wr.heap.size wr wx))
   case first =>
    refine wp_region_held_drew (S := (fun w' => w'.cell? ⟨w.heap.size, 4, none⟩ = some (.slice (some ⟨g, ob, none⟩) u.kids.length c) ∧ w'.cell? ⟨g, ob + k * 6, none⟩ = some (.int .i64 (y.srt : Nat)) ∧ w'.cell? ⟨g, ob + k * 6 + 1, none⟩ = some (.bool y.fl) ∧ w'.cell? ⟨g, ob + k * 6 + 2, none⟩ = some (.int .u64 (y.bi : Nat)) ∧ w'.cell? ⟨g, ob + k * 6 + 3, none⟩ = some (.string ⟨y.tx.toArray⟩) ∧ w'.cell? ⟨g, ob + k * 6 + 4, none⟩ = some (.slice xa y.kids.length xc) ∧ w'.cell? ⟨g, ob + k * 6 + 5, none⟩ = some (.slice ya y.kn.length yc) ∧ Below wr.heap.size wr w')) (by kernel_rfl) (HSP.out _ (drewN_below _ 1)) (fun hHeld => ?_)
    refine held_take (i := 0) (v := ?_) (some 32) rfl rfl (by kernel_rfl) (by kernel_rfl) (by kernel_rfl) (fun _ _ _ h => h) (Or.inl ⟨by rfl, ?_⟩) hHeld ?_
    rotate_left
    ·intro w hSw
     try dsimp only at hSw
     go_simp
     try rw [if_neg (by first | omega | (simp; omega))]
     try with_reducible rfl
    simp only [Act.put, List.setIfInBounds_toArray, List.set_cons_zero, List.set_cons_succ]
    refine held_take (i := 1) (v := ?_) (some 33) rfl rfl (by kernel_rfl) (by kernel_rfl) (by kernel_rfl) (fun _ _ _ h => h) (Or.inl ⟨by rfl, ?_⟩) hHeld ?_
    rotate_left
    ·intro w hSw
     try dsimp only at hSw
     go_simp
     try rw [if_neg (by first | omega | (simp; omega))]
     try with_reducible rfl
    simp only [Act.put, List.setIfInBounds_toArray, List.set_cons_zero, List.set_cons_succ]
    refine held_take (i := 2) (v := ?_) (some 34) rfl rfl (by kernel_rfl) (by kernel_rfl) (by kernel_rfl) (fun _ _ _ h => h) (Or.inl ⟨by rfl, ?_⟩) hHeld ?_
    rotate_left
    ·intro w hSw
     try dsimp only at hSw
     go_simp
     try rw [if_neg (by first | omega | (simp; omega))]
     try with_reducible rfl
    simp only [Act.put, List.setIfInBounds_toArray, List.set_cons_zero, List.set_cons_succ]
    refine held_take (i := 3) (v := ?_) (some 35) rfl rfl (by kernel_rfl) (by kernel_rfl) (by kernel_rfl) (fun _ _ _ h => h) (Or.inl ⟨by rfl, ?_⟩) hHeld ?_
    rotate_left
    ·intro w hSw
     try dsimp only at hSw
     go_simp
     try rw [if_neg (by first | omega | (simp; omega))]
     try with_reducible rfl
    simp only [Act.put, List.setIfInBounds_toArray, List.set_cons_zero, List.set_cons_succ]
    refine held_take (i := 4) (v := ?_) (some 36) rfl rfl (by kernel_rfl) (by kernel_rfl) (by kernel_rfl) (fun _ _ _ h => h) (Or.inl ⟨by rfl, ?_⟩) hHeld ?_
    rotate_left
    ·intro w hSw
     try dsimp only at hSw
     go_simp
     try rw [if_neg (by first | omega | (simp; omega))]
     try with_reducible rfl
    simp only [Act.put, List.setIfInBounds_toArray, List.set_cons_zero, List.set_cons_succ]
    refine held_take (i := 5) (v := ?_) (some 37) rfl rfl (by kernel_rfl) (by kernel_rfl) (by kernel_rfl) (fun _ _ _ h => h) (Or.inl ⟨by rfl, ?_⟩) hHeld ?_
    rotate_left
    ·intro w hSw
     try dsimp only at hSw
     go_simp
     try rw [if_neg (by first | omega | (simp; omega))]
     try with_reducible rfl
    simp only [Act.put, List.setIfInBounds_toArray, List.set_cons_zero, List.set_cons_succ]
    refine held_take (i := 6) (v := ?_) (some 38) rfl rfl (by kernel_rfl) (by kernel_rfl) (by kernel_rfl) (fun _ _ _ h => h) (Or.inl ⟨by rfl, ?_⟩) hHeld ?_
    rotate_left
    ·intro w hSw
     try dsimp only at hSw
     go_simp
     try rw [if_neg (by first | omega | (simp; omega))]
     try with_reducible rfl
    simp only [Act.put, List.setIfInBounds_toArray, List.set_cons_zero, List.set_cons_succ]
    refine held_take (i := 7) (v := ?_) (some 39) rfl rfl (by kernel_rfl) (by kernel_rfl) (by kernel_rfl) (fun _ _ _ h => h) (Or.inl ⟨by rfl, ?_⟩) hHeld ?_
    rotate_left
    ·intro w hSw
     try dsimp only at hSw
     go_simp
     try rw [if_neg (by first | omega | (simp; omega))]
     try with_reducible rfl
    simp only [Act.put, List.setIfInBounds_toArray, List.set_cons_zero, List.set_cons_succ]
    refine wpAnyH_ready (rs := [8, 15]) (by kernel_rfl) (by simp) ?_
    refine (AllReadyH.cons rfl (fun K hK => ?_) (AllReadyH.cons rfl (fun K hK => ?_) AllReadyH.nil))
    ·go_simp
     ((with_reducible refine (HIT.out _).mono ?_); rintro e w8 ⟨rfl, hb8⟩; dsimp only)
     replace hHeld := HSP.out _ ((HLS.out _ hHeld).trans (hb8.mono (HLS.out _ hHeld).size))
     clear hb8
     refine hK.out _ _ hHeld (fun _ => ?_)
     clear hK K
     refine held_take (i := 9) (v := ?_) (some 41) rfl rfl (by kernel_rfl) (by kernel_rfl) (by kernel_rfl) (fun _ _ _ h => h) (Or.inl ⟨by rfl, ?_⟩) hHeld ?_
     rotate_left
     ·intro w hSw
      try dsimp only at hSw
      go_simp
      try rw [if_neg (by first | omega | (simp; omega))]
      try with_reducible rfl
     simp only [Act.put, List.setIfInBounds_toArray, List.set_cons_zero, List.set_cons_succ]
     refine wpAnyH_ready (rs := [10, 15]) (by kernel_rfl) (by simp) ?_
     refine (AllReadyH.cons rfl (fun K hK => ?_) (AllReadyH.cons rfl (fun K hK => ?_) AllReadyH.nil))
     ·go_simp
      rw [at_bytes]
      ((with_reducible refine (HPR.out _ (HLS.out _ hHeld)).mono ?_); rintro e w10 ⟨he, hb10⟩; obtain rfl := he; dsimp only)
      replace hHeld := HSP.out _ ((HLS.out _ hHeld).trans (hb10.mono (HLS.out _ hHeld).size))
      clear hb10
      refine hK.out _ _ hHeld (fun _ => ?_)
      clear hK K
      refine held_take (i := 11) (v := ?_) (some 31) rfl rfl (by kernel_rfl) (by kernel_rfl) (by kernel_rfl) (fun _ _ _ h => h) (Or.inl ⟨by rfl, ?_⟩) hHeld ?_
      rotate_left
      ·intro w hSw
       try dsimp only at hSw
       go_simp
       try rw [if_neg (by first | omega | (simp; omega))]
       try with_reducible rfl
      simp only [Act.put, List.setIfInBounds_toArray, List.set_cons_zero, List.set_cons_succ]
      refine held_take (i := 12) (v := ?_) (some 43) rfl rfl (by kernel_rfl) (by kernel_rfl) (by kernel_rfl) (fun _ _ _ h => h) (Or.inl ⟨by rfl, ?_⟩) hHeld ?_
      rotate_left
      ·intro w hSw
       try dsimp only at hSw
       go_simp
       try rw [if_neg (by first | omega | (simp; omega))]
       try with_reducible rfl
      simp only [Act.put, List.setIfInBounds_toArray, List.set_cons_zero, List.set_cons_succ]
      refine held_take (i := 13) (v := ?_) (some 44) rfl rfl (by kernel_rfl) (by kernel_rfl) (by kernel_rfl) (fun _ _ _ h => h) (Or.inl ⟨by rfl, ?_⟩) hHeld ?_
      rotate_left
      ·intro w hSw
       try dsimp only at hSw
       go_simp
       try rw [if_neg (by first | omega | (simp; omega))]
       try with_reducible rfl
      simp only [Act.put, List.setIfInBounds_toArray, List.set_cons_zero, List.set_cons_succ]
      refine held_take (i := 14) (v := ?_) (some 45) rfl rfl (by kernel_rfl) (by kernel_rfl) (by kernel_rfl) (fun _ _ _ h => h) (Or.inl ⟨by rfl, ?_⟩) hHeld ?_
      rotate_left
      ·intro w hSw
       try dsimp only at hSw
       go_simp
       try rw [if_neg (by first | omega | (simp; omega))]
       try with_reducible rfl
      simp only [Act.put, List.setIfInBounds_toArray, List.set_cons_zero, List.set_cons_succ]
      refine wpAnyH_ready (rs := [15]) (by kernel_rfl) (by simp) ?_
      refine (AllReadyH.cons rfl (fun K hK => ?_) AllReadyH.nil)
      have HB10 := Lib.hid (HLS.out _ hHeld)
      have HGB := Lib.hid (Blk.new w10 81 #[.int .i64 0, .int .i64 0, .bool false, .string ⟨#[]⟩])
      go_simp
      replace hHeld := HSP.out _ ((HLS.out _ hHeld).alloc (HLS.out _ hHeld).size (.cells #[.int .i64 0, .int .i64 0, .bool false, .string ⟨#[]⟩] 81))
      refine hK.out _ _ hHeld (fun _ => ?_)
      clear hK K
      refine held_take (i := 16) (v := ?_) (some 13) rfl rfl (by kernel_rfl) (by kernel_rfl) (by kernel_rfl) (fun _ _ _ h => h) (Or.inl ⟨by rfl, ?_⟩) hHeld ?_
      rotate_left
      ·intro w hSw
       try dsimp only at hSw
       go_simp
       try rw [if_neg (by first | omega | (simp; omega))]
       try with_reducible rfl
      simp only [Act.put, List.setIfInBounds_toArray, List.set_cons_zero, List.set_cons_succ]
      refine held_take (i := 17) (v := ?_) (some 14) rfl rfl (by kernel_rfl) (by kernel_rfl) (by kernel_rfl) (fun _ _ _ h => h) (Or.inl ⟨by rfl, ?_⟩) hHeld ?_
      rotate_left
      ·intro w hSw
       try dsimp only at hSw
       go_simp
       try rw [if_neg (by first | omega | (simp; omega))]
       try with_reducible rfl
      simp only [Act.put, List.setIfInBounds_toArray, List.set_cons_zero, List.set_cons_succ]
      refine wpAnyH_ready (rs := [18]) (by kernel_rfl) (by simp) ?_
      refine (AllReadyH.cons rfl (fun K hK => ?_) AllReadyH.nil)
      go_simp
      replace hHeld := HSP.out _ (HB10.out.alloc HB10.out.size (.cells #[.int .i64 n, .int .i64 0, .bool tr, .string ⟨s.toArray⟩] 81))
      refine hK.out _ _ hHeld (fun _ => ?_)
      clear hK K
      refine wpAnyH_done (by kernel_rfl) ?_ _
      go_wp2_with fail
      go_meet
      exact ⟨w10.heap.size, rfl, rfl, rfl, Lib.hid ⟨Blk.new w10 81 #[.int .i64 n, .int .i64 0, .bool tr, .string ⟨s.toArray⟩], HLS.out _ hHeld⟩⟩
     ·have HG8 := Lib.hid (HLS.out _ hHeld).size
      have HGB := Lib.hid (Blk.new w8 81 #[.int .i64 0, .int .i64 0, .bool false, .string ⟨#[]⟩])
      go_simp
      replace hHeld := HSP.out _ ((HLS.out _ hHeld).alloc (HLS.out _ hHeld).size (.cells #[.int .i64 0, .int .i64 0, .bool false, .string ⟨#[]⟩] 81))
      refine hK.out _ _ hHeld (fun _ => ?_)
      clear hK K
      refine wpAnyH_ready (rs := [10]) (by kernel_rfl) (by simp) ?_
      refine (AllReadyH.cons rfl (fun K hK => ?_) AllReadyH.nil)
      go_simp
      rw [at_bytes]
      ((with_reducible refine (HPR.out _ (HLS.out _ hHeld)).mono ?_); rintro e w10 ⟨he, hb10⟩; obtain rfl := he; dsimp only)
      replace hHeld := HSP.out _ ((HLS.out _ hHeld).trans (hb10.mono (HLS.out _ hHeld).size))
      have HGB := Lib.hid (HGB.out.below hb10 HGB.out.lt)
      clear hb10
      refine hK.out _ _ hHeld (fun _ => ?_)
      clear hK K
      refine held_take (i := 11) (v := ?_) (some 31) rfl rfl (by kernel_rfl) (by kernel_rfl) (by kernel_rfl) (fun _ _ _ h => h) (Or.inl ⟨by rfl, ?_⟩) hHeld ?_
      rotate_left
      ·intro w hSw
       try dsimp only at hSw
       go_simp
       try rw [if_neg (by first | omega | (simp; omega))]
       try with_reducible rfl
      simp only [Act.put, List.setIfInBounds_toArray, List.set_cons_zero, List.set_cons_succ]
      refine held_take (i := 12) (v := ?_) (some 43) rfl rfl (by kernel_rfl) (by kernel_rfl) (by kernel_rfl) (fun _ _ _ h => h) (Or.inl ⟨by rfl, ?_⟩) hHeld ?_
      rotate_left
      ·intro w hSw
       try dsimp only at hSw
       go_simp
       try rw [if_neg (by first | omega | (simp; omega))]
       try with_reducible rfl
      simp only [Act.put, List.setIfInBounds_toArray, List.set_cons_zero, List.set_cons_succ]
      refine held_take (i := 13) (v := ?_) (some 44) rfl rfl (by kernel_rfl) (by kernel_rfl) (by kernel_rfl) (fun _ _ _ h => h) (Or.inl ⟨by rfl, ?_⟩) hHeld ?_
      rotate_left
      ·intro w hSw
       try dsimp only at hSw
       go_simp
       try rw [if_neg (by first | omega | (simp; omega))]
       try with_reducible rfl
      simp only [Act.put, List.setIfInBounds_toArray, List.set_cons_zero, List.set_cons_succ]
      refine held_take (i := 14) (v := ?_) (some 45) rfl rfl (by kernel_rfl) (by kernel_rfl) (by kernel_rfl) (fun _ _ _ h => h) (Or.inl ⟨by rfl, ?_⟩) hHeld ?_
      rotate_left
      ·intro w hSw
       try dsimp only at hSw
       go_simp
       try rw [if_neg (by first | omega | (simp; omega))]
       try with_reducible rfl
      simp only [Act.put, List.setIfInBounds_toArray, List.set_cons_zero, List.set_cons_succ]
      refine held_take (i := 16) (v := ?_) (some 13) rfl rfl (by kernel_rfl) (by kernel_rfl) (by kernel_rfl) (fun _ _ _ h => h) (Or.inl ⟨by rfl, ?_⟩) hHeld ?_
      rotate_left
      ·intro w hSw
       try dsimp only at hSw
       go_simp
       try rw [if_neg (by first | omega | (simp; omega))]
       try with_reducible rfl
      simp only [Act.put, List.setIfInBounds_toArray, List.set_cons_zero, List.set_cons_succ]
      refine held_take (i := 17) (v := ?_) (some 14) rfl rfl (by kernel_rfl) (by kernel_rfl) (by kernel_rfl) (fun _ _ _ h => h) (Or.inl ⟨by rfl, ?_⟩) hHeld ?_
      rotate_left
      ·intro w hSw
       try dsimp only at hSw
       go_simp
       try rw [if_neg (by first | omega | (simp; omega))]
       try with_reducible rfl
      simp only [Act.put, List.setIfInBounds_toArray, List.set_cons_zero, List.set_cons_succ]
      refine wpAnyH_ready (rs := [18]) (by kernel_rfl) (by simp) ?_
      refine (AllReadyH.cons rfl (fun K hK => ?_) AllReadyH.nil)
      have yy0 : w10.cell? ⟨w8.heap.size, 0, none⟩ = some (.int .i64 0) := HGB.out.cell 0
      have yy1 : w10.cell? ⟨w8.heap.size, 1, none⟩ = some (.int .i64 0) := HGB.out.cell 1
      have yy2 : w10.cell? ⟨w8.heap.size, 2, none⟩ = some (.bool false) := HGB.out.cell 2
      have yy3 : w10.cell? ⟨w8.heap.size, 3, none⟩ = some (.string ⟨#[]⟩) := HGB.out.cell 3
      have rr0 : w10.frozen? ⟨w8.heap.size, 0, none⟩ = false := HGB.out.frozen 0
      have rr1 : w10.frozen? ⟨w8.heap.size, 1, none⟩ = false := HGB.out.frozen 1
      have rr2 : w10.frozen? ⟨w8.heap.size, 2, none⟩ = false := HGB.out.frozen 2
      have rr3 : w10.frozen? ⟨w8.heap.size, 3, none⟩ = false := HGB.out.frozen 3
      have hgb := HGB.out.lt
      go_simp
      replace hHeld := HSP.out _ (four_below (HLS.out _ hHeld) (HG8.out) (.int .i64 n) (.int .i64 0) (.bool tr) (.string ⟨s.toArray⟩))
      refine hK.out _ _ hHeld (fun _ => ?_)
      clear hK K
      refine wpAnyH_done (by kernel_rfl) ?_ _
      go_wp2_with fail
      go_meet
      exact ⟨w8.heap.size, rfl, rfl, rfl, Lib.hid ⟨four_blk HGB.out (.int .i64 n) (.int .i64 0) (.bool tr) (.string ⟨s.toArray⟩), HLS.out _ hHeld⟩⟩
    ·have HGB := Lib.hid (Blk.new wr.drew 81 #[.int .i64 0, .int .i64 0, .bool false, .string ⟨#[]⟩])
     go_simp
     replace hHeld := HSP.out _ ((HLS.out _ hHeld).alloc (HLS.out _ hHeld).size (.cells #[.int .i64 0, .int .i64 0, .bool false, .string ⟨#[]⟩] 81))
     refine hK.out _ _ hHeld (fun _ => ?_)
     clear hK K
     refine wpAnyH_ready (rs := [8]) (by kernel_rfl) (by simp) ?_
     refine (AllReadyH.cons rfl (fun K hK => ?_) AllReadyH.nil)
     go_simp
     ((with_reducible refine (HIT.out _).mono ?_); rintro e w8 ⟨rfl, hb8⟩; dsimp only)
     replace hHeld := HSP.out _ ((HLS.out _ hHeld).trans (hb8.mono (HLS.out _ hHeld).size))
     have HGB := Lib.hid (HGB.out.below hb8 HGB.out.lt)
     clear hb8
     refine hK.out _ _ hHeld (fun _ => ?_)
     clear hK K
     refine held_take (i := 9) (v := ?_) (some 41) rfl rfl (by kernel_rfl) (by kernel_rfl) (by kernel_rfl) (fun _ _ _ h => h) (Or.inl ⟨by rfl, ?_⟩) hHeld ?_
     rotate_left
     ·intro w hSw
      try dsimp only at hSw
      go_simp
      try rw [if_neg (by first | omega | (simp; omega))]
      try with_reducible rfl
     simp only [Act.put, List.setIfInBounds_toArray, List.set_cons_zero, List.set_cons_succ]
     refine wpAnyH_ready (rs := [10]) (by kernel_rfl) (by simp) ?_
     refine (AllReadyH.cons rfl (fun K hK => ?_) AllReadyH.nil)
     go_simp
     rw [at_bytes]
     ((with_reducible refine (HPR.out _ (HLS.out _ hHeld)).mono ?_); rintro e w10 ⟨he, hb10⟩; obtain rfl := he; dsimp only)
     replace hHeld := HSP.out _ ((HLS.out _ hHeld).trans (hb10.mono (HLS.out _ hHeld).size))
     have HGB := Lib.hid (HGB.out.below hb10 HGB.out.lt)
     clear hb10
     refine hK.out _ _ hHeld (fun _ => ?_)
     clear hK K
     refine held_take (i := 11) (v := ?_) (some 31) rfl rfl (by kernel_rfl) (by kernel_rfl) (by kernel_rfl) (fun _ _ _ h => h) (Or.inl ⟨by rfl, ?_⟩) hHeld ?_
     rotate_left
     ·intro w hSw
      try dsimp only at hSw
      go_simp
      try rw [if_neg (by first | omega | (simp; omega))]
      try with_reducible rfl
     simp only [Act.put, List.setIfInBounds_toArray, List.set_cons_zero, List.set_cons_succ]
     refine held_take (i := 12) (v := ?_) (some 43) rfl rfl (by kernel_rfl) (by kernel_rfl) (by kernel_rfl) (fun _ _ _ h => h) (Or.inl ⟨by rfl, ?_⟩) hHeld ?_
     rotate_left
     ·intro w hSw
      try dsimp only at hSw
      go_simp
      try rw [if_neg (by first | omega | (simp; omega))]
      try with_reducible rfl
     simp only [Act.put, List.setIfInBounds_toArray, List.set_cons_zero, List.set_cons_succ]
     refine held_take (i := 13) (v := ?_) (some 44) rfl rfl (by kernel_rfl) (by kernel_rfl) (by kernel_rfl) (fun _ _ _ h => h) (Or.inl ⟨by rfl, ?_⟩) hHeld ?_
     rotate_left
     ·intro w hSw
      try dsimp only at hSw
      go_simp
      try rw [if_neg (by first | omega | (simp; omega))]
      try with_reducible rfl
     simp only [Act.put, List.setIfInBounds_toArray, List.set_cons_zero, List.set_cons_succ]
     refine held_take (i := 14) (v := ?_) (some 45) rfl rfl (by kernel_rfl) (by kernel_rfl) (by kernel_rfl) (fun _ _ _ h => h) (Or.inl ⟨by rfl, ?_⟩) hHeld ?_
     rotate_left
     ·intro w hSw
      try dsimp only at hSw
      go_simp
      try rw [if_neg (by first | omega | (simp; omega))]
      try with_reducible rfl
     simp only [Act.put, List.setIfInBounds_toArray, List.set_cons_zero, List.set_cons_succ]
     refine held_take (i := 16) (v := ?_) (some 13) rfl rfl (by kernel_rfl) (by kernel_rfl) (by kernel_rfl) (fun _ _ _ h => h) (Or.inl ⟨by rfl, ?_⟩) hHeld ?_
     rotate_left
     ·intro w hSw
      try dsimp only at hSw
      go_simp
      try rw [if_neg (by first | omega | (simp; omega))]
      try with_reducible rfl
     simp only [Act.put, List.setIfInBounds_toArray, List.set_cons_zero, List.set_cons_succ]
     refine held_take (i := 17) (v := ?_) (some 14) rfl rfl (by kernel_rfl) (by kernel_rfl) (by kernel_rfl) (fun _ _ _ h => h) (Or.inl ⟨by rfl, ?_⟩) hHeld ?_
     rotate_left
     ·intro w hSw
      try dsimp only at hSw
      go_simp
      try rw [if_neg (by first | omega | (simp; omega))]
      try with_reducible rfl
     simp only [Act.put, List.setIfInBounds_toArray, List.set_cons_zero, List.set_cons_succ]
     refine wpAnyH_ready (rs := [18]) (by kernel_rfl) (by simp) ?_
     refine (AllReadyH.cons rfl (fun K hK => ?_) AllReadyH.nil)
     have yy0 : w10.cell? ⟨wr.heap.size, 0, none⟩ = some (.int .i64 0) := HGB.out.cell 0
     have yy1 : w10.cell? ⟨wr.heap.size, 1, none⟩ = some (.int .i64 0) := HGB.out.cell 1
     have yy2 : w10.cell? ⟨wr.heap.size, 2, none⟩ = some (.bool false) := HGB.out.cell 2
     have yy3 : w10.cell? ⟨wr.heap.size, 3, none⟩ = some (.string ⟨#[]⟩) := HGB.out.cell 3
     have rr0 : w10.frozen? ⟨wr.heap.size, 0, none⟩ = false := HGB.out.frozen 0
     have rr1 : w10.frozen? ⟨wr.heap.size, 1, none⟩ = false := HGB.out.frozen 1
     have rr2 : w10.frozen? ⟨wr.heap.size, 2, none⟩ = false := HGB.out.frozen 2
     have rr3 : w10.frozen? ⟨wr.heap.size, 3, none⟩ = false := HGB.out.frozen 3
     have hgb := HGB.out.lt
     go_simp
     replace hHeld := HSP.out _ (four_below (HLS.out _ hHeld) (Nat.le_refl _) (.int .i64 n) (.int .i64 0) (.bool tr) (.string ⟨s.toArray⟩))
     refine hK.out _ _ hHeld (fun _ => ?_)
     clear hK K
     refine wpAnyH_done (by kernel_rfl) ?_ _
     go_wp2_with fail
     go_meet
     exact ⟨wr.heap.size, rfl, rfl, rfl, Lib.hid ⟨four_blk HGB.out (.int .i64 n) (.int .i64 0) (.bool tr) (.string ⟨s.toArray⟩), HLS.out _ hHeld⟩⟩
   case rest =>
    obtain ⟨gf, rfl, rfl, rfl, HF⟩ := hcut
    have f0 : wc.cell? ⟨gf, 0, none⟩ = some (.int .i64 n) := HF.out.1.cell 0
    have f1 : wc.cell? ⟨gf, 1, none⟩ = some (.int .i64 0) := HF.out.1.cell 1
    have f2 : wc.cell? ⟨gf, 2, none⟩ = some (.bool tr) := HF.out.1.cell 2
    have f3 : wc.cell? ⟨gf, 3, none⟩ = some (.string ⟨s.toArray⟩) := HF.out.1.cell 3
    rcases HCASE.out with ⟨hpf, rfl, rfl, rfl⟩ | ⟨hpf, rfl, rfl, rfl⟩
    ·have HPF := Lib.hid hpf
     clear hpf
     have HBF := Lib.hid HF.out.2
     have hown := own_below HI.out.own HBF.out
     rw [HKQ.out] at hown
     have hbl2 := HI.out.box.lt
     have hbps := HBF.out.size
     have hkl9 : k ≤ 65536 := by have := HKL.out; have := HLT.out; omega
     obtain ⟨Al, cl, hsl⟩ := own_slice hown
     obtain ⟨cq, hcq⟩ : ∃ cq, cellsU qs = cq := ⟨_, rfl⟩
     have HCQ := Lib.hid hcq
     rw [hcq] at hown
     clear hcq
     subst hsl
     go_wp2_with (at_builtin; refine wpList_append_own_at _ rfl _ _ 185 rfl (w.heap.size + 1) 188 i0 _ 2 16 Tryz.underlying185 hi0 hz0 hz1 hz2 rfl (by omega) (.slice Al k cl) k cq rfl (hown.alloc _) ⟨_, 0, none⟩ 1 1 [.int .u64 (x1 : Int), .int .u64 (x2 : Int)] rfl rfl (two_new2 _ _ _ _) (by intro z hz; rcases List.mem_cons.1 hz with rfl | hz; rfl; rw [List.mem_singleton] at hz; rw [hz]; rfl) ?b1 ?b2 ?b3 ?_; (unfold maxLen; omega); omega; (simp; omega); intro v9 w9 hown9 hgr9 hnil9 hat9)
     have HST : Hid (PlL u (some ⟨g, ob, none⟩) c K d p w (qs ++ [(x1, x2)]) v9 w9) := Lib.hid (pll_step HOK.out (by rw [HKQ.out]; exact HLT.out) (by
      simp only [HKQ.out]
      rw [HY.out]
      unfold atP
      rw [HDG.out]
      exact pll_pair HPF.out) HI.out (HBF.out.alloc HBF.out.size _) (by rw [HKQ.out, HCQ.out]; exact hown9) hgr9)
     clear hown9 hgr9 hnil9 hat9 hown
     go_wp2
     go_roundw
     case rel => exact ⟨qs ++ [(x1, x2)], by rw [List.length_append, HKQ.out]; exact HLT.out, by rw [List.length_append, HKQ.out]; go_num, HST⟩
     case measure => have := HLT.out; have := HKQ.out; simp [intOf]; omega
    ·have h1 := pll_bad HI.out (by rw [HKQ.out]; exact HLT.out) (n := n) (q := s) (by
      simp only [HKQ.out]
      rw [HY.out]
      unfold atP
      rw [HDG.out]
      exact hpf)
     have h2 := HXX.out
     rw [prdD_bad h1] at h2
     obtain ⟨rfl, rfl, rfl⟩ := h2
     have HX := Lib.hid (fault16_trail n 0 s)
     have hn0 : (n != 0) = true := pairF_num hpf
     unfold trlV at HX ⊢
     clear hpf h1
     have HB9 := Lib.hid (HI.out.bl.trans (HF.out.2.mono HI.out.bl.size))
     go_wp2_with fail
     ((with_reducible refine (HX.out _).mono ?_); rintro e w6 ⟨rfl, hb6⟩)
     have HB6 := Lib.hid (HB9.out.trans (hb6.mono HB9.out.size))
     clear hb6
     go_wp2
     go_ret
     exact ⟨rfl, HB6.out⟩
  ·have hql : qs.length = u.kids.length := by omega
   have h1 := pll_end HI.out hql
   have HQL := Lib.hid hql
   have hge : ¬ ((qs.length : Int) < (u.kids.length : Int)) := by omega
   have HRT := Lib.hid (fun (W : World) (hb : Below wr.heap.size wr W) => rprod_any qs _ (w.heap.size + 1) W (own_below HI.out.own hb) HI.out.fin (by have := HKL.out; omega))
   unfold RPrdP at HRT
   have v4 : wr.cell? ⟨w.heap.size, 4, none⟩ = some (.slice A u.kids.length c) := HI.out.box.cell 4
   obtain ⟨Al, cl, hsl⟩ := own_slice HI.out.own
   subst hsl
   have HB4 := Lib.hid HI.out.bl
   have h2 := HXX.out
   cases hpd : prodD qs 0 4607182418800017408 0 with
   | inr x =>
    obtain ⟨a, b⟩ := x
    rw [hpd] at HRT
    rw [prdD_ok h1 hpd] at h2
    obtain ⟨rfl, rfl, rfl⟩ := h2
    clear HI hk hlt hql hpd h1
    go_wp2_with fail
    ((with_reducible refine (HRT.out _ (Below.refl _ _)).mono ?_); rintro e w5 ⟨rfl, hb5⟩)
    have HB5 := Lib.hid (HB4.out.trans (hb5.mono HB4.out.size))
    clear hb5
    go_wp2
    go_ret
    exact ⟨rfl, HB5.out⟩
   | inl i =>
    have hi := prodD_lt _ _ _ _ _ hpd
    have hi2 : i ≤ 65536 := by have := HKL.out; omega
    rw [hpd] at HRT
    rw [prdD_no h1 hpd] at h2
    obtain ⟨rfl, rfl, rfl⟩ := h2
    clear HI hk hlt hql hpd h1 hi
    have HX := fault16_trail 161 0 (atP p i)
    have HTR := Lib.hid (lawTrail16 161 (atP p i))
    unfold trlV at HX ⊢
    have HX := Lib.hid HX
    unfold atP at HX HTR ⊢
    obtain ⟨dz, hdz⟩ : ∃ dz, Lib.itoa (i : Int) = dz := ⟨_, rfl⟩
    have hdzl : dz.length ≤ 21 := by rw [← hdz]; exact Lib.itoa_length_le (i : Int) (by omega) (by omega)
    have HIZ := Lib.hid (fun W => figures_any i (by omega) W)
    rw [hdz] at HX HTR HIZ ⊢
    have hplz : p.length ≤ 4194304 := HPL.out
    have hi0 : (0 : Int) ≤ (i : Int) := by omega
    clear hdz hi2
    go_wp2_with fail
    ((with_reducible refine (HRT.out _ (Below.refl _ _)).mono ?_); rintro e w5 ⟨rfl, hb5⟩)
    have HB5 := Lib.hid (HB4.out.trans (hb5.mono HB4.out.size))
    clear hb5
    go_wp2_with fail
    ((with_reducible refine (HIZ.out _).mono ?_); rintro e w6 ⟨rfl, hb6⟩)
    have HB6 := Lib.hid (HB5.out.trans (hb6.mono HB5.out.size))
    clear hb6
    go_wp2_with fail
    rw [at_bytes]
    ((with_reducible refine (HTR.out _).mono ?_); rintro e w7 ⟨rfl, hb7⟩)
    have HB7 := Lib.hid (HB6.out.trans (hb7.mono HB6.out.size))
    clear hb7
    go_wp2_with fail
    ((with_reducible refine (HX.out _).mono ?_); rintro e w8 ⟨rfl, hb8⟩)
    have HB8 := Lib.hid (HB7.out.trans (hb8.mono HB7.out.size))
    clear hb8
    go_wp2
    go_ret
    exact ⟨rfl, HB8.out⟩
end Nd
end Go.Proofs.YtbajkglacfheiaaGreatDoor
