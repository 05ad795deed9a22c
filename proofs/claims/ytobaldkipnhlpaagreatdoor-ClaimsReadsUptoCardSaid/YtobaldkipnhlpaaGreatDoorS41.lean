/-
  Walk of the reference of layer 25: Read.
-/
import Derived.Test.YtobaldkipnhlpaaGreatDoorS39
import Derived.Test.YtobaldkipnhlpaaGreatDoorS33
set_option linter.unusedVariables false
set_option linter.unusedSimpArgs false
set_option maxRecDepth 100000
set_option maxHeartbeats 16000000
namespace Go.Proofs.YtobaldkipnhlpaaGreatDoor
open Go.RowKit Mem Utf Ref3 Tok Cl
namespace Nd
theorem refRead25_any (t : Tr) (A : Option Addr) (c : Nat) (K : Option Addr) (d : Nat) (w : World) (h : RdVA w t ((A, c), (K, d))) (ho : t.Ok) (hf : t.fit = true) (hs : (t.srt : Int) = 6) :
  Calls Tryz.prog 12 #[valV t A c K d] w (RefReadP t w) := by
 have hkn : t.kn.length ≤ 1099511627776 := Nat.le_trans (kn_le ho hf) (by decide)
 have hba : Below w.heap.size w (((w.alloc (.cells #[.int .i64 (t.srt : Nat), .bool t.fl, .int .u64 (t.bi : Nat), .string ⟨t.tx.toArray⟩, .slice A t.kids.length c, .slice K t.kn.length d] 34)).alloc (.cells zero32 58)).alloc (.cells zero32 58)) := (((Below.refl _ _).alloc (Nat.le_refl _) _).alloc (by simp) _).alloc (by simp; omega) _
 have hB1 : Blk (((w.alloc (.cells #[.int .i64 (t.srt : Nat), .bool t.fl, .int .u64 (t.bi : Nat), .string ⟨t.tx.toArray⟩, .slice A t.kids.length c, .slice K t.kn.length d] 34)).alloc (.cells zero32 58)).alloc (.cells zero32 58)) w.heap.size 34 #[.int .i64 (t.srt : Nat), .bool t.fl, .int .u64 (t.bi : Nat), .string ⟨t.tx.toArray⟩, .slice A t.kids.length c, .slice K t.kn.length d] := ((Blk.new w 34 #[.int .i64 (t.srt : Nat), .bool t.fl, .int .u64 (t.bi : Nat), .string ⟨t.tx.toArray⟩, .slice A t.kids.length c, .slice K t.kn.length d]).alloc _).alloc _
 have hB2 : Blk (((w.alloc (.cells #[.int .i64 (t.srt : Nat), .bool t.fl, .int .u64 (t.bi : Nat), .string ⟨t.tx.toArray⟩, .slice A t.kids.length c, .slice K t.kn.length d] 34)).alloc (.cells zero32 58)).alloc (.cells zero32 58)) (w.heap.size + 1) 58 zero32 := by
  have := (Blk.new (w.alloc (.cells #[.int .i64 (t.srt : Nat), .bool t.fl, .int .u64 (t.bi : Nat), .string ⟨t.tx.toArray⟩, .slice A t.kids.length c, .slice K t.kn.length d] 34)) 58 zero32).alloc (.cells zero32 58)
  rwa [World.size_alloc] at this
 have hB3 : Blk (((w.alloc (.cells #[.int .i64 (t.srt : Nat), .bool t.fl, .int .u64 (t.bi : Nat), .string ⟨t.tx.toArray⟩, .slice A t.kids.length c, .slice K t.kn.length d] 34)).alloc (.cells zero32 58)).alloc (.cells zero32 58)) (w.heap.size + 2) 58 zero32 := by
  have := Blk.new ((w.alloc (.cells #[.int .i64 (t.srt : Nat), .bool t.fl, .int .u64 (t.bi : Nat), .string ⟨t.tx.toArray⟩, .slice A t.kids.length c, .slice K t.kn.length d] 34)).alloc (.cells zero32 58)) 58 zero32
  rwa [World.size_alloc, World.size_alloc] at this
 have HR := Lib.hid h
 have HO := Lib.hid (And.intro ho (And.intro hf hs))
 have HKN := Lib.hid hkn
 have HB := Lib.hid hba
 have H1 := Lib.hid hB1
 have H2 := Lib.hid hB2
 have H3 := Lib.hid hB3
 obtain ⟨i0, hi0, hz0, hz1, hz2⟩ := info_parts info_trail
 clear h ho hf hs hkn hba hB1 hB2 hB3
 go_enter Tryz.func12, Tryz.ntmps12
 go_upto_region 3 with fail
 generalize (((w.alloc (.cells #[.int .i64 (t.srt : Nat), .bool t.fl, .int .u64 (t.bi : Nat), .string ⟨t.tx.toArray⟩, .slice A t.kids.length c, .slice K t.kn.length d] 34)).alloc (.cells zero32 58)).alloc (.cells zero32 58)) = w1 at *
 go_wp2_with fail
 ((with_reducible refine (refKeys_any _).mono ?_); rintro e w2 ⟨rfl, hb⟩)
 have hbn : Below w2.heap.size w2 (w2.alloc (.cells keyCells 54)) := (Below.refl _ _).alloc (Nat.le_refl _) _
 have hbt := hb.trans (hbn.mono hb.size)
 have HKB := Lib.hid (Blk.new w2 54 keyCells)
 have HIN : Hid (RIn t A c K d w w2.heap.size 0 (.slice none 0 0) (w2.alloc (.cells keyCells 54))) := Lib.hid ⟨⟨H1.out.below hbt H1.out.lt, H2.out.below hbt H2.out.lt, HKB.out, HB.out.trans (hbt.mono HB.out.size), HKB.out.lt, by have := hb.size; have := H3.out.lt; omega⟩, World.ownsRow_nil _ _ _ _, fun _ => [], fun _ => 0, fun _ => .slice none 0 0, by
  show Blk _ _ _ (rCells (fun i => bAt t 0 i) _ _ _)
  rw [bAt_zero]
  exact H3.out.below hbt H3.out.lt, fun _ _ => rfl, fun _ => ⟨.slice none 0 0, .slice none 0 0, dc_zero, World.ownsRow_nil _ _ _ _, World.ownsRow_nil _ _ _ _⟩⟩
 clear hb hbn hbt HKB HB H1 H2 H3
 unfold keyCells at HIN ⊢
 go_wp2_with fail
 generalize w2.heap.size = gK at *
 go_loopw [5, 7] (fun c5 c7 wr => ∃ k : Nat, k ≤ 8 ∧ c7 = .int .i64 (k : Nat) ∧ Hid (RIn t A c K d w gK k c5 wr)) (fun _ c7 _ => 8 - (intOf c7).toNat)
 case atStart => exact ⟨0, by omega, rfl, HIN⟩
 case round =>
  clear HIN
  obtain ⟨k, hk, rfl, HI⟩ := hrel
  by_cases hk8 : k < 8
  ·obtain ⟨⟨hC0, hC1, hK0, hbw, hgK, hgK3⟩, hown, hXN⟩ := HI.out
   have HBW := Lib.hid hbw
   have HOWN := Lib.hid hown
   have HXN := Lib.hid hXN
   have HC1 := Lib.hid hC1
   have HI0 := HI
   clear hbw hown hXN hC1 HI
   have hkn := HKN.out
   obtain ⟨fi, hfi⟩ : ∃ fi, keyR t.kn (key k) = fi := ⟨_, rfl⟩
   go_wp2_with fail
   refine wp_region_noPanic ?_
   refine wp_region_held (S := fun W => Below wr.heap.size wr W) (by kernel_rfl) ?_
   have hS0 : (fun W => Below wr.heap.size wr W) { wr with drawn := wr.drawn + 1 } := (Below.refl _ wr).drew
   refine held_take (i := 0) (v := valV t A c K d) (some 15) rfl rfl (by kernel_rfl) (by kernel_rfl) (by kernel_rfl) (fun _ _ _ h => h.elim) (Or.inl ⟨by rfl, fun W hW => ?_⟩) hS0 ?_
   ·have hV := hC0.below hW hC0.lt
    have hl := run_loadVar_row (P := Tryz.prog) W w.heap.size 34 34 _ (0, 0) _ hV Tryz.underlying34 rfl (by kernel_rfl)
    simp [execOp, Act.eval, Instr.loadAt, Instr.sureAddr, hl, valV]
   simp only [Act.put, List.setIfInBounds_toArray, List.set_cons_zero, List.set_cons_succ]
   refine held_take (i := 1) (v := .int .i64 (k : Nat)) (some 16) rfl rfl (by kernel_rfl) (by kernel_rfl) (by kernel_rfl) (fun _ _ _ h => h.elim) (Or.inl ⟨by rfl, fun W hW => ?_⟩) hS0 ?_
   ·simp [execOp, Act.eval, go_sem]
   simp only [Act.put, List.setIfInBounds_toArray, List.set_cons_zero, List.set_cons_succ]
   refine held_take (i := 2) (v := .pointer (some ⟨gK, k, none⟩)) (some 17) rfl rfl (by kernel_rfl) (by kernel_rfl) (by kernel_rfl) (fun _ _ _ h => h.elim) (Or.inl ⟨by rfl, fun W hW => ?_⟩) hS0 ?_
   ·simp [execOp, Act.eval, go_sem]
    intro h8
    exact absurd h8 (by omega)
   simp only [Act.put, List.setIfInBounds_toArray, List.set_cons_zero, List.set_cons_succ]
   refine held_take (i := 3) (v := .string ⟨(key k).toArray⟩) (some 18) rfl rfl (by kernel_rfl) (by kernel_rfl) (by kernel_rfl) (fun _ _ _ h => h.elim) (Or.inl ⟨by rfl, fun W hW => ?_⟩) hS0 ?_
   ·have hl := keyCells_at (hK0.below hW hK0.lt) hk8
    simp [execOp, Act.eval, go_sem, hl]
   simp only [Act.put, List.setIfInBounds_toArray, List.set_cons_zero, List.set_cons_succ]
   refine wpAnyH_ready (rs := [4]) (by kernel_rfl) (by simp) ?_
   refine AllReadyH.cons rfl (fun KK hKK => ?_) AllReadyH.nil
   go_simp
   refine (rfind_any t A c K d (key k) _ (rdva_below HR.out (HBW.out.drew)) hkn).mono ?_
   rintro e w5 ⟨rfl, hb5⟩
   have hS1 : (fun W => Below wr.heap.size wr W) w5 := (Below.refl _ wr).drew.trans (hb5.mono (Nat.le_refl _))
   refine hKK.out _ _ hS1 (fun _ => ?_)
   clear hKK KK
   refine held_take (i := 5) (v := .int .i64 fi) (some 8) rfl rfl (by kernel_rfl) (by kernel_rfl) (by kernel_rfl) (fun _ _ _ h => h.elim) (Or.inl ⟨by rfl, fun W hW => ?_⟩) hS1 ?_
   ·simp [execOp, Act.eval, go_sem]
    exact hfi
   simp only [Act.put, List.setIfInBounds_toArray, List.set_cons_zero, List.set_cons_succ]
   refine wpAnyH_done (by kernel_rfl) ?_ _
   refine NoPanic.normal ?_
   have HI5 := Lib.hid (rin_below HI0.out hS1)
   have hon := onT_onR (key k) t HO.out.1
   rw [onR_kn HO.out.2.2, hfi] at hon
   clear hC0 hK0 hgK hgK3 hS0 HC1 HOWN HXN HBW
   rcases hon with ⟨hneg, hnone⟩ | ⟨kk, hkk, hpos, hsome⟩
   ·have HN := Lib.hid (rin_skip HI5.out hnone)
    have hge : (fi ≥ 0) = False := by simp; omega
    clear HI5 hnone hS1 hfi hkn
    go_wp2
    go_roundw
    case rel => exact ⟨k + 1, by omega, by go_num, HN⟩
    case measure => simp [intOf]; omega
   ·subst hpos
    obtain ⟨⟨hC0, hC1, hK0, hbw, hgK, hgK3⟩, hown, x, n, l, hB, hl, hz⟩ := HI5.out
    obtain ⟨u, hu⟩ : ∃ u, t.kids[kk] = u := ⟨_, rfl⟩
    rw [hu] at hsome
    obtain ⟨xs, hCs, hLs⟩ := HR.out.kids
    obtain ⟨g9, o9, xk, rfl, _, _, hcl, hrx⟩ := cells_at hCs hLs hkk
    rw [hu] at hcl hrx
    obtain ⟨⟨A', c'⟩, K', d'⟩ := xk
    have hg9 : g9 < w.heap.size := World.block_lt_of_cell? w _ hcl.c0
    have HRG : Hid (∀ W, Below w.heap.size w W → W.rangeAt g9 (o9 + kk * 6) (cellV u ((A', c'), (K', d')))) := Lib.hid (fun W hb => range_kid hcl hb)
    have HUO := Lib.hid (onT_ok HO.out.1 hsome)
    have HSM := Lib.hid hsome
    have HRX := Lib.hid hrx
    have hkl := kids_le HO.out.2.1
    have hk0 : (0 : Int) ≤ (kk : Int) := by omega
    have hk1 : (kk : Int) < (t.kids.length : Int) := by omega
    have hge : ((kk : Int) ≥ 0) = True := by simp
    have hbn : Below w5.heap.size w5 (w5.alloc (.cells #[.int .i64 0, .string ⟨#[]⟩] 124)) := (Below.refl _ _).alloc (Nat.le_refl _) _
    have hE := Blk.new w5 124 #[.int .i64 0, .string ⟨#[]⟩]
    have hwe : w5.heap.size < (w5.alloc (.cells #[.int .i64 0, .string ⟨#[]⟩] 124)).heap.size := by simp
    have HB5 := Lib.hid hB
    have HL := Lib.hid hl
    have HZ := Lib.hid hz
    have HOW := Lib.hid hown
    have H6 := Lib.hid (And.intro hC0 (And.intro hC1 (And.intro hK0 (And.intro hbw (And.intro hgK hgK3)))))
    clear hS1 hfi hkn hu hcl hrx hCs hLs hB hl hz hown hC0 hC1 hK0 hbw HI5 hsome
    go_wp2_with fail
    obtain ⟨hC0, hC1, hK0, hbw, hgK, hgK3⟩ := H6.out
    refine wp_region_noPanic ?_
    refine wp_region_held (S := fun W => Blk W w.heap.size 34 #[.int .i64 (t.srt : Nat), .bool t.fl, .int .u64 (t.bi : Nat), .string ⟨t.tx.toArray⟩, .slice (some ⟨g9, o9, none⟩) t.kids.length c, .slice K t.kn.length d] ∧ Blk W gK 54 keyCells ∧ Below w.heap.size w W) (by kernel_rfl) ?_
    have hS0 : (fun W => Blk W w.heap.size 34 #[.int .i64 (t.srt : Nat), .bool t.fl, .int .u64 (t.bi : Nat), .string ⟨t.tx.toArray⟩, .slice (some ⟨g9, o9, none⟩) t.kids.length c, .slice K t.kn.length d] ∧ Blk W gK 54 keyCells ∧ Below w.heap.size w W) { (w5.alloc (.cells #[.int .i64 0, .string ⟨#[]⟩] 124)) with drawn := (w5.alloc (.cells #[.int .i64 0, .string ⟨#[]⟩] 124)).drawn + 1 } := ⟨(hC0.below hbn hC0.lt).drew, (hK0.below hbn hK0.lt).drew, (hbw.trans (hbn.mono hbw.size)).drew⟩
    refine held_take (i := 1) (v := .int .i64 (k : Nat)) (some 24) rfl rfl (by kernel_rfl) (by kernel_rfl) (by kernel_rfl) (fun _ _ _ h => h.elim) (Or.inl ⟨by rfl, fun W hW => ?_⟩) hS0 ?_
    ·simp [execOp, Act.eval, go_sem]
    simp only [Act.put, List.setIfInBounds_toArray, List.set_cons_zero, List.set_cons_succ]
    refine held_take (i := 2) (v := .pointer (some ⟨w.heap.size, 4, none⟩)) (some 25) rfl rfl (by kernel_rfl) (by kernel_rfl) (by kernel_rfl) (fun _ _ _ h => h.elim) (Or.inl ⟨by rfl, fun W hW => ?_⟩) hS0 ?_
    ·simp [execOp, Act.eval, go_sem]
    simp only [Act.put, List.setIfInBounds_toArray, List.set_cons_zero, List.set_cons_succ]
    refine held_take (i := 3) (v := .slice (some ⟨g9, o9, none⟩) t.kids.length c) (some 26) rfl rfl (by kernel_rfl) (by kernel_rfl) (by kernel_rfl) (fun _ _ _ h => h.elim) (Or.inl ⟨by rfl, fun W hW => ?_⟩) hS0 ?_
    ·have hl : W.cell? ⟨w.heap.size, 4, none⟩ = some (.slice (some ⟨g9, o9, none⟩) t.kids.length c) := hW.1.cell 4
     simp [execOp, Act.eval, go_sem, hl]
    simp only [Act.put, List.setIfInBounds_toArray, List.set_cons_zero, List.set_cons_succ]
    refine held_take (i := 4) (v := .int .i64 (kk : Nat)) (some 27) rfl rfl (by kernel_rfl) (by kernel_rfl) (by kernel_rfl) (fun _ _ _ h => h.elim) (Or.inl ⟨by rfl, fun W hW => ?_⟩) hS0 ?_
    ·simp [execOp, Act.eval, go_sem]
    simp only [Act.put, List.setIfInBounds_toArray, List.set_cons_zero, List.set_cons_succ]
    refine held_take (i := 5) (v := .pointer (some ⟨g9, o9 + kk * 6, none⟩)) (some 28) rfl rfl (by kernel_rfl) (by kernel_rfl) (by kernel_rfl) (fun _ _ _ h => h.elim) (Or.inl ⟨by rfl, fun W hW => ?_⟩) hS0 ?_
    ·simp [execOp, Act.eval, go_sem]
     intro h8
     exact absurd h8 (by omega)
    simp only [Act.put, List.setIfInBounds_toArray, List.set_cons_zero, List.set_cons_succ]
    refine held_take (i := 6) (v := valV u A' c' K' d') (some 29) rfl rfl (by kernel_rfl) (by kernel_rfl) (by kernel_rfl) (fun _ _ _ h => h.elim) (Or.inl ⟨by rfl, fun W hW => ?_⟩) hS0 ?_
    ·have hl := run_loadAt_mid (P := Tryz.prog) W g9 (o9 + kk * 6) 34 _ _ (HRG.out W hW.2.2) Tryz.underlying34 rfl (by kernel_rfl)
     simp [execOp, Act.eval, hl, valV, cellV]
    simp only [Act.put, List.setIfInBounds_toArray, List.set_cons_zero, List.set_cons_succ]
    refine held_take (i := 7) (v := .int .i64 (k : Nat)) (some 30) rfl rfl (by kernel_rfl) (by kernel_rfl) (by kernel_rfl) (fun _ _ _ h => h.elim) (Or.inl ⟨by rfl, fun W hW => ?_⟩) hS0 ?_
    ·simp [execOp, Act.eval, go_sem]
    simp only [Act.put, List.setIfInBounds_toArray, List.set_cons_zero, List.set_cons_succ]
    refine held_take (i := 8) (v := .pointer (some ⟨gK, k, none⟩)) (some 31) rfl rfl (by kernel_rfl) (by kernel_rfl) (by kernel_rfl) (fun _ _ _ h => h.elim) (Or.inl ⟨by rfl, fun W hW => ?_⟩) hS0 ?_
    ·simp [execOp, Act.eval, go_sem]
     intro h8
     exact absurd h8 (by omega)
    simp only [Act.put, List.setIfInBounds_toArray, List.set_cons_zero, List.set_cons_succ]
    refine held_take (i := 9) (v := .string ⟨(key k).toArray⟩) (some 32) rfl rfl (by kernel_rfl) (by kernel_rfl) (by kernel_rfl) (fun _ _ _ h => h.elim) (Or.inl ⟨by rfl, fun W hW => ?_⟩) hS0 ?_
    ·have hl := keyCells_at hW.2.1 hk8
     simp [execOp, Act.eval, go_sem, hl]
    simp only [Act.put, List.setIfInBounds_toArray, List.set_cons_zero, List.set_cons_succ]
    refine held_take (i := 10) (v := .string ⟨(path k).toArray⟩) (some 33) rfl rfl (by kernel_rfl) (by kernel_rfl) (by kernel_rfl) (fun _ _ _ h => h.elim) (Or.inl ⟨by rfl, fun W hW => ?_⟩) hS0 ?_
    ·have hl := cat_key k hk8 W
     simp [execOp, Act.eval, eqGuard, hl]
    simp only [Act.put, List.setIfInBounds_toArray, List.set_cons_zero, List.set_cons_succ]
    refine wpAnyH_ready (rs := [0]) (by kernel_rfl) (by simp) ?_
    refine AllReadyH.cons rfl (fun KK hKK => ?_) AllReadyH.nil
    split
    rotate_left
    ·rename_i hno
     exact absurd rfl hno
    rename_i hyes
    clear hyes
    have hB6 := (HB5.out.below hbn HB5.out.lt).drew
    refine wp_load_mid (P := Tryz.prog) 58 (.tmp 4) rfl (w.heap.size + 1 + 1) 0 rfl _ _ (blk_range hB6) Tryz.underlying58 rfl (by kernel_rfl) ?_
    refine hKK.out _ _ hS0 (fun _ => ?_)
    clear hKK KK hB6
    simp only [Act.put, List.setIfInBounds_toArray, List.set_cons_zero, List.set_cons_succ]
    refine wpAnyH_ready (rs := [11]) (by kernel_rfl) (by simp) ?_
    refine AllReadyH.cons rfl (fun KK hKK => ?_) AllReadyH.nil
    go_simp
    refine (rread_any (bAt t k) x n l k u A' c' K' d' _ (rdva_below HRX.out hS0.2.2) HL.out HUO.out.1 HUO.out.2 hk8).mono ?_
    rintro e w9 ⟨hb9, x', n', l', en, ep, rfl, hl', hor⟩
    have hS1 : (fun W => Blk W w.heap.size 34 #[.int .i64 (t.srt : Nat), .bool t.fl, .int .u64 (t.bi : Nat), .string ⟨t.tx.toArray⟩, .slice (some ⟨g9, o9, none⟩) t.kids.length c, .slice K t.kn.length d] ∧ Blk W gK 54 keyCells ∧ Below w.heap.size w W) w9 := ⟨hS0.1.below hb9 hS0.1.lt, hS0.2.1.below hb9 hS0.2.1.lt, hS0.2.2.trans (hb9.mono hS0.2.2.size)⟩
    have HMID := Lib.hid (rmid_of hk8 HSM.out H6.out HOW.out HB5.out HZ.out (hbn.trans ((drewN_below (w5.alloc (.cells #[.int .i64 0, .string ⟨#[]⟩] 124)) 1).mono hbn.size)) hwe hb9 hl' hor)
    have hB9 := ((HB5.out.below hbn HB5.out.lt).drew).below hb9 (HB5.out.below hbn HB5.out.lt).lt
    have hE9 := hE.drew.below hb9 hE.lt
    refine hKK.out _ _ hS1 (fun _ => ?_)
    clear hKK KK hS0 hor H6 HOW HB5 HZ HSM HRX HUO HRG hE
    have hone := rCells_one (b := bAt t k) (x := x') (n := n') hl'
    have hzs : (rCells (bAt t k) x' n' l').size = (rCells (bAt t k) x n l).size := rfl
    have hzi : (Tryz.prog.info? 58).map (·.size) = some (rCells (bAt t k) x' n' l').size := by kernel_rfl
    have hbk := fun (W : World) (hW : Blk W (w.heap.size + 1 + 1) 58 (rCells (bAt t k) x' n' l')) => rCells_at_b hW hk8
    generalize bAt t k k = bk at hbk
    generalize rCells (bAt t k) x' n' l' = ds at *
    refine held_take (i := 12) (v := .tuple #[.agg ds, .agg #[.int .i64 en, .string ⟨ep.toArray⟩]]) (some 22) rfl rfl (by kernel_rfl) (by kernel_rfl) (by kernel_rfl) (fun _ _ _ h => h.elim) (Or.inl ⟨by rfl, fun W hW => ?_⟩) hS1 ?_
    ·simp [execOp, Act.eval, go_sem]
    simp only [Act.put, List.setIfInBounds_toArray, List.set_cons_zero, List.set_cons_succ]
    refine held_take (i := 13) (v := .agg ds) (some 35) rfl rfl (by kernel_rfl) (by kernel_rfl) (by kernel_rfl) (fun _ _ _ h => h.elim) (Or.inl ⟨by rfl, fun W hW => ?_⟩) hS1 ?_
    ·simp [execOp, Act.eval, go_sem]
    simp only [Act.put, List.setIfInBounds_toArray, List.set_cons_zero, List.set_cons_succ]
    refine held_take (i := 14) (v := .agg #[.int .i64 en, .string ⟨ep.toArray⟩]) (some 36) rfl rfl (by kernel_rfl) (by kernel_rfl) (by kernel_rfl) (fun _ _ _ h => h.elim) (Or.inl ⟨by rfl, fun W hW => ?_⟩) hS1 ?_
    ·simp [execOp, Act.eval, go_sem]
    simp only [Act.put, List.setIfInBounds_toArray, List.set_cons_zero, List.set_cons_succ]
    refine wpAnyH_ready (rs := [15]) (by kernel_rfl) (by simp) ?_
    refine AllReadyH.cons rfl (fun KK hKK => ?_) AllReadyH.nil
    have hst := run_storeVar_row (P := Tryz.prog) w9 (w.heap.size + 1 + 1) 58 58 _ ds hB9 hzs hone hzi
    have hD9 : Blk (putCells w9 (w.heap.size + 1 + 1) ds.toList 0) (w.heap.size + 1 + 1) 58 ds := blk_stored9 hB9 hzs
    have hE8 := putCells_far (g := (w.heap.size + 1 + 1)) (by omega) ds.toList w9 0 _ _ hE9
    have hS2 : (fun W => Blk W w.heap.size 34 #[.int .i64 (t.srt : Nat), .bool t.fl, .int .u64 (t.bi : Nat), .string ⟨t.tx.toArray⟩, .slice (some ⟨g9, o9, none⟩) t.kids.length c, .slice K t.kn.length d] ∧ Blk W gK 54 keyCells ∧ Below w.heap.size w W) (putCells w9 (w.heap.size + 1 + 1) ds.toList 0) := ⟨putCells_far (by omega) ds.toList w9 0 _ _ hS1.1, putCells_far (by omega) ds.toList w9 0 _ _ hS1.2.1, putCells_below (by omega) ds.toList w w9 0 hS1.2.2⟩
    split
    rotate_left
    ·rename_i hno
     exact absurd rfl hno
    rename_i hyes
    clear hyes
    unfold Oper.wp
    simp [execOp, Act.eval, Act.put, Instr.storeAt, Instr.sureAddr, hst]
    simp only [Oper.upon]
    refine hKK.out _ _ hS2 (fun _ => ?_)
    clear hKK KK hst hS1 hB9 hE9
    generalize putCells w9 (w.heap.size + 1 + 1) ds.toList 0 = w8 at *
    refine wpAnyH_ready (rs := [16]) (by kernel_rfl) (by simp) ?_
    refine AllReadyH.cons rfl (fun KK hKK => ?_) AllReadyH.nil
    have hst := run_storeVar_row (P := Tryz.prog) w8 w5.heap.size 124 124 #[.int .i64 0, .string ⟨#[]⟩] #[.int .i64 en, .string ⟨ep.toArray⟩] hE8 rfl (by simp [Value.oneCell']) (by kernel_rfl)
    have hDf := putCells_far (g := w5.heap.size) (by omega) [.int .i64 en, .string ⟨ep.toArray⟩] w8 0 _ _ hD9
    have hEf : Blk (putCells w8 w5.heap.size [.int .i64 en, .string ⟨ep.toArray⟩] 0) w5.heap.size 124 #[.int .i64 en, .string ⟨ep.toArray⟩] := blk_stored9 (ds := #[.int .i64 en, .string ⟨ep.toArray⟩]) hE8 rfl
    have hS3 : (fun W => Blk W w.heap.size 34 #[.int .i64 (t.srt : Nat), .bool t.fl, .int .u64 (t.bi : Nat), .string ⟨t.tx.toArray⟩, .slice (some ⟨g9, o9, none⟩) t.kids.length c, .slice K t.kn.length d] ∧ Blk W gK 54 keyCells ∧ Below w.heap.size w W) (putCells w8 w5.heap.size [.int .i64 en, .string ⟨ep.toArray⟩] 0) := ⟨putCells_far (by omega) _ w8 0 _ _ hS2.1, putCells_far (by omega) _ w8 0 _ _ hS2.2.1, putCells_below (by have := hbw.size; omega) _ w w8 0 hS2.2.2⟩
    split
    rotate_left
    ·rename_i hno
     exact absurd rfl hno
    rename_i hyes
    clear hyes
    unfold Oper.wp
    simp [execOp, Act.eval, Act.put, Instr.storeAt, Instr.sureAddr, hst]
    simp only [Oper.upon]
    refine hKK.out _ _ hS3 (fun _ => ?_)
    clear hKK KK hst hS2 hE8 hD9 hS3
    have hMID := HMID.out
    generalize putCells w8 w5.heap.size [.int .i64 en, .string ⟨ep.toArray⟩] 0 = w7 at *
    refine wpAnyH_done (by kernel_rfl) ?_ _
    refine NoPanic.normal ?_
    have b0 := hbk _ hDf
    have b1 := hDf.frozen k
    have hEg := hEf.far (p := ⟨(w.heap.size + 1 + 1), k, none⟩) (by show w5.heap.size ≠ (w.heap.size + 1 + 1); omega) (.bool true)
    have t0 := hEg.cell 0
    have t1 := hEg.cell 1
    simp at t0 t1
    have hwe7 := hEf.lt
    clear HMID
    by_cases he0 : en = 0
    ·subst he0
     have HN := Lib.hid (rmid_in hMID)
     clear hMID hbk hone hzs hzi hl'
     go_wp2
     go_roundw
     case rel => exact ⟨k + 1, by omega, by go_num, HN⟩
     case measure => simp [intOf]; omega
    ·have hne : (en != 0) = true := by simpa using he0
     have hown := hMID.2.1
     obtain ⟨A5, q5, hv5⟩ := own_sliceP hown
     subst hv5
     have HM := Lib.hid hMID
     have hlen : (readAt t k).2.length ≤ 8 := by have := (readAt_len t k (by omega)).2; omega
     have HNE := Lib.hid he0
     clear hbk hone hzs hzi hl' hMID he0
     generalize hq : (readAt t k).2 = q at *
     have HOWN := Lib.hid hown
     have hgk := HM.out.1.2.2.2.2.1
     have hnew := heap_alloc_new (w7.setCell ⟨(w.heap.size + 1 + 1), k, none⟩ (.bool true)) (.cells #[.int .i64 en, .string ⟨ep.toArray⟩] 124)
     rw [World.size_setCell] at hnew
     clear hown
     go_wp2_with (at_builtin; go_must (refine wpList_append_own _ rfl (.tmp 43) (.tmp 45) _ rfl (gK + 1) 124 i0 _ 2 24 Tryz.underlying59 hi0 hz0 hz1 hz2 rfl (by omega) (.slice A5 q.length q5) q.length (trCells q) rfl (HOWN.out.alloc _) ⟨w7.heap.size, 0, none⟩ 1 1 [.int .i64 en, .string ⟨ep.toArray⟩] rfl rfl (World.news_of_block (cs := #[.int .i64 en, .string ⟨ep.toArray⟩]) (t := 124) (fr := (0, 0)) hnew) (by simp [Value.oneCell']) (by unfold maxLen; omega) (by omega) (by simp; omega) ?_); intro v9 w9 hown9 hgr9 hnil9)
     have HN : Hid (RIn t (some ⟨g9, o9, none⟩) c K d w gK (k + 1) v9 w9) := Lib.hid (by
      refine rmid_app (rmid_below HM.out ((Below.refl _ _).alloc (Nat.le_refl _) _)) HNE.out hgr9 (fun g hg => (HOWN.out.lt g hg).1) ?_ ?_
      ·rw [hq, List.length_append, trCells_snoc]
       exact hown9
      ·exact hgr9.size)
     clear hown9 hgr9 hnil9 HM HOWN HNE
     go_wp2
     go_roundw
     case rel => exact ⟨k + 1, by omega, by go_num, HN⟩
     case measure => simp [intOf]; omega
  ·obtain rfl : k = 8 := by omega
   obtain ⟨⟨hC0, hC1, hK0, hbw, hgK, hgK3⟩, hown, x, n, l, hB, hl, hz⟩ := HI.out
   have HOW := Lib.hid hown
   have HZ := Lib.hid (And.intro hl hz)
   have hone := rCells_one (b := bAt t 8) (x := x) (n := n) hl
   have hzs : (rCells (bAt t 8) x n l).size = (zero32 : Array Value).size := rfl
   have hzi : (Tryz.prog.info? 58).map (·.size) = some (rCells (bAt t 8) x n l).size := by kernel_rfl
   have hbe : bAt t 8 = bAt t 8 := rfl
   generalize hds : rCells (bAt t 8) x n l = ds at *
   have HDS := Lib.hid hds
   have HBW := Lib.hid hbw
   have hBu := hB
   unfold Blk at hBu
   have hS : Blk (putCells wr (w.heap.size + 1) ds.toList 0) (w.heap.size + 1) 58 ds := blk_stored9 hC1 hzs
   clear HI hown hl hz hds hC0 hK0 hbw hbe
   go_wp2_with (first | refine wpList_load_row rfl 58 (.tmp 4) rfl _ rfl 58 _ (0, 0) _ hBu Tryz.underlying58 rfl hzi ?_ | refine wpList_store_row rfl 58 (.tmp 2) (.tmp 47) rfl (w.heap.size + 1) 58 zero32 ds rfl rfl hC1 hzs hone hzi rfl ?_)
   have l1 := run_loadVar_row (P := Tryz.prog) (putCells wr (w.heap.size + 1) ds.toList 0) (w.heap.size + 1) 58 58 ds (0, 0) _ hS Tryz.underlying58 rfl hzi
   have hfr : ∀ g ty cs, gK + 1 ≤ g → Blk wr g ty cs → Blk (putCells wr (w.heap.size + 1) ds.toList 0) g ty cs := fun g ty cs hg hB => putCells_far (by omega) _ _ 0 _ _ hB
   refine bodyPost_ret (v := .tuple #[.agg ds, u5]) (by simp [results, Tryz.results12, asAddr, l1]) rfl ⟨⟨x, n, l, u5, ?_, HZ.out.1, own_frameS HOW.out (by omega) hfr, fun he => ?_⟩, putCells_below (by omega) _ _ _ 0 HBW.out⟩
   ·rw [← HDS.out, show rCells (bAt t 8) x n l = rCells (thereT t) x n l from by simp [rCells, bAt]]
   ·obtain ⟨u4, u7, hd, o4, o7⟩ := HZ.out.2 he
    exact ⟨u4, u7, hd, own_frameS o4 (by omega) hfr, own_frameS o7 (by omega) hfr⟩
end Nd
end Go.Proofs.YtobaldkipnhlpaaGreatDoor
