/-
  The reference of layer 13: Lead and Find, with the blocks in which a found value lies (printed out of PkI and PkK).
-/
import Derived.Test.YtbajkglacfheiaaGreatDoorTA27
set_option linter.unusedVariables false
set_option maxRecDepth 100000
set_option maxHeartbeats 16000000
namespace Go.Proofs.YtbajkglacfheiaaGreatDoor
open Go.RowKit Mem Utf Ref3 Idx Tok TokC
namespace Nd
def RLeadS (S : Nat → Prop) (w0 : World) (t : Tr) (ts : List Tx) (w : World) (e : Ending) (w' : World) : Prop :=
 (match leadT t ts 0 with
  | .inl n => e = .returned (.tuple #[noVal, .int .i64 n])
  | .inr u => ∃ A c K d, e = .returned (.tuple #[valV u A c K d, .int .i64 ts.length]) ∧ RdV S w0 u ((A, c), (K, d)) ∧ u.Ok ∧ u.fit = true) ∧ Below w.heap.size w w'
theorem rleadS_none {S : Nat → Prop} {w0 : World} {t : Tr} {ts : List Tx} {w w' : World} {k : Nat} (h : leadT t ts 0 = .inl k) (hb : Below w.heap.size w w') : RLeadS S w0 t ts w (.returned (.tuple #[noVal, .int .i64 k])) w' := by
 unfold RLeadS
 rw [h]
 exact ⟨rfl, hb⟩
theorem rleadS_some {S : Nat → Prop} {w0 : World} {t u : Tr} {ts : List Tx} {w w' : World} {n : Nat} {A : Option Addr} {c : Nat} {K : Option Addr} {d : Nat} (h : leadT t ts 0 = .inr u) (hr : RdV S w0 u ((A, c), (K, d))) (ho : u.Ok ∧ u.fit = true) (hn : ts.length = n) (hb : Below w.heap.size w w') : RLeadS S w0 t ts w (.returned (.tuple #[valV u A c K d, .int .i64 n])) w' := by
 unfold RLeadS
 rw [h]
 subst hn
 exact ⟨⟨A, c, K, d, rfl, hr, ho⟩, hb⟩
theorem rleadS_any (S : Nat → Prop) (t : Tr) (A : Option Addr) (c : Nat) (K : Option Addr) (d : Nat) (TA : Option Addr) (tc : Nat) (ts : List Tx) (w0 w : World) (h : RdV S w0 t ((A, c), (K, d))) (hb0 : Below w0.heap.size w0 w) (ho : t.Ok) (hf : t.fit = true)
  (hR : Rd w (.slice TA ts.length tc) ts) (hx : ∀ x ∈ ts, x.length ≤ 281474976710656) (hn : ts.length ≤ 65536) :
  Calls Tryz.prog 104 #[valV t A c K d, .slice TA ts.length tc] w (RLeadS S w0 t ts w) := by
 have hba : Below w.heap.size w (w.alloc (.cells #[.int .i64 (t.srt : Nat), .bool t.fl, .int .u64 (t.bi : Nat), .string ⟨t.tx.toArray⟩, .slice A t.kids.length c, .slice K t.kn.length d] 79)) := (Below.refl _ _).alloc (Nat.le_refl _) _
 have hbb : Below w.heap.size w ((w.alloc (.cells #[.int .i64 (t.srt : Nat), .bool t.fl, .int .u64 (t.bi : Nat), .string ⟨t.tx.toArray⟩, .slice A t.kids.length c, .slice K t.kn.length d] 79)).alloc (.cells #[.int .i64 0, .bool false, .int .u64 0, .string ⟨#[]⟩, .slice none 0 0, .slice none 0 0] 79)) := hba.alloc hba.size _
 have hB2 : Blk ((w.alloc (.cells #[.int .i64 (t.srt : Nat), .bool t.fl, .int .u64 (t.bi : Nat), .string ⟨t.tx.toArray⟩, .slice A t.kids.length c, .slice K t.kn.length d] 79)).alloc (.cells #[.int .i64 0, .bool false, .int .u64 0, .string ⟨#[]⟩, .slice none 0 0, .slice none 0 0] 79)) w.heap.size 79 #[.int .i64 (t.srt : Nat), .bool t.fl, .int .u64 (t.bi : Nat), .string ⟨t.tx.toArray⟩, .slice A t.kids.length c, .slice K t.kn.length d] := (Blk.new w 79 #[.int .i64 (t.srt : Nat), .bool t.fl, .int .u64 (t.bi : Nat), .string ⟨t.tx.toArray⟩, .slice A t.kids.length c, .slice K t.kn.length d]).alloc _
 have hB4 : Blk ((w.alloc (.cells #[.int .i64 (t.srt : Nat), .bool t.fl, .int .u64 (t.bi : Nat), .string ⟨t.tx.toArray⟩, .slice A t.kids.length c, .slice K t.kn.length d] 79)).alloc (.cells #[.int .i64 0, .bool false, .int .u64 0, .string ⟨#[]⟩, .slice none 0 0, .slice none 0 0] 79)) (w.heap.size + 1) 79 #[.int .i64 0, .bool false, .int .u64 0, .string ⟨#[]⟩, .slice none 0 0, .slice none 0 0] := by
  have := Blk.new (w.alloc (.cells #[.int .i64 (t.srt : Nat), .bool t.fl, .int .u64 (t.bi : Nat), .string ⟨t.tx.toArray⟩, .slice A t.kids.length c, .slice K t.kn.length d] 79)) 79 #[.int .i64 0, .bool false, .int .u64 0, .string ⟨#[]⟩, .slice none 0 0, .slice none 0 0]
  rw [World.size_alloc] at this
  exact this
 have HINI := Lib.hid (And.intro hB2 (And.intro hB4 hbb))
 have HR := Lib.hid h
 have HB0 := Lib.hid hb0
 have HO := Lib.hid (And.intro ho hf)
 have HTS := Lib.hid hR
 have HX := Lib.hid hx
 obtain ⟨n, hn0⟩ : ∃ n, ts.length = n := ⟨_, rfl⟩
 rw [hn0] at hn
 have HN0 := Lib.hid hn0
 rw [hn0]
 clear h hb0 ho hf hR hx hn0 hba hbb hB2 hB4
 go_enter Tryz.func104, Tryz.ntmps104
 go_upto_region 1 with fail
 generalize ((w.alloc (.cells #[.int .i64 (t.srt : Nat), .bool t.fl, .int .u64 (t.bi : Nat), .string ⟨t.tx.toArray⟩, .slice A t.kids.length c, .slice K t.kn.length d] 79)).alloc (.cells #[.int .i64 0, .bool false, .int .u64 0, .string ⟨#[]⟩, .slice none 0 0, .slice none 0 0] 79)) = w1 at *
 go_wp2_with fail
 go_loopw [6] (fun c6 wr => ∃ (k : Nat) (u : Tr) (A2 : Option Addr) (c2 : Nat) (K2 : Option Addr) (d2 : Nat), k ≤ n ∧ c6 = .int .i64 k ∧ Hid (leadT t ts 0 = leadT u (ts.drop k) k) ∧ Hid ((u.Ok ∧ u.fit = true) ∧ RdV S w0 u ((A2, c2), (K2, d2))) ∧ Hid (Blk wr w.heap.size 79 #[.int .i64 (u.srt : Nat), .bool u.fl, .int .u64 (u.bi : Nat), .string ⟨u.tx.toArray⟩, .slice A2 u.kids.length c2, .slice K2 u.kn.length d2] ∧ Blk wr (w.heap.size + 1) 79 #[.int .i64 0, .bool false, .int .u64 0, .string ⟨#[]⟩, .slice none 0 0, .slice none 0 0] ∧ Below w.heap.size w wr)) (fun c6 _ => n - (intOf c6).toNat)
 case atStart => exact ⟨0, t, A, c, K, d, Nat.zero_le _, rfl, Lib.hid rfl, Lib.hid ⟨HO.out, HR.out⟩, Lib.hid HINI.out⟩
 case round =>
  clear HINI HO HR
  obtain ⟨k, u, A2, c2, K2, d2, hk, rfl, HL, HU, HI⟩ := hrel
  have b0 : wr.cell? ⟨w.heap.size, 0, none⟩ = some (.int .i64 (u.srt : Nat)) := HI.out.1.cell 0
  have b1 : wr.cell? ⟨w.heap.size, 1, none⟩ = some (.bool u.fl) := HI.out.1.cell 1
  have b2 : wr.cell? ⟨w.heap.size, 2, none⟩ = some (.int .u64 (u.bi : Nat)) := HI.out.1.cell 2
  have b3 : wr.cell? ⟨w.heap.size, 3, none⟩ = some (.string ⟨u.tx.toArray⟩) := HI.out.1.cell 3
  have b4 : wr.cell? ⟨w.heap.size, 4, none⟩ = some (.slice A2 u.kids.length c2) := HI.out.1.cell 4
  have b5 : wr.cell? ⟨w.heap.size, 5, none⟩ = some (.slice K2 u.kn.length d2) := HI.out.1.cell 5
  by_cases hlt : k < n
  ·have hkt : k < ts.length := by have := HN0.out; omega
   obtain ⟨g', o, rfl, hc⟩ := rd_at HTS.out hkt
   have hcw := (HI.out.2.2.cell (p := ⟨g', o + k, none⟩) (World.block_lt_of_cell? w _ hc)).trans hc
   have hxk := HX.out _ (List.getElem_mem hkt)
   have hl := HL.out
   rw [List.drop_eq_getElem_cons hkt, lead_cons] at hl
   generalize ts[k] = x at hcw hxk hl
   have HXL := Lib.hid hxk
   have HLN := Lib.hid hl
   have HKN := Lib.hid (show u.kn.length ≤ 1099511627776 by have := kn_le HU.out.1.1 HU.out.1.2; omega)
   have HUW := Lib.hid (rdva_below (RdV.toA HU.out.2) (HB0.out.trans (HI.out.2.2.mono HB0.out.size)))
   clear hc hxk hl hkt
   go_upto_region 4 with fail
   refine wp_region_held_drew (S := (fun w' => w'.cell? ⟨w.heap.size, 0, none⟩ = some (.int .i64 (u.srt : Nat)) ∧ w'.cell? ⟨w.heap.size, 1, none⟩ = some (.bool u.fl) ∧ w'.cell? ⟨w.heap.size, 2, none⟩ = some (.int .u64 (u.bi : Nat)) ∧ w'.cell? ⟨w.heap.size, 3, none⟩ = some (.string ⟨u.tx.toArray⟩) ∧ w'.cell? ⟨w.heap.size, 4, none⟩ = some (.slice A2 u.kids.length c2) ∧ w'.cell? ⟨w.heap.size, 5, none⟩ = some (.slice K2 u.kn.length d2) ∧ w'.cell? ⟨g', o + k, none⟩ = some (.string ⟨x.toArray⟩) ∧ Below wr.heap.size wr w')) (by kernel_rfl) ⟨b0, b1, b2, b3, b4, b5, hcw, drewN_below _ 1⟩ (fun hHeld => ?_)
   refine held_take (i := 0) (v := ?_) (some 14) rfl rfl (by kernel_rfl) (by kernel_rfl) (by kernel_rfl) (fun _ _ _ h => h) (Or.inl ⟨by rfl, ?_⟩) hHeld ?_
   rotate_left
   ·intro w hSw
    try dsimp only at hSw
    go_simp
    try with_reducible rfl
   simp only [Act.put, List.setIfInBounds_toArray, List.set_cons_zero, List.set_cons_succ]
   refine held_take (i := 1) (v := ?_) (some 15) rfl rfl (by kernel_rfl) (by kernel_rfl) (by kernel_rfl) (fun _ _ _ h => h) (Or.inl ⟨by rfl, ?_⟩) hHeld ?_
   rotate_left
   ·intro w hSw
    try dsimp only at hSw
    go_simp
    try with_reducible rfl
   simp only [Act.put, List.setIfInBounds_toArray, List.set_cons_zero, List.set_cons_succ]
   refine held_take (i := 2) (v := ?_) (some 16) rfl rfl (by kernel_rfl) (by kernel_rfl) (by kernel_rfl) (fun _ _ _ h => h) (Or.inl ⟨by rfl, ?_⟩) hHeld ?_
   rotate_left
   ·intro w hSw
    try dsimp only at hSw
    go_simp
    try with_reducible rfl
   simp only [Act.put, List.setIfInBounds_toArray, List.set_cons_zero, List.set_cons_succ]
   refine held_take (i := 3) (v := ?_) (some 17) rfl rfl (by kernel_rfl) (by kernel_rfl) (by kernel_rfl) (fun _ _ _ h => h) (Or.inl ⟨by rfl, ?_⟩) hHeld ?_
   rotate_left
   ·intro w hSw
    try dsimp only at hSw
    go_simp
    try with_reducible rfl
   simp only [Act.put, List.setIfInBounds_toArray, List.set_cons_zero, List.set_cons_succ]
   refine held_take (i := 4) (v := ?_) (some 18) rfl rfl (by kernel_rfl) (by kernel_rfl) (by kernel_rfl) (fun _ _ _ h => h) (Or.inl ⟨by rfl, ?_⟩) hHeld ?_
   rotate_left
   ·intro w hSw
    try dsimp only at hSw
    go_simp
    try with_reducible rfl
   simp only [Act.put, List.setIfInBounds_toArray, List.set_cons_zero, List.set_cons_succ]
   refine wpAnyH_ready (rs := [5]) (by kernel_rfl) (by simp) ?_
   refine AllReadyH.cons rfl (fun K hK => ?_) AllReadyH.nil
   go_simp
   ((with_reducible refine (ron_any u A2 c2 K2 d2 x _ (rdva_below HUW.out hHeld.2.2.2.2.2.2.2) HKN.out HXL.out).mono ?_); rintro e w2' ⟨rfl, hb2⟩; dsimp only)
   replace hHeld := sev_below rfl rfl rfl rfl rfl rfl rfl hHeld hb2
   refine hK.out _ _ hHeld (fun _ => ?_)
   clear hK K
   refine held_take (i := 6) (v := ?_) (some 7) rfl rfl (by kernel_rfl) (by kernel_rfl) (by kernel_rfl) (fun _ _ _ h => h) (Or.inl ⟨by rfl, ?_⟩) hHeld ?_
   rotate_left
   ·intro w hSw
    try dsimp only at hSw
    go_simp
    try with_reducible rfl
   simp only [Act.put, List.setIfInBounds_toArray, List.set_cons_zero, List.set_cons_succ]
   refine wpAnyH_done (by kernel_rfl) ?_ _
   obtain ⟨p0, p1, p2, p3, p4, p5, _, hbw⟩ := hHeld
   have hbw2 := HI.out.2.2.trans (hbw.mono HI.out.2.2.size)
   have hB2 := HI.out.1.below hbw HI.out.1.lt
   have hB4 := HI.out.2.1.below hbw HI.out.2.1.lt
   have HB22 := Lib.hid hB2
   have HB42 := Lib.hid hB4
   have HBW2 := Lib.hid hbw2
   have hs2 := hbw2.size
   have hk4 := hB4.lt
   rcases onT_onR x u HU.out.1.1 with ⟨hneg, hno⟩ | ⟨j, hj, hpos, hso⟩
   ·have HLE : Hid (leadT t ts 0 = .inl k) := Lib.hid (by rw [HLN.out, hno])
    generalize onR x u = r at hneg ⊢
    have z0 : w2'.cell? ⟨w.heap.size + 1, 0, none⟩ = some (.int .i64 0) := hB4.cell 0
    have z1 : w2'.cell? ⟨w.heap.size + 1, 1, none⟩ = some (.bool false) := hB4.cell 1
    have z2 : w2'.cell? ⟨w.heap.size + 1, 2, none⟩ = some (.int .u64 0) := hB4.cell 2
    have z3 : w2'.cell? ⟨w.heap.size + 1, 3, none⟩ = some (.string ⟨#[]⟩) := hB4.cell 3
    have z4 : w2'.cell? ⟨w.heap.size + 1, 4, none⟩ = some (.slice none 0 0) := hB4.cell 4
    have z5 : w2'.cell? ⟨w.heap.size + 1, 5, none⟩ = some (.slice none 0 0) := hB4.cell 5
    have q0 := hB4.frozen 0
    have q1 := hB4.frozen 1
    have q2 := hB4.frozen 2
    have q3 := hB4.frozen 3
    have q4 := hB4.frozen 4
    have q5 := hB4.frozen 5
    clear hno hbw hbw2 hB2 hB4 p0 p1 p2 p3 p4 p5 b0 b1 b2 b3 b4 b5 hb2
    go_wp2
    have hf := six_blk HB42.out (.int .i64 0) (.bool false) (.int .u64 0) (.string ⟨#[]⟩) (.slice none 0 0) (.slice none 0 0)
    have hbel := six_below HBW2.out (show w.heap.size ≤ w.heap.size + 1 by omega) (.int .i64 0) (.bool false) (.int .u64 0) (.string ⟨#[]⟩) (.slice none 0 0) (.slice none 0 0)
    unfold six at hf hbel
    generalize ((((((w2'.setCell ⟨w.heap.size + 1, 0, none⟩ (.int .i64 0)).setCell ⟨w.heap.size + 1, 1, none⟩ (.bool false)).setCell ⟨w.heap.size + 1, 2, none⟩ (.int .u64 0)).setCell ⟨w.heap.size + 1, 3, none⟩ (.string ⟨#[]⟩)).setCell ⟨w.heap.size + 1, 4, none⟩ (.slice none 0 0)).setCell ⟨w.heap.size + 1, 5, none⟩ (.slice none 0 0)) = wf at *
    have d0 : wf.cell? ⟨w.heap.size + 1, 0, none⟩ = some (.int .i64 0) := hf.cell 0
    have d1 : wf.cell? ⟨w.heap.size + 1, 1, none⟩ = some (.bool false) := hf.cell 1
    have d2 : wf.cell? ⟨w.heap.size + 1, 2, none⟩ = some (.int .u64 0) := hf.cell 2
    have d3 : wf.cell? ⟨w.heap.size + 1, 3, none⟩ = some (.string ⟨#[]⟩) := hf.cell 3
    have d4 : wf.cell? ⟨w.heap.size + 1, 4, none⟩ = some (.slice none 0 0) := hf.cell 4
    have d5 : wf.cell? ⟨w.heap.size + 1, 5, none⟩ = some (.slice none 0 0) := hf.cell 5
    refine bodyPost_ret (v := .tuple #[noVal, .int .i64 k]) ?_ rfl (rleadS_none HLE.out hbel)
    simp [results, Tryz.results104, go_sem, d0, d1, d2, d3, d4, d5]
   ·have hj1 : ((j : Int) < 0) = False := eq_false (by omega)
    have hj2 : (j : Int) < (u.kids.length : Int) := by omega
    have hj3 : (0 : Int) ≤ (j : Int) := by omega
    obtain ⟨xs, hcs, hrl⟩ := RdV.kids HU.out.2
    obtain ⟨g2, o2, ⟨⟨A3, c3⟩, K3, d3⟩, hA, _, _, hcv, hrdv⟩ := cells_at hcs hrl hj
    have hA' : A2 = some ⟨g2, o2, none⟩ := hA
    subst hA'
    obtain ⟨r0, r1, r2, r3, r4, r5⟩ := hcv.below (HB0.out.trans (hbw2.mono HB0.out.size))
    have huk := onT_ok HU.out.1.1 hso
    have HLE : Hid (leadT t ts 0 = leadT u.kids[j] (ts.drop (k + 1)) (k + 1)) := Lib.hid (by rw [HLN.out, hso])
    rw [hpos]
    generalize u.kids[j] = u2 at *
    have HUK := Lib.hid (And.intro huk hrdv)
    have HN2 := Lib.hid (six_blk HB22.out (.int .i64 (u2.srt : Nat)) (.bool u2.fl) (.int .u64 (u2.bi : Nat)) (.string ⟨u2.tx.toArray⟩) (.slice A3 u2.kids.length c3) (.slice K3 u2.kn.length d3))
    have HN4 := Lib.hid (six_far HB42.out (show w.heap.size + 1 ≠ w.heap.size by omega) (.int .i64 (u2.srt : Nat)) (.bool u2.fl) (.int .u64 (u2.bi : Nat)) (.string ⟨u2.tx.toArray⟩) (.slice A3 u2.kids.length c3) (.slice K3 u2.kn.length d3))
    have HNB := Lib.hid (six_below HBW2.out (Nat.le_refl w.heap.size) (.int .i64 (u2.srt : Nat)) (.bool u2.fl) (.int .u64 (u2.bi : Nat)) (.string ⟨u2.tx.toArray⟩) (.slice A3 u2.kids.length c3) (.slice K3 u2.kn.length d3))
    have q0 := hB2.frozen 0
    have q1 := hB2.frozen 1
    have q2 := hB2.frozen 2
    have q3 := hB2.frozen 3
    have q4 := hB2.frozen 4
    have q5 := hB2.frozen 5
    clear hso hpos hcs hrl hA hcv hrdv huk hbw hbw2 hB2 hB4 hb2 b0 b1 b2 b3 b4 b5
    go_wp2
    go_roundw
    case rel => exact ⟨k + 1, u2, A3, c3, K3, d3, by omega, by go_num, HLE, HUK, Lib.hid ⟨HN2.out, HN4.out, HNB.out⟩⟩
    case measure => simp [intOf]; omega
  ·obtain rfl : k = n := by omega
   have HLE : Hid (leadT t ts 0 = .inr u) := Lib.hid (by rw [HL.out, List.drop_of_length_le (by have := HN0.out; omega), lead_nil])
   have z0 : wr.cell? ⟨w.heap.size + 1, 0, none⟩ = some (.int .i64 0) := HI.out.2.1.cell 0
   have z1 : wr.cell? ⟨w.heap.size + 1, 1, none⟩ = some (.bool false) := HI.out.2.1.cell 1
   have z2 : wr.cell? ⟨w.heap.size + 1, 2, none⟩ = some (.int .u64 0) := HI.out.2.1.cell 2
   have z3 : wr.cell? ⟨w.heap.size + 1, 3, none⟩ = some (.string ⟨#[]⟩) := HI.out.2.1.cell 3
   have z4 : wr.cell? ⟨w.heap.size + 1, 4, none⟩ = some (.slice none 0 0) := HI.out.2.1.cell 4
   have z5 : wr.cell? ⟨w.heap.size + 1, 5, none⟩ = some (.slice none 0 0) := HI.out.2.1.cell 5
   have q0 := HI.out.2.1.frozen 0
   have q1 := HI.out.2.1.frozen 1
   have q2 := HI.out.2.1.frozen 2
   have q3 := HI.out.2.1.frozen 3
   have q4 := HI.out.2.1.frozen 4
   have q5 := HI.out.2.1.frozen 5
   have hk4 := HI.out.2.1.lt
   go_wp2
   have hf := six_blk HI.out.2.1 (.int .i64 (u.srt : Nat)) (.bool u.fl) (.int .u64 (u.bi : Nat)) (.string ⟨u.tx.toArray⟩) (.slice A2 u.kids.length c2) (.slice K2 u.kn.length d2)
   have hbel := six_below HI.out.2.2 (show w.heap.size ≤ w.heap.size + 1 by omega) (.int .i64 (u.srt : Nat)) (.bool u.fl) (.int .u64 (u.bi : Nat)) (.string ⟨u.tx.toArray⟩) (.slice A2 u.kids.length c2) (.slice K2 u.kn.length d2)
   unfold six at hf hbel
   generalize ((((((wr.setCell ⟨w.heap.size + 1, 0, none⟩ (.int .i64 (u.srt : Nat))).setCell ⟨w.heap.size + 1, 1, none⟩ (.bool u.fl)).setCell ⟨w.heap.size + 1, 2, none⟩ (.int .u64 (u.bi : Nat))).setCell ⟨w.heap.size + 1, 3, none⟩ (.string ⟨u.tx.toArray⟩)).setCell ⟨w.heap.size + 1, 4, none⟩ (.slice A2 u.kids.length c2)).setCell ⟨w.heap.size + 1, 5, none⟩ (.slice K2 u.kn.length d2)) = wf at *
   have dd0 : wf.cell? ⟨w.heap.size + 1, 0, none⟩ = some (.int .i64 (u.srt : Nat)) := hf.cell 0
   have dd1 : wf.cell? ⟨w.heap.size + 1, 1, none⟩ = some (.bool u.fl) := hf.cell 1
   have dd2 : wf.cell? ⟨w.heap.size + 1, 2, none⟩ = some (.int .u64 (u.bi : Nat)) := hf.cell 2
   have dd3 : wf.cell? ⟨w.heap.size + 1, 3, none⟩ = some (.string ⟨u.tx.toArray⟩) := hf.cell 3
   have dd4 : wf.cell? ⟨w.heap.size + 1, 4, none⟩ = some (.slice A2 u.kids.length c2) := hf.cell 4
   have dd5 : wf.cell? ⟨w.heap.size + 1, 5, none⟩ = some (.slice K2 u.kn.length d2) := hf.cell 5
   refine bodyPost_ret (v := .tuple #[valV u A2 c2 K2 d2, .int .i64 k]) ?_ rfl (rleadS_some HLE.out HU.out.2 HU.out.1 HN0.out hbel)
   simp [results, Tryz.results104, go_sem, dd0, dd1, dd2, dd3, dd4, dd5]
def RFindS (S : Nat → Prop) (w0 : World) (t : Tr) (l : List UInt8) (w : World) (e : Ending) (w' : World) : Prop :=
 (match parseS (wrong l) l with
  | .error x => e = .returned (.tuple #[noVal, .agg #[.int .i64 x.1, .int .i64 x.2, .bool false, .string ⟨#[]⟩]])
  | .ok ts => match leadT t ts 0 with
   | .inl n => e = .returned (.tuple #[noVal, .agg #[.int .i64 4, .int .i64 0, .bool true, .string ⟨(printS (ts.take n)).toArray⟩]])
   | .inr u => ∃ A c K d, e = .returned (.tuple #[valV u A c K d, .agg #[.int .i64 0, .int .i64 0, .bool false, .string ⟨#[]⟩]]) ∧ RdV S w0 u ((A, c), (K, d)) ∧ u.Ok ∧ u.fit = true) ∧ Below w.heap.size w w'
theorem rfindS_err {S : Nat → Prop} {w0 : World} {t : Tr} {l : List UInt8} {w w' : World} {x : Int × Int} (h : parseS (wrong l) l = .error x) (hb : Below w.heap.size w w') : RFindS S w0 t l w (.returned (.tuple #[noVal, .agg #[.int .i64 x.1, .int .i64 x.2, .bool false, .string ⟨#[]⟩]])) w' := by
 unfold RFindS
 rw [h]
 exact ⟨rfl, hb⟩
theorem rfindS_none {S : Nat → Prop} {w0 : World} {t : Tr} {l : List UInt8} {w w' : World} {ts : List (List UInt8)} {n : Nat} (h : parseS (wrong l) l = .ok ts) (h2 : leadT t ts 0 = .inl n) (hb : Below w.heap.size w w') : RFindS S w0 t l w (.returned (.tuple #[noVal, .agg #[.int .i64 4, .int .i64 0, .bool true, .string ⟨(printS (ts.take n)).toArray⟩]])) w' := by
 unfold RFindS
 rw [h]
 dsimp only
 rw [h2]
 exact ⟨rfl, hb⟩
theorem rfindS_some {S : Nat → Prop} {w0 : World} {t u : Tr} {l : List UInt8} {w w' : World} {ts : List (List UInt8)} {A : Option Addr} {c : Nat} {K : Option Addr} {d : Nat} (h : parseS (wrong l) l = .ok ts) (h2 : leadT t ts 0 = .inr u) (hr : RdV S w0 u ((A, c), (K, d))) (ho : u.Ok ∧ u.fit = true) (hb : Below w.heap.size w w') : RFindS S w0 t l w (.returned (.tuple #[valV u A c K d, .agg #[.int .i64 0, .int .i64 0, .bool false, .string ⟨#[]⟩]])) w' := by
 unfold RFindS
 rw [h]
 dsimp only
 rw [h2]
 exact ⟨⟨A, c, K, d, rfl, hr, ho⟩, hb⟩
theorem rffindS_any (S : Nat → Prop) (t : Tr) (A : Option Addr) (c : Nat) (K : Option Addr) (d : Nat) (l : List UInt8) (w0 w : World) (h : RdV S w0 t ((A, c), (K, d))) (hb0 : Below w0.heap.size w0 w) (ho : t.Ok) (hf : t.fit = true) (hl : l.length ≤ 4194304) :
  Calls Tryz.prog 46 #[valV t A c K d, .string ⟨l.toArray⟩] w (RFindS S w0 t l w) := by
 have hb1 : Below w.heap.size w (w.alloc (.cells #[.int .i64 (t.srt : Nat), .bool t.fl, .int .u64 (t.bi : Nat), .string ⟨t.tx.toArray⟩, .slice A t.kids.length c, .slice K t.kn.length d] 79)) := (Below.refl _ _).alloc (Nat.le_refl _) _
 have hb2 : Below w.heap.size w ((w.alloc (.cells #[.int .i64 (t.srt : Nat), .bool t.fl, .int .u64 (t.bi : Nat), .string ⟨t.tx.toArray⟩, .slice A t.kids.length c, .slice K t.kn.length d] 79)).alloc (.cells #[.int .i64 0, .bool false, .int .u64 0, .string ⟨#[]⟩, .slice none 0 0, .slice none 0 0] 79)) := hb1.alloc hb1.size _
 have hb3 : Below w.heap.size w (((w.alloc (.cells #[.int .i64 (t.srt : Nat), .bool t.fl, .int .u64 (t.bi : Nat), .string ⟨t.tx.toArray⟩, .slice A t.kids.length c, .slice K t.kn.length d] 79)).alloc (.cells #[.int .i64 0, .bool false, .int .u64 0, .string ⟨#[]⟩, .slice none 0 0, .slice none 0 0] 79)).alloc (.cells #[.int .i64 0, .int .i64 0, .bool false, .string ⟨#[]⟩] 81)) := hb2.alloc hb2.size _
 have hB2 : Blk (((w.alloc (.cells #[.int .i64 (t.srt : Nat), .bool t.fl, .int .u64 (t.bi : Nat), .string ⟨t.tx.toArray⟩, .slice A t.kids.length c, .slice K t.kn.length d] 79)).alloc (.cells #[.int .i64 0, .bool false, .int .u64 0, .string ⟨#[]⟩, .slice none 0 0, .slice none 0 0] 79)).alloc (.cells #[.int .i64 0, .int .i64 0, .bool false, .string ⟨#[]⟩] 81)) w.heap.size 79 #[.int .i64 (t.srt : Nat), .bool t.fl, .int .u64 (t.bi : Nat), .string ⟨t.tx.toArray⟩, .slice A t.kids.length c, .slice K t.kn.length d] := ((Blk.new w 79 #[.int .i64 (t.srt : Nat), .bool t.fl, .int .u64 (t.bi : Nat), .string ⟨t.tx.toArray⟩, .slice A t.kids.length c, .slice K t.kn.length d]).alloc _).alloc _
 have hB4 : Blk (((w.alloc (.cells #[.int .i64 (t.srt : Nat), .bool t.fl, .int .u64 (t.bi : Nat), .string ⟨t.tx.toArray⟩, .slice A t.kids.length c, .slice K t.kn.length d] 79)).alloc (.cells #[.int .i64 0, .bool false, .int .u64 0, .string ⟨#[]⟩, .slice none 0 0, .slice none 0 0] 79)).alloc (.cells #[.int .i64 0, .int .i64 0, .bool false, .string ⟨#[]⟩] 81)) (w.heap.size + 1) 79 #[.int .i64 0, .bool false, .int .u64 0, .string ⟨#[]⟩, .slice none 0 0, .slice none 0 0] := by
  have := (Blk.new (w.alloc (.cells #[.int .i64 (t.srt : Nat), .bool t.fl, .int .u64 (t.bi : Nat), .string ⟨t.tx.toArray⟩, .slice A t.kids.length c, .slice K t.kn.length d] 79)) 79 #[.int .i64 0, .bool false, .int .u64 0, .string ⟨#[]⟩, .slice none 0 0, .slice none 0 0]).alloc (.cells #[.int .i64 0, .int .i64 0, .bool false, .string ⟨#[]⟩] 81)
  rw [World.size_alloc] at this
  exact this
 have hB5 : Blk (((w.alloc (.cells #[.int .i64 (t.srt : Nat), .bool t.fl, .int .u64 (t.bi : Nat), .string ⟨t.tx.toArray⟩, .slice A t.kids.length c, .slice K t.kn.length d] 79)).alloc (.cells #[.int .i64 0, .bool false, .int .u64 0, .string ⟨#[]⟩, .slice none 0 0, .slice none 0 0] 79)).alloc (.cells #[.int .i64 0, .int .i64 0, .bool false, .string ⟨#[]⟩] 81)) (w.heap.size + 1 + 1) 81 #[.int .i64 0, .int .i64 0, .bool false, .string ⟨#[]⟩] := by
  have := Blk.new ((w.alloc (.cells #[.int .i64 (t.srt : Nat), .bool t.fl, .int .u64 (t.bi : Nat), .string ⟨t.tx.toArray⟩, .slice A t.kids.length c, .slice K t.kn.length d] 79)).alloc (.cells #[.int .i64 0, .bool false, .int .u64 0, .string ⟨#[]⟩, .slice none 0 0, .slice none 0 0] 79)) 81 #[.int .i64 0, .int .i64 0, .bool false, .string ⟨#[]⟩]
  rw [World.size_alloc, World.size_alloc] at this
  exact this
 have HINI := Lib.hid (And.intro hB2 (And.intro hB4 (And.intro hB5 hb3)))
 have HR := Lib.hid h
 have HB0 := Lib.hid hb0
 have HO := Lib.hid (And.intro ho hf)
 have HL := Lib.hid hl
 have hsz0 : (ByteArray.mk l.toArray).size ≤ 2147483648 := by show l.toArray.size ≤ _; rw [List.size_toArray]; omega
 clear h hb0 ho hf hl hb1 hb2 hb3 hB2 hB4 hB5
 go_enter Tryz.func46, Tryz.ntmps46
 go_upto_region 1 with fail
 generalize (((w.alloc (.cells #[.int .i64 (t.srt : Nat), .bool t.fl, .int .u64 (t.bi : Nat), .string ⟨t.tx.toArray⟩, .slice A t.kids.length c, .slice K t.kn.length d] 79)).alloc (.cells #[.int .i64 0, .bool false, .int .u64 0, .string ⟨#[]⟩, .slice none 0 0, .slice none 0 0] 79)).alloc (.cells #[.int .i64 0, .int .i64 0, .bool false, .string ⟨#[]⟩] 81)) = w1 at *
 go_wp2_with fail
 ((with_reducible refine (refParse_any ⟨l.toArray⟩ hsz0 _).mono ?_); rintro e w2 ⟨hb2, he, hok⟩)
 have BK4 := Lib.hid (HINI.out.2.1.below hb2 HINI.out.2.1.lt)
 have BK5 := Lib.hid (HINI.out.2.2.1.below hb2 HINI.out.2.2.1.lt)
 have BK2 := Lib.hid (HINI.out.1.below hb2 HINI.out.1.lt)
 have HBW := Lib.hid (HINI.out.2.2.2.trans (hb2.mono HINI.out.2.2.2.size))
 have he' : ∀ x, parseS (wrong l) l = .error x → e = .returned (.tuple #[.slice none 0 0, .int .i64 x.1, .int .i64 x.2]) := he
 have hok' : ∀ ts, parseS (wrong l) l = .ok ts → ∃ v, e = .returned (.tuple #[v, .int .i64 0, .int .i64 0]) ∧ w2.ownsRow _ 9 1 v ts.length (ts.map strV) := hok
 have hk5 := BK5.out.lt
 clear he hok hb2 HINI
 cases hp : parseS (wrong l) l with
 | error x =>
  obtain rfl := he' x hp
  have hx0 : (x.1 != 0) = true := by simpa using err_num hp
  have HP := Lib.hid hp
  clear he' hok' hp
  obtain ⟨x1, x2⟩ := x
  have z0 : w2.cell? ⟨w.heap.size + 1, 0, none⟩ = some (.int .i64 0) := BK4.out.cell 0
  have z1 : w2.cell? ⟨w.heap.size + 1, 1, none⟩ = some (.bool false) := BK4.out.cell 1
  have z2 : w2.cell? ⟨w.heap.size + 1, 2, none⟩ = some (.int .u64 0) := BK4.out.cell 2
  have z3 : w2.cell? ⟨w.heap.size + 1, 3, none⟩ = some (.string ⟨#[]⟩) := BK4.out.cell 3
  have z4 : w2.cell? ⟨w.heap.size + 1, 4, none⟩ = some (.slice none 0 0) := BK4.out.cell 4
  have z5 : w2.cell? ⟨w.heap.size + 1, 5, none⟩ = some (.slice none 0 0) := BK4.out.cell 5
  have q0 := BK4.out.frozen 0
  have q1 := BK4.out.frozen 1
  have q2 := BK4.out.frozen 2
  have q3 := BK4.out.frozen 3
  have q4 := BK4.out.frozen 4
  have q5 := BK4.out.frozen 5
  have y0 : w2.cell? ⟨w.heap.size + 1 + 1, 0, none⟩ = some (.int .i64 0) := BK5.out.cell 0
  have y1 : w2.cell? ⟨w.heap.size + 1 + 1, 1, none⟩ = some (.int .i64 0) := BK5.out.cell 1
  have y2 : w2.cell? ⟨w.heap.size + 1 + 1, 2, none⟩ = some (.bool false) := BK5.out.cell 2
  have y3 : w2.cell? ⟨w.heap.size + 1 + 1, 3, none⟩ = some (.string ⟨#[]⟩) := BK5.out.cell 3
  have r0 := BK5.out.frozen 0
  have r1 := BK5.out.frozen 1
  have r2 := BK5.out.frozen 2
  have r3 := BK5.out.frozen 3
  go_wp2
  have hf4 := (four_far (six_blk BK4.out (.int .i64 0) (.bool false) (.int .u64 0) (.string ⟨#[]⟩) (.slice none 0 0) (.slice none 0 0)) (show w.heap.size + 1 ≠ w.heap.size + 1 + 1 by omega) (.int .i64 x1) (.int .i64 x2) (.bool false) (.string ⟨#[]⟩))
  have hf5 := (four_blk (six_far BK5.out (show w.heap.size + 1 + 1 ≠ w.heap.size + 1 by omega) (.int .i64 0) (.bool false) (.int .u64 0) (.string ⟨#[]⟩) (.slice none 0 0) (.slice none 0 0)) (.int .i64 x1) (.int .i64 x2) (.bool false) (.string ⟨#[]⟩))
  have hbel := (four_below (six_below HBW.out (show w.heap.size ≤ w.heap.size + 1 by omega) (.int .i64 0) (.bool false) (.int .u64 0) (.string ⟨#[]⟩) (.slice none 0 0) (.slice none 0 0)) (show w.heap.size ≤ w.heap.size + 1 + 1 by omega) (.int .i64 x1) (.int .i64 x2) (.bool false) (.string ⟨#[]⟩))
  unfold four six at hf4 hf5 hbel
  generalize ((((((((((w2.setCell ⟨w.heap.size + 1, 0, none⟩ (.int .i64 0)).setCell ⟨w.heap.size + 1, 1, none⟩ (.bool false)).setCell ⟨w.heap.size + 1, 2, none⟩ (.int .u64 0)).setCell ⟨w.heap.size + 1, 3, none⟩ (.string ⟨#[]⟩)).setCell ⟨w.heap.size + 1, 4, none⟩ (.slice none 0 0)).setCell ⟨w.heap.size + 1, 5, none⟩ (.slice none 0 0)).setCell ⟨w.heap.size + 1 + 1, 0, none⟩ (.int .i64 x1)).setCell ⟨w.heap.size + 1 + 1, 1, none⟩ (.int .i64 x2)).setCell ⟨w.heap.size + 1 + 1, 2, none⟩ (.bool false)).setCell ⟨w.heap.size + 1 + 1, 3, none⟩ (.string ⟨#[]⟩)) = wf at *
  have dd0 : wf.cell? ⟨w.heap.size + 1, 0, none⟩ = some (.int .i64 0) := hf4.cell 0
  have dd1 : wf.cell? ⟨w.heap.size + 1, 1, none⟩ = some (.bool false) := hf4.cell 1
  have dd2 : wf.cell? ⟨w.heap.size + 1, 2, none⟩ = some (.int .u64 0) := hf4.cell 2
  have dd3 : wf.cell? ⟨w.heap.size + 1, 3, none⟩ = some (.string ⟨#[]⟩) := hf4.cell 3
  have dd4 : wf.cell? ⟨w.heap.size + 1, 4, none⟩ = some (.slice none 0 0) := hf4.cell 4
  have dd5 : wf.cell? ⟨w.heap.size + 1, 5, none⟩ = some (.slice none 0 0) := hf4.cell 5
  have ee0 : wf.cell? ⟨w.heap.size + 1 + 1, 0, none⟩ = some (.int .i64 x1) := hf5.cell 0
  have ee1 : wf.cell? ⟨w.heap.size + 1 + 1, 1, none⟩ = some (.int .i64 x2) := hf5.cell 1
  have ee2 : wf.cell? ⟨w.heap.size + 1 + 1, 2, none⟩ = some (.bool false) := hf5.cell 2
  have ee3 : wf.cell? ⟨w.heap.size + 1 + 1, 3, none⟩ = some (.string ⟨#[]⟩) := hf5.cell 3
  refine bodyPost_ret (v := .tuple #[noVal, .agg #[.int .i64 x1, .int .i64 x2, .bool false, .string ⟨#[]⟩]]) ?_ rfl (rfindS_err HP.out hbel)
  simp [results, Tryz.results46, go_sem, dd0, dd1, dd2, dd3, dd4, dd5, ee0, ee1, ee2, ee3]
 | ok ts =>
  obtain ⟨tv, rfl, hown⟩ := hok' ts hp
  clear he' hok'
  obtain ⟨TA, tc, rfl⟩ := own_slice hown
  have hrd : Rd w2 (.slice TA ts.length tc) ts := Rd.of_own hown
  have htf := toks_fine hp
  have hnc : ts.length ≤ tc := own_capP hown
  have HP := Lib.hid hp
  have HTF := Lib.hid htf
  have HRD := Lib.hid hrd
  have hn := htf.2.1
  have HLD := Lib.hid (rleadS_any S t A c K d TA tc ts w0 w2 HR.out (HB0.out.trans (HBW.out.mono HB0.out.size)) HO.out.1 HO.out.2 hrd (fun x hx => by have := (htf.1 x hx).2; have := HL.out; omega) htf.2.1)
  have b0 : w2.cell? ⟨w.heap.size, 0, none⟩ = some (.int .i64 (t.srt : Nat)) := BK2.out.cell 0
  have b1 : w2.cell? ⟨w.heap.size, 1, none⟩ = some (.bool t.fl) := BK2.out.cell 1
  have b2 : w2.cell? ⟨w.heap.size, 2, none⟩ = some (.int .u64 (t.bi : Nat)) := BK2.out.cell 2
  have b3 : w2.cell? ⟨w.heap.size, 3, none⟩ = some (.string ⟨t.tx.toArray⟩) := BK2.out.cell 3
  have b4 : w2.cell? ⟨w.heap.size, 4, none⟩ = some (.slice A t.kids.length c) := BK2.out.cell 4
  have b5 : w2.cell? ⟨w.heap.size, 5, none⟩ = some (.slice K t.kn.length d) := BK2.out.cell 5
  clear hp hown htf hrd
  go_wp2_with fail
  ((with_reducible refine HLD.out.mono ?_); rintro e w3 ⟨he, hb3⟩)
  have BK43 := Lib.hid (BK4.out.below hb3 BK4.out.lt)
  have BK53 := Lib.hid (BK5.out.below hb3 BK5.out.lt)
  have HBW3 := Lib.hid (HBW.out.trans (hb3.mono HBW.out.size))
  have HRD3 := Lib.hid (HRD.out.below hb3)
  have hk53 := BK53.out.lt
  have hk43 := BK43.out.lt
  clear hb3 HLD BK4 BK5 BK2 HBW b0 b1 b2 b3 b4 b5
  cases hle : leadT t ts 0 with
  | inl n =>
   rw [hle] at he
   obtain rfl := he
   have hnl := lead_of_toks hle
   have HLE := Lib.hid hle
   have hba9 : Below w3.heap.size w3 (w3.alloc (.cells #[.int .i64 0, .bool false, .int .u64 0, .string ⟨#[]⟩, .slice none 0 0, .slice none 0 0] 79)) := (Below.refl _ _).alloc (Nat.le_refl _) _
   have HPA := Lib.hid (refPrint_any (.slice TA n tc) (ts.take n) (w3.alloc (.cells #[.int .i64 0, .bool false, .int .u64 0, .string ⟨#[]⟩, .slice none 0 0, .slice none 0 0] 79)) (rd_take (HRD3.out.below hba9) (by omega) tc) (by have := bulk_le ts n; have := HTF.out.2.2; have := HL.out; omega))
   have HBW4 := Lib.hid (HBW3.out.trans (hba9.mono HBW3.out.size))
   have hnt : (n : Int) < (ts.length : Int) := by omega
   have hnc2 : (n : Int) ≤ (tc : Int) := by omega
   have hnc3 : n ≤ tc := by omega
   clear hle hba9
   go_wp2_with fail
   ((with_reducible refine HPA.out.mono ?_); rintro e w5 ⟨rfl, hb5⟩)
   have BK4 := Lib.hid ((BK43.out.alloc (.cells #[.int .i64 0, .bool false, .int .u64 0, .string ⟨#[]⟩, .slice none 0 0, .slice none 0 0] 79)).below hb5 (BK43.out.alloc _).lt)
   have BK5 := Lib.hid ((BK53.out.alloc (.cells #[.int .i64 0, .bool false, .int .u64 0, .string ⟨#[]⟩, .slice none 0 0, .slice none 0 0] 79)).below hb5 (BK53.out.alloc _).lt)
   have HBW := Lib.hid (HBW4.out.trans (hb5.mono HBW4.out.size))
   have hk55 := BK5.out.lt
   clear hb5 HPA
   have z0 : w5.cell? ⟨w.heap.size + 1, 0, none⟩ = some (.int .i64 0) := BK4.out.cell 0
   have z1 : w5.cell? ⟨w.heap.size + 1, 1, none⟩ = some (.bool false) := BK4.out.cell 1
   have z2 : w5.cell? ⟨w.heap.size + 1, 2, none⟩ = some (.int .u64 0) := BK4.out.cell 2
   have z3 : w5.cell? ⟨w.heap.size + 1, 3, none⟩ = some (.string ⟨#[]⟩) := BK4.out.cell 3
   have z4 : w5.cell? ⟨w.heap.size + 1, 4, none⟩ = some (.slice none 0 0) := BK4.out.cell 4
   have z5 : w5.cell? ⟨w.heap.size + 1, 5, none⟩ = some (.slice none 0 0) := BK4.out.cell 5
   have q0 := BK4.out.frozen 0
   have q1 := BK4.out.frozen 1
   have q2 := BK4.out.frozen 2
   have q3 := BK4.out.frozen 3
   have q4 := BK4.out.frozen 4
   have q5 := BK4.out.frozen 5
   have y0 : w5.cell? ⟨w.heap.size + 1 + 1, 0, none⟩ = some (.int .i64 0) := BK5.out.cell 0
   have y1 : w5.cell? ⟨w.heap.size + 1 + 1, 1, none⟩ = some (.int .i64 0) := BK5.out.cell 1
   have y2 : w5.cell? ⟨w.heap.size + 1 + 1, 2, none⟩ = some (.bool false) := BK5.out.cell 2
   have y3 : w5.cell? ⟨w.heap.size + 1 + 1, 3, none⟩ = some (.string ⟨#[]⟩) := BK5.out.cell 3
   have r0 := BK5.out.frozen 0
   have r1 := BK5.out.frozen 1
   have r2 := BK5.out.frozen 2
   have r3 := BK5.out.frozen 3
   go_wp2
   have hf4 := (four_far (six_blk BK4.out (.int .i64 0) (.bool false) (.int .u64 0) (.string ⟨#[]⟩) (.slice none 0 0) (.slice none 0 0)) (show w.heap.size + 1 ≠ w.heap.size + 1 + 1 by omega) (.int .i64 4) (.int .i64 0) (.bool true) (.string ⟨(printS (ts.take n)).toArray⟩))
   have hf5 := (four_blk (six_far BK5.out (show w.heap.size + 1 + 1 ≠ w.heap.size + 1 by omega) (.int .i64 0) (.bool false) (.int .u64 0) (.string ⟨#[]⟩) (.slice none 0 0) (.slice none 0 0)) (.int .i64 4) (.int .i64 0) (.bool true) (.string ⟨(printS (ts.take n)).toArray⟩))
   have hbel := (four_below (six_below HBW.out (show w.heap.size ≤ w.heap.size + 1 by omega) (.int .i64 0) (.bool false) (.int .u64 0) (.string ⟨#[]⟩) (.slice none 0 0) (.slice none 0 0)) (show w.heap.size ≤ w.heap.size + 1 + 1 by omega) (.int .i64 4) (.int .i64 0) (.bool true) (.string ⟨(printS (ts.take n)).toArray⟩))
   unfold four six at hf4 hf5 hbel
   generalize ((((((((((w5.setCell ⟨w.heap.size + 1, 0, none⟩ (.int .i64 0)).setCell ⟨w.heap.size + 1, 1, none⟩ (.bool false)).setCell ⟨w.heap.size + 1, 2, none⟩ (.int .u64 0)).setCell ⟨w.heap.size + 1, 3, none⟩ (.string ⟨#[]⟩)).setCell ⟨w.heap.size + 1, 4, none⟩ (.slice none 0 0)).setCell ⟨w.heap.size + 1, 5, none⟩ (.slice none 0 0)).setCell ⟨w.heap.size + 1 + 1, 0, none⟩ (.int .i64 4)).setCell ⟨w.heap.size + 1 + 1, 1, none⟩ (.int .i64 0)).setCell ⟨w.heap.size + 1 + 1, 2, none⟩ (.bool true)).setCell ⟨w.heap.size + 1 + 1, 3, none⟩ (.string ⟨(printS (ts.take n)).toArray⟩)) = wf at *
   have dd0 : wf.cell? ⟨w.heap.size + 1, 0, none⟩ = some (.int .i64 0) := hf4.cell 0
   have dd1 : wf.cell? ⟨w.heap.size + 1, 1, none⟩ = some (.bool false) := hf4.cell 1
   have dd2 : wf.cell? ⟨w.heap.size + 1, 2, none⟩ = some (.int .u64 0) := hf4.cell 2
   have dd3 : wf.cell? ⟨w.heap.size + 1, 3, none⟩ = some (.string ⟨#[]⟩) := hf4.cell 3
   have dd4 : wf.cell? ⟨w.heap.size + 1, 4, none⟩ = some (.slice none 0 0) := hf4.cell 4
   have dd5 : wf.cell? ⟨w.heap.size + 1, 5, none⟩ = some (.slice none 0 0) := hf4.cell 5
   have ee0 : wf.cell? ⟨w.heap.size + 1 + 1, 0, none⟩ = some (.int .i64 4) := hf5.cell 0
   have ee1 : wf.cell? ⟨w.heap.size + 1 + 1, 1, none⟩ = some (.int .i64 0) := hf5.cell 1
   have ee2 : wf.cell? ⟨w.heap.size + 1 + 1, 2, none⟩ = some (.bool true) := hf5.cell 2
   have ee3 : wf.cell? ⟨w.heap.size + 1 + 1, 3, none⟩ = some (.string ⟨(printS (ts.take n)).toArray⟩) := hf5.cell 3
   refine bodyPost_ret (v := .tuple #[noVal, .agg #[.int .i64 4, .int .i64 0, .bool true, .string ⟨(printS (ts.take n)).toArray⟩]]) ?_ rfl (rfindS_none HP.out HLE.out hbel)
   simp [results, Tryz.results46, go_sem, dd0, dd1, dd2, dd3, dd4, dd5, ee0, ee1, ee2, ee3]
  | inr u =>
   rw [hle] at he
   obtain ⟨A2, c2, K2, d2, rfl, hrd, huo⟩ := he
   have HLE := Lib.hid hle
   have HU := Lib.hid (And.intro hrd huo)
   have BK4 := BK43
   have BK5 := BK53
   have HBW := HBW3
   clear hle hrd huo BK43 BK53
   have z0 : w3.cell? ⟨w.heap.size + 1, 0, none⟩ = some (.int .i64 0) := BK4.out.cell 0
   have z1 : w3.cell? ⟨w.heap.size + 1, 1, none⟩ = some (.bool false) := BK4.out.cell 1
   have z2 : w3.cell? ⟨w.heap.size + 1, 2, none⟩ = some (.int .u64 0) := BK4.out.cell 2
   have z3 : w3.cell? ⟨w.heap.size + 1, 3, none⟩ = some (.string ⟨#[]⟩) := BK4.out.cell 3
   have z4 : w3.cell? ⟨w.heap.size + 1, 4, none⟩ = some (.slice none 0 0) := BK4.out.cell 4
   have z5 : w3.cell? ⟨w.heap.size + 1, 5, none⟩ = some (.slice none 0 0) := BK4.out.cell 5
   have q0 := BK4.out.frozen 0
   have q1 := BK4.out.frozen 1
   have q2 := BK4.out.frozen 2
   have q3 := BK4.out.frozen 3
   have q4 := BK4.out.frozen 4
   have q5 := BK4.out.frozen 5
   have y0 : w3.cell? ⟨w.heap.size + 1 + 1, 0, none⟩ = some (.int .i64 0) := BK5.out.cell 0
   have y1 : w3.cell? ⟨w.heap.size + 1 + 1, 1, none⟩ = some (.int .i64 0) := BK5.out.cell 1
   have y2 : w3.cell? ⟨w.heap.size + 1 + 1, 2, none⟩ = some (.bool false) := BK5.out.cell 2
   have y3 : w3.cell? ⟨w.heap.size + 1 + 1, 3, none⟩ = some (.string ⟨#[]⟩) := BK5.out.cell 3
   have r0 := BK5.out.frozen 0
   have r1 := BK5.out.frozen 1
   have r2 := BK5.out.frozen 2
   have r3 := BK5.out.frozen 3
   go_wp2
   have hf4 := (four_far (six_blk BK4.out (.int .i64 (u.srt : Nat)) (.bool u.fl) (.int .u64 (u.bi : Nat)) (.string ⟨u.tx.toArray⟩) (.slice A2 u.kids.length c2) (.slice K2 u.kn.length d2)) (show w.heap.size + 1 ≠ w.heap.size + 1 + 1 by omega) (.int .i64 0) (.int .i64 0) (.bool false) (.string ⟨#[]⟩)).alloc (.cells #[.int .i64 (u.srt : Nat), .bool u.fl, .int .u64 (u.bi : Nat), .string ⟨u.tx.toArray⟩, .slice A2 u.kids.length c2, .slice K2 u.kn.length d2] 79)
   have hf5 := (four_blk (six_far BK5.out (show w.heap.size + 1 + 1 ≠ w.heap.size + 1 by omega) (.int .i64 (u.srt : Nat)) (.bool u.fl) (.int .u64 (u.bi : Nat)) (.string ⟨u.tx.toArray⟩) (.slice A2 u.kids.length c2) (.slice K2 u.kn.length d2)) (.int .i64 0) (.int .i64 0) (.bool false) (.string ⟨#[]⟩)).alloc (.cells #[.int .i64 (u.srt : Nat), .bool u.fl, .int .u64 (u.bi : Nat), .string ⟨u.tx.toArray⟩, .slice A2 u.kids.length c2, .slice K2 u.kn.length d2] 79)
   have hbel := (four_below (six_below HBW.out (show w.heap.size ≤ w.heap.size + 1 by omega) (.int .i64 (u.srt : Nat)) (.bool u.fl) (.int .u64 (u.bi : Nat)) (.string ⟨u.tx.toArray⟩) (.slice A2 u.kids.length c2) (.slice K2 u.kn.length d2)) (show w.heap.size ≤ w.heap.size + 1 + 1 by omega) (.int .i64 0) (.int .i64 0) (.bool false) (.string ⟨#[]⟩)).alloc (by have := HBW.out.size; simp [six, four]; omega) (.cells #[.int .i64 (u.srt : Nat), .bool u.fl, .int .u64 (u.bi : Nat), .string ⟨u.tx.toArray⟩, .slice A2 u.kids.length c2, .slice K2 u.kn.length d2] 79)
   unfold four six at hf4 hf5 hbel
   generalize ((((((((((w3.setCell ⟨w.heap.size + 1, 0, none⟩ (.int .i64 (u.srt : Nat))).setCell ⟨w.heap.size + 1, 1, none⟩ (.bool u.fl)).setCell ⟨w.heap.size + 1, 2, none⟩ (.int .u64 (u.bi : Nat))).setCell ⟨w.heap.size + 1, 3, none⟩ (.string ⟨u.tx.toArray⟩)).setCell ⟨w.heap.size + 1, 4, none⟩ (.slice A2 u.kids.length c2)).setCell ⟨w.heap.size + 1, 5, none⟩ (.slice K2 u.kn.length d2)).setCell ⟨w.heap.size + 1 + 1, 0, none⟩ (.int .i64 0)).setCell ⟨w.heap.size + 1 + 1, 1, none⟩ (.int .i64 0)).setCell ⟨w.heap.size + 1 + 1, 2, none⟩ (.bool false)).setCell ⟨w.heap.size + 1 + 1, 3, none⟩ (.string ⟨#[]⟩)).alloc (.cells #[.int .i64 (u.srt : Nat), .bool u.fl, .int .u64 (u.bi : Nat), .string ⟨u.tx.toArray⟩, .slice A2 u.kids.length c2, .slice K2 u.kn.length d2] 79) = wf at *
   have dd0 : wf.cell? ⟨w.heap.size + 1, 0, none⟩ = some (.int .i64 (u.srt : Nat)) := hf4.cell 0
   have dd1 : wf.cell? ⟨w.heap.size + 1, 1, none⟩ = some (.bool u.fl) := hf4.cell 1
   have dd2 : wf.cell? ⟨w.heap.size + 1, 2, none⟩ = some (.int .u64 (u.bi : Nat)) := hf4.cell 2
   have dd3 : wf.cell? ⟨w.heap.size + 1, 3, none⟩ = some (.string ⟨u.tx.toArray⟩) := hf4.cell 3
   have dd4 : wf.cell? ⟨w.heap.size + 1, 4, none⟩ = some (.slice A2 u.kids.length c2) := hf4.cell 4
   have dd5 : wf.cell? ⟨w.heap.size + 1, 5, none⟩ = some (.slice K2 u.kn.length d2) := hf4.cell 5
   have ee0 : wf.cell? ⟨w.heap.size + 1 + 1, 0, none⟩ = some (.int .i64 0) := hf5.cell 0
   have ee1 : wf.cell? ⟨w.heap.size + 1 + 1, 1, none⟩ = some (.int .i64 0) := hf5.cell 1
   have ee2 : wf.cell? ⟨w.heap.size + 1 + 1, 2, none⟩ = some (.bool false) := hf5.cell 2
   have ee3 : wf.cell? ⟨w.heap.size + 1 + 1, 3, none⟩ = some (.string ⟨#[]⟩) := hf5.cell 3
   refine bodyPost_ret (v := .tuple #[valV u A2 c2 K2 d2, .agg #[.int .i64 0, .int .i64 0, .bool false, .string ⟨#[]⟩]]) ?_ rfl (rfindS_some HP.out HLE.out HU.out.1 HU.out.2 hbel)
   simp [results, Tryz.results46, go_sem, dd0, dd1, dd2, dd3, dd4, dd5, ee0, ee1, ee2, ee3]
end Nd
end Go.Proofs.YtbajkglacfheiaaGreatDoor
