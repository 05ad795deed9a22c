/-
  Walk of package bind: pair.
  The law BindNarrows of layer 16: its walk.
-/
import Derived.Test.YtbajkglacfheiaaGreatDoorPA21
import Derived.Test.YtbajkglacfheiaaGreatDoorPA19
import Derived.Test.YtbajkglacfheiaaGreatDoorPA20
import Derived.Test.YtbajkglacfheiaaGreatDoorPA2
import Derived.Test.YtbajkglacfheiaaGreatDoorPA13
import Derived.Test.YtbajkglacfheiaaGreatDoorPA15
import Derived.Test.YtbajkglacfheiaaGreatDoorPA12
import Derived.Test.YtbajkglacfheiaaGreatDoorPA8
import Derived.Test.YtbajkglacfheiaaGreatDoorPA16
import Derived.Test.YtbajkglacfheiaaGreatDoorPA11
import Derived.Test.YtbajkglacfheiaaGreatDoorPA1
import Derived.Test.YtbajkglacfheiaaGreatDoorPA9
import Derived.Laws.BitsAllLaws
import Derived.LoopTactic
import Derived.Lib.AppendStr
import Derived.BigQuiet
import Derived.Laws.Bits64b
import Derived.Deep.Upon
import Derived.Deep.RegionHeldLaw
import Derived.Maps.AppendAt
import Derived.Deep.AppendLies
import Derived.Deep.RegionLaw
import Derived.RangeFuncBox
set_option linter.unusedVariables false
set_option linter.unusedSimpArgs false
set_option maxRecDepth 100000
set_option maxHeartbeats 16000000
namespace Go.Proofs.YtbajkglacfheiaaGreatDoor
open Go.RowKit Mem Utf Ref3 Idx Tok TokC Ieee
namespace Nd
def pairD (u : Tr) (p : Tx) : Value ⊕ (Nat × Nat) :=
 if u.srt = 5 then
  if u.kids.length = 2 then match badK u.kids 0 with
   | some i => .inl (trlV 5 (atP p i))
   | none => .inr ((u.kids[0]?.getD Tr.null).nb, (u.kids[1]?.getD Tr.null).nb)
  else .inl (trlV 162 p)
 else .inl (trlV 5 p)
theorem pairD_sort {u : Tr} {p : Tx} (h : ¬ u.srt = 5) : pairD u p = .inl (trlV 5 p) := by
 unfold pairD
 rw [if_neg h]
theorem pairD_two {u : Tr} {p : Tx} (h : u.srt = 5) (h2 : ¬ u.kids.length = 2) : pairD u p = .inl (trlV 162 p) := by
 unfold pairD
 rw [if_pos h, if_neg h2]
theorem pairD_bad {u : Tr} {p : Tx} {i : Nat} (h : u.srt = 5) (h2 : u.kids.length = 2) (h3 : badK u.kids 0 = some i) : pairD u p = .inl (trlV 5 (atP p i)) := by
 unfold pairD
 rw [if_pos h, if_pos h2, h3]
theorem pairD_ok {u : Tr} {p : Tx} (h : u.srt = 5) (h2 : u.kids.length = 2) (h3 : badK u.kids 0 = none) : pairD u p = .inr (u.kids[0].nb, u.kids[1].nb) := by
 unfold pairD
 rw [if_pos h, if_pos h2, h3, List.getElem?_eq_getElem (by omega), List.getElem?_eq_getElem (by omega)]
 rfl
theorem pairD_form {u : Tr} {p : Tx} {ev : Value} (h : pairD u p = .inl ev) : ∃ T u, ev = .iface T u := by
 unfold pairD at h
 split at h
 ·split at h
  ·split at h
   ·injection h with h
    exact ⟨_, _, h.symm⟩
   ·cases h
  ·injection h with h
   exact ⟨_, _, h.symm⟩
 ·injection h with h
  exact ⟨_, _, h.symm⟩
def PairP (p : Tx) (u : Tr) (w : World) (e : Ending) (w' : World) : Prop :=
 (match pairD u p with
  | .inl ev => e = .returned (.tuple #[.float .f64 0, .float .f64 0, ev])
  | .inr q => e = .returned (.tuple #[.float .f64 q.1, .float .f64 q.2, .nilIface])) ∧ Below w.heap.size w w'
theorem pairP_no {u : Tr} {p : Tx} {w w' : World} {ev : Value} (h : pairD u p = .inl ev) (hb : Below w.heap.size w w') : PairP p u w (.returned (.tuple #[.float .f64 0, .float .f64 0, ev])) w' := by
 unfold PairP
 rw [h]
 exact ⟨rfl, hb⟩
theorem pairP_ok {u : Tr} {p : Tx} {w w' : World} {a b : Nat} (h : pairD u p = .inr (a, b)) (hb : Below w.heap.size w w') : PairP p u w (.returned (.tuple #[.float .f64 a, .float .f64 b, .nilIface])) w' := by
 unfold PairP
 rw [h]
 exact ⟨rfl, hb⟩
theorem bpair_any (u : Tr) (v : Value) (p : Tx) (hp : p.length ≤ 8388608) (w : World) (h : RdA w u v) (hT : Tab w) : Calls Tryz.prog 64 #[.agg #[v], .string ⟨p.toArray⟩] w (PairP p u w) := by
 have q1 := err_ne_nil
 have q2 := err_ne_held
 have q3 := fun (a : Addr) (x : Nat) (m : Mode) (W : World) => run_store Tryz.prog W a (.float .f64 x) m rfl
 have hx := ref_boxB w v
 have hbx : Blk (w.alloc (.cells #[v] 58)) w.heap.size 58 #[v] := Blk.new w _ _
 have HX := Lib.hid (And.intro hx hbx)
 have c1 : (w.alloc (.cells #[v] 58)).cell? ⟨w.heap.size, 0, none⟩ = some v := hbx.cell 0
 have HR := Lib.hid h
 have HRX := Lib.hid (rda_below h hx)
 have HT := Lib.hid hT
 have HPL := Lib.hid hp
 clear hx hbx h hT hp
 go_enter Tryz.func64, Tryz.ntmps64
 go_wp2_with fail
 ((with_reducible refine (sort_any (fun _ => True) u v _ HRX.out).mono ?_); rintro e w2 ⟨rfl, hb2⟩)
 have HB2 := Lib.hid (HX.out.1.trans (hb2.mono HX.out.1.size))
 have HX2 := Lib.hid (HX.out.2.below hb2 HX.out.2.lt)
 clear hb2
 by_cases hs : u.srt = 5
 ·have hsi : ((u.srt : Nat) : Int) = 5 := by omega
  rw [hsi]
  have HS := Lib.hid hs
  have c1 : w2.cell? ⟨w.heap.size, 0, none⟩ = some v := HX2.out.cell 0
  clear hs hsi
  go_wp2_with fail
  ((with_reducible refine (len_any (fun _ => True) u v _ (rda_below HR.out HB2.out)).mono ?_); rintro e w3 ⟨rfl, hb3⟩)
  have HB3 := Lib.hid (HB2.out.trans (hb3.mono HB2.out.size))
  have HX3 := Lib.hid (HX2.out.below hb3 HX2.out.lt)
  have HB3L := Lib.hid HX3.out.lt
  clear hb3 c1
  by_cases hl : u.kids.length = 2
  ·have HLN := Lib.hid hl
   have hli : ((u.kids.length : Nat) : Int) = 2 := by omega
   rw [hli]
   obtain ⟨w4, hw4⟩ : ∃ w4, w3.alloc (.cells #[.float .f64 0, .float .f64 0] 180) = w4 := ⟨_, rfl⟩
   have hb4 : Below w3.heap.size w3 w4 := by rw [← hw4]; exact (Below.refl _ _).alloc (Nat.le_refl _) _
   have hA4 : Blk w4 w3.heap.size 180 #[.float .f64 0, .float .f64 0] := by rw [← hw4]; exact Blk.new w3 _ _
   have HA4 := Lib.hid hA4
   have HB4 := Lib.hid (HB3.out.trans (hb4.mono HB3.out.size))
   have HX4 := Lib.hid (HX3.out.below hb4 HX3.out.lt)
   have HW4 := Lib.hid hw4
   clear hw4 hb4 hA4 hli
   go_upto_region 6 with fail
   rw [HW4.out]
   go_wp2_with fail
   go_loopw [27] (fun c27 wr => ∃ k : Nat, k ≤ 2 ∧ c27 = .int .i64 (k : Int) ∧ Hid ((Below w.heap.size w wr ∧ Blk wr w.heap.size 58 #[v] ∧ badK u.kids 0 = badK (u.kids.drop k) k) ∧ ∃ a0 a1, Blk wr w3.heap.size 180 #[.float .f64 a0, .float .f64 a1] ∧ (0 < k → a0 = (u.kids[0]'(by omega)).nb) ∧ (1 < k → a1 = (u.kids[1]'(by omega)).nb))) (fun c27 _ => 2 - (intOf c27).toNat)
   case atStart => exact ⟨0, by omega, rfl, Lib.hid ⟨⟨HB4.out, HX4.out, rfl⟩, 0, 0, HA4.out, fun h => by omega, fun h => by omega⟩⟩
   case round =>
    obtain ⟨k, hk, hc, HI⟩ := hrel
    rcases (by omega : k = 0 ∨ k = 1 ∨ k = 2) with rfl | rfl | rfl
    ·have hc' : _ = Value.int .i64 0 := hc
     subst hc'
     clear hc
     obtain ⟨a0, a1, hA, hv⟩ := HI.out.2
     have HAR := Lib.hid (And.intro hA hv)
     have c1 : wr.cell? ⟨w.heap.size, 0, none⟩ = some v := HI.out.1.2.1.cell 0
     have HAC : Hid (Calls Tryz.prog 63 #[.agg #[v], .int .i64 0] wr (OnP w (some u.kids[0]) wr)) := Lib.hid (at_any u v 0 (by omega) (by omega) w wr HR.out HI.out.1.1)
     obtain ⟨y, hy⟩ : ∃ y, u.kids[0] = y := ⟨_, rfl⟩
     rw [hy] at HAC
     have HY := Lib.hid hy
     clear hA hv hy
     go_wp2_with fail
     ((with_reducible refine (HAC.out).mono ?_); rintro e w5 ⟨⟨tx, ux, rfl, hrk⟩, hb5⟩)
     obtain ⟨w6, hw6⟩ : ∃ w6, w5.alloc (.cells #[.iface tx ux] 58) = w6 := ⟨_, rfl⟩
     have hb56 : Below w5.heap.size w5 w6 := by rw [← hw6]; exact (Below.refl _ _).alloc (Nat.le_refl _) _
     have hbk : Below wr.heap.size wr w6 := hb5.trans (hb56.mono hb5.size)
     have hB6 : Blk w6 w5.heap.size 58 #[.iface tx ux] := by rw [← hw6]; exact Blk.new w5 _ _
     have c11 : w6.cell? ⟨w5.heap.size, 0, none⟩ = some (.iface tx ux) := hB6.cell 0
     have HBK := Lib.hid hbk
     have HB6 := Lib.hid (HI.out.1.1.trans (hbk.mono HI.out.1.1.size))
     have HRK := Lib.hid (rda_below hrk HB6.out)
     have HG6 := Lib.hid (HT.out.next HB6.out)
     have HAT : Hid (∀ W : World, Tab W → Calls Tryz.prog 60 #[.string ⟨p.toArray⟩, .int .i64 0] W fun e w' => e = .returned (.string ⟨(atP p 0).toArray⟩) ∧ Below W.heap.size W w') := Lib.hid (fun (W : World) (hT : Tab W) => bat_any p HPL.out 0 (by omega) W hT)
     have HNM := Lib.hid (fun (W : World) (hr : RdA W y (.iface tx ux)) => bnumber_any y (.iface tx ux) (atP p 0) W hr)
     obtain ⟨pk, hpk⟩ : ∃ pk, atP p 0 = pk := ⟨_, rfl⟩
     have HPK := Lib.hid hpk
     rw [hpk] at HAT HNM
     have HWE := Lib.hid hw6
     clear hb5 hrk hb56 hbk hB6 hpk hw6
     go_upto_region 10 with fail
     rw [HWE.out]
     cases hnb : y.isNb with
     | true =>
      have HNB := Lib.hid hnb
      unfold BnP at HNM
      clear hnb
      refine wp_region_held_drew (S := (fun w' => w'.cell? ⟨w5.heap.size, 0, none⟩ = some (.iface tx ux) ∧ Below w6.heap.size w6 w')) (by kernel_rfl) ⟨c11, drewN_below _ 1⟩ (fun hHeld => ?_)
      refine held_take (i := 0) (v := ?_) (some 37) rfl rfl (by kernel_rfl) (by kernel_rfl) (by kernel_rfl) (fun _ _ _ h => h) (Or.inl ⟨by rfl, ?_⟩) hHeld ?_
      rotate_left
      ·intro w hSw
       try dsimp only at hSw
       go_simp
       try with_reducible rfl
      simp only [Act.put, List.setIfInBounds_toArray, List.set_cons_zero, List.set_cons_succ]
      refine held_take (i := 1) (v := ?_) (some 38) rfl rfl (by kernel_rfl) (by kernel_rfl) (by kernel_rfl) (fun _ _ _ h => h) (Or.inl ⟨by rfl, ?_⟩) hHeld ?_
      rotate_left
      ·intro w hSw
       try dsimp only at hSw
       go_simp
       try with_reducible rfl
      simp only [Act.put, List.setIfInBounds_toArray, List.set_cons_zero, List.set_cons_succ]
      refine held_take (i := 2) (v := ?_) (some 39) rfl rfl (by kernel_rfl) (by kernel_rfl) (by kernel_rfl) (fun _ _ _ h => h) (Or.inl ⟨by rfl, ?_⟩) hHeld ?_
      rotate_left
      ·intro w hSw
       try dsimp only at hSw
       go_simp
       try with_reducible rfl
      simp only [Act.put, List.setIfInBounds_toArray, List.set_cons_zero, List.set_cons_succ]
      refine wpAnyH_ready (rs := [3]) (by kernel_rfl) (by simp) ?_
      refine AllReadyH.cons rfl (fun K hK => ?_) AllReadyH.nil
      go_simp
      ((with_reducible refine (HAT.out _ (HG6.out.next hHeld.2)).mono ?_); rintro e w2' ⟨rfl, hb2'⟩; dsimp only)
      replace hHeld := held2B hHeld hb2'
      refine hK.out _ _ hHeld (fun _ => ?_)
      clear hK K
      refine wpAnyH_ready (rs := [4]) (by kernel_rfl) (by simp) ?_
      refine AllReadyH.cons rfl (fun K hK => ?_) AllReadyH.nil
      go_simp
      ((with_reducible refine (HNM.out _ (rda_below HRK.out hHeld.2)).mono ?_); rintro e w2' ⟨he, hb2'⟩; rw [if_pos HNB.out] at he; obtain rfl := he; dsimp only)
      replace hHeld := held2B hHeld hb2'
      refine hK.out _ _ hHeld (fun _ => ?_)
      clear hK K
      refine held_take (i := 5) (v := ?_) (some 36) rfl rfl (by kernel_rfl) (by kernel_rfl) (by kernel_rfl) (fun _ _ _ h => h) (Or.inl ⟨by rfl, ?_⟩) hHeld ?_
      rotate_left
      ·intro w hSw
       try dsimp only at hSw
       go_simp
       try with_reducible rfl
      simp only [Act.put, List.setIfInBounds_toArray, List.set_cons_zero, List.set_cons_succ]
      refine held_take (i := 6) (v := ?_) (some 42) rfl rfl (by kernel_rfl) (by kernel_rfl) (by kernel_rfl) (fun _ _ _ h => h) (Or.inl ⟨by rfl, ?_⟩) hHeld ?_
      rotate_left
      ·intro w hSw
       try dsimp only at hSw
       go_simp
       try with_reducible rfl
      simp only [Act.put, List.setIfInBounds_toArray, List.set_cons_zero, List.set_cons_succ]
      refine held_take (i := 7) (v := ?_) (some 43) rfl rfl (by kernel_rfl) (by kernel_rfl) (by kernel_rfl) (fun _ _ _ h => h) (Or.inl ⟨by rfl, ?_⟩) hHeld ?_
      rotate_left
      ·intro w hSw
       try dsimp only at hSw
       go_simp
       try with_reducible rfl
      simp only [Act.put, List.setIfInBounds_toArray, List.set_cons_zero, List.set_cons_succ]
      refine held_take (i := 8) (v := ?_) (some 11) rfl rfl (by kernel_rfl) (by kernel_rfl) (by kernel_rfl) (fun _ _ _ h => h) (Or.inl ⟨by rfl, ?_⟩) hHeld ?_
      rotate_left
      ·intro w hSw
       try dsimp only at hSw
       go_simp
       try with_reducible rfl
      simp only [Act.put, List.setIfInBounds_toArray, List.set_cons_zero, List.set_cons_succ]
      refine held_take (i := 9) (v := ?_) (some 12) rfl rfl (by kernel_rfl) (by kernel_rfl) (by kernel_rfl) (fun _ _ _ h => h) (Or.inl ⟨by rfl, ?_⟩) hHeld ?_
      rotate_left
      ·intro w hSw
       try dsimp only at hSw
       go_simp
       try with_reducible rfl
      simp only [Act.put, List.setIfInBounds_toArray, List.set_cons_zero, List.set_cons_succ]
      refine wpAnyH_done (by kernel_rfl) ?_ _
      have HHD := Lib.hid hHeld
      obtain ⟨x, hx⟩ : ∃ x, y.nb = x := ⟨_, rfl⟩
      rw [hx]
      have hbp : Below wr.heap.size wr _ := HBK.out.trans (HHD.out.2.mono HBK.out.size)
      have HBP := Lib.hid hbp
      have HAW := Lib.hid (HAR.out.1.below hbp HAR.out.1.lt)
      have c20 := HAW.out.cell 0
      have c21 := HAW.out.cell 1
      have f20 := HAW.out.frozen 0
      have f21 := HAW.out.frozen 1
      have hl2 := HAW.out.lt
      have HXX := Lib.hid hx
      simp at c20 c21
      clear hHeld c11 c1 hbp hx
      go_wp2
      have HAN := Lib.hid (HAW.out.put 0 (.float .f64 x))
      have HRN := Lib.hid ((HI.out.1.2.1.below HBP.out HI.out.1.2.1.lt).far (p := ⟨w3.heap.size, 0, none⟩) (show w.heap.size ≠ w3.heap.size by have := HB3L.out; omega) (.float .f64 x))
      have HBN := Lib.hid ((HI.out.1.1.trans (HBP.out.mono HI.out.1.1.size)).setCell (p := ⟨w3.heap.size, 0, none⟩) (show w.heap.size ≤ w3.heap.size by have := HB3L.out; omega) (.float .f64 x))
      go_roundw
      case rel => exact ⟨1, by omega, by go_num, Lib.hid ⟨⟨HBN.out, HRN.out, HI.out.1.2.2.trans (by
       have e := badK_yes (l := u.kids) (i := 0) (by have := HLN.out; omega) (by rw [HY.out]; exact HNB.out)
       exact e)⟩, x, a1, HAN.out, fun _ => (by rw [HY.out]; exact HXX.out.symm), fun h => by omega⟩⟩
      case measure => simp [intOf]
     | false =>
      have HNB : Hid (¬ y.isNb = true) := Lib.hid (by rw [hnb]; simp)
      have HNF := Lib.hid hnb
      unfold BnP at HNM
      clear hnb
      refine wp_region_held_drew (S := (fun w' => w'.cell? ⟨w5.heap.size, 0, none⟩ = some (.iface tx ux) ∧ Below w6.heap.size w6 w')) (by kernel_rfl) ⟨c11, drewN_below _ 1⟩ (fun hHeld => ?_)
      refine held_take (i := 0) (v := ?_) (some 37) rfl rfl (by kernel_rfl) (by kernel_rfl) (by kernel_rfl) (fun _ _ _ h => h) (Or.inl ⟨by rfl, ?_⟩) hHeld ?_
      rotate_left
      ·intro w hSw
       try dsimp only at hSw
       go_simp
       try with_reducible rfl
      simp only [Act.put, List.setIfInBounds_toArray, List.set_cons_zero, List.set_cons_succ]
      refine held_take (i := 1) (v := ?_) (some 38) rfl rfl (by kernel_rfl) (by kernel_rfl) (by kernel_rfl) (fun _ _ _ h => h) (Or.inl ⟨by rfl, ?_⟩) hHeld ?_
      rotate_left
      ·intro w hSw
       try dsimp only at hSw
       go_simp
       try with_reducible rfl
      simp only [Act.put, List.setIfInBounds_toArray, List.set_cons_zero, List.set_cons_succ]
      refine held_take (i := 2) (v := ?_) (some 39) rfl rfl (by kernel_rfl) (by kernel_rfl) (by kernel_rfl) (fun _ _ _ h => h) (Or.inl ⟨by rfl, ?_⟩) hHeld ?_
      rotate_left
      ·intro w hSw
       try dsimp only at hSw
       go_simp
       try with_reducible rfl
      simp only [Act.put, List.setIfInBounds_toArray, List.set_cons_zero, List.set_cons_succ]
      refine wpAnyH_ready (rs := [3]) (by kernel_rfl) (by simp) ?_
      refine AllReadyH.cons rfl (fun K hK => ?_) AllReadyH.nil
      go_simp
      ((with_reducible refine (HAT.out _ (HG6.out.next hHeld.2)).mono ?_); rintro e w2' ⟨rfl, hb2'⟩; dsimp only)
      replace hHeld := held2B hHeld hb2'
      refine hK.out _ _ hHeld (fun _ => ?_)
      clear hK K
      refine wpAnyH_ready (rs := [4]) (by kernel_rfl) (by simp) ?_
      refine AllReadyH.cons rfl (fun K hK => ?_) AllReadyH.nil
      go_simp
      ((with_reducible refine (HNM.out _ (rda_below HRK.out hHeld.2)).mono ?_); rintro e w2' ⟨he, hb2'⟩; rw [if_neg HNB.out] at he; obtain rfl := he; dsimp only)
      replace hHeld := held2B hHeld hb2'
      refine hK.out _ _ hHeld (fun _ => ?_)
      clear hK K
      refine held_take (i := 5) (v := ?_) (some 36) rfl rfl (by kernel_rfl) (by kernel_rfl) (by kernel_rfl) (fun _ _ _ h => h) (Or.inl ⟨by rfl, ?_⟩) hHeld ?_
      rotate_left
      ·intro w hSw
       try dsimp only at hSw
       go_simp
       try with_reducible rfl
      simp only [Act.put, List.setIfInBounds_toArray, List.set_cons_zero, List.set_cons_succ]
      refine held_take (i := 6) (v := ?_) (some 42) rfl rfl (by kernel_rfl) (by kernel_rfl) (by kernel_rfl) (fun _ _ _ h => h) (Or.inl ⟨by rfl, ?_⟩) hHeld ?_
      rotate_left
      ·intro w hSw
       try dsimp only at hSw
       go_simp
       try with_reducible rfl
      simp only [Act.put, List.setIfInBounds_toArray, List.set_cons_zero, List.set_cons_succ]
      refine held_take (i := 7) (v := ?_) (some 43) rfl rfl (by kernel_rfl) (by kernel_rfl) (by kernel_rfl) (fun _ _ _ h => h) (Or.inl ⟨by rfl, ?_⟩) hHeld ?_
      rotate_left
      ·intro w hSw
       try dsimp only at hSw
       go_simp
       try with_reducible rfl
      simp only [Act.put, List.setIfInBounds_toArray, List.set_cons_zero, List.set_cons_succ]
      refine held_take (i := 8) (v := ?_) (some 11) rfl rfl (by kernel_rfl) (by kernel_rfl) (by kernel_rfl) (fun _ _ _ h => h) (Or.inl ⟨by rfl, ?_⟩) hHeld ?_
      rotate_left
      ·intro w hSw
       try dsimp only at hSw
       go_simp
       try with_reducible rfl
      simp only [Act.put, List.setIfInBounds_toArray, List.set_cons_zero, List.set_cons_succ]
      refine held_take (i := 9) (v := ?_) (some 12) rfl rfl (by kernel_rfl) (by kernel_rfl) (by kernel_rfl) (fun _ _ _ h => h) (Or.inl ⟨by rfl, ?_⟩) hHeld ?_
      rotate_left
      ·intro w hSw
       try dsimp only at hSw
       go_simp
       try with_reducible rfl
      simp only [Act.put, List.setIfInBounds_toArray, List.set_cons_zero, List.set_cons_succ]
      refine wpAnyH_done (by kernel_rfl) ?_ _
      have HE : Hid (PairP p u w (.returned (.tuple #[.float .f64 0, .float .f64 0, trlV 5 pk])) _) := Lib.hid (by
       rw [← HPK.out]
       exact pairP_no (pairD_bad HS.out HLN.out (HI.out.1.2.2.trans (badK_no (by have := HLN.out; omega) (by rw [HY.out]; exact HNF.out)))) (HB6.out.trans (hHeld.2.mono HB6.out.size)))
      unfold trlV at HE ⊢
      clear hHeld c11 c1
      go_wp2
      refine bodyPost_ret (v := .tuple #[.float .f64 0, .float .f64 0, .iface 139 (.agg #[.int .i64 5, .string ⟨pk.toArray⟩])]) ?_ rfl (HE.out)
      simp [results, Tryz.results64, go_sem]
    ·have hc' : _ = Value.int .i64 1 := hc
     subst hc'
     clear hc
     obtain ⟨a0, a1, hA, hv⟩ := HI.out.2
     have HAR := Lib.hid (And.intro hA hv)
     have c1 : wr.cell? ⟨w.heap.size, 0, none⟩ = some v := HI.out.1.2.1.cell 0
     have HAC : Hid (Calls Tryz.prog 63 #[.agg #[v], .int .i64 1] wr (OnP w (some u.kids[1]) wr)) := Lib.hid (at_any u v 1 (by omega) (by omega) w wr HR.out HI.out.1.1)
     obtain ⟨y, hy⟩ : ∃ y, u.kids[1] = y := ⟨_, rfl⟩
     rw [hy] at HAC
     have HY := Lib.hid hy
     clear hA hv hy
     go_wp2_with fail
     ((with_reducible refine (HAC.out).mono ?_); rintro e w5 ⟨⟨tx, ux, rfl, hrk⟩, hb5⟩)
     obtain ⟨w6, hw6⟩ : ∃ w6, w5.alloc (.cells #[.iface tx ux] 58) = w6 := ⟨_, rfl⟩
     have hb56 : Below w5.heap.size w5 w6 := by rw [← hw6]; exact (Below.refl _ _).alloc (Nat.le_refl _) _
     have hbk : Below wr.heap.size wr w6 := hb5.trans (hb56.mono hb5.size)
     have hB6 : Blk w6 w5.heap.size 58 #[.iface tx ux] := by rw [← hw6]; exact Blk.new w5 _ _
     have c11 : w6.cell? ⟨w5.heap.size, 0, none⟩ = some (.iface tx ux) := hB6.cell 0
     have HBK := Lib.hid hbk
     have HB6 := Lib.hid (HI.out.1.1.trans (hbk.mono HI.out.1.1.size))
     have HRK := Lib.hid (rda_below hrk HB6.out)
     have HG6 := Lib.hid (HT.out.next HB6.out)
     have HAT : Hid (∀ W : World, Tab W → Calls Tryz.prog 60 #[.string ⟨p.toArray⟩, .int .i64 1] W fun e w' => e = .returned (.string ⟨(atP p 1).toArray⟩) ∧ Below W.heap.size W w') := Lib.hid (fun (W : World) (hT : Tab W) => bat_any p HPL.out 1 (by omega) W hT)
     have HNM := Lib.hid (fun (W : World) (hr : RdA W y (.iface tx ux)) => bnumber_any y (.iface tx ux) (atP p 1) W hr)
     obtain ⟨pk, hpk⟩ : ∃ pk, atP p 1 = pk := ⟨_, rfl⟩
     have HPK := Lib.hid hpk
     rw [hpk] at HAT HNM
     have HWE := Lib.hid hw6
     clear hb5 hrk hb56 hbk hB6 hpk hw6
     go_upto_region 10 with fail
     rw [HWE.out]
     cases hnb : y.isNb with
     | true =>
      have HNB := Lib.hid hnb
      unfold BnP at HNM
      clear hnb
      refine wp_region_held_drew (S := (fun w' => w'.cell? ⟨w5.heap.size, 0, none⟩ = some (.iface tx ux) ∧ Below w6.heap.size w6 w')) (by kernel_rfl) ⟨c11, drewN_below _ 1⟩ (fun hHeld => ?_)
      refine held_take (i := 0) (v := ?_) (some 37) rfl rfl (by kernel_rfl) (by kernel_rfl) (by kernel_rfl) (fun _ _ _ h => h) (Or.inl ⟨by rfl, ?_⟩) hHeld ?_
      rotate_left
      ·intro w hSw
       try dsimp only at hSw
       go_simp
       try with_reducible rfl
      simp only [Act.put, List.setIfInBounds_toArray, List.set_cons_zero, List.set_cons_succ]
      refine held_take (i := 1) (v := ?_) (some 38) rfl rfl (by kernel_rfl) (by kernel_rfl) (by kernel_rfl) (fun _ _ _ h => h) (Or.inl ⟨by rfl, ?_⟩) hHeld ?_
      rotate_left
      ·intro w hSw
       try dsimp only at hSw
       go_simp
       try with_reducible rfl
      simp only [Act.put, List.setIfInBounds_toArray, List.set_cons_zero, List.set_cons_succ]
      refine held_take (i := 2) (v := ?_) (some 39) rfl rfl (by kernel_rfl) (by kernel_rfl) (by kernel_rfl) (fun _ _ _ h => h) (Or.inl ⟨by rfl, ?_⟩) hHeld ?_
      rotate_left
      ·intro w hSw
       try dsimp only at hSw
       go_simp
       try with_reducible rfl
      simp only [Act.put, List.setIfInBounds_toArray, List.set_cons_zero, List.set_cons_succ]
      refine wpAnyH_ready (rs := [3]) (by kernel_rfl) (by simp) ?_
      refine AllReadyH.cons rfl (fun K hK => ?_) AllReadyH.nil
      go_simp
      ((with_reducible refine (HAT.out _ (HG6.out.next hHeld.2)).mono ?_); rintro e w2' ⟨rfl, hb2'⟩; dsimp only)
      replace hHeld := held2B hHeld hb2'
      refine hK.out _ _ hHeld (fun _ => ?_)
      clear hK K
      refine wpAnyH_ready (rs := [4]) (by kernel_rfl) (by simp) ?_
      refine AllReadyH.cons rfl (fun K hK => ?_) AllReadyH.nil
      go_simp
      ((with_reducible refine (HNM.out _ (rda_below HRK.out hHeld.2)).mono ?_); rintro e w2' ⟨he, hb2'⟩; rw [if_pos HNB.out] at he; obtain rfl := he; dsimp only)
      replace hHeld := held2B hHeld hb2'
      refine hK.out _ _ hHeld (fun _ => ?_)
      clear hK K
      refine held_take (i := 5) (v := ?_) (some 36) rfl rfl (by kernel_rfl) (by kernel_rfl) (by kernel_rfl) (fun _ _ _ h => h) (Or.inl ⟨by rfl, ?_⟩) hHeld ?_
      rotate_left
      ·intro w hSw
       try dsimp only at hSw
       go_simp
       try with_reducible rfl
      simp only [Act.put, List.setIfInBounds_toArray, List.set_cons_zero, List.set_cons_succ]
      refine held_take (i := 6) (v := ?_) (some 42) rfl rfl (by kernel_rfl) (by kernel_rfl) (by kernel_rfl) (fun _ _ _ h => h) (Or.inl ⟨by rfl, ?_⟩) hHeld ?_
      rotate_left
      ·intro w hSw
       try dsimp only at hSw
       go_simp
       try with_reducible rfl
      simp only [Act.put, List.setIfInBounds_toArray, List.set_cons_zero, List.set_cons_succ]
      refine held_take (i := 7) (v := ?_) (some 43) rfl rfl (by kernel_rfl) (by kernel_rfl) (by kernel_rfl) (fun _ _ _ h => h) (Or.inl ⟨by rfl, ?_⟩) hHeld ?_
      rotate_left
      ·intro w hSw
       try dsimp only at hSw
       go_simp
       try with_reducible rfl
      simp only [Act.put, List.setIfInBounds_toArray, List.set_cons_zero, List.set_cons_succ]
      refine held_take (i := 8) (v := ?_) (some 11) rfl rfl (by kernel_rfl) (by kernel_rfl) (by kernel_rfl) (fun _ _ _ h => h) (Or.inl ⟨by rfl, ?_⟩) hHeld ?_
      rotate_left
      ·intro w hSw
       try dsimp only at hSw
       go_simp
       try with_reducible rfl
      simp only [Act.put, List.setIfInBounds_toArray, List.set_cons_zero, List.set_cons_succ]
      refine held_take (i := 9) (v := ?_) (some 12) rfl rfl (by kernel_rfl) (by kernel_rfl) (by kernel_rfl) (fun _ _ _ h => h) (Or.inl ⟨by rfl, ?_⟩) hHeld ?_
      rotate_left
      ·intro w hSw
       try dsimp only at hSw
       go_simp
       try with_reducible rfl
      simp only [Act.put, List.setIfInBounds_toArray, List.set_cons_zero, List.set_cons_succ]
      refine wpAnyH_done (by kernel_rfl) ?_ _
      have HHD := Lib.hid hHeld
      obtain ⟨x, hx⟩ : ∃ x, y.nb = x := ⟨_, rfl⟩
      rw [hx]
      have hbp : Below wr.heap.size wr _ := HBK.out.trans (HHD.out.2.mono HBK.out.size)
      have HBP := Lib.hid hbp
      have HAW := Lib.hid (HAR.out.1.below hbp HAR.out.1.lt)
      have c20 := HAW.out.cell 0
      have c21 := HAW.out.cell 1
      have f20 := HAW.out.frozen 0
      have f21 := HAW.out.frozen 1
      have hl2 := HAW.out.lt
      have HXX := Lib.hid hx
      simp at c20 c21
      clear hHeld c11 c1 hbp hx
      go_wp2
      have HAN := Lib.hid (HAW.out.put 1 (.float .f64 x))
      have HRN := Lib.hid ((HI.out.1.2.1.below HBP.out HI.out.1.2.1.lt).far (p := ⟨w3.heap.size, 1, none⟩) (show w.heap.size ≠ w3.heap.size by have := HB3L.out; omega) (.float .f64 x))
      have HBN := Lib.hid ((HI.out.1.1.trans (HBP.out.mono HI.out.1.1.size)).setCell (p := ⟨w3.heap.size, 1, none⟩) (show w.heap.size ≤ w3.heap.size by have := HB3L.out; omega) (.float .f64 x))
      go_roundw
      case rel => exact ⟨2, by omega, by go_num, Lib.hid ⟨⟨HBN.out, HRN.out, HI.out.1.2.2.trans (by
       have e := badK_yes (l := u.kids) (i := 1) (by have := HLN.out; omega) (by rw [HY.out]; exact HNB.out)
       exact e)⟩, a0, x, HAN.out, fun _ => HAR.out.2.1 (by omega), fun _ => (by rw [HY.out]; exact HXX.out.symm)⟩⟩
      case measure => simp [intOf]
     | false =>
      have HNB : Hid (¬ y.isNb = true) := Lib.hid (by rw [hnb]; simp)
      have HNF := Lib.hid hnb
      unfold BnP at HNM
      clear hnb
      refine wp_region_held_drew (S := (fun w' => w'.cell? ⟨w5.heap.size, 0, none⟩ = some (.iface tx ux) ∧ Below w6.heap.size w6 w')) (by kernel_rfl) ⟨c11, drewN_below _ 1⟩ (fun hHeld => ?_)
      refine held_take (i := 0) (v := ?_) (some 37) rfl rfl (by kernel_rfl) (by kernel_rfl) (by kernel_rfl) (fun _ _ _ h => h) (Or.inl ⟨by rfl, ?_⟩) hHeld ?_
      rotate_left
      ·intro w hSw
       try dsimp only at hSw
       go_simp
       try with_reducible rfl
      simp only [Act.put, List.setIfInBounds_toArray, List.set_cons_zero, List.set_cons_succ]
      refine held_take (i := 1) (v := ?_) (some 38) rfl rfl (by kernel_rfl) (by kernel_rfl) (by kernel_rfl) (fun _ _ _ h => h) (Or.inl ⟨by rfl, ?_⟩) hHeld ?_
      rotate_left
      ·intro w hSw
       try dsimp only at hSw
       go_simp
       try with_reducible rfl
      simp only [Act.put, List.setIfInBounds_toArray, List.set_cons_zero, List.set_cons_succ]
      refine held_take (i := 2) (v := ?_) (some 39) rfl rfl (by kernel_rfl) (by kernel_rfl) (by kernel_rfl) (fun _ _ _ h => h) (Or.inl ⟨by rfl, ?_⟩) hHeld ?_
      rotate_left
      ·intro w hSw
       try dsimp only at hSw
       go_simp
       try with_reducible rfl
      simp only [Act.put, List.setIfInBounds_toArray, List.set_cons_zero, List.set_cons_succ]
      refine wpAnyH_ready (rs := [3]) (by kernel_rfl) (by simp) ?_
      refine AllReadyH.cons rfl (fun K hK => ?_) AllReadyH.nil
      go_simp
      ((with_reducible refine (HAT.out _ (HG6.out.next hHeld.2)).mono ?_); rintro e w2' ⟨rfl, hb2'⟩; dsimp only)
      replace hHeld := held2B hHeld hb2'
      refine hK.out _ _ hHeld (fun _ => ?_)
      clear hK K
      refine wpAnyH_ready (rs := [4]) (by kernel_rfl) (by simp) ?_
      refine AllReadyH.cons rfl (fun K hK => ?_) AllReadyH.nil
      go_simp
      ((with_reducible refine (HNM.out _ (rda_below HRK.out hHeld.2)).mono ?_); rintro e w2' ⟨he, hb2'⟩; rw [if_neg HNB.out] at he; obtain rfl := he; dsimp only)
      replace hHeld := held2B hHeld hb2'
      refine hK.out _ _ hHeld (fun _ => ?_)
      clear hK K
      refine held_take (i := 5) (v := ?_) (some 36) rfl rfl (by kernel_rfl) (by kernel_rfl) (by kernel_rfl) (fun _ _ _ h => h) (Or.inl ⟨by rfl, ?_⟩) hHeld ?_
      rotate_left
      ·intro w hSw
       try dsimp only at hSw
       go_simp
       try with_reducible rfl
      simp only [Act.put, List.setIfInBounds_toArray, List.set_cons_zero, List.set_cons_succ]
      refine held_take (i := 6) (v := ?_) (some 42) rfl rfl (by kernel_rfl) (by kernel_rfl) (by kernel_rfl) (fun _ _ _ h => h) (Or.inl ⟨by rfl, ?_⟩) hHeld ?_
      rotate_left
      ·intro w hSw
       try dsimp only at hSw
       go_simp
       try with_reducible rfl
      simp only [Act.put, List.setIfInBounds_toArray, List.set_cons_zero, List.set_cons_succ]
      refine held_take (i := 7) (v := ?_) (some 43) rfl rfl (by kernel_rfl) (by kernel_rfl) (by kernel_rfl) (fun _ _ _ h => h) (Or.inl ⟨by rfl, ?_⟩) hHeld ?_
      rotate_left
      ·intro w hSw
       try dsimp only at hSw
       go_simp
       try with_reducible rfl
      simp only [Act.put, List.setIfInBounds_toArray, List.set_cons_zero, List.set_cons_succ]
      refine held_take (i := 8) (v := ?_) (some 11) rfl rfl (by kernel_rfl) (by kernel_rfl) (by kernel_rfl) (fun _ _ _ h => h) (Or.inl ⟨by rfl, ?_⟩) hHeld ?_
      rotate_left
      ·intro w hSw
       try dsimp only at hSw
       go_simp
       try with_reducible rfl
      simp only [Act.put, List.setIfInBounds_toArray, List.set_cons_zero, List.set_cons_succ]
      refine held_take (i := 9) (v := ?_) (some 12) rfl rfl (by kernel_rfl) (by kernel_rfl) (by kernel_rfl) (fun _ _ _ h => h) (Or.inl ⟨by rfl, ?_⟩) hHeld ?_
      rotate_left
      ·intro w hSw
       try dsimp only at hSw
       go_simp
       try with_reducible rfl
      simp only [Act.put, List.setIfInBounds_toArray, List.set_cons_zero, List.set_cons_succ]
      refine wpAnyH_done (by kernel_rfl) ?_ _
      have HE : Hid (PairP p u w (.returned (.tuple #[.float .f64 0, .float .f64 0, trlV 5 pk])) _) := Lib.hid (by
       rw [← HPK.out]
       exact pairP_no (pairD_bad HS.out HLN.out (HI.out.1.2.2.trans (badK_no (by have := HLN.out; omega) (by rw [HY.out]; exact HNF.out)))) (HB6.out.trans (hHeld.2.mono HB6.out.size)))
      unfold trlV at HE ⊢
      clear hHeld c11 c1
      go_wp2
      refine bodyPost_ret (v := .tuple #[.float .f64 0, .float .f64 0, .iface 139 (.agg #[.int .i64 5, .string ⟨pk.toArray⟩])]) ?_ rfl (HE.out)
      simp [results, Tryz.results64, go_sem]
    ·have hc' : _ = Value.int .i64 2 := hc
     subst hc'
     clear hc
     obtain ⟨a0, a1, hA, h1, h2⟩ := HI.out.2
     have e0 := h1 (by omega)
     have e1 := h2 (by omega)
     subst e0 e1
     have HPD := Lib.hid (pairD_ok (p := p) HS.out HLN.out (HI.out.1.2.2.trans (by
      have e := badK_end u.kids
      rw [HLN.out] at e
      exact e)))
     have HBL := Lib.hid HI.out.1.1
     have c20 := hA.cell 0
     have c21 := hA.cell 1
     simp at c20 c21
     generalize (u.kids[0]'(by omega)).nb = a0 at *
     generalize (u.kids[1]'(by omega)).nb = a1 at *
     clear hA h1 h2
     go_upto_region 15 with fail
     refine wp_region_held_drew (S := (fun w' => w'.cell? ⟨w3.heap.size, 0, none⟩ = some (.float .f64 a0) ∧ w'.cell? ⟨w3.heap.size, 1, none⟩ = some (.float .f64 a1) ∧ Below wr.heap.size wr w')) (by kernel_rfl) ⟨c20, c21, drewN_below _ 1⟩ (fun hHeld => ?_)
     refine held_take (i := 0) (v := ?_) (some 51) rfl rfl (by kernel_rfl) (by kernel_rfl) (by kernel_rfl) (fun _ _ _ h => h) (Or.inl ⟨by rfl, ?_⟩) hHeld ?_
     rotate_left
     ·intro w hSw
      try dsimp only at hSw
      go_simp
      try with_reducible rfl
     simp only [Act.put, List.setIfInBounds_toArray, List.set_cons_zero, List.set_cons_succ]
     refine held_take (i := 1) (v := ?_) (some 52) rfl rfl (by kernel_rfl) (by kernel_rfl) (by kernel_rfl) (fun _ _ _ h => h) (Or.inl ⟨by rfl, ?_⟩) hHeld ?_
     rotate_left
     ·intro w hSw
      try dsimp only at hSw
      go_simp
      try with_reducible rfl
     simp only [Act.put, List.setIfInBounds_toArray, List.set_cons_zero, List.set_cons_succ]
     refine held_take (i := 2) (v := ?_) (some 53) rfl rfl (by kernel_rfl) (by kernel_rfl) (by kernel_rfl) (fun _ _ _ h => h) (Or.inl ⟨by rfl, ?_⟩) hHeld ?_
     rotate_left
     ·intro w hSw
      try dsimp only at hSw
      go_simp
      try with_reducible rfl
     simp only [Act.put, List.setIfInBounds_toArray, List.set_cons_zero, List.set_cons_succ]
     refine held_take (i := 3) (v := ?_) (some 54) rfl rfl (by kernel_rfl) (by kernel_rfl) (by kernel_rfl) (fun _ _ _ h => h) (Or.inl ⟨by rfl, ?_⟩) hHeld ?_
     rotate_left
     ·intro w hSw
      try dsimp only at hSw
      go_simp
      try with_reducible rfl
     simp only [Act.put, List.setIfInBounds_toArray, List.set_cons_zero, List.set_cons_succ]
     refine held_take (i := 4) (v := ?_) (some 4) rfl rfl (by kernel_rfl) (by kernel_rfl) (by kernel_rfl) (fun _ _ _ h => h) (Or.inl ⟨by rfl, ?_⟩) hHeld ?_
     rotate_left
     ·intro w hSw
      try dsimp only at hSw
      go_simp
      try with_reducible rfl
     simp only [Act.put, List.setIfInBounds_toArray, List.set_cons_zero, List.set_cons_succ]
     refine held_take (i := 5) (v := ?_) (some 5) rfl rfl (by kernel_rfl) (by kernel_rfl) (by kernel_rfl) (fun _ _ _ h => h) (Or.inl ⟨by rfl, ?_⟩) hHeld ?_
     rotate_left
     ·intro w hSw
      try dsimp only at hSw
      go_simp
      try with_reducible rfl
     simp only [Act.put, List.setIfInBounds_toArray, List.set_cons_zero, List.set_cons_succ]
     refine held_take (i := 6) (v := ?_) (some 6) rfl rfl (by kernel_rfl) (by kernel_rfl) (by kernel_rfl) (fun _ _ _ h => h) (Or.inl ⟨by rfl, ?_⟩) hHeld ?_
     rotate_left
     ·intro w hSw
      try dsimp only at hSw
      go_simp
      try with_reducible rfl
     simp only [Act.put, List.setIfInBounds_toArray, List.set_cons_zero, List.set_cons_succ]
     refine wpAnyH_done (by kernel_rfl) ?_ _
     go_wp2
     have HE2 := Lib.hid (pairP_ok (HPD.out) (HBL.out.trans (hHeld.2.2.mono HBL.out.size)))
     refine bodyPost_ret (v := .tuple #[.float .f64 a0, .float .f64 a1, .nilIface]) ?_ rfl (HE2.out)
     simp [results, Tryz.results64, go_sem]
  ·have hli : ((u.kids.length : Nat) : Int) ≠ 2 := by omega
   have hlb : (((u.kids.length : Nat) : Int) != 2) = true := by simp; omega
   have HE := Lib.hid (pairP_no (pairD_two (p := p) HS.out hl) HB3.out)
   clear hl
   go_wp2_with fail
   ((with_reducible refine (btrail_any 162 p _).mono ?_); rintro e w4 ⟨rfl, rfl⟩)
   unfold trlV at HE ⊢
   go_wp2
   refine bodyPost_ret (v := .tuple #[.float .f64 0, .float .f64 0, .iface 139 (.agg #[.int .i64 162, .string ⟨p.toArray⟩])]) ?_ rfl (HE.out)
   simp [results, Tryz.results64, go_sem]
 ·have hsi : ((u.srt : Nat) : Int) ≠ 5 := by omega
  have hsb : (((u.srt : Nat) : Int) != 5) = true := by simp; omega
  have HE := Lib.hid (pairP_no (pairD_sort (p := p) hs) HB2.out)
  clear hs
  go_wp2_with fail
  ((with_reducible refine (btrail_any 5 p _).mono ?_); rintro e w3 ⟨rfl, rfl⟩)
  unfold trlV at HE ⊢
  go_wp2
  refine bodyPost_ret (v := .tuple #[.float .f64 0, .float .f64 0, .iface 139 (.agg #[.int .i64 5, .string ⟨p.toArray⟩])]) ?_ rfl (HE.out)
  simp [results, Tryz.results64, go_sem]
end Nd
end Go.Proofs.YtbajkglacfheiaaGreatDoor
namespace Go.Proofs.YtbajkglacfheiaaGreatDoor
open Go.RowKit Mem Utf Ref3 Idx Tok TokC
namespace Nd
def TrueN (w : World) (e : Ending) (w' : World) : Prop := e = .returned (.bool true) ∧ Below w.heap.size w w'
end Nd
end Go.Proofs.YtbajkglacfheiaaGreatDoor
