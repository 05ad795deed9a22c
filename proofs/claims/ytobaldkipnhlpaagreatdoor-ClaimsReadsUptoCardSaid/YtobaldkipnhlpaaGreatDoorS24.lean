/-
  Walks of the reference of layer 25: Keys, Kinds, Be (printed by wip/gen_cln.py).
  The table of claims, and how each one is read.
-/
import Derived.Test.YtobaldkipnhlpaaGreatDoorS14
import Derived.Test.YtobaldkipnhlpaaGreatDoorS11
import Derived.Test.YtobaldkipnhlpaaGreatDoorS23
import Derived.RegionTactic
import Derived.BigRegion
import Derived.Deep.CutBlock
import Derived.Deep.DeepCutAuto
import Derived.Laws.EntriesVeiled
set_option linter.unusedVariables false
set_option linter.unusedSimpArgs false
set_option maxRecDepth 100000
set_option maxHeartbeats 16000000
namespace Go.Proofs.YtobaldkipnhlpaaGreatDoor
open Go.RowKit Mem Utf Ref3 Tok Cl

def dCells (f : Nat → Bool) (c : C) (v2 v3 : Value) : Array Value := #[.bool (f 0), .bool (f 1), .bool (f 2), .bool (f 3), .bool (f 4), .bool (f 5), .bool (f 6), .bool (f 7),
 .string ⟨c.about.toArray⟩, .string ⟨#[]⟩, .string ⟨c.by_.toArray⟩, .string ⟨#[]⟩, .string ⟨#[]⟩, .string ⟨c.id_.toArray⟩, .string ⟨#[]⟩, .string ⟨#[]⟩,
 .int .i64 0, .int .i64 c.at_, .int .i64 0, .int .i64 0, .int .i64 c.from_, .int .i64 0, .int .i64 0, .int .i64 c.until_,
 .slice none 0 0, .slice none 0 0, .slice none 0 0, v2, .slice none 0 0, .slice none 0 0, v3, .slice none 0 0]
theorem dCells_put (f : Nat → Bool) (c : C) (v2 v3 : Value) {k : Nat} (hk : k < 8) (b : Bool) : (dCells f c v2 v3).setIfInBounds k (.bool b) = dCells (fun i => if i = k then b else f i) c v2 v3 := by
 rcases below8 hk with rfl | rfl | rfl | rfl | rfl | rfl | rfl | rfl <;> simp [dCells]
theorem dCells_ext {f g : Nat → Bool} (h : ∀ i, i < 8 → f i = g i) (c : C) (v2 v3 : Value) : dCells f c v2 v3 = dCells g c v2 v3 := by
 unfold dCells
 rw [h 0 (by decide), h 1 (by decide), h 2 (by decide), h 3 (by decide), h 4 (by decide), h 5 (by decide), h 6 (by decide), h 7 (by decide)]
theorem dCells_at {w : World} {b : Nat} {t : TypeId} {f : Nat → Bool} {c : C} {v2 v3 : Value} (h : Blk w b t (dCells f c v2 v3)) {k : Nat} (hk : k < 8) : w.cell? ⟨b, k, none⟩ = some (.bool (f k)) := by
 rcases below8 hk with rfl | rfl | rfl | rfl | rfl | rfl | rfl | rfl
 ·exact h.cell 0
 ·exact h.cell 1
 ·exact h.cell 2
 ·exact h.cell 3
 ·exact h.cell 4
 ·exact h.cell 5
 ·exact h.cell 6
 ·exact h.cell 7
def keyCells : Array Value := #[.string ⟨(key 0).toArray⟩, .string ⟨(key 1).toArray⟩, .string ⟨(key 2).toArray⟩, .string ⟨(key 3).toArray⟩, .string ⟨(key 4).toArray⟩, .string ⟨(key 5).toArray⟩, .string ⟨(key 6).toArray⟩, .string ⟨(key 7).toArray⟩]
def kindOf : Nat → Int
 | 0 => 1
 | 1 => 2
 | 2 => 1
 | 3 => 3
 | 4 => 2
 | 5 => 1
 | 6 => 4
 | _ => 2
def kindCells : Array Value := #[.int .i64 (kindOf 0), .int .i64 (kindOf 1), .int .i64 (kindOf 2), .int .i64 (kindOf 3), .int .i64 (kindOf 4), .int .i64 (kindOf 5), .int .i64 (kindOf 6), .int .i64 (kindOf 7)]
theorem keyCells_at {w : World} {b : Nat} {t : TypeId} (h : Blk w b t keyCells) {k : Nat} (hk : k < 8) : w.cell? ⟨b, k, none⟩ = some (.string ⟨(key k).toArray⟩) := by
 rcases below8 hk with rfl | rfl | rfl | rfl | rfl | rfl | rfl | rfl
 ·exact h.cell 0
 ·exact h.cell 1
 ·exact h.cell 2
 ·exact h.cell 3
 ·exact h.cell 4
 ·exact h.cell 5
 ·exact h.cell 6
 ·exact h.cell 7
theorem kindCells_at {w : World} {b : Nat} {t : TypeId} (h : Blk w b t kindCells) {k : Nat} (hk : k < 8) : w.cell? ⟨b, k, none⟩ = some (.int .i64 (kindOf k)) := by
 rcases below8 hk with rfl | rfl | rfl | rfl | rfl | rfl | rfl | rfl
 ·exact h.cell 0
 ·exact h.cell 1
 ·exact h.cell 2
 ·exact h.cell 3
 ·exact h.cell 4
 ·exact h.cell 5
 ·exact h.cell 6
 ·exact h.cell 7

theorem refKeys_any (w : World) : Calls Tryz.prog 28 #[] w fun e w' => e = .returned (.agg keyCells) ∧ Below w.heap.size w w' := by
 go_enter Tryz.func28, Tryz.ntmps28
 go_wp2
 refine bodyPost_ret (v := .agg keyCells) (by simp [results, Tryz.results28, go_sem, keyCells, key]) rfl ⟨rfl, ?_⟩
 exact (Below.refl _ _).alloc (Nat.le_refl _) _

theorem refKinds_any (w : World) : Calls Tryz.prog 76 #[] w fun e w' => e = .returned (.agg kindCells) ∧ Below w.heap.size w w' := by
 go_enter Tryz.func76, Tryz.ntmps76
 go_wp2
 refine bodyPost_ret (v := .agg kindCells) (by simp [results, Tryz.results76, go_sem, kindCells, kindOf]) rfl ⟨rfl, ?_⟩
 exact (Below.refl _ _).alloc (Nat.le_refl _) _

def txtOf (c : C) : Nat → Txt
 | 0 => c.about
 | 2 => c.by_
 | 5 => c.id_
 | _ => []
def timOf (c : C) : Nat → Int
 | 1 => c.at_
 | 4 => c.from_
 | 7 => c.until_
 | _ => 0
def lstOf (v2 v3 : Value) : Nat → Value
 | 3 => v2
 | 6 => v3
 | _ => .slice none 0 0
theorem dCells_txt {w : World} {b : Nat} {t : TypeId} {f : Nat → Bool} {c : C} {v2 v3 : Value} (h : Blk w b t (dCells f c v2 v3)) {k : Nat} (hk : k < 8) : w.cell? ⟨b, 8 + k, none⟩ = some (.string ⟨(txtOf c k).toArray⟩) := by
 rcases below8 hk with rfl | rfl | rfl | rfl | rfl | rfl | rfl | rfl
 ·exact h.cell 8
 ·exact h.cell 9
 ·exact h.cell 10
 ·exact h.cell 11
 ·exact h.cell 12
 ·exact h.cell 13
 ·exact h.cell 14
 ·exact h.cell 15
theorem dCells_tim {w : World} {b : Nat} {t : TypeId} {f : Nat → Bool} {c : C} {v2 v3 : Value} (h : Blk w b t (dCells f c v2 v3)) {k : Nat} (hk : k < 8) : w.cell? ⟨b, 16 + k, none⟩ = some (.int .i64 (timOf c k)) := by
 rcases below8 hk with rfl | rfl | rfl | rfl | rfl | rfl | rfl | rfl
 ·exact h.cell 16
 ·exact h.cell 17
 ·exact h.cell 18
 ·exact h.cell 19
 ·exact h.cell 20
 ·exact h.cell 21
 ·exact h.cell 22
 ·exact h.cell 23
theorem dCells_lst {w : World} {b : Nat} {t : TypeId} {f : Nat → Bool} {c : C} {v2 v3 : Value} (h : Blk w b t (dCells f c v2 v3)) {k : Nat} (hk : k < 8) : w.cell? ⟨b, 24 + k, none⟩ = some (lstOf v2 v3 k) := by
 rcases below8 hk with rfl | rfl | rfl | rfl | rfl | rfl | rfl | rfl
 ·exact h.cell 24
 ·exact h.cell 25
 ·exact h.cell 26
 ·exact h.cell 27
 ·exact h.cell 28
 ·exact h.cell 29
 ·exact h.cell 30
 ·exact h.cell 31

theorem beK_step {c : C} {k n : Nat} (hk : k < 8) : beK c (8 - k) n = (valid c (isD c k n) k && beK c (8 - (k + 1)) (if isD c k n then n + 1 else n)) := by
 have h1 : 8 - k = (7 - k) + 1 := by omega
 have h2 : 7 - (7 - k) = k := by omega
 have h3 : 8 - (k + 1) = 7 - k := by omega
 rw [h1, beK, h2, h3]

theorem kinds8 {k : Nat} (h : k < 8) : (k = 0 ∨ k = 2 ∨ k = 5) ∨ (k = 1 ∨ k = 4 ∨ k = 7) ∨ (k = 3 ∨ k = 6) := by omega
theorem kind_text {c : C} {v2 v3 : Value} {k : Nat} {w : World} {v1 : Value} (hc : ClAt w c v1 v2 v3) (h : k = 0 ∨ k = 2 ∨ k = 5) : ∃ s : Txt, txtOf c k = s ∧ timOf c k = 0 ∧ lstOf v2 v3 k = .slice none 0 0 ∧ kindOf k = 1 ∧ (∀ i, valid c i k = txt i s) ∧ s.length ≤ 140737488355328 := by
 rcases h with rfl | rfl | rfl
 ·exact ⟨_, rfl, rfl, rfl, rfl, fun _ => rfl, hc.tabout⟩
 ·exact ⟨_, rfl, rfl, rfl, rfl, fun _ => rfl, hc.tby⟩
 ·exact ⟨_, rfl, rfl, rfl, rfl, fun _ => rfl, hc.tid⟩
theorem kind_time {c : C} {v2 v3 : Value} {k : Nat} (h : k = 1 ∨ k = 4 ∨ k = 7) : ∃ s : Int, txtOf c k = [] ∧ timOf c k = s ∧ lstOf v2 v3 k = .slice none 0 0 ∧ kindOf k = 2 ∧ (∀ i, valid c i k = tim i s) := by
 rcases h with rfl | rfl | rfl
 ·exact ⟨_, rfl, rfl, rfl, rfl, fun _ => rfl⟩
 ·exact ⟨_, rfl, rfl, rfl, rfl, fun _ => rfl⟩
 ·exact ⟨_, rfl, rfl, rfl, rfl, fun _ => rfl⟩
theorem kind_list {c : C} {v2 v3 : Value} {k : Nat} {w : World} {v1 : Value} (hc : ClAt w c v1 v2 v3) (h : k = 3 ∨ k = 6) : ∃ (s : List Txt) (q : Int), txtOf c k = [] ∧ timOf c k = 0 ∧ Rd w (lstOf v2 v3 k) s ∧ kindOf k = q ∧ 3 ≤ q ∧ (∀ i, valid c i k = lst i s) ∧ s.length ≤ 1099511627776 ∧ (∀ t ∈ s, t.length ≤ 140737488355328) ∧ (∀ A n, lstOf v2 v3 k = .slice A s.length n → s.length ≤ n ∧ n ≤ 9223372036854775807) := by
 rcases h with rfl | rfl
 ·exact ⟨_, 3, rfl, rfl, hc.for_, rfl, by decide, fun _ => rfl, hc.nfor, hc.efor, hc.cfor⟩
 ·exact ⟨_, 4, rfl, rfl, hc.may, rfl, by decide, fun _ => rfl, hc.nmay, hc.emay, hc.cmay⟩

theorem refBe_any (f : Nat → Bool) (c : C) (v1 v2 v3 : Value) (w : World) (h : ClAt w c v1 v2 v3) :
  Calls Tryz.prog 79 #[.agg (dCells f c v2 v3), v1] w fun e w' => e = .returned (.bool (beB c)) ∧ Below w.heap.size w w' := by
 have hnh := h.nhas
 have hb0 : ∀ cs, Below w.heap.size w (w.alloc (.cells cs 58)) := fun cs => (Below.refl _ _).alloc (Nat.le_refl _) _
 obtain ⟨A1, k1, e1, hA1⟩ := h.has
 subst e1
 clear hA1
 unfold dCells
 go_enter Tryz.func79, Tryz.ntmps79
 go_wp2_with fail
 refine (refKeys_any _).mono ?_
 rintro e w1 ⟨rfl, hb1⟩
 have hD : Blk w1 w.heap.size 58 (dCells f c v2 v3) := (Blk.new w _ _).below hb1 (by simp)
 have hbw1 := below_chain (hb0 _) (hb0 _).size hb1
 clear hb1 hb0
 go_wp2_with fail
 refine (refKinds_any _).mono ?_
 rintro e w2 ⟨rfl, hb2⟩
 have hD2 := hD.below hb2 hD.lt
 have hbw2 := below_chain hbw1 hbw1.size hb2
 have hlt2 := hD2.lt
 have hq2 : ∀ o, (w2.alloc o).heap.size = w2.heap.size + 1 := fun o => by simp
 have hK1 : Blk ((w2.alloc (.cells keyCells 54)).alloc (.cells kindCells 55)) w2.heap.size 54 keyCells := (Blk.new _ _ _).alloc _
 have hK2 : Blk ((w2.alloc (.cells keyCells 54)).alloc (.cells kindCells 55)) (w2.heap.size + 1) 55 kindCells := by
  have := Blk.new (w2.alloc (.cells keyCells 54)) 55 kindCells
  rwa [hq2] at this
 have hD3 := (hD2.alloc (.cells keyCells 54)).alloc (.cells kindCells 55)
 have hbw3 := (hbw2.alloc hbw2.size (.cells keyCells 54)).alloc (by simp; omega) (.cells kindCells 55)
 clear hb2 hD hbw1 hD2 hbw2
 unfold keyCells kindCells at *
 go_wp2_with fail
 go_loopw [7, 8] (fun c7 c8 wr => ∃ (k n : Nat) (f' : Nat → Bool), k ≤ 8 ∧ n ≤ k ∧ c8 = .int .i64 k ∧ c7 = .int .i64 n ∧ Hid (beK c (8 - k) n = beB c) ∧ Blk wr w.heap.size 58 (dCells f' c v2 v3) ∧ Blk wr w2.heap.size 54 keyCells ∧ Blk wr (w2.heap.size + 1) 55 kindCells ∧ Below w.heap.size w wr) (fun _ c8 _ => 8 - (intOf c8).toNat)
 case atStart => exact ⟨0, 0, f, by omega, by omega, rfl, rfl, Lib.hid rfl, hD3, hK1, hK2, hbw3⟩
 case round =>
  obtain ⟨k, n, f', hk, hn, rfl, rfl, H, hD, hK1, hK2, hbw⟩ := hrel
  clear hD3 hbw3 hq2
  by_cases hlt : k < 8
  ·have hst := beK_step (c := c) (n := n) hlt
   rw [H.out] at hst
   have Hst := Lib.hid hst
   clear hst
   have hlt' : (k : Int) < 8 := by omega
   have hk0 : (0 : Int) ≤ (k : Int) := by omega
   have hn0 : (0 : Int) ≤ (n : Int) := by omega
   have d0 := dCells_at hD hlt
   have d1 := dCells_txt hD hlt
   have d2 := dCells_tim hD hlt
   have d3 := dCells_lst hD hlt
   have g1 := keyCells_at hK1 hlt
   have g2 := kindCells_at hK2 hlt
   have z0 := hD.frozen k
   have hID : Hid (isD c k n = (decide (n < c.has.length) && (c.has.getD n [] == key k))) := Lib.hid rfl
   go_upto_region 6 with fail
   go_cut [29] (fun c29 wx => ∃ f2 : Nat → Bool, f2 k = isD c k n ∧ Blk wx w.heap.size 58 (dCells f2 c v2 v3) ∧ Blk wx w2.heap.size 54 keyCells ∧ Blk wx (w2.heap.size + 1) 55 kindCells ∧ Below w.heap.size w wx)
   case first =>
    have HM : ∀ b, isD c k n = b → Hid (∃ f2 : Nat → Bool, f2 k = isD c k n ∧ Blk (wr.setCell ⟨w.heap.size, k, none⟩ (.bool b)).drew w.heap.size 58 (dCells f2 c v2 v3) ∧ Blk (wr.setCell ⟨w.heap.size, k, none⟩ (.bool b)).drew w2.heap.size 54 keyCells ∧ Blk (wr.setCell ⟨w.heap.size, k, none⟩ (.bool b)).drew (w2.heap.size + 1) 55 kindCells ∧ Below w.heap.size w (wr.setCell ⟨w.heap.size, k, none⟩ (.bool b)).drew) := fun b hb => Lib.hid (by
     refine ⟨fun i => if i = k then b else f' i, by simp [hb], ?_, ?_, ?_, ?_⟩
     ·have := (hD.put k (.bool b)).drew
      rwa [dCells_put f' c v2 v3 hlt] at this
     ·exact (hK1.far (by show w2.heap.size ≠ w.heap.size; omega) _).drew
     ·exact (hK2.far (by show w2.heap.size + 1 ≠ w.heap.size; omega) _).drew
     ·exact (hbw.setCell (Nat.le_refl _) _).drew)
    by_cases hnl : n < c.has.length
    ·obtain ⟨gg, oo, hA1, hcn⟩ := has_at (h.below hbw).has hnl
     subst hA1
     have hgd := getD_at hnl
     have hd1 : (n : Int) < (c.has.length : Int) := by omega
     have hd2 : decide (n < c.has.length) = true := decide_eq_true hnl
     have hI : Hid (isD c k n = (c.has[n] == key k)) := Lib.hid (by rw [hID.out, hd2, hgd]; rfl)
     clear hgd hID
     generalize c.has[n] = x at *
     generalize key k = K at *
     by_cases hx : x = K
     ·have hJ := HM true (by rw [hI.out]; simpa using hx)
      have he : (x == K) = true := by simpa using hx
      clear hx HM hI d1 d2 d3
      go_wp2_with fail
      go_region
      go_wp2_with fail
      go_meet
      exact hJ.out
     ·have hJ := HM false (by rw [hI.out]; simpa using hx)
      have he : (x == K) = false := by simpa using hx
      clear hx HM hI d1 d2 d3
      go_wp2_with fail
      go_region
      go_wp2_with fail
      go_meet
      exact hJ.out
    ·have hd1 : ¬ (n : Int) < (c.has.length : Int) := by omega
     have hd2 : decide (n < c.has.length) = false := decide_eq_false hnl
     have hJ := HM false (by rw [hID.out, hd2]; rfl)
     clear hnl HM d1 d2 d3
     go_wp2_with fail
     go_region
     go_wp2_with fail
     go_meet
     exact hJ.out
   case rest =>
    clear hD hK1 hK2 hbw d0 d1 d2 d3 g1 g2 z0 hID
    obtain ⟨f2, hf2, hD, hK1, hK2, hbw⟩ := hcut
    have hbs := hbw.size
    have d0 := dCells_at hD hlt
    rw [hf2] at d0
    have d1 := dCells_txt hD hlt
    have d2 := dCells_tim hD hlt
    have d3 := dCells_lst hD hlt
    have g2 := kindCells_at hK2 hlt
    have z0 := hD.frozen k
    clear hf2
    have hDl := hD.lt
    have hK1l := hK1.lt
    have hK2l := hK2.lt
    have HV : ∀ i b, isD c k n = i → valid c i k = b → Hid (beB c = (b && beK c (8 - (k + 1)) (if i = true then n + 1 else n))) := fun i b hi hb => Lib.hid (by rw [Hst.out, hi, hb])
    rcases kinds8 hlt with hkd | hkd | hkd
    ·
     obtain ⟨s, e1, e2, e3, e4, hval, hsl⟩ := kind_text (v2 := v2) (v3 := v3) h hkd
     rw [e1] at d1
     rw [e2] at d2
     rw [e3] at d3
     rw [e4] at g2
     clear e1 e2 e3 e4 hkd
     replace hval := Lib.hid hval
     cases hi0 : isD c k n with
     | true =>
      have hi := hi0
      clear hi0
      rw [hi] at d0
      go_wp2_with fail
      refine (refRight_any ⟨s.toArray⟩ hsl _).mono ?_
      rintro e w4 ⟨rfl, rfl⟩
      rw [show (ByteArray.mk s.toArray).data.toList = s from rfl]
      cases hr : rightR s with
      | true =>
       have HT : Hid (beK c (8 - (k + 1)) (n + 1) = beB c) := Lib.hid (by rw [(HV true true hi (by rw [hval.out]; simp [txt, hr])).out]; simp)
       clear hi
       go_wp2_with fail
       refine (refRightL_any (.slice none 0 0) [] _ ⟨none, 0, rfl, fun j hj => by cases hj⟩ (by decide) (fun t ht => by cases ht) (fun A c h => by injection h with _ _ h; subst h; exact ⟨by decide, by decide⟩)).mono ?_
       rintro e w5 ⟨rfl, hb5⟩
       rw [show rightL [] [] = true from rfl]
       go_wp2
       go_roundw
       case rel => exact ⟨k + 1, n + 1, f2, by omega, by omega, by go_num, by go_num, HT, hD.below hb5 hDl, hK1.below hb5 hK1l, hK2.below hb5 hK2l, below_chain hbw hbs hb5⟩
       case measure => simp [intOf]; omega
      | false =>
       have HT : Hid (beB c = false) := Lib.hid (by rw [(HV true false hi (by rw [hval.out]; simp [txt, hr])).out]; simp)
       clear hi
       go_wp2
       go_ret
       exact ⟨by rw [HT.out]; rfl, hbw⟩
     | false =>
      have hi := hi0
      clear hi0
      rw [hi] at d0
      by_cases hs : s = []
      ·
       subst hs
       go_wp2_with fail
       refine (refRight_any ⟨#[]⟩ (by decide) _).mono ?_
       rintro e w4 ⟨rfl, rfl⟩
       rw [show rightR (ByteArray.mk #[]).data.toList = true from rfl]
       have HT : Hid (beK c (8 - (k + 1)) (n) = beB c) := Lib.hid (by rw [(HV false true hi (by rw [hval.out]; rfl)).out]; simp)
       clear hi
       go_wp2_with fail
       refine (refRightL_any (.slice none 0 0) [] _ ⟨none, 0, rfl, fun j hj => by cases hj⟩ (by decide) (fun t ht => by cases ht) (fun A c h => by injection h with _ _ h; subst h; exact ⟨by decide, by decide⟩)).mono ?_
       rintro e w5 ⟨rfl, hb5⟩
       rw [show rightL [] [] = true from rfl]
       go_wp2
       go_roundw
       case rel => exact ⟨k + 1, n, f2, by omega, by omega, by go_num, by go_num, HT, hD.below hb5 hDl, hK1.below hb5 hK1l, hK2.below hb5 hK2l, below_chain hbw hbs hb5⟩
       case measure => simp [intOf]; omega
      ·have hz : s.isEmpty = false := by simpa using hs
       have HT : Hid (beB c = false) := Lib.hid (by rw [(HV false false hi (by rw [hval.out]; simp [txt, hz])).out]; simp)
       clear hi hs
       go_wp2
       go_ret
       exact ⟨by rw [HT.out]; rfl, hbw⟩
    ·
     obtain ⟨s, e1, e2, e3, e4, hval⟩ := kind_time (c := c) (v2 := v2) (v3 := v3) hkd
     rw [e1] at d1
     rw [e2] at d2
     rw [e3] at d3
     rw [e4] at g2
     clear e1 e2 e3 e4 hkd
     replace hval := Lib.hid hval
     cases hi0 : isD c k n with
     | true =>
      have hi := hi0
      clear hi0
      rw [hi] at d0
      go_wp2_with fail
      refine (refTime_any s _).mono ?_
      rintro e w4 ⟨rfl, rfl⟩
      cases hr : Cl.isTime s with
      | true =>
       have HT : Hid (beK c (8 - (k + 1)) (n + 1) = beB c) := Lib.hid (by rw [(HV true true hi (by rw [hval.out]; simp [tim, hr])).out]; simp)
       clear hi
       go_wp2_with fail
       refine (refRightL_any (.slice none 0 0) [] _ ⟨none, 0, rfl, fun j hj => by cases hj⟩ (by decide) (fun t ht => by cases ht) (fun A c h => by injection h with _ _ h; subst h; exact ⟨by decide, by decide⟩)).mono ?_
       rintro e w5 ⟨rfl, hb5⟩
       rw [show rightL [] [] = true from rfl]
       go_wp2
       go_roundw
       case rel => exact ⟨k + 1, n + 1, f2, by omega, by omega, by go_num, by go_num, HT, hD.below hb5 hDl, hK1.below hb5 hK1l, hK2.below hb5 hK2l, below_chain hbw hbs hb5⟩
       case measure => simp [intOf]; omega
      | false =>
       have HT : Hid (beB c = false) := Lib.hid (by rw [(HV true false hi (by rw [hval.out]; simp [tim, hr])).out]; simp)
       clear hi
       go_wp2
       go_ret
       exact ⟨by rw [HT.out]; rfl, hbw⟩
     | false =>
      have hi := hi0
      clear hi0
      rw [hi] at d0
      by_cases hs : s = 0
      ·
       subst hs
       go_wp2_with fail
       refine (refTime_any 0 _).mono ?_
       rintro e w4 ⟨rfl, rfl⟩
       rw [show Cl.isTime 0 = true from by decide]
       have HT : Hid (beK c (8 - (k + 1)) (n) = beB c) := Lib.hid (by rw [(HV false true hi (by rw [hval.out]; decide)).out]; simp)
       clear hi
       go_wp2_with fail
       refine (refRightL_any (.slice none 0 0) [] _ ⟨none, 0, rfl, fun j hj => by cases hj⟩ (by decide) (fun t ht => by cases ht) (fun A c h => by injection h with _ _ h; subst h; exact ⟨by decide, by decide⟩)).mono ?_
       rintro e w5 ⟨rfl, hb5⟩
       rw [show rightL [] [] = true from rfl]
       go_wp2
       go_roundw
       case rel => exact ⟨k + 1, n, f2, by omega, by omega, by go_num, by go_num, HT, hD.below hb5 hDl, hK1.below hb5 hK1l, hK2.below hb5 hK2l, below_chain hbw hbs hb5⟩
       case measure => simp [intOf]; omega
      ·have hz : (s != 0) = true := by simpa using hs
       have HT : Hid (beB c = false) := Lib.hid (by rw [(HV false false hi (by rw [hval.out]; simp [tim, hs])).out]; simp)
       clear hi hs
       go_wp2
       go_ret
       exact ⟨by rw [HT.out]; rfl, hbw⟩
    ·
     obtain ⟨s, qk, e1, e2, hsr, e4, hq3, hval, hsl, hse, hsc⟩ := kind_list (v2 := v2) (v3 := v3) h hkd
     rw [e1] at d1
     rw [e2] at d2
     rw [e4] at g2
     have hsrr := hsr.below hbw
     obtain ⟨A3, q3, hl3, hA3⟩ := hsrr
     have hsrr : Rd wc (.slice A3 s.length q3) s := ⟨A3, q3, rfl, hA3⟩
     have hcp := hsc _ _ hl3
     rw [hl3] at d3
     clear e1 e2 e4 hkd hl3 hA3 hsr hsc
     have hq1 : (qk == 1) = false := by rw [beq_eq_false_iff_ne]; omega
     have hq2 : (qk == 2) = false := by rw [beq_eq_false_iff_ne]; omega
     replace hval := Lib.hid hval
     cases hi0 : isD c k n with
     | true =>
      have hi := hi0
      clear hi0
      rw [hi] at d0
      go_wp2_with fail
      refine (refRightL_any _ s _ hsrr hsl hse (fun A c h => by injection h with _ _ h; subst h; exact hcp)).mono ?_
      rintro e w5 ⟨rfl, hb5⟩
      cases hr : rightL [] s with
      | true =>
       have HT : Hid (beK c (8 - (k + 1)) (n + 1) = beB c) := Lib.hid (by rw [(HV true true hi (by rw [hval.out]; simp [lst, hr])).out]; simp)
       clear hi
       go_wp2
       go_roundw
       case rel => exact ⟨k + 1, n + 1, f2, by omega, by omega, by go_num, by go_num, HT, hD.below hb5 hDl, hK1.below hb5 hK1l, hK2.below hb5 hK2l, below_chain hbw hbs hb5⟩
       case measure => simp [intOf]; omega
      | false =>
       have HT : Hid (beB c = false) := Lib.hid (by rw [(HV true false hi (by rw [hval.out]; simp [lst, hr])).out]; simp)
       clear hi
       go_wp2
       go_ret
       exact ⟨by rw [HT.out]; rfl, below_chain hbw hbs hb5⟩
     | false =>
      have hi := hi0
      clear hi0
      rw [hi] at d0
      by_cases hs : s = []
      ·
       subst hs
       simp only [List.length_nil] at d3 hsrr hcp
       go_wp2_with fail
       refine (refRightL_any _ [] _ hsrr (by decide) (fun t ht => by cases ht) (fun A c h => by injection h with _ _ h; subst h; exact hcp)).mono ?_
       rintro e w5 ⟨rfl, hb5⟩
       rw [show rightL [] [] = true from rfl]
       have HT : Hid (beK c (8 - (k + 1)) (n) = beB c) := Lib.hid (by rw [(HV false true hi (by rw [hval.out]; rfl)).out]; simp)
       clear hi
       go_wp2
       go_roundw
       case rel => exact ⟨k + 1, n, f2, by omega, by omega, by go_num, by go_num, HT, hD.below hb5 hDl, hK1.below hb5 hK1l, hK2.below hb5 hK2l, below_chain hbw hbs hb5⟩
       case measure => simp [intOf]; omega
      ·have hz : (0 : Int) < (s.length : Int) := by
        have : s.length ≠ 0 := fun e => hs (List.length_eq_zero_iff.1 e)
        omega
       have hz2 : decide (0 < s.length) = true := decide_eq_true (by omega)
       have hz3 : s.isEmpty = false := by simpa using hs
       have HT : Hid (beB c = false) := Lib.hid (by rw [(HV false false hi (by rw [hval.out]; simp [lst, hz3])).out]; simp)
       clear hi hs hz3
       go_wp2
       go_ret
       exact ⟨by rw [HT.out]; rfl, hbw⟩
  ·obtain rfl : k = 8 := by omega
   have HT : Hid (beB c = (n == c.has.length)) := Lib.hid (by rw [← H.out]; rfl)
   by_cases hnl : n = c.has.length
   ·have HV : Hid (beB c = true) := Lib.hid (by rw [HT.out]; simpa using hnl)
    have he : ((n : Int) == (c.has.length : Int)) = true := by simp [hnl]
    clear hnl
    go_wp2
    go_ret
    exact ⟨by rw [HV.out]; rfl, hbw⟩
   ·have HV : Hid (beB c = false) := Lib.hid (by rw [HT.out]; simpa using hnl)
    have he : ((n : Int) == (c.has.length : Int)) = false := by rw [beq_eq_false_iff_ne]; omega
    clear hnl
    go_wp2
    go_ret
    exact ⟨by rw [HV.out]; rfl, hbw⟩
end Go.Proofs.YtobaldkipnhlpaaGreatDoor
namespace Go.Proofs.YtobaldkipnhlpaaGreatDoor
open Go.RowKit Mem Utf Ref3 Idx Tok TokC Cl
namespace Nd
def RdAt (w : World) (k : Nat) (x : FuncId × Array Value) : Prop :=
 ((k = 0 ∨ k = 2 ∨ k = 5) ∧ ∃ bf, x = (49, #[.pointer (some ⟨bf, 0, none⟩)]) ∧ w.cell? ⟨bf, 0, none⟩ = some (fnV k)) ∨
 ((k = 1 ∨ k = 4 ∨ k = 7) ∧ ∃ bf, x = (52, #[.pointer (some ⟨bf, 0, none⟩)]) ∧ w.cell? ⟨bf, 0, none⟩ = some (fnV k)) ∨
 ((k = 3 ∨ k = 6) ∧ ∃ bf ba, x = (55, #[.pointer (some ⟨bf, 0, none⟩), .pointer (some ⟨ba, 0, none⟩)]) ∧ w.cell? ⟨bf, 0, none⟩ = some (fnV k) ∧ w.cell? ⟨ba, 0, none⟩ = some (.bool (decide (k = 3))))
theorem cell_keep {w w' : World} {b o : Nat} {x : Value} (h : w.cell? ⟨b, o, none⟩ = some x) (hb : Below w.heap.size w w') : w'.cell? ⟨b, o, none⟩ = some x := ((old hb).1 _ _ (World.block_lt_of_cell? _ _ h)).trans h
theorem RdAt.below {w w' : World} {k : Nat} {x : FuncId × Array Value} (h : RdAt w k x) (hb : Below w.heap.size w w') : RdAt w' k x := by
 rcases h with ⟨h1, bf, h2, h3⟩ | ⟨h1, bf, h2, h3⟩ | ⟨h1, bf, ba, h2, h3, h4⟩
 ·exact .inl ⟨h1, bf, h2, cell_keep h3 hb⟩
 ·exact .inr (.inl ⟨h1, bf, h2, cell_keep h3 hb⟩)
 ·exact .inr (.inr ⟨h1, bf, ba, h2, cell_keep h3 hb, cell_keep h4 hb⟩)
theorem rowx1_any (k : ByteArray) (j : FuncId) (w : World) :
  Calls Tryz.prog 48 #[.string k, .func (.func j) #[] #[]] w fun e w' => (∃ bf, e = .returned (.agg #[.string k, .func (.func 49) #[] #[.pointer (some ⟨bf, 0, none⟩)], .func (.func j) #[] #[], .nilFunc, .nilFunc]) ∧ w'.cell? ⟨bf, 0, none⟩ = some (.func (.func j) #[] #[])) ∧ Below w.heap.size w w' := by
 have hmf : ∀ (fn : Fn) (first cap : Array Value) (w : World), (Instr.makeFunc fn first cap).run Tryz.prog w = .ok (.func fn first cap) w := fun _ _ _ _ => rfl
 go_enter Tryz.func48, Tryz.ntmps48
 go_wp2
 refine bodyPost_ret (v := .agg #[.string k, .func (.func 49) #[] #[.pointer (some ⟨w.heap.size, 0, none⟩)], .func (.func j) #[] #[], .nilFunc, .nilFunc]) (by simp [results, Tryz.results48, go_sem]) rfl ⟨⟨_, rfl, ?_⟩, ?_⟩
 ·exact ((Blk.new w _ _).alloc _).cell 0
 ·exact ((Below.refl _ _).alloc (Nat.le_refl _) _).alloc (by simp) _
theorem rowx2_any (k : ByteArray) (j : FuncId) (w : World) :
  Calls Tryz.prog 51 #[.string k, .func (.func j) #[] #[]] w fun e w' => (∃ bf, e = .returned (.agg #[.string k, .func (.func 52) #[] #[.pointer (some ⟨bf, 0, none⟩)], .nilFunc, .func (.func j) #[] #[], .nilFunc]) ∧ w'.cell? ⟨bf, 0, none⟩ = some (.func (.func j) #[] #[])) ∧ Below w.heap.size w w' := by
 have hmf : ∀ (fn : Fn) (first cap : Array Value) (w : World), (Instr.makeFunc fn first cap).run Tryz.prog w = .ok (.func fn first cap) w := fun _ _ _ _ => rfl
 go_enter Tryz.func51, Tryz.ntmps51
 go_wp2
 refine bodyPost_ret (v := .agg #[.string k, .func (.func 52) #[] #[.pointer (some ⟨w.heap.size, 0, none⟩)], .nilFunc, .func (.func j) #[] #[], .nilFunc]) (by simp [results, Tryz.results51, go_sem]) rfl ⟨⟨_, rfl, ?_⟩, ?_⟩
 ·exact ((Blk.new w _ _).alloc _).cell 0
 ·exact ((Below.refl _ _).alloc (Nat.le_refl _) _).alloc (by simp) _
theorem rowx3_any (k : ByteArray) (b : Bool) (j : FuncId) (w : World) :
  Calls Tryz.prog 54 #[.string k, .bool b, .func (.func j) #[] #[]] w fun e w' => (∃ bf ba, e = .returned (.agg #[.string k, .func (.func 55) #[] #[.pointer (some ⟨bf, 0, none⟩), .pointer (some ⟨ba, 0, none⟩)], .nilFunc, .nilFunc, .func (.func j) #[] #[]]) ∧ w'.cell? ⟨bf, 0, none⟩ = some (.func (.func j) #[] #[]) ∧ w'.cell? ⟨ba, 0, none⟩ = some (.bool b)) ∧ Below w.heap.size w w' := by
 have hmf : ∀ (fn : Fn) (first cap : Array Value) (w : World), (Instr.makeFunc fn first cap).run Tryz.prog w = .ok (.func fn first cap) w := fun _ _ _ _ => rfl
 go_enter Tryz.func54, Tryz.ntmps54
 go_wp2
 refine bodyPost_ret (v := .agg #[.string k, .func (.func 55) #[] #[.pointer (some ⟨w.heap.size + 1, 0, none⟩), .pointer (some ⟨w.heap.size, 0, none⟩)], .nilFunc, .nilFunc, .func (.func j) #[] #[]]) (by simp [results, Tryz.results54, go_sem]) rfl ⟨⟨_, _, rfl, ?_, ?_⟩, ?_⟩
 ·have h := (Blk.new (w.alloc (.cells #[.bool b] 4)) 104 #[.func (.func j) #[] #[]])
  rw [World.size_alloc] at h
  exact (h.alloc _).cell 0
 ·exact (((Blk.new w _ _).alloc _).alloc _).cell 0
 ·exact (((Below.refl _ _).alloc (Nat.le_refl _) _).alloc (by simp) _).alloc (by simp; omega) _
theorem rowsx_any (w : World) : Calls Tryz.prog 24 #[] w fun e w' => ∃ g rd, e = .returned (.slice (some ⟨g, 0, none⟩) 8 8) ∧ Blk w' g 106 (rowCells rd) ∧ (∀ k, k < 8 → RdAt w' k (rd k)) ∧ w.heap.size ≤ g ∧ Below w.heap.size w w' := by
 have hbw : Below w.heap.size w w := Below.refl _ _
 go_enter Tryz.func24, Tryz.ntmps24
 go_wp2_with fail
 refine (rowx1_any ⟨#[97, 98, 111, 117, 116]⟩ 57 _).mono ?_
 rintro e w0 ⟨⟨bf0, rfl, hc0⟩, hb⟩
 replace hbw := below_chain hbw hbw.size hb
 have HR0 : Hid (RdAt w0 0 (49, #[.pointer (some ⟨bf0, 0, none⟩)])) := Lib.hid (.inl ⟨by decide, bf0, rfl, hc0⟩)
 clear hb hc0
 go_wp2_with fail
 refine (rowx2_any ⟨#[97, 116]⟩ 58 _).mono ?_
 rintro e w1 ⟨⟨bf1, rfl, hc1⟩, hb⟩
 replace hbw := below_chain hbw hbw.size hb
 have HR0 := Lib.hid (HR0.out.below hb)
 have HR1 : Hid (RdAt w1 1 (52, #[.pointer (some ⟨bf1, 0, none⟩)])) := Lib.hid (.inr (.inl ⟨by decide, bf1, rfl, hc1⟩))
 clear hb hc1
 go_wp2_with fail
 refine (rowx1_any ⟨#[98, 121]⟩ 59 _).mono ?_
 rintro e w2 ⟨⟨bf2, rfl, hc2⟩, hb⟩
 replace hbw := below_chain hbw hbw.size hb
 have HR0 := Lib.hid (HR0.out.below hb)
 have HR1 := Lib.hid (HR1.out.below hb)
 have HR2 : Hid (RdAt w2 2 (49, #[.pointer (some ⟨bf2, 0, none⟩)])) := Lib.hid (.inl ⟨by decide, bf2, rfl, hc2⟩)
 clear hb hc2
 go_wp2_with fail
 refine (rowx3_any ⟨#[102, 111, 114]⟩ true 60 _).mono ?_
 rintro e w3 ⟨⟨bf3, ba3, rfl, hc3, hd3⟩, hb⟩
 replace hbw := below_chain hbw hbw.size hb
 have HR0 := Lib.hid (HR0.out.below hb)
 have HR1 := Lib.hid (HR1.out.below hb)
 have HR2 := Lib.hid (HR2.out.below hb)
 have HR3 : Hid (RdAt w3 3 (55, #[.pointer (some ⟨bf3, 0, none⟩), .pointer (some ⟨ba3, 0, none⟩)])) := Lib.hid (.inr (.inr ⟨by decide, bf3, ba3, rfl, hc3, hd3⟩))
 clear hb hc3 hd3
 go_wp2_with fail
 refine (rowx2_any ⟨#[102, 114, 111, 109]⟩ 61 _).mono ?_
 rintro e w4 ⟨⟨bf4, rfl, hc4⟩, hb⟩
 replace hbw := below_chain hbw hbw.size hb
 have HR0 := Lib.hid (HR0.out.below hb)
 have HR1 := Lib.hid (HR1.out.below hb)
 have HR2 := Lib.hid (HR2.out.below hb)
 have HR3 := Lib.hid (HR3.out.below hb)
 have HR4 : Hid (RdAt w4 4 (52, #[.pointer (some ⟨bf4, 0, none⟩)])) := Lib.hid (.inr (.inl ⟨by decide, bf4, rfl, hc4⟩))
 clear hb hc4
 go_wp2_with fail
 refine (rowx1_any ⟨#[105, 100]⟩ 62 _).mono ?_
 rintro e w5 ⟨⟨bf5, rfl, hc5⟩, hb⟩
 replace hbw := below_chain hbw hbw.size hb
 have HR0 := Lib.hid (HR0.out.below hb)
 have HR1 := Lib.hid (HR1.out.below hb)
 have HR2 := Lib.hid (HR2.out.below hb)
 have HR3 := Lib.hid (HR3.out.below hb)
 have HR4 := Lib.hid (HR4.out.below hb)
 have HR5 : Hid (RdAt w5 5 (49, #[.pointer (some ⟨bf5, 0, none⟩)])) := Lib.hid (.inl ⟨by decide, bf5, rfl, hc5⟩)
 clear hb hc5
 go_wp2_with fail
 refine (rowx3_any ⟨#[109, 97, 121]⟩ false 63 _).mono ?_
 rintro e w6 ⟨⟨bf6, ba6, rfl, hc6, hd6⟩, hb⟩
 replace hbw := below_chain hbw hbw.size hb
 have HR0 := Lib.hid (HR0.out.below hb)
 have HR1 := Lib.hid (HR1.out.below hb)
 have HR2 := Lib.hid (HR2.out.below hb)
 have HR3 := Lib.hid (HR3.out.below hb)
 have HR4 := Lib.hid (HR4.out.below hb)
 have HR5 := Lib.hid (HR5.out.below hb)
 have HR6 : Hid (RdAt w6 6 (55, #[.pointer (some ⟨bf6, 0, none⟩), .pointer (some ⟨ba6, 0, none⟩)])) := Lib.hid (.inr (.inr ⟨by decide, bf6, ba6, rfl, hc6, hd6⟩))
 clear hb hc6 hd6
 go_wp2_with fail
 refine (rowx2_any ⟨#[117, 110, 116, 105, 108]⟩ 64 _).mono ?_
 rintro e w7 ⟨⟨bf7, rfl, hc7⟩, hb⟩
 replace hbw := below_chain hbw hbw.size hb
 have HR0 := Lib.hid (HR0.out.below hb)
 have HR1 := Lib.hid (HR1.out.below hb)
 have HR2 := Lib.hid (HR2.out.below hb)
 have HR3 := Lib.hid (HR3.out.below hb)
 have HR4 := Lib.hid (HR4.out.below hb)
 have HR5 := Lib.hid (HR5.out.below hb)
 have HR6 := Lib.hid (HR6.out.below hb)
 have HR7 : Hid (RdAt w7 7 (52, #[.pointer (some ⟨bf7, 0, none⟩)])) := Lib.hid (.inr (.inl ⟨by decide, bf7, rfl, hc7⟩))
 clear hb hc7
 have HBW := Lib.hid hbw
 clear hbw
 go_wp2
 go_ret
 refine ⟨_, fun k => match k with | 0 => (49, #[.pointer (some ⟨bf0, 0, none⟩)]) | 1 => (52, #[.pointer (some ⟨bf1, 0, none⟩)]) | 2 => (49, #[.pointer (some ⟨bf2, 0, none⟩)]) | 3 => (55, #[.pointer (some ⟨bf3, 0, none⟩), .pointer (some ⟨ba3, 0, none⟩)]) | 4 => (52, #[.pointer (some ⟨bf4, 0, none⟩)]) | 5 => (49, #[.pointer (some ⟨bf5, 0, none⟩)]) | 6 => (55, #[.pointer (some ⟨bf6, 0, none⟩), .pointer (some ⟨ba6, 0, none⟩)]) | _ => (52, #[.pointer (some ⟨bf7, 0, none⟩)]), rfl, Blk.new _ _ _, ?_, HBW.out.size, HBW.out.alloc HBW.out.size _⟩
 intro k hk
 have hbn : ∀ o, Below w7.heap.size w7 (w7.alloc o) := fun o => (Below.refl _ _).alloc (Nat.le_refl _) _
 rcases below8 hk with rfl | rfl | rfl | rfl | rfl | rfl | rfl | rfl
 ·exact HR0.out.below (hbn _)
 ·exact HR1.out.below (hbn _)
 ·exact HR2.out.below (hbn _)
 ·exact HR3.out.below (hbn _)
 ·exact HR4.out.below (hbn _)
 ·exact HR5.out.below (hbn _)
 ·exact HR6.out.below (hbn _)
 ·exact HR7.out.below (hbn _)
end Nd
end Go.Proofs.YtobaldkipnhlpaaGreatDoor
