/-
  Walk of the reference of layer 25: Make, from its start to its end.
-/
import Derived.Test.YtbcckpnngonoeaaGreatDoorCmFs
namespace Go.Proofs.YtbcckpnngonoeaaGreatDoor
open Go.RowKit Mem Utf Ref3 Tok Cl
set_option linter.unusedVariables false
set_option linter.unusedSimpArgs false
namespace Nd
/-- the value that is made at a key: its block, its memory between X and Y -/
structure XSt (X Y : Nat) (t : Tr) (x : X4) (w : World) : Prop where
  bl : Blk w X 61 (cellV t x).toArray
  rd : RdV (fun j => X ≤ j ∧ j < Y) w t x
  lt : X < w.heap.size
theorem XSt.below {X Y : Nat} {t : Tr} {x : X4} {w w' : World} (h : XSt X Y t x w) (hb : Below w.heap.size w w') : XSt X Y t x w' :=
  ⟨h.bl.below hb h.lt, RdV.move (fun k hk hs => ⟨hs, hb.block k hk⟩) _ _ h.rd, by have := hb.size; have := h.lt; omega⟩
theorem XSt.keyed {X Y P n n' g9 q9 : Nat} {t : Tr} {x : X4} {wx w9 : World} {ob : Obj} {AK : Option Addr} {cK : Nat} (h : XSt X Y t x wx) (hg : (wx.alloc ob).drew.grownBy w9 (Value.slice AK n cK).ownBlock) (hk : ∀ g, (Value.slice AK n cK).ownBlock = some g → g < X) (hP : P < X) : XSt X Y t x (w9.setCell ⟨P, 5, none⟩ (.slice (some ⟨g9, 0, none⟩) n' q9)) := by
  have hs : wx.heap.size + 1 ≤ w9.heap.size := by have := hg.size; simpa using this
  have hm : ∀ j, j < wx.heap.size → X ≤ j → (w9.setCell ⟨P, 5, none⟩ (.slice (some ⟨g9, 0, none⟩) n' q9)).heap[j]? = wx.heap[j]? := fun j hj hX => by
    rw [heap_setCell_other w9 ⟨P, 5, none⟩ j _ (by show j ≠ P; omega)]
    exact (hg.block j (by show j < (wx.alloc ob).heap.size; simp; omega) (fun e => by have := hk j e.symm; omega)).trans (Below.heap_alloc wx ob j hj)
  have hl := h.lt
  exact ⟨(hm X hl (Nat.le_refl _)).trans h.bl, RdV.move (fun j hj hs => ⟨hs, hm j hj hs.1⟩) _ _ h.rd, by simp [World.setCell]; omega⟩
/-- behind the key: the object, the value, and where the keys lie -/
def MkX (B : Nat) (w4 : World) (P X Y : Nat) (l : List Tr) (ks : List Tx) (AI : Option Addr) (cI : Nat) (AK : Option Addr) (cK : Nat) (t : Tr) (x : X4) (w : World) : Prop :=
  MkV B w4 P l ks AI cI AK cK w ∧ XSt X Y t x w ∧ ∀ g, (Value.slice AK ks.length cK).ownBlock = some g → g < X ∨ Y ≤ g
/-- the value of a list while its texts are put into it -/
structure LsSt (X : Nat) (wr : World) (l : List Tr) (j : Nat) (AX : Option Addr) (cX : Nat) (w : World) : Prop where
  bl : Blk w X 61 #[.int .i64 5, .bool false, .int .u64 0, .string ⟨#[]⟩, .slice AX j cX, .slice none 0 0]
  own : w.ownsRow (X + 1) 61 6 (.slice AX j cX) j (cellsV (l.take j) (List.replicate j ((none, 0), (none, 0))))
  fr : Below X wr w
  lt : X < w.heap.size
theorem LsSt.put {X : Nat} {wr w w9 : World} {l : List Tr} {j : Nat} {AX : Option Addr} {cX g9 q9 : Nat} {tx : Txt} {ob : Obj} (h : LsSt X wr l j AX cX w) (hj : j < l.length) (hs : l.take (j + 1) = l.take j ++ [.text tx])
    (ho : w9.ownsRow (X + 1) 61 6 (.slice (some ⟨g9, 0, none⟩) (j + 1) q9) (j + 1) (cellsV (l.take j) (List.replicate j ((none, 0), (none, 0))) ++ cellV (.text tx) ((none, 0), (none, 0)))) (hg : (w.alloc ob).drew.grownBy w9 (Value.slice AX j cX).ownBlock) :
    LsSt X wr l (j + 1) (some ⟨g9, 0, none⟩) q9 (w9.setCell ⟨X, 4, none⟩ (.slice (some ⟨g9, 0, none⟩) (j + 1) q9)) := by
  have hgp : some X ≠ (Value.slice AX j cX).ownBlock := fun e => by have := own_base h.own X e.symm; omega
  have hlt := h.lt
  have hsz : w.heap.size + 1 ≤ w9.heap.size := by have := hg.size; simpa using this
  refine ⟨(((h.bl.alloc ob).drew).only hg hgp).put 4 _, ?_, ?_, by simp [World.setCell]; omega⟩
  · rw [hs, List.replicate_succ', cellsV_snoc _ _ _ _ (by simp; omega)]
    exact World.ownsRow.kept ho (grown_put (grown_refl w9 (some X)) 4 _) (own_notP ho (by omega))
  · exact (((h.fr.alloc (by have := h.fr.size; omega) ob).drew).grown hg (by simp; omega) (fun g hg' => by have := own_base h.own g hg'; omega)).setCell (Nat.le_refl X) _
theorem cellL (l : List Txt) (AX : Option Addr) (cX : Nat) : (cellV (.list (l.map Tr.text)) ((AX, cX), (none, 0))).toArray = #[.int .i64 5, .bool false, .int .u64 0, .string ⟨#[]⟩, .slice AX l.length cX, .slice none 0 0] := by
  simp [cellV, Tr.srt, Tr.fl, Tr.bi, Tr.tx, Tr.kids, Tr.kn]
theorem LsSt.fin {X : Nat} {wr w : World} {l : List Txt} {AX : Option Addr} {cX : Nat} (h : LsSt X wr (l.map .text) l.length AX cX w) : XSt X w.heap.size (.list (l.map .text)) ((AX, cX), (none, 0)) w := by
  have hb := h.bl
  have ho := h.own
  rw [List.take_of_length_le (by simp)] at ho
  refine ⟨?_, ?_, h.lt⟩
  · have e : (cellV (.list (l.map Tr.text)) ((AX, cX), (none, 0))).toArray = #[.int .i64 5, .bool false, .int .u64 0, .string ⟨#[]⟩, .slice AX l.length cX, .slice none 0 0] := by
      simp [cellV, Tr.srt, Tr.fl, Tr.bi, Tr.tx, Tr.kids, Tr.kn]
    rw [e]
    exact hb
  · unfold RdV
    refine ⟨List.replicate l.length ((none, 0), (none, 0)), ?_, ?_⟩
    · exact (own_cells (S := fun k => X ≤ k) ho (fun k hk => by omega)).move fun k hk hs => ⟨⟨hs, hk⟩, rfl⟩
    · refine (rdvl_iff _ _ _ _).2 ⟨by simp, fun j t x hj hx => ?_⟩
      obtain ⟨t', _, rfl⟩ := List.mem_map.1 (List.mem_of_getElem? hj)
      unfold RdV
      trivial
theorem MkV.fin {B : Nat} {w3 : World} {P R : Nat} {l : List Tr} {ks : List Tx} {AI : Option Addr} {cI : Nat} {AK : Option Addr} {cK : Nat} {wr : World} {z0 z1 z2 z3 z4 z5 : Value} (h : MkV B w3 P l ks AI cI AK cK wr) (hR : Blk wr R 61 #[z0, z1, z2, z3, z4, z5]) (hB : R < B) (wf : World)
    (hw : wf = ((((((wr.setCell ⟨R, 0, none⟩ (.int .i64 6)).setCell ⟨R, 1, none⟩ (.bool false)).setCell ⟨R, 2, none⟩ (.int .u64 0)).setCell ⟨R, 3, none⟩ (.string ⟨#[]⟩)).setCell ⟨R, 4, none⟩ (.slice AI l.length cI)).setCell ⟨R, 5, none⟩ (.slice AK ks.length cK))) :
    Blk wf R 61 #[.int .i64 6, .bool false, .int .u64 0, .string ⟨#[]⟩, .slice AI l.length cI, .slice AK ks.length cK] ∧ wr.grownBy wf (some R) ∧ RdV (fun j => B ≤ j) wf (.obj ks l) ((AI, cI), (AK, cK)) ∧ ks.length ≤ cK := by
  have hcap : ks.length ≤ cK := by
    rcases h.rk.2 with ⟨e, h0⟩ | ⟨g, cap, cur, e, _, _, hle, _⟩
    · omega
    · injection e with _ _ e
      omega
  subst hw
  have hg := grown_put (grown_put (grown_put (grown_put (grown_put (grown_put (grown_refl wr (some R)) 0 (.int .i64 6)) 1 (.bool false)) 2 (.int .u64 0)) 3 (.string ⟨#[]⟩)) 4 (.slice AI l.length cI)) 5 (.slice AK ks.length cK)
  refine ⟨(((((hR.put 0 _).put 1 _).put 2 _).put 3 _).put 4 _).put 5 _, hg, ?_, hcap⟩
  obtain ⟨xs, h1, h2⟩ := h.ri
  unfold RdV
  exact ⟨(own_cells (S := fun j => B ≤ j) h.rk (fun _ hk => hk)).move fun j hj hb => ⟨hb, hg.block j hj (by intro e; injection e with e; omega)⟩, xs, (own_cells (S := fun j => B ≤ j) h1 (fun _ hk => hk)).move fun j hj hb => ⟨hb, hg.block j hj (by intro e; injection e with e; omega)⟩, h2.move fun j hj hs => ⟨hs.1, hg.block j hj (by have := hs.1; intro e; injection e with e; omega)⟩⟩
def RefMkP (c : C) (w : World) (e : Ending) (w' : World) : Prop :=
  (∃ AI cI AK cK, e = .returned (valV (objC c) AI cI AK cK) ∧ RdV (fun j => w.heap.size ≤ j) w' (objC c) ((AI, cI), (AK, cK)) ∧ (objC c).kn.length ≤ cK) ∧ Below w.heap.size w w'
theorem vtx {c : C} {k : Nat} (h : k = 0 ∨ k = 2 ∨ k = 5) : valK c k = .text (txtOf c k) ∧ kindOf k = 1 := by
  rcases h with rfl | rfl | rfl <;> exact ⟨rfl, rfl⟩
theorem vtm {c : C} {k : Nat} (h : k = 1 ∨ k = 4 ∨ k = 7) : valK c k = .num (bitsT (timOf c k).toNat) ∧ kindOf k = 2 ∧ txtOf c k = [] := by
  rcases h with rfl | rfl | rfl <;> exact ⟨rfl, rfl, rfl⟩
theorem vtm_time {c : C} (hm : mayB c = true) {k : Nat} (h : k = 1 ∨ k = 4 ∨ k = 7) : ∃ m : Nat, timOf c k = (m : Int) ∧ m < 9007199254740992 := by
  have hv := valid_at hm (show k < 8 by omega)
  have ht : Cl.isTime (timOf c k) = true := by
    rcases h with rfl | rfl | rfl <;> simp only [valid, tim, Bool.and_eq_true] at hv <;> exact hv.2
  unfold Cl.isTime at ht
  have ht := of_decide_eq_true ht
  exact ⟨(timOf c k).toNat, by omega, by omega⟩
theorem vls {c : C} {k : Nat} {v1 v2 v3 : Value} {w : World} (hc : ClAt w c v1 v2 v3) (h : k = 3 ∨ k = 6) : ∃ (s : List Txt) (q : Int), valK c k = .list (s.map .text) ∧ Rd w (lstOf v2 v3 k) s ∧ kindOf k = q ∧ 3 ≤ q ∧ txtOf c k = [] ∧ s.length ≤ 1099511627776 := by
  rcases h with rfl | rfl
  · exact ⟨c.for_, 3, rfl, hc.for_, rfl, by omega, rfl, hc.nfor⟩
  · exact ⟨c.may_, 4, rfl, hc.may, rfl, by omega, rfl, hc.nmay⟩
set_option maxRecDepth 100000 in
set_option maxHeartbeats 16000000 in
theorem refMake_any (c : C) (v0 v4 v7 : Value) (w : World) (hC : ClAt w c v0 v4 v7) (hm : mayB c = true) :
    Calls Tryz.prog 30 #[.agg (dCells (is c) c v4 v7)] w (RefMkP c w) := by
  have hba : Below w.heap.size w (((w.alloc (.cells (dCells (is c) c v4 v7) 70)).alloc (.cells #[.int .i64 0, .bool false, .int .u64 0, .string ⟨#[]⟩, .slice none 0 0, .slice none 0 0] 61)).alloc (.cells #[.int .i64 6, .bool false, .int .u64 0, .string ⟨#[]⟩, .slice none 0 0, .slice none 0 0] 61)) := (((Below.refl _ _).alloc (Nat.le_refl _) _).alloc (by simp) _).alloc (by simp; omega) _
  have hD1 : Blk (((w.alloc (.cells (dCells (is c) c v4 v7) 70)).alloc (.cells #[.int .i64 0, .bool false, .int .u64 0, .string ⟨#[]⟩, .slice none 0 0, .slice none 0 0] 61)).alloc (.cells #[.int .i64 6, .bool false, .int .u64 0, .string ⟨#[]⟩, .slice none 0 0, .slice none 0 0] 61)) w.heap.size 70 (dCells (is c) c v4 v7) := ((Blk.new w _ _).alloc _).alloc _
  have hR1 : Blk (((w.alloc (.cells (dCells (is c) c v4 v7) 70)).alloc (.cells #[.int .i64 0, .bool false, .int .u64 0, .string ⟨#[]⟩, .slice none 0 0, .slice none 0 0] 61)).alloc (.cells #[.int .i64 6, .bool false, .int .u64 0, .string ⟨#[]⟩, .slice none 0 0, .slice none 0 0] 61)) (w.heap.size + 1) 61 #[.int .i64 0, .bool false, .int .u64 0, .string ⟨#[]⟩, .slice none 0 0, .slice none 0 0] := by
    have := (Blk.new (w.alloc (.cells (dCells (is c) c v4 v7) 70)) 61 #[.int .i64 0, .bool false, .int .u64 0, .string ⟨#[]⟩, .slice none 0 0, .slice none 0 0]).alloc (.cells #[.int .i64 6, .bool false, .int .u64 0, .string ⟨#[]⟩, .slice none 0 0, .slice none 0 0] 61)
    rwa [World.size_alloc] at this
  have hP1 : Blk (((w.alloc (.cells (dCells (is c) c v4 v7) 70)).alloc (.cells #[.int .i64 0, .bool false, .int .u64 0, .string ⟨#[]⟩, .slice none 0 0, .slice none 0 0] 61)).alloc (.cells #[.int .i64 6, .bool false, .int .u64 0, .string ⟨#[]⟩, .slice none 0 0, .slice none 0 0] 61)) (w.heap.size + 2) 61 #[.int .i64 6, .bool false, .int .u64 0, .string ⟨#[]⟩, .slice none 0 0, .slice none 0 0] := by
    have := Blk.new ((w.alloc (.cells (dCells (is c) c v4 v7) 70)).alloc (.cells #[.int .i64 0, .bool false, .int .u64 0, .string ⟨#[]⟩, .slice none 0 0, .slice none 0 0] 61)) 61 #[.int .i64 6, .bool false, .int .u64 0, .string ⟨#[]⟩, .slice none 0 0, .slice none 0 0]
    rwa [World.size_alloc, World.size_alloc] at this
  have HC := Lib.hid hC
  have HM := Lib.hid hm
  have HB := Lib.hid hba
  have HD := Lib.hid hD1
  have HR := Lib.hid hR1
  have HP := Lib.hid hP1
  clear hC hm hba hD1 hR1 hP1
  unfold dCells at HB HD HR HP ⊢
  go_enter Tryz.func30, Tryz.ntmps30
  go_wp2_with fail
  generalize (((w.alloc (.cells #[.bool (is c 0), .bool (is c 1), .bool (is c 2), .bool (is c 3), .bool (is c 4), .bool (is c 5), .bool (is c 6), .bool (is c 7), .string ⟨c.about.toArray⟩, .string ⟨#[]⟩, .string ⟨c.by_.toArray⟩, .string ⟨#[]⟩, .string ⟨#[]⟩, .string ⟨c.id_.toArray⟩, .string ⟨#[]⟩, .string ⟨#[]⟩, .int .i64 0, .int .i64 c.at_, .int .i64 0, .int .i64 0, .int .i64 c.from_, .int .i64 0, .int .i64 0, .int .i64 c.until_, .slice none 0 0, .slice none 0 0, .slice none 0 0, v4, .slice none 0 0, .slice none 0 0, v7, .slice none 0 0] 70)).alloc (.cells #[.int .i64 0, .bool false, .int .u64 0, .string ⟨#[]⟩, .slice none 0 0, .slice none 0 0] 61)).alloc (.cells #[.int .i64 6, .bool false, .int .u64 0, .string ⟨#[]⟩, .slice none 0 0, .slice none 0 0] 61)) = w1 at *
  ((with_reducible refine (refKeys_any w1).mono ?_); rintro e w2 ⟨rfl, hb⟩)
  replace HD := Lib.hid (HD.out.below hb HD.out.lt)
  replace HR := Lib.hid (HR.out.below hb HR.out.lt)
  replace HP := Lib.hid (HP.out.below hb HP.out.lt)
  replace HB := Lib.hid (HB.out.trans (hb.mono HB.out.size))
  clear hb
  go_wp2_with fail
  ((with_reducible refine (refKinds_any w2).mono ?_); rintro e w3 ⟨rfl, hb⟩)
  replace HD := Lib.hid (HD.out.below hb HD.out.lt)
  replace HR := Lib.hid (HR.out.below hb HR.out.lt)
  replace HP := Lib.hid (HP.out.below hb HP.out.lt)
  replace HB := Lib.hid (HB.out.trans (hb.mono HB.out.size))
  clear hb
  have HPL3 := Lib.hid HP.out.lt
  have hb : Below w3.heap.size w3 ((w3.alloc (.cells keyCells 66)).alloc (.cells kindCells 67)) := ((Below.refl _ _).alloc (Nat.le_refl _) _).alloc (by simp) _
  have hK1 : Blk ((w3.alloc (.cells keyCells 66)).alloc (.cells kindCells 67)) w3.heap.size 66 keyCells := (Blk.new w3 _ _).alloc _
  have hK2 : Blk ((w3.alloc (.cells keyCells 66)).alloc (.cells kindCells 67)) (w3.heap.size + 1) 67 kindCells := by
    have := Blk.new (w3.alloc (.cells keyCells 66)) 67 kindCells
    rwa [World.size_alloc] at this
  have hs4 : ((w3.alloc (.cells keyCells 66)).alloc (.cells kindCells 67)).heap.size = w3.heap.size + 2 := by simp
  replace HD := Lib.hid (HD.out.below hb HD.out.lt)
  replace HR := Lib.hid (HR.out.below hb HR.out.lt)
  replace HP := Lib.hid (HP.out.below hb HP.out.lt)
  have HW3 := Lib.hid (show w.heap.size ≤ w3.heap.size from HB.out.size)
  replace HB := Lib.hid (HB.out.trans (hb.mono HB.out.size))
  have HKB := Lib.hid hK1
  have HKI := Lib.hid hK2
  have HS4 := Lib.hid hs4
  clear hb hK1 hK2 hs4
  unfold keyCells kindCells at HD HR HP HB HKB HKI HS4 ⊢
  go_wp2_with fail
  generalize ((w3.alloc (.cells #[.string ⟨(key 0).toArray⟩, .string ⟨(key 1).toArray⟩, .string ⟨(key 2).toArray⟩, .string ⟨(key 3).toArray⟩, .string ⟨(key 4).toArray⟩, .string ⟨(key 5).toArray⟩, .string ⟨(key 6).toArray⟩, .string ⟨(key 7).toArray⟩] 66)).alloc (.cells #[.int .i64 (kindOf 0), .int .i64 (kindOf 1), .int .i64 (kindOf 2), .int .i64 (kindOf 3), .int .i64 (kindOf 4), .int .i64 (kindOf 5), .int .i64 (kindOf 6), .int .i64 (kindOf 7)] 67)) = w4 at *
  obtain ⟨P, hP⟩ : ∃ P, P = w.heap.size + 2 := ⟨_, rfl⟩
  rw [← hP] at HP ⊢
  obtain ⟨B, hBe⟩ : ∃ B, B = w4.heap.size := ⟨_, rfl⟩
  have HBE := Lib.hid hBe
  have HPE := Lib.hid hP
  have hpl := HP.out.lt
  have HM0 : Hid (MkV B w4 P ((placesK c 0).map (valK c)) ((placesK c 0).map key) none 0 none 0 w4) := Lib.hid ⟨HP.out, ⟨[], World.ownsRow_nil _ _ _ _, by unfold RdVL; rfl⟩, World.ownsRow_nil _ _ _ _, grown_refl _ _, by omega, hBe⟩
  have HKB' := Lib.hid (show Blk w4 w3.heap.size 66 keyCells from HKB.out)
  have HKI' := Lib.hid (show Blk w4 (w3.heap.size + 1) 67 kindCells from HKI.out)
  have HD' := Lib.hid (show Blk w4 w.heap.size 70 (dCells (is c) c v4 v7) from HD.out)
  clear HKB HKI HD hBe hP hpl
  obtain ⟨j0, hj0, hy0, hy1, hy2⟩ := info_parts info_txt
  obtain ⟨v0, hv0, hz0, hz1, hz2⟩ := info_parts info_val
  go_loopw [6] (fun c6 wr => ∃ (k : Nat) (AI : Option Addr) (cI : Nat) (AK : Option Addr) (cK : Nat), k ≤ 8 ∧ c6 = .int .i64 k ∧ Hid (MkV B w4 P ((placesK c k).map (valK c)) ((placesK c k).map key) AI cI AK cK wr)) (fun c6 _ => 8 - (intOf c6).toNat)
  case atStart => exact ⟨0, none, 0, none, 0, by omega, rfl, HM0⟩
  case round =>
    obtain ⟨k, AI, cI, AK, cK, hk, rfl, HS⟩ := hrel
    by_cases hlt : k < 8
    · have hlt' : (k : Int) < 8 := by omega
      have hnP : ∀ g, g < w4.heap.size → g ≠ P → wr.heap[g]? = w4.heap[g]? := fun g hg hne => HS.out.gr.block g hg (by intro e; injection e with e; exact hne e)
      have hDr : Blk wr w.heap.size 70 (dCells (is c) c v4 v7) := (hnP _ HD'.out.lt (by have := HPE.out; omega)).trans HD'.out
      have hKr : Blk wr w3.heap.size 66 keyCells := (hnP _ HKB'.out.lt (by have := HPE.out; have := HPL3.out; omega)).trans HKB'.out
      have hIr : Blk wr (w3.heap.size + 1) 67 kindCells := (hnP _ HKI'.out.lt (by have := HPE.out; have := HPL3.out; omega)).trans HKI'.out
      have d_is := dCells_at hDr hlt
      have d_tx := dCells_txt hDr hlt
      have d_tm := dCells_tim hDr hlt
      have d_ls := dCells_lst hDr hlt
      have k_at := keyCells_at hKr hlt
      have n_at := kindCells_at hIr hlt
      have hsr : w4.heap.size ≤ wr.heap.size := HS.out.gr.size
      have hDl := hDr.lt
      have hKl := hKr.lt
      have hIl := hIr.lt
      have hPl := HS.out.bl.lt
      clear hDr hKr hIr hnP
      cases hi : is c k with
      | false =>
        rw [hi] at d_is
        have HN : Hid (MkV B w4 P ((placesK c (k + 1)).map (valK c)) ((placesK c (k + 1)).map key) AI cI AK cK wr) := Lib.hid (by rw [places_succ, if_neg (by rw [hi]; simp), List.append_nil]; exact HS.out)
        clear hi
        go_wp2
        go_roundw
        case rel => exact ⟨k + 1, _, _, _, _, by omega, by go_num, HN⟩
        case measure => simp [intOf]; omega
      | true =>
        rw [hi] at d_is
        have hpl := places_len c k
        obtain ⟨l, hl⟩ : ∃ l, (placesK c k).map (valK c) = l := ⟨_, rfl⟩
        obtain ⟨ks, hks⟩ : ∃ ks, (placesK c k).map key = ks := ⟨_, rfl⟩
        have hll : l.length ≤ 8 := by rw [← hl, List.length_map]; omega
        have hkl : ks.length ≤ 8 := by rw [← hks, List.length_map]; omega
        rw [hl, hks] at HS
        have HNL0 := Lib.hid (show (placesK c (k + 1)).map (valK c) = l ++ [valK c k] ∧ (placesK c (k + 1)).map key = ks ++ [key k] from by rw [places_succ, if_pos hi, List.map_append, List.map_append, hl, hks]; exact ⟨rfl, rfl⟩)
        clear hi hl hks hpl
        obtain ⟨K, hK⟩ : ∃ K, key k = K := ⟨_, rfl⟩
        rw [hK] at k_at HNL0
        have HKX := Lib.hid hK
        clear hK
        have HVK := Lib.hid (show ∀ g, (Value.slice AK ks.length cK).ownBlock = some g → g < wr.heap.size from fun g hg => (HS.out.rk.lt g hg).2)
        have HVI := Lib.hid (show ∀ g, (Value.slice AI l.length cI).ownBlock = some g → g < wr.heap.size from fun g hg => by obtain ⟨_, h, _⟩ := HS.out.ri; exact (h.lt g hg).2)
        have HPX := Lib.hid hPl
        have HBX := Lib.hid (show B ≤ wr.heap.size by have := HBE.out; omega)
        rcases kinds8 hlt with hkk | hkk | hkk
        · obtain ⟨hv, hkd⟩ := vtx (c := c) hkk
          generalize kindOf k = q9 at *
          subst hkd
          have HNL := HNL0
          rw [hv] at HNL
          clear hv hkk HNL0 d_tm d_ls
          generalize txtOf c k = s at *
          have hbx : Below wr.heap.size wr (wr.alloc (.cells #[.int .i64 4, .bool false, .int .u64 0, .string ⟨s.toArray⟩, .slice none 0 0, .slice none 0 0] 61)) := (Below.refl _ _).alloc (Nat.le_refl _) _
          have HSX := Lib.hid (HS.out.below hbx)
          have HXX : Hid (XSt wr.heap.size (wr.heap.size + 1) (.text s) ((none, 0), (none, 0)) (wr.alloc (.cells #[.int .i64 4, .bool false, .int .u64 0, .string ⟨s.toArray⟩, .slice none 0 0, .slice none 0 0] 61))) := Lib.hid ⟨Blk.new wr _ _, by unfold RdV; trivial, by simp⟩
          have HYX := Lib.hid (show wr.heap.size + 1 ≤ (wr.alloc (.cells #[.int .i64 4, .bool false, .int .u64 0, .string ⟨s.toArray⟩, .slice none 0 0, .slice none 0 0] 61)).heap.size + 1 by simp)
          have k_atx := ((old hbx).1 _ _ (World.block_lt_of_cell? _ _ k_at)).trans k_at
          clear hbx
          go_upto_region 16 with fail
          clear k_at d_tx d_is n_at
          generalize (wr.alloc (.cells #[.int .i64 4, .bool false, .int .u64 0, .string ⟨s.toArray⟩, .slice none 0 0, .slice none 0 0] 61)) = wx at *
          obtain ⟨X, hX⟩ : ∃ X, wr.heap.size = X := ⟨_, rfl⟩
          rw [hX] at HVK HVI HPX HBX HXX HYX ⊢
          obtain ⟨Y, hY⟩ : ∃ Y, X + 1 = Y := ⟨_, rfl⟩
          rw [hY] at HXX HYX
          clear hX hY hPl hDl hKl hIl
          go_cut [] (fun wz => ∃ (AK' : Option Addr) (cK' : Nat), Hid (MkX B w4 P X Y l (ks ++ [K]) AI cI AK' cK' (.text s) ((none, 0), (none, 0)) wz))
          case first =>
            have ek := HKX.out
            have HB3 := Lib.hid (HSX.out.bl.alloc (.cells #[.string ⟨K.toArray⟩] 9))
            have hgp : some P ≠ (Value.slice AK ks.length cK).ownBlock := fun e => by have := own_base HSX.out.rk P e.symm; have := HSX.out.lt; omega
            have p0 : wx.cell? ⟨P, 5, none⟩ = some (.slice AK ks.length cK) := HSX.out.bl.cell 5
            have ha1 : (wx.alloc (.cells #[.string ⟨K.toArray⟩] 9)).drew.cell? ⟨P, 5, none⟩ = some (.slice AK ks.length cK) := HB3.out.drew.cell 5
            have hf1 := HB3.out.drew.frozen 5
            have hgs := HSX.out.gr.size
            have hBe := HSX.out.le
            go_region_law ((refine step_append_lies _ (by rfl) _ _ _ (by rfl) B 9 j0 _ 1 16 Tryz.underlying22 hj0 hy0 hy1 hy2 (by rfl) (by omega) _ ks.length (ks.map txV) (by rfl) (HSX.out.rk.alloc _).drew ⟨wx.heap.size, 0, none⟩ 1 1 [.string ⟨K.toArray⟩] (by rfl) (by rfl) (one_new _ _ _) (one_cell _ rfl) (by omega) (by unfold maxLen; omega) (by omega) (by simp; omega) (wx.heap.size + 1) (by simp) ?_; intro g9 q9 w9 hown9 hgr9 hat9 hlt9; have hq1 : w9.cell? ⟨P, 5, none⟩ = some (.slice AK ks.length cK) := (HB3.out.drew.only hgr9 hgp).cell 5; have hq2 := (HB3.out.drew.only hgr9 hgp).frozen 5))
            all_goals
              go_wp2_with fail
              go_meet
              exact ⟨_, _, Lib.hid ⟨HSX.out.keyed hown9 hgr9 hat9, HXX.out.keyed hgr9 HVK.out HPX.out, fun g hg => by
                have hl2 : (ks ++ [K]).length = ks.length + 1 := by simp
                rw [hl2] at hg
                simp only [Value.ownBlock, Option.some.injEq] at hg
                rcases hat9 with h | h
                · have := HVK.out g9 h
                  omega
                · have := HYX.out
                  omega⟩⟩
          case rest =>
            obtain ⟨AK', cK', HM'⟩ := hcut
            obtain ⟨xs, hown, hrd⟩ := HM'.out.1.ri
            have HOW := Lib.hid hown
            have HRD := Lib.hid hrd
            have hBe := HM'.out.1.le
            have hgs := HM'.out.1.gr.size
            have p4 : wc.cell? ⟨P, 4, none⟩ = some (.slice AI l.length cI) := HM'.out.1.bl.cell 4
            have x0 := HM'.out.2.1.bl.cell 0
            have x1 := HM'.out.2.1.bl.cell 1
            have x2 := HM'.out.2.1.bl.cell 2
            have x3 := HM'.out.2.1.bl.cell 3
            have x4 := HM'.out.2.1.bl.cell 4
            have x5 := HM'.out.2.1.bl.cell 5
            simp [cellV, Tr.srt, Tr.fl, Tr.bi, Tr.tx, Tr.kids, Tr.kn] at x0 x1 x2 x3 x4 x5
            have hnew : ∀ j u, (cellV (.text s) ((none, 0), (none, 0)))[j]? = some u → (wc.alloc (.cells #[.int .i64 4, .bool false, .int .u64 0, .string ⟨s.toArray⟩, .slice none 0 0, .slice none 0 0] 61)).cell? ((⟨wc.heap.size, 0, none⟩ : Addr).add j) = some u := row_new wc (cellV (.text s) ((none, 0), (none, 0))) 61
            clear hown hrd
            go_wp2_with (at_builtin; refine wpList_append_lies _ rfl (.tmp 72) (.tmp 74) _ rfl B 61 v0 _ 6 88 Tryz.underlying59 hv0 hz0 hz1 hz2 rfl (by omega) (.slice AI l.length cI) l.length (cellsV l xs) rfl (HOW.out.alloc _) ⟨wc.heap.size, 0, none⟩ 1 1 (cellV (.text s) ((none, 0), (none, 0))) rfl rfl hnew (cellV_one _ _) (by omega) (by unfold maxLen; omega) (by omega) (by simp; omega) (wc.heap.size + 1) (by simp) ?_; intro g9 q9 w9 hown9 hgr9 hat9 hlt9; have hq1 : w9.cell? ⟨P, 4, none⟩ = some (.slice AI l.length cI) := ((HM'.out.1.bl.alloc _).only hgr9 (fun e => by have := own_base HOW.out P e.symm; have := HM'.out.1.lt; omega)).cell 4; have hq2 := ((HM'.out.1.bl.alloc (.cells #[.int .i64 4, .bool false, .int .u64 0, .string ⟨s.toArray⟩, .slice none 0 0, .slice none 0 0] 61)).only hgr9 (fun e => by have := own_base HOW.out P e.symm; have := HM'.out.1.lt; omega)).frozen 4)
            have hxr : RdV (SV B (.slice AI l.length cI) (.slice AK' (ks ++ [K]).length cK')) wc (.text s) ((none, 0), (none, 0)) := RdV.move (fun j hj hs => ⟨⟨by have := HBX.out; omega, fun e => by have := HVI.out j e.symm; omega, fun e => by have := HM'.out.2.2 j e.symm; omega⟩, rfl⟩) _ _ HM'.out.2.1.rd
            have hfin := HM'.out.1.valued HOW.out HRD.out hxr hown9 hgr9 hat9
            have HN : Hid (MkV B w4 P ((placesK c (k + 1)).map (valK c)) ((placesK c (k + 1)).map key) (some ⟨g9, 0, none⟩) q9 AK' cK' (w9.setCell ⟨P, 4, none⟩ (.slice (some ⟨g9, 0, none⟩) (l.length + 1) q9))) := Lib.hid (by rw [HNL.out.1, HNL.out.2]; exact hfin)
            clear hfin hxr hown9 hgr9 hat9 hlt9
            go_wp2
            go_roundw
            case rel => exact ⟨k + 1, _, _, _, _, by omega, by go_num, HN⟩
            case measure => simp [intOf]; omega
        · obtain ⟨hv, hkd, htx⟩ := vtm (c := c) hkk
          obtain ⟨m, htm, hm53⟩ := vtm_time HM.out hkk
          generalize kindOf k = q9 at *
          subst hkd
          have HNL := HNL0
          rw [hv] at HNL
          generalize timOf c k = tt at *
          subst htm
          rw [show ((m : Int)).toNat = m from by omega] at HNL
          rw [htx] at d_tx
          replace d_tx : wr.cell? ⟨w.heap.size, 8 + k, none⟩ = some (.string ⟨#[]⟩) := d_tx
          have HM53 := Lib.hid hm53
          clear hv hkk HNL0 d_ls htx hm53
          have hbx : Below wr.heap.size wr (wr.alloc (.cells #[.int .i64 4, .bool false, .int .u64 0, .string ⟨#[]⟩, .slice none 0 0, .slice none 0 0] 61)) := (Below.refl _ _).alloc (Nat.le_refl _) _
          have HBK := Lib.hid (Blk.new wr 61 #[.int .i64 4, .bool false, .int .u64 0, .string ⟨#[]⟩, .slice none 0 0, .slice none 0 0])
          have HSX := Lib.hid (HS.out.below hbx)
          have k_atx := ((old hbx).1 _ _ (World.block_lt_of_cell? _ _ k_at)).trans k_at
          have n_atx := ((old hbx).1 _ _ (World.block_lt_of_cell? _ _ n_at)).trans n_at
          have d_tmx := ((old hbx).1 _ _ (World.block_lt_of_cell? _ _ d_tm)).trans d_tm
          have hlx : (wr.alloc (.cells #[.int .i64 4, .bool false, .int .u64 0, .string ⟨#[]⟩, .slice none 0 0, .slice none 0 0] 61)).heap.size = wr.heap.size + 1 := by simp
          have HBW := Lib.hid hbx
          have HKAT := Lib.hid k_at
          clear hbx
          go_upto_region 8 with fail
          clear k_at d_tx d_is n_at d_tm
          generalize (wr.alloc (.cells #[.int .i64 4, .bool false, .int .u64 0, .string ⟨#[]⟩, .slice none 0 0, .slice none 0 0] 61)) = wx at *
          obtain ⟨X, hX⟩ : ∃ X, wr.heap.size = X := ⟨_, rfl⟩
          rw [hX] at HVK HVI HPX HBX HBK HBW hlx ⊢
          go_wp2_with fail
          refine (refFloat_any m HM53.out _).mono ?_
          rintro e w6 ⟨rfl, rfl⟩
          generalize bitsT m = bt at *
          have x0 := HBK.out.cell 0
          have x1 := HBK.out.cell 1
          have x2 := HBK.out.cell 2
          have x3 := HBK.out.cell 3
          have x4 := HBK.out.cell 4
          have x5 := HBK.out.cell 5
          have f0 := HBK.out.frozen 0
          have f1 := HBK.out.frozen 1
          have f2 := HBK.out.frozen 2
          have f3 := HBK.out.frozen 3
          have f4 := HBK.out.frozen 4
          have f5 := HBK.out.frozen 5
          simp at x0 x1 x2 x3 x4 x5
          go_upto_region 16 with fail
          clear x0 x1 x2 x3 x4 x5 f0 f1 f2 f3 f4 f5 k_atx n_atx d_tmx
          have hby : Below X wr ((((((wx.setCell ⟨X, 0, none⟩ (.int .i64 3)).setCell ⟨X, 1, none⟩ (.bool false)).setCell ⟨X, 2, none⟩ (.int .u64 (bt : Int))).setCell ⟨X, 3, none⟩ (.string ⟨#[]⟩)).setCell ⟨X, 4, none⟩ (.slice none 0 0)).setCell ⟨X, 5, none⟩ (.slice none 0 0)) := (((((HBW.out.setCell (Nat.le_refl X) _).setCell (Nat.le_refl X) _).setCell (Nat.le_refl X) _).setCell (Nat.le_refl X) _).setCell (Nat.le_refl X) _).setCell (Nat.le_refl X) _
          have hbk : Blk ((((((wx.setCell ⟨X, 0, none⟩ (.int .i64 3)).setCell ⟨X, 1, none⟩ (.bool false)).setCell ⟨X, 2, none⟩ (.int .u64 (bt : Int))).setCell ⟨X, 3, none⟩ (.string ⟨#[]⟩)).setCell ⟨X, 4, none⟩ (.slice none 0 0)).setCell ⟨X, 5, none⟩ (.slice none 0 0)) X 61 #[.int .i64 3, .bool false, .int .u64 (bt : Int), .string ⟨#[]⟩, .slice none 0 0, .slice none 0 0] := (((((HBK.out.put 0 _).put 1 _).put 2 _).put 3 _).put 4 _).put 5 _
          have hsz : ((((((wx.setCell ⟨X, 0, none⟩ (.int .i64 3)).setCell ⟨X, 1, none⟩ (.bool false)).setCell ⟨X, 2, none⟩ (.int .u64 (bt : Int))).setCell ⟨X, 3, none⟩ (.string ⟨#[]⟩)).setCell ⟨X, 4, none⟩ (.slice none 0 0)).setCell ⟨X, 5, none⟩ (.slice none 0 0)).heap.size = X + 1 := by simp [World.setCell]; omega
          generalize ((((((wx.setCell ⟨X, 0, none⟩ (.int .i64 3)).setCell ⟨X, 1, none⟩ (.bool false)).setCell ⟨X, 2, none⟩ (.int .u64 (bt : Int))).setCell ⟨X, 3, none⟩ (.string ⟨#[]⟩)).setCell ⟨X, 4, none⟩ (.slice none 0 0)).setCell ⟨X, 5, none⟩ (.slice none 0 0)) = wy at *
          clear HBK HBW hlx
          have k_aty := (((old (hX ▸ hby)).1 _ _ (World.block_lt_of_cell? _ _ HKAT.out))).trans HKAT.out
          obtain ⟨Y, hY⟩ : ∃ Y, X + 1 = Y := ⟨_, rfl⟩
          have HSY := Lib.hid (HS.out.below (hX ▸ hby))
          have HXY : Hid (XSt X Y (.num bt) ((none, 0), (none, 0)) wy) := Lib.hid ⟨hbk, by unfold RdV; trivial, by omega⟩
          have HYX := Lib.hid (show Y ≤ wy.heap.size + 1 by omega)
          clear hby hbk hsz hX hY hPl hDl hKl hIl HSX
          have HSX := HSY
          have HXX := HXY
          clear HSY HXY
          go_cut [] (fun wz => ∃ (AK' : Option Addr) (cK' : Nat), Hid (MkX B w4 P X Y l (ks ++ [K]) AI cI AK' cK' (.num bt) ((none, 0), (none, 0)) wz))
          case first =>
            have ek := HKX.out
            have HB3 := Lib.hid (HSX.out.bl.alloc (.cells #[.string ⟨K.toArray⟩] 9))
            have hgp : some P ≠ (Value.slice AK ks.length cK).ownBlock := fun e => by have := own_base HSX.out.rk P e.symm; have := HSX.out.lt; omega
            have p0 : wy.cell? ⟨P, 5, none⟩ = some (.slice AK ks.length cK) := HSX.out.bl.cell 5
            have ha1 : (wy.alloc (.cells #[.string ⟨K.toArray⟩] 9)).drew.cell? ⟨P, 5, none⟩ = some (.slice AK ks.length cK) := HB3.out.drew.cell 5
            have hf1 := HB3.out.drew.frozen 5
            have hgs := HSX.out.gr.size
            have hBe := HSX.out.le
            go_region_law ((refine step_append_lies _ (by rfl) _ _ _ (by rfl) B 9 j0 _ 1 16 Tryz.underlying22 hj0 hy0 hy1 hy2 (by rfl) (by omega) _ ks.length (ks.map txV) (by rfl) (HSX.out.rk.alloc _).drew ⟨wy.heap.size, 0, none⟩ 1 1 [.string ⟨K.toArray⟩] (by rfl) (by rfl) (one_new _ _ _) (one_cell _ rfl) (by omega) (by unfold maxLen; omega) (by omega) (by simp; omega) (wy.heap.size + 1) (by simp) ?_; intro g9 q9 w9 hown9 hgr9 hat9 hlt9; have hq1 : w9.cell? ⟨P, 5, none⟩ = some (.slice AK ks.length cK) := (HB3.out.drew.only hgr9 hgp).cell 5; have hq2 := (HB3.out.drew.only hgr9 hgp).frozen 5))
            all_goals
              go_wp2_with fail
              go_meet
              exact ⟨_, _, Lib.hid ⟨HSX.out.keyed hown9 hgr9 hat9, HXX.out.keyed hgr9 HVK.out HPX.out, fun g hg => by
                have hl2 : (ks ++ [K]).length = ks.length + 1 := by simp
                rw [hl2] at hg
                simp only [Value.ownBlock, Option.some.injEq] at hg
                rcases hat9 with h | h
                · have := HVK.out g9 h
                  omega
                · have := HYX.out
                  omega⟩⟩
          case rest =>
            obtain ⟨AK', cK', HM'⟩ := hcut
            obtain ⟨xs, hown, hrd⟩ := HM'.out.1.ri
            have HOW := Lib.hid hown
            have HRD := Lib.hid hrd
            have hBe := HM'.out.1.le
            have hgs := HM'.out.1.gr.size
            have p4 : wc.cell? ⟨P, 4, none⟩ = some (.slice AI l.length cI) := HM'.out.1.bl.cell 4
            have x0 := HM'.out.2.1.bl.cell 0
            have x1 := HM'.out.2.1.bl.cell 1
            have x2 := HM'.out.2.1.bl.cell 2
            have x3 := HM'.out.2.1.bl.cell 3
            have x4 := HM'.out.2.1.bl.cell 4
            have x5 := HM'.out.2.1.bl.cell 5
            simp [cellV, Tr.srt, Tr.fl, Tr.bi, Tr.tx, Tr.kids, Tr.kn] at x0 x1 x2 x3 x4 x5
            have hnew : ∀ j u, (cellV (.num bt) ((none, 0), (none, 0)))[j]? = some u → (wc.alloc (.cells #[.int .i64 3, .bool false, .int .u64 (bt : Int), .string ⟨#[]⟩, .slice none 0 0, .slice none 0 0] 61)).cell? ((⟨wc.heap.size, 0, none⟩ : Addr).add j) = some u := row_new wc (cellV (.num bt) ((none, 0), (none, 0))) 61
            clear hown hrd
            go_wp2_with (at_builtin; refine wpList_append_lies _ rfl (.tmp 72) (.tmp 74) _ rfl B 61 v0 _ 6 88 Tryz.underlying59 hv0 hz0 hz1 hz2 rfl (by omega) (.slice AI l.length cI) l.length (cellsV l xs) rfl (HOW.out.alloc _) ⟨wc.heap.size, 0, none⟩ 1 1 (cellV (.num bt) ((none, 0), (none, 0))) rfl rfl hnew (cellV_one _ _) (by omega) (by unfold maxLen; omega) (by omega) (by simp; omega) (wc.heap.size + 1) (by simp) ?_; intro g9 q9 w9 hown9 hgr9 hat9 hlt9; have hq1 : w9.cell? ⟨P, 4, none⟩ = some (.slice AI l.length cI) := ((HM'.out.1.bl.alloc _).only hgr9 (fun e => by have := own_base HOW.out P e.symm; have := HM'.out.1.lt; omega)).cell 4; have hq2 := ((HM'.out.1.bl.alloc (.cells #[.int .i64 3, .bool false, .int .u64 (bt : Int), .string ⟨#[]⟩, .slice none 0 0, .slice none 0 0] 61)).only hgr9 (fun e => by have := own_base HOW.out P e.symm; have := HM'.out.1.lt; omega)).frozen 4)
            have hxr : RdV (SV B (.slice AI l.length cI) (.slice AK' (ks ++ [K]).length cK')) wc (.num bt) ((none, 0), (none, 0)) := RdV.move (fun j hj hs => ⟨⟨by have := HBX.out; omega, fun e => by have := HVI.out j e.symm; omega, fun e => by have := HM'.out.2.2 j e.symm; omega⟩, rfl⟩) _ _ HM'.out.2.1.rd
            have hfin := HM'.out.1.valued HOW.out HRD.out hxr hown9 hgr9 hat9
            have HN : Hid (MkV B w4 P ((placesK c (k + 1)).map (valK c)) ((placesK c (k + 1)).map key) (some ⟨g9, 0, none⟩) q9 AK' cK' (w9.setCell ⟨P, 4, none⟩ (.slice (some ⟨g9, 0, none⟩) (l.length + 1) q9))) := Lib.hid (by rw [HNL.out.1, HNL.out.2]; exact hfin)
            clear hfin hxr hown9 hgr9 hat9 hlt9
            go_wp2
            go_roundw
            case rel => exact ⟨k + 1, _, _, _, _, by omega, by go_num, HN⟩
            case measure => simp [intOf]; omega
        · obtain ⟨s, q9', hv, hrs, hkd, hq3, htx, hsn⟩ := vls (c := c) (HC.out.below (HB.out.grown HS.out.gr HB.out.size (fun j hj => by injection hj with hj; have := HPE.out; omega))) hkk
          obtain ⟨A, cq, hA, hcs⟩ := id hrs
          rw [hA] at d_ls
          generalize kindOf k = q9 at *
          subst hkd
          have hq2 : (q9 == 2) = false := by rw [beq_eq_false_iff_ne]; omega
          have hq4 : (2 : Int) < q9 := by omega
          have HNL := HNL0
          rw [hv] at HNL
          rw [htx] at d_tx
          replace d_tx : wr.cell? ⟨w.heap.size, 8 + k, none⟩ = some (.string ⟨#[]⟩) := d_tx
          rw [hA] at hrs
          have HRS := Lib.hid hrs
          have HSN := Lib.hid hsn
          clear hv hkk HNL0 htx hA hcs hrs hsn d_tm
          have hbx : Below wr.heap.size wr (wr.alloc (.cells #[.int .i64 4, .bool false, .int .u64 0, .string ⟨#[]⟩, .slice none 0 0, .slice none 0 0] 61)) := (Below.refl _ _).alloc (Nat.le_refl _) _
          have HBK := Lib.hid (Blk.new wr 61 #[.int .i64 4, .bool false, .int .u64 0, .string ⟨#[]⟩, .slice none 0 0, .slice none 0 0])
          have n_atx := ((old hbx).1 _ _ (World.block_lt_of_cell? _ _ n_at)).trans n_at
          have hlx : (wr.alloc (.cells #[.int .i64 4, .bool false, .int .u64 0, .string ⟨#[]⟩, .slice none 0 0, .slice none 0 0] 61)).heap.size = wr.heap.size + 1 := by simp
          have HBW := Lib.hid hbx
          have HKAT := Lib.hid k_at
          have HDLS := Lib.hid d_ls
          clear hbx
          go_upto_region 8 with fail
          clear k_at d_tx d_is n_at d_ls
          generalize (wr.alloc (.cells #[.int .i64 4, .bool false, .int .u64 0, .string ⟨#[]⟩, .slice none 0 0, .slice none 0 0] 61)) = wx at *
          obtain ⟨X, hX⟩ : ∃ X, wr.heap.size = X := ⟨_, rfl⟩
          rw [hX] at HVK HVI HPX HBX HBK HBW hlx ⊢
          have x0 := HBK.out.cell 0
          have x1 := HBK.out.cell 1
          have x2 := HBK.out.cell 2
          have x3 := HBK.out.cell 3
          have x4 := HBK.out.cell 4
          have x5 := HBK.out.cell 5
          have f0 := HBK.out.frozen 0
          have f1 := HBK.out.frozen 1
          have f2 := HBK.out.frozen 2
          have f3 := HBK.out.frozen 3
          have f4 := HBK.out.frozen 4
          have f5 := HBK.out.frozen 5
          simp at x0 x1 x2 x3 x4 x5
          go_upto_region 12 with fail
          clear x0 x1 x2 x3 x4 x5 f0 f1 f2 f3 f4 f5 n_atx
          have hby : Below X wr ((((((wx.setCell ⟨X, 0, none⟩ (.int .i64 5)).setCell ⟨X, 1, none⟩ (.bool false)).setCell ⟨X, 2, none⟩ (.int .u64 0)).setCell ⟨X, 3, none⟩ (.string ⟨#[]⟩)).setCell ⟨X, 4, none⟩ (.slice none 0 0)).setCell ⟨X, 5, none⟩ (.slice none 0 0)) := (((((HBW.out.setCell (Nat.le_refl X) _).setCell (Nat.le_refl X) _).setCell (Nat.le_refl X) _).setCell (Nat.le_refl X) _).setCell (Nat.le_refl X) _).setCell (Nat.le_refl X) _
          have hbk : Blk ((((((wx.setCell ⟨X, 0, none⟩ (.int .i64 5)).setCell ⟨X, 1, none⟩ (.bool false)).setCell ⟨X, 2, none⟩ (.int .u64 0)).setCell ⟨X, 3, none⟩ (.string ⟨#[]⟩)).setCell ⟨X, 4, none⟩ (.slice none 0 0)).setCell ⟨X, 5, none⟩ (.slice none 0 0)) X 61 #[.int .i64 5, .bool false, .int .u64 0, .string ⟨#[]⟩, .slice none 0 0, .slice none 0 0] := (((((HBK.out.put 0 _).put 1 _).put 2 _).put 3 _).put 4 _).put 5 _
          have hsz : ((((((wx.setCell ⟨X, 0, none⟩ (.int .i64 5)).setCell ⟨X, 1, none⟩ (.bool false)).setCell ⟨X, 2, none⟩ (.int .u64 0)).setCell ⟨X, 3, none⟩ (.string ⟨#[]⟩)).setCell ⟨X, 4, none⟩ (.slice none 0 0)).setCell ⟨X, 5, none⟩ (.slice none 0 0)).heap.size = X + 1 := by simp [World.setCell]; omega
          generalize ((((((wx.setCell ⟨X, 0, none⟩ (.int .i64 5)).setCell ⟨X, 1, none⟩ (.bool false)).setCell ⟨X, 2, none⟩ (.int .u64 0)).setCell ⟨X, 3, none⟩ (.string ⟨#[]⟩)).setCell ⟨X, 4, none⟩ (.slice none 0 0)).setCell ⟨X, 5, none⟩ (.slice none 0 0)) = wy at *
          clear HBK HBW hlx
          have HBY := Lib.hid hby
          have HXL0 : Hid (LsSt X wr (s.map .text) 0 none 0 wy) := Lib.hid ⟨hbk, World.ownsRow_nil _ _ _ _, hby, by omega⟩
          clear hby hbk
          obtain ⟨wS, rfl⟩ : ∃ wS, wS = wr := ⟨_, rfl⟩
          go_wp2_with fail
          go_loopw [8] (fun c8 wz => ∃ (j : Nat) (AX : Option Addr) (cX : Nat), j ≤ s.length ∧ c8 = .int .i64 j ∧ Hid (LsSt X wS (s.map Tr.text) j AX cX wz)) (fun c8 _ => s.length - (intOf c8).toNat)
          case atStart => exact ⟨0, none, 0, Nat.zero_le _, rfl, HXL0⟩
          case round =>
            obtain ⟨j, AX, cX, hj, rfl, HL⟩ := hrel
            have hfr := HL.out.fr
            have d_lsz : wr.cell? ⟨w.heap.size, 24 + k, none⟩ = some (.slice A s.length cq) := ((old (hX.symm ▸ hfr)).1 _ _ (World.block_lt_of_cell? _ _ HDLS.out)).trans HDLS.out
            have hsn9 := HSN.out
            have hlz := HL.out.lt
            have hDz := World.block_lt_of_cell? _ _ d_lsz
            by_cases hjl : j < s.length
            · obtain ⟨g, o, hA, hcell⟩ := has_at (HRS.out.below (hX.symm ▸ hfr)) hjl
              subst hA
              have hsn2 : (s.map Tr.text).take (j + 1) = (s.map Tr.text).take j ++ [.text s[j]] := by
                rw [List.take_succ_eq_append_getElem (by rw [List.length_map]; exact hjl), List.getElem_map]
              have HSN2 := Lib.hid hsn2
              have hgz := World.block_lt_of_cell? _ _ hcell
              clear hsn2
              generalize s[j] = tx at *
              have HB3 := Lib.hid (HL.out.bl.alloc (.cells #[.int .i64 4, .bool false, .int .u64 0, .string ⟨tx.toArray⟩, .slice none 0 0, .slice none 0 0] 61))
              have hgp : some X ≠ (Value.slice AX j cX).ownBlock := fun e => by have := own_base HL.out.own X e.symm; omega
              have p0 : wr.cell? ⟨X, 4, none⟩ = some (.slice AX j cX) := HL.out.bl.cell 4
              have ha1 : (wr.alloc (.cells #[.int .i64 4, .bool false, .int .u64 0, .string ⟨tx.toArray⟩, .slice none 0 0, .slice none 0 0] 61)).drew.cell? ⟨X, 4, none⟩ = some (.slice AX j cX) := HB3.out.drew.cell 4
              have hf1 := HB3.out.drew.frozen 4
              clear hfr
              go_upto_region 15 with fail
              go_region_law ((refine step_append_lies _ (by rfl) _ _ _ (by rfl) (X + 1) 61 v0 _ 6 88 Tryz.underlying59 hv0 hz0 hz1 hz2 (by rfl) (by omega) _ j (cellsV ((s.map Tr.text).take j) (List.replicate j ((none, 0), (none, 0)))) (by rfl) (HL.out.own.alloc _).drew ⟨wr.heap.size, 0, none⟩ 1 1 (cellV (.text tx) ((none, 0), (none, 0))) (by rfl) (by rfl) (row_new _ _ _) (cellV_one _ _) (by omega) (by unfold maxLen; omega) (by omega) (by simp; omega) (wr.heap.size + 1) (by simp) ?_; intro g9 q9 w9 hown9 hgr9 hat9 hlt9; have hq1 : w9.cell? ⟨X, 4, none⟩ = some (.slice AX j cX) := (HB3.out.drew.only hgr9 hgp).cell 4; have hq2' := (HB3.out.drew.only hgr9 hgp).frozen 4))
              all_goals
                have HN := Lib.hid (HL.out.put (by rw [List.length_map]; omega) HSN2.out hown9 hgr9)
                clear hown9 hgr9 hat9 hlt9
                go_wp2
                go_roundw
                case rel => exact ⟨j + 1, _, _, by omega, by go_num, HN⟩
                case measure => simp [intOf]; omega
            · obtain rfl : j = s.length := by omega
              have k_aty := (((old (hX.symm ▸ hfr)).1 _ _ (World.block_lt_of_cell? _ _ HKAT.out))).trans HKAT.out
              have HSX := Lib.hid (HS.out.below (hX.symm ▸ hfr))
              obtain ⟨Y, hY⟩ : ∃ Y, wr.heap.size = Y := ⟨_, rfl⟩
              have HXX : Hid (XSt X Y (.list (s.map .text)) ((AX, cX), (none, 0)) wr) := Lib.hid (hY ▸ HL.out.fin)
              have HYX := Lib.hid (show Y ≤ wr.heap.size + 1 by omega)
              clear hfr hX hY hPl hDl hKl hIl hlz
              go_upto_region 16 with fail
              clear d_lsz hDz
              generalize wr = wx at *
              go_cut [] (fun wz => ∃ (AK' : Option Addr) (cK' : Nat), Hid (MkX B w4 P X Y l (ks ++ [K]) AI cI AK' cK' (.list (s.map Tr.text)) ((AX, cX), (none, 0)) wz))
              case first =>
                have ek := HKX.out
                have HB3 := Lib.hid (HSX.out.bl.alloc (.cells #[.string ⟨K.toArray⟩] 9))
                have hgp : some P ≠ (Value.slice AK ks.length cK).ownBlock := fun e => by have := own_base HSX.out.rk P e.symm; have := HSX.out.lt; omega
                have p0 : wx.cell? ⟨P, 5, none⟩ = some (.slice AK ks.length cK) := HSX.out.bl.cell 5
                have ha1 : (wx.alloc (.cells #[.string ⟨K.toArray⟩] 9)).drew.cell? ⟨P, 5, none⟩ = some (.slice AK ks.length cK) := HB3.out.drew.cell 5
                have hf1 := HB3.out.drew.frozen 5
                have hgs := HSX.out.gr.size
                have hBe := HSX.out.le
                go_region_law ((refine step_append_lies _ (by rfl) _ _ _ (by rfl) B 9 j0 _ 1 16 Tryz.underlying22 hj0 hy0 hy1 hy2 (by rfl) (by omega) _ ks.length (ks.map txV) (by rfl) (HSX.out.rk.alloc _).drew ⟨wx.heap.size, 0, none⟩ 1 1 [.string ⟨K.toArray⟩] (by rfl) (by rfl) (one_new _ _ _) (one_cell _ rfl) (by omega) (by unfold maxLen; omega) (by omega) (by simp; omega) (wx.heap.size + 1) (by simp) ?_; intro g9 q9 w9 hown9 hgr9 hat9 hlt9; have hq1 : w9.cell? ⟨P, 5, none⟩ = some (.slice AK ks.length cK) := (HB3.out.drew.only hgr9 hgp).cell 5; have hq2 := (HB3.out.drew.only hgr9 hgp).frozen 5))
                all_goals
                  go_wp2_with fail
                  go_meet
                  exact ⟨_, _, Lib.hid ⟨HSX.out.keyed hown9 hgr9 hat9, HXX.out.keyed hgr9 HVK.out HPX.out, fun g hg => by
                    have hl2 : (ks ++ [K]).length = ks.length + 1 := by simp
                    rw [hl2] at hg
                    simp only [Value.ownBlock, Option.some.injEq] at hg
                    rcases hat9 with h | h
                    · have := HVK.out g9 h
                      omega
                    · have := HYX.out
                      omega⟩⟩
              case rest =>
                obtain ⟨AK', cK', HM'⟩ := hcut
                obtain ⟨xs, hown, hrd⟩ := HM'.out.1.ri
                have HOW := Lib.hid hown
                have HRD := Lib.hid hrd
                have hBe := HM'.out.1.le
                have hgs := HM'.out.1.gr.size
                have p4 : wc.cell? ⟨P, 4, none⟩ = some (.slice AI l.length cI) := HM'.out.1.bl.cell 4
                have x0 := HM'.out.2.1.bl.cell 0
                have x1 := HM'.out.2.1.bl.cell 1
                have x2 := HM'.out.2.1.bl.cell 2
                have x3 := HM'.out.2.1.bl.cell 3
                have x4 := HM'.out.2.1.bl.cell 4
                have x5 := HM'.out.2.1.bl.cell 5
                simp [cellV, Tr.srt, Tr.fl, Tr.bi, Tr.tx, Tr.kids, Tr.kn] at x0 x1 x2 x3 x4 x5
                have hnew : ∀ j u, (cellV (.list (s.map Tr.text)) ((AX, cX), (none, 0)))[j]? = some u → (wc.alloc (.cells #[.int .i64 5, .bool false, .int .u64 0, .string ⟨#[]⟩, .slice AX s.length cX, .slice none 0 0] 61)).cell? ((⟨wc.heap.size, 0, none⟩ : Addr).add j) = some u := by rw [← cellL s AX cX]; exact row_new wc (cellV (.list (s.map Tr.text)) ((AX, cX), (none, 0))) 61
                clear hown hrd
                go_wp2_with (at_builtin; refine wpList_append_lies _ rfl (.tmp 72) (.tmp 74) _ rfl B 61 v0 _ 6 88 Tryz.underlying59 hv0 hz0 hz1 hz2 rfl (by omega) (.slice AI l.length cI) l.length (cellsV l xs) rfl (HOW.out.alloc _) ⟨wc.heap.size, 0, none⟩ 1 1 (cellV (.list (s.map Tr.text)) ((AX, cX), (none, 0))) rfl rfl hnew (cellV_one _ _) (by omega) (by unfold maxLen; omega) (by omega) (by simp; omega) (wc.heap.size + 1) (by simp) ?_; intro g9 q9 w9 hown9 hgr9 hat9 hlt9; have hq1 : w9.cell? ⟨P, 4, none⟩ = some (.slice AI l.length cI) := ((HM'.out.1.bl.alloc _).only hgr9 (fun e => by have := own_base HOW.out P e.symm; have := HM'.out.1.lt; omega)).cell 4; have hq2 := ((HM'.out.1.bl.alloc (.cells #[.int .i64 5, .bool false, .int .u64 0, .string ⟨#[]⟩, .slice AX s.length cX, .slice none 0 0] 61)).only hgr9 (fun e => by have := own_base HOW.out P e.symm; have := HM'.out.1.lt; omega)).frozen 4)
                have hxr : RdV (SV B (.slice AI l.length cI) (.slice AK' (ks ++ [K]).length cK')) wc (.list (s.map Tr.text)) ((AX, cX), (none, 0)) := RdV.move (fun j hj hs => ⟨⟨by have := HBX.out; omega, fun e => by have := HVI.out j e.symm; omega, fun e => by have := HM'.out.2.2 j e.symm; omega⟩, rfl⟩) _ _ HM'.out.2.1.rd
                have hfin := HM'.out.1.valued HOW.out HRD.out hxr hown9 hgr9 hat9
                have HN : Hid (MkV B w4 P ((placesK c (k + 1)).map (valK c)) ((placesK c (k + 1)).map key) (some ⟨g9, 0, none⟩) q9 AK' cK' (w9.setCell ⟨P, 4, none⟩ (.slice (some ⟨g9, 0, none⟩) (l.length + 1) q9))) := Lib.hid (by rw [HNL.out.1, HNL.out.2]; exact hfin)
                clear hfin hxr hown9 hgr9 hat9 hlt9
                go_wp2
                go_roundw
                case rel => exact ⟨k + 1, _, _, _, _, by omega, by go_num, HN⟩
                case measure => simp [intOf]; omega
    · obtain rfl : k = 8 := by omega
      have hRr : Blk wr (w.heap.size + 1) 61 #[.int .i64 0, .bool false, .int .u64 0, .string ⟨#[]⟩, .slice none 0 0, .slice none 0 0] := (HS.out.gr.block _ HR.out.lt (by have := HPE.out; intro e; injection e with e; omega)).trans HR.out
      have hBP := HS.out.bl
      have HBR := Lib.hid hRr
      have hRP : w.heap.size + 1 < B := by have := HR.out.lt; have := HBE.out; omega
      have hPne : P ≠ w.heap.size + 1 := by have := HPE.out; omega
      have hbw : Below w.heap.size w wr := HB.out.grown HS.out.gr HB.out.size (fun j hj => by injection hj with hj; have := HPE.out; omega)
      have HBWR := Lib.hid hbw
      have p0 : wr.cell? ⟨P, 0, none⟩ = some (.int .i64 6) := hBP.cell 0
      have p1 : wr.cell? ⟨P, 1, none⟩ = some (.bool false) := hBP.cell 1
      have p2 : wr.cell? ⟨P, 2, none⟩ = some (.int .u64 0) := hBP.cell 2
      have p3 : wr.cell? ⟨P, 3, none⟩ = some (.string ⟨#[]⟩) := hBP.cell 3
      have p4 : wr.cell? ⟨P, 4, none⟩ = some (.slice AI ((placesK c 8).map (valK c)).length cI) := hBP.cell 4
      have p5 : wr.cell? ⟨P, 5, none⟩ = some (.slice AK ((placesK c 8).map key).length cK) := hBP.cell 5
      have b0 : wr.cell? ⟨w.heap.size + 1, 0, none⟩ = some (.int .i64 0) := hRr.cell 0
      have b1 : wr.cell? ⟨w.heap.size + 1, 1, none⟩ = some (.bool false) := hRr.cell 1
      have b2 : wr.cell? ⟨w.heap.size + 1, 2, none⟩ = some (.int .u64 0) := hRr.cell 2
      have b3 : wr.cell? ⟨w.heap.size + 1, 3, none⟩ = some (.string ⟨#[]⟩) := hRr.cell 3
      have b4 : wr.cell? ⟨w.heap.size + 1, 4, none⟩ = some (.slice none 0 0) := hRr.cell 4
      have b5 : wr.cell? ⟨w.heap.size + 1, 5, none⟩ = some (.slice none 0 0) := hRr.cell 5
      have f0 := hRr.frozen 0
      have f1 := hRr.frozen 1
      have f2 := hRr.frozen 2
      have f3 := hRr.frozen 3
      have f4 := hRr.frozen 4
      have f5 := hRr.frozen 5
      have HRP := Lib.hid hRP
      clear hBP hRr hRP hbw
      generalize hls : ((placesK c 8).map (valK c)).length = n1 at *
      generalize hks : ((placesK c 8).map key).length = n2 at *
      go_wp2
      obtain ⟨wf, hwf⟩ : ∃ wf, wf = ((((((wr.setCell ⟨w.heap.size + 1, 0, none⟩ (.int .i64 6)).setCell ⟨w.heap.size + 1, 1, none⟩ (.bool false)).setCell ⟨w.heap.size + 1, 2, none⟩ (.int .u64 0)).setCell ⟨w.heap.size + 1, 3, none⟩ (.string ⟨#[]⟩)).setCell ⟨w.heap.size + 1, 4, none⟩ (.slice AI n1 cI)).setCell ⟨w.heap.size + 1, 5, none⟩ (.slice AK n2 cK)) := ⟨_, rfl⟩
      rw [← hwf]
      obtain ⟨q1, q2, q3, q4⟩ := HS.out.fin HBR.out HRP.out wf (by rw [hls, hks]; exact hwf)
      have hq3 : Below w.heap.size w wf := HBWR.out.grown q2 HBWR.out.size (fun j hj => by injection hj with hj; omega)
      clear hwf p0 p1 p2 p3 p4 p5 b0 b1 b2 b3 b4 b5 f0 f1 f2 f3 f4 f5
      rw [hls, hks] at q1
      have c0 : wf.cell? ⟨w.heap.size + 1, 0, none⟩ = some (.int .i64 6) := q1.cell 0
      have c1 : wf.cell? ⟨w.heap.size + 1, 1, none⟩ = some (.bool false) := q1.cell 1
      have c2 : wf.cell? ⟨w.heap.size + 1, 2, none⟩ = some (.int .u64 0) := q1.cell 2
      have c3 : wf.cell? ⟨w.heap.size + 1, 3, none⟩ = some (.string ⟨#[]⟩) := q1.cell 3
      have c4 : wf.cell? ⟨w.heap.size + 1, 4, none⟩ = some (.slice AI n1 cI) := q1.cell 4
      have c5 : wf.cell? ⟨w.heap.size + 1, 5, none⟩ = some (.slice AK n2 cK) := q1.cell 5
      refine bodyPost_ret (v := .agg #[.int .i64 6, .bool false, .int .u64 0, .string ⟨#[]⟩, .slice AI n1 cI, .slice AK n2 cK]) ?_ rfl ⟨⟨AI, cI, AK, cK, by rw [← hls, ← hks]; rfl, RdV.move (fun j hj hs => ⟨by have := HBE.out; have := HB.out.size; have h9 : B ≤ j := hs; show w.heap.size ≤ j; omega, rfl⟩) _ _ q3, q4⟩, hq3⟩
      simp [results, Tryz.results30, go_sem, c0, c1, c2, c3, c4, c5]
end Nd
end Go.Proofs.YtbcckpnngonoeaaGreatDoor

