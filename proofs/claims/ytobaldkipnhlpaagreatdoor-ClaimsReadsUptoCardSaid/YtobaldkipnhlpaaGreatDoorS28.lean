/-
  Walk of the reference of layer 25: read.
-/
import Derived.Test.YtobaldkipnhlpaaGreatDoorS22
import Derived.Test.YtobaldkipnhlpaaGreatDoorS23
import Derived.Test.YtobaldkipnhlpaaGreatDoorS26
import Derived.Test.YtobaldkipnhlpaaGreatDoorS14
import Derived.Test.YtobaldkipnhlpaaGreatDoorS27
import Derived.Test.YtobaldkipnhlpaaGreatDoorS20
set_option linter.unusedVariables false
set_option linter.unusedSimpArgs false
set_option maxRecDepth 100000
set_option maxHeartbeats 16000000
namespace Go.Proofs.YtobaldkipnhlpaaGreatDoor
open Go.RowKit Mem Utf Ref3 Tok Cl
namespace Nd
abbrev zero32 : Array Value := #[.bool false, .bool false, .bool false, .bool false, .bool false, .bool false, .bool false, .bool false, .string ⟨#[]⟩, .string ⟨#[]⟩, .string ⟨#[]⟩, .string ⟨#[]⟩, .string ⟨#[]⟩, .string ⟨#[]⟩, .string ⟨#[]⟩, .string ⟨#[]⟩, .int .i64 0, .int .i64 0, .int .i64 0, .int .i64 0, .int .i64 0, .int .i64 0, .int .i64 0, .int .i64 0, .slice none 0 0, .slice none 0 0, .slice none 0 0, .slice none 0 0, .slice none 0 0, .slice none 0 0, .slice none 0 0, .slice none 0 0]
abbrev rc32 (b : Nat → Bool) (x : Nat → Txt) (n : Nat → Int) (l : Nat → Value) : Array Value := #[.bool (b 0), .bool (b 1), .bool (b 2), .bool (b 3), .bool (b 4), .bool (b 5), .bool (b 6), .bool (b 7), .string ⟨(x 0).toArray⟩, .string ⟨(x 1).toArray⟩, .string ⟨(x 2).toArray⟩, .string ⟨(x 3).toArray⟩, .string ⟨(x 4).toArray⟩, .string ⟨(x 5).toArray⟩, .string ⟨(x 6).toArray⟩, .string ⟨(x 7).toArray⟩, .int .i64 (n 0), .int .i64 (n 1), .int .i64 (n 2), .int .i64 (n 3), .int .i64 (n 4), .int .i64 (n 5), .int .i64 (n 6), .int .i64 (n 7), l 0, l 1, l 2, l 3, l 4, l 5, l 6, l 7]
def RReadP (b : Nat → Bool) (x : Nat → Txt) (n : Nat → Int) (l : Nat → Value) (k : Nat) (t : Tr) (w : World) (e : Ending) (w' : World) : Prop :=
 Below w.heap.size w w' ∧ ∃ x' n' l' en ep, e = .returned (.tuple #[.agg (rCells b x' n' l'), .agg #[.int .i64 en, .string ⟨(ep : Txt).toArray⟩]]) ∧ (∀ i, i < 8 → (l' i).oneCell' = true) ∧
  ((en ≠ 0 ∧ ∀ c, setK c k t = .inl (en, ep)) ∨
   (en = 0 ∧ (∃ c c', setK c k t = .inr c') ∧ ∀ c v4 v7, DC c v4 v7 x n l → ∃ c' u4 u7, setK c k t = .inr c' ∧ c'.has = c.has ∧ DC c' u4 u7 x' n' l' ∧ (u4 = v4 ∧ c'.for_ = c.for_ ∨ OwnT w.heap.size w' u4 c'.for_) ∧ (u7 = v7 ∧ c'.may_ = c.may_ ∨ OwnT w.heap.size w' u7 c'.may_)))
theorem blk_stored9 {W : World} {g : Nat} {t : TypeId} {cs ds : Array Value} (h : Blk W g t cs) (hs : ds.size = cs.size) : Blk (putCells W g ds.toList 0) g t ds := by
 have := putCells_blk ds.toList _ 0 _ h
 rwa [putList_all hs] at this
theorem twiceAt_snoc (s : Txt) : ∀ (l p : List Txt) (i : Nat), twiceAt p (l ++ [s]) i = (match twiceAt p l i with | some j => some j | none => if inB (p ++ l) s = true then some (i + l.length) else none)
 | [], p, i => by
  show (if inB p s = true then some i else twiceAt (p ++ [s]) [] (i + 1)) = (if inB (p ++ []) s = true then some (i + 0) else none)
  rw [List.append_nil, Nat.add_zero]
  rfl
 | x :: l, p, i => by
  have ih := twiceAt_snoc s l (p ++ [x]) (i + 1)
  rw [List.cons_append, twiceAt, twiceAt]
  by_cases h : inB p x = true
  ·rw [if_pos h, if_pos h]
  ·rw [if_neg h, if_neg h, ih, List.append_assoc, List.singleton_append, List.length_cons, Nat.add_assoc, Nat.add_comm 1]
def twV (o : Option Nat) : Int := match o with | none => -1 | some i => (i : Int)
theorem own_frame {w w' : World} {B B' n : Nat} {e : TypeId} {v : Value} {xs : List Value} (h : w.ownsRow B e 1 v n xs) (hB : B' ≤ B) (hf : ∀ g t cs, B ≤ g → Blk w g t cs → Blk w' g t cs) : w'.ownsRow B' e 1 v n xs := by
 obtain ⟨h1, h2⟩ := h
 refine ⟨h1, ?_⟩
 rcases h2 with h2 | ⟨g, cap, cur, a, b, c, d⟩
 ·exact .inl h2
 ·exact .inr ⟨g, cap, cur, a, Nat.le_trans hB b, hf g e cur b c, d⟩
theorem kind_index (k : Nat) (hk : k < 8) (W : World) : (Instr.index 55 (.agg kindCells) (.int .i64 (k : Int))).run Tryz.prog W = .ok (.int .i64 (kindOf k)) W := by
 rcases below8 hk with rfl | rfl | rfl | rfl | rfl | rfl | rfl | rfl <;> kernel_rfl
theorem rread_text (b : Nat → Bool) (x : Nat → Txt) (n : Nat → Int) (l : Nat → Value) (k : Nat) (t : Tr) (A : Option Addr) (c : Nat) (K : Option Addr) (d : Nat) (w : World) (h : RdVA w t ((A, c), (K, d))) (hl : ∀ i, i < 8 → (l i).oneCell' = true) (hbi : t.bi < 18446744073709551616) (hkn : t.kids.length ≤ 65536) (htx : t.tx.length ≤ 4398046511104) (hk : k = 0 ∨ k = 2 ∨ k = 5) :
  Calls Tryz.prog 30 #[.agg (rCells b x n l), .int .i64 (k : Int), valV t A c K d, .string ⟨(path k).toArray⟩] w (RReadP b x n l k t w) := by
 have hba : Below w.heap.size w ((((w.alloc (.cells (rc32 b x n l) 58)).alloc (.cells #[.int .i64 (t.srt : Nat), .bool t.fl, .int .u64 (t.bi : Nat), .string ⟨t.tx.toArray⟩, .slice A t.kids.length c, .slice K t.kn.length d] 34)).alloc (.cells zero32 58)).alloc (.cells #[.int .i64 0, .string ⟨#[]⟩] 124)) := ((((Below.refl _ _).alloc (Nat.le_refl _) _).alloc (by simp) _).alloc (by simp; omega) _).alloc (by simp; omega) _
 have hB1 : Blk ((((w.alloc (.cells (rc32 b x n l) 58)).alloc (.cells #[.int .i64 (t.srt : Nat), .bool t.fl, .int .u64 (t.bi : Nat), .string ⟨t.tx.toArray⟩, .slice A t.kids.length c, .slice K t.kn.length d] 34)).alloc (.cells zero32 58)).alloc (.cells #[.int .i64 0, .string ⟨#[]⟩] 124)) w.heap.size 58 (rc32 b x n l) := ((Blk.new w 58 (rc32 b x n l)).alloc _ |>.alloc _).alloc _
 have hB2 : Blk ((((w.alloc (.cells (rc32 b x n l) 58)).alloc (.cells #[.int .i64 (t.srt : Nat), .bool t.fl, .int .u64 (t.bi : Nat), .string ⟨t.tx.toArray⟩, .slice A t.kids.length c, .slice K t.kn.length d] 34)).alloc (.cells zero32 58)).alloc (.cells #[.int .i64 0, .string ⟨#[]⟩] 124)) (w.heap.size + 1) 34 #[.int .i64 (t.srt : Nat), .bool t.fl, .int .u64 (t.bi : Nat), .string ⟨t.tx.toArray⟩, .slice A t.kids.length c, .slice K t.kn.length d] := by
  have := ((Blk.new (w.alloc (.cells (rc32 b x n l) 58)) 34 #[.int .i64 (t.srt : Nat), .bool t.fl, .int .u64 (t.bi : Nat), .string ⟨t.tx.toArray⟩, .slice A t.kids.length c, .slice K t.kn.length d]).alloc (.cells zero32 58)).alloc (.cells #[.int .i64 0, .string ⟨#[]⟩] 124)
  rwa [World.size_alloc] at this
 have hB3 : Blk ((((w.alloc (.cells (rc32 b x n l) 58)).alloc (.cells #[.int .i64 (t.srt : Nat), .bool t.fl, .int .u64 (t.bi : Nat), .string ⟨t.tx.toArray⟩, .slice A t.kids.length c, .slice K t.kn.length d] 34)).alloc (.cells zero32 58)).alloc (.cells #[.int .i64 0, .string ⟨#[]⟩] 124)) (w.heap.size + 2) 58 zero32 := by
  have := (Blk.new ((w.alloc (.cells (rc32 b x n l) 58)).alloc (.cells #[.int .i64 (t.srt : Nat), .bool t.fl, .int .u64 (t.bi : Nat), .string ⟨t.tx.toArray⟩, .slice A t.kids.length c, .slice K t.kn.length d] 34)) 58 zero32).alloc (.cells #[.int .i64 0, .string ⟨#[]⟩] 124)
  rwa [World.size_alloc, World.size_alloc] at this
 have hB4 : Blk ((((w.alloc (.cells (rc32 b x n l) 58)).alloc (.cells #[.int .i64 (t.srt : Nat), .bool t.fl, .int .u64 (t.bi : Nat), .string ⟨t.tx.toArray⟩, .slice A t.kids.length c, .slice K t.kn.length d] 34)).alloc (.cells zero32 58)).alloc (.cells #[.int .i64 0, .string ⟨#[]⟩] 124)) (w.heap.size + 3) 124 #[.int .i64 0, .string ⟨#[]⟩] := by
  have := Blk.new (((w.alloc (.cells (rc32 b x n l) 58)).alloc (.cells #[.int .i64 (t.srt : Nat), .bool t.fl, .int .u64 (t.bi : Nat), .string ⟨t.tx.toArray⟩, .slice A t.kids.length c, .slice K t.kn.length d] 34)).alloc (.cells zero32 58)) 124 #[.int .i64 0, .string ⟨#[]⟩]
  rwa [World.size_alloc, World.size_alloc, World.size_alloc] at this
 have HR := Lib.hid (rdva_below h hba)
 have HL := Lib.hid hl
 have HB := Lib.hid hba
 have H1 := Lib.hid hB1
 have H2 := Lib.hid hB2
 have H3 := Lib.hid hB3
 have H4 := Lib.hid hB4
 have HBI := Lib.hid hbi
 have HKN := Lib.hid hkn
 have HTX := Lib.hid htx
 clear h hl hba hB1 hB2 hB3 hB4 hbi hkn htx
 unfold rCells
 go_enter Tryz.func30, Tryz.ntmps30
 go_upto_region 1 with fail
 generalize ((((w.alloc (.cells (rc32 b x n l) 58)).alloc (.cells #[.int .i64 (t.srt : Nat), .bool t.fl, .int .u64 (t.bi : Nat), .string ⟨t.tx.toArray⟩, .slice A t.kids.length c, .slice K t.kn.length d] 34)).alloc (.cells zero32 58)).alloc (.cells #[.int .i64 0, .string ⟨#[]⟩] 124)) = w1 at *
 go_wp2_with fail
 have hk8 : k < 8 := by omega
 ((with_reducible refine (refKinds_any _).mono ?_); rintro e w2 ⟨rfl, hb⟩)
 have hki := kind_index k hk8
 have hko : kindOf k = 1 := by rcases hk with rfl | rfl | rfl <;> rfl
 rw [hko] at hki
 clear hko
 replace H1 := Lib.hid (H1.out.below hb H1.out.lt)
 replace H2 := Lib.hid (H2.out.below hb H2.out.lt)
 replace H3 := Lib.hid (H3.out.below hb H3.out.lt)
 replace H4 := Lib.hid (H4.out.below hb H4.out.lt)
 replace HB := Lib.hid (HB.out.trans (hb.mono HB.out.size))
 clear hb
 have hR1 : Blk w2 w.heap.size 58 (rCells b x n l) := H1.out
 have c0 := rCells_at_x hR1 hk8
 have z0 := hR1.frozen (8 + k)
 have v0 := H2.out.cell 0
 have v3 := H2.out.cell 3
 simp at v0 v3
 have hR3 := hR1.put (8 + k) (.string ⟨t.tx.toArray⟩)
 rw [rCells_x b x n l hk8 t.tx] at hR3
 have HD := Lib.hid hR3
 replace H3 := Lib.hid (H3.out.far (p := ⟨w.heap.size, 8 + k, none⟩) (by show w.heap.size + 2 ≠ w.heap.size; omega) (.string ⟨t.tx.toArray⟩))
 replace H4 := Lib.hid (H4.out.far (p := ⟨w.heap.size, 8 + k, none⟩) (by show w.heap.size + 3 ≠ w.heap.size; omega) (.string ⟨t.tx.toArray⟩))
 replace HB := Lib.hid (HB.out.setCell (p := ⟨w.heap.size, 8 + k, none⟩) (Nat.le_refl _) (.string ⟨t.tx.toArray⟩))
 have HL2 := HL
 clear hR1 hR3
 rcases tx_cases t with ⟨s, rfl⟩ | ⟨ht, he⟩
 ·go_upto_region 6 with fail
  generalize w2.setCell ⟨w.heap.size, 8 + k, none⟩ (.string ⟨(Tr.text s).tx.toArray⟩) = W3 at *
  clear H1 H2 c0 z0 v0 v3
  have hds : (rCells b (upd x k (Tr.text s).tx) n l).size = 32 := rfl
  have hone : ∀ v ∈ (rCells b (upd x k (Tr.text s).tx) n l).toList, v.oneCell' = true := rCells_one HL2.out
  have hD := HD.out
  have hDS : Hid (∃ x' n' l', rCells b (upd x k (Tr.text s).tx) n l = rCells b x' n' l' ∧ rCells b (upd x k (Tr.text s).tx) n l = rCells b (upd x k (Tr.text s).tx) n l) := Lib.hid ⟨_, _, _, rfl, rfl⟩
  generalize hdsq : rCells b (upd x k (Tr.text s).tx) n l = ds at *
  have HDSQ := Lib.hid hdsq
  clear hdsq hDS
  have h3 : Blk W3 (w.heap.size + 1 + 1) 58 zero32 := H3.out
  have h4 : Blk W3 (w.heap.size + 1 + 1 + 1) 124 #[.int .i64 0, .string ⟨#[]⟩] := H4.out
  have hzi : (Tryz.prog.info? 58).map (·.size) = some ds.size := by rw [hds]; kernel_rfl
  have hzs : ds.size = (zero32 : Array Value).size := hds
  have hb3 : Blk (putCells W3 (w.heap.size + 1 + 1) ds.toList 0) (w.heap.size + 1 + 1) 58 ds := blk_stored9 h3 hzs
  have hb4 : Blk (putCells W3 (w.heap.size + 1 + 1) ds.toList 0) (w.heap.size + 1 + 1 + 1) 124 #[.int .i64 0, .string ⟨#[]⟩] := putCells_far (by omega) ds.toList W3 0 _ _ h4
  have hbb : Below w.heap.size w (putCells W3 (w.heap.size + 1 + 1) ds.toList 0) := putCells_below (by omega) ds.toList w W3 0 HB.out
  have t0 := hb4.cell 0
  have t1 := hb4.cell 1
  have f0 := hb4.frozen 0
  have f1 := hb4.frozen 1
  simp at t0 t1
  have hb5 := (hb4.put 0 (.int .i64 0)).put 1 (.string ⟨#[]⟩)
  have hb6 := (hb3.far (p := ⟨(w.heap.size + 1 + 1 + 1), 0, none⟩) (by show (w.heap.size + 1 + 1) ≠ (w.heap.size + 1 + 1 + 1); omega) (.int .i64 0)).far (p := ⟨(w.heap.size + 1 + 1 + 1), 1, none⟩) (by show (w.heap.size + 1 + 1) ≠ (w.heap.size + 1 + 1 + 1); omega) (.string ⟨#[]⟩)
  have hb7 := (hbb.setCell (p := ⟨(w.heap.size + 1 + 1 + 1), 0, none⟩) (by show w.heap.size ≤ (w.heap.size + 1 + 1 + 1); omega) (.int .i64 0)).setCell (p := ⟨(w.heap.size + 1 + 1 + 1), 1, none⟩) (by show w.heap.size ≤ (w.heap.size + 1 + 1 + 1); omega) (.string ⟨#[]⟩)
  have HF := Lib.hid (And.intro hb5 (And.intro hb6 hb7))
  have HFR : Hid (∀ g t cs, w.heap.size + 4 ≤ g → Blk W3 g t cs → Blk (((putCells W3 (w.heap.size + 1 + 1) ds.toList 0).setCell ⟨(w.heap.size + 1 + 1 + 1), 0, none⟩ (.int .i64 0)).setCell ⟨(w.heap.size + 1 + 1 + 1), 1, none⟩ (.string ⟨#[]⟩)) g t cs) := Lib.hid (fun g t cs hg hB => ((putCells_far (by omega) ds.toList W3 0 _ _ hB).far (p := ⟨(w.heap.size + 1 + 1 + 1), 0, none⟩) (by show g ≠ (w.heap.size + 1 + 1 + 1); omega) _).far (p := ⟨(w.heap.size + 1 + 1 + 1), 1, none⟩) (by show g ≠ (w.heap.size + 1 + 1 + 1); omega) _)
  have hDu := hD
  unfold Blk at hDu
  clear hb3 hb4 hb5 hb6 hb7 hbb H3 H4 HD
  go_wp2_with (first | refine wpList_load_row rfl 58 (.tmp 4) rfl _ rfl 58 _ (0, 0) _ hDu Tryz.underlying58 rfl hzi ?_ | refine wpList_store_row rfl 58 (.tmp 8) (.tmp 30) rfl (w.heap.size + 1 + 1) 58 zero32 ds rfl rfl h3 hzs hone hzi rfl ?_)
  obtain ⟨g5, g6, g7⟩ := HF.out
  clear HF t0 t1 f0 f1 h3 h4 hD hDu
  generalize (((putCells W3 (w.heap.size + 1 + 1) ds.toList 0).setCell ⟨(w.heap.size + 1 + 1 + 1), 0, none⟩ (.int .i64 0)).setCell ⟨(w.heap.size + 1 + 1 + 1), 1, none⟩ (.string ⟨#[]⟩)) = Wf at *
  have l1 := run_loadVar_row (P := Tryz.prog) Wf (w.heap.size + 1 + 1) 58 58 ds (0, 0) _ g6 Tryz.underlying58 rfl hzi
  have g5' : Blk Wf (w.heap.size + 1 + 1 + 1) 124 #[.int .i64 0, .string ⟨#[]⟩] := g5
  have l2 := run_loadVar_row (P := Tryz.prog) Wf (w.heap.size + 1 + 1 + 1) 124 124 #[.int .i64 0, .string ⟨#[]⟩] (0, 0) _ g5' Tryz.underlying124 rfl (by kernel_rfl)
  refine bodyPost_ret (v := .tuple #[.agg ds, .agg #[.int .i64 0, .string ⟨#[]⟩]]) (by simp [results, Tryz.results30, asAddr, l1, l2]) rfl ⟨g7, upd x k (Tr.text s).tx, n, l, 0, [], by rw [HDSQ.out], HL2.out, by refine .inr ⟨rfl, (by obtain ⟨c', h1, _⟩ := dc_text dc_zero s hk; exact ⟨_, c', h1⟩), fun c v4 v7 h => ?_⟩; obtain ⟨c', h1, h2, h3, h4, h5⟩ := dc_text h s hk; exact ⟨c', v4, v7, h1, h2, h5, .inl ⟨rfl, h3⟩, .inl ⟨rfl, h4⟩⟩⟩

 ·have hs4 : ((t.srt : Int) != 4) = true := by cases t <;> simp_all [Tr.isTx, Tr.srt]
  go_upto_region 5 with fail
  generalize w2.setCell ⟨w.heap.size, 8 + k, none⟩ (.string ⟨t.tx.toArray⟩) = W3 at *
  clear H1 H2 c0 z0 v0 v3
  have hds : (rCells b (upd x k t.tx) n l).size = 32 := rfl
  have hone : ∀ v ∈ (rCells b (upd x k t.tx) n l).toList, v.oneCell' = true := rCells_one HL2.out
  have hD := HD.out
  have hDS : Hid (∃ x' n' l', rCells b (upd x k t.tx) n l = rCells b x' n' l' ∧ rCells b (upd x k t.tx) n l = rCells b (upd x k t.tx) n l) := Lib.hid ⟨_, _, _, rfl, rfl⟩
  generalize hdsq : rCells b (upd x k t.tx) n l = ds at *
  have HDSQ := Lib.hid hdsq
  clear hdsq hDS
  have h3 : Blk W3 (w.heap.size + 1 + 1) 58 zero32 := H3.out
  have h4 : Blk W3 (w.heap.size + 1 + 1 + 1) 124 #[.int .i64 0, .string ⟨#[]⟩] := H4.out
  have hzi : (Tryz.prog.info? 58).map (·.size) = some ds.size := by rw [hds]; kernel_rfl
  have hzs : ds.size = (zero32 : Array Value).size := hds
  have hb3 : Blk (putCells W3 (w.heap.size + 1 + 1) ds.toList 0) (w.heap.size + 1 + 1) 58 ds := blk_stored9 h3 hzs
  have hb4 : Blk (putCells W3 (w.heap.size + 1 + 1) ds.toList 0) (w.heap.size + 1 + 1 + 1) 124 #[.int .i64 0, .string ⟨#[]⟩] := putCells_far (by omega) ds.toList W3 0 _ _ h4
  have hbb : Below w.heap.size w (putCells W3 (w.heap.size + 1 + 1) ds.toList 0) := putCells_below (by omega) ds.toList w W3 0 HB.out
  have t0 := hb4.cell 0
  have t1 := hb4.cell 1
  have f0 := hb4.frozen 0
  have f1 := hb4.frozen 1
  simp at t0 t1
  have hb5 := (hb4.put 0 (.int .i64 5)).put 1 (.string ⟨(path k).toArray⟩)
  have hb6 := (hb3.far (p := ⟨(w.heap.size + 1 + 1 + 1), 0, none⟩) (by show (w.heap.size + 1 + 1) ≠ (w.heap.size + 1 + 1 + 1); omega) (.int .i64 5)).far (p := ⟨(w.heap.size + 1 + 1 + 1), 1, none⟩) (by show (w.heap.size + 1 + 1) ≠ (w.heap.size + 1 + 1 + 1); omega) (.string ⟨(path k).toArray⟩)
  have hb7 := (hbb.setCell (p := ⟨(w.heap.size + 1 + 1 + 1), 0, none⟩) (by show w.heap.size ≤ (w.heap.size + 1 + 1 + 1); omega) (.int .i64 5)).setCell (p := ⟨(w.heap.size + 1 + 1 + 1), 1, none⟩) (by show w.heap.size ≤ (w.heap.size + 1 + 1 + 1); omega) (.string ⟨(path k).toArray⟩)
  have HF := Lib.hid (And.intro hb5 (And.intro hb6 hb7))
  have HFR : Hid (∀ g t cs, w.heap.size + 4 ≤ g → Blk W3 g t cs → Blk (((putCells W3 (w.heap.size + 1 + 1) ds.toList 0).setCell ⟨(w.heap.size + 1 + 1 + 1), 0, none⟩ (.int .i64 5)).setCell ⟨(w.heap.size + 1 + 1 + 1), 1, none⟩ (.string ⟨(path k).toArray⟩)) g t cs) := Lib.hid (fun g t cs hg hB => ((putCells_far (by omega) ds.toList W3 0 _ _ hB).far (p := ⟨(w.heap.size + 1 + 1 + 1), 0, none⟩) (by show g ≠ (w.heap.size + 1 + 1 + 1); omega) _).far (p := ⟨(w.heap.size + 1 + 1 + 1), 1, none⟩) (by show g ≠ (w.heap.size + 1 + 1 + 1); omega) _)
  have hDu := hD
  unfold Blk at hDu
  clear hb3 hb4 hb5 hb6 hb7 hbb H3 H4 HD
  go_wp2_with (first | refine wpList_load_row rfl 58 (.tmp 4) rfl _ rfl 58 _ (0, 0) _ hDu Tryz.underlying58 rfl hzi ?_ | refine wpList_store_row rfl 58 (.tmp 8) (.tmp 27) rfl (w.heap.size + 1 + 1) 58 zero32 ds rfl rfl h3 hzs hone hzi rfl ?_)
  obtain ⟨g5, g6, g7⟩ := HF.out
  clear HF t0 t1 f0 f1 h3 h4 hD hDu
  generalize (((putCells W3 (w.heap.size + 1 + 1) ds.toList 0).setCell ⟨(w.heap.size + 1 + 1 + 1), 0, none⟩ (.int .i64 5)).setCell ⟨(w.heap.size + 1 + 1 + 1), 1, none⟩ (.string ⟨(path k).toArray⟩)) = Wf at *
  have l1 := run_loadVar_row (P := Tryz.prog) Wf (w.heap.size + 1 + 1) 58 58 ds (0, 0) _ g6 Tryz.underlying58 rfl hzi
  have g5' : Blk Wf (w.heap.size + 1 + 1 + 1) 124 #[.int .i64 5, .string ⟨(path k).toArray⟩] := g5
  have l2 := run_loadVar_row (P := Tryz.prog) Wf (w.heap.size + 1 + 1 + 1) 124 124 #[.int .i64 5, .string ⟨(path k).toArray⟩] (0, 0) _ g5' Tryz.underlying124 rfl (by kernel_rfl)
  refine bodyPost_ret (v := .tuple #[.agg ds, .agg #[.int .i64 5, .string ⟨(path k).toArray⟩]]) (by simp [results, Tryz.results30, asAddr, l1, l2]) rfl ⟨g7, upd x k t.tx, n, l, 5, path k, by rw [HDSQ.out], HL2.out, by refine .inl ⟨by decide, fun c => ?_⟩; exact setK_notext he hk c⟩
theorem rread_time (b : Nat → Bool) (x : Nat → Txt) (n : Nat → Int) (l : Nat → Value) (k : Nat) (t : Tr) (A : Option Addr) (c : Nat) (K : Option Addr) (d : Nat) (w : World) (h : RdVA w t ((A, c), (K, d))) (hl : ∀ i, i < 8 → (l i).oneCell' = true) (hbi : t.bi < 18446744073709551616) (hkn : t.kids.length ≤ 65536) (htx : t.tx.length ≤ 4398046511104) (hk : k = 1 ∨ k = 4 ∨ k = 7) :
  Calls Tryz.prog 30 #[.agg (rCells b x n l), .int .i64 (k : Int), valV t A c K d, .string ⟨(path k).toArray⟩] w (RReadP b x n l k t w) := by
 have hba : Below w.heap.size w ((((w.alloc (.cells (rc32 b x n l) 58)).alloc (.cells #[.int .i64 (t.srt : Nat), .bool t.fl, .int .u64 (t.bi : Nat), .string ⟨t.tx.toArray⟩, .slice A t.kids.length c, .slice K t.kn.length d] 34)).alloc (.cells zero32 58)).alloc (.cells #[.int .i64 0, .string ⟨#[]⟩] 124)) := ((((Below.refl _ _).alloc (Nat.le_refl _) _).alloc (by simp) _).alloc (by simp; omega) _).alloc (by simp; omega) _
 have hB1 : Blk ((((w.alloc (.cells (rc32 b x n l) 58)).alloc (.cells #[.int .i64 (t.srt : Nat), .bool t.fl, .int .u64 (t.bi : Nat), .string ⟨t.tx.toArray⟩, .slice A t.kids.length c, .slice K t.kn.length d] 34)).alloc (.cells zero32 58)).alloc (.cells #[.int .i64 0, .string ⟨#[]⟩] 124)) w.heap.size 58 (rc32 b x n l) := ((Blk.new w 58 (rc32 b x n l)).alloc _ |>.alloc _).alloc _
 have hB2 : Blk ((((w.alloc (.cells (rc32 b x n l) 58)).alloc (.cells #[.int .i64 (t.srt : Nat), .bool t.fl, .int .u64 (t.bi : Nat), .string ⟨t.tx.toArray⟩, .slice A t.kids.length c, .slice K t.kn.length d] 34)).alloc (.cells zero32 58)).alloc (.cells #[.int .i64 0, .string ⟨#[]⟩] 124)) (w.heap.size + 1) 34 #[.int .i64 (t.srt : Nat), .bool t.fl, .int .u64 (t.bi : Nat), .string ⟨t.tx.toArray⟩, .slice A t.kids.length c, .slice K t.kn.length d] := by
  have := ((Blk.new (w.alloc (.cells (rc32 b x n l) 58)) 34 #[.int .i64 (t.srt : Nat), .bool t.fl, .int .u64 (t.bi : Nat), .string ⟨t.tx.toArray⟩, .slice A t.kids.length c, .slice K t.kn.length d]).alloc (.cells zero32 58)).alloc (.cells #[.int .i64 0, .string ⟨#[]⟩] 124)
  rwa [World.size_alloc] at this
 have hB3 : Blk ((((w.alloc (.cells (rc32 b x n l) 58)).alloc (.cells #[.int .i64 (t.srt : Nat), .bool t.fl, .int .u64 (t.bi : Nat), .string ⟨t.tx.toArray⟩, .slice A t.kids.length c, .slice K t.kn.length d] 34)).alloc (.cells zero32 58)).alloc (.cells #[.int .i64 0, .string ⟨#[]⟩] 124)) (w.heap.size + 2) 58 zero32 := by
  have := (Blk.new ((w.alloc (.cells (rc32 b x n l) 58)).alloc (.cells #[.int .i64 (t.srt : Nat), .bool t.fl, .int .u64 (t.bi : Nat), .string ⟨t.tx.toArray⟩, .slice A t.kids.length c, .slice K t.kn.length d] 34)) 58 zero32).alloc (.cells #[.int .i64 0, .string ⟨#[]⟩] 124)
  rwa [World.size_alloc, World.size_alloc] at this
 have hB4 : Blk ((((w.alloc (.cells (rc32 b x n l) 58)).alloc (.cells #[.int .i64 (t.srt : Nat), .bool t.fl, .int .u64 (t.bi : Nat), .string ⟨t.tx.toArray⟩, .slice A t.kids.length c, .slice K t.kn.length d] 34)).alloc (.cells zero32 58)).alloc (.cells #[.int .i64 0, .string ⟨#[]⟩] 124)) (w.heap.size + 3) 124 #[.int .i64 0, .string ⟨#[]⟩] := by
  have := Blk.new (((w.alloc (.cells (rc32 b x n l) 58)).alloc (.cells #[.int .i64 (t.srt : Nat), .bool t.fl, .int .u64 (t.bi : Nat), .string ⟨t.tx.toArray⟩, .slice A t.kids.length c, .slice K t.kn.length d] 34)).alloc (.cells zero32 58)) 124 #[.int .i64 0, .string ⟨#[]⟩]
  rwa [World.size_alloc, World.size_alloc, World.size_alloc] at this
 have HR := Lib.hid (rdva_below h hba)
 have HL := Lib.hid hl
 have HB := Lib.hid hba
 have H1 := Lib.hid hB1
 have H2 := Lib.hid hB2
 have H3 := Lib.hid hB3
 have H4 := Lib.hid hB4
 have HBI := Lib.hid hbi
 have HKN := Lib.hid hkn
 have HTX := Lib.hid htx
 clear h hl hba hB1 hB2 hB3 hB4 hbi hkn htx
 unfold rCells
 go_enter Tryz.func30, Tryz.ntmps30
 go_upto_region 1 with fail
 generalize ((((w.alloc (.cells (rc32 b x n l) 58)).alloc (.cells #[.int .i64 (t.srt : Nat), .bool t.fl, .int .u64 (t.bi : Nat), .string ⟨t.tx.toArray⟩, .slice A t.kids.length c, .slice K t.kn.length d] 34)).alloc (.cells zero32 58)).alloc (.cells #[.int .i64 0, .string ⟨#[]⟩] 124)) = w1 at *
 go_wp2_with fail
 have hk8 : k < 8 := by omega
 ((with_reducible refine (refKinds_any _).mono ?_); rintro e w2 ⟨rfl, hb⟩)
 have hki := kind_index k hk8
 have hko : kindOf k = 2 := by rcases hk with rfl | rfl | rfl <;> rfl
 rw [hko] at hki
 clear hko
 replace HR := Lib.hid (rdva_below HR.out hb)
 replace H1 := Lib.hid (H1.out.below hb H1.out.lt)
 replace H2 := Lib.hid (H2.out.below hb H2.out.lt)
 replace H3 := Lib.hid (H3.out.below hb H3.out.lt)
 replace H4 := Lib.hid (H4.out.below hb H4.out.lt)
 replace HB := Lib.hid (HB.out.trans (hb.mono HB.out.size))
 clear hb
 have hR1 : Blk w2 w.heap.size 58 (rCells b x n l) := H1.out
 have v0 := H2.out.cell 0
 have v2 := H2.out.cell 2
 have v3 := H2.out.cell 3
 have v4 := H2.out.cell 4
 simp at v0 v2 v3 v4
 rcases nb_cases t with ⟨s, hts⟩ | ⟨ht, he⟩
 ·have HTS := Lib.hid (show t = .num t.bi by rw [hts]; rfl)
  have hsr : ((t.srt : Int) != 3) = false := by rw [hts]; rfl
  clear hts
  go_wp2_with fail
  ((with_reducible refine (refTime_any t.bi HBI.out w2).mono ?_); rintro e w3 ⟨rfl, rfl⟩)
  have c0 := rCells_at_n hR1 hk8
  have z0 := hR1.frozen (16 + k)
  have hR3 := hR1.put (16 + k) (.int .i64 (timeD t.bi))
  rw [rCells_n b x n l hk8 (timeD t.bi)] at hR3
  have HD := Lib.hid hR3
  have c1 := rCells_at_n hR3 hk8
  rw [upd_at] at c1
  replace H3 := Lib.hid (H3.out.far (p := ⟨w.heap.size, 16 + k, none⟩) (by show w.heap.size + 2 ≠ w.heap.size; omega) (.int .i64 (timeD t.bi)))
  replace H4 := Lib.hid (H4.out.far (p := ⟨w.heap.size, 16 + k, none⟩) (by show w.heap.size + 3 ≠ w.heap.size; omega) (.int .i64 (timeD t.bi)))
  replace HB := Lib.hid (HB.out.setCell (p := ⟨w.heap.size, 16 + k, none⟩) (Nat.le_refl _) (.int .i64 (timeD t.bi)))
  have HL2 := HL
  clear hR1 hR3
  by_cases hneg : timeD t.bi < 0
  ·go_upto_region 12 with fail
   generalize w2.setCell ⟨w.heap.size, 16 + k, none⟩ (.int .i64 (timeD t.bi)) = W3 at *
   clear H1 H2 c0 c1 z0 v0 v2 v3 v4
   have hds : (rCells b x (upd n k (timeD t.bi)) l).size = 32 := rfl
   have hone : ∀ v ∈ (rCells b x (upd n k (timeD t.bi)) l).toList, v.oneCell' = true := rCells_one HL2.out
   have hD := HD.out
   have hDS : Hid (∃ x' n' l', rCells b x (upd n k (timeD t.bi)) l = rCells b x' n' l' ∧ rCells b x (upd n k (timeD t.bi)) l = rCells b x (upd n k (timeD t.bi)) l) := Lib.hid ⟨_, _, _, rfl, rfl⟩
   generalize hdsq : rCells b x (upd n k (timeD t.bi)) l = ds at *
   have HDSQ := Lib.hid hdsq
   clear hdsq hDS
   have h3 : Blk W3 (w.heap.size + 1 + 1) 58 zero32 := H3.out
   have h4 : Blk W3 (w.heap.size + 1 + 1 + 1) 124 #[.int .i64 0, .string ⟨#[]⟩] := H4.out
   have hzi : (Tryz.prog.info? 58).map (·.size) = some ds.size := by rw [hds]; kernel_rfl
   have hzs : ds.size = (zero32 : Array Value).size := hds
   have hb3 : Blk (putCells W3 (w.heap.size + 1 + 1) ds.toList 0) (w.heap.size + 1 + 1) 58 ds := blk_stored9 h3 hzs
   have hb4 : Blk (putCells W3 (w.heap.size + 1 + 1) ds.toList 0) (w.heap.size + 1 + 1 + 1) 124 #[.int .i64 0, .string ⟨#[]⟩] := putCells_far (by omega) ds.toList W3 0 _ _ h4
   have hbb : Below w.heap.size w (putCells W3 (w.heap.size + 1 + 1) ds.toList 0) := putCells_below (by omega) ds.toList w W3 0 HB.out
   have t0 := hb4.cell 0
   have t1 := hb4.cell 1
   have f0 := hb4.frozen 0
   have f1 := hb4.frozen 1
   simp at t0 t1
   have hb5 := (hb4.put 0 (.int .i64 250)).put 1 (.string ⟨(path k).toArray⟩)
   have hb6 := (hb3.far (p := ⟨(w.heap.size + 1 + 1 + 1), 0, none⟩) (by show (w.heap.size + 1 + 1) ≠ (w.heap.size + 1 + 1 + 1); omega) (.int .i64 250)).far (p := ⟨(w.heap.size + 1 + 1 + 1), 1, none⟩) (by show (w.heap.size + 1 + 1) ≠ (w.heap.size + 1 + 1 + 1); omega) (.string ⟨(path k).toArray⟩)
   have hb7 := (hbb.setCell (p := ⟨(w.heap.size + 1 + 1 + 1), 0, none⟩) (by show w.heap.size ≤ (w.heap.size + 1 + 1 + 1); omega) (.int .i64 250)).setCell (p := ⟨(w.heap.size + 1 + 1 + 1), 1, none⟩) (by show w.heap.size ≤ (w.heap.size + 1 + 1 + 1); omega) (.string ⟨(path k).toArray⟩)
   have HF := Lib.hid (And.intro hb5 (And.intro hb6 hb7))
   have HFR : Hid (∀ g t cs, w.heap.size + 4 ≤ g → Blk W3 g t cs → Blk (((putCells W3 (w.heap.size + 1 + 1) ds.toList 0).setCell ⟨(w.heap.size + 1 + 1 + 1), 0, none⟩ (.int .i64 250)).setCell ⟨(w.heap.size + 1 + 1 + 1), 1, none⟩ (.string ⟨(path k).toArray⟩)) g t cs) := Lib.hid (fun g t cs hg hB => ((putCells_far (by omega) ds.toList W3 0 _ _ hB).far (p := ⟨(w.heap.size + 1 + 1 + 1), 0, none⟩) (by show g ≠ (w.heap.size + 1 + 1 + 1); omega) _).far (p := ⟨(w.heap.size + 1 + 1 + 1), 1, none⟩) (by show g ≠ (w.heap.size + 1 + 1 + 1); omega) _)
   have hDu := hD
   unfold Blk at hDu
   clear hb3 hb4 hb5 hb6 hb7 hbb H3 H4 HD
   go_wp2_with (first | refine wpList_load_row rfl 58 (.tmp 4) rfl _ rfl 58 _ (0, 0) _ hDu Tryz.underlying58 rfl hzi ?_ | refine wpList_store_row rfl 58 (.tmp 8) (.tmp 51) rfl (w.heap.size + 1 + 1) 58 zero32 ds rfl rfl h3 hzs hone hzi rfl ?_)
   obtain ⟨g5, g6, g7⟩ := HF.out
   clear HF t0 t1 f0 f1 h3 h4 hD hDu
   generalize (((putCells W3 (w.heap.size + 1 + 1) ds.toList 0).setCell ⟨(w.heap.size + 1 + 1 + 1), 0, none⟩ (.int .i64 250)).setCell ⟨(w.heap.size + 1 + 1 + 1), 1, none⟩ (.string ⟨(path k).toArray⟩)) = Wf at *
   have l1 := run_loadVar_row (P := Tryz.prog) Wf (w.heap.size + 1 + 1) 58 58 ds (0, 0) _ g6 Tryz.underlying58 rfl hzi
   have g5' : Blk Wf (w.heap.size + 1 + 1 + 1) 124 #[.int .i64 250, .string ⟨(path k).toArray⟩] := g5
   have l2 := run_loadVar_row (P := Tryz.prog) Wf (w.heap.size + 1 + 1 + 1) 124 124 #[.int .i64 250, .string ⟨(path k).toArray⟩] (0, 0) _ g5' Tryz.underlying124 rfl (by kernel_rfl)
   refine bodyPost_ret (v := .tuple #[.agg ds, .agg #[.int .i64 250, .string ⟨(path k).toArray⟩]]) (by simp [results, Tryz.results30, asAddr, l1, l2]) rfl ⟨g7, x, upd n k (timeD t.bi), l, 250, path k, by rw [HDSQ.out], HL2.out, by refine .inl ⟨by decide, fun c => ?_⟩; rw [HTS.out]; exact setK_notime (timeK_no (by show ¬ 0 ≤ timeD t.bi; omega)) hk c⟩
  ·go_upto_region 13 with fail
   generalize w2.setCell ⟨w.heap.size, 16 + k, none⟩ (.int .i64 (timeD t.bi)) = W3 at *
   clear H1 H2 c0 c1 z0 v0 v2 v3 v4
   have hds : (rCells b x (upd n k (timeD t.bi)) l).size = 32 := rfl
   have hone : ∀ v ∈ (rCells b x (upd n k (timeD t.bi)) l).toList, v.oneCell' = true := rCells_one HL2.out
   have hD := HD.out
   have hDS : Hid (∃ x' n' l', rCells b x (upd n k (timeD t.bi)) l = rCells b x' n' l' ∧ rCells b x (upd n k (timeD t.bi)) l = rCells b x (upd n k (timeD t.bi)) l) := Lib.hid ⟨_, _, _, rfl, rfl⟩
   generalize hdsq : rCells b x (upd n k (timeD t.bi)) l = ds at *
   have HDSQ := Lib.hid hdsq
   clear hdsq hDS
   have h3 : Blk W3 (w.heap.size + 1 + 1) 58 zero32 := H3.out
   have h4 : Blk W3 (w.heap.size + 1 + 1 + 1) 124 #[.int .i64 0, .string ⟨#[]⟩] := H4.out
   have hzi : (Tryz.prog.info? 58).map (·.size) = some ds.size := by rw [hds]; kernel_rfl
   have hzs : ds.size = (zero32 : Array Value).size := hds
   have hb3 : Blk (putCells W3 (w.heap.size + 1 + 1) ds.toList 0) (w.heap.size + 1 + 1) 58 ds := blk_stored9 h3 hzs
   have hb4 : Blk (putCells W3 (w.heap.size + 1 + 1) ds.toList 0) (w.heap.size + 1 + 1 + 1) 124 #[.int .i64 0, .string ⟨#[]⟩] := putCells_far (by omega) ds.toList W3 0 _ _ h4
   have hbb : Below w.heap.size w (putCells W3 (w.heap.size + 1 + 1) ds.toList 0) := putCells_below (by omega) ds.toList w W3 0 HB.out
   have t0 := hb4.cell 0
   have t1 := hb4.cell 1
   have f0 := hb4.frozen 0
   have f1 := hb4.frozen 1
   simp at t0 t1
   have hb5 := (hb4.put 0 (.int .i64 0)).put 1 (.string ⟨#[]⟩)
   have hb6 := (hb3.far (p := ⟨(w.heap.size + 1 + 1 + 1), 0, none⟩) (by show (w.heap.size + 1 + 1) ≠ (w.heap.size + 1 + 1 + 1); omega) (.int .i64 0)).far (p := ⟨(w.heap.size + 1 + 1 + 1), 1, none⟩) (by show (w.heap.size + 1 + 1) ≠ (w.heap.size + 1 + 1 + 1); omega) (.string ⟨#[]⟩)
   have hb7 := (hbb.setCell (p := ⟨(w.heap.size + 1 + 1 + 1), 0, none⟩) (by show w.heap.size ≤ (w.heap.size + 1 + 1 + 1); omega) (.int .i64 0)).setCell (p := ⟨(w.heap.size + 1 + 1 + 1), 1, none⟩) (by show w.heap.size ≤ (w.heap.size + 1 + 1 + 1); omega) (.string ⟨#[]⟩)
   have HF := Lib.hid (And.intro hb5 (And.intro hb6 hb7))
   have HFR : Hid (∀ g t cs, w.heap.size + 4 ≤ g → Blk W3 g t cs → Blk (((putCells W3 (w.heap.size + 1 + 1) ds.toList 0).setCell ⟨(w.heap.size + 1 + 1 + 1), 0, none⟩ (.int .i64 0)).setCell ⟨(w.heap.size + 1 + 1 + 1), 1, none⟩ (.string ⟨#[]⟩)) g t cs) := Lib.hid (fun g t cs hg hB => ((putCells_far (by omega) ds.toList W3 0 _ _ hB).far (p := ⟨(w.heap.size + 1 + 1 + 1), 0, none⟩) (by show g ≠ (w.heap.size + 1 + 1 + 1); omega) _).far (p := ⟨(w.heap.size + 1 + 1 + 1), 1, none⟩) (by show g ≠ (w.heap.size + 1 + 1 + 1); omega) _)
   have hDu := hD
   unfold Blk at hDu
   clear hb3 hb4 hb5 hb6 hb7 hbb H3 H4 HD
   go_wp2_with (first | refine wpList_load_row rfl 58 (.tmp 4) rfl _ rfl 58 _ (0, 0) _ hDu Tryz.underlying58 rfl hzi ?_ | refine wpList_store_row rfl 58 (.tmp 8) (.tmp 54) rfl (w.heap.size + 1 + 1) 58 zero32 ds rfl rfl h3 hzs hone hzi rfl ?_)
   obtain ⟨g5, g6, g7⟩ := HF.out
   clear HF t0 t1 f0 f1 h3 h4 hD hDu
   generalize (((putCells W3 (w.heap.size + 1 + 1) ds.toList 0).setCell ⟨(w.heap.size + 1 + 1 + 1), 0, none⟩ (.int .i64 0)).setCell ⟨(w.heap.size + 1 + 1 + 1), 1, none⟩ (.string ⟨#[]⟩)) = Wf at *
   have l1 := run_loadVar_row (P := Tryz.prog) Wf (w.heap.size + 1 + 1) 58 58 ds (0, 0) _ g6 Tryz.underlying58 rfl hzi
   have g5' : Blk Wf (w.heap.size + 1 + 1 + 1) 124 #[.int .i64 0, .string ⟨#[]⟩] := g5
   have l2 := run_loadVar_row (P := Tryz.prog) Wf (w.heap.size + 1 + 1 + 1) 124 124 #[.int .i64 0, .string ⟨#[]⟩] (0, 0) _ g5' Tryz.underlying124 rfl (by kernel_rfl)
   refine bodyPost_ret (v := .tuple #[.agg ds, .agg #[.int .i64 0, .string ⟨#[]⟩]]) (by simp [results, Tryz.results30, asAddr, l1, l2]) rfl ⟨g7, x, upd n k (timeD t.bi), l, 0, [], by rw [HDSQ.out], HL2.out, by refine .inr ⟨rfl, (by rw [HTS.out]; obtain ⟨c', h1, _⟩ := dc_time dc_zero (s := t.bi) (by omega) hk; exact ⟨_, c', h1⟩), fun c v4 v7 h => ?_⟩; rw [HTS.out]; obtain ⟨c', h1, h2, h3, h4, h5⟩ := dc_time h (s := t.bi) (by omega) hk; exact ⟨c', v4, v7, h1, h2, h5, .inl ⟨rfl, h3⟩, .inl ⟨rfl, h4⟩⟩⟩
 ·have hs3 : ((t.srt : Int) != 3) = true := by cases t <;> simp_all [Tr.isNb, Tr.srt]
  have HD := Lib.hid hR1
  have HL2 := HL
  clear hR1
  go_upto_region 9 with fail
  generalize w2 = W3 at *
  clear H1 H2 v0 v2 v3 v4
  have hds : (rCells b x n l).size = 32 := rfl
  have hone : ∀ v ∈ (rCells b x n l).toList, v.oneCell' = true := rCells_one HL2.out
  have hD := HD.out
  have hDS : Hid (∃ x' n' l', rCells b x n l = rCells b x' n' l' ∧ rCells b x n l = rCells b x n l) := Lib.hid ⟨_, _, _, rfl, rfl⟩
  generalize hdsq : rCells b x n l = ds at *
  have HDSQ := Lib.hid hdsq
  clear hdsq hDS
  have h3 : Blk W3 (w.heap.size + 1 + 1) 58 zero32 := H3.out
  have h4 : Blk W3 (w.heap.size + 1 + 1 + 1) 124 #[.int .i64 0, .string ⟨#[]⟩] := H4.out
  have hzi : (Tryz.prog.info? 58).map (·.size) = some ds.size := by rw [hds]; kernel_rfl
  have hzs : ds.size = (zero32 : Array Value).size := hds
  have hb3 : Blk (putCells W3 (w.heap.size + 1 + 1) ds.toList 0) (w.heap.size + 1 + 1) 58 ds := blk_stored9 h3 hzs
  have hb4 : Blk (putCells W3 (w.heap.size + 1 + 1) ds.toList 0) (w.heap.size + 1 + 1 + 1) 124 #[.int .i64 0, .string ⟨#[]⟩] := putCells_far (by omega) ds.toList W3 0 _ _ h4
  have hbb : Below w.heap.size w (putCells W3 (w.heap.size + 1 + 1) ds.toList 0) := putCells_below (by omega) ds.toList w W3 0 HB.out
  have t0 := hb4.cell 0
  have t1 := hb4.cell 1
  have f0 := hb4.frozen 0
  have f1 := hb4.frozen 1
  simp at t0 t1
  have hb5 := (hb4.put 0 (.int .i64 5)).put 1 (.string ⟨(path k).toArray⟩)
  have hb6 := (hb3.far (p := ⟨(w.heap.size + 1 + 1 + 1), 0, none⟩) (by show (w.heap.size + 1 + 1) ≠ (w.heap.size + 1 + 1 + 1); omega) (.int .i64 5)).far (p := ⟨(w.heap.size + 1 + 1 + 1), 1, none⟩) (by show (w.heap.size + 1 + 1) ≠ (w.heap.size + 1 + 1 + 1); omega) (.string ⟨(path k).toArray⟩)
  have hb7 := (hbb.setCell (p := ⟨(w.heap.size + 1 + 1 + 1), 0, none⟩) (by show w.heap.size ≤ (w.heap.size + 1 + 1 + 1); omega) (.int .i64 5)).setCell (p := ⟨(w.heap.size + 1 + 1 + 1), 1, none⟩) (by show w.heap.size ≤ (w.heap.size + 1 + 1 + 1); omega) (.string ⟨(path k).toArray⟩)
  have HF := Lib.hid (And.intro hb5 (And.intro hb6 hb7))
  have HFR : Hid (∀ g t cs, w.heap.size + 4 ≤ g → Blk W3 g t cs → Blk (((putCells W3 (w.heap.size + 1 + 1) ds.toList 0).setCell ⟨(w.heap.size + 1 + 1 + 1), 0, none⟩ (.int .i64 5)).setCell ⟨(w.heap.size + 1 + 1 + 1), 1, none⟩ (.string ⟨(path k).toArray⟩)) g t cs) := Lib.hid (fun g t cs hg hB => ((putCells_far (by omega) ds.toList W3 0 _ _ hB).far (p := ⟨(w.heap.size + 1 + 1 + 1), 0, none⟩) (by show g ≠ (w.heap.size + 1 + 1 + 1); omega) _).far (p := ⟨(w.heap.size + 1 + 1 + 1), 1, none⟩) (by show g ≠ (w.heap.size + 1 + 1 + 1); omega) _)
  have hDu := hD
  unfold Blk at hDu
  clear hb3 hb4 hb5 hb6 hb7 hbb H3 H4 HD
  go_wp2_with (first | refine wpList_load_row rfl 58 (.tmp 4) rfl _ rfl 58 _ (0, 0) _ hDu Tryz.underlying58 rfl hzi ?_ | refine wpList_store_row rfl 58 (.tmp 8) (.tmp 37) rfl (w.heap.size + 1 + 1) 58 zero32 ds rfl rfl h3 hzs hone hzi rfl ?_)
  obtain ⟨g5, g6, g7⟩ := HF.out
  clear HF t0 t1 f0 f1 h3 h4 hD hDu
  generalize (((putCells W3 (w.heap.size + 1 + 1) ds.toList 0).setCell ⟨(w.heap.size + 1 + 1 + 1), 0, none⟩ (.int .i64 5)).setCell ⟨(w.heap.size + 1 + 1 + 1), 1, none⟩ (.string ⟨(path k).toArray⟩)) = Wf at *
  have l1 := run_loadVar_row (P := Tryz.prog) Wf (w.heap.size + 1 + 1) 58 58 ds (0, 0) _ g6 Tryz.underlying58 rfl hzi
  have g5' : Blk Wf (w.heap.size + 1 + 1 + 1) 124 #[.int .i64 5, .string ⟨(path k).toArray⟩] := g5
  have l2 := run_loadVar_row (P := Tryz.prog) Wf (w.heap.size + 1 + 1 + 1) 124 124 #[.int .i64 5, .string ⟨(path k).toArray⟩] (0, 0) _ g5' Tryz.underlying124 rfl (by kernel_rfl)
  refine bodyPost_ret (v := .tuple #[.agg ds, .agg #[.int .i64 5, .string ⟨(path k).toArray⟩]]) (by simp [results, Tryz.results30, asAddr, l1, l2]) rfl ⟨g7, x, n, l, 5, path k, by rw [HDSQ.out], HL2.out, by refine .inl ⟨by decide, fun c => ?_⟩; exact setK_notime (he k) hk c⟩
end Nd
end Go.Proofs.YtobaldkipnhlpaaGreatDoor
