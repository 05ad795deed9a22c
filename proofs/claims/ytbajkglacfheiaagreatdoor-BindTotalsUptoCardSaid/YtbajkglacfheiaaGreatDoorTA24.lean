/-
  Walks of the reference of layer 10: Made. Walks of the reference of layer 10: Do, from the check of the limits on. Walks of the reference of layer 10: Do, from the making of the value on.
-/
import Derived.Test.YtbajkglacfheiaaGreatDoorTA23
import Derived.Test.YtbajkglacfheiaaGreatDoorTA8
import Derived.Deep.AppendLies
import Derived.Deep.RegionLaw
set_option linter.unusedVariables false
set_option maxRecDepth 100000
set_option maxHeartbeats 16000000
namespace Go.Proofs.YtbajkglacfheiaaGreatDoor
open Go.RowKit Mem Ref3
namespace Nd
def esOf (ks : List Tx) (l : List Tr) (xs : List X4) : List E7 := (ks.zip l).zip xs
theorem esOf_len {ks : List Tx} {l : List Tr} {xs : List X4} (h1 : l.length = ks.length) (h2 : xs.length = l.length) : (esOf ks l xs).length = ks.length := by
 unfold esOf
 rw [List.length_zip, List.length_zip]
 omega
theorem esOf_at {ks : List Tx} {l : List Tr} {xs : List X4} {k : Nat} (hk : k < ks.length) (h1 : l.length = ks.length) (h2 : xs.length = l.length) : (esOf ks l xs)[k]? = some ((ks[k], l[k]'(by omega)), xs[k]'(by omega)) := by
 unfold esOf
 rw [List.getElem?_eq_getElem (by rw [List.length_zip, List.length_zip]; omega), List.getElem_zip, List.getElem_zip]
theorem esOf_fst {ks : List Tx} {l : List Tr} {xs : List X4} (h1 : l.length = ks.length) (h2 : xs.length = l.length) : fsts (esOf ks l xs) = ks.zip l := by
 unfold esOf
 exact zip_fst _ _ (by rw [List.length_zip]; omega)
theorem cells7_take1 (es : List E7) (k : Nat) (e : E7) (h : es[k]? = some e) : cells7 (es.take (k + 1)) = cells7 (es.take k) ++ cell7 e := by
 have hk := (List.getElem?_eq_some_iff.1 h).1
 rw [List.take_succ_eq_append_getElem hk, cells7_snoc]
 rw [List.getElem?_eq_getElem hk] at h
 injection h with h
 rw [h]
theorem info_val : (Tryz.prog.info? 79).map (fun i => (i.zero, i.size, i.bytes)) = some (some (.agg #[.int .i64 0, .bool false, .int .u64 0, .string ⟨#[]⟩, .slice none 0 0, .slice none 0 0]), 6, 88) := by kernel_rfl
abbrev zeroV : List Value := [.int .i64 0, .bool false, .int .u64 0, .string ⟨#[]⟩, .slice none 0 0, .slice none 0 0]
theorem Cell7At.move {w w' : World} {g o : Nat} {k : Tx} {t : Tr} {A : Option Addr} {c : Nat} {K : Option Addr} {d : Nat} (h : Cell7At w g o k t A c K d) (hb : w'.heap[g]? = w.heap[g]?) : Cell7At w' g o k t A c K d :=
 ⟨(cell_block hb).trans h.c0, (cell_block hb).trans h.c1, (cell_block hb).trans h.c2, (cell_block hb).trans h.c3, (cell_block hb).trans h.c4, (cell_block hb).trans h.c5, (cell_block hb).trans h.c6⟩
abbrev kysM (es : List E7) : List Tx := es.map (·.1.1)
abbrev itsM (es : List E7) : List Tr := es.map (·.1.2)
abbrev x4M (es : List E7) : List X4 := es.map (·.2)
structure MadS (es : List E7) (w3 : World) (P ki kk : Nat) (AI : Option Addr) (cI : Nat) (AK : Option Addr) (cK : Nat) (wr : World) : Prop where
 bl : Blk wr P 79 #[.int .i64 6, .bool false, .int .u64 0, .string ⟨#[]⟩, .slice AI ki cI, .slice AK kk cK]
 ri : wr.ownsRow w3.heap.size 79 6 (.slice AI ki cI) ki (cellsV ((itsM es).take ki) ((x4M es).take ki))
 rk : wr.ownsRow w3.heap.size 9 1 (.slice AK kk cK) kk (((kysM es).take kk).map txV)
 gr : w3.grownBy wr (some P)
 lt : P < w3.heap.size
section
variable {es : List E7} {w3 : World} {P ki kk : Nat} {AI : Option Addr} {cI : Nat} {AK : Option Addr} {cK : Nat} {wr : World}
theorem not_own {w : World} {B P s n : Nat} {e : TypeId} {v : Value} {xs : List Value} (h : w.ownsRow B e s v n xs) (hP : P < B) : v.ownBlock = none ∨ v.ownBlock ≠ some P :=
 .inr fun e => by have := own_base h P e; omega
theorem MadS.keyed {k : Tx} {e : E7} {g9 q9 : Nat} {w9 : World} {ob : Obj} (h : MadS es w3 P ki kk AI cI AK cK wr) (he : es[kk]? = some e) (hk : e.1.1 = k)
  (ho : w9.ownsRow w3.heap.size 9 1 (.slice (some ⟨g9, 0, none⟩) (kk + 1) q9) (kk + 1) (((kysM es).take kk).map txV ++ [txV k])) (hg : (wr.alloc ob).drew.grownBy w9 (Value.slice AK kk cK).ownBlock) :
  MadS es w3 P ki (kk + 1) AI cI (some ⟨g9, 0, none⟩) q9 (w9.setCell ⟨P, 5, none⟩ (.slice (some ⟨g9, 0, none⟩) (kk + 1) q9)) := by
 have hlt := h.lt
 have hs := h.gr.size
 have hne : some P ≠ (Value.slice AK kk cK).ownBlock := fun e => by have := own_base h.rk P e.symm; omega
 have hb9 := ((h.bl.alloc ob).drew).only hg hne
 have hput := grown_put (grown_refl w9 (some P)) 5 (.slice (some ⟨g9, 0, none⟩) (kk + 1) q9)
 have hri9 : w9.ownsRow w3.heap.size 79 6 (.slice AI ki cI) ki (cellsV ((itsM es).take ki) ((x4M es).take ki)) := World.ownsRow.kept ((h.ri.alloc ob).drew) hg (own_apart h.ri h.rk (by decide))
 have htk : (kysM es).take (kk + 1) = (kysM es).take kk ++ [k] := by
  have hlk := (List.getElem?_eq_some_iff.1 he).1
  have hl2 : kk < (kysM es).length := by rw [List.length_map]; exact hlk
  rw [List.take_succ_eq_append_getElem hl2, List.getElem_map]
  rw [List.getElem?_eq_getElem hlk] at he
  injection he with he
  rw [he, hk]
 refine ⟨hb9.put 5 _, World.ownsRow.kept hri9 hput (not_own hri9 hlt), ?_, ?_, hlt⟩
 ·rw [htk, List.map_append]
  exact World.ownsRow.kept ho hput (not_own ho hlt)
 ·exact grown_trans (grown_join (grown_drew (grown_alloc h.gr ob)) hg (.inr fun g hg => own_base h.rk g hg)) hput
theorem MadS.valued {e : E7} {g9 q9 : Nat} {w9 : World} {ob : Obj} (h : MadS es w3 P ki kk AI cI AK cK wr) (he : es[ki]? = some e)
  (ho : w9.ownsRow w3.heap.size 79 6 (.slice (some ⟨g9, 0, none⟩) (ki + 1) q9) (ki + 1) (cellsV ((itsM es).take ki) ((x4M es).take ki) ++ cellV e.1.2 e.2)) (hg : (wr.alloc ob).drew.grownBy w9 (Value.slice AI ki cI).ownBlock) :
  MadS es w3 P (ki + 1) kk (some ⟨g9, 0, none⟩) q9 AK cK (w9.setCell ⟨P, 4, none⟩ (.slice (some ⟨g9, 0, none⟩) (ki + 1) q9)) := by
 have hlt := h.lt
 have hs := h.gr.size
 have hne : some P ≠ (Value.slice AI ki cI).ownBlock := fun e => by have := own_base h.ri P e.symm; omega
 have hb9 := ((h.bl.alloc ob).drew).only hg hne
 have hput := grown_put (grown_refl w9 (some P)) 4 (.slice (some ⟨g9, 0, none⟩) (ki + 1) q9)
 have hrk9 : w9.ownsRow w3.heap.size 9 1 (.slice AK kk cK) kk (((kysM es).take kk).map txV) := World.ownsRow.kept ((h.rk.alloc ob).drew) hg (own_apart h.rk h.ri (by decide))
 have hlk := (List.getElem?_eq_some_iff.1 he).1
 rw [List.getElem?_eq_getElem hlk] at he
 injection he with he
 have htk : cellsV ((itsM es).take (ki + 1)) ((x4M es).take (ki + 1)) = cellsV ((itsM es).take ki) ((x4M es).take ki) ++ cellV e.1.2 e.2 := by
  have hl1 : ki < (itsM es).length := by rw [List.length_map]; exact hlk
  have hl2 : ki < (x4M es).length := by rw [List.length_map]; exact hlk
  rw [List.take_succ_eq_append_getElem hl1, List.take_succ_eq_append_getElem hl2, List.getElem_map, List.getElem_map, he]
  exact cellsV_snoc _ _ _ _ (by rw [List.length_take, List.length_take, List.length_map, List.length_map])
 refine ⟨hb9.put 4 _, ?_, World.ownsRow.kept hrk9 hput (not_own hrk9 hlt), ?_, hlt⟩
 ·rw [htk]
  exact World.ownsRow.kept ho hput (not_own ho hlt)
 ·exact grown_trans (grown_join (grown_drew (grown_alloc h.gr ob)) hg (.inr fun g hg => own_base h.ri g hg)) hput
end
theorem own_cells {S : Nat → Prop} {w : World} {B s n c : Nat} {e : TypeId} {A : Option Addr} {us : List Value} (h : w.ownsRow B e s (.slice A n c) n us) (hS : ∀ k, B ≤ k → S k) : Cells S w A us := by
 have hl := h.1
 rcases h.2 with ⟨hv, h0⟩ | ⟨g, cap, cur, hv, hb, hg, hc, _, hs, ht⟩
 ·left
  subst h0
  simp at hl
  exact hl
 ·injection hv with hA _ h3
  refine .inr ⟨g, 0, hA, hS g hb, fun i u hi => ?_⟩
  rw [cell_of_row w g _ cur _ _ hg, Nat.zero_add]
  have hil : i < n * s := by
   rcases Nat.lt_or_ge i (n * s) with h | h
   ·exact h
   ·rw [List.getElem?_eq_none (by omega)] at hi
    cases hi
  rw [← ht, List.getElem?_take, if_pos hil] at hi
  simpa using hi
theorem MadS.fin {es : List E7} {w w1 w2 w3 wr : World} {P m : Nat} {AI : Option Addr} {cI : Nat} {AK : Option Addr} {cK : Nat} {S S2 : Nat → Prop} {ks : List Tx} {l : List Tr} {A2 : Option Addr} {c2 : Nat} (h : MadS es w3 P m m AI cI AK cK wr)
  (hM : RdM S2 w2 A2 m c2 es) (hf : fsts es = ordM (ks.zip l)) (hS2 : ∀ k, S2 k → S k ∧ k ≠ w.heap.size) (hS : ∀ k, w.heap.size ≤ k → S k) (hA : Below w.heap.size w w1) (h13 : Below w1.heap.size w1 w3) (hP : w2.heap.size = P) (hbe : Below w2.heap.size w2 w3) (hs2 : w1.heap.size ≤ P) (hw1 : w1.heap.size = w.heap.size + 1)
  (hnd : ks.Nodup) (hl : l.length = ks.length) (hB4 : Blk wr w.heap.size 79 zeroV.toArray) (wf : World)
  (hwf : wf = (((((wr.setCell ⟨w.heap.size, 0, none⟩ (.int .i64 6)).setCell ⟨w.heap.size, 1, none⟩ (.bool false)).setCell ⟨w.heap.size, 2, none⟩ (.int .u64 0)).setCell ⟨w.heap.size, 3, none⟩ (.string ⟨#[]⟩)).setCell ⟨w.heap.size, 4, none⟩ (.slice AI m cI)).setCell ⟨w.heap.size, 5, none⟩ (.slice AK m cK)) :
  RdV S wf (mkObj ks l) ((AI, cI), (AK, cK)) ∧ Below w.heap.size w wf ∧ Blk wf w.heap.size 79 #[.int .i64 6, .bool false, .int .u64 0, .string ⟨#[]⟩, .slice AI m cI, .slice AK m cK] ∧ (mkObj ks l).kids.length = m ∧ (mkObj ks l).kn.length = m := by
 have hlen := hM.len
 have hg : wr.grownBy wf (some w.heap.size) := by
  rw [hwf]
  exact grown_put (grown_put (grown_put (grown_put (grown_put (grown_put (grown_refl wr _) 0 _) 1 _) 2 _) 3 _) 4 _) 5 _
 have hbf : Blk wf w.heap.size 79 #[.int .i64 6, .bool false, .int .u64 0, .string ⟨#[]⟩, .slice AI m cI, .slice AK m cK] := by
  rw [hwf]
  exact (((((hB4.put 0 _).put 1 _).put 2 _).put 3 _).put 4 _).put 5 _
 have hs3 := hbe.size
 have hs13 := h13.size
 have hsr := h.gr.size
 have hobj : mkObj ks l = .obj (kysM es) (itsM es) := by
  rw [← ordM_obj ks l hnd hl, ← hf, List.map_map, List.map_map]
  rfl
 have hri := h.ri
 have hrk := h.rk
 rw [List.take_of_length_le (by rw [List.length_map]; omega), List.take_of_length_le (by rw [List.length_map]; omega)] at hri
 rw [List.take_of_length_le (by rw [List.length_map]; omega)] at hrk
 have hb3 : Below w.heap.size w w3 := hA.trans (h13.mono (by omega))
 have hbr : Below w.heap.size w wr := hb3.grown h.gr (by omega) (fun k e => by injection e; omega)
 refine ⟨?_, hbr.grown hg (by omega) (fun k e => by injection e; omega), hbf, by rw [hobj]; simp [Tr.kids]; omega, by rw [hobj]; simp [Tr.kn]; omega⟩
 rw [hobj]
 unfold RdV
 refine ⟨own_cells (hrk.kept hg (not_own hrk (by omega))) fun k hk => hS k (by omega), x4M es, own_cells (hri.kept hg (not_own hri (by omega))) fun k hk => hS k (by omega), (rdvl_iff _ _ _ _).2 ⟨by simp, fun j t x h1 h2 => ?_⟩⟩
 rw [List.getElem?_map] at h1 h2
 cases he : es[j]? with
 | none => rw [he] at h1; cases h1
 | some e =>
  rw [he] at h1 h2
  injection h1 with h1
  injection h2 with h2
  subst h1 h2
  refine RdV.move (fun k hk hs => ⟨(hS2 k hs).1, ?_⟩) _ _ (hM.vals e (List.mem_of_getElem? he))
  exact (hg.block k (by omega) (by intro e; injection e with e; exact (hS2 k hs).2 e)).trans ((h.gr.block k (by omega) (by intro e; injection e with e; omega)).trans (hbe.block k hk))
theorem made_any (S : Nat → Prop) (K : Option Addr) (n d : Nat) (A : Option Addr) (c : Nat) (ks : List Tx) (l : List Tr) (xs : List X4) (w : World) (hS : ∀ k, w.heap.size ≤ k → S k) (hk : RdK w (.slice K n d) ks) (hkn : ks.length = n) (hln : l.length = n)
  (hc : Cells (fun _ => True) w A (cellsV l xs)) (hv : RdVL S w l xs) (hok : KeysOk ks) (hnd : ks.Nodup) (hn : n ≤ 1048576) :
  Calls Tryz.prog 172 #[.slice K n d, .slice A n c] w fun e w' => (∃ A' c' K' d', e = .returned (valV (mkObj ks l) A' c' K' d') ∧ RdV S w' (mkObj ks l) ((A', c'), (K', d'))) ∧ Below w.heap.size w w' := by
 obtain ⟨i0, hi0, hz0, hz1, hz2⟩ := info_parts info_mem
 have hxl : xs.length = l.length := hv.len
 have hbA : Below w.heap.size w (w.alloc (.cells #[.int .i64 0, .bool false, .int .u64 0, .string ⟨#[]⟩, .slice none 0 0, .slice none 0 0] 79)) := (Below.refl _ _).alloc (Nat.le_refl _) _
 have hB4 : Blk (w.alloc (.cells #[.int .i64 0, .bool false, .int .u64 0, .string ⟨#[]⟩, .slice none 0 0, .slice none 0 0] 79)) w.heap.size 79 zeroV.toArray := Blk.new w _ _
 have HK := Lib.hid (hk.below hbA)
 obtain ⟨S2, hS2⟩ : ∃ S2 : Nat → Prop, S2 = fun k => S k ∧ k ≠ w.heap.size := ⟨_, rfl⟩
 have HV := Lib.hid (hv.move (S' := S2) fun j hj hs => ⟨by rw [hS2]; exact ⟨hs, by omega⟩, hbA.block j hj⟩)
 have HS2 : Hid (∀ k, S2 k → S k ∧ k ≠ w.heap.size) := Lib.hid fun k h => by rw [hS2] at h; exact h
 clear hS2
 have HCL := Lib.hid (hc.move (S' := fun _ => True) fun j hj hs => ⟨trivial, hbA.block j hj⟩)
 have HOK := Lib.hid (And.intro hok hnd)
 have HL := Lib.hid (And.intro hkn (And.intro hln hxl))
 clear hk hc hv hok hnd hkn hln hxl
 go_enter Tryz.func172, Tryz.ntmps172
 go_upto_region 3 with fail
 obtain ⟨w1, hw1⟩ : ∃ w1, w1 = w.alloc (.cells #[.int .i64 0, .bool false, .int .u64 0, .string ⟨#[]⟩, .slice none 0 0, .slice none 0 0] 79) := ⟨_, rfl⟩
 have hw1s : w1.heap.size = w.heap.size + 1 := by rw [hw1]; simp
 rw [← hw1] at HK HV HCL hbA hB4 ⊢
 have HBA := Lib.hid hbA
 have HB4 := Lib.hid hB4
 clear hw1 hbA hB4
 go_loopw [5, 6] (fun c5 c6 wr => ∃ k : Nat, k ≤ n ∧ c6 = .int .i64 k ∧ Hid (wr.ownsRow w1.heap.size 357 7 c5 k (cells7 ((esOf ks l xs).take k)) ∧ Below w1.heap.size w1 wr)) (fun _ c6 _ => n - (intOf c6).toNat)
 case atStart => exact ⟨0, Nat.zero_le _, rfl, Lib.hid ⟨World.ownsRow_nil _ _ _ _, Below.refl _ _⟩⟩
 case round =>
  obtain ⟨k, hk, rfl, HI⟩ := hrel
  obtain ⟨hkn, hln, hxl⟩ := HL.out
  have hws := HI.out.2.size
  by_cases hlt : k < n
  ·have hk1 : k < ks.length := by omega
   have hl1 : k < l.length := by omega
   obtain ⟨gk, ok, rfl, hkc⟩ := rdk_some HK.out hkn (by omega)
   have hkc1 := hkc k _ (List.getElem?_eq_getElem hk1)
   obtain ⟨g, o, x, rfl, _, hxk, hcv, hrv⟩ := cells_at HCL.out (HV.out.move (S' := fun _ => True) fun j hj hs => ⟨trivial, rfl⟩) hl1
   have hes := esOf_at (l := l) (xs := xs) hk1 (by omega) hxl
   rw [List.getElem?_eq_getElem (by omega)] at hxk
   injection hxk with hxk
   rw [hxk] at hes
   have hsn := cells7_take1 _ _ _ hes
   obtain ⟨⟨Ax, qx⟩, Kx, dx⟩ := x
   have HSN := Lib.hid hsn
   have kc : wr.cell? ⟨gk, ok + k, none⟩ = some (.string ⟨ks[k].toArray⟩) := ((old HI.out.2).1 _ _ (World.block_lt_of_cell? _ _ hkc1)).trans hkc1
   obtain ⟨e0, e1, e2, e3, e4, e5⟩ := hcv.below HI.out.2
   simp only at e4 e5
   clear hes hsn hxk hrv hcv hkc1 hkc
   generalize ks[k] = kt at *
   generalize l[k] = t at *
   obtain ⟨A5, q5, rfl⟩ := own_slice HI.out.1
   have HO := Lib.hid HI.out.1
   clear hk1 hl1 hkn hln hxl
   go_upto_region 5 with fail
   go_region_law ((refine step_append_lies _ (by rfl) _ _ _ (by rfl) w1.heap.size 357 i0 _ 7 104 Tryz.underlying355 hi0 hz0 hz1 hz2 (by rfl) (by omega) _ k (cells7 ((esOf ks l xs).take k)) (by rfl) (HO.out.alloc _).drew ⟨wr.heap.size, 0, none⟩ 1 1 (cell7 ((kt, t), ((Ax, qx), (Kx, dx)))) (by rfl) (by rfl) (row_new _ _ _) (cell7_one _) (by omega) (by unfold maxLen; omega) (by omega) (by simp; omega) (wr.heap.size + 1) (by simp) ?_; intro g9 q9 w9 hown9 hgr9 hat9 hlt9))
   all_goals
    have HN : Hid (w9.ownsRow w1.heap.size 357 7 (.slice (some ⟨g9, 0, none⟩) (k + 1) q9) (k + 1) (cells7 ((esOf ks l xs).take (k + 1))) ∧ Below w1.heap.size w1 w9) := Lib.hid ⟨by rw [HSN.out]; exact hown9, ((HI.out.2.alloc hws _).drew).grown hgr9 (by simp; omega) (fun g hg => own_base HO.out g hg)⟩
    clear hown9 hgr9 hat9 hlt9 e0 e1 e2 e3 e4 e5 kc
    go_wp2
    go_roundw
    case rel => exact ⟨k + 1, by omega, by go_num, HN⟩
    case measure => simp [intOf]; omega
  ·obtain rfl : k = n := by omega
   have hel : (esOf ks l xs).length = k := by rw [esOf_len (by omega) hxl]; exact hkn
   have hrow := HI.out.1
   rw [List.take_of_length_le (by omega)] at hrow
   obtain ⟨A5, q5, rfl⟩ := own_slice hrow
   obtain ⟨r1, r2, r3⟩ := own_cells7 hrow
   have hfst := esOf_fst (ks := ks) (l := l) (xs := xs) (by omega) hxl
   have hM : RdM S2 wr A5 k q5 (esOf ks l xs) := ⟨r1, r2, r3, fun e he => by
    obtain ⟨j, hj, rfl⟩ := List.getElem_of_mem he
    have hjk : j < ks.length := by omega
    have h1 := esOf_at (l := l) (xs := xs) hjk (by omega) hxl
    rw [List.getElem?_eq_getElem hj] at h1
    injection h1 with h1
    rw [h1]
    exact RdV.move (fun i hi hs => ⟨hs, HI.out.2.block i hi⟩) _ _ (HV.out.at (List.getElem?_eq_getElem (by omega)) (List.getElem?_eq_getElem (by omega)))⟩
   have hok' : ∀ m ∈ fsts (esOf ks l xs), rightB m.1 = true ∧ m.1.length ≤ 1099511627776 := fun m hm => by
    rw [hfst] at hm
    exact HOK.out.1 m.1 (by rw [← zip_fst ks l (by omega)]; exact List.mem_map.2 ⟨m, hm, rfl⟩)
   have hnd' : ((fsts (esOf ks l xs)).map (·.1)).Nodup := by
    rw [hfst, zip_fst ks l (by omega)]
    exact HOK.out.2
   have HC := Lib.hid (ordered_any S2 k A5 q5 _ wr hM hok' hnd' hn)
   have HFS := Lib.hid hfst
   clear hrow r1 r2 r3 hM hok' hnd' hfst hel hkn hln hxl
   go_wp2_with fail
   refine HC.out.mono ?_
   rintro e w2 ⟨⟨A2, c2, es, rfl, hM2, hf2⟩, hb2⟩
   rw [HFS.out] at hf2
   have hb12 := HI.out.2.trans (hb2.mono hws)
   have hs2 := hb12.size
   have HM2 := Lib.hid hM2
   have HF2 := Lib.hid hf2
   have HB12 := Lib.hid hb12
   clear hb2 hM2 hf2 hb12 HC HI
   go_wp2_with fail
   have hB7 := Blk.new w2 79 #[.int .i64 6, .bool false, .int .u64 0, .string ⟨#[]⟩, .slice none 0 0, .slice none 0 0]
   have hbe : Below w2.heap.size w2 (w2.alloc (.cells #[.int .i64 6, .bool false, .int .u64 0, .string ⟨#[]⟩, .slice none 0 0, .slice none 0 0] 79)) := (Below.refl _ _).alloc (Nat.le_refl _) _
   have hse : (w2.alloc (.cells #[.int .i64 6, .bool false, .int .u64 0, .string ⟨#[]⟩, .slice none 0 0, .slice none 0 0] 79)).heap.size = w2.heap.size + 1 := by simp
   generalize w2.alloc (.cells #[.int .i64 6, .bool false, .int .u64 0, .string ⟨#[]⟩, .slice none 0 0, .slice none 0 0] 79) = w3 at *
   have HM3 := Lib.hid (HM2.out.below hbe)
   have HB13 := Lib.hid (HB12.out.trans (hbe.mono hs2))
   obtain ⟨P, hP⟩ : ∃ P, w2.heap.size = P := ⟨_, rfl⟩
   rw [hP] at hB7 hse hs2 ⊢
   have HS0 : Hid (MadS es w3 P 0 0 none 0 none 0 w3) := Lib.hid ⟨hB7, World.ownsRow_nil _ _ _ _, World.ownsRow_nil _ _ _ _, grown_refl _ _, by omega⟩
   have HLT2 : Hid (∀ g, g < w2.heap.size → g ≠ P) := Lib.hid fun g hg e => by omega
   have HBE := Lib.hid hbe
   clear hB7 hbe HB12
   obtain ⟨j0, hj0, hy0, hy1, hy2⟩ := info_parts info_txt
   obtain ⟨v0, hv0, hx0, hx1, hx2⟩ := info_parts info_val
   go_loopw [8] (fun c8 wx => ∃ (m : Nat) (AI : Option Addr) (cI : Nat) (AK : Option Addr) (cK : Nat), m ≤ k ∧ c8 = .int .i64 m ∧ Hid (MadS es w3 P m m AI cI AK cK wx)) (fun c8 _ => k - (intOf c8).toNat)
   case atStart => exact ⟨0, none, 0, none, 0, Nat.zero_le _, rfl, HS0⟩
   case round =>
    obtain ⟨m, AI, cI, AK, cK, hm, rfl, HS⟩ := hrel
    by_cases hlt2 : m < k
    ·have hme : m < es.length := by rw [HM3.out.len]; exact hlt2
     obtain ⟨g, o, rfl, hcc⟩ := cells7_some HM2.out.cells (by omega)
     obtain ⟨e, he⟩ : ∃ e, es[m]? = some e := ⟨_, List.getElem?_eq_getElem hme⟩
     obtain ⟨⟨kt, t⟩, ⟨Ax, qx⟩, Kx, dx⟩ := e
     have hc7 := cells7_cell hcc he
     have hglt : g < w2.heap.size := World.block_lt_of_cell? _ _ hc7.c0
     have hne := HLT2.out g hglt
     have HE := Lib.hid he
     clear he hcc
     have C7 : Hid (Cell7At w3 g (o + m * 7) kt t Ax qx Kx dx) := Lib.hid (hc7.below HBE.out)
     have hg3 : g < w3.heap.size := by omega
     clear hc7
     go_upto_region 11 with fail
     go_cut [] (fun wx => ∃ (AK' : Option Addr) (cK' : Nat), Hid (MadS es w3 P m (m + 1) AI cI AK' cK' wx))
     case first =>
      obtain ⟨k0, _, _, _, _, _, _⟩ := C7.out.move (HS.out.gr.block g hg3 (by intro e; injection e with e; exact hne e))
      have HB3 := Lib.hid (HS.out.bl.alloc (.cells #[.string ⟨kt.toArray⟩] 9))
      have hgp : some P ≠ (Value.slice AK m cK).ownBlock := fun e => by have := own_base HS.out.rk P e.symm; omega
      have p0 : wr.cell? ⟨P, 5, none⟩ = some (.slice AK m cK) := HS.out.bl.cell 5
      have ha1 : (wr.alloc (.cells #[.string ⟨kt.toArray⟩] 9)).drew.cell? ⟨P, 5, none⟩ = some (.slice AK m cK) := HB3.out.drew.cell 5
      have hf1 := HB3.out.drew.frozen 5
      have hgs := HS.out.gr.size
      go_region_law ((refine step_append_lies _ (by rfl) _ _ _ (by rfl) w3.heap.size 9 j0 _ 1 16 Tryz.underlying77 hj0 hy0 hy1 hy2 (by rfl) (by omega) _ m (((kysM es).take m).map txV) (by rfl) (HS.out.rk.alloc _).drew ⟨wr.heap.size, 0, none⟩ 1 1 [.string ⟨kt.toArray⟩] (by rfl) (by rfl) (one_new _ _ _) (one_cell _ rfl) (by omega) (by unfold maxLen; omega) (by omega) (by simp; omega) (wr.heap.size + 1) (by simp) ?_; intro g9 q9 w9 hown9 hgr9 hat9 hlt9; have hq1 : w9.cell? ⟨P, 5, none⟩ = some (.slice AK m cK) := (HB3.out.drew.only hgr9 hgp).cell 5; have hq2 := (HB3.out.drew.only hgr9 hgp).frozen 5))
      all_goals
       go_wp2_with fail
       go_meet
       exact ⟨_, _, Lib.hid (HS.out.keyed HE.out rfl hown9 hgr9)⟩
     case rest =>
      obtain ⟨AK', cK', HS'⟩ := hcut
      clear HS
      have HS := HS'
      clear HS'
      have hx := HS.out.gr.size
      obtain ⟨_, k1, k2, k3, k4, k5, k6⟩ := C7.out.move (HS.out.gr.block g hg3 (by intro e; injection e with e; exact hne e))
      have HB3 := Lib.hid (HS.out.bl.alloc (.cells #[.int .i64 (t.srt : Nat), .bool t.fl, .int .u64 (t.bi : Nat), .string ⟨t.tx.toArray⟩, .slice Ax t.kids.length qx, .slice Kx t.kn.length dx] 79))
      have hgp : some P ≠ (Value.slice AI m cI).ownBlock := fun e => by have := own_base HS.out.ri P e.symm; omega
      have p0 : wc.cell? ⟨P, 4, none⟩ = some (.slice AI m cI) := HS.out.bl.cell 4
      have ha1 : (wc.alloc (.cells #[.int .i64 (t.srt : Nat), .bool t.fl, .int .u64 (t.bi : Nat), .string ⟨t.tx.toArray⟩, .slice Ax t.kids.length qx, .slice Kx t.kn.length dx] 79)).drew.cell? ⟨P, 4, none⟩ = some (.slice AI m cI) := HB3.out.drew.cell 4
      have hf1 := HB3.out.drew.frozen 4
      go_upto_region 12 with fail
      go_region_law ((refine step_append_lies _ (by rfl) _ _ _ (by rfl) w3.heap.size 79 v0 _ 6 88 Tryz.underlying76 hv0 hx0 hx1 hx2 (by rfl) (by omega) _ m (cellsV ((itsM es).take m) ((x4M es).take m)) (by rfl) (HS.out.ri.alloc _).drew ⟨wc.heap.size, 0, none⟩ 1 1 (cellV t ((Ax, qx), (Kx, dx))) (by rfl) (by rfl) (row_new _ _ _) (cellV_one _ _) (by omega) (by unfold maxLen; omega) (by omega) (by simp; omega) (wc.heap.size + 1) (by simp) ?_; intro g9 q9 w9 hown9 hgr9 hat9 hlt9; have hq1 : w9.cell? ⟨P, 4, none⟩ = some (.slice AI m cI) := (HB3.out.drew.only hgr9 hgp).cell 4; have hq2 := (HB3.out.drew.only hgr9 hgp).frozen 4))
      all_goals
       have HN := Lib.hid (HS.out.valued HE.out hown9 hgr9)
       clear hown9 hgr9 hat9 hlt9 hq1 hq2
       go_wp2
       go_roundw
       case rel => exact ⟨m + 1, _, _, _, _, by omega, by go_num, HN⟩
       case measure => simp [intOf]; omega
    ·obtain rfl : m = k := by omega
     have hB4 : Blk wr w.heap.size 79 zeroV.toArray := (HS.out.gr.block _ (by omega) (by intro e; injection e with e; omega)).trans (HB4.out.below HB13.out (by omega))
     have hBP := HS.out.bl
     have HBX := Lib.hid hB4
     have hPne : P ≠ w.heap.size := by omega
     have p0 : wr.cell? ⟨P, 0, none⟩ = some (.int .i64 6) := hBP.cell 0
     have p1 : wr.cell? ⟨P, 1, none⟩ = some (.bool false) := hBP.cell 1
     have p2 : wr.cell? ⟨P, 2, none⟩ = some (.int .u64 0) := hBP.cell 2
     have p3 : wr.cell? ⟨P, 3, none⟩ = some (.string ⟨#[]⟩) := hBP.cell 3
     have p4 : wr.cell? ⟨P, 4, none⟩ = some (.slice AI m cI) := hBP.cell 4
     have p5 : wr.cell? ⟨P, 5, none⟩ = some (.slice AK m cK) := hBP.cell 5
     have b0 : wr.cell? ⟨w.heap.size, 0, none⟩ = some (.int .i64 0) := hB4.cell 0
     have b1 : wr.cell? ⟨w.heap.size, 1, none⟩ = some (.bool false) := hB4.cell 1
     have b2 : wr.cell? ⟨w.heap.size, 2, none⟩ = some (.int .u64 0) := hB4.cell 2
     have b3 : wr.cell? ⟨w.heap.size, 3, none⟩ = some (.string ⟨#[]⟩) := hB4.cell 3
     have b4 : wr.cell? ⟨w.heap.size, 4, none⟩ = some (.slice none 0 0) := hB4.cell 4
     have b5 : wr.cell? ⟨w.heap.size, 5, none⟩ = some (.slice none 0 0) := hB4.cell 5
     have f0 := hB4.frozen 0
     have f1 := hB4.frozen 1
     have f2 := hB4.frozen 2
     have f3 := hB4.frozen 3
     have f4 := hB4.frozen 4
     have f5 := hB4.frozen 5
     clear hBP hB4
     go_wp2
     obtain ⟨hkn, hln, hxl⟩ := HL.out
     obtain ⟨wf, hwf⟩ : ∃ wf, wf = (((((wr.setCell ⟨w.heap.size, 0, none⟩ (.int .i64 6)).setCell ⟨w.heap.size, 1, none⟩ (.bool false)).setCell ⟨w.heap.size, 2, none⟩ (.int .u64 0)).setCell ⟨w.heap.size, 3, none⟩ (.string ⟨#[]⟩)).setCell ⟨w.heap.size, 4, none⟩ (.slice AI m cI)).setCell ⟨w.heap.size, 5, none⟩ (.slice AK m cK) := ⟨_, rfl⟩
     rw [← hwf]
     obtain ⟨q1, q2, q3, q4, q5⟩ := HS.out.fin HM2.out HF2.out HS2.out hS HBA.out HB13.out hP HBE.out hs2 hw1s HOK.out.2 (by omega) HBX.out wf hwf
     clear hwf p0 p1 p2 p3 p4 p5 b0 b1 b2 b3 b4 b5 f0 f1 f2 f3 f4 f5
     have c0 : wf.cell? ⟨w.heap.size, 0, none⟩ = some (.int .i64 6) := q3.cell 0
     have c1 : wf.cell? ⟨w.heap.size, 1, none⟩ = some (.bool false) := q3.cell 1
     have c2 : wf.cell? ⟨w.heap.size, 2, none⟩ = some (.int .u64 0) := q3.cell 2
     have c3 : wf.cell? ⟨w.heap.size, 3, none⟩ = some (.string ⟨#[]⟩) := q3.cell 3
     have c4 : wf.cell? ⟨w.heap.size, 4, none⟩ = some (.slice AI m cI) := q3.cell 4
     have c5 : wf.cell? ⟨w.heap.size, 5, none⟩ = some (.slice AK m cK) := q3.cell 5
     have hval : valV (mkObj ks l) AI cI AK cK = .agg #[.int .i64 6, .bool false, .int .u64 0, .string ⟨#[]⟩, .slice AI m cI, .slice AK m cK] := by
      unfold valV
      rw [q4, q5]
      rfl
     refine bodyPost_ret (v := .agg #[.int .i64 6, .bool false, .int .u64 0, .string ⟨#[]⟩, .slice AI m cI, .slice AK m cK]) ?_ rfl ⟨⟨AI, cI, AK, cK, by rw [hval], q1⟩, q2⟩
     simp [results, Tryz.results172, go_sem, c0, c1, c2, c3, c4, c5]
end Nd
end Go.Proofs.YtbajkglacfheiaaGreatDoor
namespace Go.Proofs.YtbajkglacfheiaaGreatDoor
open Go.RowKit Mem Ref3
namespace Nd
def VRow (B : Nat) (l : List Tr) (v : Value) (w : World) : Prop := ∃ xs : List X4, w.ownsRow B 79 6 v l.length (cellsV l xs) ∧ RdVL (fun k => B ≤ k ∧ some k ≠ v.ownBlock) w l xs
theorem VRow.below {B : Nat} {l : List Tr} {v : Value} {w w' : World} (h : VRow B l v w) (hb : Below w.heap.size w w') : VRow B l v w' := by
 obtain ⟨xs, h1, h2⟩ := h
 exact ⟨xs, own_below h1 hb, h2.move fun k hk hs => ⟨hs, hb.block k hk⟩⟩
theorem vrow_nil (B : Nat) (w : World) : VRow B [] (.slice none 0 0) w := ⟨[], World.ownsRow_nil _ _ _ _, by unfold RdVL; rfl⟩
theorem own_prefix {w : World} {B s n c m : Nat} {e : TypeId} {g : Nat} {us : List Value} (h : w.ownsRow B e s (.slice (some ⟨g, 0, none⟩) n c) n us) (hm : m ≤ n) : w.ownsRow B e s (.slice (some ⟨g, 0, none⟩) m c) m (us.take (m * s)) := by
 have hl := h.1
 rcases h.2 with ⟨hv, _⟩ | ⟨g', cap, cur, hv, hb, hg, h1, h2, h3, h4⟩
 ·cases hv
 ·injection hv with hA _ hc
  injection hA with hA
  injection hA with e1 _ _
  subst e1 hc
  have hle : m * s ≤ n * s := Nat.mul_le_mul_right s hm
  refine ⟨by rw [List.length_take]; omega, .inr ⟨g, c, cur, rfl, hb, hg, by omega, h2, h3, ?_⟩⟩
  rw [← h4, List.take_take, Nat.min_eq_left hle]
theorem vrow_put {B m N cap g9 q9 : Nat} {l : List Tr} {xs : List X4} {t : Tr} {x : X4} {w w9 : World} {ob : Obj} {A : Option Addr} (hl : xs.length = l.length) (hr : RdVL (fun k => B ≤ k ∧ some k ≠ (Value.slice A N cap).ownBlock) w l xs) (hx : RdV (fun k => B ≤ k ∧ some k ≠ (Value.slice A N cap).ownBlock) w t x) (hm : m ≤ l.length)
  (ho : w9.ownsRow B 79 6 (.slice (some ⟨g9, 0, none⟩) (m + 1) q9) (m + 1) ((cellsV l xs).take (m * 6) ++ cellV t x)) (hg : (w.alloc ob).drew.grownBy w9 (Value.slice A N cap).ownBlock) (hat : (Value.slice A N cap).ownBlock = some g9 ∨ g9 = w.heap.size + 1) :
  VRow B (l.take m ++ [t]) (.slice (some ⟨g9, 0, none⟩) (m + 1) q9) w9 := by
 have hmv : ∀ k, k < w.heap.size → (B ≤ k ∧ some k ≠ (Value.slice A N cap).ownBlock) → (B ≤ k ∧ some k ≠ (Value.slice (some ⟨g9, 0, none⟩) (m + 1) q9).ownBlock) ∧ w9.heap[k]? = w.heap[k]? := fun k hk hsB => by
  have hs := hsB.2
  refine ⟨⟨hsB.1, fun e => ?_⟩, (hg.block k (by simp; omega) hs).trans (Below.heap_alloc w ob k hk)⟩
  simp only [Value.ownBlock, Option.some.injEq] at e
  rcases hat with h | h
  ·exact hs (by rw [h, e])
  ·omega
 refine ⟨xs.take m ++ [x], ?_, ((hr.take m).move hmv).snoc (RdV.move hmv _ _ hx)⟩
 rw [cellsV_snoc _ _ _ _ (by simp [hl]), cellsV_take m l xs hl, List.length_append, List.length_take, Nat.min_eq_left hm]
 exact ho
theorem results_two {fn : Func} {t u : Tmp} (h : fn.results = #[.tmp t, .tmp u]) (tmps : Array Value) (P : Program) (w : World) :
  (results fn tmps).run P w = .ok (.tuple #[tmps.getD t undef, tmps.getD u undef]) w := by simp [results, h]
noncomputable def doT12 : Code := nextOf (nextOf (nextOf (nextOf (nextOf (nextOf (nextOf (nextOf (nextOf (nextOf (nextOf (nextOf (Tryz.f142.body.getD .skip))))))))))))
theorem do_t12_some (Q : Ending → World → Prop) (B N n m : Nat) (l : List Tr) (t : Tr) (A : Option Addr) (c : Nat) (K : Option Addr) (d P : Nat) (w0 wr : World) (hN : l.length = N) (hnm : N = n + m) (hll : N ≤ 65536) (hB : Below B w0 wr) (hBs : B ≤ w0.heap.size)
  (hP : Blk wr P 79 (cellV t ((A, c), (K, d))).toArray) (hkf : t.Kf) (hn : t.nodes ≤ 1099511627776) (hb : t.bytes ≤ 4398046511104) (g cap : Nat) (hmc : m ≤ cap) (hrow : VRow B l (.slice (some ⟨g, 0, none⟩) N cap) wr) (hx : RdV (fun k => B ≤ k ∧ some k ≠ (.slice (some ⟨g, 0, none⟩) N cap : Value).ownBlock) wr t ((A, c), (K, d)))
  (h3 : t.fit = false → ∀ w', VRow B l (.slice (some ⟨g, 0, none⟩) N cap) w' → Below B w0 w' → Q (.returned (.tuple #[(.slice (some ⟨g, 0, none⟩) N cap), .int .i64 3])) w') (h0 : t.fit = true → ∀ v' w', VRow B (l.take m ++ [t]) v' w' → Below B w0 w' → Q (.returned (.tuple #[v', .int .i64 0])) w') (z1 z2 z3 z4 z5 z8 z9 z10 z11 z12 z13 z14 z15 z16 z17 z18 z19 z20 z21 z22 z23 z24 z25 z26 z27 z28 z29 z30 z31 z32 z33 z34 z35 z36 z37 z38 z39 z40 z41 z42 z43 z44 z45 z46 z47 z48 z49 z50 z51 z52 z53 z54 z55 z56 z57 z58 z59 z60 z61 z62 z63 z64 z65 z66 z67 z68 z69 z70 z71 z72 z73 z74 z75 z76 z77 z78 z79 z80 z81 z82 z83 z84 z85 z86 z87 z88 z89 z90 z91 z92 z93 z94 : Value) :
  Code.wp Tryz.prog doT12 (bodyPost Tryz.prog Tryz.f142 Q) { tmps := (.slice (some ⟨g, 0, none⟩) N cap :: z1 :: z2 :: z3 :: z4 :: z5 :: .int .i64 n :: .pointer (some ⟨P, 0, none⟩) :: z8 :: z9 :: z10 :: z11 :: z12 :: z13 :: z14 :: z15 :: z16 :: z17 :: z18 :: z19 :: z20 :: z21 :: z22 :: z23 :: z24 :: z25 :: z26 :: z27 :: z28 :: z29 :: z30 :: z31 :: z32 :: z33 :: z34 :: z35 :: z36 :: z37 :: z38 :: z39 :: z40 :: z41 :: z42 :: z43 :: z44 :: z45 :: z46 :: z47 :: z48 :: z49 :: z50 :: z51 :: z52 :: z53 :: z54 :: z55 :: z56 :: z57 :: z58 :: z59 :: z60 :: z61 :: z62 :: z63 :: z64 :: z65 :: z66 :: z67 :: z68 :: z69 :: z70 :: z71 :: z72 :: z73 :: z74 :: z75 :: z76 :: z77 :: z78 :: z79 :: z80 :: z81 :: z82 :: z83 :: z84 :: z85 :: z86 :: z87 :: z88 :: z89 :: z90 :: z91 :: z92 :: z93 :: z94 :: []).toArray, defers := [] } wr := by
 have HR := Lib.hid hrow
 obtain ⟨xs, hown, hrl⟩ := hrow
 have hxl := hrl.len
 rw [hN] at hown
 have HX := Lib.hid hx
 have hPB := Lib.hid hP
 have hd0 : (N : Int) - (n : Int) = (m : Int) := by omega
 have hsub : IntKind.i64.wrap (m : Int) = (m : Int) := IntWalk.i64_in _ (by omega)
 have hmN : m ≤ N := by omega
 clear hnm
 obtain ⟨v0, hv0, hx0, hx1, hx2⟩ := info_parts info_val
 have p0 : wr.cell? ⟨P, 0, none⟩ = some (.int .i64 (t.srt : Nat)) := hP.cell 0
 have p1 : wr.cell? ⟨P, 1, none⟩ = some (.bool t.fl) := hP.cell 1
 have p2 : wr.cell? ⟨P, 2, none⟩ = some (.int .u64 (t.bi : Nat)) := hP.cell 2
 have p3 : wr.cell? ⟨P, 3, none⟩ = some (.string ⟨t.tx.toArray⟩) := hP.cell 3
 have p4 : wr.cell? ⟨P, 4, none⟩ = some (.slice A t.kids.length c) := hP.cell 4
 have p5 : wr.cell? ⟨P, 5, none⟩ = some (.slice K t.kn.length d) := hP.cell 5
 have HW := Lib.hid (within_any t hkf hn hb A c K d wr hx.toA)
 have HQ3 := Lib.hid h3
 have HQ0 := Lib.hid h0
 have HBW := Lib.hid hB
 have hs0 := hB.size
 clear h3 h0 hB hP hx hkf hn hb
 conv => arg 2; whnf
 go_wp2_with fail
 refine HW.out.mono ?_
 rintro e w2 ⟨rfl, hb2⟩
 have HB2 := Lib.hid hb2
 have hs2 := hb2.size
 have hold := old hb2
 have hPlt := hPB.out.lt
 replace p0 := (hold.1 P 0 hPlt).trans p0
 replace p1 := (hold.1 P 1 hPlt).trans p1
 replace p2 := (hold.1 P 2 hPlt).trans p2
 replace p3 := (hold.1 P 3 hPlt).trans p3
 replace p4 := (hold.1 P 4 hPlt).trans p4
 replace p5 := (hold.1 P 5 hPlt).trans p5
 clear hb2 hold HW
 cases hf : t.fit with
 | false =>
  have HF := Lib.hid hf
  clear hf
  go_wp2
  exact HQ3.out HF.out _ (HR.out.below HB2.out) (HBW.out.trans (HB2.out.mono (by omega)))
 | true =>
  have HF := Lib.hid hf
  clear hf
  go_wp2_with fail
  go_region_law ((refine step_append_lies _ (by rfl) _ _ _ (by rfl) B 79 v0 _ 6 88 Tryz.underlying76 hv0 hx0 hx1 hx2 (by rfl) (by omega) _ m ((cellsV l xs).take (m * 6)) (by rfl) (((own_prefix (own_below hown HB2.out) (by omega)).alloc _).drew) ⟨w2.heap.size, 0, none⟩ 1 1 (cellV t ((A, c), (K, d))) (by rfl) (by rfl) (row_new _ _ _) (cellV_one _ _) (by omega) (by unfold maxLen; omega) (by omega) (by simp; omega) (w2.heap.size + 1) (by simp) ?_; intro g9 q9 w9 hown9 hgr9 hat9 hlt9))
  all_goals
   have HV : Hid (VRow B (l.take m ++ [t]) (.slice (some ⟨g9, 0, none⟩) (m + 1) q9) w9) := Lib.hid (vrow_put hxl (hrl.move fun k hk hs => ⟨hs, HB2.out.block k hk⟩) (RdV.move (fun k hk hs => ⟨hs, HB2.out.block k hk⟩) _ _ HX.out) (by omega) hown9 hgr9 hat9)
   have HBF : Hid (Below B w0 w9) := Lib.hid (((HBW.out.trans (HB2.out.mono (by omega))).alloc (by omega) _).drew.grown hgr9 (by simp; omega) (fun k e => own_base hown k e))
   clear hown9 hgr9 hat9 hlt9
   go_wp2
   refine bodyPost_ret (results_two (t := 4) (u := 5) rfl _ _ _) rfl ?_
   exact HQ0.out HF.out _ _ HV.out HBF.out
theorem do_t12_nil (Q : Ending → World → Prop) (B : Nat) (l : List Tr) (t : Tr) (A : Option Addr) (c : Nat) (K : Option Addr) (d P : Nat) (w0 wr : World) (hN : l.length = 0) (hB : Below B w0 wr) (hBs : B ≤ w0.heap.size)
  (hP : Blk wr P 79 (cellV t ((A, c), (K, d))).toArray) (hkf : t.Kf) (hn : t.nodes ≤ 1099511627776) (hb : t.bytes ≤ 4398046511104)  (hrow : VRow B l (.slice none 0 0) wr) (hx : RdV (fun k => B ≤ k ∧ some k ≠ (.slice none 0 0 : Value).ownBlock) wr t ((A, c), (K, d)))
  (h3 : t.fit = false → ∀ w', VRow B l (.slice none 0 0) w' → Below B w0 w' → Q (.returned (.tuple #[(.slice none 0 0), .int .i64 3])) w') (h0 : t.fit = true → ∀ v' w', VRow B (l.take 0 ++ [t]) v' w' → Below B w0 w' → Q (.returned (.tuple #[v', .int .i64 0])) w') (z1 z2 z3 z4 z5 z8 z9 z10 z11 z12 z13 z14 z15 z16 z17 z18 z19 z20 z21 z22 z23 z24 z25 z26 z27 z28 z29 z30 z31 z32 z33 z34 z35 z36 z37 z38 z39 z40 z41 z42 z43 z44 z45 z46 z47 z48 z49 z50 z51 z52 z53 z54 z55 z56 z57 z58 z59 z60 z61 z62 z63 z64 z65 z66 z67 z68 z69 z70 z71 z72 z73 z74 z75 z76 z77 z78 z79 z80 z81 z82 z83 z84 z85 z86 z87 z88 z89 z90 z91 z92 z93 z94 : Value) :
  Code.wp Tryz.prog doT12 (bodyPost Tryz.prog Tryz.f142 Q) { tmps := (.slice none 0 0 :: z1 :: z2 :: z3 :: z4 :: z5 :: .int .i64 0 :: .pointer (some ⟨P, 0, none⟩) :: z8 :: z9 :: z10 :: z11 :: z12 :: z13 :: z14 :: z15 :: z16 :: z17 :: z18 :: z19 :: z20 :: z21 :: z22 :: z23 :: z24 :: z25 :: z26 :: z27 :: z28 :: z29 :: z30 :: z31 :: z32 :: z33 :: z34 :: z35 :: z36 :: z37 :: z38 :: z39 :: z40 :: z41 :: z42 :: z43 :: z44 :: z45 :: z46 :: z47 :: z48 :: z49 :: z50 :: z51 :: z52 :: z53 :: z54 :: z55 :: z56 :: z57 :: z58 :: z59 :: z60 :: z61 :: z62 :: z63 :: z64 :: z65 :: z66 :: z67 :: z68 :: z69 :: z70 :: z71 :: z72 :: z73 :: z74 :: z75 :: z76 :: z77 :: z78 :: z79 :: z80 :: z81 :: z82 :: z83 :: z84 :: z85 :: z86 :: z87 :: z88 :: z89 :: z90 :: z91 :: z92 :: z93 :: z94 :: []).toArray, defers := [] } wr := by
 have HR := Lib.hid hrow
 obtain ⟨xs, hown, hrl⟩ := hrow
 have hxl := hrl.len
 rw [hN] at hown
 have HX := Lib.hid hx
 have hPB := Lib.hid hP
 have hw0 : IntKind.i64.wrap 0 = 0 := by decide
 obtain ⟨v0, hv0, hx0, hx1, hx2⟩ := info_parts info_val
 have p0 : wr.cell? ⟨P, 0, none⟩ = some (.int .i64 (t.srt : Nat)) := hP.cell 0
 have p1 : wr.cell? ⟨P, 1, none⟩ = some (.bool t.fl) := hP.cell 1
 have p2 : wr.cell? ⟨P, 2, none⟩ = some (.int .u64 (t.bi : Nat)) := hP.cell 2
 have p3 : wr.cell? ⟨P, 3, none⟩ = some (.string ⟨t.tx.toArray⟩) := hP.cell 3
 have p4 : wr.cell? ⟨P, 4, none⟩ = some (.slice A t.kids.length c) := hP.cell 4
 have p5 : wr.cell? ⟨P, 5, none⟩ = some (.slice K t.kn.length d) := hP.cell 5
 have HW := Lib.hid (within_any t hkf hn hb A c K d wr hx.toA)
 have HQ3 := Lib.hid h3
 have HQ0 := Lib.hid h0
 have HBW := Lib.hid hB
 have hs0 := hB.size
 clear h3 h0 hB hP hx hkf hn hb
 conv => arg 2; whnf
 go_wp2_with fail
 refine HW.out.mono ?_
 rintro e w2 ⟨rfl, hb2⟩
 have HB2 := Lib.hid hb2
 have hs2 := hb2.size
 have hold := old hb2
 have hPlt := hPB.out.lt
 replace p0 := (hold.1 P 0 hPlt).trans p0
 replace p1 := (hold.1 P 1 hPlt).trans p1
 replace p2 := (hold.1 P 2 hPlt).trans p2
 replace p3 := (hold.1 P 3 hPlt).trans p3
 replace p4 := (hold.1 P 4 hPlt).trans p4
 replace p5 := (hold.1 P 5 hPlt).trans p5
 clear hb2 hold HW
 cases hf : t.fit with
 | false =>
  have HF := Lib.hid hf
  clear hf
  go_wp2
  exact HQ3.out HF.out _ (HR.out.below HB2.out) (HBW.out.trans (HB2.out.mono (by omega)))
 | true =>
  have HF := Lib.hid hf
  clear hf
  go_wp2_with fail
  go_region_law ((refine step_append_lies _ (by rfl) _ _ _ (by rfl) B 79 v0 _ 6 88 Tryz.underlying76 hv0 hx0 hx1 hx2 (by rfl) (by omega) _ 0 ((cellsV l xs).take (0 * 6)) (by rfl) ((by rw [Nat.zero_mul, List.take_zero]; exact World.ownsRow_nil _ _ _ _)) ⟨w2.heap.size, 0, none⟩ 1 1 (cellV t ((A, c), (K, d))) (by rfl) (by rfl) (row_new _ _ _) (cellV_one _ _) (by omega) (by unfold maxLen; omega) (by omega) (by simp; omega) (w2.heap.size + 1) (by simp) ?_; intro g9 q9 w9 hown9 hgr9 hat9 hlt9))
  all_goals
   have HV : Hid (VRow B (l.take 0 ++ [t]) (.slice (some ⟨g9, 0, none⟩) (0 + 1) q9) w9) := Lib.hid (vrow_put hxl (hrl.move fun k hk hs => ⟨hs, HB2.out.block k hk⟩) (RdV.move (fun k hk hs => ⟨hs, HB2.out.block k hk⟩) _ _ HX.out) (by omega) hown9 hgr9 hat9)
   have HBF : Hid (Below B w0 w9) := Lib.hid (((HBW.out.trans (HB2.out.mono (by omega))).alloc (by omega) _).drew.grown hgr9 (by simp; omega) (fun k e => own_base hown k e))
   clear hown9 hgr9 hat9 hlt9
   go_wp2
   refine bodyPost_ret (results_two (t := 4) (u := 5) rfl _ _ _) rfl ?_
   exact HQ0.out HF.out _ _ HV.out HBF.out
end Nd
end Go.Proofs.YtbajkglacfheiaaGreatDoor
namespace Go.Proofs.YtbajkglacfheiaaGreatDoor
open Go.RowKit Mem Ref3
namespace Nd
noncomputable def doT7 : Code := nextOf (nextOf (nextOf (nextOf (nextOf (nextOf (nextOf (Tryz.f142.body.getD .skip)))))))
noncomputable def doT9 : Code := nextOf (nextOf (nextOf (nextOf (nextOf (nextOf (nextOf (nextOf (nextOf (Tryz.f142.body.getD .skip)))))))))
noncomputable def doT10 : Code := nextOf (nextOf (nextOf (nextOf (nextOf (nextOf (nextOf (nextOf (nextOf (nextOf (Tryz.f142.body.getD .skip))))))))))
structure Row0 (B N n m : Nat) (l : List Tr) (xs : List X4) (v : Value) (w0 : World) : Prop where
 own : w0.ownsRow B 79 6 v N (cellsV l xs)
 rd : RdVL (fun k => B ≤ k ∧ some k ≠ v.ownBlock) w0 l xs
 ln : l.length = N
 nm : N = n + m
 le : N ≤ 65536
 bs : B ≤ w0.heap.size
 ok : OkL l
theorem Row0.vrow {B N n m : Nat} {l : List Tr} {xs : List X4} {v : Value} {w0 w : World} (h : Row0 B N n m l xs v w0) (hb : Below w0.heap.size w0 w) : VRow B l v w := by
 refine VRow.below ⟨xs, ?_, h.rd⟩ hb
 rw [h.ln]
 exact h.own
structure FinS (B : Nat) (v : Value) (P : Nat) (w0 : World) (t : Tr) (A : Option Addr) (c : Nat) (K : Option Addr) (d : Nat) (wx : World) : Prop where
 bl : Blk wx P 79 (cellV t ((A, c), (K, d))).toArray
 rd : RdV (fun k => B ≤ k ∧ some k ≠ v.ownBlock) wx t ((A, c), (K, d))
 be : Below w0.heap.size w0 wx
def DoP (B : Nat) (r : Int × List Tr) (w : World) (e : Ending) (w' : World) : Prop := (∃ v', e = .returned (.tuple #[v', .int .i64 r.1]) ∧ VRow B r.2 v' w') ∧ Below B w w'
theorem kf_ok (t : Tr) : t.Ok → t.Kf := by
 induction t using Tr.ind with
 | h0 => exact fun _ => by unfold Tr.Kf; trivial
 | h1 b => exact fun _ => by unfold Tr.Kf; trivial
 | h2 b => exact fun _ => by unfold Tr.Kf; trivial
 | h3 b => exact fun _ => by unfold Tr.Kf; trivial
 | h4 l ih =>
  intro h
  unfold Tr.Ok at h
  unfold Tr.Kf
  exact (kfl_iff l).2 fun t ht => ih t ht ((okl_iff l).1 h t ht).1
 | h5 ks l ih =>
  intro h
  unfold Tr.Ok at h
  unfold Tr.Kf
  exact ⟨by omega, (kfl_iff l).2 fun t ht => ih t ht ((okl_iff l).1 h.2.2.2 t ht).1⟩
theorem kfl_ok {l : List Tr} (h : OkL l) : KfL l := (kfl_iff l).2 fun t ht => kf_ok t ((okl_iff l).1 h t ht).1
theorem mkT_bounds {s : Stp} {I : List Tr} (hI : OkL I) (hl : I.length ≤ 65536) (hF : s.Fine) (hk : s.sort = 6 → I.length = s.keys.length ∧ s.keys.Nodup) : (mkT s I).Kf ∧ (mkT s I).nodes ≤ 1099511627776 ∧ (mkT s I).bytes ≤ 4398046511104 := by
 have hs := sums_le I fun t ht => ((okl_iff I).1 hI t ht).2
 have h1 : 65536 * I.length ≤ 65536 * 65536 := Nat.mul_le_mul_left _ hl
 have h2 : 2097152 * I.length ≤ 2097152 * 65536 := Nat.mul_le_mul_left _ hl
 have ht := hF.text
 have hb := hF.bk
 unfold mkT
 split
 ·exact ⟨by unfold Tr.Kf; trivial, by simp [Tr.nodes], by simp [Tr.bytes]⟩
 split
 ·refine ⟨by unfold Tr.Kf; exact kfl_ok hI, ?_, ?_⟩
  ·simp only [Tr.nodes]; omega
  ·simp only [Tr.bytes]; omega
 split
 ·rename_i h6
  obtain ⟨k1, k2⟩ := hk h6
  refine ⟨?_, ?_, ?_⟩
  ·unfold mkObj Tr.Kf
   refine ⟨by simp, (kfl_iff _).2 fun t ht => ?_⟩
   exact (kfl_iff I).1 (kfl_ok hI) t ((items_perm .null s.keys k2 I k1).mem_iff.1 ht)
  ·rw [mkObj_nodes _ k2 _ k1]; omega
  ·rw [mkObj_bytes _ k2 _ k1]; omega
 split
 ·exact ⟨by unfold Tr.Kf; trivial, by simp [Tr.nodes], by simp [Tr.bytes]⟩
 split
 ·exact ⟨by unfold Tr.Kf; trivial, by simp [Tr.nodes], by simp only [Tr.bytes]; omega⟩
 ·exact ⟨by unfold Tr.Kf; trivial, by simp [Tr.nodes], by simp [Tr.bytes]⟩
theorem do_t12 (B N n m : Nat) (l : List Tr) (xs : List X4) (v : Value) (t : Tr) (A : Option Addr) (c : Nat) (K : Option Addr) (d P : Nat) (r : Int × List Tr) (w0 wr : World) (hr : Row0 B N n m l xs v w0) (h : FinS B v P w0 t A c K d wr) (hP : w0.heap.size ≤ P)
  (hkf : t.Kf) (hn : t.nodes ≤ 1099511627776) (hb : t.bytes ≤ 4398046511104) (h3 : t.fit = false → r = (3, l)) (h0 : t.fit = true → r = (0, l.take m ++ [t])) (z1 z2 z3 z4 z5 z8 z9 z10 z11 z12 z13 z14 z15 z16 z17 z18 z19 z20 z21 z22 z23 z24 z25 z26 z27 z28 z29 z30 z31 z32 z33 z34 z35 z36 z37 z38 z39 z40 z41 z42 z43 z44 z45 z46 z47 z48 z49 z50 z51 z52 z53 z54 z55 z56 z57 z58 z59 z60 z61 z62 z63 z64 z65 z66 z67 z68 z69 z70 z71 z72 z73 z74 z75 z76 z77 z78 z79 z80 z81 z82 z83 z84 z85 z86 z87 z88 z89 z90 z91 z92 z93 z94 : Value) :
  Code.wp Tryz.prog doT12 (bodyPost Tryz.prog Tryz.f142 (DoP B r w0)) { tmps := (v :: z1 :: z2 :: z3 :: z4 :: z5 :: .int .i64 n :: .pointer (some ⟨P, 0, none⟩) :: z8 :: z9 :: z10 :: z11 :: z12 :: z13 :: z14 :: z15 :: z16 :: z17 :: z18 :: z19 :: z20 :: z21 :: z22 :: z23 :: z24 :: z25 :: z26 :: z27 :: z28 :: z29 :: z30 :: z31 :: z32 :: z33 :: z34 :: z35 :: z36 :: z37 :: z38 :: z39 :: z40 :: z41 :: z42 :: z43 :: z44 :: z45 :: z46 :: z47 :: z48 :: z49 :: z50 :: z51 :: z52 :: z53 :: z54 :: z55 :: z56 :: z57 :: z58 :: z59 :: z60 :: z61 :: z62 :: z63 :: z64 :: z65 :: z66 :: z67 :: z68 :: z69 :: z70 :: z71 :: z72 :: z73 :: z74 :: z75 :: z76 :: z77 :: z78 :: z79 :: z80 :: z81 :: z82 :: z83 :: z84 :: z85 :: z86 :: z87 :: z88 :: z89 :: z90 :: z91 :: z92 :: z93 :: z94 :: []).toArray, defers := [] } wr := by
 have hbe := h.be.mono hr.bs
 have hrow := hr.vrow h.be
 have h3' : t.fit = false → ∀ w', VRow B l v w' → Below B w0 w' → DoP B r w0 (.returned (.tuple #[v, .int .i64 3])) w' := fun hf w' hv hw => by
  rw [h3 hf]
  exact ⟨⟨v, rfl, hv⟩, hw⟩
 have h0' : t.fit = true → ∀ v' w', VRow B (l.take m ++ [t]) v' w' → Below B w0 w' → DoP B r w0 (.returned (.tuple #[v', .int .i64 0])) w' := fun hf v' w' hv hw => by
  rw [h0 hf]
  exact ⟨⟨v', rfl, hv⟩, hw⟩
 have hnm := hr.nm
 rcases Joins.ownsRow_forms hr.own with ⟨rfl, h0N⟩ | ⟨g, cap, rfl, _⟩
 ·obtain rfl : N = 0 := h0N
  obtain rfl : m = 0 := by omega
  obtain rfl : n = 0 := by omega
  exact do_t12_nil _ B l t A c K d P w0 wr hr.ln hbe hr.bs h.bl hkf hn hb hrow h.rd h3' h0' _ _ _ _ _ _ _ _ _ _ _ _ _ _ _ _ _ _ _ _ _ _ _ _ _ _ _ _ _ _ _ _ _ _ _ _ _ _ _ _ _ _ _ _ _ _ _ _ _ _ _ _ _ _ _ _ _ _ _ _ _ _ _ _ _ _ _ _ _ _ _ _ _ _ _ _ _ _ _ _ _ _ _ _ _ _ _ _ _ _ _ _
 ·have hcap : N ≤ cap := by
   rcases hr.own.2 with ⟨hv, _⟩ | ⟨g', cap', cur, hv, _, _, h1, _⟩
   ·cases hv
   ·injection hv with _ _ e
    omega
  exact do_t12_some _ B N n m l t A c K d P w0 wr hr.ln hnm hr.le hbe hr.bs h.bl hkf hn hb g cap (by omega) hrow h.rd h3' h0' _ _ _ _ _ _ _ _ _ _ _ _ _ _ _ _ _ _ _ _ _ _ _ _ _ _ _ _ _ _ _ _ _ _ _ _ _ _ _ _ _ _ _ _ _ _ _ _ _ _ _ _ _ _ _ _ _ _ _ _ _ _ _ _ _ _ _ _ _ _ _ _ _ _ _ _ _ _ _ _ _ _ _ _ _ _ _ _ _ _ _ _
def nbS (s : Stp) : Nat := if s.sort = 3 then normB s.bits else 0
structure GoodS (s : Stp) (n m : Nat) (l : List Tr) : Prop where
 used : usedB s.sort s.flag s.bits s.text s.count s.keys.length = true
 fine : s.Fine
 keys : KeysOk s.keys
 nodup : s.keys.Nodup
 six : s.sort = 6 → n = s.keys.length
structure PreS (B N n m : Nat) (l : List Tr) (xs : List X4) (v : Value) (P b3 : Nat) (s : Stp) (K : Option Addr) (q : Nat) (w0 : World) (wx : World) : Prop where
 bl : Blk wx P 79 #[.int .i64 s.sort, .bool s.flag, .int .u64 (nbS s : Nat), .string ⟨s.text.toArray⟩, .slice none 0 0, .slice none 0 0]
 st : CellS wx b3 0 s K q
 be : Below w0.heap.size w0 wx
 ne : b3 ≠ P
structure MidS (B N n m : Nat) (l : List Tr) (xs : List X4) (v : Value) (P b3 : Nat) (s : Stp) (K : Option Addr) (q : Nat) (AT : Option Addr) (cT BT : Nat) (w0 : World) (wx : World) : Prop extends PreS B N n m l xs v P b3 s K q w0 wx where
 tk : wx.ownsRow BT 79 6 (.slice AT n cT) n (cellsV (l.drop m) (xs.drop m))
 lt : P < BT
theorem rdvl_from {S S' : Nat → Prop} {w0 w : World} {l : List Tr} {xs : List X4} (h : RdVL S w0 l xs) (hb : Below w0.heap.size w0 w) (hs : ∀ k, k < w0.heap.size → S k → S' k) : RdVL S' w l xs := h.move fun k hk hk2 => ⟨hs k hk hk2, hb.block k hk⟩
theorem own_in {w : World} {B s n : Nat} {e : TypeId} {v : Value} {us : List Value} (h : w.ownsRow B e s v n us) (k : Nat) (hk : v.ownBlock = some k) : k < w.heap.size := by
 rcases h.2 with ⟨hv, _⟩ | ⟨g', cap', cur, hv, _, hg', _⟩
 ·rw [hv] at hk; cases hk
 ·rw [hv] at hk
  simp only [Value.ownBlock, Option.some.injEq] at hk
  rw [← hk]
  exact (Array.getElem?_eq_some_iff.1 hg').1
theorem MidS.listed {B N n m : Nat} {l : List Tr} {xs : List X4} {v : Value} {P b3 : Nat} {s : Stp} {K : Option Addr} {q : Nat} {AT : Option Addr} {cT BT : Nat} {w0 wx : World} (h : MidS B N n m l xs v P b3 s K q AT cT BT w0 wx) (hr : Row0 B N n m l xs v w0) (hg : GoodS s n m l) (h5 : s.sort = 5) (hP : w0.heap.size ≤ P) :
  FinS B v P w0 (mkT s (l.drop m)) AT cT none 0 (wx.setCell ⟨P, 4, none⟩ (.slice AT n cT)) ∧ CellS (wx.setCell ⟨P, 4, none⟩ (.slice AT n cT)) b3 0 s K q := by
 obtain ⟨u1, u2, u3, u4, u5, u6, u7, u8⟩ := used_shape hg.used
 have hne := h.ne
 have hlt := h.lt
 have hfl := u4 (by omega)
 have htx := u6 (by omega)
 have hnm := hr.nm
 have hln := hr.ln
 have hm : mkT s (l.drop m) = .list (l.drop m) := by
  unfold mkT
  rw [if_neg (by omega), if_pos h5]
 have hput := grown_put (grown_refl wx (some P)) 4 (.slice AT n cT)
 have hdl : (l.drop m).length = n := by rw [List.length_drop]; omega
 have hbe2 : Below w0.heap.size w0 (wx.setCell ⟨P, 4, none⟩ (.slice AT n cT)) := h.be.grown hput h.be.size (fun k e => by injection e; omega)
 have hmv : ∀ o, (wx.setCell ⟨P, 4, none⟩ (.slice AT n cT)).cell? ⟨b3, o, none⟩ = wx.cell? ⟨b3, o, none⟩ := fun o => cell_block (heap_setCell_other wx _ b3 _ hne)
 refine ⟨⟨?_, ?_, hbe2⟩, ⟨(hmv _).trans h.st.c0, (hmv _).trans h.st.c1, (hmv _).trans h.st.c2, (hmv _).trans h.st.c3, (hmv _).trans h.st.c4, (hmv _).trans h.st.c5, ?_, h.st.kc⟩⟩
 ·have hp := h.bl.put 4 (.slice AT n cT)
  have e : (cellV (mkT s (l.drop m)) ((AT, cT), (none, 0))).toArray = #[.int .i64 s.sort, .bool s.flag, .int .u64 (nbS s : Nat), .string ⟨s.text.toArray⟩, .slice AT n cT, .slice none 0 0] := by
   rw [hm]
   unfold cellV nbS
   rw [if_neg (by omega), h5, hfl, htx]
   simp only [Tr.kids, hdl]
   rfl
  rw [e]
  exact hp
 ·rw [hm]
  unfold RdV
  exact ⟨xs.drop m, own_cells (h.tk.kept hput (not_own h.tk hlt)) (fun k hk => ⟨by have := hr.bs; omega, fun e => by
   have := own_in hr.own k e.symm
   omega⟩), rdvl_from (hr.rd.drop m) hbe2 fun k _ hs => hs⟩
 ·obtain ⟨e1, e2⟩ : s.keys = [] ∧ s.keys.length = 0 := by
   have := u8 (by omega)
   exact ⟨List.length_eq_zero_iff.1 this, this⟩
  exact ⟨_, _, rfl, .inl e1⟩
theorem MidS.plain {B N n m : Nat} {l : List Tr} {xs : List X4} {v : Value} {P b3 : Nat} {s : Stp} {K : Option Addr} {q : Nat} {AT : Option Addr} {cT BT : Nat} {w0 wx : World} (h : MidS B N n m l xs v P b3 s K q AT cT BT w0 wx) (hg : GoodS s n m l) (h5 : s.sort ≠ 5) (h6 : s.sort ≠ 6) :
  FinS B v P w0 (mkT s (l.drop m)) none 0 none 0 wx := by
 obtain ⟨u1, u2, u3, u4, u5, u6, u7, u8⟩ := used_shape hg.used
 have hcase : s.sort = 1 ∨ s.sort = 2 ∨ s.sort = 3 ∨ s.sort = 4 := by omega
 have hb := h.bl
 unfold nbS at hb
 rcases hcase with e | e | e | e
 ·have e1 := u4 (by omega)
  have e2 := u6 (by omega)
  rw [if_neg (by omega), e, e1, e2] at hb
  have hm : mkT s (l.drop m) = .null := by simp [mkT, e]
  exact ⟨by rw [hm]; exact hb, by rw [hm]; unfold RdV; trivial, h.be⟩
 ·have e2 := u6 (by omega)
  rw [if_neg (by omega), e, e2] at hb
  have hm : mkT s (l.drop m) = .flag s.flag := by simp [mkT, e]
  exact ⟨by rw [hm]; exact hb, by rw [hm]; unfold RdV; trivial, h.be⟩
 ·have e1 := u4 (by omega)
  have e2 := u6 (by omega)
  rw [if_pos e, e, e1, e2] at hb
  have hm : mkT s (l.drop m) = .num (normB s.bits) := by simp [mkT, e]
  exact ⟨by rw [hm]; exact hb, by rw [hm]; unfold RdV; trivial, h.be⟩
 ·have e1 := u4 (by omega)
  rw [if_neg (by omega), e, e1] at hb
  have hm : mkT s (l.drop m) = .text s.text := by simp [mkT, e]
  exact ⟨by rw [hm]; exact hb, by rw [hm]; unfold RdV; trivial, h.be⟩
theorem do_t10_plain (B N n m : Nat) (l : List Tr) (xs : List X4) (v : Value) (P b3 : Nat) (s : Stp) (K : Option Addr) (q : Nat) (AT : Option Addr) (cT BT : Nat) (r : Int × List Tr) (w0 wr : World) (hr : Row0 B N n m l xs v w0) (hg : GoodS s n m l) (h : MidS B N n m l xs v P b3 s K q AT cT BT w0 wr) (hP : w0.heap.size ≤ P) (h3 : (mkT s (l.drop m)).fit = false → r = (3, l)) (h0 : (mkT s (l.drop m)).fit = true → r = (0, l.take m ++ [mkT s (l.drop m)])) (h5 : s.sort ≠ 5) (h6 : s.sort ≠ 6) (z1 z2 z4 z5 z9 z10 z11 z12 z13 z14 z15 z16 z17 z18 z19 z20 z21 z22 z23 z24 z25 z26 z27 z28 z29 z30 z31 z32 z33 z34 z35 z36 z37 z38 z39 z40 z41 z42 z43 z44 z45 z46 z47 z48 z49 z50 z51 z52 z53 z54 z55 z56 z57 z58 z59 z60 z61 z62 z63 z64 z65 z66 z67 z68 z69 z70 z71 z72 z73 z74 z75 z76 z77 z78 z79 z80 z81 z82 z83 z84 z85 z86 z87 z88 z89 z90 z91 z92 z93 z94 : Value) :
  Code.wp Tryz.prog doT10 (bodyPost Tryz.prog Tryz.f142 (DoP B r w0)) { tmps := (v :: z1 :: z2 :: .pointer (some ⟨b3, 0, none⟩) :: z4 :: z5 :: .int .i64 n :: .pointer (some ⟨P, 0, none⟩) :: .slice AT n cT :: z9 :: z10 :: z11 :: z12 :: z13 :: z14 :: z15 :: z16 :: z17 :: z18 :: z19 :: z20 :: z21 :: z22 :: z23 :: z24 :: z25 :: z26 :: z27 :: z28 :: z29 :: z30 :: z31 :: z32 :: z33 :: z34 :: z35 :: z36 :: z37 :: z38 :: z39 :: z40 :: z41 :: z42 :: z43 :: z44 :: z45 :: z46 :: z47 :: z48 :: z49 :: z50 :: z51 :: z52 :: z53 :: z54 :: z55 :: z56 :: z57 :: z58 :: z59 :: z60 :: z61 :: z62 :: z63 :: z64 :: z65 :: z66 :: z67 :: z68 :: z69 :: z70 :: z71 :: z72 :: z73 :: z74 :: z75 :: z76 :: z77 :: z78 :: z79 :: z80 :: z81 :: z82 :: z83 :: z84 :: z85 :: z86 :: z87 :: z88 :: z89 :: z90 :: z91 :: z92 :: z93 :: z94 :: []).toArray, defers := [] } wr := by
 have hbd := mkT_bounds (s := s) (I := l.drop m) (okl_drop hr.ok m) (by have := hr.ln; have := hr.le; rw [List.length_drop]; omega) hg.fine (fun e => ⟨by have := hr.ln; have := hr.nm; have := hg.six e; rw [List.length_drop]; omega, hg.nodup⟩)
 have HBD := Lib.hid hbd
 have H30 := Lib.hid (And.intro h3 h0)
 have HM := Lib.hid h
 clear h3 h0 hbd
 have k0 : wr.cell? ⟨b3, 0, none⟩ = some (.int .i64 s.sort) := h.st.c0
 have HF := Lib.hid (h.plain hg h5 h6)
 have e5 : (s.sort == 5) = false := by simp [h5]
 have e6 : (s.sort == 6) = false := by simp [h6]
 clear h5 h6 h
 conv => arg 2; whnf
 apply wp_seq_k
 intro K1 hK1
 go_cut [] (fun wx => wx = wr)
 case first =>
  go_wp2_with fail
  go_meet
  rfl
 case rest =>
  subst hcut
  go_step
  apply wp_seq_k
  intro K2 hK2
  go_cut [] (fun wx => wx = wc)
  case first =>
   go_wp2_with fail
   go_meet
   rfl
  case rest =>
   subst hcut
   go_step
   exact do_t12 B N n m l xs v _ _ _ _ _ P r w0 _ hr HF.out hP HBD.out.1 HBD.out.2.1 HBD.out.2.2 H30.out.1 H30.out.2 _ _ _ _ _ _ _ _ _ _ _ _ _ _ _ _ _ _ _ _ _ _ _ _ _ _ _ _ _ _ _ _ _ _ _ _ _ _ _ _ _ _ _ _ _ _ _ _ _ _ _ _ _ _ _ _ _ _ _ _ _ _ _ _ _ _ _ _ _ _ _ _ _ _ _ _ _ _ _ _ _ _ _ _ _ _ _ _ _ _ _ _
theorem do_t10_list (B N n m : Nat) (l : List Tr) (xs : List X4) (v : Value) (P b3 : Nat) (s : Stp) (K : Option Addr) (q : Nat) (AT : Option Addr) (cT BT : Nat) (r : Int × List Tr) (w0 wr : World) (hr : Row0 B N n m l xs v w0) (hg : GoodS s n m l) (h : MidS B N n m l xs v P b3 s K q AT cT BT w0 wr) (hP : w0.heap.size ≤ P) (h3 : (mkT s (l.drop m)).fit = false → r = (3, l)) (h0 : (mkT s (l.drop m)).fit = true → r = (0, l.take m ++ [mkT s (l.drop m)])) (h5 : s.sort = 5) (z1 z2 z4 z5 z9 z10 z11 z12 z13 z14 z15 z16 z17 z18 z19 z20 z21 z22 z23 z24 z25 z26 z27 z28 z29 z30 z31 z32 z33 z34 z35 z36 z37 z38 z39 z40 z41 z42 z43 z44 z45 z46 z47 z48 z49 z50 z51 z52 z53 z54 z55 z56 z57 z58 z59 z60 z61 z62 z63 z64 z65 z66 z67 z68 z69 z70 z71 z72 z73 z74 z75 z76 z77 z78 z79 z80 z81 z82 z83 z84 z85 z86 z87 z88 z89 z90 z91 z92 z93 z94 : Value) :
  Code.wp Tryz.prog doT10 (bodyPost Tryz.prog Tryz.f142 (DoP B r w0)) { tmps := (v :: z1 :: z2 :: .pointer (some ⟨b3, 0, none⟩) :: z4 :: z5 :: .int .i64 n :: .pointer (some ⟨P, 0, none⟩) :: .slice AT n cT :: z9 :: z10 :: z11 :: z12 :: z13 :: z14 :: z15 :: z16 :: z17 :: z18 :: z19 :: z20 :: z21 :: z22 :: z23 :: z24 :: z25 :: z26 :: z27 :: z28 :: z29 :: z30 :: z31 :: z32 :: z33 :: z34 :: z35 :: z36 :: z37 :: z38 :: z39 :: z40 :: z41 :: z42 :: z43 :: z44 :: z45 :: z46 :: z47 :: z48 :: z49 :: z50 :: z51 :: z52 :: z53 :: z54 :: z55 :: z56 :: z57 :: z58 :: z59 :: z60 :: z61 :: z62 :: z63 :: z64 :: z65 :: z66 :: z67 :: z68 :: z69 :: z70 :: z71 :: z72 :: z73 :: z74 :: z75 :: z76 :: z77 :: z78 :: z79 :: z80 :: z81 :: z82 :: z83 :: z84 :: z85 :: z86 :: z87 :: z88 :: z89 :: z90 :: z91 :: z92 :: z93 :: z94 :: []).toArray, defers := [] } wr := by
 have hbd := mkT_bounds (s := s) (I := l.drop m) (okl_drop hr.ok m) (by have := hr.ln; have := hr.le; rw [List.length_drop]; omega) hg.fine (fun e => ⟨by have := hr.ln; have := hr.nm; have := hg.six e; rw [List.length_drop]; omega, hg.nodup⟩)
 have HBD := Lib.hid hbd
 have H30 := Lib.hid (And.intro h3 h0)
 have HM := Lib.hid h
 clear h3 h0 hbd
 have k0 : wr.cell? ⟨b3, 0, none⟩ = some (.int .i64 s.sort) := h.st.c0
 have HLS := Lib.hid (h.listed hr hg h5 hP)
 have e5 : (s.sort == 5) = true := by simp [h5]
 have e6 : (s.sort == 6) = false := by simp [h5]
 have p4 : wr.cell? ⟨P, 4, none⟩ = some (.slice none 0 0) := h.bl.cell 4
 have f4 := h.bl.frozen 4
 clear h5 h
 conv => arg 2; whnf
 apply wp_seq_k
 intro K1 hK1
 go_cut [] (fun wx => Hid (FinS B v P w0 (mkT s (l.drop m)) AT cT none 0 wx ∧ CellS wx b3 0 s K q))
 case first =>
  go_wp2_with fail
  go_meet
  exact HLS
 case rest =>
  have HF := Lib.hid hcut.out.1
  have k0' : wc.cell? ⟨b3, 0, none⟩ = some (.int .i64 s.sort) := hcut.out.2.c0
  clear k0 p4 f4
  go_step
  apply wp_seq_k
  intro K2 hK2
  go_cut [] (fun wx => wx = wc)
  case first =>
   go_wp2_with fail
   go_meet
   rfl
  case rest =>
   subst hcut
   go_step
   exact do_t12 B N n m l xs v _ _ _ _ _ P r w0 _ hr HF.out hP HBD.out.1 HBD.out.2.1 HBD.out.2.2 H30.out.1 H30.out.2 _ _ _ _ _ _ _ _ _ _ _ _ _ _ _ _ _ _ _ _ _ _ _ _ _ _ _ _ _ _ _ _ _ _ _ _ _ _ _ _ _ _ _ _ _ _ _ _ _ _ _ _ _ _ _ _ _ _ _ _ _ _ _ _ _ _ _ _ _ _ _ _ _ _ _ _ _ _ _ _ _ _ _ _ _ _ _ _ _ _ _ _
theorem do_t10_obj (B N n m : Nat) (l : List Tr) (xs : List X4) (v : Value) (P b3 : Nat) (s : Stp) (K : Option Addr) (q : Nat) (AT : Option Addr) (cT BT : Nat) (r : Int × List Tr) (w0 wr : World) (hr : Row0 B N n m l xs v w0) (hg : GoodS s n m l) (h : MidS B N n m l xs v P b3 s K q AT cT BT w0 wr) (hP : w0.heap.size ≤ P) (h3 : (mkT s (l.drop m)).fit = false → r = (3, l)) (h0 : (mkT s (l.drop m)).fit = true → r = (0, l.take m ++ [mkT s (l.drop m)])) (h6 : s.sort = 6) (z1 z2 z4 z5 z9 z10 z11 z12 z13 z14 z15 z16 z17 z18 z19 z20 z21 z22 z23 z24 z25 z26 z27 z28 z29 z30 z31 z32 z33 z34 z35 z36 z37 z38 z39 z40 z41 z42 z43 z44 z45 z46 z47 z48 z49 z50 z51 z52 z53 z54 z55 z56 z57 z58 z59 z60 z61 z62 z63 z64 z65 z66 z67 z68 z69 z70 z71 z72 z73 z74 z75 z76 z77 z78 z79 z80 z81 z82 z83 z84 z85 z86 z87 z88 z89 z90 z91 z92 z93 z94 : Value) :
  Code.wp Tryz.prog doT10 (bodyPost Tryz.prog Tryz.f142 (DoP B r w0)) { tmps := (v :: z1 :: z2 :: .pointer (some ⟨b3, 0, none⟩) :: z4 :: z5 :: .int .i64 n :: .pointer (some ⟨P, 0, none⟩) :: .slice AT n cT :: z9 :: z10 :: z11 :: z12 :: z13 :: z14 :: z15 :: z16 :: z17 :: z18 :: z19 :: z20 :: z21 :: z22 :: z23 :: z24 :: z25 :: z26 :: z27 :: z28 :: z29 :: z30 :: z31 :: z32 :: z33 :: z34 :: z35 :: z36 :: z37 :: z38 :: z39 :: z40 :: z41 :: z42 :: z43 :: z44 :: z45 :: z46 :: z47 :: z48 :: z49 :: z50 :: z51 :: z52 :: z53 :: z54 :: z55 :: z56 :: z57 :: z58 :: z59 :: z60 :: z61 :: z62 :: z63 :: z64 :: z65 :: z66 :: z67 :: z68 :: z69 :: z70 :: z71 :: z72 :: z73 :: z74 :: z75 :: z76 :: z77 :: z78 :: z79 :: z80 :: z81 :: z82 :: z83 :: z84 :: z85 :: z86 :: z87 :: z88 :: z89 :: z90 :: z91 :: z92 :: z93 :: z94 :: []).toArray, defers := [] } wr := by
 have hbd := mkT_bounds (s := s) (I := l.drop m) (okl_drop hr.ok m) (by have := hr.ln; have := hr.le; rw [List.length_drop]; omega) hg.fine (fun e => ⟨by have := hr.ln; have := hr.nm; have := hg.six e; rw [List.length_drop]; omega, hg.nodup⟩)
 have HBD := Lib.hid hbd
 have H30 := Lib.hid (And.intro h3 h0)
 have HM := Lib.hid h
 clear h3 h0 hbd
 have k0 : wr.cell? ⟨b3, 0, none⟩ = some (.int .i64 s.sort) := h.st.c0
 obtain rfl : n = s.keys.length := hg.six h6
 have hm : mkT s (l.drop m) = mkObj s.keys (l.drop m) := by
  unfold mkT
  rw [if_neg (by omega), if_neg (by omega), if_pos h6]
 have e5 : (s.sort == 5) = false := by simp [h6]
 have e6 : (s.sort == 6) = true := by simp [h6]
 have k5 : wr.cell? ⟨b3, 5, none⟩ = some (.slice K s.keys.length q) := h.st.c5
 have hown := fun k e => own_in hr.own k e
 have hlt := h.lt
 have htk : Cells (fun _ => True) wr AT (cellsV (l.drop m) (xs.drop m)) := own_cells h.tk fun _ _ => trivial
 have hrd : RdVL (fun k => (B ≤ k ∧ some k ≠ v.ownBlock) ∧ k ≠ P) wr (l.drop m) (xs.drop m) := rdvl_from (hr.rd.drop m) h.be fun k hk hs => ⟨hs, by omega⟩
 have hPs : P < wr.heap.size := h.bl.lt
 have HC := Lib.hid (made_any (fun k => (B ≤ k ∧ some k ≠ v.ownBlock) ∧ k ≠ P) K s.keys.length q AT cT s.keys (l.drop m) (xs.drop m) wr (fun k hk => ⟨⟨by have := h.be.size; have := hr.bs; omega, fun e => by have := hown k e.symm; have := h.be.size; omega⟩, by omega⟩) h.st.ks rfl (by have := hr.ln; have := hr.nm; rw [List.length_drop]; omega) htk hrd hg.keys hg.nodup (by have := hr.le; have := hr.nm; omega))
 clear h6 h htk hrd hown
 conv => arg 2; whnf
 apply wp_seq_k
 intro K1 hK1
 go_cut [] (fun wx => wx = wr)
 case first =>
  go_wp2_with fail
  go_meet
  rfl
 case rest =>
  subst hcut
  go_step
  apply wp_seq_k
  intro K2 hK2
  go_cut [] (fun wx => ∃ (A' : Option Addr) (c' : Nat) (K' : Option Addr) (d' : Nat), Hid (FinS B v P w0 (mkT s (l.drop m)) A' c' K' d' wx))
  case first =>
   go_wp2_with fail
   refine HC.out.mono ?_
   rintro e w2 ⟨⟨A', c', K', d', rfl, hrd⟩, hb2⟩
   have hbl2 := HM.out.bl.below hb2 hPs
   have HB2 := Lib.hid (HM.out.be.trans (hb2.mono HM.out.be.size))
   have HRD := Lib.hid hrd
   have HBL := Lib.hid hbl2
   have p0 : w2.cell? ⟨P, 0, none⟩ = some (.int .i64 s.sort) := hbl2.cell 0
   have p1 : w2.cell? ⟨P, 1, none⟩ = some (.bool s.flag) := hbl2.cell 1
   have p2 : w2.cell? ⟨P, 2, none⟩ = some (.int .u64 (nbS s : Nat)) := hbl2.cell 2
   have p3 : w2.cell? ⟨P, 3, none⟩ = some (.string ⟨s.text.toArray⟩) := hbl2.cell 3
   have p4 : w2.cell? ⟨P, 4, none⟩ = some (.slice none 0 0) := hbl2.cell 4
   have p5 : w2.cell? ⟨P, 5, none⟩ = some (.slice none 0 0) := hbl2.cell 5
   have q0 := hbl2.frozen 0
   have q1 := hbl2.frozen 1
   have q2 := hbl2.frozen 2
   have q3 := hbl2.frozen 3
   have q4 := hbl2.frozen 4
   have q5 := hbl2.frozen 5
   clear hbl2 hb2 hrd HC k0 k5
   go_wp2_with fail
   go_meet
   refine ⟨A', c', K', d', Lib.hid ?_⟩
   rw [hm]
   have hg6 := grown_put (grown_put (grown_put (grown_put (grown_put (grown_put (grown_refl w2 (some P)) 0 (.int .i64 ((mkObj s.keys (l.drop m)).srt : Nat))) 1 (.bool (mkObj s.keys (l.drop m)).fl)) 2 (.int .u64 ((mkObj s.keys (l.drop m)).bi : Nat))) 3 (.string ⟨(mkObj s.keys (l.drop m)).tx.toArray⟩)) 4 (.slice A' (mkObj s.keys (l.drop m)).kids.length c')) 5 (.slice K' (mkObj s.keys (l.drop m)).kn.length d')
   exact ⟨(((((HBL.out.put 0 _).put 1 _).put 2 _).put 3 _).put 4 _).put 5 _, RdV.move (fun k hk hs => ⟨hs.1, hg6.block k hk (by intro e; injection e with e; exact hs.2 e)⟩) _ _ HRD.out, HB2.out.grown hg6 HB2.out.size (fun k e => by injection e; omega)⟩
  case rest =>
   obtain ⟨A', c', K', d', HF⟩ := hcut
   go_step
   exact do_t12 B N s.keys.length m l xs v _ _ _ _ _ P r w0 _ hr HF.out hP HBD.out.1 HBD.out.2.1 HBD.out.2.2 H30.out.1 H30.out.2 _ _ _ _ _ _ _ _ _ _ _ _ _ _ _ _ _ _ _ _ _ _ _ _ _ _ _ _ _ _ _ _ _ _ _ _ _ _ _ _ _ _ _ _ _ _ _ _ _ _ _ _ _ _ _ _ _ _ _ _ _ _ _ _ _ _ _ _ _ _ _ _ _ _ _ _ _ _ _ _ _ _ _ _ _ _ _ _ _ _ _ _
end Nd
end Go.Proofs.YtbajkglacfheiaaGreatDoor
