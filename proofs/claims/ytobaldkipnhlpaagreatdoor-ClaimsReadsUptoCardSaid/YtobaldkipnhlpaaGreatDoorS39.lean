/-
  Walk of the statement PointerIndexes. Walks of the reference of layer 13: Piece, Print. The reference of layer 13: On, and layer 10's Find of a key. The reference of layer 13: Lead. The law's value: what steps make, by the reference.
  The law's value of layer 25: what steps make, by the reference.
  The reference of layer 25: what Read comes to.
-/
import Derived.Test.YtobaldkipnhlpaaGreatDoorS10
import Derived.Test.YtobaldkipnhlpaaGreatDoorS16
import Derived.Test.YtobaldkipnhlpaaGreatDoorS20
import Derived.Test.YtobaldkipnhlpaaGreatDoorS38
import Derived.Test.YtobaldkipnhlpaaGreatDoorS21
import Derived.Test.YtobaldkipnhlpaaGreatDoorS30
import Derived.Test.YtobaldkipnhlpaaGreatDoorS31
import Derived.Test.YtobaldkipnhlpaaGreatDoorS15
import Derived.Test.YtobaldkipnhlpaaGreatDoorS27
import Derived.Lib.AppendStr
import Derived.Deep.MidRow
set_option linter.unusedVariables false
set_option linter.unusedSimpArgs false
set_option maxRecDepth 100000
set_option maxHeartbeats 16000000
namespace Go.Proofs.YtobaldkipnhlpaaGreatDoor
open Go.RowKit Mem Utf Ref3 Tok Idx

end Go.Proofs.YtobaldkipnhlpaaGreatDoor
namespace Go.Proofs.YtobaldkipnhlpaaGreatDoor
open Go.RowKit Mem Utf Ref3 Tok

end Go.Proofs.YtobaldkipnhlpaaGreatDoor
namespace Go.Proofs.YtobaldkipnhlpaaGreatDoor
open Go.RowKit Mem Idx
namespace Nd
def keyR (ks : List Tx) (x : Tx) : Int := if x ∈ ks then (ks.idxOf x : Int) else -1
def onR (x : Tx) : Tr → Int
 | .list l => idxR x (l.length : Int)
 | .obj ks _ => keyR ks x
 | _ => -1
theorem onR_list (x : Tx) (l : List Tr) : onR x (.list l) = idxR x (l.length : Int) := rfl
theorem onR_obj (x : Tx) (ks : List Tx) (l : List Tr) : onR x (.obj ks l) = keyR ks x := rfl
theorem idxOf_first {x : Tx} : ∀ (ks : List Tx) (k : Nat) (hk : k < ks.length), x ∉ ks.take k → ks[k] = x → ks.idxOf x = k
 | [], k, hk, _, _ => by simp at hk
 | y :: ks, 0, hk, hn, he => by
  have he' : y = x := he
  rw [he', List.idxOf_cons_self]
 | y :: ks, k + 1, hk, hn, he => by
  rw [List.take_succ_cons] at hn
  have hne : y ≠ x := fun h => hn (by rw [h]; exact List.mem_cons_self)
  have hb : (y == x) = false := by simpa using hne
  rw [List.idxOf_cons, hb, cond_false, idxOf_first ks k (by simpa using hk) (fun h => hn (List.mem_cons_of_mem _ h)) (by simpa using he)]
theorem keyR_here {ks : List Tx} {x : Tx} {k : Nat} (hk : k < ks.length) (hn : x ∉ ks.take k) (he : ks[k] = x) : keyR ks x = (k : Int) := by
 have hm : x ∈ ks := by rw [← he]; exact List.getElem_mem hk
 have hi : ks.idxOf x = k := idxOf_first ks k hk hn he
 rw [keyR, if_pos hm, hi]
theorem keyR_no {ks : List Tx} {x : Tx} (h : x ∉ ks) : keyR ks x = -1 := by rw [keyR, if_neg h]
theorem idxR_lt {l : List UInt8} {n : Int} (h : ¬ idxR l n < 0) : idxR l n < n := by
 have h1 := idx_law l n
 rw [if_neg h] at h1
 exact (idxC_range h1).2
theorem onT_onR (x : Tx) (t : Tr) (ho : t.Ok) : (onR x t < 0 ∧ onT x t = none) ∨ ∃ (k : Nat) (h : k < t.kids.length), onR x t = (k : Int) ∧ onT x t = some t.kids[k] := by
 cases t with
 | list l =>
  rw [onR_list, onT_list, idx_law]
  by_cases hz : idxR x (l.length : Int) < 0
  ·exact .inl ⟨hz, by rw [if_pos hz]; rfl⟩
  ·have hlt := idxR_lt hz
   obtain ⟨k, hk⟩ : ∃ k : Nat, idxR x (l.length : Int) = (k : Int) := ⟨(idxR x (l.length : Int)).toNat, by omega⟩
   have hkl : k < l.length := by omega
   refine .inr ⟨k, hkl, hk, ?_⟩
   rw [if_neg hz, hk]
   show l[((k : Nat) : Int).toNat]? = _
   rw [Int.toNat_natCast, List.getElem?_eq_getElem hkl]
   rfl
 | obj ks l =>
  unfold Tr.Ok at ho
  rw [onR_obj, onT_obj]
  by_cases hm : x ∈ ks
  ·have hi := List.idxOf_lt_length_of_mem hm
   have hil : ks.idxOf x < l.length := by have := ho.1; omega
   refine .inr ⟨ks.idxOf x, hil, by rw [keyR, if_pos hm], ?_⟩
   rw [if_pos hm, List.getElem?_eq_getElem hil]
   rfl
  ·exact .inl ⟨by rw [keyR_no hm]; decide, if_neg hm⟩
 | null => exact .inl ⟨by show (-1 : Int) < 0; decide, rfl⟩
 | flag b => exact .inl ⟨by show (-1 : Int) < 0; decide, rfl⟩
 | num n => exact .inl ⟨by show (-1 : Int) < 0; decide, rfl⟩
 | text s => exact .inl ⟨by show (-1 : Int) < 0; decide, rfl⟩
theorem rfind_any (t : Tr) (A : Option Addr) (c : Nat) (K : Option Addr) (d : Nat) (x : Tx) (w : World) (h : RdVA w t ((A, c), (K, d))) (hn : t.kn.length ≤ 1099511627776) :
  Calls Tryz.prog 29 #[valV t A c K d, .string ⟨x.toArray⟩] w fun e w' => e = .returned (.int .i64 (keyR t.kn x)) ∧ Below w.heap.size w w' := by
 have hB := Blk.new w 34 #[.int .i64 (t.srt : Nat), .bool t.fl, .int .u64 (t.bi : Nat), .string ⟨t.tx.toArray⟩, .slice A t.kids.length c, .slice K t.kn.length d]
 have hba : Below w.heap.size w (w.alloc (.cells #[.int .i64 (t.srt : Nat), .bool t.fl, .int .u64 (t.bi : Nat), .string ⟨t.tx.toArray⟩, .slice A t.kids.length c, .slice K t.kn.length d] 34)) := (Below.refl _ _).alloc (Nat.le_refl _) _
 have c5 : (w.alloc (.cells #[.int .i64 (t.srt : Nat), .bool t.fl, .int .u64 (t.bi : Nat), .string ⟨t.tx.toArray⟩, .slice A t.kids.length c, .slice K t.kn.length d] 34)).cell? ⟨w.heap.size, 5, none⟩ = some (.slice K t.kn.length d) := hB.cell 5
 have HK := Lib.hid (RdV.keys (rdva_below h hba))
 have HBA := Lib.hid hba
 clear h hB hba
 go_enter Tryz.func29, Tryz.ntmps29
 go_upto_region 1 with fail
 generalize w.alloc (.cells #[.int .i64 (t.srt : Nat), .bool t.fl, .int .u64 (t.bi : Nat), .string ⟨t.tx.toArray⟩, .slice A t.kids.length c, .slice K t.kn.length d] 34) = w1 at *
 obtain ⟨ks, hks⟩ : ∃ ks, t.kn = ks := ⟨_, rfl⟩
 have HKS := Lib.hid hks
 rw [hks] at c5 hn HK
 clear hks
 go_wp2_with fail
 go_loop [5] (fun c5 => ∃ k : Nat, k ≤ ks.length ∧ c5 = .int .i64 k ∧ Hid (x ∉ ks.take k)) (fun c5 => ks.length - (intOf c5).toNat)
 case atStart => exact ⟨0, Nat.zero_le _, rfl, Lib.hid (by simp)⟩
 case round =>
  obtain ⟨k, hk, rfl, HN⟩ := hrel
  by_cases hlt : k < ks.length
  ·obtain ⟨g, o, rfl, _, hc⟩ := keys_at HK.out hlt
   obtain ⟨y, hy⟩ : ∃ y, ks[k] = y := ⟨_, rfl⟩
   rw [hy] at hc
   by_cases he : y = x
   ·have HR : Hid (keyR ks x = (k : Int)) := Lib.hid (keyR_here hlt HN.out (by rw [hy, he]))
    have heq : (y == x) = true := by rw [he]; simp
    clear hy
    go_wp2
    go_ret
    exact ⟨by rw [HKS.out, HR.out]; try rfl, HBA.out⟩
   ·have heq : (y == x) = false := by simpa using he
    have HN2 : Hid (x ∉ ks.take (k + 1)) := Lib.hid (by
     rw [List.take_succ_eq_append_getElem hlt, hy]
     intro hm
     rcases List.mem_append.1 hm with h1 | h1
     ·exact HN.out h1
     ·simp at h1
      exact he h1.symm)
    clear hy he
    go_wp2
    go_round
    case rel => exact ⟨k + 1, by omega, by go_num, HN2⟩
    case measure => simp [intOf]; omega
  ·obtain rfl : k = ks.length := by omega
   have HR : Hid (keyR ks x = -1) := Lib.hid (keyR_no (by have := HN.out; rw [List.take_length] at this; exact this))
   go_wp2
   go_ret
   exact ⟨by rw [HKS.out, HR.out]; try rfl, HBA.out⟩
end Nd
end Go.Proofs.YtobaldkipnhlpaaGreatDoor
namespace Go.Proofs.YtobaldkipnhlpaaGreatDoor
open Go.RowKit Mem Idx Tok
namespace Nd
theorem six_below {w w' : World} {P : Nat} (h : Below w.heap.size w w') (hP : w.heap.size ≤ P) (a b c d e f : Value) : Below w.heap.size w (six w' P a b c d e f) :=
 below_put (below_put (below_put (below_put (below_put (below_put h hP) hP) hP) hP) hP) hP
theorem kn_le {t : Tr} (ho : t.Ok) (hf : t.fit = true) : t.kn.length ≤ 65536 := by
 have h1 := kids_le hf
 cases t with
 | obj ks l =>
  unfold Tr.Ok at ho
  have : l.length ≤ 65536 := h1
  show ks.length ≤ 65536
  omega
 | null => exact Nat.zero_le _
 | flag b => exact Nat.zero_le _
 | num x => exact Nat.zero_le _
 | text s => exact Nat.zero_le _
 | list l => exact Nat.zero_le _
end Nd
end Go.Proofs.YtobaldkipnhlpaaGreatDoor
namespace Go.Proofs.YtobaldkipnhlpaaGreatDoor
open Go.RowKit Mem
namespace Nd
theorem runT_ne : ∀ (ss : List Stp) (l : List Tr) (i n j : Nat) (m : Int), runT l ss i = .inl (m, n) → m ≠ 0
 | [], l, i, n, j, m, h => by rw [runT] at h; cases h
 | s :: ss, l, i, n, j, m, h => by
  rw [runT] at h
  by_cases h0 : (doT l s).1 = 0
  ·rw [if_pos h0] at h
   exact runT_ne ss _ _ _ j _ h
  ·rw [if_neg h0] at h
   injection h with h
   injection h with h1 h2
   rw [← h1]
   exact h0
theorem buildT_ne {ss : List Stp} {n i : Int} (h : buildT ss = .inl (n, i)) : n ≠ 0 := by
 unfold buildT at h
 by_cases hl : 65536 < ss.length
 ·rw [if_pos hl] at h
  injection h with h
  injection h with h1 h2
  omega
 ·rw [if_neg hl] at h
  cases hr : runT [] ss 0 with
  | inl x =>
   rw [hr] at h
   injection h with h
   injection h with h1 h2
   have := runT_ne ss [] 0 x.2 0 x.1 hr
   rw [← h1]
   exact this
  | inr l =>
   rw [hr] at h
   match l, h with
   | [], h => injection h with h; injection h with h1 h2; omega
   | [t], h => cases h
   | _ :: _ :: _, h => injection h with h; injection h with h1 h2; omega
theorem refBuild_all (v : Value) (ss : List Stp) (w : World) (hS : RdS w v ss) (hF : ∀ s ∈ ss, s.Fine) (hC : ∀ s ∈ ss, s.Cnt) : Calls Tryz.prog 20 #[v] w (RBuildP ss w) := by
 by_cases hn : ss.length ≤ 65536
 ·exact refBuild_any v ss w hS hF hC hn
 ·exact refBuild_long v ss w hS (by omega)
def ValueP (ss : List Stp) (w : World) (e : Ending) (w' : World) : Prop :=
 Below w.heap.size w w' ∧ match buildT ss with
  | .inl _ => e = .returned (.tuple #[noVal, .bool false])
  | .inr t => ∃ A c K d, e = .returned (.tuple #[valV t A c K d, .bool true]) ∧ RdVA w' t ((A, c), (K, d))
theorem valueP_no {ss : List Stp} {w w' : World} {x : Int × Int} (h : buildT ss = .inl x) (hb : Below w.heap.size w w') : ValueP ss w (.returned (.tuple #[noVal, .bool false])) w' := by
 unfold ValueP
 rw [h]
 exact ⟨hb, rfl⟩
theorem valueP_yes {ss : List Stp} {w w' : World} {t : Tr} (h : buildT ss = .inr t) {A : Option Addr} {c : Nat} {K : Option Addr} {d : Nat} (hr : RdVA w' t ((A, c), (K, d))) (hb : Below w.heap.size w w') : ValueP ss w (.returned (.tuple #[valV t A c K d, .bool true])) w' := by
 unfold ValueP
 rw [h]
 exact ⟨hb, A, c, K, d, rfl, hr⟩
end Nd
end Go.Proofs.YtobaldkipnhlpaaGreatDoor
namespace Go.Proofs.YtobaldkipnhlpaaGreatDoor
open Go.RowKit Mem
namespace Nd
theorem value25_any (v : Value) (ss : List Stp) (w : World) (hS : RdS w v ss) (hF : ∀ s ∈ ss, s.Fine) (hC : ∀ s ∈ ss, s.Cnt) (hn : ss.length ≤ 1048576) : Calls Tryz.prog 5 #[v] w (ValueP ss w) := by
 have hba : Below w.heap.size w (w.alloc (.cells #[.int .i64 0, .bool false, .int .u64 0, .string ⟨#[]⟩, .slice none 0 0, .slice none 0 0] 34)) := (Below.refl _ _).alloc (Nat.le_refl _) _
 have hB2 := Blk.new w 34 #[.int .i64 0, .bool false, .int .u64 0, .string ⟨#[]⟩, .slice none 0 0, .slice none 0 0]
 have hsz : (w.alloc (.cells #[.int .i64 0, .bool false, .int .u64 0, .string ⟨#[]⟩, .slice none 0 0, .slice none 0 0] 34)).heap.size = w.heap.size + 1 := by simp
 have hS1 := hS.below hba
 have hS0 := hS1
 obtain ⟨A, c, rfl, _⟩ := hS0
 obtain ⟨es, hes, hec⟩ := rds_es hS1
 have hel : es.length = ss.length := by rw [← hes]; simp
 obtain ⟨i0, hi0, hz0, hz1, hz2⟩ := info_parts info_rstep
 have HES := Lib.hid (And.intro hes hec)
 have HEL := Lib.hid hel
 have HFC := Lib.hid (And.intro hF hC)
 have HB2 := Lib.hid hB2
 have HBA := Lib.hid hba
 have hnn : ss.length < 1048577 := by omega
 clear hS hS1 hes hec hel hn hF hC hba hB2
 go_enter Tryz.func5, Tryz.ntmps5
 go_wp2_with fail
 generalize (w.alloc (.cells #[.int .i64 0, .bool false, .int .u64 0, .string ⟨#[]⟩, .slice none 0 0, .slice none 0 0] 34)) = w1 at *
 go_loopw [4, 12] (fun c4 c12 wr => ∃ k : Nat, k ≤ ss.length ∧ c12 = .int .i64 k ∧ Hid (wr.ownsRow w1.heap.size 90 6 c4 k (cellsE (es.take k)) ∧ Below w1.heap.size w1 wr)) (fun _ c12 _ => ss.length - (intOf c12).toNat)
 case atStart => exact ⟨0, Nat.zero_le _, rfl, Lib.hid ⟨World.ownsRow_nil _ _ _ _, Below.refl _ _⟩⟩
 case round =>
  obtain ⟨k, hk, rfl, HI⟩ := hrel
  have hbs := HI.out.2.size
  by_cases hlt : k < ss.length
  ·obtain ⟨g, o, K, q, rfl, hC, hek⟩ := HES.out.2 k hlt
   have hsn := cellsE_snoc es k _ hek
   obtain ⟨c0, c1, c2, c3, c4, c5, ck⟩ := hC.below HI.out.2
   have HSN := Lib.hid hsn
   clear ck hC hek hsn
   generalize ss[k] = s at *
   obtain ⟨A3, q3, rfl⟩ := own_slice HI.out.1
   have hba : Below wr.heap.size wr (wr.alloc (.cells #[.int .i64 s.sort, .bool s.flag, .int .u64 (s.bits : Int), .string ⟨s.text.toArray⟩, .int .i64 s.count, .slice K s.keys.length q] 80)) := (Below.refl _ _).alloc (Nat.le_refl _) _
   have ho9 : ((wr.alloc (.cells #[.int .i64 s.sort, .bool s.flag, .int .u64 (s.bits : Int), .string ⟨s.text.toArray⟩, .int .i64 s.count, .slice K s.keys.length q] 80)).alloc (.cells #[.int .i64 s.sort, .bool s.flag, .int .u64 (s.bits : Int), .string ⟨s.text.toArray⟩, .int .i64 s.count, .slice K s.keys.length q] 90)).ownsRow w1.heap.size 90 6 (.slice A3 k q3) k (cellsE (es.take k)) := own_below (own_below HI.out.1 hba) ((Below.refl _ _).alloc (Nat.le_refl _) _)
   have hcn := cells_new (wr.alloc (.cells #[.int .i64 s.sort, .bool s.flag, .int .u64 (s.bits : Int), .string ⟨s.text.toArray⟩, .int .i64 s.count, .slice K s.keys.length q] 80)) (cell6 s K q) 90
   rw [World.size_alloc] at hcn
   have HBB := Lib.hid (HI.out.2.trans ((hba.alloc hba.size (.cells #[.int .i64 s.sort, .bool s.flag, .int .u64 (s.bits : Int), .string ⟨s.text.toArray⟩, .int .i64 s.count, .slice K s.keys.length q] 90)).mono hbs))
   go_wp2_with (at_builtin; refine wpList_append_own_at _ rfl _ _ 88 rfl w1.heap.size 90 i0 _ 6 72 Tryz.underlying88 hi0 hz0 hz1 hz2 rfl (by omega) (.slice A3 k q3) k (cellsE (es.take k)) rfl ho9 ⟨wr.heap.size + 1, 0, none⟩ 1 1 (cell6 s K q) rfl rfl hcn (cell6_one s K q) ?b1 ?b2 ?b3 ?_; (unfold maxLen; omega); omega; (simp; omega); intro v9 w9 hown9 hgr9 hnil9 hat9)
   have hb9 : Below w1.heap.size w1 w9 := HBB.out.grown hgr9 (by simp; omega) (fun j hj => (own_typed ho9 j hj).1)
   have HN : Hid (w9.ownsRow w1.heap.size 90 6 v9 (k + 1) (cellsE (es.take (k + 1))) ∧ Below w1.heap.size w1 w9) := Lib.hid ⟨by rw [HSN.out]; exact hown9, hb9⟩
   clear hown9 hgr9 hnil9 hat9 hb9 ho9
   go_roundw
   case rel => exact ⟨k + 1, by omega, by go_num, HN⟩
   case measure => simp [intOf]; omega
  ·obtain rfl : k = ss.length := by omega
   have hfin : RdS wr u4 ss := by
    have h1 := HI.out.1
    rw [← HEL.out, List.take_of_length_le (Nat.le_refl _)] at h1
    have h2 := own_rds h1 (fun e he => by
     obtain ⟨j, hj, hje⟩ := List.getElem_of_mem he
     obtain ⟨g, o, K, q, _, hC, hek⟩ := HES.out.2 j (by rw [← HEL.out]; exact hj)
     rw [List.getElem?_eq_getElem hj, hje] at hek
     injection hek with hek
     rw [hek]
     exact ⟨hC.ks.below HI.out.2, hC.kc⟩)
    rw [HES.out.1] at h2
    exact h2
   have HFI := Lib.hid hfin
   clear hfin
   go_wp2_with fail
   ((with_reducible refine (refBuild_all u4 ss _ HFI.out HFC.out.1 HFC.out.2).mono ?_); rintro e w2 ⟨hb2, he⟩)
   have hb12 := HI.out.2.trans (hb2.mono hbs)
   have blk2 := HB2.out.below hb12 (by omega)
   have BLK2 := Lib.hid blk2
   have HBW := Lib.hid (HBA.out.trans (hb12.mono (by omega)))
   have hs2 := blk2.lt
   clear hb12 hb2
   cases hbt : buildT ss with
   | inl x =>
    rw [hbt] at he
    obtain rfl := he
    have hx0 := buildT_ne hbt
    have hx1 : (x.1 == 0) = false := by simpa using hx0
    have HBT := Lib.hid hbt
    clear hbt hx0
    have z0 : w2.cell? ⟨w.heap.size, 0, none⟩ = some (.int .i64 0) := blk2.cell 0
    have z1 : w2.cell? ⟨w.heap.size, 1, none⟩ = some (.bool false) := blk2.cell 1
    have z2 : w2.cell? ⟨w.heap.size, 2, none⟩ = some (.int .u64 0) := blk2.cell 2
    have z3 : w2.cell? ⟨w.heap.size, 3, none⟩ = some (.string ⟨#[]⟩) := blk2.cell 3
    have z4 : w2.cell? ⟨w.heap.size, 4, none⟩ = some (.slice none 0 0) := blk2.cell 4
    have z5 : w2.cell? ⟨w.heap.size, 5, none⟩ = some (.slice none 0 0) := blk2.cell 5
    have q0 := blk2.frozen 0
    have q1 := blk2.frozen 1
    have q2 := blk2.frozen 2
    have q3 := blk2.frozen 3
    have q4 := blk2.frozen 4
    have q5 := blk2.frozen 5
    clear blk2
    go_wp2
    have hf := (six_blk BLK2.out (.int .i64 0) (.bool false) (.int .u64 0) (.string ⟨#[]⟩) (.slice none 0 0) (.slice none 0 0)).alloc (.cells #[.int .i64 0, .bool false, .int .u64 0, .string ⟨#[]⟩, .slice none 0 0, .slice none 0 0] 34)
    have hbel := (six_below HBW.out (Nat.le_refl w.heap.size) (.int .i64 0) (.bool false) (.int .u64 0) (.string ⟨#[]⟩) (.slice none 0 0) (.slice none 0 0)).alloc (by have := HBW.out.size; simp [six]; omega) (.cells #[.int .i64 0, .bool false, .int .u64 0, .string ⟨#[]⟩, .slice none 0 0, .slice none 0 0] 34)
    unfold six at hf hbel
    generalize ((((((w2.setCell ⟨w.heap.size, 0, none⟩ (.int .i64 0)).setCell ⟨w.heap.size, 1, none⟩ (.bool false)).setCell ⟨w.heap.size, 2, none⟩ (.int .u64 0)).setCell ⟨w.heap.size, 3, none⟩ (.string ⟨#[]⟩)).setCell ⟨w.heap.size, 4, none⟩ (.slice none 0 0)).setCell ⟨w.heap.size, 5, none⟩ (.slice none 0 0)).alloc (.cells #[.int .i64 0, .bool false, .int .u64 0, .string ⟨#[]⟩, .slice none 0 0, .slice none 0 0] 34) = wf at *
    have dd0 : wf.cell? ⟨w.heap.size, 0, none⟩ = some (.int .i64 0) := hf.cell 0
    have dd1 : wf.cell? ⟨w.heap.size, 1, none⟩ = some (.bool false) := hf.cell 1
    have dd2 : wf.cell? ⟨w.heap.size, 2, none⟩ = some (.int .u64 0) := hf.cell 2
    have dd3 : wf.cell? ⟨w.heap.size, 3, none⟩ = some (.string ⟨#[]⟩) := hf.cell 3
    have dd4 : wf.cell? ⟨w.heap.size, 4, none⟩ = some (.slice none 0 0) := hf.cell 4
    have dd5 : wf.cell? ⟨w.heap.size, 5, none⟩ = some (.slice none 0 0) := hf.cell 5
    refine bodyPost_ret (v := .tuple #[noVal, .bool false]) ?_ rfl (valueP_no HBT.out hbel)
    simp [results, Tryz.results5, go_sem, dd0, dd1, dd2, dd3, dd4, dd5]
   | inr t =>
    rw [hbt] at he
    obtain ⟨A2, c2, K2, d2, rfl, hrd⟩ := he
    have HRD := Lib.hid hrd
    have HBT := Lib.hid hbt
    clear hbt hrd
    have z0 : w2.cell? ⟨w.heap.size, 0, none⟩ = some (.int .i64 0) := blk2.cell 0
    have z1 : w2.cell? ⟨w.heap.size, 1, none⟩ = some (.bool false) := blk2.cell 1
    have z2 : w2.cell? ⟨w.heap.size, 2, none⟩ = some (.int .u64 0) := blk2.cell 2
    have z3 : w2.cell? ⟨w.heap.size, 3, none⟩ = some (.string ⟨#[]⟩) := blk2.cell 3
    have z4 : w2.cell? ⟨w.heap.size, 4, none⟩ = some (.slice none 0 0) := blk2.cell 4
    have z5 : w2.cell? ⟨w.heap.size, 5, none⟩ = some (.slice none 0 0) := blk2.cell 5
    have q0 := blk2.frozen 0
    have q1 := blk2.frozen 1
    have q2 := blk2.frozen 2
    have q3 := blk2.frozen 3
    have q4 := blk2.frozen 4
    have q5 := blk2.frozen 5
    clear blk2
    go_wp2
    have hf := (six_blk BLK2.out (.int .i64 (t.srt : Nat)) (.bool t.fl) (.int .u64 (t.bi : Nat)) (.string ⟨t.tx.toArray⟩) (.slice A2 t.kids.length c2) (.slice K2 t.kn.length d2)).alloc (.cells #[.int .i64 (t.srt : Nat), .bool t.fl, .int .u64 (t.bi : Nat), .string ⟨t.tx.toArray⟩, .slice A2 t.kids.length c2, .slice K2 t.kn.length d2] 34)
    have hbel := (six_below HBW.out (Nat.le_refl w.heap.size) (.int .i64 (t.srt : Nat)) (.bool t.fl) (.int .u64 (t.bi : Nat)) (.string ⟨t.tx.toArray⟩) (.slice A2 t.kids.length c2) (.slice K2 t.kn.length d2)).alloc (by have := HBW.out.size; simp [six]; omega) (.cells #[.int .i64 (t.srt : Nat), .bool t.fl, .int .u64 (t.bi : Nat), .string ⟨t.tx.toArray⟩, .slice A2 t.kids.length c2, .slice K2 t.kn.length d2] 34)
    have hg6 := grown_alloc (six_grown w2 w.heap.size (.int .i64 (t.srt : Nat)) (.bool t.fl) (.int .u64 (t.bi : Nat)) (.string ⟨t.tx.toArray⟩) (.slice A2 t.kids.length c2) (.slice K2 t.kn.length d2)) (.cells #[.int .i64 (t.srt : Nat), .bool t.fl, .int .u64 (t.bi : Nat), .string ⟨t.tx.toArray⟩, .slice A2 t.kids.length c2, .slice K2 t.kn.length d2] 34)
    unfold six at hf hbel hg6
    generalize ((((((w2.setCell ⟨w.heap.size, 0, none⟩ (.int .i64 (t.srt : Nat))).setCell ⟨w.heap.size, 1, none⟩ (.bool t.fl)).setCell ⟨w.heap.size, 2, none⟩ (.int .u64 (t.bi : Nat))).setCell ⟨w.heap.size, 3, none⟩ (.string ⟨t.tx.toArray⟩)).setCell ⟨w.heap.size, 4, none⟩ (.slice A2 t.kids.length c2)).setCell ⟨w.heap.size, 5, none⟩ (.slice K2 t.kn.length d2)).alloc (.cells #[.int .i64 (t.srt : Nat), .bool t.fl, .int .u64 (t.bi : Nat), .string ⟨t.tx.toArray⟩, .slice A2 t.kids.length c2, .slice K2 t.kn.length d2] 34) = wf at *
    have dd0 : wf.cell? ⟨w.heap.size, 0, none⟩ = some (.int .i64 (t.srt : Nat)) := hf.cell 0
    have dd1 : wf.cell? ⟨w.heap.size, 1, none⟩ = some (.bool t.fl) := hf.cell 1
    have dd2 : wf.cell? ⟨w.heap.size, 2, none⟩ = some (.int .u64 (t.bi : Nat)) := hf.cell 2
    have dd3 : wf.cell? ⟨w.heap.size, 3, none⟩ = some (.string ⟨t.tx.toArray⟩) := hf.cell 3
    have dd4 : wf.cell? ⟨w.heap.size, 4, none⟩ = some (.slice A2 t.kids.length c2) := hf.cell 4
    have dd5 : wf.cell? ⟨w.heap.size, 5, none⟩ = some (.slice K2 t.kn.length d2) := hf.cell 5
    refine bodyPost_ret (v := .tuple #[valV t A2 c2 K2 d2, .bool true]) ?_ rfl (valueP_yes HBT.out (A := A2) (c := c2) (K := K2) (d := d2) (RdV.move (fun k hk hs => ⟨trivial, hg6.block k hk (by have h9 : wr.heap.size ≤ k := hs; intro e; injection e with e; omega)⟩) _ _ HRD.out) hbel)
    simp [results, Tryz.results5, go_sem, dd0, dd1, dd2, dd3, dd4, dd5]
end Nd
end Go.Proofs.YtobaldkipnhlpaaGreatDoor
namespace Go.Proofs.YtobaldkipnhlpaaGreatDoor
open Go.RowKit Mem Utf Ref3 Tok Cl
namespace Nd
theorem rread_any (b : Nat → Bool) (x : Nat → Txt) (n : Nat → Int) (l : Nat → Value) (k : Nat) (t : Tr) (A : Option Addr) (c : Nat) (K : Option Addr) (d : Nat) (w : World) (h : RdVA w t ((A, c), (K, d))) (hl : ∀ i, i < 8 → (l i).oneCell' = true) (ho : t.Ok) (hf : t.fit = true) (hk : k < 8) :
  Calls Tryz.prog 30 #[.agg (rCells b x n l), .int .i64 (k : Int), valV t A c K d, .string ⟨(path k).toArray⟩] w (RReadP b x n l k t w) := by
 have hbi : t.bi < 18446744073709551616 := by
  cases t with
  | num x =>
   unfold Tr.Ok at ho
   exact ho.2.2
  | _ => exact (by decide : (0 : Nat) < 18446744073709551616)
 have hkn := kids_le hf
 have htx : t.tx.length ≤ 4398046511104 := by
  have hb := (fit_le hf).2.1
  cases t with
  | text s =>
   have hb' : s.length ≤ 2097152 := hb
   show s.length ≤ _
   omega
  | _ => exact Nat.zero_le _
 rcases kinds8 hk with hk | hk | hk | hk
 ·exact rread_text b x n l k t A c K d w h hl hbi hkn htx hk
 ·exact rread_time b x n l k t A c K d w h hl hbi hkn htx hk
 ·exact rread_list3 b x n l k t A c K d w h hl hbi hkn htx hk
 ·exact rread_list6 b x n l k t A c K d w h hl hbi hkn htx hk
theorem setK_ok {c c' : C} {k : Nat} {t : Tr} (hk : k < 8) (h : setK c k t = .inr c') (e : C) : ∃ e', setK e k t = .inr e' := by
 rcases below8 hk with rfl | rfl | rfl | rfl | rfl | rfl | rfl | rfl
 ·rw [setK_0] at h ⊢
  cases hx : textK 0 t with
  | inl y => rw [hx] at h; cases h
  | inr s => exact ⟨_, rfl⟩
 ·rw [setK_1] at h ⊢
  cases hx : timeK 1 t with
  | inl y => rw [hx] at h; cases h
  | inr s => exact ⟨_, rfl⟩
 ·rw [setK_2] at h ⊢
  cases hx : textK 2 t with
  | inl y => rw [hx] at h; cases h
  | inr s => exact ⟨_, rfl⟩
 ·rw [setK_3] at h ⊢
  cases hx : listK 3 true t with
  | inl y => rw [hx] at h; cases h
  | inr s => exact ⟨_, rfl⟩
 ·rw [setK_4] at h ⊢
  cases hx : timeK 4 t with
  | inl y => rw [hx] at h; cases h
  | inr s => exact ⟨_, rfl⟩
 ·rw [setK_5] at h ⊢
  cases hx : textK 5 t with
  | inl y => rw [hx] at h; cases h
  | inr s => exact ⟨_, rfl⟩
 ·rw [setK_6] at h ⊢
  cases hx : listK 6 false t with
  | inl y => rw [hx] at h; cases h
  | inr s => exact ⟨_, rfl⟩
 ·rw [setK_7] at h ⊢
  cases hx : timeK 7 t with
  | inl y => rw [hx] at h; cases h
  | inr s => exact ⟨_, rfl⟩
theorem dc_withHas {c : C} {v4 v7 : Value} {x : Nat → Txt} {n : Nat → Int} {l : Nat → Value} (h : DC c v4 v7 x n l) (k : Nat) : DC (withHas c k) v4 v7 x n l := by
 refine ⟨fun i hi => ?_, fun i hi => ?_, h.hl⟩
 ·have hx := h.hx i hi
  rcases below8 hi with rfl | rfl | rfl | rfl | rfl | rfl | rfl | rfl <;> exact hx
 ·have hn := h.hn i hi
  rcases below8 hi with rfl | rfl | rfl | rfl | rfl | rfl | rfl | rfl <;> exact hn
def bAt (t : Tr) (k i : Nat) : Bool := decide (i < k) && thereT t i
theorem bAt_zero (t : Tr) : (fun i => bAt t 0 i) = fun _ => false := by
 funext i
 unfold bAt
 simp
theorem bAt_no {t : Tr} {k : Nat} (h : thereT t k = false) : bAt t (k + 1) = bAt t k := by
 funext i
 unfold bAt
 by_cases hi : i = k
 ·subst hi
  simp [h]
 ·have : decide (i < k + 1) = decide (i < k) := by rw [decide_eq_decide]; omega
  rw [this]
theorem bAt_yes {t : Tr} {k : Nat} (h : thereT t k = true) : upd (bAt t k) k true = bAt t (k + 1) := by
 funext i
 unfold bAt upd
 by_cases hi : i = k
 ·subst hi
  simp [h]
 ·have : decide (i < k + 1) = decide (i < k) := by rw [decide_eq_decide]; omega
  rw [if_neg hi, this]
theorem info_trail : (Tryz.prog.info? 124).map (fun i => (i.zero, i.size, i.bytes)) = some (some (.agg #[.int .i64 0, .string ⟨#[]⟩]), 2, 24) := by kernel_rfl
def trCells (l : List (Int × Txt)) : List Value := l.flatMap fun x => [.int .i64 x.1, .string ⟨x.2.toArray⟩]
theorem trCells_snoc (l : List (Int × Txt)) (n : Int) (p : Txt) : trCells (l ++ [(n, p)]) = trCells l ++ [.int .i64 n, .string ⟨p.toArray⟩] := by
 unfold trCells
 rw [List.flatMap_append]
 simp
theorem own_frameS {w w' : World} {B B' n size : Nat} {e : TypeId} {v : Value} {xs : List Value} (h : w.ownsRow B e size v n xs) (hB : B' ≤ B) (hf : ∀ g t cs, B ≤ g → Blk w g t cs → Blk w' g t cs) : w'.ownsRow B' e size v n xs := by
 obtain ⟨h1, h2⟩ := h
 refine ⟨h1, ?_⟩
 rcases h2 with h2 | ⟨g, cap, cur, a, b, c, d⟩
 ·exact .inl h2
 ·exact .inr ⟨g, cap, cur, a, Nat.le_trans hB b, hf g e cur b c, d⟩
theorem cat_key (k : Nat) (hk : k < 8) (W : World) : (binOp .add 9 (.string ⟨#[47]⟩) (.string ⟨(key k).toArray⟩)).run Tryz.prog W = .ok (.string ⟨(path k).toArray⟩) W := by
 rcases below8 hk with rfl | rfl | rfl | rfl | rfl | rfl | rfl | rfl <;> kernel_rfl
def RefReadP (t : Tr) (w : World) (e : Ending) (w' : World) : Prop :=
 (∃ x n l v, e = .returned (.tuple #[.agg (rCells (thereT t) x n l), v]) ∧ (∀ i, i < 8 → (l i).oneCell' = true) ∧ w'.ownsRow w.heap.size 124 2 v (readC t).2.length (trCells (readC t).2) ∧
  ((readC t).2 = [] → ∃ u4 u7, DC (readC t).1 u4 u7 x n l ∧ OwnT w.heap.size w' u4 (readC t).1.for_ ∧ OwnT w.heap.size w' u7 (readC t).1.may_)) ∧ Below w.heap.size w w'
def RIn (t : Tr) (A : Option Addr) (c : Nat) (K : Option Addr) (d : Nat) (w : World) (gK k : Nat) (v5 : Value) (wr : World) : Prop :=
 (Blk wr w.heap.size 34 #[.int .i64 (t.srt : Nat), .bool t.fl, .int .u64 (t.bi : Nat), .string ⟨t.tx.toArray⟩, .slice A t.kids.length c, .slice K t.kn.length d] ∧ Blk wr (w.heap.size + 1) 58 zero32 ∧ Blk wr gK 54 keyCells ∧ Below w.heap.size w wr ∧ gK < wr.heap.size ∧ w.heap.size + 3 ≤ gK) ∧
 wr.ownsRow (gK + 1) 124 2 v5 (readAt t k).2.length (trCells (readAt t k).2) ∧
 ∃ x n l, Blk wr (w.heap.size + 2) 58 (rCells (bAt t k) x n l) ∧ (∀ i, i < 8 → (l i).oneCell' = true) ∧
  ((readAt t k).2 = [] → ∃ u4 u7, DC (readAt t k).1 u4 u7 x n l ∧ OwnT (gK + 1) wr u4 (readAt t k).1.for_ ∧ OwnT (gK + 1) wr u7 (readAt t k).1.may_)
theorem blk_range {w : World} {g : Nat} {t : TypeId} {cs : Array Value} (h : Blk w g t cs) : w.rangeAt g 0 cs.toList := by
 intro j v hv
 rw [Nat.zero_add, h.cell j]
 simpa using hv
theorem range_kid {u : Tr} {A' K' : Option Addr} {c' d' : Nat} {w W : World} {g9 o9 : Nat} (h : CellsV w g9 o9 u ((A', c'), (K', d'))) (hb : Below w.heap.size w W) : W.rangeAt g9 o9 (cellV u ((A', c'), (K', d'))) := by
 obtain ⟨e0, e1, e2, e3, e4, e5⟩ := h
 intro j v hv
 have hj : j < 6 := (List.getElem?_eq_some_iff.1 hv).1
 have keep : ∀ b o x, w.cell? ⟨b, o, none⟩ = some x → W.cell? ⟨b, o, none⟩ = some x := fun b o x h => ((old hb).1 _ _ (World.block_lt_of_cell? _ _ h)).trans h
 have h6 : j = 0 ∨ j = 1 ∨ j = 2 ∨ j = 3 ∨ j = 4 ∨ j = 5 := by omega
 rcases h6 with rfl | rfl | rfl | rfl | rfl | rfl <;> injection hv with hv <;> subst hv
 ·exact keep _ _ _ e0
 ·exact keep _ _ _ e1
 ·exact keep _ _ _ e2
 ·exact keep _ _ _ e3
 ·exact keep _ _ _ e4
 ·exact keep _ _ _ e5
theorem onR_kn {t : Tr} (hs : (t.srt : Int) = 6) (x : Tx) : onR x t = keyR t.kn x := by
 cases t with
 | obj ks l => rfl
 | _ => simp [Tr.srt] at hs
theorem rin_below {t : Tr} {A : Option Addr} {c : Nat} {K : Option Addr} {d : Nat} {w wr w5 : World} {gK k : Nat} {v5 : Value} (h : RIn t A c K d w gK k v5 wr) (hb : Below wr.heap.size wr w5) : RIn t A c K d w gK k v5 w5 := by
 obtain ⟨⟨h1, h2, h3, h4, h5, h6⟩, ho, x, n, l, hB, hl, hz⟩ := h
 refine ⟨⟨h1.below hb h1.lt, h2.below hb h2.lt, h3.below hb h3.lt, h4.trans (hb.mono h4.size), Nat.lt_of_lt_of_le h5 hb.size, h6⟩, own_below ho hb, x, n, l, hB.below hb hB.lt, hl, fun he => ?_⟩
 obtain ⟨u4, u7, hd, o4, o7⟩ := hz he
 exact ⟨u4, u7, hd, own_below o4 hb, own_below o7 hb⟩
theorem rin_skip {t : Tr} {A : Option Addr} {c : Nat} {K : Option Addr} {d : Nat} {w wr : World} {gK k : Nat} {v5 : Value} (h : RIn t A c K d w gK k v5 wr) (hn : onT (key k) t = none) : RIn t A c K d w gK (k + 1) v5 wr := by
 obtain ⟨h1, h2, x, n, l, h3, h4, h5⟩ := h
 have hr := readAt_none hn
 have ht : thereT t k = false := by unfold thereT; rw [hn]; rfl
 exact ⟨h1, by rw [hr]; exact h2, x, n, l, by rw [bAt_no ht]; exact h3, h4, by rw [hr]; exact h5⟩
def RMid (t : Tr) (A : Option Addr) (c : Nat) (K : Option Addr) (d : Nat) (w : World) (gK k : Nat) (v5 : Value) (en : Int) (ep : Txt) (wr : World) : Prop :=
 (Blk wr w.heap.size 34 #[.int .i64 (t.srt : Nat), .bool t.fl, .int .u64 (t.bi : Nat), .string ⟨t.tx.toArray⟩, .slice A t.kids.length c, .slice K t.kn.length d] ∧ Blk wr (w.heap.size + 1) 58 zero32 ∧ Blk wr gK 54 keyCells ∧ Below w.heap.size w wr ∧ gK < wr.heap.size ∧ w.heap.size + 3 ≤ gK) ∧
 wr.ownsRow (gK + 1) 124 2 v5 (readAt t k).2.length (trCells (readAt t k).2) ∧
 ∃ x n l, Blk wr (w.heap.size + 2) 58 (rCells (bAt t (k + 1)) x n l) ∧ (∀ i, i < 8 → (l i).oneCell' = true) ∧
  (en = 0 → (readAt t (k + 1)).2 = (readAt t k).2 ∧ ((readAt t (k + 1)).2 = [] → ∃ u4 u7, DC (readAt t (k + 1)).1 u4 u7 x n l ∧ OwnT (gK + 1) wr u4 (readAt t (k + 1)).1.for_ ∧ OwnT (gK + 1) wr u7 (readAt t (k + 1)).1.may_)) ∧
  (en ≠ 0 → (readAt t (k + 1)).2 = (readAt t k).2 ++ [(en, ep)])
theorem rmid_in {t : Tr} {A : Option Addr} {c : Nat} {K : Option Addr} {d : Nat} {w wr : World} {gK k : Nat} {v5 : Value} {ep : Txt} (h : RMid t A c K d w gK k v5 0 ep wr) : RIn t A c K d w gK (k + 1) v5 wr := by
 obtain ⟨h1, h2, x, n, l, h3, h4, h5, _⟩ := h
 obtain ⟨h5, h6⟩ := h5 rfl
 exact ⟨h1, by rw [h5]; exact h2, x, n, l, h3, h4, h6⟩
theorem rmid_app {t : Tr} {A : Option Addr} {c : Nat} {K : Option Addr} {d : Nat} {w wr w9 : World} {gK k : Nat} {v5 v9 : Value} {en : Int} {ep : Txt} {row : Option Nat} (h : RMid t A c K d w gK k v5 en ep wr) (hne : en ≠ 0) (hg : wr.grownBy w9 row) (hrow : ∀ g, row = some g → gK + 1 ≤ g)
  (ho : w9.ownsRow (gK + 1) 124 2 v9 ((readAt t k).2 ++ [(en, ep)]).length (trCells ((readAt t k).2 ++ [(en, ep)]))) (hs : wr.heap.size ≤ w9.heap.size) : RIn t A c K d w gK (k + 1) v9 w9 := by
 obtain ⟨⟨h1, h2, h3, h4, h5, h6⟩, _, x, n, l, hB, hl, _, h7⟩ := h
 have h7 := h7 hne
 have hfar : ∀ g, g ≤ gK → some g ≠ row := fun g hg' he => by
  have := hrow g he.symm
  omega
 refine ⟨⟨h1.only hg (hfar _ (by omega)), h2.only hg (hfar _ (by omega)), h3.only hg (hfar _ (Nat.le_refl _)), h4.grown hg (by omega) (fun q hq => by have := hrow q hq; omega), by omega, h6⟩, by rw [h7]; exact ho, x, n, l, hB.only hg (hfar _ (by omega)), hl, fun he => ?_⟩
 rw [h7] at he
 simp at he
theorem rmid_below {t : Tr} {A : Option Addr} {c : Nat} {K : Option Addr} {d : Nat} {w wr w5 : World} {gK k : Nat} {v5 : Value} {en : Int} {ep : Txt} (h : RMid t A c K d w gK k v5 en ep wr) (hb : Below wr.heap.size wr w5) : RMid t A c K d w gK k v5 en ep w5 := by
 obtain ⟨⟨h1, h2, h3, h4, h5, h6⟩, ho, x, n, l, hB, hl, hz, hy⟩ := h
 refine ⟨⟨h1.below hb h1.lt, h2.below hb h2.lt, h3.below hb h3.lt, h4.trans (hb.mono h4.size), Nat.lt_of_lt_of_le h5 hb.size, h6⟩, own_below ho hb, x, n, l, hB.below hb hB.lt, hl, fun he => ?_, hy⟩
 obtain ⟨h7, h8⟩ := hz he
 refine ⟨h7, fun he => ?_⟩
 obtain ⟨u4, u7, hd, o4, o7⟩ := h8 he
 exact ⟨u4, u7, hd, own_below o4 hb, own_below o7 hb⟩
theorem rmid_of {t u : Tr} {A : Option Addr} {c : Nat} {K : Option Addr} {d : Nat} {w w5 W6 w9 : World} {gK k : Nat} {v5 : Value} {x x' : Nat → Txt} {n n' : Nat → Int} {l l' : Nat → Value} {en : Int} {ep : Txt} (hk : k < 8) (hu : onT (key k) t = some u)
  (h1 : Blk w5 w.heap.size 34 #[.int .i64 (t.srt : Nat), .bool t.fl, .int .u64 (t.bi : Nat), .string ⟨t.tx.toArray⟩, .slice A t.kids.length c, .slice K t.kn.length d] ∧ Blk w5 (w.heap.size + 1) 58 zero32 ∧ Blk w5 gK 54 keyCells ∧ Below w.heap.size w w5 ∧ gK < w5.heap.size ∧ w.heap.size + 3 ≤ gK)
  (ho : w5.ownsRow (gK + 1) 124 2 v5 (readAt t k).2.length (trCells (readAt t k).2)) (hB : Blk w5 (w.heap.size + 2) 58 (rCells (bAt t k) x n l))
  (hz : (readAt t k).2 = [] → ∃ u4 u7, DC (readAt t k).1 u4 u7 x n l ∧ OwnT (gK + 1) w5 u4 (readAt t k).1.for_ ∧ OwnT (gK + 1) w5 u7 (readAt t k).1.may_)
  (hW : Below w5.heap.size w5 W6) (hWs : w5.heap.size < W6.heap.size) (hb9 : Below W6.heap.size W6 w9) (hl : ∀ i, i < 8 → (l' i).oneCell' = true)
  (hor : (en ≠ 0 ∧ ∀ c, setK c k u = .inl (en, ep)) ∨
   (en = 0 ∧ (∃ c c', setK c k u = .inr c') ∧ ∀ c v4 v7, DC c v4 v7 x n l → ∃ c' u4 u7, setK c k u = .inr c' ∧ c'.has = c.has ∧ DC c' u4 u7 x' n' l' ∧ (u4 = v4 ∧ c'.for_ = c.for_ ∨ OwnT W6.heap.size w9 u4 c'.for_) ∧ (u7 = v7 ∧ c'.may_ = c.may_ ∨ OwnT W6.heap.size w9 u7 c'.may_))) :
  RMid t A c K d w gK k v5 en ep ((putCells (putCells w9 (w.heap.size + 2) (rCells (bAt t k) x' n' l').toList 0) w5.heap.size [.int .i64 en, .string ⟨ep.toArray⟩] 0).setCell ⟨w.heap.size + 2, k, none⟩ (.bool true)) := by
 obtain ⟨a1, a2, a3, a4, a5, a6⟩ := h1
 have hbb : Below w5.heap.size w5 w9 := hW.trans (hb9.mono hW.size)
 have ht : thereT t k = true := by unfold thereT; rw [hu]; rfl
 have keep : ∀ g ty cs, g ≠ w.heap.size + 2 → g ≠ w5.heap.size → Blk w9 g ty cs → Blk ((putCells (putCells w9 (w.heap.size + 2) (rCells (bAt t k) x' n' l').toList 0) w5.heap.size [.int .i64 en, .string ⟨ep.toArray⟩] 0).setCell ⟨w.heap.size + 2, k, none⟩ (.bool true)) g ty cs := fun g ty cs hg hg2 hB => (putCells_far hg2 _ _ 0 _ _ (putCells_far hg _ _ 0 _ _ hB)).far (p := ⟨w.heap.size + 2, k, none⟩) hg _
 have keep5 : ∀ g ty cs, g ≠ w.heap.size + 2 → Blk w5 g ty cs → Blk ((putCells (putCells w9 (w.heap.size + 2) (rCells (bAt t k) x' n' l').toList 0) w5.heap.size [.int .i64 en, .string ⟨ep.toArray⟩] 0).setCell ⟨w.heap.size + 2, k, none⟩ (.bool true)) g ty cs := fun g ty cs hg hB => keep g ty cs hg (by have := hB.lt; omega) (hB.below hbb hB.lt)
 have hP2 := hB.lt
 have hB9 := hB.below hbb hP2
 have hS9 : Blk (putCells w9 (w.heap.size + 2) (rCells (bAt t k) x' n' l').toList 0) (w.heap.size + 2) 58 (rCells (bAt t k) x' n' l') := blk_stored9 hB9 rfl
 have hS : Blk ((putCells (putCells w9 (w.heap.size + 2) (rCells (bAt t k) x' n' l').toList 0) w5.heap.size [.int .i64 en, .string ⟨ep.toArray⟩] 0).setCell ⟨w.heap.size + 2, k, none⟩ (.bool true)) (w.heap.size + 2) 58 (rCells (bAt t (k + 1)) x' n' l') := by
  have := (putCells_far (g := w5.heap.size) (by omega) [.int .i64 en, .string ⟨ep.toArray⟩] _ 0 _ _ hS9).put k (.bool true)
  rwa [rCells_b _ _ _ _ hk, bAt_yes ht] at this
 have hbel : Below w.heap.size w ((putCells (putCells w9 (w.heap.size + 2) (rCells (bAt t k) x' n' l').toList 0) w5.heap.size [.int .i64 en, .string ⟨ep.toArray⟩] 0).setCell ⟨w.heap.size + 2, k, none⟩ (.bool true)) :=
  (putCells_below (by have := a4.size; omega) _ _ _ 0 (putCells_below (by omega) _ _ _ 0 (a4.trans (hbb.mono a4.size)))).setCell (p := ⟨w.heap.size + 2, k, none⟩) (by show w.heap.size ≤ w.heap.size + 2; omega) _
 have b3 := keep5 gK _ _ (by omega) a3
 refine ⟨⟨keep5 _ _ _ (by omega) a1, keep5 _ _ _ (by omega) a2, b3, hbel, b3.lt, a6⟩, own_frameS ho (Nat.le_refl _) (fun g ty cs hg hB => keep5 g ty cs (by omega) hB), x', n', l', hS, hl, fun h0 => ?_, fun hne => ?_⟩
 ·rcases hor with ⟨hne, _⟩ | ⟨_, ⟨c0, c1, hc⟩, hall⟩
  ·exact absurd h0 hne
  obtain ⟨e', he'⟩ := setK_ok hk hc (withHas (readAt t k).1 k)
  have hr := readAt_ok hu he'
  refine ⟨by rw [hr], fun hz2 => ?_⟩
  rw [hr] at hz2
  obtain ⟨u4, u7, hd, o4, o7⟩ := hz hz2
  obtain ⟨c', v4, v7, hs, hh, hd', q4, q7⟩ := hall _ _ _ (dc_withHas hd k)
  rw [he'] at hs
  injection hs with hs
  subst hs
  rw [hr]
  refine ⟨v4, v7, hd', ?_, ?_⟩
  ·rcases q4 with ⟨e1, e2⟩ | q4
   ·subst e1
    have e3 : e'.for_ = (readAt t k).1.for_ := e2
    show OwnT _ _ _ e'.for_
    rw [e3]
    exact own_frameS o4 (Nat.le_refl _) (fun g ty cs hg hB => keep5 g ty cs (by omega) hB)
   ·exact own_frameS q4 (by omega) (fun g ty cs hg hB => keep g ty cs (by omega) (by omega) hB)
  ·rcases q7 with ⟨e1, e2⟩ | q7
   ·subst e1
    have e3 : e'.may_ = (readAt t k).1.may_ := e2
    show OwnT _ _ _ e'.may_
    rw [e3]
    exact own_frameS o7 (Nat.le_refl _) (fun g ty cs hg hB => keep5 g ty cs (by omega) hB)
   ·exact own_frameS q7 (by omega) (fun g ty cs hg hB => keep g ty cs (by omega) (by omega) hB)
 ·rcases hor with ⟨_, hall⟩ | ⟨h0, _⟩
  ·rw [readAt_err hu (hall _)]
  ·exact absurd h0 hne
end Nd
end Go.Proofs.YtobaldkipnhlpaaGreatDoor
