/-
  Walk of the statement PointerIndexes. Walks of the reference of layer 13: Piece, Print. The reference of layer 13: On, and layer 10's Find of a key. The reference of layer 13: Lead. The law's value: what steps make, by the reference.
  The reference of layer 13: Find.
  The reference of layer 16: integer (a number as a kind of whole number), Of at those kinds.
  Walk of package bind: Narrow.
-/
import Derived.Test.YtbajkglacfheiaaGreatDoorTA12
import Derived.Test.YtbajkglacfheiaaGreatDoorTA18
import Derived.Test.YtbajkglacfheiaaGreatDoorTA23
import Derived.Test.YtbajkglacfheiaaGreatDoorTA25
import Derived.Test.YtbajkglacfheiaaGreatDoorTA26
import Derived.Test.YtbajkglacfheiaaGreatDoorTA13
import Derived.Test.YtbajkglacfheiaaGreatDoorTA15
import Derived.Test.YtbajkglacfheiaaGreatDoorTA19
import Derived.Lib.AppendStr
set_option linter.unusedVariables false
set_option maxRecDepth 100000
set_option maxHeartbeats 16000000
namespace Go.Proofs.YtbajkglacfheiaaGreatDoor
open Go.RowKit Mem Utf Ref3 Tok Idx
theorem idx_drop {s : ByteArray} {k x : Nat} (hk : k < s.size) : idxLoop (s.data.toList.drop k) x = if s[k].toNat < 48 ∨ 57 < s[k].toNat then none else if (9223372036854775807 - (s[k].toNat - 48)) / 10 < x then none else idxLoop (s.data.toList.drop (k + 1)) (10 * x + (s[k].toNat - 48)) := by
 have hk' : k < s.data.toList.length := hk
 rw [List.drop_eq_getElem_cons hk', idx_cons]
 rfl
def IdxRel (s : ByteArray) (c5 c6 : Value) : Prop := ∃ k x : Nat, k ≤ s.size ∧ x < 9223372036854775808 ∧ c6 = .int .i64 k ∧ c5 = .int .i64 x ∧ Hid (idxLoop (s.data.toList.drop k) x = idxLoop s.data.toList 0)
theorem ret_int {k : IntKind} {a b : Int} (h : a = b) : Ending.returned (.int k a) = .returned (.int k b) := by rw [h]
theorem lead_cases {s : ByteArray} : (s.size = 0 → Lead s.data.toList) ∧ (∀ h : 0 < s.size, 1 < s.size → s[0].toNat = 48 → Lead s.data.toList) ∧
  (Lead s.data.toList → s.size = 0 ∨ ∃ h : 0 < s.size, 1 < s.size ∧ s[0].toNat = 48) := by
 refine ⟨fun h => .inl (List.eq_nil_of_length_eq_zero h), fun h h1 h2 => .inr ⟨h1, ?_⟩, ?_⟩
 ·have h' : 0 < s.data.toList.length := h
  rw [List.head?_eq_getElem?, List.getElem?_eq_getElem h']
  congr 1
  exact UInt8.toNat_inj.1 h2
 ·rintro (h | ⟨h1, h2⟩)
  ·exact .inl (by show s.data.toList.length = 0; rw [h]; rfl)
  ·have h' : 0 < s.data.toList.length := by omega
   rw [List.head?_eq_getElem?, List.getElem?_eq_getElem h'] at h2
   injection h2 with h2
   refine .inr ⟨h', h1, ?_⟩
   show (s.data.toList[0]).toNat = 48
   rw [h2]
   rfl
theorem refIndex_any (s : ByteArray) (n : Int) (hl : s.size ≤ 281474976710656) (w : World) :
  Calls Tryz.prog 175 #[.string s, .int .i64 n] w fun e w' => e = .returned (.int .i64 (idxR s.data.toList n)) ∧ w' = w := by
 obtain ⟨hL0, hL1, hL2⟩ := lead_cases (s := s)
 by_cases hlead : Lead s.data.toList
 ·have HR : Hid (idxR s.data.toList n = -1) := Lib.hid (by rw [idxR, if_pos hlead])
  rcases hL2 hlead with h1 | ⟨h0, h1, h2⟩
  ·clear hL0 hL1 hL2 hlead
   have e1 : ((s.size : Int) == 0) = true := by simp [h1]
   clear h1
   go_enter Tryz.func175, Tryz.ntmps175
   go_wp2
   go_ret
   exact ⟨ret_int HR.out.symm, rfl⟩
  ·clear hL0 hL1 hL2 hlead
   have e1 : ((s.size : Int) == 0) = false := by rw [beq_eq_false_iff_ne]; omega
   have e2 : ((s[0].toNat : Int) == 48) = true := by simp [h2]
   have e3 : (1 : Int) < (s.size : Int) := by omega
   clear h2
   go_enter Tryz.func175, Tryz.ntmps175
   go_wp2
   go_ret
   exact ⟨ret_int HR.out.symm, rfl⟩
 ·have h0 : 0 < s.size := by
   rcases Nat.eq_zero_or_pos s.size with h | h
   ·exact absurd (hL0 h) hlead
   ·exact h
  have HR : ∀ o, Hid (idxLoop s.data.toList 0 = o → idxR s.data.toList n = match o with | none => -1 | some x => if n ≤ (x : Int) then -1 else (x : Int)) := fun o => Lib.hid (by intro h; rw [idxR, if_neg hlead, h]; rfl)
  have hh : ¬ 1 < s.size ∨ ¬ s[0].toNat = 48 := by
   by_cases h1 : 1 < s.size
   ·exact .inr fun h2 => hlead (hL1 h0 h1 h2)
   ·exact .inl h1
  clear hL0 hL1 hL2 hlead
  have e1 : ((s.size : Int) == 0) = false := by rw [beq_eq_false_iff_ne]; omega
  rcases hh with h1 | h1
  all_goals
   first
    | (have e3 : ¬ (1 : Int) < (s.size : Int) := by omega)
    | (have e2 : ((s[0].toNat : Int) == 48) = false := by rw [beq_eq_false_iff_ne]; omega)
   try clear h1
   go_enter Tryz.func175, Tryz.ntmps175
   go_wp2
   all_goals
   go_loop [5, 6] (fun c5 c6 => IdxRel s c5 c6) (fun _ c6 => s.size - (intOf c6).toNat)
   case atStart => exact ⟨0, 0, by omega, by omega, rfl, rfl, Lib.hid rfl⟩
   case round =>
    obtain ⟨k, x, hk, hx, rfl, rfl, H⟩ := hrel
    by_cases hlt : k < s.size
    ·have hst := idx_drop (x := x) hlt
     rw [H.out] at hst
     have hcb := s[k].toNat_lt
     by_cases hd : s[k].toNat < 48 ∨ 57 < s[k].toNat
     ·rw [if_pos hd] at hst
      have HV := Lib.hid ((HR none).out hst)
      clear hst
      rcases hd with hd | hd
      ·have e4 : (s[k].toNat : Int) < 48 := by omega
       go_wp2
       go_ret
       exact ⟨ret_int HV.out.symm, rfl⟩
      ·have e4 : ¬ (s[k].toNat : Int) < 48 := by omega
       have e5 : (57 : Int) < (s[k].toNat : Int) := by omega
       go_wp2
       go_ret
       exact ⟨ret_int HV.out.symm, rfl⟩
     ·rw [if_neg hd] at hst
      have e4 : ¬ (s[k].toNat : Int) < 48 := by omega
      have e5 : ¬ (57 : Int) < (s[k].toNat : Int) := by omega
      by_cases ho : (9223372036854775807 - (s[k].toNat - 48)) / 10 < x
      ·rw [if_pos ho] at hst
       have HV := Lib.hid ((HR none).out hst)
       have e6 : (9223372036854775807 - ((s[k].toNat : Int) - 48)) / 10 < (x : Int) := by omega
       clear hst ho
       go_wp2
       go_ret
       exact ⟨ret_int HV.out.symm, rfl⟩
      ·rw [if_neg ho] at hst
       have HS := Lib.hid hst.symm
       have e6 : ¬ (9223372036854775807 - ((s[k].toNat : Int) - 48)) / 10 < (x : Int) := by omega
       have e7 : (10 * x + (s[k].toNat - 48) : Nat) < 9223372036854775808 := by omega
       have e8 : 10 * (x : Int) + ((s[k].toNat : Int) - 48) = ((10 * x + (s[k].toNat - 48) : Nat) : Int) := by omega
       have E8 := Lib.hid e8
       clear hst e8 ho
       go_wp2
       go_round
       case rel => exact ⟨k + 1, 10 * x + (s[k].toNat - 48), by omega, e7, by go_num, by rw [E8.out], HS⟩
       case measure => simp [intOf]; omega
    ·obtain rfl : k = s.size := by omega
     have hend : idxLoop (s.data.toList.drop s.size) x = some x := by
      rw [List.drop_of_length_le (show s.data.toList.length ≤ s.size from Nat.le_refl _)]
      rfl
     rw [H.out] at hend
     have hv := (HR (some x)).out hend
     simp only [] at hv
     by_cases hn : n ≤ (x : Int)
     ·rw [if_pos hn] at hv
      have HV := Lib.hid hv
      clear hv hend
      go_wp2
      go_ret
      exact ⟨ret_int HV.out.symm, rfl⟩
     ·rw [if_neg hn] at hv
      have HV := Lib.hid hv
      clear hv hend
      go_wp2
      go_ret
      exact ⟨ret_int HV.out.symm, rfl⟩
end Go.Proofs.YtbajkglacfheiaaGreatDoor
namespace Go.Proofs.YtbajkglacfheiaaGreatDoor
open Go.RowKit Mem Utf Ref3 Tok
theorem own_str {w : World} {base n : Nat} {v : Value} {b pc : List UInt8} (h : w.ownsRow base 5 1 v (b.length + n) (b.map byteV ++ Lib.strCells ⟨pc.toArray⟩)) (hn : n = pc.length) :
  w.ownsRow base 5 1 v (b ++ pc).length ((b ++ pc).map byteV) := by
 have e : (b ++ pc).map byteV = b.map byteV ++ Lib.strCells ⟨pc.toArray⟩ := by
  rw [List.map_append]
  rfl
 rw [e, List.length_append, ← hn]
 exact h
theorem two_new (w : World) (t : TypeId) (a b : Value) : ∀ j u, [a, b][j]? = some u → (w.alloc (.cells #[a, b] t)).cell? ((⟨w.heap.size, 0, none⟩ : Addr).add j) = some u := by
 intro j u hj
 match j, hj with
 | 0, hj =>
  injection hj with hj
  subst hj
  exact Blk.cell (Blk.new w t #[a, b]) 0
 | 1, hj =>
  injection hj with hj
  subst hj
  exact Blk.cell (Blk.new w t #[a, b]) 1
 | j + 2, hj => cases hj
theorem two_cell (a b : Value) (ha : a.oneCell' = true) (hb : b.oneCell' = true) : ∀ u ∈ [a, b], u.oneCell' = true := by
 intro u hu
 rw [List.mem_cons, List.mem_singleton] at hu
 rcases hu with rfl | rfl
 ·exact ha
 ·exact hb
theorem take_succ_flat (l : List UInt8) (k : Nat) (h : k < l.length) : (l.take (k + 1)).flatMap esc = (l.take k).flatMap esc ++ esc l[k] := by
 rw [List.take_succ_eq_append_getElem h, List.flatMap_append]
 simp
theorem esc_126 {c : UInt8} (h : (c.toNat : Int) = 126) : esc c = [126, 48] := by
 rw [byte_eq 126 rfl h]; rfl
theorem esc_47 {c : UInt8} (h : (c.toNat : Int) = 47) : esc c = [126, 49] := by
 rw [byte_eq 47 rfl h]; rfl
theorem esc_no {c : UInt8} (h : ¬ (c.toNat : Int) = 126) (h' : ¬ (c.toNat : Int) = 47) : esc c = [c] := by
 rw [esc, if_neg (byte_ne 126 rfl h), if_neg (byte_ne 47 rfl h')]
theorem refPiece_any (l : List UInt8) (hl : l.length ≤ 2147483648) (w : World) :
  Calls Tryz.prog 145 #[.string ⟨l.toArray⟩] w fun e w' => e = .returned (.string ⟨(piece l).toArray⟩) ∧ Below w.heap.size w w' := by
 obtain ⟨i0, hi0, hz0, hz1, hz2⟩ := info_parts info_u8
 have hsz : (ByteArray.mk l.toArray).size = l.length := rfl
 go_enter Tryz.func145, Tryz.ntmps145
 go_wp2
 go_loopw [3, 4] (fun c3 c4 wr => ∃ (k : Nat) (b : List UInt8), k ≤ l.length ∧ c4 = .int .i64 k ∧ Hid (47 :: (l.take k).flatMap esc = b) ∧ b.length ≤ 2 * k + 1 ∧ wr.ownsRow w.heap.size 5 1 c3 b.length (b.map byteV) ∧ Below w.heap.size w wr) (fun _ c4 _ => l.length - (intOf c4).toNat)
 case atStart => exact ⟨0, [47], by omega, rfl, Lib.hid rfl, by simp, World.ownsRow_lit w #[.int .u8 47] 1 (Nat.le_refl _) (by decide) rfl, (Below.refl _ _).alloc (Nat.le_refl _) _⟩
 case round =>
  obtain ⟨k, b, hk, rfl, HB, hbl, hown, hbw⟩ := hrel
  have hbs := hbw.size
  by_cases hlt : k < l.length
  ·have hlt' : k < (ByteArray.mk l.toArray).size := hlt
   have hget : (ByteArray.mk l.toArray)[k] = l[k] := rfl
   by_cases h126 : (l[k].toNat : Int) = 126
   ·have e3 : ((l[k].toNat : Int) == 126) = true := by simpa using h126
    have e2 : (((ByteArray.mk l.toArray)[k].toNat : Int) == 126) = true := e3
    have Hesc := Lib.hid (esc_126 h126)
    clear h126
    go_wp2_with (at_builtin; refine wpList_append_own _ rfl (.tmp 16) (.tmp 17) _ rfl w.heap.size 5 i0 _ 1 1 Tryz.underlying89 hi0 hz0 hz1 hz2 rfl (by omega) u3 b.length (b.map byteV) rfl (hown.alloc _) ⟨wr.heap.size, 0, none⟩ 2 2 [.int .u8 126, .int .u8 48] rfl rfl (two_new _ _ _ _) (two_cell _ _ rfl rfl) (by unfold maxLen; omega) (by omega) (by simp; omega) ?_; intro v9 w9 hown9 hgr9 hnil9)
    go_wp2
    go_roundw
    case rel => exact ⟨k + 1, b ++ [126, 48], by omega, by go_num, Lib.hid (by rw [take_succ_flat l k hlt, ← HB.out, Hesc.out]; rfl), by simp; omega, by simpa [byteV] using hown9, ((hbw.alloc (by omega) _)).grown hgr9 (by simp; omega) (fun q hq => (hown.lt q hq).1)⟩
    case measure => simp [intOf]; omega
   ·have e3 : ((l[k].toNat : Int) == 126) = false := by simpa using h126
    have e2 : (((ByteArray.mk l.toArray)[k].toNat : Int) == 126) = false := e3
    by_cases h47 : (l[k].toNat : Int) = 47
    ·have e5 : ((l[k].toNat : Int) == 47) = true := by simpa using h47
     have e4 : (((ByteArray.mk l.toArray)[k].toNat : Int) == 47) = true := e5
     have Hesc := Lib.hid (esc_47 h47)
     clear h126 h47
     go_wp2_with (at_builtin; refine wpList_append_own _ rfl (.tmp 23) (.tmp 24) _ rfl w.heap.size 5 i0 _ 1 1 Tryz.underlying89 hi0 hz0 hz1 hz2 rfl (by omega) u3 b.length (b.map byteV) rfl (hown.alloc _) ⟨wr.heap.size, 0, none⟩ 2 2 [.int .u8 126, .int .u8 49] rfl rfl (two_new _ _ _ _) (two_cell _ _ rfl rfl) (by unfold maxLen; omega) (by omega) (by simp; omega) ?_; intro v9 w9 hown9 hgr9 hnil9)
     go_wp2
     go_roundw
     case rel => exact ⟨k + 1, b ++ [126, 49], by omega, by go_num, Lib.hid (by rw [take_succ_flat l k hlt, ← HB.out, Hesc.out]; rfl), by simp; omega, by simpa [byteV] using hown9, ((hbw.alloc (by omega) _)).grown hgr9 (by simp; omega) (fun q hq => (hown.lt q hq).1)⟩
     case measure => simp [intOf]; omega
    ·have e5 : ((l[k].toNat : Int) == 47) = false := by simpa using h47
     have e4 : (((ByteArray.mk l.toArray)[k].toNat : Int) == 47) = false := e5
     have Hesc := Lib.hid (esc_no h126 h47)
     clear h126 h47
     go_wp2_with (at_builtin; refine wpList_append_own _ rfl (.tmp 26) (.tmp 30) _ rfl w.heap.size 5 i0 _ 1 1 Tryz.underlying89 hi0 hz0 hz1 hz2 rfl (by omega) u3 b.length (b.map byteV) rfl (hown.alloc _) ⟨wr.heap.size, 0, none⟩ 1 1 [byteV l[k]] rfl rfl (one_newP _ _ _) (one_cellP _ rfl) (by unfold maxLen; omega) (by omega) (by simp; omega) ?_; intro v9 w9 hown9 hgr9 hnil9)
     go_wp2
     go_roundw
     case rel => exact ⟨k + 1, b ++ [l[k]], by omega, by go_num, Lib.hid (by rw [take_succ_flat l k hlt, ← HB.out, Hesc.out]; rfl), by simp; omega, by simpa [byteV] using hown9, ((hbw.alloc (by omega) _)).grown hgr9 (by simp; omega) (fun q hq => (hown.lt q hq).1)⟩
     case measure => simp [intOf]; omega
  ·obtain rfl : k = l.length := by omega
   have hb : b = piece l := by rw [← HB.out, List.take_length]; rfl
   have HP := Lib.hid hb
   clear hb HB
   have hcv := conv_own wr _ _ b hown
   go_wp2
   go_ret
   exact ⟨by rw [← HP.out]; rfl, hbw⟩
theorem refPrint_any (v : Value) (ts : List (List UInt8)) (w : World) (hv : Rd w v ts) (hbk : bulkS ts ≤ 1073741824) :
  Calls Tryz.prog 105 #[v] w fun e w' => e = .returned (.string ⟨(printS ts).toArray⟩) ∧ Below w.heap.size w w' := by
 obtain ⟨i0, hi0, hz0, hz1, hz2⟩ := info_parts info_u8
 have hlen := bulk_len ts
 obtain ⟨A, c, rfl, hA⟩ := hv
 have hv : Rd w (.slice A ts.length c) ts := ⟨A, c, rfl, hA⟩
 clear hA
 go_enter Tryz.func105, Tryz.ntmps105
 go_wp2
 go_loopw [3, 4] (fun c3 c4 wr => ∃ (k : Nat) (b : List UInt8), k ≤ ts.length ∧ c4 = .int .i64 k ∧ Hid (printS (ts.take k) = b) ∧ wr.ownsRow w.heap.size 5 1 c3 b.length (b.map byteV) ∧ Below w.heap.size w wr) (fun _ c4 _ => ts.length - (intOf c4).toNat)
 case atStart => exact ⟨0, [], by omega, rfl, Lib.hid rfl, World.ownsRow_nil _ _ _ _, Below.refl _ _⟩
 case round =>
  obtain ⟨k, b, hk, rfl, HB, hown, hbw⟩ := hrel
  have hbs := hbw.size
  by_cases hlt : k < ts.length
  ·have hbk1 := bulk_at ts k hlt
   have hbk2 := bulk_le ts k
   have hbk3 := print_le (ts.take k)
   rw [HB.out] at hbk3
   have hbk4 := piece_le ts[k]
   have hsn := print_snoc ts k hlt
   obtain ⟨A', c', hAc, hcell⟩ := hv.below hbw
   injection hAc with hA1 _ hc1
   subst hA1; subst hc1
   obtain ⟨g, o, rfl, hgl, hcell⟩ := hcell k hlt
   have hcell' : wr.cell? ⟨g, o + k, none⟩ = some (.string ⟨ts[k].toArray⟩) := hcell
   have hi0' : (0 : Int) ≤ (k : Int) := by omega
   have hi1 : (k : Int) < (ts.length : Int) := by omega
   have Hsn := Lib.hid hsn
   clear hcell hsn
   generalize ts[k] = tk at *
   go_wp2_with fail
   refine (refPiece_any tk (by omega) _).mono ?_
   rintro e w1 ⟨rfl, hb1⟩
   have hown1 := own_below hown hb1
   have hbw1 := below_chain hbw hbs hb1
   have hbs1 := hbw1.size
   clear hown hbw hb1 hcell'
   generalize hpc : piece tk = pc at *
   have Hpc := Lib.hid hpc
   clear hpc
   have hpz : (ByteArray.mk pc.toArray).size = pc.length := rfl
   have Hpz := Lib.hid hpz
   clear hpz
   go_wp2_with (at_builtin; refine Lib.wpList_append_own_string _ rfl (.tmp 11) (.tmp 16) _ _ rfl w.heap.size 5 i0 Tryz.underlying89 Tryz.underlying9 hi0 hz0 hz1 hz2 u3 b.length (b.map byteV) rfl hown1 ⟨pc.toArray⟩ rfl (by rw [Hpz.out]; unfold maxLen; omega) (by rw [Hpz.out]; omega) hbs1 ?_; intro v9 w9 hown9 hgr9 hnil9)
   go_wp2
   go_roundw
   case rel => exact ⟨k + 1, b ++ pc, by omega, by go_num, Lib.hid (by rw [Hsn.out, HB.out]), own_str hown9 Hpz.out, hbw1.grown hgr9 hbs1 (fun q hq => (hown1.lt q hq).1)⟩
   case measure => simp [intOf]; omega
  ·obtain rfl : k = ts.length := by omega
   have hb : b = printS ts := by rw [← HB.out, List.take_length]
   have HP := Lib.hid hb
   clear hb HB
   have hcv := conv_own wr _ _ b hown
   go_wp2
   go_ret
   exact ⟨by rw [← HP.out]; rfl, hbw⟩
end Go.Proofs.YtbajkglacfheiaaGreatDoor
namespace Go.Proofs.YtbajkglacfheiaaGreatDoor
open Go.RowKit Mem Idx
namespace Nd
def keyR (ks : List Tx) (x : Tx) : Int := if x ∈ ks then (ks.idxOf x : Int) else -1
def onR (x : Tx) : Tr → Int
 | .list l => idxR x (l.length : Int)
 | .obj ks _ => keyR ks x
 | _ => -1
theorem onR_list (x : Tx) (l : List Tr) : onR x (.list l) = idxR x (l.length : Int) := rfl
theorem onR_obj (x : Tx) (ks : List Tx) (l : List Tr) : onR x (.obj ks l) = keyR ks x := rfl
theorem idxOf_first {x : Tx} : ∀ (ks : List Tx) (k : Nat) (hk : k < ks.length), x ∉ ks.take k → ks[k] = x → ks.idxOf x = k
 | [], k, hk, _, _ => by simp at hk
 | y :: ks, 0, hk, hn, he => by
  have he' : y = x := he
  rw [he', List.idxOf_cons_self]
 | y :: ks, k + 1, hk, hn, he => by
  rw [List.take_succ_cons] at hn
  have hne : y ≠ x := fun h => hn (by rw [h]; exact List.mem_cons_self)
  have hb : (y == x) = false := by simpa using hne
  rw [List.idxOf_cons, hb, cond_false, idxOf_first ks k (by simpa using hk) (fun h => hn (List.mem_cons_of_mem _ h)) (by simpa using he)]
theorem keyR_here {ks : List Tx} {x : Tx} {k : Nat} (hk : k < ks.length) (hn : x ∉ ks.take k) (he : ks[k] = x) : keyR ks x = (k : Int) := by
 have hm : x ∈ ks := by rw [← he]; exact List.getElem_mem hk
 have hi : ks.idxOf x = k := idxOf_first ks k hk hn he
 rw [keyR, if_pos hm, hi]
theorem keyR_no {ks : List Tx} {x : Tx} (h : x ∉ ks) : keyR ks x = -1 := by rw [keyR, if_neg h]
theorem idxR_lt {l : List UInt8} {n : Int} (h : ¬ idxR l n < 0) : idxR l n < n := by
 have h1 := idx_law l n
 rw [if_neg h] at h1
 exact (idxC_range h1).2
theorem onT_onR (x : Tx) (t : Tr) (ho : t.Ok) : (onR x t < 0 ∧ onT x t = none) ∨ ∃ (k : Nat) (h : k < t.kids.length), onR x t = (k : Int) ∧ onT x t = some t.kids[k] := by
 cases t with
 | list l =>
  rw [onR_list, onT_list, idx_law]
  by_cases hz : idxR x (l.length : Int) < 0
  ·exact .inl ⟨hz, by rw [if_pos hz]; rfl⟩
  ·have hlt := idxR_lt hz
   obtain ⟨k, hk⟩ : ∃ k : Nat, idxR x (l.length : Int) = (k : Int) := ⟨(idxR x (l.length : Int)).toNat, by omega⟩
   have hkl : k < l.length := by omega
   refine .inr ⟨k, hkl, hk, ?_⟩
   rw [if_neg hz, hk]
   show l[((k : Nat) : Int).toNat]? = _
   rw [Int.toNat_natCast, List.getElem?_eq_getElem hkl]
   rfl
 | obj ks l =>
  unfold Tr.Ok at ho
  rw [onR_obj, onT_obj]
  by_cases hm : x ∈ ks
  ·have hi := List.idxOf_lt_length_of_mem hm
   have hil : ks.idxOf x < l.length := by have := ho.1; omega
   refine .inr ⟨ks.idxOf x, hil, by rw [keyR, if_pos hm], ?_⟩
   rw [if_pos hm, List.getElem?_eq_getElem hil]
   rfl
  ·exact .inl ⟨by rw [keyR_no hm]; decide, if_neg hm⟩
 | null => exact .inl ⟨by show (-1 : Int) < 0; decide, rfl⟩
 | flag b => exact .inl ⟨by show (-1 : Int) < 0; decide, rfl⟩
 | num n => exact .inl ⟨by show (-1 : Int) < 0; decide, rfl⟩
 | text s => exact .inl ⟨by show (-1 : Int) < 0; decide, rfl⟩
theorem rfind_any (t : Tr) (A : Option Addr) (c : Nat) (K : Option Addr) (d : Nat) (x : Tx) (w : World) (h : RdVA w t ((A, c), (K, d))) (hn : t.kn.length ≤ 1099511627776) :
  Calls Tryz.prog 176 #[valV t A c K d, .string ⟨x.toArray⟩] w fun e w' => e = .returned (.int .i64 (keyR t.kn x)) ∧ Below w.heap.size w w' := by
 have hB := Blk.new w 79 #[.int .i64 (t.srt : Nat), .bool t.fl, .int .u64 (t.bi : Nat), .string ⟨t.tx.toArray⟩, .slice A t.kids.length c, .slice K t.kn.length d]
 have hba : Below w.heap.size w (w.alloc (.cells #[.int .i64 (t.srt : Nat), .bool t.fl, .int .u64 (t.bi : Nat), .string ⟨t.tx.toArray⟩, .slice A t.kids.length c, .slice K t.kn.length d] 79)) := (Below.refl _ _).alloc (Nat.le_refl _) _
 have c5 : (w.alloc (.cells #[.int .i64 (t.srt : Nat), .bool t.fl, .int .u64 (t.bi : Nat), .string ⟨t.tx.toArray⟩, .slice A t.kids.length c, .slice K t.kn.length d] 79)).cell? ⟨w.heap.size, 5, none⟩ = some (.slice K t.kn.length d) := hB.cell 5
 have HK := Lib.hid (RdV.keys (rdva_below h hba))
 have HBA := Lib.hid hba
 clear h hB hba
 go_enter Tryz.func176, Tryz.ntmps176
 go_upto_region 1 with fail
 generalize w.alloc (.cells #[.int .i64 (t.srt : Nat), .bool t.fl, .int .u64 (t.bi : Nat), .string ⟨t.tx.toArray⟩, .slice A t.kids.length c, .slice K t.kn.length d] 79) = w1 at *
 obtain ⟨ks, hks⟩ : ∃ ks, t.kn = ks := ⟨_, rfl⟩
 have HKS := Lib.hid hks
 rw [hks] at c5 hn HK
 clear hks
 go_wp2_with fail
 go_loop [5] (fun c5 => ∃ k : Nat, k ≤ ks.length ∧ c5 = .int .i64 k ∧ Hid (x ∉ ks.take k)) (fun c5 => ks.length - (intOf c5).toNat)
 case atStart => exact ⟨0, Nat.zero_le _, rfl, Lib.hid (by simp)⟩
 case round =>
  obtain ⟨k, hk, rfl, HN⟩ := hrel
  by_cases hlt : k < ks.length
  ·obtain ⟨g, o, rfl, _, hc⟩ := keys_at HK.out hlt
   obtain ⟨y, hy⟩ : ∃ y, ks[k] = y := ⟨_, rfl⟩
   rw [hy] at hc
   by_cases he : y = x
   ·have HR : Hid (keyR ks x = (k : Int)) := Lib.hid (keyR_here hlt HN.out (by rw [hy, he]))
    have heq : (y == x) = true := by rw [he]; simp
    clear hy
    go_wp2
    go_ret
    exact ⟨by rw [HKS.out, HR.out]; try rfl, HBA.out⟩
   ·have heq : (y == x) = false := by simpa using he
    have HN2 : Hid (x ∉ ks.take (k + 1)) := Lib.hid (by
     rw [List.take_succ_eq_append_getElem hlt, hy]
     intro hm
     rcases List.mem_append.1 hm with h1 | h1
     ·exact HN.out h1
     ·simp at h1
      exact he h1.symm)
    clear hy he
    go_wp2
    go_round
    case rel => exact ⟨k + 1, by omega, by go_num, HN2⟩
    case measure => simp [intOf]; omega
  ·obtain rfl : k = ks.length := by omega
   have HR : Hid (keyR ks x = -1) := Lib.hid (keyR_no (by have := HN.out; rw [List.take_length] at this; exact this))
   go_wp2
   go_ret
   exact ⟨by rw [HKS.out, HR.out]; try rfl, HBA.out⟩
theorem ron_any (t : Tr) (A : Option Addr) (c : Nat) (K : Option Addr) (d : Nat) (x : Tx) (w : World) (h : RdVA w t ((A, c), (K, d))) (hn : t.kn.length ≤ 1099511627776) (hx : x.length ≤ 281474976710656) :
  Calls Tryz.prog 144 #[valV t A c K d, .string ⟨x.toArray⟩] w fun e w' => e = .returned (.int .i64 (onR x t)) ∧ Below w.heap.size w w' := by
 have hB := Blk.new w 79 #[.int .i64 (t.srt : Nat), .bool t.fl, .int .u64 (t.bi : Nat), .string ⟨t.tx.toArray⟩, .slice A t.kids.length c, .slice K t.kn.length d]
 have hba : Below w.heap.size w (w.alloc (.cells #[.int .i64 (t.srt : Nat), .bool t.fl, .int .u64 (t.bi : Nat), .string ⟨t.tx.toArray⟩, .slice A t.kids.length c, .slice K t.kn.length d] 79)) := (Below.refl _ _).alloc (Nat.le_refl _) _
 have HBLK := Lib.hid hB
 have HR := Lib.hid (rdva_below h hba)
 have HBA := Lib.hid hba
 have hsz : (ByteArray.mk x.toArray).size ≤ 281474976710656 := by show x.toArray.size ≤ _; rw [List.size_toArray]; exact hx
 clear h hB hba
 go_enter Tryz.func144, Tryz.ntmps144
 go_upto_region 1 with fail
 generalize w.alloc (.cells #[.int .i64 (t.srt : Nat), .bool t.fl, .int .u64 (t.bi : Nat), .string ⟨t.tx.toArray⟩, .slice A t.kids.length c, .slice K t.kn.length d] 79) = w1 at *
 have b0 : w1.cell? ⟨w.heap.size, 0, none⟩ = some (.int .i64 (t.srt : Nat)) := HBLK.out.cell 0
 have b1 : w1.cell? ⟨w.heap.size, 1, none⟩ = some (.bool t.fl) := HBLK.out.cell 1
 have b2 : w1.cell? ⟨w.heap.size, 2, none⟩ = some (.int .u64 (t.bi : Nat)) := HBLK.out.cell 2
 have b3 : w1.cell? ⟨w.heap.size, 3, none⟩ = some (.string ⟨t.tx.toArray⟩) := HBLK.out.cell 3
 have b4 : w1.cell? ⟨w.heap.size, 4, none⟩ = some (.slice A t.kids.length c) := HBLK.out.cell 4
 have b5 : w1.cell? ⟨w.heap.size, 5, none⟩ = some (.slice K t.kn.length d) := HBLK.out.cell 5
 by_cases h5 : (t.srt : Int) = 5
 ·have h5b : ((t.srt : Int) == 5) = true := by simp [h5]
  have HQ : Hid (onR x t = idxR x (t.kids.length : Int)) := Lib.hid (by cases t <;> simp [Tr.srt] at h5; rfl)
  clear h5
  go_wp2_with fail
  ((with_reducible refine (refIndex_any ⟨x.toArray⟩ _ hsz _).mono ?_); rintro e w2 ⟨rfl, rfl⟩)
  go_wp2
  go_ret
  exact ⟨by rw [HQ.out]; try rfl, HBA.out⟩
 ·have h5b : ((t.srt : Int) == 5) = false := by simpa using h5
  by_cases h6 : (t.srt : Int) = 6
  ·have h6b : ((t.srt : Int) == 6) = true := by simp [h6]
   have HQ : Hid (onR x t = keyR t.kn x) := Lib.hid (by cases t <;> simp [Tr.srt] at h6; rfl)
   have HF := Lib.hid (rfind_any t A c K d x w1 HR.out hn)
   clear h5 h6
   go_wp2_with fail
   ((with_reducible refine HF.out.mono ?_); rintro e w2 ⟨rfl, hb2⟩)
   have HB2 := Lib.hid (HBA.out.trans (hb2.mono HBA.out.size))
   clear hb2 HF
   go_wp2
   go_ret
   exact ⟨by rw [HQ.out]; try rfl, HB2.out⟩
  ·have h6b : ((t.srt : Int) == 6) = false := by simpa using h6
   have HQ : Hid (onR x t = -1) := Lib.hid (by cases t <;> simp [Tr.srt] at h5 h6 <;> rfl)
   clear h5 h6
   go_wp2
   go_ret
   exact ⟨by rw [HQ.out]; try rfl, HBA.out⟩
end Nd
end Go.Proofs.YtbajkglacfheiaaGreatDoor
namespace Go.Proofs.YtbajkglacfheiaaGreatDoor
open Go.RowKit Mem Idx Tok
namespace Nd
theorem six_far {w : World} {P g : Nat} {ty : TypeId} {cs : Array Value} (h : Blk w g ty cs) (hne : g ≠ P) (a b c d e f : Value) : Blk (six w P a b c d e f) g ty cs :=
 (((((h.far (p := ⟨P, 0, none⟩) hne a).far (p := ⟨P, 1, none⟩) hne b).far (p := ⟨P, 2, none⟩) hne c).far (p := ⟨P, 3, none⟩) hne d).far (p := ⟨P, 4, none⟩) hne e).far (p := ⟨P, 5, none⟩) hne f
theorem six_below {w w' : World} {P : Nat} (h : Below w.heap.size w w') (hP : w.heap.size ≤ P) (a b c d e f : Value) : Below w.heap.size w (six w' P a b c d e f) :=
 below_put (below_put (below_put (below_put (below_put (below_put h hP) hP) hP) hP) hP) hP
theorem kn_le {t : Tr} (ho : t.Ok) (hf : t.fit = true) : t.kn.length ≤ 65536 := by
 have h1 := kids_le hf
 cases t with
 | obj ks l =>
  unfold Tr.Ok at ho
  have : l.length ≤ 65536 := h1
  show ks.length ≤ 65536
  omega
 | null => exact Nat.zero_le _
 | flag b => exact Nat.zero_le _
 | num x => exact Nat.zero_le _
 | text s => exact Nat.zero_le _
 | list l => exact Nat.zero_le _
theorem sev_below {wr W W' : World} {p0 p1 p2 p3 p4 p5 p6 : Addr} {x0 x1 x2 x3 x4 x5 x6 : Value} (q0 : p0.spot = none) (q1 : p1.spot = none) (q2 : p2.spot = none) (q3 : p3.spot = none) (q4 : p4.spot = none) (q5 : p5.spot = none) (q6 : p6.spot = none) (h : W.cell? p0 = some x0 ∧ W.cell? p1 = some x1 ∧ W.cell? p2 = some x2 ∧ W.cell? p3 = some x3 ∧ W.cell? p4 = some x4 ∧ W.cell? p5 = some x5 ∧ W.cell? p6 = some x6 ∧ Below wr.heap.size wr W) (hb : Below W.heap.size W W') :
  W'.cell? p0 = some x0 ∧ W'.cell? p1 = some x1 ∧ W'.cell? p2 = some x2 ∧ W'.cell? p3 = some x3 ∧ W'.cell? p4 = some x4 ∧ W'.cell? p5 = some x5 ∧ W'.cell? p6 = some x6 ∧ Below wr.heap.size wr W' := by
 obtain ⟨h0, h1, h2, h3, h4, h5, h6, h7⟩ := h
 exact ⟨(hb.cell (World.block_lt_of_cell? _ _ h0)).trans h0, (hb.cell (World.block_lt_of_cell? _ _ h1)).trans h1, (hb.cell (World.block_lt_of_cell? _ _ h2)).trans h2, (hb.cell (World.block_lt_of_cell? _ _ h3)).trans h3, (hb.cell (World.block_lt_of_cell? _ _ h4)).trans h4, (hb.cell (World.block_lt_of_cell? _ _ h5)).trans h5, (hb.cell (World.block_lt_of_cell? _ _ h6)).trans h6, h7.trans (hb.mono h7.size)⟩
end Nd
end Go.Proofs.YtbajkglacfheiaaGreatDoor
namespace Go.Proofs.YtbajkglacfheiaaGreatDoor
open Go.RowKit Mem
namespace Nd
theorem runT_ne : ∀ (ss : List Stp) (l : List Tr) (i n j : Nat) (m : Int), runT l ss i = .inl (m, n) → m ≠ 0
 | [], l, i, n, j, m, h => by rw [runT] at h; cases h
 | s :: ss, l, i, n, j, m, h => by
  rw [runT] at h
  by_cases h0 : (doT l s).1 = 0
  ·rw [if_pos h0] at h
   exact runT_ne ss _ _ _ j _ h
  ·rw [if_neg h0] at h
   injection h with h
   injection h with h1 h2
   rw [← h1]
   exact h0
theorem buildT_ne {ss : List Stp} {n i : Int} (h : buildT ss = .inl (n, i)) : n ≠ 0 := by
 unfold buildT at h
 by_cases hl : 65536 < ss.length
 ·rw [if_pos hl] at h
  injection h with h
  injection h with h1 h2
  omega
 ·rw [if_neg hl] at h
  cases hr : runT [] ss 0 with
  | inl x =>
   rw [hr] at h
   injection h with h
   injection h with h1 h2
   have := runT_ne ss [] 0 x.2 0 x.1 hr
   rw [← h1]
   exact this
  | inr l =>
   rw [hr] at h
   match l, h with
   | [], h => injection h with h; injection h with h1 h2; omega
   | [t], h => cases h
   | _ :: _ :: _, h => injection h with h; injection h with h1 h2; omega
theorem refBuild_all (v : Value) (ss : List Stp) (w : World) (hS : RdS w v ss) (hF : ∀ s ∈ ss, s.Fine) (hC : ∀ s ∈ ss, s.Cnt) : Calls Tryz.prog 102 #[v] w (RBuildP ss w) := by
 by_cases hn : ss.length ≤ 65536
 ·exact refBuild_any v ss w hS hF hC hn
 ·exact refBuild_long v ss w hS (by omega)
end Nd
end Go.Proofs.YtbajkglacfheiaaGreatDoor
namespace Go.Proofs.YtbajkglacfheiaaGreatDoor
open Go.RowKit Mem Utf Ref3 Idx Tok TokC
namespace Nd
abbrev four (w : World) (P : Nat) (a b c d : Value) : World := (((w.setCell ⟨P, 0, none⟩ a).setCell ⟨P, 1, none⟩ b).setCell ⟨P, 2, none⟩ c).setCell ⟨P, 3, none⟩ d
theorem four_blk {w : World} {P : Nat} {t : TypeId} {z0 z1 z2 z3 : Value} (h : Blk w P t #[z0, z1, z2, z3]) (a b c d : Value) : Blk (four w P a b c d) P t #[a, b, c, d] := (((h.put 0 a).put 1 b).put 2 c).put 3 d
theorem four_far {w : World} {P g : Nat} {ty : TypeId} {cs : Array Value} (h : Blk w g ty cs) (hne : g ≠ P) (a b c d : Value) : Blk (four w P a b c d) g ty cs :=
 (((h.far (p := ⟨P, 0, none⟩) hne a).far (p := ⟨P, 1, none⟩) hne b).far (p := ⟨P, 2, none⟩) hne c).far (p := ⟨P, 3, none⟩) hne d
theorem four_below {w w' : World} {P : Nat} (h : Below w.heap.size w w') (hP : w.heap.size ≤ P) (a b c d : Value) : Below w.heap.size w (four w' P a b c d) :=
 below_put (below_put (below_put (below_put h hP) hP) hP) hP
theorem err_num {l : List UInt8} {x : Int × Int} (h : parseS (wrong l) l = .error x) : x.1 ≠ 0 := by
 by_cases hw : (wrong l).1 = 0
 ·unfold parseS at h
  rw [if_pos hw] at h
  cases hr : run [] none l 0 with
  | error p =>
   rw [hr] at h
   injection h with h
   rw [← h]
   show (130 : Int) ≠ 0
   decide
  | ok ts =>
   rw [hr] at h
   dsimp only at h
   split at h
   ·injection h with h
    rw [← h]
    decide
   ·cases h
 ·rw [parse_utf l hw] at h
  injection h with h
  rw [← h]
  show (100 : Int) ≠ 0
  decide
end Nd
end Go.Proofs.YtbajkglacfheiaaGreatDoor
namespace Go.Proofs.YtbajkglacfheiaaGreatDoor
open Go.RowKit Mem
namespace Nd
theorem refTrail16 (n : Int) (p : Tx) (w : World) : Calls Tryz.prog 52 #[.int .i64 n, .string ⟨p.toArray⟩] w fun e w' => e = .returned (.agg #[.int .i64 n, .int .i64 0, .bool true, .string ⟨p.toArray⟩]) ∧ w' = w.alloc (.cells #[.int .i64 n, .int .i64 0, .bool true, .string ⟨p.toArray⟩] 81) := by
 go_enter Tryz.func52, Tryz.ntmps52
 go_wp2
 refine bodyPost_ret (v := .agg #[.int .i64 n, .int .i64 0, .bool true, .string ⟨p.toArray⟩]) ?_ rfl ⟨rfl, rfl⟩
 simp [results, Tryz.results52, go_sem]
end Nd
end Go.Proofs.YtbajkglacfheiaaGreatDoor
namespace Go.Proofs.YtbajkglacfheiaaGreatDoor
open Go.RowKit Mem Utf Ref3 Idx Tok TokC
namespace Nd
theorem nb_fin {u : Tr} (ho : u.Ok) : finB u.nb = true ∧ u.nb < 18446744073709551616 := by
 cases u with
 | num x => exact ⟨ho.1, ho.2.2⟩
 | _ => exact ⟨(by decide : finB 0 = true), (by decide : 0 < 18446744073709551616)⟩
end Nd
end Go.Proofs.YtbajkglacfheiaaGreatDoor
