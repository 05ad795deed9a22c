/-
  Walks of the reference of layer 13: Piece, Print.
-/
import Derived.Test.YtnldkbgbgngjjaaDoorLaw13
import Derived.Lib.AppendStr
namespace Go.Proofs.YtnldkbgbgngjjaaDoor
open Go.RowKit Mem Utf Ref3 Tok
set_option linter.unusedVariables false

theorem own_str {w : World} {base n : Nat} {v : Value} {b pc : List UInt8} (h : w.ownsRow base 5 1 v (b.length + n) (b.map byteV ++ Lib.strCells ⟨pc.toArray⟩)) (hn : n = pc.length) :
    w.ownsRow base 5 1 v (b ++ pc).length ((b ++ pc).map byteV) := by
  have e : (b ++ pc).map byteV = b.map byteV ++ Lib.strCells ⟨pc.toArray⟩ := by
    rw [List.map_append]
    rfl
  rw [e, List.length_append, ← hn]
  exact h
theorem two_new (w : World) (t : TypeId) (a b : Value) : ∀ j u, [a, b][j]? = some u → (w.alloc (.cells #[a, b] t)).cell? ((⟨w.heap.size, 0, none⟩ : Addr).add j) = some u := by
  intro j u hj
  match j, hj with
  | 0, hj =>
    injection hj with hj
    subst hj
    exact Blk.cell (Blk.new w t #[a, b]) 0
  | 1, hj =>
    injection hj with hj
    subst hj
    exact Blk.cell (Blk.new w t #[a, b]) 1
  | j + 2, hj => cases hj
theorem two_cell (a b : Value) (ha : a.oneCell' = true) (hb : b.oneCell' = true) : ∀ u ∈ [a, b], u.oneCell' = true := by
  intro u hu
  rw [List.mem_cons, List.mem_singleton] at hu
  rcases hu with rfl | rfl
  · exact ha
  · exact hb
theorem take_succ_flat (l : List UInt8) (k : Nat) (h : k < l.length) : (l.take (k + 1)).flatMap esc = (l.take k).flatMap esc ++ esc l[k] := by
  rw [List.take_succ_eq_append_getElem h, List.flatMap_append]
  simp
theorem esc_126 {c : UInt8} (h : (c.toNat : Int) = 126) : esc c = [126, 48] := by
  rw [byte_eq 126 rfl h]; rfl
theorem esc_47 {c : UInt8} (h : (c.toNat : Int) = 47) : esc c = [126, 49] := by
  rw [byte_eq 47 rfl h]; rfl
theorem esc_no {c : UInt8} (h : ¬ (c.toNat : Int) = 126) (h' : ¬ (c.toNat : Int) = 47) : esc c = [c] := by
  rw [esc, if_neg (byte_ne 126 rfl h), if_neg (byte_ne 47 rfl h')]

set_option maxRecDepth 100000 in
set_option maxHeartbeats 4000000 in
theorem refPiece_any (l : List UInt8) (hl : l.length ≤ 2147483648) (w : World) :
    Calls Tryd.prog 20 #[.string ⟨l.toArray⟩] w fun e w' => e = .returned (.string ⟨(piece l).toArray⟩) ∧ Below w.heap.size w w' := by
  obtain ⟨i0, hi0, hz0, hz1, hz2⟩ := info_parts info_u8
  have hsz : (ByteArray.mk l.toArray).size = l.length := rfl
  go_enter Tryd.func20, Tryd.ntmps20
  go_wp2
  go_loopw [3, 4] (fun c3 c4 wr => ∃ (k : Nat) (b : List UInt8), k ≤ l.length ∧ c4 = .int .i64 k ∧ Hid (47 :: (l.take k).flatMap esc = b) ∧ b.length ≤ 2 * k + 1 ∧ wr.ownsRow w.heap.size 5 1 c3 b.length (b.map byteV) ∧ Below w.heap.size w wr) (fun _ c4 _ => l.length - (intOf c4).toNat)
  case atStart => exact ⟨0, [47], by omega, rfl, Lib.hid rfl, by simp, World.ownsRow_lit w #[.int .u8 47] 1 (Nat.le_refl _) (by decide) rfl, (Below.refl _ _).alloc (Nat.le_refl _) _⟩
  case round =>
    obtain ⟨k, b, hk, rfl, HB, hbl, hown, hbw⟩ := hrel
    have hbs := hbw.size
    by_cases hlt : k < l.length
    · have hlt' : k < (ByteArray.mk l.toArray).size := hlt
      have hget : (ByteArray.mk l.toArray)[k] = l[k] := rfl
      by_cases h126 : (l[k].toNat : Int) = 126
      · have e3 : ((l[k].toNat : Int) == 126) = true := by simpa using h126
        have e2 : (((ByteArray.mk l.toArray)[k].toNat : Int) == 126) = true := e3
        have Hesc := Lib.hid (esc_126 h126)
        clear h126
        go_wp2_with (at_builtin; refine wpList_append_own _ rfl (.tmp 16) (.tmp 17) _ rfl w.heap.size 5 i0 _ 1 1 Tryd.underlying54 hi0 hz0 hz1 hz2 rfl (by omega) u3 b.length (b.map byteV) rfl (hown.alloc _) ⟨wr.heap.size, 0, none⟩ 2 2 [.int .u8 126, .int .u8 48] rfl rfl (two_new _ _ _ _) (two_cell _ _ rfl rfl) (by unfold maxLen; omega) (by omega) (by simp; omega) ?_; intro v9 w9 hown9 hgr9 hnil9)
        go_wp2
        go_roundw
        case rel => exact ⟨k + 1, b ++ [126, 48], by omega, by go_num, Lib.hid (by rw [take_succ_flat l k hlt, ← HB.out, Hesc.out]; rfl), by simp; omega, by simpa [byteV] using hown9, ((hbw.alloc (by omega) _)).grown hgr9 (by simp; omega) (fun q hq => (hown.lt q hq).1)⟩
        case measure => simp [intOf]; omega
      · have e3 : ((l[k].toNat : Int) == 126) = false := by simpa using h126
        have e2 : (((ByteArray.mk l.toArray)[k].toNat : Int) == 126) = false := e3
        by_cases h47 : (l[k].toNat : Int) = 47
        · have e5 : ((l[k].toNat : Int) == 47) = true := by simpa using h47
          have e4 : (((ByteArray.mk l.toArray)[k].toNat : Int) == 47) = true := e5
          have Hesc := Lib.hid (esc_47 h47)
          clear h126 h47
          go_wp2_with (at_builtin; refine wpList_append_own _ rfl (.tmp 23) (.tmp 24) _ rfl w.heap.size 5 i0 _ 1 1 Tryd.underlying54 hi0 hz0 hz1 hz2 rfl (by omega) u3 b.length (b.map byteV) rfl (hown.alloc _) ⟨wr.heap.size, 0, none⟩ 2 2 [.int .u8 126, .int .u8 49] rfl rfl (two_new _ _ _ _) (two_cell _ _ rfl rfl) (by unfold maxLen; omega) (by omega) (by simp; omega) ?_; intro v9 w9 hown9 hgr9 hnil9)
          go_wp2
          go_roundw
          case rel => exact ⟨k + 1, b ++ [126, 49], by omega, by go_num, Lib.hid (by rw [take_succ_flat l k hlt, ← HB.out, Hesc.out]; rfl), by simp; omega, by simpa [byteV] using hown9, ((hbw.alloc (by omega) _)).grown hgr9 (by simp; omega) (fun q hq => (hown.lt q hq).1)⟩
          case measure => simp [intOf]; omega
        · have e5 : ((l[k].toNat : Int) == 47) = false := by simpa using h47
          have e4 : (((ByteArray.mk l.toArray)[k].toNat : Int) == 47) = false := e5
          have Hesc := Lib.hid (esc_no h126 h47)
          clear h126 h47
          go_wp2_with (at_builtin; refine wpList_append_own _ rfl (.tmp 26) (.tmp 30) _ rfl w.heap.size 5 i0 _ 1 1 Tryd.underlying54 hi0 hz0 hz1 hz2 rfl (by omega) u3 b.length (b.map byteV) rfl (hown.alloc _) ⟨wr.heap.size, 0, none⟩ 1 1 [byteV l[k]] rfl rfl (one_new _ _ _) (one_cell _ rfl) (by unfold maxLen; omega) (by omega) (by simp; omega) ?_; intro v9 w9 hown9 hgr9 hnil9)
          go_wp2
          go_roundw
          case rel => exact ⟨k + 1, b ++ [l[k]], by omega, by go_num, Lib.hid (by rw [take_succ_flat l k hlt, ← HB.out, Hesc.out]; rfl), by simp; omega, by simpa [byteV] using hown9, ((hbw.alloc (by omega) _)).grown hgr9 (by simp; omega) (fun q hq => (hown.lt q hq).1)⟩
          case measure => simp [intOf]; omega
    · obtain rfl : k = l.length := by omega
      have hb : b = piece l := by rw [← HB.out, List.take_length]; rfl
      have HP := Lib.hid hb
      clear hb HB
      have hcv := conv_own wr _ _ b hown
      go_wp2
      go_ret
      exact ⟨by rw [← HP.out]; rfl, hbw⟩

set_option maxRecDepth 100000 in
set_option maxHeartbeats 4000000 in
theorem refPrint_any (v : Value) (ts : List (List UInt8)) (w : World) (hv : Rd w v ts) (hbk : bulkS ts ≤ 1073741824) :
    Calls Tryd.prog 16 #[v] w fun e w' => e = .returned (.string ⟨(printS ts).toArray⟩) ∧ Below w.heap.size w w' := by
  obtain ⟨i0, hi0, hz0, hz1, hz2⟩ := info_parts info_u8
  have hlen := bulk_len ts
  obtain ⟨A, c, rfl, hA⟩ := hv
  have hv : Rd w (.slice A ts.length c) ts := ⟨A, c, rfl, hA⟩
  clear hA
  go_enter Tryd.func16, Tryd.ntmps16
  go_wp2
  go_loopw [3, 4] (fun c3 c4 wr => ∃ (k : Nat) (b : List UInt8), k ≤ ts.length ∧ c4 = .int .i64 k ∧ Hid (printS (ts.take k) = b) ∧ wr.ownsRow w.heap.size 5 1 c3 b.length (b.map byteV) ∧ Below w.heap.size w wr) (fun _ c4 _ => ts.length - (intOf c4).toNat)
  case atStart => exact ⟨0, [], by omega, rfl, Lib.hid rfl, World.ownsRow_nil _ _ _ _, Below.refl _ _⟩
  case round =>
    obtain ⟨k, b, hk, rfl, HB, hown, hbw⟩ := hrel
    have hbs := hbw.size
    by_cases hlt : k < ts.length
    · have hbk1 := bulk_at ts k hlt
      have hbk2 := bulk_le ts k
      have hbk3 := print_le (ts.take k)
      rw [HB.out] at hbk3
      have hbk4 := piece_le ts[k]
      have hsn := print_snoc ts k hlt
      obtain ⟨A', c', hAc, hcell⟩ := hv.below hbw
      injection hAc with hA1 _ hc1
      subst hA1; subst hc1
      obtain ⟨g, o, rfl, hgl, hcell⟩ := hcell k hlt
      have hcell' : wr.cell? ⟨g, o + k, none⟩ = some (.string ⟨ts[k].toArray⟩) := hcell
      have hi0' : (0 : Int) ≤ (k : Int) := by omega
      have hi1 : (k : Int) < (ts.length : Int) := by omega
      have Hsn := Lib.hid hsn
      clear hcell hsn
      generalize ts[k] = tk at *
      go_wp2_with fail
      refine (refPiece_any tk (by omega) _).mono ?_
      rintro e w1 ⟨rfl, hb1⟩
      have hown1 := own_below hown hb1
      have hbw1 := below_chain hbw hbs hb1
      have hbs1 := hbw1.size
      clear hown hbw hb1 hcell'
      generalize hpc : piece tk = pc at *
      have Hpc := Lib.hid hpc
      clear hpc
      have hpz : (ByteArray.mk pc.toArray).size = pc.length := rfl
      have Hpz := Lib.hid hpz
      clear hpz
      go_wp2_with (at_builtin; refine Lib.wpList_append_own_string _ rfl (.tmp 11) (.tmp 16) _ _ rfl w.heap.size 5 i0 Tryd.underlying54 Tryd.underlying9 hi0 hz0 hz1 hz2 u3 b.length (b.map byteV) rfl hown1 ⟨pc.toArray⟩ rfl (by rw [Hpz.out]; unfold maxLen; omega) (by rw [Hpz.out]; omega) hbs1 ?_; intro v9 w9 hown9 hgr9 hnil9)
      go_wp2
      go_roundw
      case rel => exact ⟨k + 1, b ++ pc, by omega, by go_num, Lib.hid (by rw [Hsn.out, HB.out]), own_str hown9 Hpz.out, hbw1.grown hgr9 hbs1 (fun q hq => (hown1.lt q hq).1)⟩
      case measure => simp [intOf]; omega
    · obtain rfl : k = ts.length := by omega
      have hb : b = printS ts := by rw [← HB.out, List.take_length]
      have HP := Lib.hid hb
      clear hb HB
      have hcv := conv_own wr _ _ b hown
      go_wp2
      go_ret
      exact ⟨by rw [← HP.out]; rfl, hbw⟩
end Go.Proofs.YtnldkbgbgngjjaaDoor
