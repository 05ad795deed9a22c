/-
  The law BindSums of layer 16: its walk.
  What a slice of int32 that came in reads as; the law BindSums over what came in.
-/
import Derived.Test.YtbajkglacfheiaaGreatDoorSA25
import Derived.Test.YtbajkglacfheiaaGreatDoorSA22
import Derived.Test.YtbajkglacfheiaaGreatDoorSA10
import Derived.ChangeSlices
set_option linter.unusedVariables false
set_option linter.unusedSimpArgs false
set_option maxRecDepth 100000
set_option maxHeartbeats 16000000
namespace Go.Proofs.YtbajkglacfheiaaGreatDoor
open Go.RowKit Mem Utf Ref3 Idx Tok TokC Ieee
set_option maxRecDepth 100000
namespace Nd
def RdZ (w : World) (v : Value) (zs : List Int) : Prop := ∃ A c, v = .slice A zs.length c ∧ zs.length ≤ c ∧ (zs = [] ∨ ∃ g o, A = some ⟨g, o, none⟩ ∧ ∀ (j : Nat) (z : Int), zs[j]? = some z → w.cell? ⟨g, o + j, none⟩ = some (.int .i32 z))
theorem sum_take_bd {zs : List Int} (h : ∀ z ∈ zs, z.natAbs ≤ 2147483648) (k : Nat) (hk : k ≤ 4000) : -8589934592000 ≤ (zs.take k).sum ∧ (zs.take k).sum ≤ 8589934592000 := by
 have h1 := sum_bound (zs.take k) fun z hz => h z (List.mem_of_mem_take hz)
 have h2 : (zs.take k).length ≤ 4000 := by rw [List.length_take]; omega
 omega
theorem sum_take_succ {zs : List Int} {k : Nat} (h : k < zs.length) : (zs.take (k + 1)).sum = (zs.take k).sum + zs[k] := by
 rw [List.take_add_one, List.getElem?_eq_getElem h, List.sum_append]
 simp
theorem zsT_take_succ {zs : List Int} {k : Nat} (h : k < zs.length) : zsT (zs.take (k + 1)) = zsT (zs.take k) ++ [.num (bitsZ zs[k])] := by
 rw [List.take_add_one, List.getElem?_eq_getElem h, ← zsT_snoc]
 rfl
theorem rev_take_succ {zs : List Int} {k : Nat} (h : k < zs.length) : zsT (zs.reverse.take (k + 1)) = zsT (zs.reverse.take k) ++ [.num (bitsZ (zs[zs.length - 1 - k]'(by omega)))] := by
 rw [zsT_take_succ (by rw [List.length_reverse]; exact h), List.getElem_reverse]
theorem RdZ.at {w wr : World} {A : Option Addr} {c k : Nat} {zs : List Int} (h : RdZ w (.slice A zs.length c) zs) (hb : Below w.heap.size w wr) (hlt : k < zs.length) : ∃ g o, A = some ⟨g, o, none⟩ ∧ wr.cell? ⟨g, o + k, none⟩ = some (.int .i32 zs[k]) := by
 obtain ⟨A', c', e', _, h'⟩ := h
 injection e' with e1 e2 e3
 rcases h' with h' | ⟨g, o, hA, hc⟩
 ·rw [h'] at hlt
  simp at hlt
 ·have h1 := hc k _ (List.getElem?_eq_getElem hlt)
  exact ⟨g, o, by rw [e1, hA], (hb.cell (World.block_lt_of_cell? _ _ h1)).trans h1⟩
theorem conv_z (z : Int) : floatOfInt .f64 z = bitsZ z := rfl
theorem RdZ.at2 {w wr : World} {A : Option Addr} {c k n : Nat} {zs : List Int} (h : RdZ w (.slice A zs.length c) zs) (hb : Below w.heap.size w wr) (hlt : k < (zs.take n).length) : ∃ g o, A = some ⟨g, o, none⟩ ∧ wr.cell? ⟨g, o + k, none⟩ = some (.int .i32 (zs.take n)[k]) := by
 have h1 := hlt
 rw [List.length_take] at h1
 rw [List.getElem_take]
 exact h.at hb (by omega)
theorem sums_any (v : Value) (zs : List Int) (x y : Nat) (w : World) (hS : RdZ w v zs) (hz : ∀ z ∈ zs, -2147483648 ≤ z ∧ z ≤ 2147483647) (hn : zs.length ≤ 1048576) (hx : x < 18446744073709551616) (hy : y < 18446744073709551616) (hG : Glob w) (hT : Tab w) : Calls Tryz.prog 6 #[v, .int .u64 (x : Int), .int .u64 (y : Int)] w (TrueN w) := by
 have q1 := err_ne_nil
 have q2 := err_ne_held
 have q3 := err_eq_nil
 have q4 := err_eq_held
 have q5 := f64bits
 obtain ⟨A, c, rfl, hlc, _⟩ := id hS
 obtain ⟨n, hn0⟩ : ∃ n, min zs.length 4000 = n := ⟨_, rfl⟩
 have hnL : n ≤ zs.length := by omega
 have hn4 : n ≤ 4000 := by omega
 have hmin : min (zs.length : Int) 4000 = (n : Int) := by omega
 have HS := Lib.hid hS
 obtain ⟨ys, hys⟩ : ∃ ys, zs.take n = ys := ⟨_, rfl⟩
 have HYL : Hid (ys.length = n) := Lib.hid (by rw [← hys, List.length_take]; omega)
 have HYZ : Hid (∀ z ∈ ys, z.natAbs ≤ 2147483648) := Lib.hid fun z h => by
  rw [← hys] at h
  have := hz z (List.mem_of_mem_take h)
  omega
 have HYB : Hid (∀ z ∈ ys, -2147483648 ≤ z ∧ z ≤ 2147483647) := Lib.hid fun z h => by
  rw [← hys] at h
  exact hz z (List.mem_of_mem_take h)
 have HAT : Hid (∀ (wr : World) (k : Nat) (hlt : k < ys.length), Below w.heap.size w wr → ∃ g o, A = some ⟨g, o, none⟩ ∧ wr.cell? ⟨g, o + k, none⟩ = some (.int .i32 ys[k])) := Lib.hid fun wr k hlt hb => by
  subst hys
  exact hS.at2 hb hlt
 have HN := Lib.hid (And.intro hnL (And.intro hn4 hn))
 have HXY := Lib.hid (And.intro hx hy)
 have HG := Lib.hid (And.intro hG hT)
 have HL1 : Hid (stepT (zsT ys) (listS (n : Int)) = (0, [.list (zsT ys)])) := Lib.hid (by
  have h := step_all (l := zsT ys) (zsT_fit (by rw [HYL.out]; omega))
  rw [zsT_len, HYL.out] at h
  exact h)
 have HL2 : Hid (stepT (zsT ys.reverse) (listS (n : Int)) = (0, [.list (zsT ys.reverse)])) := Lib.hid (by
  have h := step_all (l := zsT ys.reverse) (zsT_fit (by rw [List.length_reverse, HYL.out]; omega))
  rw [zsT_len, List.length_reverse, HYL.out] at h
  exact h)
 clear hS hz hx hy hG hT hn0 hn hys
 go_enter Tryz.func6, Tryz.ntmps6
 go_wp2_with fail
 ((with_reducible refine (mnew_any _).mono ?_); rintro e w1 ⟨rfl, hw1⟩)
 have HX1 : Hid (RwX w.heap.size 168 (w.heap.size + 1) [] w1) := Lib.hid (by rw [← hw1]; exact rwx_new w)
 have HB1 : Hid (Below w.heap.size w w1) := Lib.hid (by rw [← hw1]; exact (Below.refl _ _).alloc (Nat.le_refl _) _)
 clear hw1
 go_wp2_with fail
 ((with_reducible refine (wakes16_any _ (HG.out.1.next HB1.out) (HG.out.2.next HB1.out)).mono ?_); rintro e w2 ⟨rfl, hb2⟩)
 have HX2 := Lib.hid (HX1.out.below hb2)
 have HB2 := Lib.hid (HB1.out.trans (hb2.mono HB1.out.size))
 clear hb2
 have hnc : n ≤ c := by omega
 have hni : (n : Int) ≤ (c : Int) := by omega
 have hn0 : (0 : Int) ≤ (n : Int) := by omega
 go_wp2_with fail
 go_loopw [8, 34] (fun c8 c34 wr => ∃ (k : Nat) (s : Int), k ≤ n ∧ c34 = .int .i64 (k : Int) ∧ c8 = .int .i64 s ∧ Hid (s = (ys.take k).sum) ∧ Hid (RwX w.heap.size 168 (w.heap.size + 1) (zsT (ys.take k)) wr ∧ Below w.heap.size w wr)) (fun _ c34 _ => n - (intOf c34).toNat)
 case atStart => exact ⟨0, 0, Nat.zero_le _, rfl, rfl, Lib.hid (by simp), Lib.hid ⟨by simpa [zsT] using HX2.out, HB2.out⟩⟩
 case round =>
  obtain ⟨k, s, hk, rfl, rfl, HSU, HI⟩ := hrel
  by_cases hlt : k < n
  ·have hki : (k : Int) < (n : Int) := by omega
   have hk0 : (0 : Int) ≤ (k : Int) := by omega
   have hky : k < ys.length := by rw [HYL.out]; exact hlt
   have hsb := sum_take_bd HYZ.out k (by omega)
   rw [← HSU.out] at hsb
   obtain ⟨g, o, rfl, hc⟩ := HAT.out wr k hky HI.out.2
   have hzb := HYB.out _ (List.getElem_mem hky)
   have HS1 : Hid ((ys.take (k + 1)).sum = s + ys[k]) := Lib.hid (by rw [sum_take_succ hky, HSU.out])
   have HT1 : Hid (zsT (ys.take (k + 1)) = zsT (ys.take k) ++ [.num (bitsZ ys[k])]) := Lib.hid (zsT_take_succ hky)
   have HLT := Lib.hid hlt
   generalize ys[k] = z at *
   have HST : Hid (stepT (zsT (ys.take k)) (numS (bitsZ z)) = (0, zsT (ys.take k) ++ [.num (bitsZ z)])) := Lib.hid (step_z (by rw [zsT_len, List.length_take]; omega) (by omega))
   clear hky hlt hk
   go_wp2_with fail
   rw [conv_z]
   ((with_reducible refine (mk_num (bitsZ z) (bitsZ_lt z) w.heap.size 168 (w.heap.size + 1) (zsT (ys.take k)) _ HI.out.1 (by rw [zsT_len, List.length_take]; omega)).mono ?_); rintro e w5 ⟨rfl, hx5, hb5, _⟩)
   rw [HST.out] at hx5 ⊢
   dsimp only at hx5 ⊢
   rw [show errV 0 = .nilIface from rfl]
   have HX5 := Lib.hid hx5
   have HB5 := Lib.hid (HI.out.2.trans hb5)
   clear hx5 hb5
   go_wp2
   go_roundw
   case rel => exact ⟨k + 1, s + z, by have := HLT.out; omega, by go_num, by go_num, Lib.hid HS1.out.symm, Lib.hid ⟨by rw [HT1.out]; exact HX5.out, HB5.out⟩⟩
   case measure => have := HLT.out; simp [intOf]; omega
  ·obtain rfl : k = n := by omega
   have hyt : ys.take k = ys := List.take_of_length_le (by rw [HYL.out]; exact Nat.le_refl _)
   have hsu := HSU.out
   have hi := HI.out
   rw [hyt] at hsu hi
   have hsb := sum_bound ys HYZ.out
   rw [HYL.out, ← hsu] at hsb
   obtain ⟨X, hX⟩ : ∃ X, bitsZ s = X := ⟨_, rfl⟩
   have hsn : s.natAbs < 9007199254740992 := by omega
   have hXv := bitsZ_val hsn
   have hXn := bitsZ_ne hsn
   have hXl := bitsZ_lt s
   have hcv : floatOfInt .f64 s = X := hX
   have HTOT : Hid (∀ w e w', TotP (.list (zsT ys)) [] w e w' → e = .returned (.tuple #[.float .f64 X, .nilIface]) ∧ Below w.heap.size w w') := Lib.hid fun w e w' hp => by
    have h := totP_zs HYZ.out (by rw [HYL.out]; exact hn4) hp
    rw [← hsu, hX] at h
    exact h
   have HTOR : Hid (∀ w e w', TotP (.list (zsT ys.reverse)) [] w e w' → e = .returned (.tuple #[.float .f64 X, .nilIface]) ∧ Below w.heap.size w w') := Lib.hid fun w e w' hp => by
    have h := totP_zs (zs := ys.reverse) (fun z hz => HYZ.out z (List.mem_reverse.1 hz)) (by rw [List.length_reverse, HYL.out]; exact hn4) hp
    rw [sum_rev, ← hsu, hX] at h
    exact h
   rw [hX] at hXv hXn hXl
   have hxe : ((X : Int) == 9223372036854775808) = false := by
    rw [beq_eq_false_iff_ne]
    omega
   have o1 := ord_self hXl hXv.1
   have r1 := ordt o1
   have r2 := ordb o1
   have r3 := ordn o1
   have HX3 := Lib.hid hi.1
   have HB3 := Lib.hid hi.2
   have hwl : (w.heap.size) < wr.heap.size := by have := hi.1.plt; omega
   have HWL := Lib.hid hwl
   clear hyt hsu hi hsb hX hsn hXv hXn hXl o1 HSU HI hk hlt hwl
   obtain ⟨wq, rfl⟩ : ∃ wq, wq = wr := ⟨_, rfl⟩
   go_wp2_with fail
   ((with_reducible refine (mk_list (k : Int) w.heap.size 168 (w.heap.size + 1) (zsT ys) _ HX3.out (by rw [zsT_len, HYL.out]; omega)).mono ?_); rintro e w4 ⟨rfl, hx4, hb4, _⟩)
   rw [HL1.out] at hx4 ⊢
   dsimp only at hx4 ⊢
   rw [show errV 0 = .nilIface from rfl]
   have HX4 := Lib.hid hx4
   have HB4 := Lib.hid (HB3.out.trans hb4)
   clear hx4 hb4
   go_wp2_with fail
   ((with_reducible refine (mk_tree w.heap.size 168 (w.heap.size + 1) (.list (zsT ys)) _ HX4.out).mono ?_); rintro e w5 ⟨⟨g5, rfl, hTA⟩, hb5⟩)
   obtain ⟨_, hfit, tv, hB, hrd⟩ := hTA
   have hra : RdA w5 (.list (zsT ys)) tv := RdT.move (fun j hj hs => ⟨trivial, rfl⟩) _ _ hrd
   have HBT := Lib.hid (And.intro hB (And.intro hra (And.intro (zsT_ok HYZ.out) hfit)))
   have HB5 := Lib.hid (HB4.out.trans (hb5.mono HB4.out.size))
   clear hB hrd hfit hra hb5
   go_wp2_with fail
   ((with_reducible refine (btotal_any g5 (.list (zsT ys)) tv [] w5 _ HBT.out.1 HBT.out.2.1 (Below.refl _ _) HBT.out.2.2.1 HBT.out.2.2.2 (by simp) (HG.out.1.next HB5.out) (HG.out.2.next HB5.out)).mono ?_); intro e w6 hp)
   obtain ⟨rfl, hb6⟩ := HTOT.out _ _ _ hp
   have HB6 := Lib.hid (HB5.out.trans (hb6.mono HB5.out.size))
   clear hb6 hp
   go_wp2_with fail
   ((with_reducible refine (mnew_any _).mono ?_); rintro e w7 ⟨rfl, hw7⟩)
   have HX7 : Hid (RwX w6.heap.size 168 (w6.heap.size + 1) [] w7) := Lib.hid (by rw [← hw7]; exact rwx_new w6)
   have HB67 : Hid (Below w6.heap.size w6 w7) := Lib.hid (by rw [← hw7]; exact (Below.refl _ _).alloc (Nat.le_refl _) _)
   clear hw7 hxe
   go_wp2_with fail
   go_loopw [17] (fun c17 ws => ∃ (j : Nat) (v : Int), j ≤ k ∧ c17 = .int .i64 v ∧ v = (j : Int) - 1 ∧ Hid (RwX w6.heap.size 168 (w6.heap.size + 1) (zsT (ys.reverse.take (k - j))) ws ∧ Below w6.heap.size w6 ws)) (fun c17 _ => (intOf c17 + 1).toNat)
   case atStart => exact ⟨k, (k : Int) - 1, Nat.le_refl _, by go_num, rfl, Lib.hid ⟨by rw [Nat.sub_self]; exact HX7.out, HB67.out⟩⟩
   case round =>
    obtain ⟨j, v, hj, rfl, hv, HI⟩ := hrel
    rcases j with _ | i
    ·obtain rfl : v = -1 := by omega
     have hi := HI.out
     rw [Nat.sub_zero, List.take_of_length_le (by rw [List.length_reverse, HYL.out]; exact Nat.le_refl _)] at hi
     have HX8 := Lib.hid hi.1
     have HB8 := Lib.hid hi.2
     clear hi HI hv hj
     go_wp2_with fail
     ((with_reducible refine (mk_list (k : Int) w6.heap.size 168 (w6.heap.size + 1) (zsT ys.reverse) _ HX8.out (by rw [zsT_len, List.length_reverse, HYL.out]; omega)).mono ?_); rintro e w9 ⟨rfl, hx9, hb9, _⟩)
     rw [HL2.out] at hx9 ⊢
     dsimp only at hx9 ⊢
     rw [show errV 0 = .nilIface from rfl]
     have HX9 := Lib.hid hx9
     have HB9 := Lib.hid (HB8.out.trans hb9)
     clear hx9 hb9
     go_wp2_with fail
     ((with_reducible refine (mk_tree w6.heap.size 168 (w6.heap.size + 1) (.list (zsT ys.reverse)) _ HX9.out).mono ?_); rintro e wa ⟨⟨ga, rfl, hTB⟩, hba⟩)
     obtain ⟨_, hfit, tw, hB, hrd⟩ := hTB
     have hra : RdA wa (.list (zsT ys.reverse)) tw := RdT.move (fun j hj hs => ⟨trivial, rfl⟩) _ _ hrd
     have HBU := Lib.hid (And.intro hB (And.intro hra (And.intro (zsT_ok (zs := ys.reverse) fun z hz => HYZ.out z (List.mem_reverse.1 hz)) hfit)))
     have HBA := Lib.hid (HB6.out.trans ((HB9.out.trans (hba.mono HB9.out.size)).mono HB6.out.size))
     clear hB hrd hfit hra hba
     go_wp2_with fail
     ((with_reducible refine (btotal_any ga (.list (zsT ys.reverse)) tw [] wa _ HBU.out.1 HBU.out.2.1 (Below.refl _ _) HBU.out.2.2.1 HBU.out.2.2.2 (by simp) (HG.out.1.next HBA.out) (HG.out.2.next HBA.out)).mono ?_); intro e wb hp)
     obtain ⟨rfl, hbb⟩ := HTOR.out _ _ _ hp
     have HBB := Lib.hid (HBA.out.trans (hbb.mono HBA.out.size))
     clear hbb hp
     go_wp2_with fail
     ((with_reducible refine (single_any x y HXY.out.1 HXY.out.2 _ (HG.out.1.next HBB.out) (HG.out.2.next HBB.out)).mono ?_); rintro e wd ⟨rfl, hbd⟩)
     have HBD := Lib.hid (HBB.out.trans (hbd.mono HBB.out.size))
     clear hbd
     go_wp2
     go_ret
     exact ⟨rfl, HBD.out⟩
    ·obtain rfl : v = (i : Int) := by omega
     have hik : i < k := by omega
     have hi0 : (0 : Int) ≤ (i : Int) := by omega
     have hiz : (i : Int) < (zs.length : Int) := by omega
     have hib : (i : Int) ≤ 4000 := by omega
     have hiy : i < ys.length := by rw [HYL.out]; exact hik
     have hbw := HB6.out.trans (HI.out.2.mono HB6.out.size)
     obtain ⟨g, o, rfl, hc⟩ := HAT.out wr i hiy hbw
     have hzb := HYB.out _ (List.getElem_mem hiy)
     have HT1 : Hid (zsT (ys.reverse.take (k - i)) = zsT (ys.reverse.take (k - (i + 1))) ++ [.num (bitsZ ys[i])]) := Lib.hid (by
      have h := rev_take_succ (zs := ys) (k := k - (i + 1)) (by rw [HYL.out]; omega)
      have e1 : k - (i + 1) + 1 = k - i := by omega
      have e2 : ys.length - 1 - (k - (i + 1)) = i := by rw [HYL.out]; omega
      rw [e1] at h
      simp only [e2] at h
      exact h)
     have HLT := Lib.hid hik
     generalize ys[i] = z at *
     have hlen : (zsT (ys.reverse.take (k - (i + 1)))).length < 65536 := by rw [zsT_len, List.length_take]; omega
     have HST : Hid (stepT (zsT (ys.reverse.take (k - (i + 1)))) (numS (bitsZ z)) = (0, zsT (ys.reverse.take (k - (i + 1))) ++ [.num (bitsZ z)])) := Lib.hid (step_z hlen (by omega))
     have HLN := Lib.hid hlen
     clear hiy hik hj hv hbw hlen
     go_wp2_with fail
     rw [conv_z]
     ((with_reducible refine (mk_num (bitsZ z) (bitsZ_lt z) w6.heap.size 168 (w6.heap.size + 1) (zsT (ys.reverse.take (k - (i + 1)))) _ HI.out.1 (by have := HLN.out; omega)).mono ?_); rintro e wf ⟨rfl, hxf, hbf, _⟩)
     rw [HST.out] at hxf ⊢
     dsimp only at hxf ⊢
     rw [show errV 0 = .nilIface from rfl]
     have HXF := Lib.hid hxf
     have HBF := Lib.hid (HI.out.2.trans hbf)
     clear hxf hbf
     go_wp2
     go_roundw
     case rel => exact ⟨i, (i : Int) - 1, by have := HLT.out; omega, by go_num, rfl, Lib.hid ⟨by rw [HT1.out]; exact HXF.out, HBF.out⟩⟩
     case measure => simp [intOf]
end Nd
end Go.Proofs.YtbajkglacfheiaaGreatDoor
namespace Go.Proofs.YtbajkglacfheiaaGreatDoor
open Go.ChangeShapes Go.WideShapes Go.RowKit Go.Deep Mem
namespace Nd
theorem lits_len {H : Type} (k : IntKind) (l : List Int) : (lits (H := H) k l).length = l.length := by simp [lits]
theorem open_i32s {H : Type} {enc : TypeId × Value → H} {W : World} {A : Option Addr} {len cap : Nat} {d : DataW H} {ps : List MemPlace} (h : DataW.Trod enc Tryz.prog W 0 (fun _ => true) true 36 (.slice A len cap) d ps) (hb : Rows.uptoBulk d ≤ 1048576) :
  ∃ zs : List Int, zs.length = len ∧ RdZ W (.slice A len cap) zs ∧ (∀ z ∈ zs, -2147483648 ≤ z ∧ z ≤ 2147483647) ∧ zs.length ≤ 1048576 := by
 obtain ⟨fuel, hf⟩ := h
 rcases open_ints Tryz.underlying36 Tryz.underlying21 (by kernel_rfl) hf with ⟨hcs, hx⟩ | ⟨ad, len', cap', zs, hcs, _, hl, hm, hz, hx, hcell, hws⟩
 ·simp [Value.cells] at hcs
  obtain ⟨rfl, rfl, rfl⟩ := hcs
  exact ⟨[], rfl, ⟨none, 0, rfl, Nat.le_refl _, .inl rfl⟩, fun s hs => (by simp at hs), Nat.zero_le _⟩
 ·simp [Value.cells] at hcs
  obtain ⟨rfl, rfl, rfl⟩ := hcs
  have hz' : zs.length = cap := by simpa using hz
  have hlen : (zs.take len).length = len := by rw [List.length_take]; omega
  have hd : d = _ := congrArg Prod.fst hx
  subst hd
  have hbl : len ≤ 1048576 := by
   have h1 := bulkAll_len (lits (H := H) .i32 (zs.take len))
   rw [lits_len, hlen] at h1
   simp only [Rows.uptoBulk] at hb
   omega
  refine ⟨zs.take len, hlen, ⟨some ad, cap, by rw [hlen], by rw [hlen]; exact hl, ?_⟩, fun z hz => ?_, by rw [hlen]; exact hbl⟩
  ·rcases Nat.eq_zero_or_pos len with h0 | hp
   ·exact .inl (List.length_eq_zero_iff.1 (by omega))
   ·obtain ⟨g, o, spot⟩ := ad
    have hspot : spot = none := by simpa [Addr.add] using World.cell?_spot (hcell 0 (by omega))
    subst hspot
    refine .inr ⟨g, o, rfl, fun j t hj => ?_⟩
    have hjl : j < len := by
     rcases Nat.lt_or_ge j len with h | h
     ·exact h
     ·rw [List.getElem?_eq_none (by omega)] at hj
      cases hj
    have hc := hcell j (by omega)
    have e1 : (⟨g, o, none⟩ : Addr).add j = ⟨g, o + j, none⟩ := by
     unfold Addr.add
     split <;> simp_all
    rw [e1] at hc
    rw [List.getElem?_take, if_pos hjl, List.getElem?_eq_getElem (by omega)] at hj
    injection hj with hj
    subst hj
    rw [hc, List.getD_eq_getElem?_getD, List.getElem?_eq_getElem (by omega)]
    rfl
  ·have h := hws z (List.mem_of_mem_take hz)
   simp [Lit.wf, IntKind.min, IntKind.max, IntKind.signed, IntKind.bits] at h
   omega
theorem u64_of {n : Int} (h : (Lit.int .u64 n).wf = true) : ∃ m : Nat, n = (m : Int) ∧ m < 18446744073709551616 := by
 simp [Lit.wf, IntKind.min, IntKind.max, IntKind.signed, IntKind.bits] at h
 exact ⟨n.toNat, by omega, by omega⟩
theorem sums_open {len cap : Nat} {A : Option Addr} {zs : List Int} (n1 n2 : Int) (W : World) (hl : zs.length = len) (hS : RdZ W (.slice A len cap) zs) (hz : ∀ z ∈ zs, -2147483648 ≤ z ∧ z ≤ 2147483647) (hn : zs.length ≤ 1048576) (h1 : (Lit.int .u64 n1).wf = true) (h2 : (Lit.int .u64 n2).wf = true) (hG : Glob W) (hT : Tab W) : Calls Tryz.prog 6 #[.slice A len cap, .int .u64 n1, .int .u64 n2] W (TrueN W) := by
 obtain ⟨x, rfl, hx⟩ := u64_of h1
 obtain ⟨y, rfl, hy⟩ := u64_of h2
 exact sums_any _ zs x y W hS hz hn hx hy hG hT
end Nd
end Go.Proofs.YtbajkglacfheiaaGreatDoor
