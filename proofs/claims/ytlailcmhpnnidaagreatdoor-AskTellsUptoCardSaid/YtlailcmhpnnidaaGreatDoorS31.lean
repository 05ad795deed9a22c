/-
  The law's same of layer 14: lists, objects, every tree.
  Layer 14: the tree of steps, and the document's value.
-/
import Derived.Test.YtlailcmhpnnidaaGreatDoorS26
import Derived.Test.YtlailcmhpnnidaaGreatDoorS30
import Derived.Test.YtlailcmhpnnidaaGreatDoorS15
import Derived.Test.YtlailcmhpnnidaaGreatDoorS24
import Derived.Test.YtlailcmhpnnidaaGreatDoorS10
import Derived.Deep.RegionHeldLaw
import Derived.BigRegion
set_option linter.unusedVariables false
set_option linter.unusedSimpArgs false
set_option maxRecDepth 100000
set_option maxHeartbeats 16000000
namespace Go.Proofs.YtlailcmhpnnidaaGreatDoor
open Go.RowKit Mem
namespace Nd
theorem en_same1 (args : Array Value) (w : World) : (callFunc 43 args).run Tryz.prog w = .ok (.enter 43 args) w := by kernel_rfl
theorem row2_below {w w' : World} {e : TypeId} {v : Value} {n : Nat} {xs : List Value} (h : Row2 (fun _ => True) w e v n xs) (hb : Below w.heap.size w w') : Row2 (fun _ => True) w' e v n xs := h.move fun k hk hs => ⟨trivial, hb.block k hk⟩
theorem row_below {w w' : World} {e : TypeId} {v : Value} {xs : List Value} (h : Row (fun _ => True) w e v xs) (hb : Below w.heap.size w w') : Row (fun _ => True) w' e v xs := h.move fun k hk hs => ⟨trivial, hb.block k hk⟩
theorem tdl_below {w w' : World} {l : List Tr} {vs : List Value} (h : TdL (fun _ => True) w l vs) (hb : Below w.heap.size w w') : TdL (fun _ => True) w' l vs := h.move fun k hk hs => ⟨trivial, hb.block k hk⟩
theorem cellsA_below {w w' : World} {A : Option Addr} {us : List Value} (h : Cells (fun _ => True) w A us) (hb : Below w.heap.size w w') : Cells (fun _ => True) w' A us := by
 rcases h with h | ⟨g, o, hA, hS, hc⟩
 ·exact .inl h
 ·exact .inr ⟨g, o, hA, hS, fun i u hu => (hb.cell (p := ⟨g, o + i, none⟩) (World.block_lt_of_cell? w _ (hc i u hu))).trans (hc i u hu)⟩
theorem rdvl_below {w w' : World} {l : List Tr} {xs : List X4} (h : RdVL (fun _ => True) w l xs) (hb : Below w.heap.size w w') : RdVL (fun _ => True) w' l xs := h.move fun k hk hs => ⟨trivial, hb.block k hk⟩
theorem rdk_cells {w : World} {K : Option Addr} {ks : List Tx} (h : Cells (fun _ => True) w K (ks.map txV)) (d : Nat) : RdK w (.slice K ks.length d) ks := by
 refine ⟨K, d, rfl, ?_⟩
 rcases h with h | ⟨g, o, hA, _, hc⟩
 ·exact .inl (List.map_eq_nil_iff.1 h)
 ·exact .inr ⟨g, o, hA, fun j t ht => hc j _ (by rw [List.getElem?_map, ht]; rfl)⟩
theorem same14_1 (y : Tx) (u : Tr) (T1 : TypeId) (U1 : Value) (A3 : Option Addr) (c3 : Nat) (K3 : Option Addr) (d3 : Nat) (w : World) (htd : TdA w u (.iface T1 U1)) (hrv : RdVA w u ((A3, c3), (K3, d3)))
  (ih : ∀ (W : World), TdA W u (.iface T1 U1) → RdVA W u ((A3, c3), (K3, d3)) → Calls Tryz.prog 18 #[.iface T1 U1, .agg #[.int .i64 (u.srt : Nat), .bool u.fl, .int .u64 (u.bi : Nat), .string ⟨u.tx.toArray⟩, .slice A3 u.kids.length c3, .slice K3 u.kn.length d3]] W (ToldP W)) :
  Calls Tryz.prog 43 #[.agg #[.string ⟨y.toArray⟩, .iface T1 U1], .agg #[.int .i64 (u.srt : Nat), .bool u.fl, .int .u64 (u.bi : Nat), .string ⟨u.tx.toArray⟩, .slice A3 u.kids.length c3, .slice K3 u.kn.length d3]] w (ToldP w) := by
 obtain ⟨w1, hw1⟩ : ∃ w1, (w.alloc (.cells #[.string ⟨y.toArray⟩, .iface T1 U1] 116)).alloc (.cells #[.int .i64 (u.srt : Nat), .bool u.fl, .int .u64 (u.bi : Nat), .string ⟨u.tx.toArray⟩, .slice A3 u.kids.length c3, .slice K3 u.kn.length d3] 28) = w1 := ⟨_, rfl⟩
 have hb1 : Below w.heap.size w w1 := by rw [← hw1]; exact ((Below.refl _ _).alloc (Nat.le_refl _) _).alloc (by simp) _
 have B1 : Blk w1 w.heap.size 116 #[.string ⟨y.toArray⟩, .iface T1 U1] := by rw [← hw1]; exact (Blk.new w _ _).alloc _
 have B2 : Blk w1 (w.heap.size + 1) 28 #[.int .i64 (u.srt : Nat), .bool u.fl, .int .u64 (u.bi : Nat), .string ⟨u.tx.toArray⟩, .slice A3 u.kids.length c3, .slice K3 u.kn.length d3] := by
  have := Blk.new (w.alloc (.cells #[.string ⟨y.toArray⟩, .iface T1 U1] 116)) 28 #[.int .i64 (u.srt : Nat), .bool u.fl, .int .u64 (u.bi : Nat), .string ⟨u.tx.toArray⟩, .slice A3 u.kids.length c3, .slice K3 u.kn.length d3]
  rw [World.size_alloc, hw1] at this
  exact this
 have a1 := B1.cell 1
 have r0 := B2.cell 0
 have r1 := B2.cell 1
 have r2 := B2.cell 2
 have r3 := B2.cell 3
 have r4 := B2.cell 4
 have r5 := B2.cell 5
 simp at a1 r0 r1 r2 r3 r4 r5
 have HIH := Lib.hid ih
 have HB := Lib.hid hb1
 have HT := Lib.hid (tda_below htd hb1)
 have HR := Lib.hid (rdva_below hrv hb1)
 clear ih hb1 htd hrv B1 B2
 go_enter Tryz.func43, Tryz.ntmps43
 go_upto_region 1 with fail
 clear hw1
 go_wp2_with fail
 ((with_reducible refine (HIH.out _ HT.out HR.out).mono ?_); rintro e w2 ⟨rfl, hb⟩)
 have HB2 := Lib.hid (HB.out.trans (hb.mono HB.out.size))
 go_wp2
 go_ret
 exact ⟨rfl, HB2.out⟩
theorem eqf_obj (ks : List Tx) (l : List Tr) (X : Option Addr) (xc : Nat) (vs : List Value) (A : Option Addr) (c : Nat) (xs : List X4) (w0 w : World) (hb0 : Below w0.heap.size w0 w)
  (hrow : Row2 (fun _ => True) w0 116 (.slice X l.length xc) l.length (pairs ks vs)) (htl : TdL (fun _ => True) w0 l vs) (hcs : Cells (fun _ => True) w0 A (cellsV l xs)) (hrl : RdVL (fun _ => True) w0 l xs) (hkl : ks.length = l.length) (hn : l.length ≤ 1048576)
  (ih : ∀ (k : Nat) (h : k < l.length) (x : Value) (y : X4) (W : World), TdA W l[k] x → RdVA W l[k] y → Calls Tryz.prog 18 #[x, valV l[k] y.1.1 y.1.2 y.2.1 y.2.2] W (ToldP W)) :
  Calls Tryz.prog 42 #[.slice X l.length xc, .slice A l.length c, .func (.func 43) #[] #[]] w (ToldP w) := by
 have hen := en_same1
 have HROW := Lib.hid (And.intro hrow (And.intro htl (And.intro hcs hrl)))
 have HIH0 := Lib.hid ih
 have HKL := Lib.hid hkl
 have HB0 := Lib.hid hb0
 have e1 : ((l.length : Int) != (l.length : Int)) = false := by simp
 clear hrow htl hcs hrl ih hkl hb0
 go_enter Tryz.func42, Tryz.ntmps42
 go_wp2_with fail
 go_loopw [17] (fun c17 wr => ∃ k : Nat, k ≤ l.length ∧ c17 = .int .i64 (k : Nat) ∧ Hid (Below w.heap.size w wr)) (fun c17 _ => l.length - (intOf c17).toNat)
 case atStart => exact ⟨0, Nat.zero_le _, rfl, Lib.hid (Below.refl _ _)⟩
 case round =>
  obtain ⟨k, hk, rfl, HI⟩ := hrel
  by_cases hlt : k < l.length
  ·obtain ⟨g1, o1, T1, U1, rfl, hk0, hc0, htd⟩ := trow2_at HROW.out.1 HROW.out.2.1 HKL.out hlt
   obtain ⟨g2, o2, ⟨⟨A3, c3⟩, K3, d3⟩, rfl, _, _, hcv0, hrv⟩ := cells_at HROW.out.2.2.1 HROW.out.2.2.2 hlt
   have hbw := HB0.out.trans (HI.out.mono HB0.out.size)
   have hck := (hbw.cell (p := ⟨g1, o1 + k * 2, none⟩) (World.block_lt_of_cell? w0 _ hk0)).trans hk0
   have hcv := (hbw.cell (p := ⟨g1, o1 + k * 2 + 1, none⟩) (World.block_lt_of_cell? w0 _ hc0)).trans hc0
   have HTD := Lib.hid (tda_below htd hbw)
   have HRV := Lib.hid (rdva_below hrv hbw)
   obtain ⟨y0, hy0⟩ : ∃ y, ks[k]'(by have := HKL.out; omega) = y := ⟨_, rfl⟩
   obtain ⟨r0, r1, r2, r3, r4, r5⟩ := hcv0.below (hbw.trans (((Below.refl wr.heap.size wr).alloc (Nat.le_refl _) (.cells #[.string ⟨y0.toArray⟩, .iface T1 U1] 116)).mono hbw.size))
   obtain ⟨u, hu⟩ : ∃ u, l[k] = u := ⟨_, rfl⟩
   subst hy0
   obtain ⟨y, hy⟩ : ∃ y, ks[k]'(by have := HKL.out; omega) = y := ⟨_, rfl⟩
   have hih := fun (W : World) (a : TdA W l[k] (.iface T1 U1)) (b : RdVA W l[k] ((A3, c3), (K3, d3))) => HIH0.out k hlt _ ((A3, c3), (K3, d3)) W a b
   rw [hu] at hih HTD HRV r0 r1 r2 r3 r4 r5
   rw [hy] at hck r0 r1 r2 r3 r4 r5
   have HIH : Hid (∀ (W : World), TdA W u (.iface T1 U1) → RdVA W u ((A3, c3), (K3, d3)) → Calls Tryz.prog 18 #[.iface T1 U1, .agg #[.int .i64 (u.srt : Nat), .bool u.fl, .int .u64 (u.bi : Nat), .string ⟨u.tx.toArray⟩, .slice A3 u.kids.length c3, .slice K3 u.kn.length d3]] W (ToldP W)) := Lib.hid hih
   have hk1 : (k : Int) < (l.length : Int) := by omega
   have hk2 : (0 : Int) ≤ (k : Int) := by omega
   have hba : Below wr.heap.size wr ((wr.alloc (.cells #[.string ⟨y.toArray⟩, .iface T1 U1] 116)).alloc (.cells #[.int .i64 (u.srt : Nat), .bool u.fl, .int .u64 (u.bi : Nat), .string ⟨u.tx.toArray⟩, .slice A3 u.kids.length c3, .slice K3 u.kn.length d3] 28)) := ((Below.refl _ _).alloc (Nat.le_refl _) _).alloc (by simp) _
   have HBA := Lib.hid hba
   clear hu hy hih hk0 hc0 htd hcv0 hrv hbw hba
   go_wp2_with fail
   ((with_reducible refine (same14_1 y u T1 U1 A3 c3 K3 d3 _ (tda_below HTD.out HBA.out) (rdva_below HRV.out HBA.out) HIH.out).mono ?_); rintro e w5 ⟨rfl, hb⟩)
   have HN := Lib.hid (HI.out.trans ((HBA.out.trans (hb.mono HBA.out.size)).mono HI.out.size))
   clear hb
   go_wp2
   go_roundw
   case rel => exact ⟨k + 1, by omega, by go_num, HN⟩
   case measure => simp [intOf]; omega
  ·obtain rfl : k = l.length := by omega
   go_wp2
   go_ret
   exact ⟨rfl, HI.out⟩
theorem same14_list (l : List Tr) (X : Option Addr) (xc : Nat) (vs : List Value) (A : Option Addr) (c : Nat) (K : Option Addr) (d : Nat) (xs : List X4) (w : World)
  (hrow : Row (fun _ => True) w 35 (.slice X l.length xc) vs) (htl : TdL (fun _ => True) w l vs) (hcs : Cells (fun _ => True) w A (cellsV l xs)) (hrl : RdVL (fun _ => True) w l xs) (hn : l.length ≤ 1048576)
  (ih : ∀ (k : Nat) (h : k < l.length) (x : Value) (y : X4) (W : World), TdA W l[k] x → RdVA W l[k] y → Calls Tryz.prog 18 #[x, valV l[k] y.1.1 y.1.2 y.2.1 y.2.2] W (ToldP W)) :
  Calls Tryz.prog 18 #[.iface 109 (.slice X l.length xc), .agg #[.int .i64 5, .bool false, .int .u64 0, .string ⟨#[]⟩, .slice A l.length c, .slice K 0 d]] w (ToldP w) := by
 have t0 := tv_4_0 X l.length xc
 have t1 := tv_4_1 X l.length xc
 have t2 := tv_4_2 X l.length xc
 have t3 := tv_4_3 X l.length xc
 have t4 := tv_4_4 X l.length xc
 have hb1 : Below w.heap.size w (w.alloc (.cells #[.int .i64 5, .bool false, .int .u64 0, .string ⟨#[]⟩, .slice A l.length c, .slice K 0 d] 28)) := (Below.refl _ _).alloc (Nat.le_refl _) _
 have hB := Blk.new w 28 #[.int .i64 5, .bool false, .int .u64 0, .string ⟨#[]⟩, .slice A l.length c, .slice K 0 d]
 have HB1 := Lib.hid hb1
 have b0 : (w.alloc (.cells #[.int .i64 5, .bool false, .int .u64 0, .string ⟨#[]⟩, .slice A l.length c, .slice K 0 d] 28)).cell? ⟨w.heap.size, 0, none⟩ = some (.int .i64 5) := hB.cell 0
 have b4 : (w.alloc (.cells #[.int .i64 5, .bool false, .int .u64 0, .string ⟨#[]⟩, .slice A l.length c, .slice K 0 d] 28)).cell? ⟨w.heap.size, 4, none⟩ = some (.slice A l.length c) := hB.cell 4
 have HE := Lib.hid (eqf_list l X xc vs A c xs _ (row_below hrow hb1) (tdl_below htl hb1) (cellsA_below hcs hb1) (rdvl_below hrl hb1) hn ih)
 have e1 : ((l.length : Int) == (l.length : Int)) = true := by simp
 clear hb1 hB hrow htl hcs hrl ih
 go_enter Tryz.func18, Tryz.ntmps18
 go_upto_region 1 with fail
 generalize (w.alloc (.cells #[.int .i64 5, .bool false, .int .u64 0, .string ⟨#[]⟩, .slice A l.length c, .slice K 0 d] 28)) = w1 at *
 go_wp2_with fail
 ((with_reducible refine HE.out.mono ?_); rintro e w2 ⟨rfl, hb⟩)
 have HB2 := Lib.hid (HB1.out.trans (hb.mono HB1.out.size))
 clear hb
 go_wp2
 go_ret
 exact ⟨rfl, HB2.out⟩
theorem three14 {w1 W W' : World} {p q r : Addr} {x y z : Value} (h : W.cell? p = some x ∧ W.cell? q = some y ∧ W.cell? r = some z ∧ Below w1.heap.size w1 W) (hb : Below W.heap.size W W') : W'.cell? p = some x ∧ W'.cell? q = some y ∧ W'.cell? r = some z ∧ Below w1.heap.size w1 W' :=
 ⟨(hb.cell (World.block_lt_of_cell? _ _ h.1)).trans h.1, (hb.cell (World.block_lt_of_cell? _ _ h.2.1)).trans h.2.1, (hb.cell (World.block_lt_of_cell? _ _ h.2.2.1)).trans h.2.2.1, h.2.2.2.trans (hb.mono h.2.2.2.size)⟩
theorem same14_obj (ks : List Tx) (l : List Tr) (X : Option Addr) (xc : Nat) (vs : List Value) (A : Option Addr) (c : Nat) (K : Option Addr) (d : Nat) (xs : List X4) (w : World)
  (hrow : Row2 (fun _ => True) w 116 (.slice X l.length xc) l.length (pairs ks vs)) (htl : TdL (fun _ => True) w l vs) (hcs : Cells (fun _ => True) w A (cellsV l xs)) (hrl : RdVL (fun _ => True) w l xs) (hky : Cells (fun _ => True) w K (ks.map txV)) (hkl : ks.length = l.length) (hn : l.length ≤ 1048576)
  (ih : ∀ (k : Nat) (h : k < l.length) (x : Value) (y : X4) (W : World), TdA W l[k] x → RdVA W l[k] y → Calls Tryz.prog 18 #[x, valV l[k] y.1.1 y.1.2 y.2.1 y.2.2] W (ToldP W)) :
  Calls Tryz.prog 18 #[.iface 112 (.slice X l.length xc), .agg #[.int .i64 6, .bool false, .int .u64 0, .string ⟨#[]⟩, .slice A l.length c, .slice K ks.length d]] w (ToldP w) := by
 have t0 := tv_5_0 X l.length xc
 have t1 := tv_5_1 X l.length xc
 have t2 := tv_5_2 X l.length xc
 have t3 := tv_5_3 X l.length xc
 have t4 := tv_5_4 X l.length xc
 have t5 := tv_5_5 X l.length xc
 have hb1 : Below w.heap.size w (w.alloc (.cells #[.int .i64 6, .bool false, .int .u64 0, .string ⟨#[]⟩, .slice A l.length c, .slice K ks.length d] 28)) := (Below.refl _ _).alloc (Nat.le_refl _) _
 have hB := Blk.new w 28 #[.int .i64 6, .bool false, .int .u64 0, .string ⟨#[]⟩, .slice A l.length c, .slice K ks.length d]
 have HB1 := Lib.hid hb1
 have b0 : (w.alloc (.cells #[.int .i64 6, .bool false, .int .u64 0, .string ⟨#[]⟩, .slice A l.length c, .slice K ks.length d] 28)).cell? ⟨w.heap.size, 0, none⟩ = some (.int .i64 6) := hB.cell 0
 have b4 : (w.alloc (.cells #[.int .i64 6, .bool false, .int .u64 0, .string ⟨#[]⟩, .slice A l.length c, .slice K ks.length d] 28)).cell? ⟨w.heap.size, 4, none⟩ = some (.slice A l.length c) := hB.cell 4
 have b5 : (w.alloc (.cells #[.int .i64 6, .bool false, .int .u64 0, .string ⟨#[]⟩, .slice A l.length c, .slice K ks.length d] 28)).cell? ⟨w.heap.size, 5, none⟩ = some (.slice K ks.length d) := hB.cell 5
 have HROW := Lib.hid (And.intro (row2_below hrow hb1) (And.intro (tdl_below htl hb1) (And.intro (cellsA_below hcs hb1) (And.intro (rdvl_below hrl hb1) (cellsA_below hky hb1)))))
 have HIH := Lib.hid ih
 have HKL := Lib.hid hkl
 have HN := Lib.hid hn
 have HKN := Lib.hid (show ks.length ≤ 1048576 by omega)
 clear hb1 hB hrow htl hcs hrl ih hky hkl hn
 go_enter Tryz.func18, Tryz.ntmps18
 go_upto_region 1 with fail
 generalize (w.alloc (.cells #[.int .i64 6, .bool false, .int .u64 0, .string ⟨#[]⟩, .slice A l.length c, .slice K ks.length d] 28)) = w1 at *
 go_upto_region 19 with fail
 refine wp_region_held_drew (S := (fun w' => w'.cell? ⟨w.heap.size, 0, none⟩ = some (.int .i64 6) ∧ w'.cell? ⟨w.heap.size, 4, none⟩ = some (.slice A l.length c) ∧ w'.cell? ⟨w.heap.size, 5, none⟩ = some (.slice K ks.length d) ∧ Below w1.heap.size w1 w')) (by kernel_rfl) ⟨b0, b4, b5, drewN_below _ 1⟩ (fun hHeld => ?_)
 refine held_take (i := 0) (v := ?_) (some 78) rfl rfl (by kernel_rfl) (by kernel_rfl) (by kernel_rfl) (fun _ _ _ h => h) (Or.inl ⟨by rfl, ?_⟩) hHeld ?_
 rotate_left
 ·intro w hSw
  try dsimp only at hSw
  go_simp
  try with_reducible rfl
 simp only [Act.put, List.setIfInBounds_toArray, List.set_cons_zero, List.set_cons_succ]
 refine held_take (i := 1) (v := ?_) (some 79) rfl rfl (by kernel_rfl) (by kernel_rfl) (by kernel_rfl) (fun _ _ _ h => h) (Or.inl ⟨by rfl, ?_⟩) hHeld ?_
 rotate_left
 ·intro w hSw
  try dsimp only at hSw
  go_simp
  try with_reducible rfl
 simp only [Act.put, List.setIfInBounds_toArray, List.set_cons_zero, List.set_cons_succ]
 refine held_take (i := 2) (v := ?_) (some 80) rfl rfl (by kernel_rfl) (by kernel_rfl) (by kernel_rfl) (fun _ _ _ h => h) (Or.inl ⟨by rfl, ?_⟩) hHeld ?_
 rotate_left
 ·intro w hSw
  try dsimp only at hSw
  go_simp
  try with_reducible rfl
 simp only [Act.put, List.setIfInBounds_toArray, List.set_cons_zero, List.set_cons_succ]
 refine held_take (i := 3) (v := ?_) (some 81) rfl rfl (by kernel_rfl) (by kernel_rfl) (by kernel_rfl) (fun _ _ _ h => h) (Or.inl ⟨by rfl, ?_⟩) hHeld ?_
 rotate_left
 ·intro w hSw
  try dsimp only at hSw
  go_simp
  try with_reducible rfl
 simp only [Act.put, List.setIfInBounds_toArray, List.set_cons_zero, List.set_cons_succ]
 refine held_take (i := 4) (v := ?_) (some 82) rfl rfl (by kernel_rfl) (by kernel_rfl) (by kernel_rfl) (fun _ _ _ h => h) (Or.inl ⟨by rfl, ?_⟩) hHeld ?_
 rotate_left
 ·intro w hSw
  try dsimp only at hSw
  go_simp
  try with_reducible rfl
 simp only [Act.put, List.setIfInBounds_toArray, List.set_cons_zero, List.set_cons_succ]
 refine held_take (i := 6) (v := ?_) (some 84) rfl rfl (by kernel_rfl) (by kernel_rfl) (by kernel_rfl) (fun _ _ _ h => h) (Or.inl ⟨by rfl, ?_⟩) hHeld ?_
 rotate_left
 ·intro w hSw
  try dsimp only at hSw
  go_simp
  try with_reducible rfl
 simp only [Act.put, List.setIfInBounds_toArray, List.set_cons_zero, List.set_cons_succ]
 refine held_take (i := 7) (v := ?_) (some 85) rfl rfl (by kernel_rfl) (by kernel_rfl) (by kernel_rfl) (fun _ _ _ h => h) (Or.inl ⟨by rfl, ?_⟩) hHeld ?_
 rotate_left
 ·intro w hSw
  try dsimp only at hSw
  go_simp
  try with_reducible rfl
 simp only [Act.put, List.setIfInBounds_toArray, List.set_cons_zero, List.set_cons_succ]
 refine wpAnyH_ready (rs := [5]) (by kernel_rfl) (by simp) ?_
 refine AllReadyH.cons rfl (fun K hK => ?_) AllReadyH.nil
 go_simp
 go_at_call 41
 ((with_reducible refine (keys14 (fun _ => True) ks l _ vs _ (row2_below HROW.out.1 hHeld.2.2.2) HKL.out (tdl_below HROW.out.2.1 hHeld.2.2.2) HN.out).mono ?_); rintro e w2 ⟨vK, rfl, hK, hb2⟩; dsimp only)
 obtain ⟨A1, q1, rfl, _⟩ := id hK
 have HK := Lib.hid hK
 clear hK
 replace hHeld := three14 hHeld hb2
 refine hK.out _ _ hHeld (fun _ => ?_)
 clear hK K
 refine wpAnyH_ready (rs := [8]) (by kernel_rfl) (by simp) ?_
 refine AllReadyH.cons rfl (fun K hK => ?_) AllReadyH.nil
 go_simp
 go_at_call 10
 ((with_reducible refine (keys_equal ks ks _ _ _ HK.out (rdk_cells (cellsA_below HROW.out.2.2.2.2 hHeld.2.2.2) d) rfl HKN.out).mono ?_); rintro e w3 ⟨he3, hb2⟩; rw [decide_eq_true rfl] at he3; obtain rfl := he3; dsimp only)
 replace hHeld := three14 hHeld hb2
 refine hK.out _ _ hHeld (fun _ => ?_)
 clear hK K
 refine held_take (i := 9) (v := ?_) (some 87) rfl rfl (by kernel_rfl) (by kernel_rfl) (by kernel_rfl) (fun _ _ _ h => h) (Or.inl ⟨by rfl, ?_⟩) hHeld ?_
 rotate_left
 ·intro w hSw
  try dsimp only at hSw
  go_simp
  try with_reducible rfl
 simp only [Act.put, List.setIfInBounds_toArray, List.set_cons_zero, List.set_cons_succ]
 refine held_take (i := 10) (v := ?_) (some 88) rfl rfl (by kernel_rfl) (by kernel_rfl) (by kernel_rfl) (fun _ _ _ h => h) (Or.inl ⟨by rfl, ?_⟩) hHeld ?_
 rotate_left
 ·intro w hSw
  try dsimp only at hSw
  go_simp
  try with_reducible rfl
 simp only [Act.put, List.setIfInBounds_toArray, List.set_cons_zero, List.set_cons_succ]
 refine held_take (i := 11) (v := ?_) (some 89) rfl rfl (by kernel_rfl) (by kernel_rfl) (by kernel_rfl) (fun _ _ _ h => h) (Or.inl ⟨by rfl, ?_⟩) hHeld ?_
 rotate_left
 ·intro w hSw
  try dsimp only at hSw
  go_simp
  try with_reducible rfl
 simp only [Act.put, List.setIfInBounds_toArray, List.set_cons_zero, List.set_cons_succ]
 refine held_take (i := 12) (v := ?_) (some 90) rfl rfl (by kernel_rfl) (by kernel_rfl) (by kernel_rfl) (fun _ _ _ h => h) (Or.inl ⟨by rfl, ?_⟩) hHeld ?_
 rotate_left
 ·intro w hSw
  try dsimp only at hSw
  go_simp
  try with_reducible rfl
 simp only [Act.put, List.setIfInBounds_toArray, List.set_cons_zero, List.set_cons_succ]
 refine held_take (i := 13) (v := ?_) (some 91) rfl rfl (by kernel_rfl) (by kernel_rfl) (by kernel_rfl) (fun _ _ _ h => h) (Or.inl ⟨by rfl, ?_⟩) hHeld ?_
 rotate_left
 ·intro w hSw
  try dsimp only at hSw
  go_simp
  try with_reducible rfl
 simp only [Act.put, List.setIfInBounds_toArray, List.set_cons_zero, List.set_cons_succ]
 refine wpAnyH_ready (rs := [14]) (by kernel_rfl) (by simp) ?_
 refine AllReadyH.cons rfl (fun K hK => ?_) AllReadyH.nil
 go_simp
 go_at_call 42
 ((with_reducible refine (eqf_obj ks l X xc vs A c xs w1 _ hHeld.2.2.2 HROW.out.1 HROW.out.2.1 HROW.out.2.2.1 HROW.out.2.2.2.1 HKL.out HN.out HIH.out).mono ?_); rintro e w4 ⟨rfl, hb2⟩; dsimp only)
 replace hHeld := three14 hHeld hb2
 refine hK.out _ _ hHeld (fun _ => ?_)
 clear hK K
 refine held_take (i := 15) (v := ?_) (some 93) rfl rfl (by kernel_rfl) (by kernel_rfl) (by kernel_rfl) (fun _ _ _ h => h) (Or.inl ⟨by rfl, ?_⟩) hHeld ?_
 rotate_left
 ·intro w hSw
  try dsimp only at hSw
  go_simp
  try with_reducible rfl
 simp only [Act.put, List.setIfInBounds_toArray, List.set_cons_zero, List.set_cons_succ]
 refine held_take (i := 16) (v := ?_) (some 4) rfl rfl (by kernel_rfl) (by kernel_rfl) (by kernel_rfl) (fun _ _ _ h => h) (Or.inl ⟨by rfl, ?_⟩) hHeld ?_
 rotate_left
 ·intro w hSw
  try dsimp only at hSw
  go_simp
  try with_reducible rfl
 simp only [Act.put, List.setIfInBounds_toArray, List.set_cons_zero, List.set_cons_succ]
 refine wpAnyH_done (by kernel_rfl) ?_ _
 have HB2 := Lib.hid (HB1.out.trans (hHeld.2.2.2.mono HB1.out.size))
 clear hHeld b0 b4 b5
 go_wp2
 go_ret
 exact ⟨rfl, HB2.out⟩
theorem same14_any : ∀ t : Tr, t.Ok → t.nodes ≤ 65536 → ∀ (x : Value) (y : X4) (w : World), TdA w t x → RdVA w t y → Calls Tryz.prog 18 #[x, valV t y.1.1 y.1.2 y.2.1 y.2.2] w (ToldP w) := by
 intro t
 induction t using Tr.ind with
 | h0 =>
  intro _ _ x y w h _
  unfold TdA TdT at h
  subst h
  exact same14_null _ _ _ _ w
 | h1 b =>
  intro _ _ x y w h _
  unfold TdA TdT at h
  subst h
  exact same14_flag b _ _ _ _ w
 | h2 n =>
  intro _ _ x y w h _
  unfold TdA TdT at h
  subst h
  exact same14_num n _ _ _ _ w
 | h3 s =>
  intro _ _ x y w h _
  unfold TdA TdT at h
  subst h
  exact same14_text s _ _ _ _ w
 | h4 l ih =>
  intro ho hn x y w h hr
  unfold TdA TdT at h
  unfold RdVA RdV at hr
  unfold Tr.Ok at ho
  unfold Tr.nodes at hn
  obtain ⟨u, vs, rfl, hrow, htl⟩ := h
  obtain ⟨xs, hcs, hrl⟩ := hr
  have hrow0 := hrow
  obtain ⟨X, xc, rfl, _⟩ := hrow0
  have hvl := htl.len
  have hll := nodes_len l
  rw [hvl] at hrow ⊢
  exact same14_list l X xc vs _ _ _ _ xs w hrow htl hcs hrl (by omega) fun k h x y W a b => ih _ (List.getElem_mem h) (okl_mem ho (List.getElem_mem h)).1 (fit_le (okl_mem ho (List.getElem_mem h)).2).1 x y W a b
 | h5 ks l ih =>
  intro ho hn x y w h hr
  unfold TdA TdT at h
  unfold RdVA RdV at hr
  unfold Tr.Ok at ho
  unfold Tr.nodes at hn
  obtain ⟨u, vs, rfl, hkl, hrow, htl⟩ := h
  obtain ⟨hky, xs, hcs, hrl⟩ := hr
  have hrow0 := hrow
  obtain ⟨X, xc, rfl, _⟩ := hrow0
  have hll := nodes_len l
  exact same14_obj ks l X xc vs _ _ _ _ xs w hrow htl hcs hrl hky hkl (by omega) fun k h x y W a b => ih _ (List.getElem_mem h) (okl_mem ho.2.2.2 (List.getElem_mem h)).1 (fit_le (okl_mem ho.2.2.2 (List.getElem_mem h)).2).1 x y W a b
end Nd
end Go.Proofs.YtlailcmhpnnidaaGreatDoor
namespace Go.Proofs.YtlailcmhpnnidaaGreatDoor
open Go.RowKit Mem
namespace Nd
def MadeP (ss : List Stp) (w : World) (e : Ending) (w' : World) : Prop :=
 Below w.heap.size w w' ∧ match buildT ss with
  | .inl _ => e = .returned (.tuple #[.pointer none, noVal, .bool false])
  | .inr t => ∃ g A c K d, e = .returned (.tuple #[.pointer (some ⟨g, 0, none⟩), valV t A c K d, .bool true]) ∧ RdVA w' t ((A, c), (K, d)) ∧ TreeAt w.heap.size w' g t
theorem madeP_no {ss : List Stp} {w w' : World} {x : Int × Int} (h : buildT ss = .inl x) (hb : Below w.heap.size w w') : MadeP ss w (.returned (.tuple #[.pointer none, noVal, .bool false])) w' := by
 unfold MadeP
 rw [h]
 exact ⟨hb, rfl⟩
theorem madeP_yes {ss : List Stp} {w w' : World} {t : Tr} {g : Nat} (h : buildT ss = .inr t) {A : Option Addr} {c : Nat} {K : Option Addr} {d : Nat} (hr : RdVA w' t ((A, c), (K, d))) (hT : TreeAt w.heap.size w' g t) (hb : Below w.heap.size w w') : MadeP ss w (.returned (.tuple #[.pointer (some ⟨g, 0, none⟩), valV t A c K d, .bool true])) w' := by
 unfold MadeP
 rw [h]
 exact ⟨hb, g, A, c, K, d, rfl, hr, hT⟩
theorem tree_far {B C p g : Nat} {t : Tr} {w w' : World} (h : TreeAt B w g t) (hC : C ≤ B) (hp : p < B) (hg : w.grownBy w' (some p)) : TreeAt C w'.drew g t := by
 obtain ⟨h1, h2, v, hB, hr⟩ := h
 exact ⟨by omega, h2, v, (hB.only hg (by intro e; injection e with e; omega)).drew, RdT.move (w' := w'.drew) (fun k hk hs => ⟨by have h9 : B ≤ k := hs; show C ≤ k; omega, hg.block k hk (by have h9 : B ≤ k := hs; intro e; injection e with e; omega)⟩) _ _ hr⟩
theorem made_law (v : Value) (ss : List Stp) (w : World) (hS : RdS w v ss) (hF : ∀ s ∈ ss, s.Fine) (hC : ∀ s ∈ ss, s.Cnt) (hn : ss.length ≤ 1048576) : Calls Tryz.prog 6 #[v] w (MadeP ss w) := by
 have hba : Below w.heap.size w (w.alloc (.cells #[.int .i64 0, .bool false, .int .u64 0, .string ⟨#[]⟩, .slice none 0 0, .slice none 0 0] 28)) := (Below.refl _ _).alloc (Nat.le_refl _) _
 have hB2 := Blk.new w 28 #[.int .i64 0, .bool false, .int .u64 0, .string ⟨#[]⟩, .slice none 0 0, .slice none 0 0]
 have hsz : (w.alloc (.cells #[.int .i64 0, .bool false, .int .u64 0, .string ⟨#[]⟩, .slice none 0 0, .slice none 0 0] 28)).heap.size = w.heap.size + 1 := by simp
 have hS1 := hS.below hba
 obtain ⟨A, c, rfl, _⟩ := id hS1
 obtain ⟨es, hes, hec⟩ := rds_es hS1
 have hel : es.length = ss.length := by rw [← hes]; simp
 obtain ⟨i0, hi0, hz0, hz1, hz2⟩ := info_parts info_rstep
 have HSS := Lib.hid hS1
 have HES := Lib.hid (And.intro hes hec)
 have HEL := Lib.hid hel
 have HFC := Lib.hid (And.intro hF hC)
 have HB2 := Lib.hid hB2
 have HBA := Lib.hid hba
 have hnn : ss.length < 1048577 := by omega
 clear hS hS1 hes hec hel hn hF hC hba hB2
 go_enter Tryz.func6, Tryz.ntmps6
 go_wp2_with fail
 generalize (w.alloc (.cells #[.int .i64 0, .bool false, .int .u64 0, .string ⟨#[]⟩, .slice none 0 0, .slice none 0 0] 28)) = w1 at *
 go_loopw [5, 15] (fun c5 c15 wr => ∃ k : Nat, k ≤ ss.length ∧ c15 = .int .i64 k ∧ Hid (wr.ownsRow w1.heap.size 81 6 c5 k (cellsE (es.take k)) ∧ Below w1.heap.size w1 wr)) (fun _ c15 _ => ss.length - (intOf c15).toNat)
 case atStart => exact ⟨0, Nat.zero_le _, rfl, Lib.hid ⟨World.ownsRow_nil _ _ _ _, Below.refl _ _⟩⟩
 case round =>
  obtain ⟨k, hk, rfl, HI⟩ := hrel
  have hbs := HI.out.2.size
  by_cases hlt : k < ss.length
  ·obtain ⟨g, o, K, q, rfl, hC, hek⟩ := HES.out.2 k hlt
   have hsn := cellsE_snoc es k _ hek
   obtain ⟨c0, c1, c2, c3, c4, c5, ck⟩ := hC.below HI.out.2
   have HSN := Lib.hid hsn
   clear ck hC hek hsn
   generalize ss[k] = s at *
   obtain ⟨A3, q3, rfl⟩ := own_slice HI.out.1
   have hba : Below wr.heap.size wr (wr.alloc (.cells #[.int .i64 s.sort, .bool s.flag, .int .u64 (s.bits : Int), .string ⟨s.text.toArray⟩, .int .i64 s.count, .slice K s.keys.length q] 79)) := (Below.refl _ _).alloc (Nat.le_refl _) _
   have ho9 : ((wr.alloc (.cells #[.int .i64 s.sort, .bool s.flag, .int .u64 (s.bits : Int), .string ⟨s.text.toArray⟩, .int .i64 s.count, .slice K s.keys.length q] 79)).alloc (.cells #[.int .i64 s.sort, .bool s.flag, .int .u64 (s.bits : Int), .string ⟨s.text.toArray⟩, .int .i64 s.count, .slice K s.keys.length q] 81)).ownsRow w1.heap.size 81 6 (.slice A3 k q3) k (cellsE (es.take k)) := own_below (own_below HI.out.1 hba) ((Below.refl _ _).alloc (Nat.le_refl _) _)
   have hcn := cells_new (wr.alloc (.cells #[.int .i64 s.sort, .bool s.flag, .int .u64 (s.bits : Int), .string ⟨s.text.toArray⟩, .int .i64 s.count, .slice K s.keys.length q] 79)) (cell6 s K q) 81
   rw [World.size_alloc] at hcn
   have HBB := Lib.hid (HI.out.2.trans ((hba.alloc hba.size (.cells #[.int .i64 s.sort, .bool s.flag, .int .u64 (s.bits : Int), .string ⟨s.text.toArray⟩, .int .i64 s.count, .slice K s.keys.length q] 81)).mono hbs))
   go_wp2_with (at_builtin; refine wpList_append_own_at _ rfl _ _ 76 rfl w1.heap.size 81 i0 _ 6 72 Tryz.underlying76 hi0 hz0 hz1 hz2 rfl (by omega) (.slice A3 k q3) k (cellsE (es.take k)) rfl ho9 ⟨wr.heap.size + 1, 0, none⟩ 1 1 (cell6 s K q) rfl rfl hcn (cell6_one s K q) ?b1 ?b2 ?b3 ?_; (unfold maxLen; omega); omega; (simp; omega); intro v9 w9 hown9 hgr9 hnil9 hat9)
   have hb9 : Below w1.heap.size w1 w9 := HBB.out.grown hgr9 (by simp; omega) (fun j hj => (own_typed ho9 j hj).1)
   have HN : Hid (w9.ownsRow w1.heap.size 81 6 v9 (k + 1) (cellsE (es.take (k + 1))) ∧ Below w1.heap.size w1 w9) := Lib.hid ⟨by rw [HSN.out]; exact hown9, hb9⟩
   clear hown9 hgr9 hnil9 hat9 hb9 ho9
   go_roundw
   case rel => exact ⟨k + 1, by omega, by go_num, HN⟩
   case measure => simp [intOf]; omega
  ·obtain rfl : k = ss.length := by omega
   have hfin : RdS wr u5 ss := by
    have h1 := HI.out.1
    rw [← HEL.out, List.take_of_length_le (Nat.le_refl _)] at h1
    have h2 := own_rds h1 (fun e he => by
     obtain ⟨j, hj, hje⟩ := List.getElem_of_mem he
     obtain ⟨g, o, K, q, _, hC, hek⟩ := HES.out.2 j (by rw [← HEL.out]; exact hj)
     rw [List.getElem?_eq_getElem hj, hje] at hek
     injection hek with hek
     rw [hek]
     exact ⟨hC.ks.below HI.out.2, hC.kc⟩)
    rw [HES.out.1] at h2
    exact h2
   have HFI := Lib.hid hfin
   clear hfin
   go_wp2_with fail
   ((with_reducible refine (refBuild_all u5 ss _ HFI.out HFC.out.1 HFC.out.2).mono ?_); rintro e w2 ⟨hb2, he⟩)
   have hb12 := HI.out.2.trans (hb2.mono hbs)
   have blk2 := HB2.out.below hb12 (by omega)
   have BLK2 := Lib.hid blk2
   have HBW := Lib.hid (HBA.out.trans (hb12.mono (by omega)))
   have hs2 := blk2.lt
   have HB2W := Lib.hid hb2
   clear hb12 hb2
   cases hbt : buildT ss with
   | inl x =>
    rw [hbt] at he
    obtain rfl := he
    have hx0 := buildT_ne hbt
    have hx1 : (x.1 != 0) = true := by simpa using hx0
    have HBT := Lib.hid hbt
    clear hbt hx0
    have z0 : w2.cell? ⟨w.heap.size, 0, none⟩ = some (.int .i64 0) := blk2.cell 0
    have z1 : w2.cell? ⟨w.heap.size, 1, none⟩ = some (.bool false) := blk2.cell 1
    have z2 : w2.cell? ⟨w.heap.size, 2, none⟩ = some (.int .u64 0) := blk2.cell 2
    have z3 : w2.cell? ⟨w.heap.size, 3, none⟩ = some (.string ⟨#[]⟩) := blk2.cell 3
    have z4 : w2.cell? ⟨w.heap.size, 4, none⟩ = some (.slice none 0 0) := blk2.cell 4
    have z5 : w2.cell? ⟨w.heap.size, 5, none⟩ = some (.slice none 0 0) := blk2.cell 5
    have q0 := blk2.frozen 0
    have q1 := blk2.frozen 1
    have q2 := blk2.frozen 2
    have q3 := blk2.frozen 3
    have q4 := blk2.frozen 4
    have q5 := blk2.frozen 5
    clear blk2
    go_upto_region 9 with fail
    go_region
    all_goals
     go_wp2
     have hf := (six_blk BLK2.out (.int .i64 0) (.bool false) (.int .u64 0) (.string ⟨#[]⟩) (.slice none 0 0) (.slice none 0 0)).alloc (.cells #[.int .i64 0, .bool false, .int .u64 0, .string ⟨#[]⟩, .slice none 0 0, .slice none 0 0] 28)
     have hbel := (six_below HBW.out (Nat.le_refl w.heap.size) (.int .i64 0) (.bool false) (.int .u64 0) (.string ⟨#[]⟩) (.slice none 0 0) (.slice none 0 0)).alloc (by have := HBW.out.size; simp [six]; omega) (.cells #[.int .i64 0, .bool false, .int .u64 0, .string ⟨#[]⟩, .slice none 0 0, .slice none 0 0] 28)
     unfold six at hf hbel
     generalize ((((((w2.setCell ⟨w.heap.size, 0, none⟩ (.int .i64 0)).setCell ⟨w.heap.size, 1, none⟩ (.bool false)).setCell ⟨w.heap.size, 2, none⟩ (.int .u64 0)).setCell ⟨w.heap.size, 3, none⟩ (.string ⟨#[]⟩)).setCell ⟨w.heap.size, 4, none⟩ (.slice none 0 0)).setCell ⟨w.heap.size, 5, none⟩ (.slice none 0 0)).alloc (.cells #[.int .i64 0, .bool false, .int .u64 0, .string ⟨#[]⟩, .slice none 0 0, .slice none 0 0] 28) = wf at *
     have dd0 : wf.cell? ⟨w.heap.size, 0, none⟩ = some (.int .i64 0) := hf.cell 0
     have dd1 : wf.cell? ⟨w.heap.size, 1, none⟩ = some (.bool false) := hf.cell 1
     have dd2 : wf.cell? ⟨w.heap.size, 2, none⟩ = some (.int .u64 0) := hf.cell 2
     have dd3 : wf.cell? ⟨w.heap.size, 3, none⟩ = some (.string ⟨#[]⟩) := hf.cell 3
     have dd4 : wf.cell? ⟨w.heap.size, 4, none⟩ = some (.slice none 0 0) := hf.cell 4
     have dd5 : wf.cell? ⟨w.heap.size, 5, none⟩ = some (.slice none 0 0) := hf.cell 5
     refine bodyPost_ret (v := .tuple #[.pointer none, noVal, .bool false]) ?_ rfl (madeP_no HBT.out (hbel.trans ((drewN_below wf 1).mono hbel.size)))
     simp [results, Tryz.results6, go_sem, dd0, dd1, dd2, dd3, dd4, dd5]
   | inr t =>
    rw [hbt] at he
    obtain ⟨A2, c2, K2, d2, rfl, hrd⟩ := he
    have hx1 : ((0 : Int) != 0) = false := by decide
    have hb8 : Below w2.heap.size w2 (w2.alloc (.cells #[.int .i64 (t.srt : Nat), .bool t.fl, .int .u64 (t.bi : Nat), .string ⟨t.tx.toArray⟩, .slice A2 t.kids.length c2, .slice K2 t.kn.length d2] 28)) := (Below.refl _ _).alloc (Nat.le_refl _) _
    have H8 := Lib.hid hb8
    have HB82 := Lib.hid (HBW.out.trans (hb8.mono HBW.out.size))
    have HRD := Lib.hid hrd
    have HBT := Lib.hid hbt
    have HS8 := Lib.hid ((HSS.out.below HI.out.2).below ((HB2W.out).trans (hb8.mono HB2W.out.size)))
    have b80 := (Blk.new w2 28 #[.int .i64 (t.srt : Nat), .bool t.fl, .int .u64 (t.bi : Nat), .string ⟨t.tx.toArray⟩, .slice A2 t.kids.length c2, .slice K2 t.kn.length d2])
    have HB80 := Lib.hid b80
    clear hbt hrd hb8 b80
    clear blk2
    go_wp2_with fail
    ((with_reducible refine (build_all _ ss _ HS8.out HFC.out.1).mono ?_); rintro e w3 ⟨hb3, he⟩)
    rw [HBT.out] at he
    obtain ⟨g, rfl, hTA⟩ := he
    have HTA := Lib.hid hTA
    have h23 := H8.out.trans (hb3.mono H8.out.size)
    have H23 := Lib.hid h23
    have HBW3 := Lib.hid (HBW.out.trans (h23.mono HBW.out.size))
    have blk2 := BLK2.out.below h23 hs2
    have BLK3 := Lib.hid blk2
    have hB80 := HB80.out.below hb3 HB80.out.lt
    have hs3 := blk2.lt
    have z0 : w3.cell? ⟨w.heap.size, 0, none⟩ = some (.int .i64 0) := blk2.cell 0
    have z1 : w3.cell? ⟨w.heap.size, 1, none⟩ = some (.bool false) := blk2.cell 1
    have z2 : w3.cell? ⟨w.heap.size, 2, none⟩ = some (.int .u64 0) := blk2.cell 2
    have z3 : w3.cell? ⟨w.heap.size, 3, none⟩ = some (.string ⟨#[]⟩) := blk2.cell 3
    have z4 : w3.cell? ⟨w.heap.size, 4, none⟩ = some (.slice none 0 0) := blk2.cell 4
    have z5 : w3.cell? ⟨w.heap.size, 5, none⟩ = some (.slice none 0 0) := blk2.cell 5
    have q0 := blk2.frozen 0
    have q1 := blk2.frozen 1
    have q2 := blk2.frozen 2
    have q3 := blk2.frozen 3
    have q4 := blk2.frozen 4
    have q5 := blk2.frozen 5
    clear blk2
    have y0 : w3.cell? ⟨w2.heap.size, 0, none⟩ = some (.int .i64 (t.srt : Nat)) := hB80.cell 0
    have y1 : w3.cell? ⟨w2.heap.size, 1, none⟩ = some (.bool t.fl) := hB80.cell 1
    have y2 : w3.cell? ⟨w2.heap.size, 2, none⟩ = some (.int .u64 (t.bi : Nat)) := hB80.cell 2
    have y3 : w3.cell? ⟨w2.heap.size, 3, none⟩ = some (.string ⟨t.tx.toArray⟩) := hB80.cell 3
    have y4 : w3.cell? ⟨w2.heap.size, 4, none⟩ = some (.slice A2 t.kids.length c2) := hB80.cell 4
    have y5 : w3.cell? ⟨w2.heap.size, 5, none⟩ = some (.slice K2 t.kn.length d2) := hB80.cell 5
    clear hB80 h23 hb3 hTA
    go_upto_region 11 with fail
    go_region
    all_goals
     go_wp2
     have hf := six_blk BLK3.out (.int .i64 (t.srt : Nat)) (.bool t.fl) (.int .u64 (t.bi : Nat)) (.string ⟨t.tx.toArray⟩) (.slice A2 t.kids.length c2) (.slice K2 t.kn.length d2)
     have hbel := six_below HBW3.out (Nat.le_refl w.heap.size) (.int .i64 (t.srt : Nat)) (.bool t.fl) (.int .u64 (t.bi : Nat)) (.string ⟨t.tx.toArray⟩) (.slice A2 t.kids.length c2) (.slice K2 t.kn.length d2)
     have hg6 := six_grown w3 w.heap.size (.int .i64 (t.srt : Nat)) (.bool t.fl) (.int .u64 (t.bi : Nat)) (.string ⟨t.tx.toArray⟩) (.slice A2 t.kids.length c2) (.slice K2 t.kn.length d2)
     have HH := Lib.hid (madeP_yes HBT.out (A := A2) (c := c2) (K := K2) (d := d2) (g := g) (RdV.move (w' := (six w3 w.heap.size (.int .i64 (t.srt : Nat)) (.bool t.fl) (.int .u64 (t.bi : Nat)) (.string ⟨t.tx.toArray⟩) (.slice A2 t.kids.length c2) (.slice K2 t.kn.length d2)).drew) (S' := fun _ => True) (fun k hk hs => ⟨trivial, (hg6.block k (Nat.lt_of_lt_of_le hk H23.out.size) (by have h9 : wr.heap.size ≤ k := hs; intro e; injection e with e; omega)).trans (H23.out.block k hk)⟩) _ _ HRD.out) (tree_far HTA.out (by have := H8.out.size; omega) (by have := H8.out.size; omega) hg6) (hbel.trans ((drewN_below _ 1).mono hbel.size)))
     unfold six at hf hbel HH
     generalize ((((((w3.setCell ⟨w.heap.size, 0, none⟩ (.int .i64 (t.srt : Nat))).setCell ⟨w.heap.size, 1, none⟩ (.bool t.fl)).setCell ⟨w.heap.size, 2, none⟩ (.int .u64 (t.bi : Nat))).setCell ⟨w.heap.size, 3, none⟩ (.string ⟨t.tx.toArray⟩)).setCell ⟨w.heap.size, 4, none⟩ (.slice A2 t.kids.length c2)).setCell ⟨w.heap.size, 5, none⟩ (.slice K2 t.kn.length d2)) = wf at *
     have dd0 : wf.cell? ⟨w.heap.size, 0, none⟩ = some (.int .i64 (t.srt : Nat)) := hf.cell 0
     have dd1 : wf.cell? ⟨w.heap.size, 1, none⟩ = some (.bool t.fl) := hf.cell 1
     have dd2 : wf.cell? ⟨w.heap.size, 2, none⟩ = some (.int .u64 (t.bi : Nat)) := hf.cell 2
     have dd3 : wf.cell? ⟨w.heap.size, 3, none⟩ = some (.string ⟨t.tx.toArray⟩) := hf.cell 3
     have dd4 : wf.cell? ⟨w.heap.size, 4, none⟩ = some (.slice A2 t.kids.length c2) := hf.cell 4
     have dd5 : wf.cell? ⟨w.heap.size, 5, none⟩ = some (.slice K2 t.kn.length d2) := hf.cell 5
     refine bodyPost_ret (v := .tuple #[.pointer (some ⟨g, 0, none⟩), valV t A2 c2 K2 d2, .bool true]) ?_ rfl HH.out
     simp [results, Tryz.results6, go_sem, dd0, dd1, dd2, dd3, dd4, dd5]
end Nd
end Go.Proofs.YtlailcmhpnnidaaGreatDoor
