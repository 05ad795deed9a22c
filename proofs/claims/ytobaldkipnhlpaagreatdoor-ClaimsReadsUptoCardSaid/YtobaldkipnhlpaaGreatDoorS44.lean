/-
  The law ClaimsReads: the case in which claims are read; all cases.
-/
import Derived.Test.YtobaldkipnhlpaaGreatDoorS43
set_option linter.unusedVariables false
set_option linter.unusedSimpArgs false
set_option maxRecDepth 100000
set_option maxHeartbeats 16000000
namespace Go.Proofs.YtobaldkipnhlpaaGreatDoor
open Go.RowKit Mem Utf Ref3 Idx Tok TokC Cl
namespace Nd
theorem wanted_yes {o : Oper} {ops : Array Oper} {tmps : Array Value} {j : Nat} {b : Bool} (t : Tmp) (hg : o.guard = some (j, b)) (hd : (ops[j]?).bind (·.dst) = some t) (ht : tmps[t]? = some (.bool b)) : Region.wanted o (yielded ops tmps) = true := by
 unfold Region.wanted yielded
 simp [hg, hd, ht]
theorem list_yes {P : Program} {ops : Array Oper} {w : World} {Q : Exit → Act → World → Prop} {a : Act} {o : Oper} {rest : List Oper} (hg : Region.wanted o (yielded ops a.tmps) = true) (h : ∀ K : Act → World → Prop, (∀ a w, wpList P ops Q rest a w → K a w) → o.wp P a w K Q) : wpList P ops Q (o :: rest) a w :=
 wpList_step fun K hK => by
  rw [if_pos hg]
  exact h K hK
theorem wpList_load_gb {P : Program} {ops : Array Oper} {rest : List Oper} {o : Oper} {a : Act} {w : World} {Q : Exit → Act → World → Prop} (hw : Region.wanted o (yielded ops a.tmps) = true) (ty : TypeId) (x : Operand) (ho : o.op = .load ty x) (b : Nat) (hx : a.eval x = .pointer (some ⟨b, 0, none⟩)) (t : TypeId) (ds : Array Value) (hB : Blk w b t ds) (d : TypeDesc)
  (hu : P.underlying ty = some d) (hd : d.isRow = true) (hi : (P.info? ty).map (·.size) = some ds.size) (h : wpList P ops Q rest (a.put o.dst (.agg ds)) w) : wpList P ops Q (o :: rest) a w :=
 list_yes hw fun K hK => wp_load_mid ty x ho b 0 hx ds.toList d (blk_range hB) hu hd (by simpa using hi) (hK _ _ h)
theorem tnb_Holds (v : Value) (w : World) : (Instr.typeAssert (.iface 112 v) 42 44 true).run Tryz.prog w = .ok (.tuple #[.pointer none, .bool false]) w := by kernel_rfl
theorem tnb_Early (v : Value) (w : World) : (Instr.typeAssert (.iface 131 v) 42 44 true).run Tryz.prog w = .ok (.tuple #[.pointer none, .bool false]) w := by kernel_rfl
theorem tnb_Over (v : Value) (w : World) : (Instr.typeAssert (.iface 114 v) 42 44 true).run Tryz.prog w = .ok (.tuple #[.pointer none, .bool false]) w := by kernel_rfl
theorem tnb_Lacks (v : Value) (w : World) : (Instr.typeAssert (.iface 133 v) 42 44 true).run Tryz.prog w = .ok (.tuple #[.pointer none, .bool false]) w := by kernel_rfl
theorem tnb_Alien (v : Value) (w : World) : (Instr.typeAssert (.iface 135 v) 42 44 true).run Tryz.prog w = .ok (.tuple #[.pointer none, .bool false]) w := by kernel_rfl
theorem tnb_Other (v : Value) (w : World) : (Instr.typeAssert (.iface 137 v) 42 44 true).run Tryz.prog w = .ok (.tuple #[.pointer none, .bool false]) w := by kernel_rfl
theorem tnb_Barred (v : Value) (w : World) : (Instr.typeAssert (.iface 139 v) 42 44 true).run Tryz.prog w = .ok (.tuple #[.pointer none, .bool false]) w := by kernel_rfl
theorem verd_assert {B : Nat} {w : World} {v : Value} {x : Verd} (h : VerdV B w v x) (h7 : x.kind ≤ 7) : ∃ p b, ∀ W, (Instr.typeAssert v 42 44 true).run Tryz.prog W = .ok (.tuple #[.pointer p, .bool b]) W := by
 obtain ⟨k, t, s, l⟩ := x
 simp only [] at h7
 have h8 : k = 0 ∨ k = 1 ∨ k = 2 ∨ k = 3 ∨ k = 4 ∨ k = 5 ∨ k = 6 ∨ k = 7 := by omega
 unfold VerdV at h
 rcases h8 with rfl | rfl | rfl | rfl | rfl | rfl | rfl | rfl <;> simp only [] at h
 ·obtain ⟨b, _, rfl, _⟩ := h
  exact ⟨_, _, tb_ok _⟩
 ·subst h
  exact ⟨_, _, tnb_Holds _⟩
 ·subst h
  exact ⟨_, _, tnb_Early _⟩
 ·subst h
  exact ⟨_, _, tnb_Over _⟩
 ·subst h
  exact ⟨_, _, tnb_Lacks _⟩
 ·subst h
  exact ⟨_, _, tnb_Alien _⟩
 ·obtain ⟨y, rfl, _⟩ := h
  exact ⟨_, _, tnb_Other _⟩
 ·obtain ⟨y, rfl, _⟩ := h
  exact ⟨_, _, tnb_Barred _⟩
theorem Slots.below {a b : Nat} {w w' : World} {v : Value} {n : Nat} (h : Slots a b w v n) (hb : Below w.heap.size w w') : Slots a b w' v n := by
 rcases h with h | ⟨g, cap, cs, h1, h2, h3, h4, h5⟩
 ·exact .inl h
 ·exact .inr ⟨g, cap, cs, h1, h2, h3, h4.below hb h4.lt, h5⟩
theorem reads_ok (r : R) (U1 U2 U3 : Option Addr) (j1 j2 j3 : Nat) (v : Value) (ss : List Stp) (w : World) (hR : RuAt w r (.slice U1 r.by_.length j1) (.slice U2 r.need.length j2) (.slice U3 r.may_.length j3)) (hS : RdS w v ss) (hF : ∀ s ∈ ss, s.Fine) (hCn : ∀ s ∈ ss, s.Cnt) (hN : ss.length ≤ 1048576) (hA : TabP w) (t : Tr) (hbt : buildT ss = .inr t) (hs : (t.srt : Int) = 6) (hq : (readC t).2 = []) :
  Calls Tryz.prog 3 #[v, .agg #[.int .i64 r.now, .int .i64 r.slack, .string ⟨r.who.toArray⟩, (.slice U1 r.by_.length j1), (.slice U2 r.need.length j2), (.slice U3 r.may_.length j3)]] w (TrueC w) := by
 have q1 := err_ne_nil
 have q2 := err_ne_held
 have p1 := bk_eq
 have p2 := ptr_ne
 have p3 := tb_ok
 have p4 := tp_nn
 have p5 := tp_sn
 have p6 := vf_ne
 have HBT := Lib.hid hbt
 have HR0 := Lib.hid hR
 have HS6 := Lib.hid (And.intro hs hq)
 clear hbt hs hq
 have hba : Below w.heap.size w (w.alloc (.cells #[.int .i64 r.now, .int .i64 r.slack, .string ⟨r.who.toArray⟩, (.slice U1 r.by_.length j1), (.slice U2 r.need.length j2), (.slice U3 r.may_.length j3)] 25)) := (Below.refl _ _).alloc (Nat.le_refl _) _
 have hbr := Blk.new w 25 #[.int .i64 r.now, .int .i64 r.slack, .string ⟨r.who.toArray⟩, (.slice U1 r.by_.length j1), (.slice U2 r.need.length j2), (.slice U3 r.may_.length j3)]
 have HS := Lib.hid (hS.below hba)
 have HF := Lib.hid hF
 have HCN := Lib.hid hCn
 have HN := Lib.hid hN
 have HR := Lib.hid (hR.below hba)
 have HA := Lib.hid (hA.next hba)
 have HB := Lib.hid hba
 have HBR := Lib.hid hbr
 clear hR hS hF hCn hN hA hba hbr
 go_enter Tryz.func3, Tryz.ntmps3
 go_wp2_with fail
 generalize (w.alloc (.cells #[.int .i64 r.now, .int .i64 r.slack, .string ⟨r.who.toArray⟩, (.slice U1 r.by_.length j1), (.slice U2 r.need.length j2), (.slice U3 r.may_.length j3)] 25)) = w1 at *
 ((with_reducible refine (build_all v ss _ HS.out HF.out).mono ?_); rintro e w2 ⟨hb, he⟩)
 rw [HBT.out] at he
 obtain ⟨g, rfl, hTA⟩ := he
 obtain ⟨_, hfit, tv, hblk, hrd0⟩ := hTA
 have HOK := Lib.hid (buildT_ok HF.out HBT.out)
 have hro0 : TreO w2 (some t) (.pointer (some ⟨g, 0, none⟩)) := .inr ⟨t, g, tv, rfl, rfl, hblk, RdT.toA hrd0, HOK.out⟩
 have HT := Lib.hid hro0
 clear hro0 hblk hrd0 hfit
 replace HBR := Lib.hid (HBR.out.below hb HBR.out.lt)
 replace HR := Lib.hid (HR.out.below hb)
 replace HA := Lib.hid (HA.out.next hb)
 replace HS := Lib.hid (HS.out.below hb)
 replace HB := Lib.hid (HB.out.trans (hb.mono HB.out.size))
 clear hb
 go_wp2_with fail
 ((with_reducible refine (value25_any v ss w2 HS.out HF.out HCN.out HN.out).mono ?_); rintro e w3 ⟨hb, he⟩)
 rw [HBT.out] at he
 dsimp only at he
 obtain ⟨A1, q1, A2, q2, rfl, hrd⟩ := he
 have HRD := Lib.hid hrd
 clear hrd
 unfold valV
 replace HBR := Lib.hid (HBR.out.below hb HBR.out.lt)
 replace HR := Lib.hid (HR.out.below hb)
 replace HA := Lib.hid (HA.out.next hb)
 replace HS := Lib.hid (HS.out.below hb)
 replace HT := Lib.hid (tre_below HT.out hb)
 replace HB := Lib.hid (HB.out.trans (hb.mono HB.out.size))
 clear hb
 have hb : Below w3.heap.size w3 (w3.alloc (.cells #[.int .i64 (t.srt : Nat), .bool t.fl, .int .u64 (t.bi : Nat), .string ⟨t.tx.toArray⟩, .slice A1 t.kids.length q1, .slice A2 t.kn.length q2] 34)) := (Below.refl _ _).alloc (Nat.le_refl _) _
 have HV := Lib.hid (Blk.new w3 34 #[.int .i64 (t.srt : Nat), .bool t.fl, .int .u64 (t.bi : Nat), .string ⟨t.tx.toArray⟩, .slice A1 t.kids.length q1, .slice A2 t.kn.length q2])
 replace HBR := Lib.hid (HBR.out.below hb HBR.out.lt)
 replace HR := Lib.hid (HR.out.below hb)
 replace HA := Lib.hid (HA.out.next hb)
 replace HS := Lib.hid (HS.out.below hb)
 replace HT := Lib.hid (tre_below HT.out hb)
 replace HRD := Lib.hid (rdva_below HRD.out hb)
 replace HB := Lib.hid (HB.out.trans (hb.mono HB.out.size))
 clear hb
 go_wp2_with fail
 generalize (w3.alloc (.cells #[.int .i64 (t.srt : Nat), .bool t.fl, .int .u64 (t.bi : Nat), .string ⟨t.tx.toArray⟩, .slice A1 t.kids.length q1, .slice A2 t.kn.length q2] 34)) = w4 at *
 ((with_reducible refine (readO_any (some t) _ w4 w4 HT.out (Below.refl _ _) HA.out).mono ?_); rintro e w5 ⟨⟨c, v0, v4, v7, er, rfl, hC, ho0, ho4, ho7, hEr⟩, hb⟩)
 obtain ⟨B0, r0, hv0⟩ := own_sliceP ho0
 subst hv0
 obtain ⟨B4, r4, hv4⟩ := own_sliceP ho4
 subst hv4
 obtain ⟨B7, r7, hv7⟩ := own_sliceP ho7
 subst hv7
 have HA4 := Lib.hid (show w.heap.size + 1 ≤ w4.heap.size from HBR.out.lt)
 have H5 := Lib.hid (Below.refl w5.heap.size w5)
 have hRO : readO (some t) = some (readC t).1 := by
  unfold readO
  dsimp only
  rw [if_pos ⟨HS6.out.1, HS6.out.2⟩]
 obtain ⟨rfl, hce⟩ : er = .nilIface ∧ (readC t).1 = c := by
  rcases hEr with ⟨h1, h2⟩ | ⟨h, _⟩
  ·rw [hRO] at h2
   injection h2 with h2
   exact ⟨h1, h2⟩
  ·rw [hRO] at h
   cases h
 have HCE := Lib.hid hce
 have HRO := Lib.hid (show readO (some t) = some c by rw [hRO, hce])
 have HCA := Lib.hid hC
 have HSL := Lib.hid (And.intro (slots_own ho0 (Nat.le_refl _)) (And.intro (slots_own ho4 (Nat.le_refl _)) (slots_own ho7 (Nat.le_refl _))))
 clear hEr ho0 ho4 ho7 hC hRO hce
 unfold clCells
 replace HBR := Lib.hid (HBR.out.below hb HBR.out.lt)
 replace HR := Lib.hid (HR.out.below hb)
 replace HA := Lib.hid (HA.out.next hb)
 replace HS := Lib.hid (HS.out.below hb)
 replace HT := Lib.hid (tre_below HT.out hb)
 replace HRD := Lib.hid (rdva_below HRD.out hb)
 replace HV := Lib.hid (HV.out.below hb HV.out.lt)
 replace HB := Lib.hid (HB.out.trans (hb.mono HB.out.size))
 clear hb
 have hb : Below w5.heap.size w5 (w5.alloc (.cells #[.slice B0 c.has.length r0, .string ⟨c.about.toArray⟩, .int .i64 c.at_, .string ⟨c.by_.toArray⟩, .slice B4 c.for_.length r4, .int .i64 c.from_, .string ⟨c.id_.toArray⟩, .slice B7 c.may_.length r7, .int .i64 c.until_] 38)) := (Below.refl _ _).alloc (Nat.le_refl _) _
 have HC := Lib.hid (Blk.new w5 38 #[.slice B0 c.has.length r0, .string ⟨c.about.toArray⟩, .int .i64 c.at_, .string ⟨c.by_.toArray⟩, .slice B4 c.for_.length r4, .int .i64 c.from_, .string ⟨c.id_.toArray⟩, .slice B7 c.may_.length r7, .int .i64 c.until_])
 replace HBR := Lib.hid (HBR.out.below hb HBR.out.lt)
 replace HR := Lib.hid (HR.out.below hb)
 replace HA := Lib.hid (HA.out.next hb)
 replace HS := Lib.hid (HS.out.below hb)
 replace HT := Lib.hid (tre_below HT.out hb)
 replace HRD := Lib.hid (rdva_below HRD.out hb)
 replace HV := Lib.hid (HV.out.below hb HV.out.lt)
 replace HCA := Lib.hid (HCA.out.below hb)
 replace HSL := Lib.hid (And.intro (HSL.out.1.below hb) (And.intro (HSL.out.2.1.below hb) (HSL.out.2.2.below hb)))
 replace H5 := Lib.hid (H5.out.trans (hb.mono H5.out.size))
 replace HB := Lib.hid (HB.out.trans (hb.mono HB.out.size))
 clear hb
 have d0 := HBR.out.cell 0
 have d1 := HBR.out.cell 1
 have d2 := HBR.out.cell 2
 have d3 := HBR.out.cell 3
 have d4 := HBR.out.cell 4
 have d5 := HBR.out.cell 5
 simp at d0 d1 d2 d3 d4 d5
 go_wp2_with fail
 clear d0 d1 d2 d3 d4 d5
 generalize (w5.alloc (.cells #[.slice B0 c.has.length r0, .string ⟨c.about.toArray⟩, .int .i64 c.at_, .string ⟨c.by_.toArray⟩, .slice B4 c.for_.length r4, .int .i64 c.from_, .string ⟨c.id_.toArray⟩, .slice B7 c.may_.length r7, .int .i64 c.until_] 38)) = w6 at *
 have HS6x := Lib.hid H5.out.size
 ((with_reducible refine (tree_some t g r (.slice U1 r.by_.length j1) (.slice U2 r.need.length j2) (.slice U3 r.may_.length j3) w6 HT.out HR.out HA.out).mono ?_); rintro e w7 ⟨⟨vt, rfl, htv⟩, hb⟩)
 have hvv : VerdV w6.heap.size w7 vt (judgeP c r) := by
  rcases htv with ⟨h, _⟩ | ⟨c'', h, h2⟩ | ⟨_, h, _⟩
  ·cases h
  ·rw [HRO.out] at h
   injection h with h
   subst h
   exact h2
  ·rw [HRO.out] at h
   cases h
 obtain ⟨pb, bb, hta⟩ := verd_assert hvv (judgeP_kind c r)
 have HVV := Lib.hid hvv
 clear htv hvv
 replace HBR := Lib.hid (HBR.out.below hb HBR.out.lt)
 replace HR := Lib.hid (HR.out.below hb)
 replace HA := Lib.hid (HA.out.next hb)
 replace HS := Lib.hid (HS.out.below hb)
 replace HT := Lib.hid (tre_below HT.out hb)
 replace HRD := Lib.hid (rdva_below HRD.out hb)
 replace HV := Lib.hid (HV.out.below hb HV.out.lt)
 replace HCA := Lib.hid (HCA.out.below hb)
 replace HSL := Lib.hid (And.intro (HSL.out.1.below hb) (And.intro (HSL.out.2.1.below hb) (HSL.out.2.2.below hb)))
 replace HC := Lib.hid (HC.out.below hb HC.out.lt)
 replace H5 := Lib.hid (H5.out.trans (hb.mono H5.out.size))
 replace HB := Lib.hid (HB.out.trans (hb.mono HB.out.size))
 clear hb
 go_wp2_with fail
 ((with_reducible refine (wakes25_any _).mono ?_); rintro e w8 ⟨rfl, hb⟩)
 replace HBR := Lib.hid (HBR.out.below hb HBR.out.lt)
 replace HR := Lib.hid (HR.out.below hb)
 replace HA := Lib.hid (HA.out.next hb)
 replace HS := Lib.hid (HS.out.below hb)
 replace HT := Lib.hid (tre_below HT.out hb)
 replace HRD := Lib.hid (rdva_below HRD.out hb)
 replace HV := Lib.hid (HV.out.below hb HV.out.lt)
 replace HCA := Lib.hid (HCA.out.below hb)
 replace HSL := Lib.hid (And.intro (HSL.out.1.below hb) (And.intro (HSL.out.2.1.below hb) (HSL.out.2.2.below hb)))
 replace HC := Lib.hid (HC.out.below hb HC.out.lt)
 replace H5 := Lib.hid (H5.out.trans (hb.mono H5.out.size))
 replace HVV := Lib.hid (HVV.out.below hb)
 replace HB := Lib.hid (HB.out.trans (hb.mono HB.out.size))
 clear hb
 have v0 := HV.out.cell 0
 have v1 := HV.out.cell 1
 have v2 := HV.out.cell 2
 have v3 := HV.out.cell 3
 have v4 := HV.out.cell 4
 have v5 := HV.out.cell 5
 simp at v0 v1 v2 v3 v4 v5
 have hs6 : ((t.srt : Int) != 6) = false := by simpa using HS6.out.1
 go_wp2_with fail
 clear v0 v1 v2 v3 v4 v5
 have HS8x := Lib.hid H5.out.size
 ((with_reducible refine (refRead25_any t A1 q1 A2 q2 w8 HRD.out HOK.out.1 HOK.out.2 HS6.out.1).mono ?_); rintro e w9 ⟨⟨x, n, l, v15, rfl, hl1, how, hDC⟩, hb⟩)
 obtain ⟨x4, x7, hDC, hx4, hx7⟩ := hDC HS6.out.2
 have hdc : rCells (thereT t) x n l = dCells (is c) c x4 x7 := by
  rw [HCE.out] at hDC
  rw [dc_cells hDC]
  exact dCells_ext (fun i hi => by rw [← is_there HOK.out.1 HS6.out.2 hi, HCE.out]) c x4 x7
 rw [HCE.out] at hx4 hx7
 rw [HS6.out.2] at how
 obtain ⟨A15, q15, hv15⟩ := own_slice how
 subst hv15
 have HX := Lib.hid (And.intro hx4 hx7)
 clear how hDC hx4 hx7
 replace HBR := Lib.hid (HBR.out.below hb HBR.out.lt)
 replace HR := Lib.hid (HR.out.below hb)
 replace HA := Lib.hid (HA.out.next hb)
 replace HS := Lib.hid (HS.out.below hb)
 replace HT := Lib.hid (tre_below HT.out hb)
 replace HRD := Lib.hid (rdva_below HRD.out hb)
 replace HV := Lib.hid (HV.out.below hb HV.out.lt)
 replace HCA := Lib.hid (HCA.out.below hb)
 replace HSL := Lib.hid (And.intro (HSL.out.1.below hb) (And.intro (HSL.out.2.1.below hb) (HSL.out.2.2.below hb)))
 replace HC := Lib.hid (HC.out.below hb HC.out.lt)
 replace H5 := Lib.hid (H5.out.trans (hb.mono H5.out.size))
 replace HVV := Lib.hid (HVV.out.below hb)
 replace HB := Lib.hid (HB.out.trans (hb.mono HB.out.size))
 clear hb
 have HS9x := Lib.hid H5.out.size
 have hZ := Blk.new w9 58 zero32
 have hone := rCells_one (b := thereT t) (x := x) (n := n) hl1
 have hzs : (rCells (thereT t) x n l).size = (zero32 : Array Value).size := rfl
 have hzi : (Tryz.prog.info? 58).map (·.size) = some (rCells (thereT t) x n l).size := by kernel_rfl
 rw [hdc] at hone hzs hzi ⊢
 clear hdc hl1
 generalize hdsq : dCells (is c) c x4 x7 = ds at *
 have HDSQ := Lib.hid hdsq
 clear hdsq
 go_upto_region 13 with (refine wpList_store_row rfl 58 (.tmp 14) (.tmp 101) rfl w9.heap.size 58 zero32 ds rfl rfl hZ hzs hone hzi rfl ?_)
 have hZ2 : Blk (putCells (w9.alloc (.cells zero32 58)) w9.heap.size ds.toList 0) w9.heap.size 58 ds := blk_stored9 hZ hzs
 have hb : Below w9.heap.size w9 (putCells (w9.alloc (.cells zero32 58)) w9.heap.size ds.toList 0) := putCells_below (Nat.le_refl _) _ _ _ _ ((Below.refl _ _).alloc (Nat.le_refl _) _)
 have HW := Lib.hid hZ2
 have HZI := Lib.hid hzi
 clear hZ hone hzs hzi hZ2
 generalize putCells (w9.alloc (.cells zero32 58)) w9.heap.size ds.toList 0 = w10 at *
 replace HBR := Lib.hid (HBR.out.below hb HBR.out.lt)
 replace HR := Lib.hid (HR.out.below hb)
 replace HA := Lib.hid (HA.out.next hb)
 replace HS := Lib.hid (HS.out.below hb)
 replace HT := Lib.hid (tre_below HT.out hb)
 replace HRD := Lib.hid (rdva_below HRD.out hb)
 replace HV := Lib.hid (HV.out.below hb HV.out.lt)
 replace HCA := Lib.hid (HCA.out.below hb)
 replace HSL := Lib.hid (And.intro (HSL.out.1.below hb) (And.intro (HSL.out.2.1.below hb) (HSL.out.2.2.below hb)))
 replace HC := Lib.hid (HC.out.below hb HC.out.lt)
 replace H5 := Lib.hid (H5.out.trans (hb.mono H5.out.size))
 replace HVV := Lib.hid (HVV.out.below hb)
 replace HX := Lib.hid (And.intro (own_below HX.out.1 hb) (own_below HX.out.2 hb))
 replace HB := Lib.hid (HB.out.trans (hb.mono HB.out.size))
 clear hb
 have HS10x := Lib.hid H5.out.size
 go_wp2_with fail
 ((with_reducible refine (readO_any (some t) _ w10 w10 HT.out (Below.refl _ _) HA.out).mono ?_); rintro e w11 ⟨⟨c2, y0, y4, y7, er, rfl, hC, ho0, ho4, ho7, hEr⟩, hb⟩)
 obtain ⟨rfl, hce⟩ : er = .nilIface ∧ c = c2 := by
  rcases hEr with ⟨h1, h2⟩ | ⟨h, _⟩
  ·rw [HRO.out] at h2
   injection h2 with h2
   exact ⟨h1, h2⟩
  ·rw [HRO.out] at h
   cases h
 subst hce
 obtain ⟨D0, s0, hv0⟩ := own_sliceP ho0
 subst hv0
 obtain ⟨D4, s4, hv4⟩ := own_sliceP ho4
 subst hv4
 obtain ⟨D7, s7, hv7⟩ := own_sliceP ho7
 subst hv7
 have HDO := Lib.hid (And.intro ho0 (And.intro ho4 ho7))
 have HDA := Lib.hid hC
 clear hC ho0 ho4 ho7 hEr
 unfold clCells
 replace HBR := Lib.hid (HBR.out.below hb HBR.out.lt)
 replace HR := Lib.hid (HR.out.below hb)
 replace HA := Lib.hid (HA.out.next hb)
 replace HS := Lib.hid (HS.out.below hb)
 replace HT := Lib.hid (tre_below HT.out hb)
 replace HRD := Lib.hid (rdva_below HRD.out hb)
 replace HV := Lib.hid (HV.out.below hb HV.out.lt)
 replace HCA := Lib.hid (HCA.out.below hb)
 replace HSL := Lib.hid (And.intro (HSL.out.1.below hb) (And.intro (HSL.out.2.1.below hb) (HSL.out.2.2.below hb)))
 replace HC := Lib.hid (HC.out.below hb HC.out.lt)
 replace H5 := Lib.hid (H5.out.trans (hb.mono H5.out.size))
 replace HVV := Lib.hid (HVV.out.below hb)
 replace HX := Lib.hid (And.intro (own_below HX.out.1 hb) (own_below HX.out.2 hb))
 replace HW := Lib.hid (HW.out.below hb HW.out.lt)
 replace HB := Lib.hid (HB.out.trans (hb.mono HB.out.size))
 clear hb
 have HS11x := Lib.hid H5.out.size
 have hb : Below w11.heap.size w11 (w11.alloc (.cells #[.slice D0 c.has.length s0, .string ⟨c.about.toArray⟩, .int .i64 c.at_, .string ⟨c.by_.toArray⟩, .slice D4 c.for_.length s4, .int .i64 c.from_, .string ⟨c.id_.toArray⟩, .slice D7 c.may_.length s7, .int .i64 c.until_] 38)) := (Below.refl _ _).alloc (Nat.le_refl _) _
 have HD := Lib.hid (Blk.new w11 38 #[.slice D0 c.has.length s0, .string ⟨c.about.toArray⟩, .int .i64 c.at_, .string ⟨c.by_.toArray⟩, .slice D4 c.for_.length s4, .int .i64 c.from_, .string ⟨c.id_.toArray⟩, .slice D7 c.may_.length s7, .int .i64 c.until_])
 replace HBR := Lib.hid (HBR.out.below hb HBR.out.lt)
 replace HR := Lib.hid (HR.out.below hb)
 replace HA := Lib.hid (HA.out.next hb)
 replace HS := Lib.hid (HS.out.below hb)
 replace HT := Lib.hid (tre_below HT.out hb)
 replace HRD := Lib.hid (rdva_below HRD.out hb)
 replace HV := Lib.hid (HV.out.below hb HV.out.lt)
 replace HCA := Lib.hid (HCA.out.below hb)
 replace HSL := Lib.hid (And.intro (HSL.out.1.below hb) (And.intro (HSL.out.2.1.below hb) (HSL.out.2.2.below hb)))
 replace HC := Lib.hid (HC.out.below hb HC.out.lt)
 replace H5 := Lib.hid (H5.out.trans (hb.mono H5.out.size))
 replace HVV := Lib.hid (HVV.out.below hb)
 replace HX := Lib.hid (And.intro (own_below HX.out.1 hb) (own_below HX.out.2 hb))
 replace HW := Lib.hid (HW.out.below hb HW.out.lt)
 replace HDO := Lib.hid (And.intro (own_below HDO.out.1 hb) (And.intro (own_below HDO.out.2.1 hb) (own_below HDO.out.2.2 hb)))
 replace HDA := Lib.hid (HDA.out.below hb)
 replace HB := Lib.hid (HB.out.trans (hb.mono HB.out.size))
 clear hb
 go_upto_region 16 with fail
 generalize (w11.alloc (.cells #[.slice D0 c.has.length s0, .string ⟨c.about.toArray⟩, .int .i64 c.at_, .string ⟨c.by_.toArray⟩, .slice D4 c.for_.length s4, .int .i64 c.from_, .string ⟨c.id_.toArray⟩, .slice D7 c.may_.length s7, .int .i64 c.until_] 38)) = w12 at *
 have HM := Lib.hid (show mayB c = true by rw [← HCE.out]; exact (read_may HOK.out.1 HS6.out.2).1)
 have har1 : Calls Tryz.prog 14 #[.agg #[.slice B0 c.has.length r0, .string ⟨c.about.toArray⟩, .int .i64 c.at_, .string ⟨c.by_.toArray⟩, .slice B4 c.for_.length r4, .int .i64 c.from_, .string ⟨c.id_.toArray⟩, .slice B7 c.may_.length r7, .int .i64 c.until_], .agg ds] w12 (TrueC w12) := by
  rw [← HDSQ.out]
  exact are25_any c _ _ _ x4 x7 w12 HCA.out HM.out (Rd.of_own HX.out.1) (Rd.of_own HX.out.2)
 have HAR1 := Lib.hid har1
 clear har1
 have HWB := HW.out
 obtain ⟨c0, c1, c2, c3, c4, c5, c6, c7, c8⟩ := C9 HC.out
 go_wp2_with (refine wpList_load_gb (wanted_yes 140 rfl rfl rfl) 58 (.tmp 14) rfl _ rfl 58 ds HWB _ Tryz.underlying58 rfl HZI.out ?_)
 clear HWB c0 c1 c2 c3 c4 c5 c6 c7 c8
 ((with_reducible refine HAR1.out.mono ?_); rintro e w13 ⟨rfl, hb⟩)
 clear HAR1
 replace HBR := Lib.hid (HBR.out.below hb HBR.out.lt)
 replace HR := Lib.hid (HR.out.below hb)
 replace HA := Lib.hid (HA.out.next hb)
 replace HS := Lib.hid (HS.out.below hb)
 replace HT := Lib.hid (tre_below HT.out hb)
 replace HRD := Lib.hid (rdva_below HRD.out hb)
 replace HV := Lib.hid (HV.out.below hb HV.out.lt)
 replace HCA := Lib.hid (HCA.out.below hb)
 replace HSL := Lib.hid (And.intro (HSL.out.1.below hb) (And.intro (HSL.out.2.1.below hb) (HSL.out.2.2.below hb)))
 replace HC := Lib.hid (HC.out.below hb HC.out.lt)
 replace H5 := Lib.hid (H5.out.trans (hb.mono H5.out.size))
 replace HVV := Lib.hid (HVV.out.below hb)
 replace HX := Lib.hid (And.intro (own_below HX.out.1 hb) (own_below HX.out.2 hb))
 replace HW := Lib.hid (HW.out.below hb HW.out.lt)
 replace HDO := Lib.hid (And.intro (own_below HDO.out.1 hb) (And.intro (own_below HDO.out.2.1 hb) (own_below HDO.out.2.2 hb)))
 replace HD := Lib.hid (HD.out.below hb HD.out.lt)
 replace HDA := Lib.hid (HDA.out.below hb)
 replace HB := Lib.hid (HB.out.trans (hb.mono HB.out.size))
 clear hb
 have har2 : Calls Tryz.prog 14 #[.agg #[.slice D0 c.has.length s0, .string ⟨c.about.toArray⟩, .int .i64 c.at_, .string ⟨c.by_.toArray⟩, .slice D4 c.for_.length s4, .int .i64 c.from_, .string ⟨c.id_.toArray⟩, .slice D7 c.may_.length s7, .int .i64 c.until_], .agg ds] w13 (TrueC w13) := by
  rw [← HDSQ.out]
  exact are25_any c _ _ _ x4 x7 w13 HDA.out HM.out (Rd.of_own HX.out.1) (Rd.of_own HX.out.2)
 have HAR2 := Lib.hid har2
 clear har2
 have HWB := HW.out
 obtain ⟨c0, c1, c2, c3, c4, c5, c6, c7, c8⟩ := C9 HD.out
 go_wp2_with (refine wpList_load_gb (wanted_yes 146 rfl rfl rfl) 58 (.tmp 14) rfl _ rfl 58 ds HWB _ Tryz.underlying58 rfl HZI.out ?_)
 clear HWB c0 c1 c2 c3 c4 c5 c6 c7 c8
 ((with_reducible refine HAR2.out.mono ?_); rintro e w14 ⟨rfl, hb⟩)
 clear HAR2
 replace HBR := Lib.hid (HBR.out.below hb HBR.out.lt)
 replace HR := Lib.hid (HR.out.below hb)
 replace HA := Lib.hid (HA.out.next hb)
 replace HS := Lib.hid (HS.out.below hb)
 replace HT := Lib.hid (tre_below HT.out hb)
 replace HRD := Lib.hid (rdva_below HRD.out hb)
 replace HV := Lib.hid (HV.out.below hb HV.out.lt)
 replace HCA := Lib.hid (HCA.out.below hb)
 replace HSL := Lib.hid (And.intro (HSL.out.1.below hb) (And.intro (HSL.out.2.1.below hb) (HSL.out.2.2.below hb)))
 replace HC := Lib.hid (HC.out.below hb HC.out.lt)
 replace H5 := Lib.hid (H5.out.trans (hb.mono H5.out.size))
 replace HVV := Lib.hid (HVV.out.below hb)
 replace HX := Lib.hid (And.intro (own_below HX.out.1 hb) (own_below HX.out.2 hb))
 replace HW := Lib.hid (HW.out.below hb HW.out.lt)
 replace HDO := Lib.hid (And.intro (own_below HDO.out.1 hb) (And.intro (own_below HDO.out.2.1 hb) (own_below HDO.out.2.2 hb)))
 replace HD := Lib.hid (HD.out.below hb HD.out.lt)
 replace HDA := Lib.hid (HDA.out.below hb)
 replace HB := Lib.hid (HB.out.trans (hb.mono HB.out.size))
 clear hb
 go_upto_if 151 with fail
 go_cut [] (fun wx => wx = w14)
 case rest =>
  subst hcut
  have hfit : FitC c := by rw [← HCE.out]; exact readAt_fit HOK.out.1 8 (Nat.le_refl _)
  have hnh : c.has.length ≤ 8 := by rw [← HCE.out]; exact (readAt_len t 8 (Nat.le_refl _)).1
  have hWD := HW.out
  rw [← HDSQ.out] at hWD
  go_step
  exact rd_spoil c r U1 U2 U3 D0 D4 D7 j1 j2 j3 s0 s4 s7 (.slice none 0 0) x4 x7 vt _ _ _ w6.heap.size w _ B0 B4 B7 r0 r4 r7 w4.heap.size w5.heap.size (Nat.le_refl _) HS9x.out HS11x.out HS6x.out HA4.out HR0.out HBR.out HB.out hWD (own_frame HDO.out.1 HS10x.out (fun _ _ _ _ h => h)) (own_frame HDO.out.2.1 HS10x.out (fun _ _ _ _ h => h)) (own_frame HDO.out.2.2 HS10x.out (fun _ _ _ _ h => h)) (own_frame HX.out.1 HS8x.out (fun _ _ _ _ h => h)) (own_frame HX.out.2 HS8x.out (fun _ _ _ _ h => h)) hfit hnh HC.out HSL.out.1 HSL.out.2.1 HSL.out.2.2 HD.out HVV.out HM.out _ _ _ _ _ _ _ _ _ _ _ _ _ _ _ _ _ _ _ _ _ _ _ _ _ _ _ _ _ _ _ _ _ _ _ _ _ _ _ _ _ _ _ _ _ _ _ _ _ _ _ _ _ _ _ _ _ _ _ _ _ _ _ _ _ _ _ _ _ _ _ _ _ _ _ _ _ _ _ _ _ _ _ _ _ _ _ _ _ _ _ _ _ _ _ _ _ _ _ _ _ _ _ _ _ _ _ _ _ _ _ _ _ _ _ _ _ _ _ _ _ _ _ _ _ _ _ _ _ _ _ _ _ _ _ _ _ _ _ _ _ _ _ _ _ _ _ _ _ _ _ _ _ _ _ _ _ _ _ _ _ _ _ _ _ _ _ _ _ _ _ _ _ _ _ _ _ _ _ _ _ _ _ _ _
 go_step
 go_wp2_with fail
 go_meet
 exact rfl
theorem reads_any (r : R) (u1 u2 u3 : Value) (v : Value) (ss : List Stp) (w : World) (hR : RuAt w r u1 u2 u3) (hS : RdS w v ss) (hF : ∀ s ∈ ss, s.Fine) (hCn : ∀ s ∈ ss, s.Cnt) (hN : ss.length ≤ 1048576) (hA : TabP w) :
  Calls Tryz.prog 3 #[v, .agg #[.int .i64 r.now, .int .i64 r.slack, .string ⟨r.who.toArray⟩, u1, u2, u3]] w (TrueC w) := by
 cases hbt : buildT ss with
 | inl x => exact reads_no r u1 u2 u3 v ss w hR hS hF hCn hN hA x.1 x.2 hbt
 | inr t =>
  by_cases hs : (t.srt : Int) = 6
  ·by_cases hq : (readC t).2 = []
   ·obtain ⟨U1, j1, e1, _⟩ := id hR.by_
    obtain ⟨U2, j2, e2, _⟩ := id hR.need
    obtain ⟨U3, j3, e3, _⟩ := id hR.may
    subst e1 e2 e3
    exact reads_ok r U1 U2 U3 j1 j2 j3 v ss w hR hS hF hCn hN hA t hbt hs hq
   ·exact reads_bad r u1 u2 u3 v ss w hR hS hF hCn hN hA t hbt hs hq
  ·exact reads_sort r u1 u2 u3 v ss w hR hS hF hCn hN hA t hbt hs
end Nd
end Go.Proofs.YtobaldkipnhlpaaGreatDoor
