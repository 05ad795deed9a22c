/-
  The law ClaimsReads: what it leans on; the cases in which nothing is read.
-/
import Derived.Test.YtobaldkipnhlpaaGreatDoorS39
import Derived.Test.YtobaldkipnhlpaaGreatDoorS40
import Derived.Test.YtobaldkipnhlpaaGreatDoorS41
import Derived.Test.YtobaldkipnhlpaaGreatDoorS36
import Derived.Test.YtobaldkipnhlpaaGreatDoorS27
import Derived.Test.YtobaldkipnhlpaaGreatDoorS33
import Derived.Test.YtobaldkipnhlpaaGreatDoorS8
set_option linter.unusedVariables false
set_option linter.unusedSimpArgs false
set_option maxRecDepth 100000
set_option maxHeartbeats 16000000
namespace Go.Proofs.YtobaldkipnhlpaaGreatDoor
open Go.RowKit Mem Utf Ref3 Idx Tok TokC Cl
namespace Nd
theorem bk_eq (w : World) : (binOp .eql 44 (.pointer none) (.pointer none)).run Tryz.prog w = .ok (.bool true) w := by kernel_rfl
theorem tp_nn (w : World) : (binOp .neq 26 (.pointer none) (.pointer none)).run Tryz.prog w = .ok (.bool false) w := by kernel_rfl
theorem tp_sn (a : Addr) (w : World) : (binOp .neq 26 (.pointer (some a)) (.pointer none)).run Tryz.prog w = .ok (.bool true) w := by kernel_rfl
theorem vf_ne (u : TypeId) (x : Value) (w : World) : (binOp .neq 42 (.iface u x) .nilIface).run Tryz.prog w = .ok (.bool true) w := run_neq_held_nil w _ u x (by kernel_rfl)
theorem tre_below {o : Option Tr} {w w' : World} {tp : Value} (h : TreO w o tp) (hb : Below w.heap.size w w') : TreO w' o tp := by
 rcases h with h | ⟨t, g, v, h1, h2, h3, h4, h5⟩
 ·exact .inl h
 ·exact .inr ⟨t, g, v, h1, h2, h3.below hb h3.lt, rda_below h4 hb, h5⟩
theorem lawTrail_nil (n : Int) (w : World) : Calls Tryz.prog 11 #[.iface 119 (.agg #[.int .i64 n, .string ⟨#[]⟩]), .int .i64 n, .string ⟨#[]⟩] w (TrueC w) := lawTrail_any n [] w
theorem same_zz (w : World) : Calls Tryz.prog 9 #[.agg #[.slice none 0 0, .string ⟨#[]⟩, .int .i64 0, .string ⟨#[]⟩, .slice none 0 0, .int .i64 0, .string ⟨#[]⟩, .slice none 0 0, .int .i64 0], .agg #[.slice none 0 0, .string ⟨#[]⟩, .int .i64 0, .string ⟨#[]⟩, .slice none 0 0, .int .i64 0, .string ⟨#[]⟩, .slice none 0 0, .int .i64 0]] w (TrueC w) := same25_zero (d := cZero) rfl (.slice none 0 0) (.slice none 0 0) (.slice none 0 0) w (zero_at w)
theorem is_there {t : Tr} (ho : t.Ok) (h : (readC t).2 = []) {k : Nat} (hk : k < 8) : is (readC t).1 k = thereT t k := by
 have hh := (read_may ho h).2
 unfold is
 rw [hh, Bool.eq_iff_iff, List.contains_iff_mem, List.mem_map]
 constructor
 ·rintro ⟨j, hj, he⟩
  unfold F at hj
  rw [List.mem_filter, List.mem_range] at hj
  have := key_inj j k hj.1 hk he
  subst this
  exact hj.2
 ·intro hp
  exact ⟨k, by unfold F; rw [List.mem_filter, List.mem_range]; exact ⟨hk, hp⟩, rfl⟩
theorem reads_no (r : R) (u1 u2 u3 : Value) (v : Value) (ss : List Stp) (w : World) (hR : RuAt w r u1 u2 u3) (hS : RdS w v ss) (hF : ∀ s ∈ ss, s.Fine) (hCn : ∀ s ∈ ss, s.Cnt) (hN : ss.length ≤ 1048576) (hA : TabP w) (n i : Int) (hbt : buildT ss = .inl (n, i)) :
  Calls Tryz.prog 3 #[v, .agg #[.int .i64 r.now, .int .i64 r.slack, .string ⟨r.who.toArray⟩, u1, u2, u3]] w (TrueC w) := by
 have q1 := err_ne_nil
 have q2 := err_ne_held
 have p1 := bk_eq
 have p2 := ptr_ne
 have p3 := tb_ok
 have p4 := tp_nn
 have p5 := tp_sn
 have p6 := vf_ne
 have HBT := Lib.hid hbt
 clear hbt
 have hba : Below w.heap.size w (w.alloc (.cells #[.int .i64 r.now, .int .i64 r.slack, .string ⟨r.who.toArray⟩, u1, u2, u3] 25)) := (Below.refl _ _).alloc (Nat.le_refl _) _
 have hbr := Blk.new w 25 #[.int .i64 r.now, .int .i64 r.slack, .string ⟨r.who.toArray⟩, u1, u2, u3]
 have HS := Lib.hid (hS.below hba)
 have HF := Lib.hid hF
 have HCN := Lib.hid hCn
 have HN := Lib.hid hN
 have HR := Lib.hid (hR.below hba)
 have HA := Lib.hid (hA.next hba)
 have HB := Lib.hid hba
 have HBR := Lib.hid hbr
 clear hR hS hF hCn hN hA hba hbr
 go_enter Tryz.func3, Tryz.ntmps3
 go_wp2_with fail
 generalize (w.alloc (.cells #[.int .i64 r.now, .int .i64 r.slack, .string ⟨r.who.toArray⟩, u1, u2, u3] 25)) = w1 at *
 ((with_reducible refine (build_all v ss _ HS.out HF.out).mono ?_); rintro e w2 ⟨hb, he⟩)
 rw [HBT.out] at he
 obtain ⟨T, u, hTu⟩ := sp_form n i
 dsimp only at he
 rw [hTu] at he
 obtain rfl := he
 clear hTu
 replace HBR := Lib.hid (HBR.out.below hb HBR.out.lt)
 replace HR := Lib.hid (HR.out.below hb)
 replace HA := Lib.hid (HA.out.next hb)
 replace HS := Lib.hid (HS.out.below hb)
 replace HB := Lib.hid (HB.out.trans (hb.mono HB.out.size))
 clear hb
 go_wp2_with fail
 ((with_reducible refine (value25_any v ss w2 HS.out HF.out HCN.out HN.out).mono ?_); rintro e w3 ⟨hb, he⟩)
 rw [HBT.out] at he
 dsimp only at he
 obtain rfl := he
 unfold noVal
 replace HBR := Lib.hid (HBR.out.below hb HBR.out.lt)
 replace HR := Lib.hid (HR.out.below hb)
 replace HA := Lib.hid (HA.out.next hb)
 replace HS := Lib.hid (HS.out.below hb)
 replace HB := Lib.hid (HB.out.trans (hb.mono HB.out.size))
 clear hb
 have hb : Below w3.heap.size w3 (w3.alloc (.cells #[.int .i64 0, .bool false, .int .u64 0, .string ⟨#[]⟩, .slice none 0 0, .slice none 0 0] 34)) := (Below.refl _ _).alloc (Nat.le_refl _) _
 have HV := Lib.hid (Blk.new w3 34 #[.int .i64 0, .bool false, .int .u64 0, .string ⟨#[]⟩, .slice none 0 0, .slice none 0 0])
 replace HBR := Lib.hid (HBR.out.below hb HBR.out.lt)
 replace HR := Lib.hid (HR.out.below hb)
 replace HA := Lib.hid (HA.out.next hb)
 replace HS := Lib.hid (HS.out.below hb)
 replace HB := Lib.hid (HB.out.trans (hb.mono HB.out.size))
 clear hb
 go_wp2_with fail
 generalize (w3.alloc (.cells #[.int .i64 0, .bool false, .int .u64 0, .string ⟨#[]⟩, .slice none 0 0, .slice none 0 0] 34)) = w4 at *
 ((with_reducible refine (readt_nil w4).mono ?_); rintro e w5 ⟨rfl, hb⟩)
 unfold zClaims
 replace HBR := Lib.hid (HBR.out.below hb HBR.out.lt)
 replace HR := Lib.hid (HR.out.below hb)
 replace HA := Lib.hid (HA.out.next hb)
 replace HS := Lib.hid (HS.out.below hb)
 replace HV := Lib.hid (HV.out.below hb HV.out.lt)
 replace HB := Lib.hid (HB.out.trans (hb.mono HB.out.size))
 clear hb
 have hb : Below w5.heap.size w5 (w5.alloc (.cells #[.slice none 0 0, .string ⟨#[]⟩, .int .i64 0, .string ⟨#[]⟩, .slice none 0 0, .int .i64 0, .string ⟨#[]⟩, .slice none 0 0, .int .i64 0] 38)) := (Below.refl _ _).alloc (Nat.le_refl _) _
 have HC := Lib.hid (Blk.new w5 38 #[.slice none 0 0, .string ⟨#[]⟩, .int .i64 0, .string ⟨#[]⟩, .slice none 0 0, .int .i64 0, .string ⟨#[]⟩, .slice none 0 0, .int .i64 0])
 replace HBR := Lib.hid (HBR.out.below hb HBR.out.lt)
 replace HR := Lib.hid (HR.out.below hb)
 replace HA := Lib.hid (HA.out.next hb)
 replace HS := Lib.hid (HS.out.below hb)
 replace HV := Lib.hid (HV.out.below hb HV.out.lt)
 replace HB := Lib.hid (HB.out.trans (hb.mono HB.out.size))
 clear hb
 have d0 := HBR.out.cell 0
 have d1 := HBR.out.cell 1
 have d2 := HBR.out.cell 2
 have d3 := HBR.out.cell 3
 have d4 := HBR.out.cell 4
 have d5 := HBR.out.cell 5
 simp at d0 d1 d2 d3 d4 d5
 go_wp2_with fail
 clear d0 d1 d2 d3 d4 d5
 generalize (w5.alloc (.cells #[.slice none 0 0, .string ⟨#[]⟩, .int .i64 0, .string ⟨#[]⟩, .slice none 0 0, .int .i64 0, .string ⟨#[]⟩, .slice none 0 0, .int .i64 0] 38)) = w6 at *
 ((with_reducible refine (tree_none r u1 u2 u3 w6).mono ?_); rintro e w7 ⟨⟨vt, rfl, htv⟩, hb⟩)
 obtain ⟨_, rfl⟩ : True ∧ vt = .iface 44 (.pointer none) := by
  rcases htv with ⟨_, h⟩ | ⟨c', h, _⟩ | ⟨h, _⟩
  ·exact ⟨trivial, h⟩
  ·cases h
  ·exact absurd rfl h
 clear htv
 replace HBR := Lib.hid (HBR.out.below hb HBR.out.lt)
 replace HR := Lib.hid (HR.out.below hb)
 replace HA := Lib.hid (HA.out.next hb)
 replace HS := Lib.hid (HS.out.below hb)
 replace HV := Lib.hid (HV.out.below hb HV.out.lt)
 replace HC := Lib.hid (HC.out.below hb HC.out.lt)
 replace HB := Lib.hid (HB.out.trans (hb.mono HB.out.size))
 clear hb
 go_wp2_with fail
 ((with_reducible refine (wakes25_any _).mono ?_); rintro e w8 ⟨rfl, hb⟩)
 replace HBR := Lib.hid (HBR.out.below hb HBR.out.lt)
 replace HR := Lib.hid (HR.out.below hb)
 replace HA := Lib.hid (HA.out.next hb)
 replace HS := Lib.hid (HS.out.below hb)
 replace HV := Lib.hid (HV.out.below hb HV.out.lt)
 replace HC := Lib.hid (HC.out.below hb HC.out.lt)
 replace HB := Lib.hid (HB.out.trans (hb.mono HB.out.size))
 clear hb
 obtain ⟨c0, c1, c2, c3, c4, c5, c6, c7, c8⟩ := C9 HC.out
 go_wp2_with fail
 clear c0 c1 c2 c3 c4 c5 c6 c7 c8
 ((with_reducible refine (same_zz w8).mono ?_); rintro e w9 ⟨rfl, hb⟩)
 replace HBR := Lib.hid (HBR.out.below hb HBR.out.lt)
 replace HR := Lib.hid (HR.out.below hb)
 replace HA := Lib.hid (HA.out.next hb)
 replace HS := Lib.hid (HS.out.below hb)
 replace HV := Lib.hid (HV.out.below hb HV.out.lt)
 replace HC := Lib.hid (HC.out.below hb HC.out.lt)
 replace HB := Lib.hid (HB.out.trans (hb.mono HB.out.size))
 clear hb
 go_wp2_with fail
 ((with_reducible refine (number25_any 1 w9).mono ?_); rintro e w10 ⟨rfl, rfl⟩)
 go_wp2
 go_ret
 exact ⟨rfl, HB.out⟩
theorem reads_sort (r : R) (u1 u2 u3 : Value) (v : Value) (ss : List Stp) (w : World) (hR : RuAt w r u1 u2 u3) (hS : RdS w v ss) (hF : ∀ s ∈ ss, s.Fine) (hCn : ∀ s ∈ ss, s.Cnt) (hN : ss.length ≤ 1048576) (hA : TabP w) (t : Tr) (hbt : buildT ss = .inr t) (hs : ¬ (t.srt : Int) = 6) :
  Calls Tryz.prog 3 #[v, .agg #[.int .i64 r.now, .int .i64 r.slack, .string ⟨r.who.toArray⟩, u1, u2, u3]] w (TrueC w) := by
 have q1 := err_ne_nil
 have q2 := err_ne_held
 have p1 := bk_eq
 have p2 := ptr_ne
 have p3 := tb_ok
 have p4 := tp_nn
 have p5 := tp_sn
 have p6 := vf_ne
 have HBT := Lib.hid hbt
 have HS6 := Lib.hid hs
 clear hs
 clear hbt
 have hba : Below w.heap.size w (w.alloc (.cells #[.int .i64 r.now, .int .i64 r.slack, .string ⟨r.who.toArray⟩, u1, u2, u3] 25)) := (Below.refl _ _).alloc (Nat.le_refl _) _
 have hbr := Blk.new w 25 #[.int .i64 r.now, .int .i64 r.slack, .string ⟨r.who.toArray⟩, u1, u2, u3]
 have HS := Lib.hid (hS.below hba)
 have HF := Lib.hid hF
 have HCN := Lib.hid hCn
 have HN := Lib.hid hN
 have HR := Lib.hid (hR.below hba)
 have HA := Lib.hid (hA.next hba)
 have HB := Lib.hid hba
 have HBR := Lib.hid hbr
 clear hR hS hF hCn hN hA hba hbr
 go_enter Tryz.func3, Tryz.ntmps3
 go_wp2_with fail
 generalize (w.alloc (.cells #[.int .i64 r.now, .int .i64 r.slack, .string ⟨r.who.toArray⟩, u1, u2, u3] 25)) = w1 at *
 ((with_reducible refine (build_all v ss _ HS.out HF.out).mono ?_); rintro e w2 ⟨hb, he⟩)
 rw [HBT.out] at he
 obtain ⟨g, rfl, hTA⟩ := he
 obtain ⟨_, hfit, tv, hblk, hrd0⟩ := hTA
 have HOK := Lib.hid (buildT_ok HF.out HBT.out)
 have hro0 : TreO w2 (some t) (.pointer (some ⟨g, 0, none⟩)) := .inr ⟨t, g, tv, rfl, rfl, hblk, RdT.toA hrd0, HOK.out⟩
 have HT := Lib.hid hro0
 clear hro0 hblk hrd0 hfit
 replace HBR := Lib.hid (HBR.out.below hb HBR.out.lt)
 replace HR := Lib.hid (HR.out.below hb)
 replace HA := Lib.hid (HA.out.next hb)
 replace HS := Lib.hid (HS.out.below hb)
 replace HB := Lib.hid (HB.out.trans (hb.mono HB.out.size))
 clear hb
 go_wp2_with fail
 ((with_reducible refine (value25_any v ss w2 HS.out HF.out HCN.out HN.out).mono ?_); rintro e w3 ⟨hb, he⟩)
 rw [HBT.out] at he
 dsimp only at he
 obtain ⟨A1, q1, A2, q2, rfl, hrd⟩ := he
 have HRD := Lib.hid hrd
 clear hrd
 unfold valV
 replace HBR := Lib.hid (HBR.out.below hb HBR.out.lt)
 replace HR := Lib.hid (HR.out.below hb)
 replace HA := Lib.hid (HA.out.next hb)
 replace HS := Lib.hid (HS.out.below hb)
 replace HT := Lib.hid (tre_below HT.out hb)
 replace HB := Lib.hid (HB.out.trans (hb.mono HB.out.size))
 clear hb
 have hb : Below w3.heap.size w3 (w3.alloc (.cells #[.int .i64 (t.srt : Nat), .bool t.fl, .int .u64 (t.bi : Nat), .string ⟨t.tx.toArray⟩, .slice A1 t.kids.length q1, .slice A2 t.kn.length q2] 34)) := (Below.refl _ _).alloc (Nat.le_refl _) _
 have HV := Lib.hid (Blk.new w3 34 #[.int .i64 (t.srt : Nat), .bool t.fl, .int .u64 (t.bi : Nat), .string ⟨t.tx.toArray⟩, .slice A1 t.kids.length q1, .slice A2 t.kn.length q2])
 replace HBR := Lib.hid (HBR.out.below hb HBR.out.lt)
 replace HR := Lib.hid (HR.out.below hb)
 replace HA := Lib.hid (HA.out.next hb)
 replace HS := Lib.hid (HS.out.below hb)
 replace HT := Lib.hid (tre_below HT.out hb)
 replace HRD := Lib.hid (rdva_below HRD.out hb)
 replace HB := Lib.hid (HB.out.trans (hb.mono HB.out.size))
 clear hb
 go_wp2_with fail
 generalize (w3.alloc (.cells #[.int .i64 (t.srt : Nat), .bool t.fl, .int .u64 (t.bi : Nat), .string ⟨t.tx.toArray⟩, .slice A1 t.kids.length q1, .slice A2 t.kn.length q2] 34)) = w4 at *
 ((with_reducible refine (readO_any (some t) _ w4 w4 HT.out (Below.refl _ _) HA.out).mono ?_); rintro e w5 ⟨⟨c, v0, v4, v7, er, rfl, hC, ho0, ho4, ho7, hEr⟩, hb⟩)
 obtain ⟨B0, r0, hv0⟩ := own_sliceP ho0
 subst hv0
 obtain ⟨B4, r4, hv4⟩ := own_sliceP ho4
 subst hv4
 obtain ⟨B7, r7, hv7⟩ := own_sliceP ho7
 subst hv7
 have hRO : readO (some t) = none := by
  unfold readO
  dsimp only
  rw [if_neg fun h => HS6.out h.1]
 obtain ⟨rfl, hEO⟩ : c = cZero ∧ ErrO (some t) w4.heap.size w5 er := by
  rcases hEr with ⟨_, h⟩ | ⟨_, h1, h2⟩
  ·rw [hRO] at h
   cases h
  ·exact ⟨h1, h2⟩
 obtain ⟨T1, e1, hTe1⟩ := hEO.iface
 subst hTe1
 have HRO := Lib.hid hRO
 have HCA := Lib.hid hC
 have HER := Lib.hid hEO
 clear hEr ho0 ho4 ho7 hC hEO hRO
 unfold clCells
 replace HBR := Lib.hid (HBR.out.below hb HBR.out.lt)
 replace HR := Lib.hid (HR.out.below hb)
 replace HA := Lib.hid (HA.out.next hb)
 replace HS := Lib.hid (HS.out.below hb)
 replace HT := Lib.hid (tre_below HT.out hb)
 replace HRD := Lib.hid (rdva_below HRD.out hb)
 replace HV := Lib.hid (HV.out.below hb HV.out.lt)
 replace HB := Lib.hid (HB.out.trans (hb.mono HB.out.size))
 clear hb
 have hb : Below w5.heap.size w5 (w5.alloc (.cells #[.slice B0 cZero.has.length r0, .string ⟨cZero.about.toArray⟩, .int .i64 cZero.at_, .string ⟨cZero.by_.toArray⟩, .slice B4 cZero.for_.length r4, .int .i64 cZero.from_, .string ⟨cZero.id_.toArray⟩, .slice B7 cZero.may_.length r7, .int .i64 cZero.until_] 38)) := (Below.refl _ _).alloc (Nat.le_refl _) _
 have HC := Lib.hid (Blk.new w5 38 #[.slice B0 cZero.has.length r0, .string ⟨cZero.about.toArray⟩, .int .i64 cZero.at_, .string ⟨cZero.by_.toArray⟩, .slice B4 cZero.for_.length r4, .int .i64 cZero.from_, .string ⟨cZero.id_.toArray⟩, .slice B7 cZero.may_.length r7, .int .i64 cZero.until_])
 replace HBR := Lib.hid (HBR.out.below hb HBR.out.lt)
 replace HR := Lib.hid (HR.out.below hb)
 replace HA := Lib.hid (HA.out.next hb)
 replace HS := Lib.hid (HS.out.below hb)
 replace HT := Lib.hid (tre_below HT.out hb)
 replace HRD := Lib.hid (rdva_below HRD.out hb)
 replace HV := Lib.hid (HV.out.below hb HV.out.lt)
 replace HCA := Lib.hid (HCA.out.below hb)
 replace HER := Lib.hid (HER.out.below hb)
 replace HB := Lib.hid (HB.out.trans (hb.mono HB.out.size))
 clear hb
 have d0 := HBR.out.cell 0
 have d1 := HBR.out.cell 1
 have d2 := HBR.out.cell 2
 have d3 := HBR.out.cell 3
 have d4 := HBR.out.cell 4
 have d5 := HBR.out.cell 5
 simp at d0 d1 d2 d3 d4 d5
 go_wp2_with fail
 clear d0 d1 d2 d3 d4 d5
 generalize (w5.alloc (.cells #[.slice B0 cZero.has.length r0, .string ⟨cZero.about.toArray⟩, .int .i64 cZero.at_, .string ⟨cZero.by_.toArray⟩, .slice B4 cZero.for_.length r4, .int .i64 cZero.from_, .string ⟨cZero.id_.toArray⟩, .slice B7 cZero.may_.length r7, .int .i64 cZero.until_] 38)) = w6 at *
 ((with_reducible refine (tree_some t g r u1 u2 u3 w6 HT.out HR.out HA.out).mono ?_); rintro e w7 ⟨⟨vt, rfl, htv⟩, hb⟩)
 have hvv : ∃ b er, w6.heap.size ≤ b ∧ vt = .iface 44 (.pointer (some ⟨b, 0, none⟩)) ∧ Blk w7 b 52 #[er] ∧ ErrO (some t) w6.heap.size w7 er := by
  rcases htv with ⟨h, _⟩ | ⟨c'', h, h2⟩ | ⟨_, h, h3⟩
  ·cases h
  ·rw [HRO.out] at h
   cases h
  ·exact h3
 obtain ⟨gb, er2, hbb, rfl, hblk, hErr⟩ := hvv
 obtain ⟨T2, e2, hTe2⟩ := hErr.iface
 subst hTe2
 have HBB := Lib.hid hblk
 have HER2 := Lib.hid hErr
 clear htv hblk hErr
 replace HBR := Lib.hid (HBR.out.below hb HBR.out.lt)
 replace HR := Lib.hid (HR.out.below hb)
 replace HA := Lib.hid (HA.out.next hb)
 replace HS := Lib.hid (HS.out.below hb)
 replace HT := Lib.hid (tre_below HT.out hb)
 replace HRD := Lib.hid (rdva_below HRD.out hb)
 replace HV := Lib.hid (HV.out.below hb HV.out.lt)
 replace HCA := Lib.hid (HCA.out.below hb)
 replace HER := Lib.hid (HER.out.below hb)
 replace HC := Lib.hid (HC.out.below hb HC.out.lt)
 replace HB := Lib.hid (HB.out.trans (hb.mono HB.out.size))
 clear hb
 go_wp2_with fail
 ((with_reducible refine (wakes25_any _).mono ?_); rintro e w8 ⟨rfl, hb⟩)
 replace HBR := Lib.hid (HBR.out.below hb HBR.out.lt)
 replace HR := Lib.hid (HR.out.below hb)
 replace HA := Lib.hid (HA.out.next hb)
 replace HS := Lib.hid (HS.out.below hb)
 replace HT := Lib.hid (tre_below HT.out hb)
 replace HRD := Lib.hid (rdva_below HRD.out hb)
 replace HV := Lib.hid (HV.out.below hb HV.out.lt)
 replace HCA := Lib.hid (HCA.out.below hb)
 replace HER := Lib.hid (HER.out.below hb)
 replace HC := Lib.hid (HC.out.below hb HC.out.lt)
 replace HBB := Lib.hid (HBB.out.below hb HBB.out.lt)
 replace HER2 := Lib.hid (HER2.out.below hb)
 replace HB := Lib.hid (HB.out.trans (hb.mono HB.out.size))
 clear hb
 have v0 := HV.out.cell 0
 simp at v0
 have hs6 : ((t.srt : Int) != 6) = true := by simpa using HS6.out
 have he1 : Value.iface T1 e1 = tlV (5, []) := by
  have h := HER.out
  unfold ErrO at h
  dsimp only at h
  rwa [if_neg HS6.out] at h
 have he2 : Value.iface T2 e2 = tlV (5, []) := by
  have h := HER2.out
  unfold ErrO at h
  dsimp only at h
  rwa [if_neg HS6.out] at h
 unfold tlV at he1 he2
 injection he1 with e11 e12
 injection he2 with e21 e22
 subst e11 e12 e21 e22
 obtain ⟨c0, c1, c2, c3, c4, c5, c6, c7, c8⟩ := C9 HC.out
 go_wp2_with fail
 clear c0 c1 c2 c3 c4 c5 c6 c7 c8
 ((with_reducible refine (same25_zero (d := cZero) rfl _ _ _ w8 HCA.out).mono ?_); rintro e w9 ⟨rfl, hb⟩)
 replace HBR := Lib.hid (HBR.out.below hb HBR.out.lt)
 replace HR := Lib.hid (HR.out.below hb)
 replace HA := Lib.hid (HA.out.next hb)
 replace HS := Lib.hid (HS.out.below hb)
 replace HT := Lib.hid (tre_below HT.out hb)
 replace HRD := Lib.hid (rdva_below HRD.out hb)
 replace HV := Lib.hid (HV.out.below hb HV.out.lt)
 replace HCA := Lib.hid (HCA.out.below hb)
 replace HER := Lib.hid (HER.out.below hb)
 replace HC := Lib.hid (HC.out.below hb HC.out.lt)
 replace HBB := Lib.hid (HBB.out.below hb HBB.out.lt)
 replace HER2 := Lib.hid (HER2.out.below hb)
 replace HB := Lib.hid (HB.out.trans (hb.mono HB.out.size))
 clear hb
 go_wp2_with fail
 ((with_reducible refine (lawTrail_nil 5 w9).mono ?_); rintro e w10 ⟨rfl, hb⟩)
 replace HBR := Lib.hid (HBR.out.below hb HBR.out.lt)
 replace HR := Lib.hid (HR.out.below hb)
 replace HA := Lib.hid (HA.out.next hb)
 replace HS := Lib.hid (HS.out.below hb)
 replace HT := Lib.hid (tre_below HT.out hb)
 replace HRD := Lib.hid (rdva_below HRD.out hb)
 replace HV := Lib.hid (HV.out.below hb HV.out.lt)
 replace HCA := Lib.hid (HCA.out.below hb)
 replace HER := Lib.hid (HER.out.below hb)
 replace HC := Lib.hid (HC.out.below hb HC.out.lt)
 replace HBB := Lib.hid (HBB.out.below hb HBB.out.lt)
 replace HER2 := Lib.hid (HER2.out.below hb)
 replace HB := Lib.hid (HB.out.trans (hb.mono HB.out.size))
 clear hb
 have b0 := HBB.out.cell 0
 simp at b0
 have b1 := HBB.out.lt
 go_wp2_with fail
 ((with_reducible refine (lawTrail_nil 5 w10).mono ?_); rintro e w11 ⟨rfl, hb⟩)
 have HB9 := Lib.hid (HB.out.trans (hb.mono HB.out.size))
 go_wp2
 go_ret
 exact ⟨rfl, HB9.out⟩
theorem reads_bad (r : R) (u1 u2 u3 : Value) (v : Value) (ss : List Stp) (w : World) (hR : RuAt w r u1 u2 u3) (hS : RdS w v ss) (hF : ∀ s ∈ ss, s.Fine) (hCn : ∀ s ∈ ss, s.Cnt) (hN : ss.length ≤ 1048576) (hA : TabP w) (t : Tr) (hbt : buildT ss = .inr t) (hs : (t.srt : Int) = 6) (hq : (readC t).2 ≠ []) :
  Calls Tryz.prog 3 #[v, .agg #[.int .i64 r.now, .int .i64 r.slack, .string ⟨r.who.toArray⟩, u1, u2, u3]] w (TrueC w) := by
 have q1 := err_ne_nil
 have q2 := err_ne_held
 have p1 := bk_eq
 have p2 := ptr_ne
 have p3 := tb_ok
 have p4 := tp_nn
 have p5 := tp_sn
 have p6 := vf_ne
 have HBT := Lib.hid hbt
 have HS6 := Lib.hid (And.intro hs hq)
 clear hs hq
 clear hbt
 have hba : Below w.heap.size w (w.alloc (.cells #[.int .i64 r.now, .int .i64 r.slack, .string ⟨r.who.toArray⟩, u1, u2, u3] 25)) := (Below.refl _ _).alloc (Nat.le_refl _) _
 have hbr := Blk.new w 25 #[.int .i64 r.now, .int .i64 r.slack, .string ⟨r.who.toArray⟩, u1, u2, u3]
 have HS := Lib.hid (hS.below hba)
 have HF := Lib.hid hF
 have HCN := Lib.hid hCn
 have HN := Lib.hid hN
 have HR := Lib.hid (hR.below hba)
 have HA := Lib.hid (hA.next hba)
 have HB := Lib.hid hba
 have HBR := Lib.hid hbr
 clear hR hS hF hCn hN hA hba hbr
 go_enter Tryz.func3, Tryz.ntmps3
 go_wp2_with fail
 generalize (w.alloc (.cells #[.int .i64 r.now, .int .i64 r.slack, .string ⟨r.who.toArray⟩, u1, u2, u3] 25)) = w1 at *
 ((with_reducible refine (build_all v ss _ HS.out HF.out).mono ?_); rintro e w2 ⟨hb, he⟩)
 rw [HBT.out] at he
 obtain ⟨g, rfl, hTA⟩ := he
 obtain ⟨_, hfit, tv, hblk, hrd0⟩ := hTA
 have HOK := Lib.hid (buildT_ok HF.out HBT.out)
 have hro0 : TreO w2 (some t) (.pointer (some ⟨g, 0, none⟩)) := .inr ⟨t, g, tv, rfl, rfl, hblk, RdT.toA hrd0, HOK.out⟩
 have HT := Lib.hid hro0
 clear hro0 hblk hrd0 hfit
 replace HBR := Lib.hid (HBR.out.below hb HBR.out.lt)
 replace HR := Lib.hid (HR.out.below hb)
 replace HA := Lib.hid (HA.out.next hb)
 replace HS := Lib.hid (HS.out.below hb)
 replace HB := Lib.hid (HB.out.trans (hb.mono HB.out.size))
 clear hb
 go_wp2_with fail
 ((with_reducible refine (value25_any v ss w2 HS.out HF.out HCN.out HN.out).mono ?_); rintro e w3 ⟨hb, he⟩)
 rw [HBT.out] at he
 dsimp only at he
 obtain ⟨A1, q1, A2, q2, rfl, hrd⟩ := he
 have HRD := Lib.hid hrd
 clear hrd
 unfold valV
 replace HBR := Lib.hid (HBR.out.below hb HBR.out.lt)
 replace HR := Lib.hid (HR.out.below hb)
 replace HA := Lib.hid (HA.out.next hb)
 replace HS := Lib.hid (HS.out.below hb)
 replace HT := Lib.hid (tre_below HT.out hb)
 replace HB := Lib.hid (HB.out.trans (hb.mono HB.out.size))
 clear hb
 have hb : Below w3.heap.size w3 (w3.alloc (.cells #[.int .i64 (t.srt : Nat), .bool t.fl, .int .u64 (t.bi : Nat), .string ⟨t.tx.toArray⟩, .slice A1 t.kids.length q1, .slice A2 t.kn.length q2] 34)) := (Below.refl _ _).alloc (Nat.le_refl _) _
 have HV := Lib.hid (Blk.new w3 34 #[.int .i64 (t.srt : Nat), .bool t.fl, .int .u64 (t.bi : Nat), .string ⟨t.tx.toArray⟩, .slice A1 t.kids.length q1, .slice A2 t.kn.length q2])
 replace HBR := Lib.hid (HBR.out.below hb HBR.out.lt)
 replace HR := Lib.hid (HR.out.below hb)
 replace HA := Lib.hid (HA.out.next hb)
 replace HS := Lib.hid (HS.out.below hb)
 replace HT := Lib.hid (tre_below HT.out hb)
 replace HRD := Lib.hid (rdva_below HRD.out hb)
 replace HB := Lib.hid (HB.out.trans (hb.mono HB.out.size))
 clear hb
 go_wp2_with fail
 generalize (w3.alloc (.cells #[.int .i64 (t.srt : Nat), .bool t.fl, .int .u64 (t.bi : Nat), .string ⟨t.tx.toArray⟩, .slice A1 t.kids.length q1, .slice A2 t.kn.length q2] 34)) = w4 at *
 ((with_reducible refine (readO_any (some t) _ w4 w4 HT.out (Below.refl _ _) HA.out).mono ?_); rintro e w5 ⟨⟨c, v0, v4, v7, er, rfl, hC, ho0, ho4, ho7, hEr⟩, hb⟩)
 obtain ⟨B0, r0, hv0⟩ := own_sliceP ho0
 subst hv0
 obtain ⟨B4, r4, hv4⟩ := own_sliceP ho4
 subst hv4
 obtain ⟨B7, r7, hv7⟩ := own_sliceP ho7
 subst hv7
 have hRO : readO (some t) = none := by
  unfold readO
  dsimp only
  rw [if_neg fun h => HS6.out.2 h.2]
 obtain ⟨rfl, hEO⟩ : c = cZero ∧ ErrO (some t) w4.heap.size w5 er := by
  rcases hEr with ⟨_, h⟩ | ⟨_, h1, h2⟩
  ·rw [hRO] at h
   cases h
  ·exact ⟨h1, h2⟩
 obtain ⟨T1, e1, hTe1⟩ := hEO.iface
 subst hTe1
 have HRO := Lib.hid hRO
 have HCA := Lib.hid hC
 have HER := Lib.hid hEO
 clear hEr ho0 ho4 ho7 hC hEO hRO
 unfold clCells
 replace HBR := Lib.hid (HBR.out.below hb HBR.out.lt)
 replace HR := Lib.hid (HR.out.below hb)
 replace HA := Lib.hid (HA.out.next hb)
 replace HS := Lib.hid (HS.out.below hb)
 replace HT := Lib.hid (tre_below HT.out hb)
 replace HRD := Lib.hid (rdva_below HRD.out hb)
 replace HV := Lib.hid (HV.out.below hb HV.out.lt)
 replace HB := Lib.hid (HB.out.trans (hb.mono HB.out.size))
 clear hb
 have hb : Below w5.heap.size w5 (w5.alloc (.cells #[.slice B0 cZero.has.length r0, .string ⟨cZero.about.toArray⟩, .int .i64 cZero.at_, .string ⟨cZero.by_.toArray⟩, .slice B4 cZero.for_.length r4, .int .i64 cZero.from_, .string ⟨cZero.id_.toArray⟩, .slice B7 cZero.may_.length r7, .int .i64 cZero.until_] 38)) := (Below.refl _ _).alloc (Nat.le_refl _) _
 have HC := Lib.hid (Blk.new w5 38 #[.slice B0 cZero.has.length r0, .string ⟨cZero.about.toArray⟩, .int .i64 cZero.at_, .string ⟨cZero.by_.toArray⟩, .slice B4 cZero.for_.length r4, .int .i64 cZero.from_, .string ⟨cZero.id_.toArray⟩, .slice B7 cZero.may_.length r7, .int .i64 cZero.until_])
 replace HBR := Lib.hid (HBR.out.below hb HBR.out.lt)
 replace HR := Lib.hid (HR.out.below hb)
 replace HA := Lib.hid (HA.out.next hb)
 replace HS := Lib.hid (HS.out.below hb)
 replace HT := Lib.hid (tre_below HT.out hb)
 replace HRD := Lib.hid (rdva_below HRD.out hb)
 replace HV := Lib.hid (HV.out.below hb HV.out.lt)
 replace HCA := Lib.hid (HCA.out.below hb)
 replace HER := Lib.hid (HER.out.below hb)
 replace HB := Lib.hid (HB.out.trans (hb.mono HB.out.size))
 clear hb
 have d0 := HBR.out.cell 0
 have d1 := HBR.out.cell 1
 have d2 := HBR.out.cell 2
 have d3 := HBR.out.cell 3
 have d4 := HBR.out.cell 4
 have d5 := HBR.out.cell 5
 simp at d0 d1 d2 d3 d4 d5
 go_wp2_with fail
 clear d0 d1 d2 d3 d4 d5
 generalize (w5.alloc (.cells #[.slice B0 cZero.has.length r0, .string ⟨cZero.about.toArray⟩, .int .i64 cZero.at_, .string ⟨cZero.by_.toArray⟩, .slice B4 cZero.for_.length r4, .int .i64 cZero.from_, .string ⟨cZero.id_.toArray⟩, .slice B7 cZero.may_.length r7, .int .i64 cZero.until_] 38)) = w6 at *
 ((with_reducible refine (tree_some t g r u1 u2 u3 w6 HT.out HR.out HA.out).mono ?_); rintro e w7 ⟨⟨vt, rfl, htv⟩, hb⟩)
 have hvv : ∃ b er, w6.heap.size ≤ b ∧ vt = .iface 44 (.pointer (some ⟨b, 0, none⟩)) ∧ Blk w7 b 52 #[er] ∧ ErrO (some t) w6.heap.size w7 er := by
  rcases htv with ⟨h, _⟩ | ⟨c'', h, h2⟩ | ⟨_, h, h3⟩
  ·cases h
  ·rw [HRO.out] at h
   cases h
  ·exact h3
 obtain ⟨gb, er2, hbb, rfl, hblk, hErr⟩ := hvv
 obtain ⟨T2, e2, hTe2⟩ := hErr.iface
 subst hTe2
 have HBB := Lib.hid hblk
 have HER2 := Lib.hid hErr
 clear htv hblk hErr
 replace HBR := Lib.hid (HBR.out.below hb HBR.out.lt)
 replace HR := Lib.hid (HR.out.below hb)
 replace HA := Lib.hid (HA.out.next hb)
 replace HS := Lib.hid (HS.out.below hb)
 replace HT := Lib.hid (tre_below HT.out hb)
 replace HRD := Lib.hid (rdva_below HRD.out hb)
 replace HV := Lib.hid (HV.out.below hb HV.out.lt)
 replace HCA := Lib.hid (HCA.out.below hb)
 replace HER := Lib.hid (HER.out.below hb)
 replace HC := Lib.hid (HC.out.below hb HC.out.lt)
 replace HB := Lib.hid (HB.out.trans (hb.mono HB.out.size))
 clear hb
 go_wp2_with fail
 ((with_reducible refine (wakes25_any _).mono ?_); rintro e w8 ⟨rfl, hb⟩)
 replace HBR := Lib.hid (HBR.out.below hb HBR.out.lt)
 replace HR := Lib.hid (HR.out.below hb)
 replace HA := Lib.hid (HA.out.next hb)
 replace HS := Lib.hid (HS.out.below hb)
 replace HT := Lib.hid (tre_below HT.out hb)
 replace HRD := Lib.hid (rdva_below HRD.out hb)
 replace HV := Lib.hid (HV.out.below hb HV.out.lt)
 replace HCA := Lib.hid (HCA.out.below hb)
 replace HER := Lib.hid (HER.out.below hb)
 replace HC := Lib.hid (HC.out.below hb HC.out.lt)
 replace HBB := Lib.hid (HBB.out.below hb HBB.out.lt)
 replace HER2 := Lib.hid (HER2.out.below hb)
 replace HB := Lib.hid (HB.out.trans (hb.mono HB.out.size))
 clear hb
 have v0 := HV.out.cell 0
 simp at v0
 have hs6 : ((t.srt : Int) != 6) = false := by simpa using HS6.out.1
 have he1 : ∃ va, Value.iface T1 e1 = .iface 98 va ∧ OwnE w4.heap.size w8 va (readC t).2 := by
  have h := HER.out
  unfold ErrO at h
  dsimp only at h
  rwa [if_pos HS6.out.1] at h
 have he2 : ∃ va, Value.iface T2 e2 = .iface 98 va ∧ OwnE w6.heap.size w8 va (readC t).2 := by
  have h := HER2.out
  unfold ErrO at h
  dsimp only at h
  rwa [if_pos HS6.out.1] at h
 obtain ⟨va1, he1, hoe1⟩ := he1
 obtain ⟨va2, he2, hoe2⟩ := he2
 injection he1 with e11 e12
 injection he2 with e21 e22
 subst e11 e12 e21 e22
 have HE1 := Lib.hid hoe1
 have HE2 := Lib.hid hoe2
 clear hoe1 hoe2
 have hlen : (readC t).2.length ≤ 8 := (readAt_len t 8 (Nat.le_refl _)).2
 have hpos : 0 < (readC t).2.length := List.length_pos_iff.mpr HS6.out.2
 obtain ⟨q, hq⟩ : ∃ q, (readC t).2 = q := ⟨_, rfl⟩
 have HQ := Lib.hid hq
 rw [hq] at HE1 HE2 hlen hpos
 clear hq
 have v1 := HV.out.cell 1
 have v2 := HV.out.cell 2
 have v3 := HV.out.cell 3
 have v4 := HV.out.cell 4
 have v5 := HV.out.cell 5
 simp at v1 v2 v3 v4 v5
 go_wp2_with fail
 clear v0 v1 v2 v3 v4 v5
 ((with_reducible refine (refRead25_any t A1 q1 A2 q2 w8 HRD.out HOK.out.1 HOK.out.2 HS6.out.1).mono ?_); rintro e w9 ⟨⟨x, n, l, v15, rfl, hl1, how, hDC⟩, hb⟩)
 rw [HQ.out] at how
 obtain ⟨A15, q15, hv15⟩ := own_slice how
 subst hv15
 have HOW := Lib.hid how
 clear how hDC
 replace HE1 := Lib.hid (own_below HE1.out hb)
 replace HE2 := Lib.hid (own_below HE2.out hb)
 replace HBR := Lib.hid (HBR.out.below hb HBR.out.lt)
 replace HR := Lib.hid (HR.out.below hb)
 replace HA := Lib.hid (HA.out.next hb)
 replace HS := Lib.hid (HS.out.below hb)
 replace HT := Lib.hid (tre_below HT.out hb)
 replace HRD := Lib.hid (rdva_below HRD.out hb)
 replace HV := Lib.hid (HV.out.below hb HV.out.lt)
 replace HCA := Lib.hid (HCA.out.below hb)
 replace HER := Lib.hid (HER.out.below hb)
 replace HC := Lib.hid (HC.out.below hb HC.out.lt)
 replace HBB := Lib.hid (HBB.out.below hb HBB.out.lt)
 replace HER2 := Lib.hid (HER2.out.below hb)
 replace HB := Lib.hid (HB.out.trans (hb.mono HB.out.size))
 clear hb
 have hZ := Blk.new w9 58 zero32
 have hone := rCells_one (b := thereT t) (x := x) (n := n) hl1
 have hzs : (rCells (thereT t) x n l).size = (zero32 : Array Value).size := rfl
 have hzi : (Tryz.prog.info? 58).map (·.size) = some (rCells (thereT t) x n l).size := by kernel_rfl
 generalize rCells (thereT t) x n l = ds at *
 go_upto_region 13 with (refine wpList_store_row rfl 58 (.tmp 14) (.tmp 101) rfl w9.heap.size 58 zero32 ds rfl rfl hZ hzs hone hzi rfl ?_)
 have hZ2 : Blk (putCells (w9.alloc (.cells zero32 58)) w9.heap.size ds.toList 0) w9.heap.size 58 ds := blk_stored9 hZ hzs
 have hb : Below w9.heap.size w9 (putCells (w9.alloc (.cells zero32 58)) w9.heap.size ds.toList 0) := putCells_below (Nat.le_refl _) _ _ _ _ ((Below.refl _ _).alloc (Nat.le_refl _) _)
 have HW := Lib.hid hZ2
 clear hZ hone hzs hzi hZ2 hl1
 generalize putCells (w9.alloc (.cells zero32 58)) w9.heap.size ds.toList 0 = w10 at *
 replace HE1 := Lib.hid (own_below HE1.out hb)
 replace HE2 := Lib.hid (own_below HE2.out hb)
 replace HOW := Lib.hid (own_below HOW.out hb)
 replace HBR := Lib.hid (HBR.out.below hb HBR.out.lt)
 replace HR := Lib.hid (HR.out.below hb)
 replace HA := Lib.hid (HA.out.next hb)
 replace HS := Lib.hid (HS.out.below hb)
 replace HT := Lib.hid (tre_below HT.out hb)
 replace HRD := Lib.hid (rdva_below HRD.out hb)
 replace HV := Lib.hid (HV.out.below hb HV.out.lt)
 replace HCA := Lib.hid (HCA.out.below hb)
 replace HER := Lib.hid (HER.out.below hb)
 replace HC := Lib.hid (HC.out.below hb HC.out.lt)
 replace HBB := Lib.hid (HBB.out.below hb HBB.out.lt)
 replace HER2 := Lib.hid (HER2.out.below hb)
 replace HB := Lib.hid (HB.out.trans (hb.mono HB.out.size))
 clear hb
 obtain ⟨c0, c1, c2, c3, c4, c5, c6, c7, c8⟩ := C9 HC.out
 go_wp2_with fail
 clear c0 c1 c2 c3 c4 c5 c6 c7 c8
 ((with_reducible refine (same25_zero (d := cZero) rfl _ _ _ w10 HCA.out).mono ?_); rintro e w11 ⟨rfl, hb⟩)
 replace HE1 := Lib.hid (own_below HE1.out hb)
 replace HE2 := Lib.hid (own_below HE2.out hb)
 replace HOW := Lib.hid (own_below HOW.out hb)
 replace HBR := Lib.hid (HBR.out.below hb HBR.out.lt)
 replace HR := Lib.hid (HR.out.below hb)
 replace HA := Lib.hid (HA.out.next hb)
 replace HS := Lib.hid (HS.out.below hb)
 replace HT := Lib.hid (tre_below HT.out hb)
 replace HRD := Lib.hid (rdva_below HRD.out hb)
 replace HV := Lib.hid (HV.out.below hb HV.out.lt)
 replace HCA := Lib.hid (HCA.out.below hb)
 replace HER := Lib.hid (HER.out.below hb)
 replace HC := Lib.hid (HC.out.below hb HC.out.lt)
 replace HBB := Lib.hid (HBB.out.below hb HBB.out.lt)
 replace HER2 := Lib.hid (HER2.out.below hb)
 replace HB := Lib.hid (HB.out.trans (hb.mono HB.out.size))
 clear hb
 go_wp2_with fail
 ((with_reducible refine (trails25_any _ _ _ _ q w11 HE1.out HOW.out (by omega)).mono ?_); rintro e w12 ⟨rfl, hb⟩)
 replace HE1 := Lib.hid (own_below HE1.out hb)
 replace HE2 := Lib.hid (own_below HE2.out hb)
 replace HOW := Lib.hid (own_below HOW.out hb)
 replace HBR := Lib.hid (HBR.out.below hb HBR.out.lt)
 replace HR := Lib.hid (HR.out.below hb)
 replace HA := Lib.hid (HA.out.next hb)
 replace HS := Lib.hid (HS.out.below hb)
 replace HT := Lib.hid (tre_below HT.out hb)
 replace HRD := Lib.hid (rdva_below HRD.out hb)
 replace HV := Lib.hid (HV.out.below hb HV.out.lt)
 replace HCA := Lib.hid (HCA.out.below hb)
 replace HER := Lib.hid (HER.out.below hb)
 replace HC := Lib.hid (HC.out.below hb HC.out.lt)
 replace HBB := Lib.hid (HBB.out.below hb HBB.out.lt)
 replace HER2 := Lib.hid (HER2.out.below hb)
 replace HB := Lib.hid (HB.out.trans (hb.mono HB.out.size))
 clear hb
 have b0 := HBB.out.cell 0
 simp at b0
 have b1 := HBB.out.lt
 go_wp2_with fail
 ((with_reducible refine (trails25_any _ _ _ _ q w12 HE2.out HOW.out (by omega)).mono ?_); rintro e w13 ⟨rfl, hb⟩)
 have HB9 := Lib.hid (HB.out.trans (hb.mono HB.out.size))
 go_wp2
 go_ret
 exact ⟨rfl, HB9.out⟩
end Nd
end Go.Proofs.YtobaldkipnhlpaaGreatDoor
