/-
  The law ClaimsAsserts: its walk.
-/
import Derived.Test.YtbcckpnngonoeaaGreatDoorCsD
import Derived.Test.YtbcckpnngonoeaaGreatDoorCsG
import Derived.Test.YtbcckpnngonoeaaGreatDoorCvT
import Derived.Test.YtbcckpnngonoeaaGreatDoorGF
namespace Go.Proofs.YtbcckpnngonoeaaGreatDoor
open Go.RowKit Mem Utf Ref3 Idx Tok TokC Cl
set_option linter.unusedVariables false
set_option linter.unusedSimpArgs false
namespace Nd
theorem tnb_Holds (v : Value) (w : World) : (Instr.typeAssert (.iface 110 v) 34 42 true).run Tryz.prog w = .ok (.tuple #[.pointer none, .bool false]) w := by kernel_rfl
theorem tnb_Early (v : Value) (w : World) : (Instr.typeAssert (.iface 125 v) 34 42 true).run Tryz.prog w = .ok (.tuple #[.pointer none, .bool false]) w := by kernel_rfl
theorem tnb_Over (v : Value) (w : World) : (Instr.typeAssert (.iface 112 v) 34 42 true).run Tryz.prog w = .ok (.tuple #[.pointer none, .bool false]) w := by kernel_rfl
theorem tnb_Lacks (v : Value) (w : World) : (Instr.typeAssert (.iface 127 v) 34 42 true).run Tryz.prog w = .ok (.tuple #[.pointer none, .bool false]) w := by kernel_rfl
theorem tnb_Alien (v : Value) (w : World) : (Instr.typeAssert (.iface 129 v) 34 42 true).run Tryz.prog w = .ok (.tuple #[.pointer none, .bool false]) w := by kernel_rfl
theorem tnb_Other (v : Value) (w : World) : (Instr.typeAssert (.iface 131 v) 34 42 true).run Tryz.prog w = .ok (.tuple #[.pointer none, .bool false]) w := by kernel_rfl
theorem tnb_Barred (v : Value) (w : World) : (Instr.typeAssert (.iface 133 v) 34 42 true).run Tryz.prog w = .ok (.tuple #[.pointer none, .bool false]) w := by kernel_rfl
theorem pb_en (w : World) : (binOp .eql 42 (.pointer none) (.pointer none)).run Tryz.prog w = .ok (.bool true) w := by kernel_rfl
theorem interf_any {B : Nat} {v : Value} {x : Verd} {w0 : World} (w : World) (h : VerdV B w0 v x) (h7 : x.kind ≤ 7) : Calls Tryz.prog 11 #[v] w (TruP w) := by
  obtain ⟨k, t, s, l⟩ := x
  simp only [] at h7
  have h8 : k = 0 ∨ k = 1 ∨ k = 2 ∨ k = 3 ∨ k = 4 ∨ k = 5 ∨ k = 6 ∨ k = 7 := by omega
  unfold VerdV at h
  rcases h8 with rfl | rfl | rfl | rfl | rfl | rfl | rfl | rfl <;> simp only [] at h
  · obtain ⟨b, _, rfl, _⟩ := h
    exact interf_Broken _ w
  · subst h
    exact interf_Holds _ w
  · subst h
    exact interf_Early _ w
  · subst h
    exact interf_Over _ w
  · subst h
    exact interf_Lacks _ w
  · subst h
    exact interf_Alien _ w
  · obtain ⟨y, rfl, _⟩ := h
    exact interf_Other _ w
  · obtain ⟨y, rfl, _⟩ := h
    exact interf_Barred _ w
theorem verd_notb {B : Nat} {w : World} {v : Value} {x : Verd} (h : VerdV B w v x) (h7 : x.kind ≤ 7) (hk : x.kind ≠ 0) (W : World) :
    (Instr.typeAssert v 34 42 true).run Tryz.prog W = .ok (.tuple #[.pointer none, .bool false]) W := by
  obtain ⟨k, t, s, l⟩ := x
  simp only [] at hk h7
  have h8 : k = 1 ∨ k = 2 ∨ k = 3 ∨ k = 4 ∨ k = 5 ∨ k = 6 ∨ k = 7 := by omega
  unfold VerdV at h
  rcases h8 with rfl | rfl | rfl | rfl | rfl | rfl | rfl <;> simp only [] at h
  · subst h
    exact tnb_Holds _ W
  · subst h
    exact tnb_Early _ W
  · subst h
    exact tnb_Over _ W
  · subst h
    exact tnb_Lacks _ W
  · subst h
    exact tnb_Alien _ W
  · obtain ⟨y, rfl, _⟩ := h
    exact tnb_Other _ W
  · obtain ⟨y, rfl, _⟩ := h
    exact tnb_Barred _ W
theorem verd_broken {B : Nat} {w : World} {v : Value} {x : Verd} (h : VerdV B w v x) (hk : x.kind = 0) : ∃ b, B ≤ b ∧ v = .iface 42 (.pointer (some ⟨b, 0, none⟩)) ∧ Blk w b 50 #[.iface 46 (.int .i64 2)] := by
  unfold VerdV at h
  rw [hk] at h
  exact h
theorem one_cls {w : World} {g : Nat} {c : C} {v0 v4 v7 : Value} (h : Blk w g 24 #[v0, .string ⟨c.about.toArray⟩, .int .i64 c.at_, .string ⟨c.by_.toArray⟩, v4, .int .i64 c.from_, .string ⟨c.id_.toArray⟩, v7, .int .i64 c.until_]) (hC : ClAt w c v0 v4 v7) : ClsAt w (some ⟨g, 0, none⟩) [c] := by
  intro j hj
  obtain rfl : j = 0 := by simpa using hj
  obtain ⟨c0, c1, c2, c3, c4, c5, c6, c7, c8⟩ := C9 h
  exact ⟨g, 0, v0, v4, v7, rfl, h.lt, ⟨c0, c1, c2, c3, c4, c5, c6, c7, c8⟩, hC⟩
theorem worst_one (c : C) (r : R) (g : Nat) (v0 v4 v7 u1 u2 u3 : Value) (w : World) (h : Blk w g 24 #[v0, .string ⟨c.about.toArray⟩, .int .i64 c.at_, .string ⟨c.by_.toArray⟩, v4, .int .i64 c.from_, .string ⟨c.id_.toArray⟩, v7, .int .i64 c.until_]) (hC : ClAt w c v0 v4 v7) (hr : RuAt w r u1 u2 u3) :
    Calls Tryz.prog 9 #[.slice (some ⟨g, 0, none⟩) 1 1, .agg #[.int .i64 r.now, .int .i64 r.slack, .string ⟨r.who.toArray⟩, u1, u2, u3]] w (WorstP [c] r w) :=
  worst_any [c] r (some ⟨g, 0, none⟩) 1 u1 u2 u3 w (one_cls h hC) (by simp) hr
theorem worstP_kind (c : C) (r : R) : (worstP r [c]).1.kind ≤ 7 := by
  have h := judgeP_kind c r
  by_cases hk : (judgeP c r).kind = 1
  · simp [worstP, worstK, hk]
  · simp [worstP, worstK, hk]
    exact h
/-- what errors.As is asked of: the error of a tree that is not read -/
theorem erro_all {t : Tr} {B : Nat} {w : World} {er : Value} (hro : readO (some t) = none) (h : ErrO (some t) B w er) :
    (∃ u y l, er = .iface 145 u ∧ OwnE B w u (y :: l) ∧ (y :: l).length ≤ 8) ∨ er = tlV (5, []) := by
  unfold ErrO at h
  dsimp only at h
  split at h
  · rename_i hs
    obtain ⟨va, h, ho⟩ := h
    have hne : (readC t).2 ≠ [] := by
      intro he
      unfold readO at hro
      dsimp only at hro
      rw [if_pos ⟨hs, he⟩] at hro
      cases hro
    have hlen : (readC t).2.length ≤ 8 := (readAt_len t 8 (Nat.le_refl _)).2
    generalize (readC t).2 = l at *
    cases l with
    | nil => exact absurd rfl hne
    | cons y l => exact .inl ⟨va, y, l, h, ho, hlen⟩
  · exact .inr h
set_option maxRecDepth 100000 in
set_option maxHeartbeats 16000000 in
theorem asserts_no (c : C) (r : R) (v0 v4 v7 u1 u2 u3 : Value) (v : Value) (ss : List Stp) (w : World) (hC : ClAt w c v0 v4 v7) (hR : RuAt w r u1 u2 u3) (hS : RdS w v ss) (hF : ∀ s ∈ ss, s.Fine) (hA : TabP w) (hg : w.cell? ⟨0, 0, none⟩ = some (.iface 236 (.agg #[.pointer (some ⟨5, 30, none⟩)]))) (n i : Int) (hbt : buildT ss = .inl (n, i)) :
    Calls Tryz.prog 3 #[.agg #[v0, .string ⟨c.about.toArray⟩, .int .i64 c.at_, .string ⟨c.by_.toArray⟩, v4, .int .i64 c.from_, .string ⟨c.id_.toArray⟩, v7, .int .i64 c.until_], v, .agg #[.int .i64 r.now, .int .i64 r.slack, .string ⟨r.who.toArray⟩, u1, u2, u3]] w (TruP w) := by
  have q1 := err_ne_nil
  have q2 := err_ne_held
  have q3 := err_eq_nil
  have q4 := err_eq_held
  have p1 := pb_en
  have p2 := ptr_ne
  have p3 := tb_ok
  have HBT := Lib.hid hbt
  clear hbt
  have hba : Below w.heap.size w ((w.alloc (.cells #[v0, .string ⟨c.about.toArray⟩, .int .i64 c.at_, .string ⟨c.by_.toArray⟩, v4, .int .i64 c.from_, .string ⟨c.id_.toArray⟩, v7, .int .i64 c.until_] 24)).alloc (.cells #[.int .i64 r.now, .int .i64 r.slack, .string ⟨r.who.toArray⟩, u1, u2, u3] 27)) := ((Below.refl _ _).alloc (Nat.le_refl _) _).alloc (by simp) _
  have hbc : Blk ((w.alloc (.cells #[v0, .string ⟨c.about.toArray⟩, .int .i64 c.at_, .string ⟨c.by_.toArray⟩, v4, .int .i64 c.from_, .string ⟨c.id_.toArray⟩, v7, .int .i64 c.until_] 24)).alloc (.cells #[.int .i64 r.now, .int .i64 r.slack, .string ⟨r.who.toArray⟩, u1, u2, u3] 27)) w.heap.size 24 #[v0, .string ⟨c.about.toArray⟩, .int .i64 c.at_, .string ⟨c.by_.toArray⟩, v4, .int .i64 c.from_, .string ⟨c.id_.toArray⟩, v7, .int .i64 c.until_] := (Blk.new w 24 #[v0, .string ⟨c.about.toArray⟩, .int .i64 c.at_, .string ⟨c.by_.toArray⟩, v4, .int .i64 c.from_, .string ⟨c.id_.toArray⟩, v7, .int .i64 c.until_]).alloc _
  have hbr : Blk ((w.alloc (.cells #[v0, .string ⟨c.about.toArray⟩, .int .i64 c.at_, .string ⟨c.by_.toArray⟩, v4, .int .i64 c.from_, .string ⟨c.id_.toArray⟩, v7, .int .i64 c.until_] 24)).alloc (.cells #[.int .i64 r.now, .int .i64 r.slack, .string ⟨r.who.toArray⟩, u1, u2, u3] 27)) (w.heap.size + 1) 27 #[.int .i64 r.now, .int .i64 r.slack, .string ⟨r.who.toArray⟩, u1, u2, u3] := by
    have := Blk.new (w.alloc (.cells #[v0, .string ⟨c.about.toArray⟩, .int .i64 c.at_, .string ⟨c.by_.toArray⟩, v4, .int .i64 c.from_, .string ⟨c.id_.toArray⟩, v7, .int .i64 c.until_] 24)) 27 #[.int .i64 r.now, .int .i64 r.slack, .string ⟨r.who.toArray⟩, u1, u2, u3]
    rwa [World.size_alloc] at this
  have hsz0 : ((w.alloc (.cells #[v0, .string ⟨c.about.toArray⟩, .int .i64 c.at_, .string ⟨c.by_.toArray⟩, v4, .int .i64 c.from_, .string ⟨c.id_.toArray⟩, v7, .int .i64 c.until_] 24)).alloc (.cells #[.int .i64 r.now, .int .i64 r.slack, .string ⟨r.who.toArray⟩, u1, u2, u3] 27)).heap.size = w.heap.size + 2 := by simp
  have HS := Lib.hid (hS.below hba)
  have HF := Lib.hid hF
  have HC := Lib.hid (hC.below hba)
  have HR := Lib.hid (hR.below hba)
  have HA := Lib.hid (hA.next hba)
  have HG := Lib.hid (And.intro hg (World.block_lt_of_cell? _ _ hg))
  have HB := Lib.hid hba
  have HBC := Lib.hid hbc
  have HBR := Lib.hid hbr
  clear hC hR hS hF hA hg hba hbc hbr
  go_enter Tryz.func3, Tryz.ntmps3
  go_wp2_with fail
  generalize ((w.alloc (.cells #[v0, .string ⟨c.about.toArray⟩, .int .i64 c.at_, .string ⟨c.by_.toArray⟩, v4, .int .i64 c.from_, .string ⟨c.id_.toArray⟩, v7, .int .i64 c.until_] 24)).alloc (.cells #[.int .i64 r.now, .int .i64 r.slack, .string ⟨r.who.toArray⟩, u1, u2, u3] 27)) = w1 at *
  ((with_reducible refine (build_all v ss _ HS.out HF.out).mono ?_); rintro e w2 ⟨hb, he⟩)
  rw [HBT.out] at he
  obtain ⟨T, u, hTu⟩ := sp_form n i
  dsimp only at he
  rw [hTu] at he
  obtain rfl := he
  clear hTu
  replace HBC := Lib.hid (HBC.out.below hb HBC.out.lt)
  replace HBR := Lib.hid (HBR.out.below hb HBR.out.lt)
  replace HC := Lib.hid (HC.out.below hb)
  replace HR := Lib.hid (HR.out.below hb)
  replace HA := Lib.hid (HA.out.next hb)
  replace HB := Lib.hid (HB.out.trans (hb.mono HB.out.size))
  clear hb
  have d0 := HBR.out.cell 0
  have d1 := HBR.out.cell 1
  have d2 := HBR.out.cell 2
  have d3 := HBR.out.cell 3
  have d4 := HBR.out.cell 4
  have d5 := HBR.out.cell 5
  simp at d0 d1 d2 d3 d4 d5
  go_wp2_with fail
  clear d0 d1 d2 d3 d4 d5
  ((with_reducible refine (tree_none r u1 u2 u3 w2).mono ?_); rintro e w3 ⟨⟨vt, rfl, htv⟩, hb⟩)
  obtain ⟨_, rfl⟩ : True ∧ vt = .iface 42 (.pointer none) := by
    rcases htv with ⟨_, h⟩ | ⟨c', h, _⟩ | ⟨h, _⟩
    · exact ⟨trivial, h⟩
    · cases h
    · exact absurd rfl h
  clear htv
  replace HBC := Lib.hid (HBC.out.below hb HBC.out.lt)
  replace HBR := Lib.hid (HBR.out.below hb HBR.out.lt)
  replace HC := Lib.hid (HC.out.below hb)
  replace HR := Lib.hid (HR.out.below hb)
  replace HA := Lib.hid (HA.out.next hb)
  replace HB := Lib.hid (HB.out.trans (hb.mono HB.out.size))
  clear hb
  obtain ⟨c0, c1, c2, c3, c4, c5, c6, c7, c8⟩ := C9 HBC.out
  have hb : Below w3.heap.size w3 (w3.alloc (.cells #[v0, .string ⟨c.about.toArray⟩, .int .i64 c.at_, .string ⟨c.by_.toArray⟩, v4, .int .i64 c.from_, .string ⟨c.id_.toArray⟩, v7, .int .i64 c.until_] 24)) := (Below.refl _ _).alloc (Nat.le_refl _) _
  have HN := Lib.hid (Blk.new w3 24 #[v0, .string ⟨c.about.toArray⟩, .int .i64 c.at_, .string ⟨c.by_.toArray⟩, v4, .int .i64 c.from_, .string ⟨c.id_.toArray⟩, v7, .int .i64 c.until_])
  replace HBC := Lib.hid (HBC.out.below hb HBC.out.lt)
  replace HBR := Lib.hid (HBR.out.below hb HBR.out.lt)
  replace HC := Lib.hid (HC.out.below hb)
  replace HR := Lib.hid (HR.out.below hb)
  replace HA := Lib.hid (HA.out.next hb)
  replace HB := Lib.hid (HB.out.trans (hb.mono HB.out.size))
  clear hb
  have d0 := HBR.out.cell 0
  have d1 := HBR.out.cell 1
  have d2 := HBR.out.cell 2
  have d3 := HBR.out.cell 3
  have d4 := HBR.out.cell 4
  have d5 := HBR.out.cell 5
  simp at d0 d1 d2 d3 d4 d5
  go_wp2_with fail
  clear d0 d1 d2 d3 d4 d5
  clear c0 c1 c2 c3 c4 c5 c6 c7 c8
  generalize (w3.alloc (.cells #[v0, .string ⟨c.about.toArray⟩, .int .i64 c.at_, .string ⟨c.by_.toArray⟩, v4, .int .i64 c.from_, .string ⟨c.id_.toArray⟩, v7, .int .i64 c.until_] 24)) = w4 at *
  ((with_reducible refine (worst_one c r w3.heap.size v0 v4 v7 u1 u2 u3 w4 HN.out HC.out HR.out).mono ?_); rintro e w5 ⟨vw, rfl, hvw, hb⟩)
  have HVW := Lib.hid hvw
  clear hvw
  replace HBC := Lib.hid (HBC.out.below hb HBC.out.lt)
  replace HBR := Lib.hid (HBR.out.below hb HBR.out.lt)
  replace HC := Lib.hid (HC.out.below hb)
  replace HR := Lib.hid (HR.out.below hb)
  replace HA := Lib.hid (HA.out.next hb)
  replace HB := Lib.hid (HB.out.trans (hb.mono HB.out.size))
  clear hb
  go_wp2_with fail
  ((with_reducible refine (wakes25_any _).mono ?_); rintro e w6 ⟨rfl, hb⟩)
  replace HBC := Lib.hid (HBC.out.below hb HBC.out.lt)
  replace HBR := Lib.hid (HBR.out.below hb HBR.out.lt)
  replace HC := Lib.hid (HC.out.below hb)
  replace HR := Lib.hid (HR.out.below hb)
  replace HA := Lib.hid (HA.out.next hb)
  replace HB := Lib.hid (HB.out.trans (hb.mono HB.out.size))
  clear hb
  have d0 := HBR.out.cell 0
  have d1 := HBR.out.cell 1
  have d2 := HBR.out.cell 2
  have d3 := HBR.out.cell 3
  have d4 := HBR.out.cell 4
  have d5 := HBR.out.cell 5
  simp at d0 d1 d2 d3 d4 d5
  obtain ⟨c0, c1, c2, c3, c4, c5, c6, c7, c8⟩ := C9 HBC.out
  go_wp2_with fail
  clear d0 d1 d2 d3 d4 d5
  clear c0 c1 c2 c3 c4 c5 c6 c7 c8
  ((with_reducible refine (judge_any c r v0 v4 v7 u1 u2 u3 w6 HC.out HR.out).mono ?_); rintro e w7 ⟨vj, rfl, hvj, hb⟩)
  have HVJ := Lib.hid hvj
  clear hvj
  replace HBC := Lib.hid (HBC.out.below hb HBC.out.lt)
  replace HBR := Lib.hid (HBR.out.below hb HBR.out.lt)
  replace HC := Lib.hid (HC.out.below hb)
  replace HR := Lib.hid (HR.out.below hb)
  replace HA := Lib.hid (HA.out.next hb)
  replace HB := Lib.hid (HB.out.trans (hb.mono HB.out.size))
  clear hb
  go_wp2_with fail
  ((with_reducible refine (interf_any w7 HVJ.out (judgeP_kind c r)).mono ?_); rintro e w8 ⟨rfl, hb⟩)
  replace HBC := Lib.hid (HBC.out.below hb HBC.out.lt)
  replace HBR := Lib.hid (HBR.out.below hb HBR.out.lt)
  replace HC := Lib.hid (HC.out.below hb)
  replace HR := Lib.hid (HR.out.below hb)
  replace HA := Lib.hid (HA.out.next hb)
  replace HB := Lib.hid (HB.out.trans (hb.mono HB.out.size))
  clear hb
  go_wp2_with fail
  ((with_reducible refine (interf_Broken _ w8).mono ?_); rintro e w9 ⟨rfl, hb⟩)
  replace HBC := Lib.hid (HBC.out.below hb HBC.out.lt)
  replace HBR := Lib.hid (HBR.out.below hb HBR.out.lt)
  replace HC := Lib.hid (HC.out.below hb)
  replace HR := Lib.hid (HR.out.below hb)
  replace HA := Lib.hid (HA.out.next hb)
  replace HB := Lib.hid (HB.out.trans (hb.mono HB.out.size))
  clear hb
  go_wp2_with fail
  ((with_reducible refine (interf_any w9 HVW.out (worstP_kind c r)).mono ?_); rintro e w10 ⟨rfl, hb⟩)
  replace HBC := Lib.hid (HBC.out.below hb HBC.out.lt)
  replace HBR := Lib.hid (HBR.out.below hb HBR.out.lt)
  replace HC := Lib.hid (HC.out.below hb)
  replace HR := Lib.hid (HR.out.below hb)
  replace HA := Lib.hid (HA.out.next hb)
  replace HB := Lib.hid (HB.out.trans (hb.mono HB.out.size))
  clear hb
  go_wp2
  go_ret
  exact ⟨rfl, HB.out⟩
set_option maxRecDepth 100000 in
set_option maxHeartbeats 16000000 in
theorem asserts_verd (c : C) (r : R) (v0 v4 v7 u1 u2 u3 : Value) (v : Value) (ss : List Stp) (w : World) (hC : ClAt w c v0 v4 v7) (hR : RuAt w r u1 u2 u3) (hS : RdS w v ss) (hF : ∀ s ∈ ss, s.Fine) (hA : TabP w) (hg : w.cell? ⟨0, 0, none⟩ = some (.iface 236 (.agg #[.pointer (some ⟨5, 30, none⟩)]))) (t : Tr) (hbt : buildT ss = .inr t) (c' : C) (hro : readO (some t) = some c') (hk : (judgeP c' r).kind ≠ 0) :
    Calls Tryz.prog 3 #[.agg #[v0, .string ⟨c.about.toArray⟩, .int .i64 c.at_, .string ⟨c.by_.toArray⟩, v4, .int .i64 c.from_, .string ⟨c.id_.toArray⟩, v7, .int .i64 c.until_], v, .agg #[.int .i64 r.now, .int .i64 r.slack, .string ⟨r.who.toArray⟩, u1, u2, u3]] w (TruP w) := by
  have q1 := err_ne_nil
  have q2 := err_ne_held
  have q3 := err_eq_nil
  have q4 := err_eq_held
  have p1 := pb_en
  have p2 := ptr_ne
  have p3 := tb_ok
  have HBT := Lib.hid hbt
  have HRO := Lib.hid (And.intro hro hk)
  clear hbt hro hk
  have hba : Below w.heap.size w ((w.alloc (.cells #[v0, .string ⟨c.about.toArray⟩, .int .i64 c.at_, .string ⟨c.by_.toArray⟩, v4, .int .i64 c.from_, .string ⟨c.id_.toArray⟩, v7, .int .i64 c.until_] 24)).alloc (.cells #[.int .i64 r.now, .int .i64 r.slack, .string ⟨r.who.toArray⟩, u1, u2, u3] 27)) := ((Below.refl _ _).alloc (Nat.le_refl _) _).alloc (by simp) _
  have hbc : Blk ((w.alloc (.cells #[v0, .string ⟨c.about.toArray⟩, .int .i64 c.at_, .string ⟨c.by_.toArray⟩, v4, .int .i64 c.from_, .string ⟨c.id_.toArray⟩, v7, .int .i64 c.until_] 24)).alloc (.cells #[.int .i64 r.now, .int .i64 r.slack, .string ⟨r.who.toArray⟩, u1, u2, u3] 27)) w.heap.size 24 #[v0, .string ⟨c.about.toArray⟩, .int .i64 c.at_, .string ⟨c.by_.toArray⟩, v4, .int .i64 c.from_, .string ⟨c.id_.toArray⟩, v7, .int .i64 c.until_] := (Blk.new w 24 #[v0, .string ⟨c.about.toArray⟩, .int .i64 c.at_, .string ⟨c.by_.toArray⟩, v4, .int .i64 c.from_, .string ⟨c.id_.toArray⟩, v7, .int .i64 c.until_]).alloc _
  have hbr : Blk ((w.alloc (.cells #[v0, .string ⟨c.about.toArray⟩, .int .i64 c.at_, .string ⟨c.by_.toArray⟩, v4, .int .i64 c.from_, .string ⟨c.id_.toArray⟩, v7, .int .i64 c.until_] 24)).alloc (.cells #[.int .i64 r.now, .int .i64 r.slack, .string ⟨r.who.toArray⟩, u1, u2, u3] 27)) (w.heap.size + 1) 27 #[.int .i64 r.now, .int .i64 r.slack, .string ⟨r.who.toArray⟩, u1, u2, u3] := by
    have := Blk.new (w.alloc (.cells #[v0, .string ⟨c.about.toArray⟩, .int .i64 c.at_, .string ⟨c.by_.toArray⟩, v4, .int .i64 c.from_, .string ⟨c.id_.toArray⟩, v7, .int .i64 c.until_] 24)) 27 #[.int .i64 r.now, .int .i64 r.slack, .string ⟨r.who.toArray⟩, u1, u2, u3]
    rwa [World.size_alloc] at this
  have hsz0 : ((w.alloc (.cells #[v0, .string ⟨c.about.toArray⟩, .int .i64 c.at_, .string ⟨c.by_.toArray⟩, v4, .int .i64 c.from_, .string ⟨c.id_.toArray⟩, v7, .int .i64 c.until_] 24)).alloc (.cells #[.int .i64 r.now, .int .i64 r.slack, .string ⟨r.who.toArray⟩, u1, u2, u3] 27)).heap.size = w.heap.size + 2 := by simp
  have HS := Lib.hid (hS.below hba)
  have HF := Lib.hid hF
  have HC := Lib.hid (hC.below hba)
  have HR := Lib.hid (hR.below hba)
  have HA := Lib.hid (hA.next hba)
  have HG := Lib.hid (And.intro hg (World.block_lt_of_cell? _ _ hg))
  have HB := Lib.hid hba
  have HBC := Lib.hid hbc
  have HBR := Lib.hid hbr
  clear hC hR hS hF hA hg hba hbc hbr
  go_enter Tryz.func3, Tryz.ntmps3
  go_wp2_with fail
  generalize ((w.alloc (.cells #[v0, .string ⟨c.about.toArray⟩, .int .i64 c.at_, .string ⟨c.by_.toArray⟩, v4, .int .i64 c.from_, .string ⟨c.id_.toArray⟩, v7, .int .i64 c.until_] 24)).alloc (.cells #[.int .i64 r.now, .int .i64 r.slack, .string ⟨r.who.toArray⟩, u1, u2, u3] 27)) = w1 at *
  ((with_reducible refine (build_all v ss _ HS.out HF.out).mono ?_); rintro e w2 ⟨hb, he⟩)
  rw [HBT.out] at he
  obtain ⟨g, rfl, hTA⟩ := he
  obtain ⟨_, hfit, tv, hblk, hrd0⟩ := hTA
  have hro0 : TreO w2 (some t) (.pointer (some ⟨g, 0, none⟩)) := .inr ⟨t, g, tv, rfl, rfl, hblk, RdT.toA hrd0, (buildT_ok HF.out HBT.out).1, hfit⟩
  have HT := Lib.hid hro0
  clear hro0 hblk hrd0 hfit
  replace HBC := Lib.hid (HBC.out.below hb HBC.out.lt)
  replace HBR := Lib.hid (HBR.out.below hb HBR.out.lt)
  replace HC := Lib.hid (HC.out.below hb)
  replace HR := Lib.hid (HR.out.below hb)
  replace HA := Lib.hid (HA.out.next hb)
  replace HB := Lib.hid (HB.out.trans (hb.mono HB.out.size))
  clear hb
  have d0 := HBR.out.cell 0
  have d1 := HBR.out.cell 1
  have d2 := HBR.out.cell 2
  have d3 := HBR.out.cell 3
  have d4 := HBR.out.cell 4
  have d5 := HBR.out.cell 5
  simp at d0 d1 d2 d3 d4 d5
  go_wp2_with fail
  clear d0 d1 d2 d3 d4 d5
  ((with_reducible refine (tree_some t g r u1 u2 u3 w2 HT.out HR.out HA.out).mono ?_); rintro e w3 ⟨⟨vt, rfl, htv⟩, hb⟩)
  have HTV := Lib.hid htv
  clear htv
  have hvv : VerdV w2.heap.size w3 vt (judgeP c' r) := by
    rcases HTV.out with ⟨h, _⟩ | ⟨c'', h, h2⟩ | ⟨_, h, _⟩
    · cases h
    · rw [HRO.out.1] at h
      injection h with h
      subst h
      exact h2
    · rw [HRO.out.1] at h
      cases h
  have HVV := Lib.hid hvv
  have p4 := verd_notb hvv (judgeP_kind c' r) HRO.out.2
  clear hvv HTV
  replace HBC := Lib.hid (HBC.out.below hb HBC.out.lt)
  replace HBR := Lib.hid (HBR.out.below hb HBR.out.lt)
  replace HC := Lib.hid (HC.out.below hb)
  replace HR := Lib.hid (HR.out.below hb)
  replace HA := Lib.hid (HA.out.next hb)
  replace HB := Lib.hid (HB.out.trans (hb.mono HB.out.size))
  clear hb
  obtain ⟨c0, c1, c2, c3, c4, c5, c6, c7, c8⟩ := C9 HBC.out
  have hb : Below w3.heap.size w3 (w3.alloc (.cells #[v0, .string ⟨c.about.toArray⟩, .int .i64 c.at_, .string ⟨c.by_.toArray⟩, v4, .int .i64 c.from_, .string ⟨c.id_.toArray⟩, v7, .int .i64 c.until_] 24)) := (Below.refl _ _).alloc (Nat.le_refl _) _
  have HN := Lib.hid (Blk.new w3 24 #[v0, .string ⟨c.about.toArray⟩, .int .i64 c.at_, .string ⟨c.by_.toArray⟩, v4, .int .i64 c.from_, .string ⟨c.id_.toArray⟩, v7, .int .i64 c.until_])
  replace HBC := Lib.hid (HBC.out.below hb HBC.out.lt)
  replace HBR := Lib.hid (HBR.out.below hb HBR.out.lt)
  replace HC := Lib.hid (HC.out.below hb)
  replace HR := Lib.hid (HR.out.below hb)
  replace HA := Lib.hid (HA.out.next hb)
  replace HB := Lib.hid (HB.out.trans (hb.mono HB.out.size))
  clear hb
  have d0 := HBR.out.cell 0
  have d1 := HBR.out.cell 1
  have d2 := HBR.out.cell 2
  have d3 := HBR.out.cell 3
  have d4 := HBR.out.cell 4
  have d5 := HBR.out.cell 5
  simp at d0 d1 d2 d3 d4 d5
  go_wp2_with fail
  clear d0 d1 d2 d3 d4 d5
  clear c0 c1 c2 c3 c4 c5 c6 c7 c8
  generalize (w3.alloc (.cells #[v0, .string ⟨c.about.toArray⟩, .int .i64 c.at_, .string ⟨c.by_.toArray⟩, v4, .int .i64 c.from_, .string ⟨c.id_.toArray⟩, v7, .int .i64 c.until_] 24)) = w4 at *
  ((with_reducible refine (worst_one c r w3.heap.size v0 v4 v7 u1 u2 u3 w4 HN.out HC.out HR.out).mono ?_); rintro e w5 ⟨vw, rfl, hvw, hb⟩)
  have HVW := Lib.hid hvw
  clear hvw
  replace HBC := Lib.hid (HBC.out.below hb HBC.out.lt)
  replace HBR := Lib.hid (HBR.out.below hb HBR.out.lt)
  replace HC := Lib.hid (HC.out.below hb)
  replace HR := Lib.hid (HR.out.below hb)
  replace HA := Lib.hid (HA.out.next hb)
  replace HB := Lib.hid (HB.out.trans (hb.mono HB.out.size))
  clear hb
  go_wp2_with fail
  ((with_reducible refine (wakes25_any _).mono ?_); rintro e w6 ⟨rfl, hb⟩)
  replace HBC := Lib.hid (HBC.out.below hb HBC.out.lt)
  replace HBR := Lib.hid (HBR.out.below hb HBR.out.lt)
  replace HC := Lib.hid (HC.out.below hb)
  replace HR := Lib.hid (HR.out.below hb)
  replace HA := Lib.hid (HA.out.next hb)
  replace HB := Lib.hid (HB.out.trans (hb.mono HB.out.size))
  clear hb
  have d0 := HBR.out.cell 0
  have d1 := HBR.out.cell 1
  have d2 := HBR.out.cell 2
  have d3 := HBR.out.cell 3
  have d4 := HBR.out.cell 4
  have d5 := HBR.out.cell 5
  simp at d0 d1 d2 d3 d4 d5
  obtain ⟨c0, c1, c2, c3, c4, c5, c6, c7, c8⟩ := C9 HBC.out
  go_wp2_with fail
  clear d0 d1 d2 d3 d4 d5
  clear c0 c1 c2 c3 c4 c5 c6 c7 c8
  ((with_reducible refine (judge_any c r v0 v4 v7 u1 u2 u3 w6 HC.out HR.out).mono ?_); rintro e w7 ⟨vj, rfl, hvj, hb⟩)
  have HVJ := Lib.hid hvj
  clear hvj
  replace HBC := Lib.hid (HBC.out.below hb HBC.out.lt)
  replace HBR := Lib.hid (HBR.out.below hb HBR.out.lt)
  replace HC := Lib.hid (HC.out.below hb)
  replace HR := Lib.hid (HR.out.below hb)
  replace HA := Lib.hid (HA.out.next hb)
  replace HB := Lib.hid (HB.out.trans (hb.mono HB.out.size))
  clear hb
  go_wp2_with fail
  ((with_reducible refine (interf_any w7 HVJ.out (judgeP_kind c r)).mono ?_); rintro e w8 ⟨rfl, hb⟩)
  replace HBC := Lib.hid (HBC.out.below hb HBC.out.lt)
  replace HBR := Lib.hid (HBR.out.below hb HBR.out.lt)
  replace HC := Lib.hid (HC.out.below hb)
  replace HR := Lib.hid (HR.out.below hb)
  replace HA := Lib.hid (HA.out.next hb)
  replace HB := Lib.hid (HB.out.trans (hb.mono HB.out.size))
  clear hb
  go_wp2_with fail
  ((with_reducible refine (interf_any w8 HVV.out (judgeP_kind _ r)).mono ?_); rintro e w9 ⟨rfl, hb⟩)
  replace HBC := Lib.hid (HBC.out.below hb HBC.out.lt)
  replace HBR := Lib.hid (HBR.out.below hb HBR.out.lt)
  replace HC := Lib.hid (HC.out.below hb)
  replace HR := Lib.hid (HR.out.below hb)
  replace HA := Lib.hid (HA.out.next hb)
  replace HB := Lib.hid (HB.out.trans (hb.mono HB.out.size))
  clear hb
  go_wp2_with fail
  ((with_reducible refine (interf_any w9 HVW.out (worstP_kind c r)).mono ?_); rintro e w10 ⟨rfl, hb⟩)
  replace HBC := Lib.hid (HBC.out.below hb HBC.out.lt)
  replace HBR := Lib.hid (HBR.out.below hb HBR.out.lt)
  replace HC := Lib.hid (HC.out.below hb)
  replace HR := Lib.hid (HR.out.below hb)
  replace HA := Lib.hid (HA.out.next hb)
  replace HB := Lib.hid (HB.out.trans (hb.mono HB.out.size))
  clear hb
  go_wp2
  go_ret
  exact ⟨rfl, HB.out⟩
set_option maxRecDepth 100000 in
set_option maxHeartbeats 16000000 in
theorem asserts_arg (c : C) (r : R) (v0 v4 v7 u1 u2 u3 : Value) (v : Value) (ss : List Stp) (w : World) (hC : ClAt w c v0 v4 v7) (hR : RuAt w r u1 u2 u3) (hS : RdS w v ss) (hF : ∀ s ∈ ss, s.Fine) (hA : TabP w) (hg : w.cell? ⟨0, 0, none⟩ = some (.iface 236 (.agg #[.pointer (some ⟨5, 30, none⟩)]))) (t : Tr) (hbt : buildT ss = .inr t) (c' : C) (hro : readO (some t) = some c') (hk : (judgeP c' r).kind = 0) :
    Calls Tryz.prog 3 #[.agg #[v0, .string ⟨c.about.toArray⟩, .int .i64 c.at_, .string ⟨c.by_.toArray⟩, v4, .int .i64 c.from_, .string ⟨c.id_.toArray⟩, v7, .int .i64 c.until_], v, .agg #[.int .i64 r.now, .int .i64 r.slack, .string ⟨r.who.toArray⟩, u1, u2, u3]] w (TruP w) := by
  have q1 := err_ne_nil
  have q2 := err_ne_held
  have q3 := err_eq_nil
  have q4 := err_eq_held
  have p1 := pb_en
  have p2 := ptr_ne
  have p3 := tb_ok
  have HBT := Lib.hid hbt
  have HRO := Lib.hid (And.intro hro hk)
  clear hbt hro hk
  have hba : Below w.heap.size w ((w.alloc (.cells #[v0, .string ⟨c.about.toArray⟩, .int .i64 c.at_, .string ⟨c.by_.toArray⟩, v4, .int .i64 c.from_, .string ⟨c.id_.toArray⟩, v7, .int .i64 c.until_] 24)).alloc (.cells #[.int .i64 r.now, .int .i64 r.slack, .string ⟨r.who.toArray⟩, u1, u2, u3] 27)) := ((Below.refl _ _).alloc (Nat.le_refl _) _).alloc (by simp) _
  have hbc : Blk ((w.alloc (.cells #[v0, .string ⟨c.about.toArray⟩, .int .i64 c.at_, .string ⟨c.by_.toArray⟩, v4, .int .i64 c.from_, .string ⟨c.id_.toArray⟩, v7, .int .i64 c.until_] 24)).alloc (.cells #[.int .i64 r.now, .int .i64 r.slack, .string ⟨r.who.toArray⟩, u1, u2, u3] 27)) w.heap.size 24 #[v0, .string ⟨c.about.toArray⟩, .int .i64 c.at_, .string ⟨c.by_.toArray⟩, v4, .int .i64 c.from_, .string ⟨c.id_.toArray⟩, v7, .int .i64 c.until_] := (Blk.new w 24 #[v0, .string ⟨c.about.toArray⟩, .int .i64 c.at_, .string ⟨c.by_.toArray⟩, v4, .int .i64 c.from_, .string ⟨c.id_.toArray⟩, v7, .int .i64 c.until_]).alloc _
  have hbr : Blk ((w.alloc (.cells #[v0, .string ⟨c.about.toArray⟩, .int .i64 c.at_, .string ⟨c.by_.toArray⟩, v4, .int .i64 c.from_, .string ⟨c.id_.toArray⟩, v7, .int .i64 c.until_] 24)).alloc (.cells #[.int .i64 r.now, .int .i64 r.slack, .string ⟨r.who.toArray⟩, u1, u2, u3] 27)) (w.heap.size + 1) 27 #[.int .i64 r.now, .int .i64 r.slack, .string ⟨r.who.toArray⟩, u1, u2, u3] := by
    have := Blk.new (w.alloc (.cells #[v0, .string ⟨c.about.toArray⟩, .int .i64 c.at_, .string ⟨c.by_.toArray⟩, v4, .int .i64 c.from_, .string ⟨c.id_.toArray⟩, v7, .int .i64 c.until_] 24)) 27 #[.int .i64 r.now, .int .i64 r.slack, .string ⟨r.who.toArray⟩, u1, u2, u3]
    rwa [World.size_alloc] at this
  have hsz0 : ((w.alloc (.cells #[v0, .string ⟨c.about.toArray⟩, .int .i64 c.at_, .string ⟨c.by_.toArray⟩, v4, .int .i64 c.from_, .string ⟨c.id_.toArray⟩, v7, .int .i64 c.until_] 24)).alloc (.cells #[.int .i64 r.now, .int .i64 r.slack, .string ⟨r.who.toArray⟩, u1, u2, u3] 27)).heap.size = w.heap.size + 2 := by simp
  have HS := Lib.hid (hS.below hba)
  have HF := Lib.hid hF
  have HC := Lib.hid (hC.below hba)
  have HR := Lib.hid (hR.below hba)
  have HA := Lib.hid (hA.next hba)
  have HG := Lib.hid (And.intro hg (World.block_lt_of_cell? _ _ hg))
  have HB := Lib.hid hba
  have HBC := Lib.hid hbc
  have HBR := Lib.hid hbr
  clear hC hR hS hF hA hg hba hbc hbr
  go_enter Tryz.func3, Tryz.ntmps3
  go_wp2_with fail
  generalize ((w.alloc (.cells #[v0, .string ⟨c.about.toArray⟩, .int .i64 c.at_, .string ⟨c.by_.toArray⟩, v4, .int .i64 c.from_, .string ⟨c.id_.toArray⟩, v7, .int .i64 c.until_] 24)).alloc (.cells #[.int .i64 r.now, .int .i64 r.slack, .string ⟨r.who.toArray⟩, u1, u2, u3] 27)) = w1 at *
  ((with_reducible refine (build_all v ss _ HS.out HF.out).mono ?_); rintro e w2 ⟨hb, he⟩)
  rw [HBT.out] at he
  obtain ⟨g, rfl, hTA⟩ := he
  obtain ⟨_, hfit, tv, hblk, hrd0⟩ := hTA
  have hro0 : TreO w2 (some t) (.pointer (some ⟨g, 0, none⟩)) := .inr ⟨t, g, tv, rfl, rfl, hblk, RdT.toA hrd0, (buildT_ok HF.out HBT.out).1, hfit⟩
  have HT := Lib.hid hro0
  clear hro0 hblk hrd0 hfit
  replace HBC := Lib.hid (HBC.out.below hb HBC.out.lt)
  replace HBR := Lib.hid (HBR.out.below hb HBR.out.lt)
  replace HC := Lib.hid (HC.out.below hb)
  replace HR := Lib.hid (HR.out.below hb)
  replace HA := Lib.hid (HA.out.next hb)
  replace HB := Lib.hid (HB.out.trans (hb.mono HB.out.size))
  clear hb
  have d0 := HBR.out.cell 0
  have d1 := HBR.out.cell 1
  have d2 := HBR.out.cell 2
  have d3 := HBR.out.cell 3
  have d4 := HBR.out.cell 4
  have d5 := HBR.out.cell 5
  simp at d0 d1 d2 d3 d4 d5
  go_wp2_with fail
  clear d0 d1 d2 d3 d4 d5
  ((with_reducible refine (tree_some t g r u1 u2 u3 w2 HT.out HR.out HA.out).mono ?_); rintro e w3 ⟨⟨vt, rfl, htv⟩, hb⟩)
  have HTV := Lib.hid htv
  clear htv
  have hvv : VerdV w2.heap.size w3 vt (judgeP c' r) := by
    rcases HTV.out with ⟨h, _⟩ | ⟨c'', h, h2⟩ | ⟨_, h, _⟩
    · cases h
    · rw [HRO.out.1] at h
      injection h with h
      subst h
      exact h2
    · rw [HRO.out.1] at h
      cases h
  obtain ⟨b, hbb, rfl, hblk⟩ := verd_broken hvv HRO.out.2
  have HB2 := Lib.hid hb
  have HBB := Lib.hid hblk
  clear hvv HTV hblk
  replace HBC := Lib.hid (HBC.out.below hb HBC.out.lt)
  replace HBR := Lib.hid (HBR.out.below hb HBR.out.lt)
  replace HC := Lib.hid (HC.out.below hb)
  replace HR := Lib.hid (HR.out.below hb)
  replace HA := Lib.hid (HA.out.next hb)
  replace HB := Lib.hid (HB.out.trans (hb.mono HB.out.size))
  clear hb
  obtain ⟨c0, c1, c2, c3, c4, c5, c6, c7, c8⟩ := C9 HBC.out
  have hb : Below w3.heap.size w3 (w3.alloc (.cells #[v0, .string ⟨c.about.toArray⟩, .int .i64 c.at_, .string ⟨c.by_.toArray⟩, v4, .int .i64 c.from_, .string ⟨c.id_.toArray⟩, v7, .int .i64 c.until_] 24)) := (Below.refl _ _).alloc (Nat.le_refl _) _
  have HN := Lib.hid (Blk.new w3 24 #[v0, .string ⟨c.about.toArray⟩, .int .i64 c.at_, .string ⟨c.by_.toArray⟩, v4, .int .i64 c.from_, .string ⟨c.id_.toArray⟩, v7, .int .i64 c.until_])
  replace HBC := Lib.hid (HBC.out.below hb HBC.out.lt)
  replace HBR := Lib.hid (HBR.out.below hb HBR.out.lt)
  replace HC := Lib.hid (HC.out.below hb)
  replace HR := Lib.hid (HR.out.below hb)
  replace HA := Lib.hid (HA.out.next hb)
  replace HB2 := Lib.hid (HB2.out.trans (hb.mono HB2.out.size))
  replace HBB := Lib.hid (HBB.out.below hb HBB.out.lt)
  replace HB := Lib.hid (HB.out.trans (hb.mono HB.out.size))
  clear hb
  have d0 := HBR.out.cell 0
  have d1 := HBR.out.cell 1
  have d2 := HBR.out.cell 2
  have d3 := HBR.out.cell 3
  have d4 := HBR.out.cell 4
  have d5 := HBR.out.cell 5
  simp at d0 d1 d2 d3 d4 d5
  go_wp2_with fail
  clear d0 d1 d2 d3 d4 d5
  clear c0 c1 c2 c3 c4 c5 c6 c7 c8
  generalize (w3.alloc (.cells #[v0, .string ⟨c.about.toArray⟩, .int .i64 c.at_, .string ⟨c.by_.toArray⟩, v4, .int .i64 c.from_, .string ⟨c.id_.toArray⟩, v7, .int .i64 c.until_] 24)) = w4 at *
  ((with_reducible refine (worst_one c r w3.heap.size v0 v4 v7 u1 u2 u3 w4 HN.out HC.out HR.out).mono ?_); rintro e w5 ⟨vw, rfl, hvw, hb⟩)
  have HVW := Lib.hid hvw
  clear hvw
  replace HBC := Lib.hid (HBC.out.below hb HBC.out.lt)
  replace HBR := Lib.hid (HBR.out.below hb HBR.out.lt)
  replace HC := Lib.hid (HC.out.below hb)
  replace HR := Lib.hid (HR.out.below hb)
  replace HA := Lib.hid (HA.out.next hb)
  replace HB2 := Lib.hid (HB2.out.trans (hb.mono HB2.out.size))
  replace HBB := Lib.hid (HBB.out.below hb HBB.out.lt)
  replace HB := Lib.hid (HB.out.trans (hb.mono HB.out.size))
  clear hb
  go_wp2_with fail
  ((with_reducible refine (wakes25_any _).mono ?_); rintro e w6 ⟨rfl, hb⟩)
  replace HBC := Lib.hid (HBC.out.below hb HBC.out.lt)
  replace HBR := Lib.hid (HBR.out.below hb HBR.out.lt)
  replace HC := Lib.hid (HC.out.below hb)
  replace HR := Lib.hid (HR.out.below hb)
  replace HA := Lib.hid (HA.out.next hb)
  replace HB2 := Lib.hid (HB2.out.trans (hb.mono HB2.out.size))
  replace HBB := Lib.hid (HBB.out.below hb HBB.out.lt)
  replace HB := Lib.hid (HB.out.trans (hb.mono HB.out.size))
  clear hb
  have d0 := HBR.out.cell 0
  have d1 := HBR.out.cell 1
  have d2 := HBR.out.cell 2
  have d3 := HBR.out.cell 3
  have d4 := HBR.out.cell 4
  have d5 := HBR.out.cell 5
  simp at d0 d1 d2 d3 d4 d5
  obtain ⟨c0, c1, c2, c3, c4, c5, c6, c7, c8⟩ := C9 HBC.out
  go_wp2_with fail
  clear d0 d1 d2 d3 d4 d5
  clear c0 c1 c2 c3 c4 c5 c6 c7 c8
  ((with_reducible refine (judge_any c r v0 v4 v7 u1 u2 u3 w6 HC.out HR.out).mono ?_); rintro e w7 ⟨vj, rfl, hvj, hb⟩)
  have HVJ := Lib.hid hvj
  clear hvj
  replace HBC := Lib.hid (HBC.out.below hb HBC.out.lt)
  replace HBR := Lib.hid (HBR.out.below hb HBR.out.lt)
  replace HC := Lib.hid (HC.out.below hb)
  replace HR := Lib.hid (HR.out.below hb)
  replace HA := Lib.hid (HA.out.next hb)
  replace HB2 := Lib.hid (HB2.out.trans (hb.mono HB2.out.size))
  replace HBB := Lib.hid (HBB.out.below hb HBB.out.lt)
  replace HB := Lib.hid (HB.out.trans (hb.mono HB.out.size))
  clear hb
  go_wp2_with fail
  ((with_reducible refine (interf_any w7 HVJ.out (judgeP_kind c r)).mono ?_); rintro e w8 ⟨rfl, hb⟩)
  replace HBC := Lib.hid (HBC.out.below hb HBC.out.lt)
  replace HBR := Lib.hid (HBR.out.below hb HBR.out.lt)
  replace HC := Lib.hid (HC.out.below hb)
  replace HR := Lib.hid (HR.out.below hb)
  replace HA := Lib.hid (HA.out.next hb)
  replace HB2 := Lib.hid (HB2.out.trans (hb.mono HB2.out.size))
  replace HBB := Lib.hid (HBB.out.below hb HBB.out.lt)
  replace HB := Lib.hid (HB.out.trans (hb.mono HB.out.size))
  clear hb
  go_wp2_with fail
  ((with_reducible refine (interf_Broken _ w8).mono ?_); rintro e w9 ⟨rfl, hb⟩)
  replace HBC := Lib.hid (HBC.out.below hb HBC.out.lt)
  replace HBR := Lib.hid (HBR.out.below hb HBR.out.lt)
  replace HC := Lib.hid (HC.out.below hb)
  replace HR := Lib.hid (HR.out.below hb)
  replace HA := Lib.hid (HA.out.next hb)
  replace HB2 := Lib.hid (HB2.out.trans (hb.mono HB2.out.size))
  replace HBB := Lib.hid (HBB.out.below hb HBB.out.lt)
  replace HB := Lib.hid (HB.out.trans (hb.mono HB.out.size))
  clear hb
  go_wp2_with fail
  ((with_reducible refine (interf_any w9 HVW.out (worstP_kind c r)).mono ?_); rintro e w10 ⟨rfl, hb⟩)
  replace HBC := Lib.hid (HBC.out.below hb HBC.out.lt)
  replace HBR := Lib.hid (HBR.out.below hb HBR.out.lt)
  replace HC := Lib.hid (HC.out.below hb)
  replace HR := Lib.hid (HR.out.below hb)
  replace HA := Lib.hid (HA.out.next hb)
  replace HB2 := Lib.hid (HB2.out.trans (hb.mono HB2.out.size))
  replace HBB := Lib.hid (HBB.out.below hb HBB.out.lt)
  replace HB := Lib.hid (HB.out.trans (hb.mono HB.out.size))
  clear hb
  go_wp2_with fail
  ((with_reducible refine (readO_any (some t) _ w2 w10 HT.out HB2.out HA.out).mono ?_); rintro e w11 ⟨⟨d, y0, y4, y7, er', rfl, hCd, ho0, ho4, ho7, hEr⟩, hb⟩)
  obtain rfl : er' = .nilIface := by
    rcases hEr with ⟨h, _⟩ | ⟨h, _⟩
    · exact h
    · rw [HRO.out.1] at h
      cases h
  obtain ⟨B0, r0, hv0⟩ := own_sliceP ho0
  subst hv0
  obtain ⟨B4, r4, hv4⟩ := own_sliceP ho4
  subst hv4
  obtain ⟨B7, r7, hv7⟩ := own_sliceP ho7
  subst hv7
  replace HBC := Lib.hid (HBC.out.below hb HBC.out.lt)
  replace HBR := Lib.hid (HBR.out.below hb HBR.out.lt)
  replace HC := Lib.hid (HC.out.below hb)
  replace HR := Lib.hid (HR.out.below hb)
  replace HA := Lib.hid (HA.out.next hb)
  replace HB2 := Lib.hid (HB2.out.trans (hb.mono HB2.out.size))
  replace HBB := Lib.hid (HBB.out.below hb HBB.out.lt)
  replace HB := Lib.hid (HB.out.trans (hb.mono HB.out.size))
  clear hb
  clear hEr ho0 ho4 ho7 hCd
  have b0 := HBB.out.cell 0
  simp at b0
  have b1 := HBB.out.lt
  have hb2s := HB2.out.size
  unfold clCells
  go_wp2_with fail
  ((with_reducible refine (number25_any 2 _).mono ?_); rintro e w12 ⟨rfl, rfl⟩)
  go_wp2
  go_ret
  exact ⟨rfl, (HB.out.alloc HB.out.size _).alloc (by simp; have := HB.out.size; omega) _⟩
set_option maxRecDepth 100000 in
set_option maxHeartbeats 16000000 in
theorem asserts_err (c : C) (r : R) (v0 v4 v7 u1 u2 u3 : Value) (v : Value) (ss : List Stp) (w : World) (hC : ClAt w c v0 v4 v7) (hR : RuAt w r u1 u2 u3) (hS : RdS w v ss) (hF : ∀ s ∈ ss, s.Fine) (hA : TabP w) (hg : w.cell? ⟨0, 0, none⟩ = some (.iface 236 (.agg #[.pointer (some ⟨5, 30, none⟩)]))) (t : Tr) (hbt : buildT ss = .inr t) (hro : readO (some t) = none) :
    Calls Tryz.prog 3 #[.agg #[v0, .string ⟨c.about.toArray⟩, .int .i64 c.at_, .string ⟨c.by_.toArray⟩, v4, .int .i64 c.from_, .string ⟨c.id_.toArray⟩, v7, .int .i64 c.until_], v, .agg #[.int .i64 r.now, .int .i64 r.slack, .string ⟨r.who.toArray⟩, u1, u2, u3]] w (TruP w) := by
  have q1 := err_ne_nil
  have q2 := err_ne_held
  have q3 := err_eq_nil
  have q4 := err_eq_held
  have p1 := pb_en
  have p2 := ptr_ne
  have p3 := tb_ok
  have HBT := Lib.hid hbt
  have HRO := Lib.hid hro
  clear hbt hro
  have hba : Below w.heap.size w ((w.alloc (.cells #[v0, .string ⟨c.about.toArray⟩, .int .i64 c.at_, .string ⟨c.by_.toArray⟩, v4, .int .i64 c.from_, .string ⟨c.id_.toArray⟩, v7, .int .i64 c.until_] 24)).alloc (.cells #[.int .i64 r.now, .int .i64 r.slack, .string ⟨r.who.toArray⟩, u1, u2, u3] 27)) := ((Below.refl _ _).alloc (Nat.le_refl _) _).alloc (by simp) _
  have hbc : Blk ((w.alloc (.cells #[v0, .string ⟨c.about.toArray⟩, .int .i64 c.at_, .string ⟨c.by_.toArray⟩, v4, .int .i64 c.from_, .string ⟨c.id_.toArray⟩, v7, .int .i64 c.until_] 24)).alloc (.cells #[.int .i64 r.now, .int .i64 r.slack, .string ⟨r.who.toArray⟩, u1, u2, u3] 27)) w.heap.size 24 #[v0, .string ⟨c.about.toArray⟩, .int .i64 c.at_, .string ⟨c.by_.toArray⟩, v4, .int .i64 c.from_, .string ⟨c.id_.toArray⟩, v7, .int .i64 c.until_] := (Blk.new w 24 #[v0, .string ⟨c.about.toArray⟩, .int .i64 c.at_, .string ⟨c.by_.toArray⟩, v4, .int .i64 c.from_, .string ⟨c.id_.toArray⟩, v7, .int .i64 c.until_]).alloc _
  have hbr : Blk ((w.alloc (.cells #[v0, .string ⟨c.about.toArray⟩, .int .i64 c.at_, .string ⟨c.by_.toArray⟩, v4, .int .i64 c.from_, .string ⟨c.id_.toArray⟩, v7, .int .i64 c.until_] 24)).alloc (.cells #[.int .i64 r.now, .int .i64 r.slack, .string ⟨r.who.toArray⟩, u1, u2, u3] 27)) (w.heap.size + 1) 27 #[.int .i64 r.now, .int .i64 r.slack, .string ⟨r.who.toArray⟩, u1, u2, u3] := by
    have := Blk.new (w.alloc (.cells #[v0, .string ⟨c.about.toArray⟩, .int .i64 c.at_, .string ⟨c.by_.toArray⟩, v4, .int .i64 c.from_, .string ⟨c.id_.toArray⟩, v7, .int .i64 c.until_] 24)) 27 #[.int .i64 r.now, .int .i64 r.slack, .string ⟨r.who.toArray⟩, u1, u2, u3]
    rwa [World.size_alloc] at this
  have hsz0 : ((w.alloc (.cells #[v0, .string ⟨c.about.toArray⟩, .int .i64 c.at_, .string ⟨c.by_.toArray⟩, v4, .int .i64 c.from_, .string ⟨c.id_.toArray⟩, v7, .int .i64 c.until_] 24)).alloc (.cells #[.int .i64 r.now, .int .i64 r.slack, .string ⟨r.who.toArray⟩, u1, u2, u3] 27)).heap.size = w.heap.size + 2 := by simp
  have HS := Lib.hid (hS.below hba)
  have HF := Lib.hid hF
  have HC := Lib.hid (hC.below hba)
  have HR := Lib.hid (hR.below hba)
  have HA := Lib.hid (hA.next hba)
  have HG := Lib.hid (And.intro hg (World.block_lt_of_cell? _ _ hg))
  have HB := Lib.hid hba
  have HBC := Lib.hid hbc
  have HBR := Lib.hid hbr
  clear hC hR hS hF hA hg hba hbc hbr
  go_enter Tryz.func3, Tryz.ntmps3
  go_wp2_with fail
  generalize ((w.alloc (.cells #[v0, .string ⟨c.about.toArray⟩, .int .i64 c.at_, .string ⟨c.by_.toArray⟩, v4, .int .i64 c.from_, .string ⟨c.id_.toArray⟩, v7, .int .i64 c.until_] 24)).alloc (.cells #[.int .i64 r.now, .int .i64 r.slack, .string ⟨r.who.toArray⟩, u1, u2, u3] 27)) = w1 at *
  ((with_reducible refine (build_all v ss _ HS.out HF.out).mono ?_); rintro e w2 ⟨hb, he⟩)
  rw [HBT.out] at he
  obtain ⟨g, rfl, hTA⟩ := he
  obtain ⟨_, hfit, tv, hblk, hrd0⟩ := hTA
  have hro0 : TreO w2 (some t) (.pointer (some ⟨g, 0, none⟩)) := .inr ⟨t, g, tv, rfl, rfl, hblk, RdT.toA hrd0, (buildT_ok HF.out HBT.out).1, hfit⟩
  have HT := Lib.hid hro0
  clear hro0 hblk hrd0 hfit
  replace HBC := Lib.hid (HBC.out.below hb HBC.out.lt)
  replace HBR := Lib.hid (HBR.out.below hb HBR.out.lt)
  replace HC := Lib.hid (HC.out.below hb)
  replace HR := Lib.hid (HR.out.below hb)
  replace HA := Lib.hid (HA.out.next hb)
  replace HB := Lib.hid (HB.out.trans (hb.mono HB.out.size))
  clear hb
  have d0 := HBR.out.cell 0
  have d1 := HBR.out.cell 1
  have d2 := HBR.out.cell 2
  have d3 := HBR.out.cell 3
  have d4 := HBR.out.cell 4
  have d5 := HBR.out.cell 5
  simp at d0 d1 d2 d3 d4 d5
  go_wp2_with fail
  clear d0 d1 d2 d3 d4 d5
  ((with_reducible refine (tree_some t g r u1 u2 u3 w2 HT.out HR.out HA.out).mono ?_); rintro e w3 ⟨⟨vt, rfl, htv⟩, hb⟩)
  have HTV := Lib.hid htv
  clear htv
  have hvv : ∃ b er, w2.heap.size ≤ b ∧ vt = .iface 42 (.pointer (some ⟨b, 0, none⟩)) ∧ Blk w3 b 50 #[er] ∧ ErrO (some t) w2.heap.size w3 er := by
    rcases HTV.out with ⟨h, _⟩ | ⟨c'', h, h2⟩ | ⟨_, h, h3⟩
    · cases h
    · rw [HRO.out] at h
      cases h
    · exact h3
  obtain ⟨b, er, hbb, rfl, hblk, hErr⟩ := hvv
  obtain ⟨T, ue, hTe⟩ := hErr.iface
  subst hTe
  have HB2 := Lib.hid hb
  have HBB := Lib.hid hblk
  have HER := Lib.hid hErr
  clear HTV hblk hErr
  replace HBC := Lib.hid (HBC.out.below hb HBC.out.lt)
  replace HBR := Lib.hid (HBR.out.below hb HBR.out.lt)
  replace HC := Lib.hid (HC.out.below hb)
  replace HR := Lib.hid (HR.out.below hb)
  replace HA := Lib.hid (HA.out.next hb)
  replace HB := Lib.hid (HB.out.trans (hb.mono HB.out.size))
  clear hb
  obtain ⟨c0, c1, c2, c3, c4, c5, c6, c7, c8⟩ := C9 HBC.out
  have hb : Below w3.heap.size w3 (w3.alloc (.cells #[v0, .string ⟨c.about.toArray⟩, .int .i64 c.at_, .string ⟨c.by_.toArray⟩, v4, .int .i64 c.from_, .string ⟨c.id_.toArray⟩, v7, .int .i64 c.until_] 24)) := (Below.refl _ _).alloc (Nat.le_refl _) _
  have HN := Lib.hid (Blk.new w3 24 #[v0, .string ⟨c.about.toArray⟩, .int .i64 c.at_, .string ⟨c.by_.toArray⟩, v4, .int .i64 c.from_, .string ⟨c.id_.toArray⟩, v7, .int .i64 c.until_])
  replace HBC := Lib.hid (HBC.out.below hb HBC.out.lt)
  replace HBR := Lib.hid (HBR.out.below hb HBR.out.lt)
  replace HC := Lib.hid (HC.out.below hb)
  replace HR := Lib.hid (HR.out.below hb)
  replace HA := Lib.hid (HA.out.next hb)
  replace HB2 := Lib.hid (HB2.out.trans (hb.mono HB2.out.size))
  replace HBB := Lib.hid (HBB.out.below hb HBB.out.lt)
  replace HER := Lib.hid (HER.out.below hb)
  replace HB := Lib.hid (HB.out.trans (hb.mono HB.out.size))
  clear hb
  have d0 := HBR.out.cell 0
  have d1 := HBR.out.cell 1
  have d2 := HBR.out.cell 2
  have d3 := HBR.out.cell 3
  have d4 := HBR.out.cell 4
  have d5 := HBR.out.cell 5
  simp at d0 d1 d2 d3 d4 d5
  go_wp2_with fail
  clear d0 d1 d2 d3 d4 d5
  clear c0 c1 c2 c3 c4 c5 c6 c7 c8
  generalize (w3.alloc (.cells #[v0, .string ⟨c.about.toArray⟩, .int .i64 c.at_, .string ⟨c.by_.toArray⟩, v4, .int .i64 c.from_, .string ⟨c.id_.toArray⟩, v7, .int .i64 c.until_] 24)) = w4 at *
  ((with_reducible refine (worst_one c r w3.heap.size v0 v4 v7 u1 u2 u3 w4 HN.out HC.out HR.out).mono ?_); rintro e w5 ⟨vw, rfl, hvw, hb⟩)
  have HVW := Lib.hid hvw
  clear hvw
  replace HBC := Lib.hid (HBC.out.below hb HBC.out.lt)
  replace HBR := Lib.hid (HBR.out.below hb HBR.out.lt)
  replace HC := Lib.hid (HC.out.below hb)
  replace HR := Lib.hid (HR.out.below hb)
  replace HA := Lib.hid (HA.out.next hb)
  replace HB2 := Lib.hid (HB2.out.trans (hb.mono HB2.out.size))
  replace HBB := Lib.hid (HBB.out.below hb HBB.out.lt)
  replace HER := Lib.hid (HER.out.below hb)
  replace HB := Lib.hid (HB.out.trans (hb.mono HB.out.size))
  clear hb
  go_wp2_with fail
  ((with_reducible refine (wakes25_any _).mono ?_); rintro e w6 ⟨rfl, hb⟩)
  replace HBC := Lib.hid (HBC.out.below hb HBC.out.lt)
  replace HBR := Lib.hid (HBR.out.below hb HBR.out.lt)
  replace HC := Lib.hid (HC.out.below hb)
  replace HR := Lib.hid (HR.out.below hb)
  replace HA := Lib.hid (HA.out.next hb)
  replace HB2 := Lib.hid (HB2.out.trans (hb.mono HB2.out.size))
  replace HBB := Lib.hid (HBB.out.below hb HBB.out.lt)
  replace HER := Lib.hid (HER.out.below hb)
  replace HB := Lib.hid (HB.out.trans (hb.mono HB.out.size))
  clear hb
  have d0 := HBR.out.cell 0
  have d1 := HBR.out.cell 1
  have d2 := HBR.out.cell 2
  have d3 := HBR.out.cell 3
  have d4 := HBR.out.cell 4
  have d5 := HBR.out.cell 5
  simp at d0 d1 d2 d3 d4 d5
  obtain ⟨c0, c1, c2, c3, c4, c5, c6, c7, c8⟩ := C9 HBC.out
  go_wp2_with fail
  clear d0 d1 d2 d3 d4 d5
  clear c0 c1 c2 c3 c4 c5 c6 c7 c8
  ((with_reducible refine (judge_any c r v0 v4 v7 u1 u2 u3 w6 HC.out HR.out).mono ?_); rintro e w7 ⟨vj, rfl, hvj, hb⟩)
  have HVJ := Lib.hid hvj
  clear hvj
  replace HBC := Lib.hid (HBC.out.below hb HBC.out.lt)
  replace HBR := Lib.hid (HBR.out.below hb HBR.out.lt)
  replace HC := Lib.hid (HC.out.below hb)
  replace HR := Lib.hid (HR.out.below hb)
  replace HA := Lib.hid (HA.out.next hb)
  replace HB2 := Lib.hid (HB2.out.trans (hb.mono HB2.out.size))
  replace HBB := Lib.hid (HBB.out.below hb HBB.out.lt)
  replace HER := Lib.hid (HER.out.below hb)
  replace HB := Lib.hid (HB.out.trans (hb.mono HB.out.size))
  clear hb
  go_wp2_with fail
  ((with_reducible refine (interf_any w7 HVJ.out (judgeP_kind c r)).mono ?_); rintro e w8 ⟨rfl, hb⟩)
  replace HBC := Lib.hid (HBC.out.below hb HBC.out.lt)
  replace HBR := Lib.hid (HBR.out.below hb HBR.out.lt)
  replace HC := Lib.hid (HC.out.below hb)
  replace HR := Lib.hid (HR.out.below hb)
  replace HA := Lib.hid (HA.out.next hb)
  replace HB2 := Lib.hid (HB2.out.trans (hb.mono HB2.out.size))
  replace HBB := Lib.hid (HBB.out.below hb HBB.out.lt)
  replace HER := Lib.hid (HER.out.below hb)
  replace HB := Lib.hid (HB.out.trans (hb.mono HB.out.size))
  clear hb
  go_wp2_with fail
  ((with_reducible refine (interf_Broken _ w8).mono ?_); rintro e w9 ⟨rfl, hb⟩)
  replace HBC := Lib.hid (HBC.out.below hb HBC.out.lt)
  replace HBR := Lib.hid (HBR.out.below hb HBR.out.lt)
  replace HC := Lib.hid (HC.out.below hb)
  replace HR := Lib.hid (HR.out.below hb)
  replace HA := Lib.hid (HA.out.next hb)
  replace HB2 := Lib.hid (HB2.out.trans (hb.mono HB2.out.size))
  replace HBB := Lib.hid (HBB.out.below hb HBB.out.lt)
  replace HER := Lib.hid (HER.out.below hb)
  replace HB := Lib.hid (HB.out.trans (hb.mono HB.out.size))
  clear hb
  go_wp2_with fail
  ((with_reducible refine (interf_any w9 HVW.out (worstP_kind c r)).mono ?_); rintro e w10 ⟨rfl, hb⟩)
  replace HBC := Lib.hid (HBC.out.below hb HBC.out.lt)
  replace HBR := Lib.hid (HBR.out.below hb HBR.out.lt)
  replace HC := Lib.hid (HC.out.below hb)
  replace HR := Lib.hid (HR.out.below hb)
  replace HA := Lib.hid (HA.out.next hb)
  replace HB2 := Lib.hid (HB2.out.trans (hb.mono HB2.out.size))
  replace HBB := Lib.hid (HBB.out.below hb HBB.out.lt)
  replace HER := Lib.hid (HER.out.below hb)
  replace HB := Lib.hid (HB.out.trans (hb.mono HB.out.size))
  clear hb
  go_wp2_with fail
  ((with_reducible refine (readO_any (some t) _ w2 w10 HT.out HB2.out HA.out).mono ?_); rintro e w11 ⟨⟨d, y0, y4, y7, er', rfl, hCd, ho0, ho4, ho7, hEr⟩, hb⟩)
  obtain ⟨T', u', rfl⟩ : ∃ T' u', er' = .iface T' u' := by
    rcases hEr with ⟨_, h⟩ | ⟨_, _, h⟩
    · rw [HRO.out] at h
      cases h
    · exact h.iface
  obtain ⟨B0, r0, hv0⟩ := own_sliceP ho0
  subst hv0
  obtain ⟨B4, r4, hv4⟩ := own_sliceP ho4
  subst hv4
  obtain ⟨B7, r7, hv7⟩ := own_sliceP ho7
  subst hv7
  replace HBC := Lib.hid (HBC.out.below hb HBC.out.lt)
  replace HBR := Lib.hid (HBR.out.below hb HBR.out.lt)
  replace HC := Lib.hid (HC.out.below hb)
  replace HR := Lib.hid (HR.out.below hb)
  replace HA := Lib.hid (HA.out.next hb)
  replace HB2 := Lib.hid (HB2.out.trans (hb.mono HB2.out.size))
  replace HBB := Lib.hid (HBB.out.below hb HBB.out.lt)
  replace HER := Lib.hid (HER.out.below hb)
  replace HB := Lib.hid (HB.out.trans (hb.mono HB.out.size))
  clear hb
  clear hEr ho0 ho4 ho7 hCd
  have b0 := HBB.out.cell 0
  simp at b0
  have b1 := HBB.out.lt
  have hb2s := HB2.out.size
  have hbs := HB.out.size
  have hbx : ∀ cs ds, Below w11.heap.size w11 ((w11.alloc (.cells cs 24)).alloc (.cells ds 48)) := fun cs ds => ((Below.refl _ _).alloc (Nat.le_refl _) _).alloc (by simp) _
  have hbt2 := Blk.new (w11.alloc (.cells #[.slice B0 d.has.length r0, .string ⟨d.about.toArray⟩, .int .i64 d.at_, .string ⟨d.by_.toArray⟩, .slice B4 d.for_.length r4, .int .i64 d.from_, .string ⟨d.id_.toArray⟩, .slice B7 d.may_.length r7, .int .i64 d.until_] 24)) 48 #[.int .i64 0, .string ⟨#[]⟩]
  rw [World.size_alloc] at hbt2
  unfold clCells
  go_wp2_with fail
  have hg9 : ((w11.alloc (.cells #[.slice B0 d.has.length r0, .string ⟨d.about.toArray⟩, .int .i64 d.at_, .string ⟨d.by_.toArray⟩, .slice B4 d.for_.length r4, .int .i64 d.from_, .string ⟨d.id_.toArray⟩, .slice B7 d.may_.length r7, .int .i64 d.until_] 24)).alloc (.cells #[.int .i64 0, .string ⟨#[]⟩] 48)).cell? ⟨0, 0, none⟩ = some (.iface 236 (.agg #[.pointer (some ⟨5, 30, none⟩)])) := ((old (HB.out.trans ((hbx _ _).mono hbs))).1 _ _ HG.out.2).trans HG.out.1
  have hEx : ErrO (some t) w2.heap.size ((w11.alloc (.cells #[.slice B0 d.has.length r0, .string ⟨d.about.toArray⟩, .int .i64 d.at_, .string ⟨d.by_.toArray⟩, .slice B4 d.for_.length r4, .int .i64 d.from_, .string ⟨d.id_.toArray⟩, .slice B7 d.may_.length r7, .int .i64 d.until_] 24)).alloc (.cells #[.int .i64 0, .string ⟨#[]⟩] 48)) (.iface T ue) := HER.out.below (hbx _ _)
  have hfin : Calls Tryz.prog 15 #[.iface T ue, .iface 53 (.pointer (some ⟨w11.heap.size + 1, 0, none⟩))] ((w11.alloc (.cells #[.slice B0 d.has.length r0, .string ⟨d.about.toArray⟩, .int .i64 d.at_, .string ⟨d.by_.toArray⟩, .slice B4 d.for_.length r4, .int .i64 d.from_, .string ⟨d.id_.toArray⟩, .slice B7 d.may_.length r7, .int .i64 d.until_] 24)).alloc (.cells #[.int .i64 0, .string ⟨#[]⟩] 48)) (HitP (w11.heap.size + 1) ((w11.alloc (.cells #[.slice B0 d.has.length r0, .string ⟨d.about.toArray⟩, .int .i64 d.at_, .string ⟨d.by_.toArray⟩, .slice B4 d.for_.length r4, .int .i64 d.from_, .string ⟨d.id_.toArray⟩, .slice B7 d.may_.length r7, .int .i64 d.until_] 24)).alloc (.cells #[.int .i64 0, .string ⟨#[]⟩] 48))) := by
    rcases erro_all HRO.out hEx with ⟨u9, y, l, he9, ho9, hl9⟩ | he9
    · injection he9 with e1 e2
      subst e1 e2
      exact as_all y l _ _ 0 ⟨#[]⟩ _ _ ho9 hl9 hbt2 hg9
    · injection he9 with e1 e2
      subst e1 e2
      exact as_trail 5 0 ⟨#[]⟩ ⟨#[]⟩ _ _ hbt2 hg9
  ((with_reducible refine hfin.mono ?_); rintro e w12 ⟨rfl, hgr⟩)
  go_wp2
  go_ret
  exact ⟨rfl, (HB.out.trans ((hbx _ _).mono hbs)).grown hgr (by simp; omega) (fun j hj => by injection hj with hj; omega)⟩
theorem asserts_any (c : C) (r : R) (v0 v4 v7 u1 u2 u3 : Value) (v : Value) (ss : List Stp) (w : World) (hC : ClAt w c v0 v4 v7) (hR : RuAt w r u1 u2 u3) (hS : RdS w v ss) (hF : ∀ s ∈ ss, s.Fine) (hA : TabP w) (hg : w.cell? ⟨0, 0, none⟩ = some (.iface 236 (.agg #[.pointer (some ⟨5, 30, none⟩)]))) :
    Calls Tryz.prog 3 #[.agg #[v0, .string ⟨c.about.toArray⟩, .int .i64 c.at_, .string ⟨c.by_.toArray⟩, v4, .int .i64 c.from_, .string ⟨c.id_.toArray⟩, v7, .int .i64 c.until_], v, .agg #[.int .i64 r.now, .int .i64 r.slack, .string ⟨r.who.toArray⟩, u1, u2, u3]] w (TruP w) := by
  cases hbt : buildT ss with
  | inl x => exact asserts_no c r v0 v4 v7 u1 u2 u3 v ss w hC hR hS hF hA hg x.1 x.2 hbt
  | inr t =>
    cases hro : readO (some t) with
    | none => exact asserts_err c r v0 v4 v7 u1 u2 u3 v ss w hC hR hS hF hA hg t hbt hro
    | some c' =>
      by_cases hk : (judgeP c' r).kind = 0
      · exact asserts_arg c r v0 v4 v7 u1 u2 u3 v ss w hC hR hS hF hA hg t hbt c' hro hk
      · exact asserts_verd c r v0 v4 v7 u1 u2 u3 v ss w hC hR hS hF hA hg t hbt c' hro hk
end Nd
end Go.Proofs.YtbcckpnngonoeaaGreatDoor

