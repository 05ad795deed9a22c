/-
  Walks of package node: steps.
-/
import Derived.Test.YtfhfkggkbeahbaaGreatNsK
namespace Go.Proofs.YtfhfkggkbeahbaaGreat
open Go.RowKit Mem
set_option linter.unusedVariables false
set_option linter.unusedSimpArgs false
namespace Nd
set_option maxRecDepth 100000 in
set_option maxHeartbeats 8000000 in
theorem steps_null (u v : Value) (ss : List Stp) (B : Nat) (w : World) (h : RdT (fun k => k < B) w .null u) (hR : SRow B ss v w) (hB : B ≤ w.heap.size) (hn : ss.length + Tr.nodes .null ≤ 131072) :
    Calls Tryz.prog 46 #[v, u] w (StepsP B (ss ++ stepsT .null) v w) := by
  unfold RdT at h
  subst h
  obtain ⟨A1, c1, hitv⟩ : ∃ A c, ItV (fun k => k < B) w (.iface 109 (.agg #[])) A 0 c := ⟨none, 0, .inl ⟨.inl rfl, rfl, rfl, rfl⟩⟩
  have HITV := Lib.hid hitv
  have HR := Lib.hid hR
  have hoB : Hid (∀ g, v.ownBlock = some g → B ≤ g) := Lib.hid fun g hg => (hR.block g hg).1
  obtain ⟨i0, hi0, hz0, hz1, hz2⟩ := info_parts info_step
  clear hitv hR
  have t1 := ta_0_1
  have t2 := ta_0_2
  have t3 := ta_0_3
  have t4 := ta_0_4
  have t5 := ta_0_5
  obtain ⟨Av, qv, rfl⟩ := StepsP.form HR.out
  go_enter Tryz.func46, Tryz.ntmps46
  go_wp2_with fail
  rw [ms_null _ _ ?nm]
  case nm => kernel_rfl
  go_wp2_with fail
  ((with_reducible refine (sf_null _).mono ?_); rintro e w1 ⟨rfl, hb1⟩)
  have hw1s := hb1.size
  have hbw5 : Below w.heap.size w (w1.alloc (.cells #[.int .i64 1, .bool false, .int .u64 0, .string ⟨#[]⟩, .int .i64 0, .slice none 0 0] 54)) := hb1.alloc hb1.size _
  have hbl5 : Blk (w1.alloc (.cells #[.int .i64 1, .bool false, .int .u64 0, .string ⟨#[]⟩, .int .i64 0, .slice none 0 0] 54)) w1.heap.size 54 (cell6 nullS none 0).toArray := Blk.new w1 54 #[.int .i64 1, .bool false, .int .u64 0, .string ⟨#[]⟩, .int .i64 0, .slice none 0 0]
  have hky5 : KeyRow (w1.alloc (.cells #[.int .i64 1, .bool false, .int .u64 0, .string ⟨#[]⟩, .int .i64 0, .slice none 0 0] 54)) (nullS, none, 0) := World.ownsRow_nil _ _ _ _
  go_upto_region 18 with fail
  generalize w1.alloc (.cells #[.int .i64 1, .bool false, .int .u64 0, .string ⟨#[]⟩, .int .i64 0, .slice none 0 0] 54) = W5 at *
  generalize hb5 : w1.heap.size = b5 at *
  have HIT5 : Hid (ItV (fun k => k < B) W5 (.iface 109 (.agg #[])) A1 0 c1) := Lib.hid (HITV.out.move fun j _ hj => ⟨hj, hbw5.block j (by omega)⟩)
  have HR5 := Lib.hid (HR.out.below hbw5)
  have HL5 : Hid (Blk W5 b5 54 (cell6 nullS none 0).toArray ∧ KeyRow W5 (nullS, none, 0)) := Lib.hid ⟨hbl5, hky5⟩
  clear hbl5 hky5 HITV
  clear t1 t2 t3 t4 t5
  go_wp2_with fail
  ((with_reducible refine (itm_any HIT5.out).mono ?_); rintro e w6 ⟨rfl, hb6⟩)
  have hbw6 := hbw5.trans (hb6.mono hbw5.size)
  have HS6 : Hid (StL B b5 (nullS, none, 0) (ss ++ stepsL (([] : List Tr).take 0)) (.slice Av ss.length qv) w (.slice Av ss.length qv) w6) := Lib.hid ⟨by simpa [stepsL] using HR5.out.below hb6, grown_of_below hbw6 _, .inl rfl, HL5.out.1.below hb6 HL5.out.1.lt, HL5.out.2.below hb6, fun e => by have := (HR.out.block b5 e.symm).2.1; omega⟩
  clear hb6 hbw5 HL5 HR5
  go_wp2_with fail
  go_loopw [0, 55] (fun c0 c55 wr => ∃ k : Nat, k ≤ 0 ∧ c55 = .int .i64 k ∧ Hid (StL B b5 (nullS, none, 0) (ss ++ stepsL (([] : List Tr).take k)) (.slice Av ss.length qv) w c0 wr)) (fun _ c55 _ => 0 - (intOf c55).toNat)
  case atStart => exact ⟨0, Nat.zero_le _, rfl, HS6⟩
  case round =>
    obtain ⟨k, hk, rfl, HS⟩ := hrel
    obtain rfl : k = 0 := by omega
    rw [show (([] : List Tr).take 0) = [] from rfl] at HS
    have hst : stepsT .null = stepsL ([] : List Tr) ++ [nullS] := by simp [stepsT, stepsL]
    have hlen : (ss ++ stepsL ([] : List Tr)).length + 1 ≤ 131072 := by
      rw [List.length_append, stepsL_len]
      simp [nodesL]
      simp only [Tr.nodes] at hn
      omega
    obtain ⟨es, he1, he2, he3⟩ := HS.out.row
    have HS' := HS
    have k0 : wr.cell? ⟨b5, 0, none⟩ = some (.int .i64 1) := HS.out.bl.cell 0
    have k1 : wr.cell? ⟨b5, 1, none⟩ = some (.bool false) := HS.out.bl.cell 1
    have k2 : wr.cell? ⟨b5, 2, none⟩ = some (.int .u64 0) := HS.out.bl.cell 2
    have k3 : wr.cell? ⟨b5, 3, none⟩ = some (.string ⟨#[]⟩) := HS.out.bl.cell 3
    have k4 : wr.cell? ⟨b5, 4, none⟩ = some (.int .i64 0) := HS.out.bl.cell 4
    have k5 : wr.cell? ⟨b5, 5, none⟩ = some (.slice none 0 0) := HS.out.bl.cell 5
    have hws := HS.out.gr.size
    have ho9 : (wr.alloc (.cells #[.int .i64 1, .bool false, .int .u64 0, .string ⟨#[]⟩, .int .i64 0, .slice none 0 0] 54)).ownsRow B 54 6 u0 (ss ++ stepsL ([] : List Tr)).length (cellsE es) := own_below he2 ((Below.refl _ _).alloc (Nat.le_refl _) _)
    have HE := Lib.hid (And.intro he1 he3)
    clear he1 he2 he3 HS
    obtain ⟨NN, hNN⟩ : ∃ NN, (ss ++ stepsL ([] : List Tr)).length = NN := ⟨_, rfl⟩
    rw [hNN] at ho9 hlen
    have HNN := Lib.hid hNN
    clear hNN
    go_wp2_with (at_builtin; refine wpList_append_own_at _ rfl _ _ 22 rfl B 54 i0 _ 6 72 Tryz.underlying22 hi0 hz0 hz1 hz2 rfl (by omega) u0 NN (cellsE es) rfl ho9 ⟨wr.heap.size, 0, none⟩ 1 1 (cell6 nullS none 0) rfl rfl (cells_new wr (cell6 nullS none 0) 54) (cell6_one nullS none 0) ?b1 ?b2 ?b3 ?_; (unfold maxLen; omega); omega; (simp; omega); intro v9 w9 hown9 hgr9 hnil9 hat9)
    go_ret
    rw [hst, ← List.append_assoc]
    refine StL.fin HS'.out es HE.out.1 HE.out.2 _ ?_ hgr9 hat9
    rw [HNN.out]
    exact hown9
set_option maxRecDepth 100000 in
set_option maxHeartbeats 8000000 in
theorem steps_flag (x : Bool) (u v : Value) (ss : List Stp) (B : Nat) (w : World) (h : RdT (fun k => k < B) w (.flag x) u) (hR : SRow B ss v w) (hB : B ≤ w.heap.size) (hn : ss.length + Tr.nodes (.flag x) ≤ 131072) :
    Calls Tryz.prog 46 #[v, u] w (StepsP B (ss ++ stepsT (.flag x)) v w) := by
  unfold RdT at h
  subst h
  obtain ⟨A1, c1, hitv⟩ : ∃ A c, ItV (fun k => k < B) w (.iface 110 (.bool x)) A 0 c := ⟨none, 0, .inl ⟨.inr (.inl ⟨_, rfl⟩), rfl, rfl, rfl⟩⟩
  have HITV := Lib.hid hitv
  have HR := Lib.hid hR
  have hoB : Hid (∀ g, v.ownBlock = some g → B ≤ g) := Lib.hid fun g hg => (hR.block g hg).1
  obtain ⟨i0, hi0, hz0, hz1, hz2⟩ := info_parts info_step
  clear hitv hR
  have t1 := ta_1_1 x
  have t2 := ta_1_2 x
  have t3 := ta_1_3 x
  have t4 := ta_1_4 x
  have t5 := ta_1_5 x
  obtain ⟨Av, qv, rfl⟩ := StepsP.form HR.out
  go_enter Tryz.func46, Tryz.ntmps46
  go_wp2_with fail
  rw [ms_flag _ x _ ?nm]
  case nm => kernel_rfl
  go_wp2_with fail
  ((with_reducible refine (sf_flag x _).mono ?_); rintro e w1 ⟨rfl, hb1⟩)
  have hw1s := hb1.size
  have hbw5 : Below w.heap.size w (w1.alloc (.cells #[.int .i64 2, .bool x, .int .u64 0, .string ⟨#[]⟩, .int .i64 0, .slice none 0 0] 54)) := hb1.alloc hb1.size _
  have hbl5 : Blk (w1.alloc (.cells #[.int .i64 2, .bool x, .int .u64 0, .string ⟨#[]⟩, .int .i64 0, .slice none 0 0] 54)) w1.heap.size 54 (cell6 (flagS x) none 0).toArray := Blk.new w1 54 #[.int .i64 2, .bool x, .int .u64 0, .string ⟨#[]⟩, .int .i64 0, .slice none 0 0]
  have hky5 : KeyRow (w1.alloc (.cells #[.int .i64 2, .bool x, .int .u64 0, .string ⟨#[]⟩, .int .i64 0, .slice none 0 0] 54)) ((flagS x), none, 0) := World.ownsRow_nil _ _ _ _
  go_upto_region 18 with fail
  generalize w1.alloc (.cells #[.int .i64 2, .bool x, .int .u64 0, .string ⟨#[]⟩, .int .i64 0, .slice none 0 0] 54) = W5 at *
  generalize hb5 : w1.heap.size = b5 at *
  have HIT5 : Hid (ItV (fun k => k < B) W5 (.iface 110 (.bool x)) A1 0 c1) := Lib.hid (HITV.out.move fun j _ hj => ⟨hj, hbw5.block j (by omega)⟩)
  have HR5 := Lib.hid (HR.out.below hbw5)
  have HL5 : Hid (Blk W5 b5 54 (cell6 (flagS x) none 0).toArray ∧ KeyRow W5 ((flagS x), none, 0)) := Lib.hid ⟨hbl5, hky5⟩
  clear hbl5 hky5 HITV
  clear t1 t2 t3 t4 t5
  go_wp2_with fail
  ((with_reducible refine (itm_any HIT5.out).mono ?_); rintro e w6 ⟨rfl, hb6⟩)
  have hbw6 := hbw5.trans (hb6.mono hbw5.size)
  have HS6 : Hid (StL B b5 ((flagS x), none, 0) (ss ++ stepsL (([] : List Tr).take 0)) (.slice Av ss.length qv) w (.slice Av ss.length qv) w6) := Lib.hid ⟨by simpa [stepsL] using HR5.out.below hb6, grown_of_below hbw6 _, .inl rfl, HL5.out.1.below hb6 HL5.out.1.lt, HL5.out.2.below hb6, fun e => by have := (HR.out.block b5 e.symm).2.1; omega⟩
  clear hb6 hbw5 HL5 HR5
  go_wp2_with fail
  go_loopw [0, 55] (fun c0 c55 wr => ∃ k : Nat, k ≤ 0 ∧ c55 = .int .i64 k ∧ Hid (StL B b5 ((flagS x), none, 0) (ss ++ stepsL (([] : List Tr).take k)) (.slice Av ss.length qv) w c0 wr)) (fun _ c55 _ => 0 - (intOf c55).toNat)
  case atStart => exact ⟨0, Nat.zero_le _, rfl, HS6⟩
  case round =>
    obtain ⟨k, hk, rfl, HS⟩ := hrel
    obtain rfl : k = 0 := by omega
    rw [show (([] : List Tr).take 0) = [] from rfl] at HS
    have hst : stepsT (.flag x) = stepsL ([] : List Tr) ++ [(flagS x)] := by simp [stepsT, stepsL]
    have hlen : (ss ++ stepsL ([] : List Tr)).length + 1 ≤ 131072 := by
      rw [List.length_append, stepsL_len]
      simp [nodesL]
      simp only [Tr.nodes] at hn
      omega
    obtain ⟨es, he1, he2, he3⟩ := HS.out.row
    have HS' := HS
    have k0 : wr.cell? ⟨b5, 0, none⟩ = some (.int .i64 2) := HS.out.bl.cell 0
    have k1 : wr.cell? ⟨b5, 1, none⟩ = some (.bool x) := HS.out.bl.cell 1
    have k2 : wr.cell? ⟨b5, 2, none⟩ = some (.int .u64 0) := HS.out.bl.cell 2
    have k3 : wr.cell? ⟨b5, 3, none⟩ = some (.string ⟨#[]⟩) := HS.out.bl.cell 3
    have k4 : wr.cell? ⟨b5, 4, none⟩ = some (.int .i64 0) := HS.out.bl.cell 4
    have k5 : wr.cell? ⟨b5, 5, none⟩ = some (.slice none 0 0) := HS.out.bl.cell 5
    have hws := HS.out.gr.size
    have ho9 : (wr.alloc (.cells #[.int .i64 2, .bool x, .int .u64 0, .string ⟨#[]⟩, .int .i64 0, .slice none 0 0] 54)).ownsRow B 54 6 u0 (ss ++ stepsL ([] : List Tr)).length (cellsE es) := own_below he2 ((Below.refl _ _).alloc (Nat.le_refl _) _)
    have HE := Lib.hid (And.intro he1 he3)
    clear he1 he2 he3 HS
    obtain ⟨NN, hNN⟩ : ∃ NN, (ss ++ stepsL ([] : List Tr)).length = NN := ⟨_, rfl⟩
    rw [hNN] at ho9 hlen
    have HNN := Lib.hid hNN
    clear hNN
    go_wp2_with (at_builtin; refine wpList_append_own_at _ rfl _ _ 22 rfl B 54 i0 _ 6 72 Tryz.underlying22 hi0 hz0 hz1 hz2 rfl (by omega) u0 NN (cellsE es) rfl ho9 ⟨wr.heap.size, 0, none⟩ 1 1 (cell6 (flagS x) none 0) rfl rfl (cells_new wr (cell6 (flagS x) none 0) 54) (cell6_one (flagS x) none 0) ?b1 ?b2 ?b3 ?_; (unfold maxLen; omega); omega; (simp; omega); intro v9 w9 hown9 hgr9 hnil9 hat9)
    go_ret
    rw [hst, ← List.append_assoc]
    refine StL.fin HS'.out es HE.out.1 HE.out.2 _ ?_ hgr9 hat9
    rw [HNN.out]
    exact hown9
set_option maxRecDepth 100000 in
set_option maxHeartbeats 8000000 in
theorem steps_num (x : Nat) (u v : Value) (ss : List Stp) (B : Nat) (w : World) (h : RdT (fun k => k < B) w (.num x) u) (hR : SRow B ss v w) (hB : B ≤ w.heap.size) (hn : ss.length + Tr.nodes (.num x) ≤ 131072) :
    Calls Tryz.prog 46 #[v, u] w (StepsP B (ss ++ stepsT (.num x)) v w) := by
  unfold RdT at h
  subst h
  obtain ⟨A1, c1, hitv⟩ : ∃ A c, ItV (fun k => k < B) w (.iface 113 (.float .f64 x)) A 0 c := ⟨none, 0, .inl ⟨.inr (.inr (.inl ⟨_, rfl⟩)), rfl, rfl, rfl⟩⟩
  have HITV := Lib.hid hitv
  have HR := Lib.hid hR
  have hoB : Hid (∀ g, v.ownBlock = some g → B ≤ g) := Lib.hid fun g hg => (hR.block g hg).1
  obtain ⟨i0, hi0, hz0, hz1, hz2⟩ := info_parts info_step
  clear hitv hR
  have t1 := ta_2_1 x
  have t2 := ta_2_2 x
  have t3 := ta_2_3 x
  have t4 := ta_2_4 x
  have t5 := ta_2_5 x
  have hfb := f64bits x
  obtain ⟨Av, qv, rfl⟩ := StepsP.form HR.out
  go_enter Tryz.func46, Tryz.ntmps46
  go_wp2_with fail
  rw [ms_num _ x _ ?nm]
  case nm => kernel_rfl
  go_wp2_with fail
  ((with_reducible refine (sf_num x _).mono ?_); rintro e w1 ⟨rfl, hb1⟩)
  have hw1s := hb1.size
  have hbw5 : Below w.heap.size w (w1.alloc (.cells #[.int .i64 3, .bool false, .int .u64 (x : Int), .string ⟨#[]⟩, .int .i64 0, .slice none 0 0] 54)) := hb1.alloc hb1.size _
  have hbl5 : Blk (w1.alloc (.cells #[.int .i64 3, .bool false, .int .u64 (x : Int), .string ⟨#[]⟩, .int .i64 0, .slice none 0 0] 54)) w1.heap.size 54 (cell6 (numS x) none 0).toArray := Blk.new w1 54 #[.int .i64 3, .bool false, .int .u64 (x : Int), .string ⟨#[]⟩, .int .i64 0, .slice none 0 0]
  have hky5 : KeyRow (w1.alloc (.cells #[.int .i64 3, .bool false, .int .u64 (x : Int), .string ⟨#[]⟩, .int .i64 0, .slice none 0 0] 54)) ((numS x), none, 0) := World.ownsRow_nil _ _ _ _
  go_upto_region 18 with fail
  generalize w1.alloc (.cells #[.int .i64 3, .bool false, .int .u64 (x : Int), .string ⟨#[]⟩, .int .i64 0, .slice none 0 0] 54) = W5 at *
  generalize hb5 : w1.heap.size = b5 at *
  have HIT5 : Hid (ItV (fun k => k < B) W5 (.iface 113 (.float .f64 x)) A1 0 c1) := Lib.hid (HITV.out.move fun j _ hj => ⟨hj, hbw5.block j (by omega)⟩)
  have HR5 := Lib.hid (HR.out.below hbw5)
  have HL5 : Hid (Blk W5 b5 54 (cell6 (numS x) none 0).toArray ∧ KeyRow W5 ((numS x), none, 0)) := Lib.hid ⟨hbl5, hky5⟩
  clear hbl5 hky5 HITV
  clear t1 t2 t3 t4 t5
  go_wp2_with fail
  ((with_reducible refine (itm_any HIT5.out).mono ?_); rintro e w6 ⟨rfl, hb6⟩)
  have hbw6 := hbw5.trans (hb6.mono hbw5.size)
  have HS6 : Hid (StL B b5 ((numS x), none, 0) (ss ++ stepsL (([] : List Tr).take 0)) (.slice Av ss.length qv) w (.slice Av ss.length qv) w6) := Lib.hid ⟨by simpa [stepsL] using HR5.out.below hb6, grown_of_below hbw6 _, .inl rfl, HL5.out.1.below hb6 HL5.out.1.lt, HL5.out.2.below hb6, fun e => by have := (HR.out.block b5 e.symm).2.1; omega⟩
  clear hb6 hbw5 HL5 HR5
  go_wp2_with fail
  go_loopw [0, 55] (fun c0 c55 wr => ∃ k : Nat, k ≤ 0 ∧ c55 = .int .i64 k ∧ Hid (StL B b5 ((numS x), none, 0) (ss ++ stepsL (([] : List Tr).take k)) (.slice Av ss.length qv) w c0 wr)) (fun _ c55 _ => 0 - (intOf c55).toNat)
  case atStart => exact ⟨0, Nat.zero_le _, rfl, HS6⟩
  case round =>
    obtain ⟨k, hk, rfl, HS⟩ := hrel
    obtain rfl : k = 0 := by omega
    rw [show (([] : List Tr).take 0) = [] from rfl] at HS
    have hst : stepsT (.num x) = stepsL ([] : List Tr) ++ [(numS x)] := by simp [stepsT, stepsL]
    have hlen : (ss ++ stepsL ([] : List Tr)).length + 1 ≤ 131072 := by
      rw [List.length_append, stepsL_len]
      simp [nodesL]
      simp only [Tr.nodes] at hn
      omega
    obtain ⟨es, he1, he2, he3⟩ := HS.out.row
    have HS' := HS
    have k0 : wr.cell? ⟨b5, 0, none⟩ = some (.int .i64 3) := HS.out.bl.cell 0
    have k1 : wr.cell? ⟨b5, 1, none⟩ = some (.bool false) := HS.out.bl.cell 1
    have k2 : wr.cell? ⟨b5, 2, none⟩ = some (.int .u64 (x : Int)) := HS.out.bl.cell 2
    have k3 : wr.cell? ⟨b5, 3, none⟩ = some (.string ⟨#[]⟩) := HS.out.bl.cell 3
    have k4 : wr.cell? ⟨b5, 4, none⟩ = some (.int .i64 0) := HS.out.bl.cell 4
    have k5 : wr.cell? ⟨b5, 5, none⟩ = some (.slice none 0 0) := HS.out.bl.cell 5
    have hws := HS.out.gr.size
    have ho9 : (wr.alloc (.cells #[.int .i64 3, .bool false, .int .u64 (x : Int), .string ⟨#[]⟩, .int .i64 0, .slice none 0 0] 54)).ownsRow B 54 6 u0 (ss ++ stepsL ([] : List Tr)).length (cellsE es) := own_below he2 ((Below.refl _ _).alloc (Nat.le_refl _) _)
    have HE := Lib.hid (And.intro he1 he3)
    clear he1 he2 he3 HS
    obtain ⟨NN, hNN⟩ : ∃ NN, (ss ++ stepsL ([] : List Tr)).length = NN := ⟨_, rfl⟩
    rw [hNN] at ho9 hlen
    have HNN := Lib.hid hNN
    clear hNN
    go_wp2_with (at_builtin; refine wpList_append_own_at _ rfl _ _ 22 rfl B 54 i0 _ 6 72 Tryz.underlying22 hi0 hz0 hz1 hz2 rfl (by omega) u0 NN (cellsE es) rfl ho9 ⟨wr.heap.size, 0, none⟩ 1 1 (cell6 (numS x) none 0) rfl rfl (cells_new wr (cell6 (numS x) none 0) 54) (cell6_one (numS x) none 0) ?b1 ?b2 ?b3 ?_; (unfold maxLen; omega); omega; (simp; omega); intro v9 w9 hown9 hgr9 hnil9 hat9)
    go_ret
    rw [hst, ← List.append_assoc]
    refine StL.fin HS'.out es HE.out.1 HE.out.2 _ ?_ hgr9 hat9
    rw [HNN.out]
    exact hown9
set_option maxRecDepth 100000 in
set_option maxHeartbeats 8000000 in
theorem steps_text (x : Tx) (u v : Value) (ss : List Stp) (B : Nat) (w : World) (h : RdT (fun k => k < B) w (.text x) u) (hR : SRow B ss v w) (hB : B ≤ w.heap.size) (hn : ss.length + Tr.nodes (.text x) ≤ 131072) :
    Calls Tryz.prog 46 #[v, u] w (StepsP B (ss ++ stepsT (.text x)) v w) := by
  unfold RdT at h
  subst h
  obtain ⟨A1, c1, hitv⟩ : ∃ A c, ItV (fun k => k < B) w (.iface 115 (.string ⟨x.toArray⟩)) A 0 c := ⟨none, 0, .inl ⟨.inr (.inr (.inr ⟨_, rfl⟩)), rfl, rfl, rfl⟩⟩
  have HITV := Lib.hid hitv
  have HR := Lib.hid hR
  have hoB : Hid (∀ g, v.ownBlock = some g → B ≤ g) := Lib.hid fun g hg => (hR.block g hg).1
  obtain ⟨i0, hi0, hz0, hz1, hz2⟩ := info_parts info_step
  clear hitv hR
  have t1 := ta_3_1 ⟨x.toArray⟩
  have t2 := ta_3_2 ⟨x.toArray⟩
  have t3 := ta_3_3 ⟨x.toArray⟩
  have t4 := ta_3_4 ⟨x.toArray⟩
  have t5 := ta_3_5 ⟨x.toArray⟩
  obtain ⟨Av, qv, rfl⟩ := StepsP.form HR.out
  go_enter Tryz.func46, Tryz.ntmps46
  go_wp2_with fail
  rw [ms_text _ ⟨x.toArray⟩ _ ?nm]
  case nm => kernel_rfl
  go_wp2_with fail
  ((with_reducible refine (sf_text ⟨x.toArray⟩ _).mono ?_); rintro e w1 ⟨rfl, hb1⟩)
  have hw1s := hb1.size
  have hbw5 : Below w.heap.size w (w1.alloc (.cells #[.int .i64 4, .bool false, .int .u64 0, .string ⟨x.toArray⟩, .int .i64 0, .slice none 0 0] 54)) := hb1.alloc hb1.size _
  have hbl5 : Blk (w1.alloc (.cells #[.int .i64 4, .bool false, .int .u64 0, .string ⟨x.toArray⟩, .int .i64 0, .slice none 0 0] 54)) w1.heap.size 54 (cell6 (textS x) none 0).toArray := Blk.new w1 54 #[.int .i64 4, .bool false, .int .u64 0, .string ⟨x.toArray⟩, .int .i64 0, .slice none 0 0]
  have hky5 : KeyRow (w1.alloc (.cells #[.int .i64 4, .bool false, .int .u64 0, .string ⟨x.toArray⟩, .int .i64 0, .slice none 0 0] 54)) ((textS x), none, 0) := World.ownsRow_nil _ _ _ _
  go_upto_region 18 with fail
  generalize w1.alloc (.cells #[.int .i64 4, .bool false, .int .u64 0, .string ⟨x.toArray⟩, .int .i64 0, .slice none 0 0] 54) = W5 at *
  generalize hb5 : w1.heap.size = b5 at *
  have HIT5 : Hid (ItV (fun k => k < B) W5 (.iface 115 (.string ⟨x.toArray⟩)) A1 0 c1) := Lib.hid (HITV.out.move fun j _ hj => ⟨hj, hbw5.block j (by omega)⟩)
  have HR5 := Lib.hid (HR.out.below hbw5)
  have HL5 : Hid (Blk W5 b5 54 (cell6 (textS x) none 0).toArray ∧ KeyRow W5 ((textS x), none, 0)) := Lib.hid ⟨hbl5, hky5⟩
  clear hbl5 hky5 HITV
  clear t1 t2 t3 t4 t5
  go_wp2_with fail
  ((with_reducible refine (itm_any HIT5.out).mono ?_); rintro e w6 ⟨rfl, hb6⟩)
  have hbw6 := hbw5.trans (hb6.mono hbw5.size)
  have HS6 : Hid (StL B b5 ((textS x), none, 0) (ss ++ stepsL (([] : List Tr).take 0)) (.slice Av ss.length qv) w (.slice Av ss.length qv) w6) := Lib.hid ⟨by simpa [stepsL] using HR5.out.below hb6, grown_of_below hbw6 _, .inl rfl, HL5.out.1.below hb6 HL5.out.1.lt, HL5.out.2.below hb6, fun e => by have := (HR.out.block b5 e.symm).2.1; omega⟩
  clear hb6 hbw5 HL5 HR5
  go_wp2_with fail
  go_loopw [0, 55] (fun c0 c55 wr => ∃ k : Nat, k ≤ 0 ∧ c55 = .int .i64 k ∧ Hid (StL B b5 ((textS x), none, 0) (ss ++ stepsL (([] : List Tr).take k)) (.slice Av ss.length qv) w c0 wr)) (fun _ c55 _ => 0 - (intOf c55).toNat)
  case atStart => exact ⟨0, Nat.zero_le _, rfl, HS6⟩
  case round =>
    obtain ⟨k, hk, rfl, HS⟩ := hrel
    obtain rfl : k = 0 := by omega
    rw [show (([] : List Tr).take 0) = [] from rfl] at HS
    have hst : stepsT (.text x) = stepsL ([] : List Tr) ++ [(textS x)] := by simp [stepsT, stepsL]
    have hlen : (ss ++ stepsL ([] : List Tr)).length + 1 ≤ 131072 := by
      rw [List.length_append, stepsL_len]
      simp [nodesL]
      simp only [Tr.nodes] at hn
      omega
    obtain ⟨es, he1, he2, he3⟩ := HS.out.row
    have HS' := HS
    have k0 : wr.cell? ⟨b5, 0, none⟩ = some (.int .i64 4) := HS.out.bl.cell 0
    have k1 : wr.cell? ⟨b5, 1, none⟩ = some (.bool false) := HS.out.bl.cell 1
    have k2 : wr.cell? ⟨b5, 2, none⟩ = some (.int .u64 0) := HS.out.bl.cell 2
    have k3 : wr.cell? ⟨b5, 3, none⟩ = some (.string ⟨x.toArray⟩) := HS.out.bl.cell 3
    have k4 : wr.cell? ⟨b5, 4, none⟩ = some (.int .i64 0) := HS.out.bl.cell 4
    have k5 : wr.cell? ⟨b5, 5, none⟩ = some (.slice none 0 0) := HS.out.bl.cell 5
    have hws := HS.out.gr.size
    have ho9 : (wr.alloc (.cells #[.int .i64 4, .bool false, .int .u64 0, .string ⟨x.toArray⟩, .int .i64 0, .slice none 0 0] 54)).ownsRow B 54 6 u0 (ss ++ stepsL ([] : List Tr)).length (cellsE es) := own_below he2 ((Below.refl _ _).alloc (Nat.le_refl _) _)
    have HE := Lib.hid (And.intro he1 he3)
    clear he1 he2 he3 HS
    obtain ⟨NN, hNN⟩ : ∃ NN, (ss ++ stepsL ([] : List Tr)).length = NN := ⟨_, rfl⟩
    rw [hNN] at ho9 hlen
    have HNN := Lib.hid hNN
    clear hNN
    go_wp2_with (at_builtin; refine wpList_append_own_at _ rfl _ _ 22 rfl B 54 i0 _ 6 72 Tryz.underlying22 hi0 hz0 hz1 hz2 rfl (by omega) u0 NN (cellsE es) rfl ho9 ⟨wr.heap.size, 0, none⟩ 1 1 (cell6 (textS x) none 0) rfl rfl (cells_new wr (cell6 (textS x) none 0) 54) (cell6_one (textS x) none 0) ?b1 ?b2 ?b3 ?_; (unfold maxLen; omega); omega; (simp; omega); intro v9 w9 hown9 hgr9 hnil9 hat9)
    go_ret
    rw [hst, ← List.append_assoc]
    refine StL.fin HS'.out es HE.out.1 HE.out.2 _ ?_ hgr9 hat9
    rw [HNN.out]
    exact hown9
set_option maxRecDepth 100000 in
set_option maxHeartbeats 8000000 in
theorem steps_list (l : List Tr) (u v : Value) (ss : List Stp) (B : Nat) (w : World) (h : RdT (fun k => k < B) w (.list l) u) (hR : SRow B ss v w) (hB : B ≤ w.heap.size) (hn : ss.length + Tr.nodes (.list l) ≤ 131072) (ih : ∀ x, x ∈ l → ∀ u v ss B w, RdT (fun k => k < B) w x u → SRow B ss v w → B ≤ w.heap.size → ss.length + x.nodes ≤ 131072 → Calls Tryz.prog 46 #[v, u] w (StepsP B (ss ++ stepsT x) v w)) :
    Calls Tryz.prog 46 #[v, u] w (StepsP B (ss ++ stepsT (.list l)) v w) := by
  have hitv0 := h.itv
  unfold RdT at h
  obtain ⟨g1, A1, c1, vs, rfl, hS1, hB1, hR1, hL1⟩ := h
  have d3 : w.cell? ⟨g1, 3, none⟩ = some (.slice A1 l.length c1) := hB1.cell 3
  have hitv : ItV (fun k => k < B) w (.iface 93 (.pointer (some ⟨g1, 0, none⟩))) A1 l.length c1 := .inr (.inl ⟨g1, rfl, hS1, d3⟩)
  have hg1 := hB1.lt
  have HRD := Lib.hid (And.intro hR1 hL1)
  clear hitv0 hB1 hR1 hL1
  have HIH := Lib.hid ih
  clear ih
  have hll : l.length ≤ 131072 := by
    have h1 := nodes_len l
    simp only [Tr.nodes] at hn
    omega
  have HITV := Lib.hid hitv
  have HR := Lib.hid hR
  have hoB : Hid (∀ g, v.ownBlock = some g → B ≤ g) := Lib.hid fun g hg => (hR.block g hg).1
  obtain ⟨i0, hi0, hz0, hz1, hz2⟩ := info_parts info_step
  clear hitv hR
  have t1 := ta_4_1 (some ⟨g1, 0, none⟩)
  have t2 := ta_4_2 (some ⟨g1, 0, none⟩)
  have t3 := ta_4_3 (some ⟨g1, 0, none⟩)
  have t4 := ta_4_4 (some ⟨g1, 0, none⟩)
  have t5 := ta_4_5 (some ⟨g1, 0, none⟩)
  obtain ⟨Av, qv, rfl⟩ := StepsP.form HR.out
  go_enter Tryz.func46, Tryz.ntmps46
  go_wp2_with fail
  rw [ms_list _ g1 _ ?nm]
  case nm => kernel_rfl
  go_wp2_with fail
  ((with_reducible refine (sf_list g1 _).mono ?_); rintro e w1 ⟨rfl, hb1⟩)
  have d3' := (hb1.cell (p := ⟨g1, 3, none⟩) hg1).trans d3
  have hg1w : g1 < w1.heap.size := by have := hb1.size; omega
  have hw1s := hb1.size
  have hbw5 : Below w.heap.size w (w1.alloc (.cells #[.int .i64 5, .bool false, .int .u64 0, .string ⟨#[]⟩, .int .i64 (l.length : Int), .slice none 0 0] 54)) := hb1.alloc hb1.size _
  have hbl5 : Blk (w1.alloc (.cells #[.int .i64 5, .bool false, .int .u64 0, .string ⟨#[]⟩, .int .i64 (l.length : Int), .slice none 0 0] 54)) w1.heap.size 54 (cell6 (listS l.length) none 0).toArray := Blk.new w1 54 #[.int .i64 5, .bool false, .int .u64 0, .string ⟨#[]⟩, .int .i64 (l.length : Int), .slice none 0 0]
  have hky5 : KeyRow (w1.alloc (.cells #[.int .i64 5, .bool false, .int .u64 0, .string ⟨#[]⟩, .int .i64 (l.length : Int), .slice none 0 0] 54)) ((listS l.length), none, 0) := World.ownsRow_nil _ _ _ _
  go_upto_region 18 with fail
  generalize w1.alloc (.cells #[.int .i64 5, .bool false, .int .u64 0, .string ⟨#[]⟩, .int .i64 (l.length : Int), .slice none 0 0] 54) = W5 at *
  generalize hb5 : w1.heap.size = b5 at *
  have HIT5 : Hid (ItV (fun k => k < B) W5 (.iface 93 (.pointer (some ⟨g1, 0, none⟩))) A1 l.length c1) := Lib.hid (HITV.out.move fun j _ hj => ⟨hj, hbw5.block j (by omega)⟩)
  have HR5 := Lib.hid (HR.out.below hbw5)
  have HL5 : Hid (Blk W5 b5 54 (cell6 (listS l.length) none 0).toArray ∧ KeyRow W5 ((listS l.length), none, 0)) := Lib.hid ⟨hbl5, hky5⟩
  clear hbl5 hky5 HITV
  clear t1 t2 t3 t4 t5 d3 d3' hg1w
  go_wp2_with fail
  ((with_reducible refine (itm_any HIT5.out).mono ?_); rintro e w6 ⟨rfl, hb6⟩)
  have hbw6 := hbw5.trans (hb6.mono hbw5.size)
  have HS6 : Hid (StL B b5 ((listS l.length), none, 0) (ss ++ stepsL (l.take 0)) (.slice Av ss.length qv) w (.slice Av ss.length qv) w6) := Lib.hid ⟨by simpa [stepsL] using HR5.out.below hb6, grown_of_below hbw6 _, .inl rfl, HL5.out.1.below hb6 HL5.out.1.lt, HL5.out.2.below hb6, fun e => by have := (HR.out.block b5 e.symm).2.1; omega⟩
  clear hb6 hbw5 HL5 HR5
  go_wp2_with fail
  go_loopw [0, 55] (fun c0 c55 wr => ∃ k : Nat, k ≤ l.length ∧ c55 = .int .i64 k ∧ Hid (StL B b5 ((listS l.length), none, 0) (ss ++ stepsL (l.take k)) (.slice Av ss.length qv) w c0 wr)) (fun _ c55 _ => l.length - (intOf c55).toNat)
  case atStart => exact ⟨0, Nat.zero_le _, rfl, HS6⟩
  case round =>
    obtain ⟨k, hk, rfl, HS⟩ := hrel
    have hbel : Below B w wr := HS.out.bel hoB.out hB
    by_cases hlt : k < l.length
    · obtain ⟨g, o, tx, ux, rfl, hcell, hrd⟩ := rowB_at HRD.out.1 HRD.out.2 hbel hlt
      have hk0 : (0 : Int) ≤ (k : Int) := by omega
      have hk1 : (k : Int) < (l.length : Int) := by omega
      have hws := HS.out.gr.size
      have hln : (ss ++ stepsL (l.take k)).length + l[k].nodes ≤ 131072 := by
        rw [List.length_append, stepsL_len]
        have h1 := nodesL_snoc l k hlt
        have h2 : nodesL (l.take (k + 1)) ≤ nodesL l := by
          have h3 := nodesL_app (l.take (k + 1)) (l.drop (k + 1))
          rw [List.take_append_drop] at h3
          omega
        simp only [Tr.nodes] at hn
        omega
      have hc := HIH.out l[k] (List.getElem_mem hlt) (.iface tx ux) u0 (ss ++ stepsL (l.take k)) B wr hrd HS.out.row (by omega) hln
      have HC := Lib.hid hc
      clear hc hrd hln
      go_wp2_with fail
      refine HC.out.mono ?_
      rintro e w7 ⟨v7, rfl, hr7, hg7, ho7⟩
      rw [List.append_assoc, ← stepsL_snoc l k hlt] at hr7
      have HS7 := Lib.hid (HS.out.step hr7 hg7 ho7)
      clear hr7 hg7 ho7 hcell HC
      go_wp2
      go_roundw
      case rel => exact ⟨k + 1, by omega, by go_num, HS7⟩
      case measure => simp [intOf]; omega
    · obtain rfl : k = l.length := by omega
      rw [List.take_of_length_le (Nat.le_refl _)] at HS
      have hst : stepsT (.list l) = stepsL l ++ [(listS l.length)] := by simp [stepsT, stepsL]
      have hlen : (ss ++ stepsL l).length + 1 ≤ 131072 := by
        rw [List.length_append, stepsL_len]
        skip
        simp only [Tr.nodes] at hn
        omega
      obtain ⟨es, he1, he2, he3⟩ := HS.out.row
      have HS' := HS
      have k0 : wr.cell? ⟨b5, 0, none⟩ = some (.int .i64 5) := HS.out.bl.cell 0
      have k1 : wr.cell? ⟨b5, 1, none⟩ = some (.bool false) := HS.out.bl.cell 1
      have k2 : wr.cell? ⟨b5, 2, none⟩ = some (.int .u64 0) := HS.out.bl.cell 2
      have k3 : wr.cell? ⟨b5, 3, none⟩ = some (.string ⟨#[]⟩) := HS.out.bl.cell 3
      have k4 : wr.cell? ⟨b5, 4, none⟩ = some (.int .i64 (l.length : Int)) := HS.out.bl.cell 4
      have k5 : wr.cell? ⟨b5, 5, none⟩ = some (.slice none 0 0) := HS.out.bl.cell 5
      have hws := HS.out.gr.size
      have ho9 : (wr.alloc (.cells #[.int .i64 5, .bool false, .int .u64 0, .string ⟨#[]⟩, .int .i64 (l.length : Int), .slice none 0 0] 54)).ownsRow B 54 6 u0 (ss ++ stepsL l).length (cellsE es) := own_below he2 ((Below.refl _ _).alloc (Nat.le_refl _) _)
      have HE := Lib.hid (And.intro he1 he3)
      clear he1 he2 he3 HS
      obtain ⟨NN, hNN⟩ : ∃ NN, (ss ++ stepsL l).length = NN := ⟨_, rfl⟩
      rw [hNN] at ho9 hlen
      have HNN := Lib.hid hNN
      clear hNN
      go_wp2_with (at_builtin; refine wpList_append_own_at _ rfl _ _ 22 rfl B 54 i0 _ 6 72 Tryz.underlying22 hi0 hz0 hz1 hz2 rfl (by omega) u0 NN (cellsE es) rfl ho9 ⟨wr.heap.size, 0, none⟩ 1 1 (cell6 (listS l.length) none 0) rfl rfl (cells_new wr (cell6 (listS l.length) none 0) 54) (cell6_one (listS l.length) none 0) ?b1 ?b2 ?b3 ?_; (unfold maxLen; omega); omega; (simp; omega); intro v9 w9 hown9 hgr9 hnil9 hat9)
      go_ret
      rw [hst, ← List.append_assoc]
      refine StL.fin HS'.out es HE.out.1 HE.out.2 _ ?_ hgr9 hat9
      rw [HNN.out]
      exact hown9
set_option maxRecDepth 100000 in
set_option maxHeartbeats 8000000 in
theorem steps_obj (ks : List Tx) (l : List Tr) (u v : Value) (ss : List Stp) (B : Nat) (w : World) (h : RdT (fun k => k < B) w (.obj ks l) u) (hR : SRow B ss v w) (hB : B ≤ w.heap.size) (hn : ss.length + Tr.nodes (.obj ks l) ≤ 131072) (hkb : ks.length ≤ 1048576) (ih : ∀ x, x ∈ l → ∀ u v ss B w, RdT (fun k => k < B) w x u → SRow B ss v w → B ≤ w.heap.size → ss.length + x.nodes ≤ 131072 → Calls Tryz.prog 46 #[v, u] w (StepsP B (ss ++ stepsT x) v w)) :
    Calls Tryz.prog 46 #[v, u] w (StepsP B (ss ++ stepsT (.obj ks l)) v w) := by
  have hitv0 := h.itv
  unfold RdT at h
  obtain ⟨g1, K1, dk, A1, c1, vs, rfl, hS1, hB1, hK1, hR1, hL1⟩ := h
  have d3 : w.cell? ⟨g1, 3, none⟩ = some (.slice K1 ks.length dk) := hB1.cell 3
  have d4 : w.cell? ⟨g1, 4, none⟩ = some (.slice A1 l.length c1) := hB1.cell 4
  have hitv : ItV (fun k => k < B) w (.iface 94 (.pointer (some ⟨g1, 0, none⟩))) A1 l.length c1 := .inr (.inr ⟨g1, rfl, hS1, d4⟩)
  have HK := Lib.hid (rdk_row hK1)
  have hg1 := hB1.lt
  have HRD := Lib.hid (And.intro hR1 hL1)
  clear hitv0 hB1 hR1 hL1 hK1
  have HIH := Lib.hid ih
  clear ih
  have hll : l.length ≤ 131072 := by
    have h1 := nodes_len l
    simp only [Tr.nodes] at hn
    omega
  have HITV := Lib.hid hitv
  have HR := Lib.hid hR
  have hoB : Hid (∀ g, v.ownBlock = some g → B ≤ g) := Lib.hid fun g hg => (hR.block g hg).1
  obtain ⟨i0, hi0, hz0, hz1, hz2⟩ := info_parts info_step
  clear hitv hR
  have t1 := ta_5_1 (some ⟨g1, 0, none⟩)
  have t2 := ta_5_2 (some ⟨g1, 0, none⟩)
  have t3 := ta_5_3 (some ⟨g1, 0, none⟩)
  have t4 := ta_5_4 (some ⟨g1, 0, none⟩)
  have t5 := ta_5_5 (some ⟨g1, 0, none⟩)
  obtain ⟨Av, qv, rfl⟩ := StepsP.form HR.out
  go_enter Tryz.func46, Tryz.ntmps46
  go_wp2_with fail
  rw [ms_obj _ g1 _ ?nm]
  case nm => kernel_rfl
  go_wp2_with fail
  ((with_reducible refine (sf_obj g1 _).mono ?_); rintro e w1 ⟨rfl, hb1⟩)
  have d3' := (hb1.cell (p := ⟨g1, 3, none⟩) hg1).trans d3
  have hg1w : g1 < w1.heap.size := by have := hb1.size; omega
  have hbk := hb1.alloc hb1.size (.cells #[.int .i64 6, .bool false, .int .u64 0, .string ⟨#[]⟩, .int .i64 0, .slice none 0 0] 54)
  have HK5 := Lib.hid (HK.out.below hbk)
  have hbn := Blk.new w1 54 #[.int .i64 6, .bool false, .int .u64 0, .string ⟨#[]⟩, .int .i64 0, .slice none 0 0]
  go_wp2_with fail
  ((with_reducible refine (clone_keys _ ks _ HK5.out (by omega)).mono ?_); rintro e w2 ⟨vk, rfl, hok, hb2⟩)
  have hbx := hbn.below hb2 hbn.lt
  have f5 := hbx.frozen 5
  have c5 : w2.cell? ⟨w1.heap.size, 5, none⟩ = some (.slice none 0 0) := hbx.cell 5
  have hb02 := hbk.trans (hb2.mono hbk.size)
  obtain ⟨Kk, qk, rfl⟩ := own_slice hok
  have hgk := fun g hg => (own_typed hok g hg).1
  simp only [World.size_alloc] at hgk
  have hw1s := hb1.size
  have hbw5 : Below w.heap.size w (w2.setCell ⟨w1.heap.size, 5, none⟩ (.slice Kk ks.length qk)) := hb02.setCell (p := ⟨w1.heap.size, 5, none⟩) hw1s _
  have hbl5 : Blk (w2.setCell ⟨w1.heap.size, 5, none⟩ (.slice Kk ks.length qk)) w1.heap.size 54 (cell6 (objS ks) Kk qk).toArray := hbx.put 5 _
  have hky5 : KeyRow (w2.setCell ⟨w1.heap.size, 5, none⟩ (.slice Kk ks.length qk)) ((objS ks), Kk, qk) := (own_lower0 hok).kept (grown_put (World.grownBy.refl w2 (some w1.heap.size)) 5 _) (.inr fun e => by have := hgk _ e; omega)
  clear hok hbx hbn hb2 hb02 hgk
  go_upto_region 18 with fail
  clear f5 c5
  generalize w2.setCell ⟨w1.heap.size, 5, none⟩ (.slice Kk ks.length qk) = W5 at *
  generalize hb5 : w1.heap.size = b5 at *
  have HIT5 : Hid (ItV (fun k => k < B) W5 (.iface 94 (.pointer (some ⟨g1, 0, none⟩))) A1 l.length c1) := Lib.hid (HITV.out.move fun j _ hj => ⟨hj, hbw5.block j (by omega)⟩)
  have HR5 := Lib.hid (HR.out.below hbw5)
  have HL5 : Hid (Blk W5 b5 54 (cell6 (objS ks) Kk qk).toArray ∧ KeyRow W5 ((objS ks), Kk, qk)) := Lib.hid ⟨hbl5, hky5⟩
  clear hbl5 hky5 HITV
  clear t1 t2 t3 t4 t5 d3 d3' hg1w
  go_wp2_with fail
  ((with_reducible refine (itm_any HIT5.out).mono ?_); rintro e w6 ⟨rfl, hb6⟩)
  have hbw6 := hbw5.trans (hb6.mono hbw5.size)
  have HS6 : Hid (StL B b5 ((objS ks), Kk, qk) (ss ++ stepsL (l.take 0)) (.slice Av ss.length qv) w (.slice Av ss.length qv) w6) := Lib.hid ⟨by simpa [stepsL] using HR5.out.below hb6, grown_of_below hbw6 _, .inl rfl, HL5.out.1.below hb6 HL5.out.1.lt, HL5.out.2.below hb6, fun e => by have := (HR.out.block b5 e.symm).2.1; omega⟩
  clear hb6 hbw5 HL5 HR5
  go_wp2_with fail
  go_loopw [0, 55] (fun c0 c55 wr => ∃ k : Nat, k ≤ l.length ∧ c55 = .int .i64 k ∧ Hid (StL B b5 ((objS ks), Kk, qk) (ss ++ stepsL (l.take k)) (.slice Av ss.length qv) w c0 wr)) (fun _ c55 _ => l.length - (intOf c55).toNat)
  case atStart => exact ⟨0, Nat.zero_le _, rfl, HS6⟩
  case round =>
    obtain ⟨k, hk, rfl, HS⟩ := hrel
    have hbel : Below B w wr := HS.out.bel hoB.out hB
    by_cases hlt : k < l.length
    · obtain ⟨g, o, tx, ux, rfl, hcell, hrd⟩ := rowB_at HRD.out.1 HRD.out.2 hbel hlt
      have hk0 : (0 : Int) ≤ (k : Int) := by omega
      have hk1 : (k : Int) < (l.length : Int) := by omega
      have hws := HS.out.gr.size
      have hln : (ss ++ stepsL (l.take k)).length + l[k].nodes ≤ 131072 := by
        rw [List.length_append, stepsL_len]
        have h1 := nodesL_snoc l k hlt
        have h2 : nodesL (l.take (k + 1)) ≤ nodesL l := by
          have h3 := nodesL_app (l.take (k + 1)) (l.drop (k + 1))
          rw [List.take_append_drop] at h3
          omega
        simp only [Tr.nodes] at hn
        omega
      have hc := HIH.out l[k] (List.getElem_mem hlt) (.iface tx ux) u0 (ss ++ stepsL (l.take k)) B wr hrd HS.out.row (by omega) hln
      have HC := Lib.hid hc
      clear hc hrd hln
      go_wp2_with fail
      refine HC.out.mono ?_
      rintro e w7 ⟨v7, rfl, hr7, hg7, ho7⟩
      rw [List.append_assoc, ← stepsL_snoc l k hlt] at hr7
      have HS7 := Lib.hid (HS.out.step hr7 hg7 ho7)
      clear hr7 hg7 ho7 hcell HC
      go_wp2
      go_roundw
      case rel => exact ⟨k + 1, by omega, by go_num, HS7⟩
      case measure => simp [intOf]; omega
    · obtain rfl : k = l.length := by omega
      rw [List.take_of_length_le (Nat.le_refl _)] at HS
      have hst : stepsT (.obj ks l) = stepsL l ++ [(objS ks)] := by simp [stepsT, stepsL]
      have hlen : (ss ++ stepsL l).length + 1 ≤ 131072 := by
        rw [List.length_append, stepsL_len]
        skip
        simp only [Tr.nodes] at hn
        omega
      obtain ⟨es, he1, he2, he3⟩ := HS.out.row
      have HS' := HS
      have k0 : wr.cell? ⟨b5, 0, none⟩ = some (.int .i64 6) := HS.out.bl.cell 0
      have k1 : wr.cell? ⟨b5, 1, none⟩ = some (.bool false) := HS.out.bl.cell 1
      have k2 : wr.cell? ⟨b5, 2, none⟩ = some (.int .u64 0) := HS.out.bl.cell 2
      have k3 : wr.cell? ⟨b5, 3, none⟩ = some (.string ⟨#[]⟩) := HS.out.bl.cell 3
      have k4 : wr.cell? ⟨b5, 4, none⟩ = some (.int .i64 0) := HS.out.bl.cell 4
      have k5 : wr.cell? ⟨b5, 5, none⟩ = some (.slice Kk ks.length qk) := HS.out.bl.cell 5
      have hws := HS.out.gr.size
      have ho9 : (wr.alloc (.cells #[.int .i64 6, .bool false, .int .u64 0, .string ⟨#[]⟩, .int .i64 0, .slice Kk ks.length qk] 54)).ownsRow B 54 6 u0 (ss ++ stepsL l).length (cellsE es) := own_below he2 ((Below.refl _ _).alloc (Nat.le_refl _) _)
      have HE := Lib.hid (And.intro he1 he3)
      clear he1 he2 he3 HS
      obtain ⟨NN, hNN⟩ : ∃ NN, (ss ++ stepsL l).length = NN := ⟨_, rfl⟩
      rw [hNN] at ho9 hlen
      have HNN := Lib.hid hNN
      clear hNN
      go_wp2_with (at_builtin; refine wpList_append_own_at _ rfl _ _ 22 rfl B 54 i0 _ 6 72 Tryz.underlying22 hi0 hz0 hz1 hz2 rfl (by omega) u0 NN (cellsE es) rfl ho9 ⟨wr.heap.size, 0, none⟩ 1 1 (cell6 (objS ks) Kk qk) rfl rfl (cells_new wr (cell6 (objS ks) Kk qk) 54) (cell6_one (objS ks) Kk qk) ?b1 ?b2 ?b3 ?_; (unfold maxLen; omega); omega; (simp; omega); intro v9 w9 hown9 hgr9 hnil9 hat9)
      go_ret
      rw [hst, ← List.append_assoc]
      refine StL.fin HS'.out es HE.out.1 HE.out.2 _ ?_ hgr9 hat9
      rw [HNN.out]
      exact hown9
end Nd
end Go.Proofs.YtfhfkggkbeahbaaGreat
