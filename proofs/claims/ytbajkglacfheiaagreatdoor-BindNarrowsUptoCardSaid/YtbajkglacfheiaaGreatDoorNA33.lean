/-
  The law BindNarrows of layer 16: its walk.
-/
import Derived.Test.YtbajkglacfheiaaGreatDoorNA28
import Derived.Test.YtbajkglacfheiaaGreatDoorNA29
import Derived.Test.YtbajkglacfheiaaGreatDoorNA32
set_option linter.unusedVariables false
set_option linter.unusedSimpArgs false
set_option maxRecDepth 100000
set_option maxHeartbeats 16000000
namespace Go.Proofs.YtbajkglacfheiaaGreatDoor
open Go.RowKit Mem Utf Ref3 Idx Tok TokC
set_option maxRecDepth 100000
namespace Nd
theorem whoI : Tryz.prog.underlying 48 = some (.interface (Tryz.prog.methodsAt 48)) := by kernel_rfl
theorem who_eq_nil (w : World) : (binOp .eql 48 .nilIface .nilIface).run Tryz.prog w = .ok (.bool true) w := run_eql_nil_nil w _ whoI
theorem who_eq_held (u : TypeId) (x : Value) (w : World) : (binOp .eql 48 (.iface u x) .nilIface).run Tryz.prog w = .ok (.bool false) w := run_eql_held_nil w _ u x whoI
def TrueN (w : World) (e : Ending) (w' : World) : Prop := e = .returned (.bool true) ∧ Below w.heap.size w w'
theorem sgn_val {x : Nat} (hb : x < 18446744073709551616) (hf : finB x = true) (hn : normB x = x) : sgnB x = decide (valB x < 0) := by
 obtain ⟨M, L, hr, hc, ha, hv⟩ := abs_form hb hf
 cases hs : sgnB x with
 | false =>
  rw [hs] at hv
  simp only [Bool.false_eq_true, if_false] at hv
  rw [decide_eq_false (by omega)]
 | true =>
  rw [hs] at hv
  simp only [if_true] at hv
  by_cases h0 : (valB x).natAbs = 0
  ·exfalso
   have h1 : valB x = 0 := by omega
   have h2 := (val_zero hb hf).1 h1
   unfold normB at hn
   rw [if_pos h2] at hn
   rw [← hn] at hs
   cases hs
  ·rw [decide_eq_true (by omega)]
theorem kindD_in {k : Nat} {u : Tr} {z : Int} (h : kindD k u = .inr z) : loK k ≤ z ∧ z ≤ hiK k := by
 unfold kindD at h
 split at h
 ·unfold intD at h
  split at h
  ·cases h
  ·split at h
   ·rename_i hh
    injection h with h
    rw [← h]
    exact hh
   ·cases h
 ·cases h
theorem kindD_ne {k : Nat} {u : Tr} {n : Int} (h : kindD k u = .inl n) : (n == 0) = false ∧ (n != 0) = true := by
 unfold kindD at h
 split at h
 ·exact intD_ne _ _ _ h
 ·injection h with h
  subst h
  exact ⟨rfl, rfl⟩
theorem narrows_refused (v : Value) (l : Tx) (ss : List Stp) (w : World) (hS : RdS w v ss) (hF : ∀ s ∈ ss, s.Fine) (hC : ∀ s ∈ ss, s.Cnt) (hn : ss.length ≤ 1048576) (hl : l.length ≤ 4194304) (hG : Glob w) (hT : Tab w) (x : Int × Int) (hb : buildT ss = .inl x) :
  Calls Tryz.prog 5 #[v, .string ⟨l.toArray⟩] w (TrueN w) := by
 have q1 := err_ne_nil
 have q2 := err_ne_held
 have q3 := err_eq_nil
 have q4 := err_eq_held
 have q5 := who_eq_nil
 have q6 := who_eq_held
 obtain ⟨SA, sc, rfl, _⟩ := id hS
 have HS := Lib.hid hS
 have HF := Lib.hid (And.intro hF (And.intro hC (And.intro hn (And.intro hl hb))))
 have HG := Lib.hid (And.intro hG hT)
 clear hS hF hC hn hl hG hT hb
 go_enter Tryz.func5, Tryz.ntmps5
 go_wp2_with fail
 ((with_reducible refine (build_all _ ss _ HS.out HF.out.1).mono ?_); intro e w1 hP)
 obtain ⟨hb1, hP⟩ := hP
 simp only [HF.out.2.2.2.2] at hP
 obtain rfl := hP
 obtain ⟨tx, ux, hsp⟩ := sp_form x.1 x.2
 rw [hsp]
 clear hsp
 have HB1 := Lib.hid hb1
 clear hb1
 go_wp2_with fail
 ((with_reducible refine (asked_any _ ss l _ (HS.out.below HB1.out) HF.out.1 HF.out.2.1 HF.out.2.2.1 HF.out.2.2.2.1).mono ?_); rintro e w2 ⟨he, hb2⟩)
 have HB2 := Lib.hid (HB1.out.trans (hb2.mono HB1.out.size))
 have HB12 := Lib.hid hb2
 clear hb2
 simp only [HF.out.2.2.2.2] at he
 obtain rfl := he
 unfold noVal
 obtain ⟨w3, hw3⟩ : ∃ w3, (w2.alloc (.cells #[.int .i64 0, .bool false, .int .u64 0, .string ⟨#[]⟩, .slice none 0 0, .slice none 0 0] 79)).alloc (.cells #[.int .i64 1, .int .i64 (-1), .bool false, .string ⟨#[]⟩] 81) = w3 := ⟨_, rfl⟩
 have hb3 : Below w2.heap.size w2 w3 := by rw [← hw3]; exact ((Below.refl _ _).alloc (Nat.le_refl _) _).alloc (by simp) _
 have hv3 : Blk w3 w2.heap.size 79 #[.int .i64 0, .bool false, .int .u64 0, .string ⟨#[]⟩, .slice none 0 0, .slice none 0 0] := by rw [← hw3]; exact (Blk.new w2 _ _).alloc _
 have hf3 : Blk w3 (w2.heap.size + 1) 81 #[.int .i64 1, .int .i64 (-1), .bool false, .string ⟨#[]⟩] := by
  have := Blk.new (w2.alloc (.cells #[.int .i64 0, .bool false, .int .u64 0, .string ⟨#[]⟩, .slice none 0 0, .slice none 0 0] 79)) 81 #[.int .i64 1, .int .i64 (-1), .bool false, .string ⟨#[]⟩]
  rw [World.size_alloc, hw3] at this
  exact this
 have HW3 := Lib.hid (And.intro hv3 hf3)
 have HB3 := Lib.hid (HB2.out.trans (hb3.mono HB2.out.size))
 have HB13 := Lib.hid (HB12.out.trans (hb3.mono HB12.out.size))
 have HW3E := Lib.hid hw3
 clear hb3 hv3 hf3 hw3
 go_upto_region 3 with fail
 rw [HW3E.out]
 go_wp2_with fail
 ((with_reducible refine (narrow_nil l _).mono ?_); rintro e w4 ⟨rfl, rfl⟩)
 go_wp2_with fail
 ((with_reducible refine (wakes16_any _ (HG.out.1.next HB3.out) (HG.out.2.next HB3.out)).mono ?_); rintro e w5 ⟨rfl, hb5⟩)
 have HB5 := Lib.hid (HB3.out.trans (hb5.mono HB3.out.size))
 have hF5 := HW3.out.2.below hb5 HW3.out.2.lt
 have k0 : w5.cell? ⟨w2.heap.size + 1, 0, none⟩ = some (.int .i64 1) := hF5.cell 0
 have k1 : w5.cell? ⟨w2.heap.size + 1, 1, none⟩ = some (.int .i64 (-1)) := hF5.cell 1
 have k2 : w5.cell? ⟨w2.heap.size + 1, 2, none⟩ = some (.bool false) := hF5.cell 2
 have k3 : w5.cell? ⟨w2.heap.size + 1, 3, none⟩ = some (.string ⟨#[]⟩) := hF5.cell 3
 clear hb5 hF5
 have HX := Lib.hid (fault16_no 1 (-1) [] (by omega))
 unfold errN
 go_wp2_with fail
 ((with_reducible refine (HX.out _).mono ?_); rintro e w6 ⟨rfl, hb6⟩)
 have HB6 := Lib.hid (HB5.out.trans (hb6.mono HB5.out.size))
 clear hb6
 go_wp2
 go_ret
 exact ⟨rfl, HB6.out⟩
theorem narrows_bad (v : Value) (l : Tx) (ss : List Stp) (w : World) (hS : RdS w v ss) (hF : ∀ s ∈ ss, s.Fine) (hC : ∀ s ∈ ss, s.Cnt) (hn : ss.length ≤ 1048576) (hl : l.length ≤ 4194304) (hG : Glob w) (hT : Tab w) (t : Tr) (hb : buildT ss = .inr t) (x1 x2 : Int) (hp : parseS (wrong l) l = .error (x1, x2)) :
  Calls Tryz.prog 5 #[v, .string ⟨l.toArray⟩] w (TrueN w) := by
 have hx0 : (x1 != 0) = true := by simpa using err_num hp
 have HP := Lib.hid hp
 clear hp
 have q1 := err_ne_nil
 have q2 := err_ne_held
 have q3 := err_eq_nil
 have q4 := err_eq_held
 have q5 := who_eq_nil
 have q6 := who_eq_held
 obtain ⟨SA, sc, rfl, _⟩ := id hS
 have HS := Lib.hid hS
 have HF := Lib.hid (And.intro hF (And.intro hC (And.intro hn (And.intro hl hb))))
 have HG := Lib.hid (And.intro hG hT)
 clear hS hF hC hn hl hG hT hb
 go_enter Tryz.func5, Tryz.ntmps5
 go_wp2_with fail
 ((with_reducible refine (build_all _ ss _ HS.out HF.out.1).mono ?_); intro e w1 hP)
 obtain ⟨hb1, hP⟩ := hP
 simp only [HF.out.2.2.2.2] at hP
 obtain ⟨g, rfl, hTA⟩ := hP
 obtain ⟨_, hfit, tv, hB, hrd⟩ := hTA
 have hok := (buildT_ok HF.out.1 HF.out.2.2.2.2).1
 have hra : RdA w1 t tv := RdT.move (fun j hj hs => ⟨trivial, rfl⟩) _ _ hrd
 have HBT := Lib.hid (And.intro hB (And.intro hra (And.intro hok hfit)))
 clear hB hrd hfit hra hok
 have HB1 := Lib.hid hb1
 clear hb1
 go_wp2_with fail
 ((with_reducible refine (asked_any _ ss l _ (HS.out.below HB1.out) HF.out.1 HF.out.2.1 HF.out.2.2.1 HF.out.2.2.2.1).mono ?_); rintro e w2 ⟨he, hb2⟩)
 have HB2 := Lib.hid (HB1.out.trans (hb2.mono HB1.out.size))
 have HB12 := Lib.hid hb2
 clear hb2
 simp only [HF.out.2.2.2.2] at he
 rw [HP.out] at he
 obtain rfl := he
 unfold noVal
 obtain ⟨w3, hw3⟩ : ∃ w3, (w2.alloc (.cells #[.int .i64 0, .bool false, .int .u64 0, .string ⟨#[]⟩, .slice none 0 0, .slice none 0 0] 79)).alloc (.cells #[.int .i64 x1, .int .i64 x2, .bool false, .string ⟨#[]⟩] 81) = w3 := ⟨_, rfl⟩
 have hb3 : Below w2.heap.size w2 w3 := by rw [← hw3]; exact ((Below.refl _ _).alloc (Nat.le_refl _) _).alloc (by simp) _
 have hv3 : Blk w3 w2.heap.size 79 #[.int .i64 0, .bool false, .int .u64 0, .string ⟨#[]⟩, .slice none 0 0, .slice none 0 0] := by rw [← hw3]; exact (Blk.new w2 _ _).alloc _
 have hf3 : Blk w3 (w2.heap.size + 1) 81 #[.int .i64 x1, .int .i64 x2, .bool false, .string ⟨#[]⟩] := by
  have := Blk.new (w2.alloc (.cells #[.int .i64 0, .bool false, .int .u64 0, .string ⟨#[]⟩, .slice none 0 0, .slice none 0 0] 79)) 81 #[.int .i64 x1, .int .i64 x2, .bool false, .string ⟨#[]⟩]
  rw [World.size_alloc, hw3] at this
  exact this
 have HW3 := Lib.hid (And.intro hv3 hf3)
 have HB3 := Lib.hid (HB2.out.trans (hb3.mono HB2.out.size))
 have HB13 := Lib.hid (HB12.out.trans (hb3.mono HB12.out.size))
 have HW3E := Lib.hid hw3
 clear hb3 hv3 hf3 hw3
 go_upto_region 3 with fail
 rw [HW3E.out]
 go_wp2_with fail
 ((with_reducible refine (narrow_any g t tv l w1 _ HBT.out.1 HBT.out.2.1 HB13.out HBT.out.2.2.1 HBT.out.2.2.2 HF.out.2.2.2.1 (HG.out.1.next HB3.out) (HG.out.2.next HB3.out)).mono ?_); intro e w4 hp4)
 unfold BindP at hp4
 rw [HP.out] at hp4
 obtain ⟨rfl, hb4⟩ := hp4
 have HB4 := Lib.hid (HB3.out.trans (hb4.mono HB3.out.size))
 have HF4 := Lib.hid (HW3.out.2.below hb4 HW3.out.2.lt)
 clear hb4
 have HX := fault16_err x1 x2 []
 dsimp only
 obtain ⟨Te, Ue, hTu⟩ := errV_form x1 x2
 rw [hTu] at HX ⊢
 have HX := Lib.hid HX
 clear hTu
 go_wp2_with fail
 ((with_reducible refine (wakes16_any _ (HG.out.1.next HB4.out) (HG.out.2.next HB4.out)).mono ?_); rintro e w5 ⟨rfl, hb5⟩)
 have HB5 := Lib.hid (HB4.out.trans (hb5.mono HB4.out.size))
 have hF5 := HF4.out.below hb5 HF4.out.lt
 have k0 : w5.cell? ⟨w2.heap.size + 1, 0, none⟩ = some (.int .i64 x1) := hF5.cell 0
 have k1 : w5.cell? ⟨w2.heap.size + 1, 1, none⟩ = some (.int .i64 x2) := hF5.cell 1
 have k2 : w5.cell? ⟨w2.heap.size + 1, 2, none⟩ = some (.bool false) := hF5.cell 2
 have k3 : w5.cell? ⟨w2.heap.size + 1, 3, none⟩ = some (.string ⟨#[]⟩) := hF5.cell 3
 clear hb5 hF5
 go_wp2_with fail
 ((with_reducible refine (HX.out _).mono ?_); rintro e w6 ⟨rfl, hb6⟩)
 have HB6 := Lib.hid (HB5.out.trans (hb6.mono HB5.out.size))
 clear hb6
 go_wp2
 go_ret
 exact ⟨rfl, HB6.out⟩
theorem narrows_lost (v : Value) (l : Tx) (ss : List Stp) (w : World) (hS : RdS w v ss) (hF : ∀ s ∈ ss, s.Fine) (hC : ∀ s ∈ ss, s.Cnt) (hn : ss.length ≤ 1048576) (hl : l.length ≤ 4194304) (hG : Glob w) (hT : Tab w) (t : Tr) (hb : buildT ss = .inr t) (ts : List Tx) (hp : parseS (wrong l) l = .ok ts) (n : Nat) (hle : leadT t ts 0 = .inl n) :
  Calls Tryz.prog 5 #[v, .string ⟨l.toArray⟩] w (TrueN w) := by
 have HP := Lib.hid hp
 have HLE := Lib.hid hle
 clear hp hle
 have q1 := err_ne_nil
 have q2 := err_ne_held
 have q3 := err_eq_nil
 have q4 := err_eq_held
 have q5 := who_eq_nil
 have q6 := who_eq_held
 obtain ⟨SA, sc, rfl, _⟩ := id hS
 have HS := Lib.hid hS
 have HF := Lib.hid (And.intro hF (And.intro hC (And.intro hn (And.intro hl hb))))
 have HG := Lib.hid (And.intro hG hT)
 clear hS hF hC hn hl hG hT hb
 go_enter Tryz.func5, Tryz.ntmps5
 go_wp2_with fail
 ((with_reducible refine (build_all _ ss _ HS.out HF.out.1).mono ?_); intro e w1 hP)
 obtain ⟨hb1, hP⟩ := hP
 simp only [HF.out.2.2.2.2] at hP
 obtain ⟨g, rfl, hTA⟩ := hP
 obtain ⟨_, hfit, tv, hB, hrd⟩ := hTA
 have hok := (buildT_ok HF.out.1 HF.out.2.2.2.2).1
 have hra : RdA w1 t tv := RdT.move (fun j hj hs => ⟨trivial, rfl⟩) _ _ hrd
 have HBT := Lib.hid (And.intro hB (And.intro hra (And.intro hok hfit)))
 clear hB hrd hfit hra hok
 have HB1 := Lib.hid hb1
 clear hb1
 go_wp2_with fail
 ((with_reducible refine (asked_any _ ss l _ (HS.out.below HB1.out) HF.out.1 HF.out.2.1 HF.out.2.2.1 HF.out.2.2.2.1).mono ?_); rintro e w2 ⟨he, hb2⟩)
 have HB2 := Lib.hid (HB1.out.trans (hb2.mono HB1.out.size))
 have HB12 := Lib.hid hb2
 clear hb2
 simp only [HF.out.2.2.2.2] at he
 rw [HP.out] at he
 dsimp only at he
 rw [HLE.out] at he
 obtain rfl := he
 unfold noVal
 obtain ⟨w3, hw3⟩ : ∃ w3, (w2.alloc (.cells #[.int .i64 0, .bool false, .int .u64 0, .string ⟨#[]⟩, .slice none 0 0, .slice none 0 0] 79)).alloc (.cells #[.int .i64 4, .int .i64 0, .bool true, .string ⟨(printS (ts.take n)).toArray⟩] 81) = w3 := ⟨_, rfl⟩
 have hb3 : Below w2.heap.size w2 w3 := by rw [← hw3]; exact ((Below.refl _ _).alloc (Nat.le_refl _) _).alloc (by simp) _
 have hv3 : Blk w3 w2.heap.size 79 #[.int .i64 0, .bool false, .int .u64 0, .string ⟨#[]⟩, .slice none 0 0, .slice none 0 0] := by rw [← hw3]; exact (Blk.new w2 _ _).alloc _
 have hf3 : Blk w3 (w2.heap.size + 1) 81 #[.int .i64 4, .int .i64 0, .bool true, .string ⟨(printS (ts.take n)).toArray⟩] := by
  have := Blk.new (w2.alloc (.cells #[.int .i64 0, .bool false, .int .u64 0, .string ⟨#[]⟩, .slice none 0 0, .slice none 0 0] 79)) 81 #[.int .i64 4, .int .i64 0, .bool true, .string ⟨(printS (ts.take n)).toArray⟩]
  rw [World.size_alloc, hw3] at this
  exact this
 have HW3 := Lib.hid (And.intro hv3 hf3)
 have HB3 := Lib.hid (HB2.out.trans (hb3.mono HB2.out.size))
 have HB13 := Lib.hid (HB12.out.trans (hb3.mono HB12.out.size))
 have HW3E := Lib.hid hw3
 clear hb3 hv3 hf3 hw3
 go_upto_region 3 with fail
 rw [HW3E.out]
 go_wp2_with fail
 ((with_reducible refine (narrow_any g t tv l w1 _ HBT.out.1 HBT.out.2.1 HB13.out HBT.out.2.2.1 HBT.out.2.2.2 HF.out.2.2.2.1 (HG.out.1.next HB3.out) (HG.out.2.next HB3.out)).mono ?_); intro e w4 hp4)
 unfold BindP at hp4
 rw [HP.out] at hp4
 dsimp only at hp4
 rw [HLE.out] at hp4
 obtain ⟨rfl, hb4⟩ := hp4
 have HB4 := Lib.hid (HB3.out.trans (hb4.mono HB3.out.size))
 have HF4 := Lib.hid (HW3.out.2.below hb4 HW3.out.2.lt)
 clear hb4
 have HX := fault16_trail 4 0 (printS (ts.take n))
 unfold trlV at HX ⊢
 have HX := Lib.hid HX
 go_wp2_with fail
 ((with_reducible refine (wakes16_any _ (HG.out.1.next HB4.out) (HG.out.2.next HB4.out)).mono ?_); rintro e w5 ⟨rfl, hb5⟩)
 have HB5 := Lib.hid (HB4.out.trans (hb5.mono HB4.out.size))
 have hF5 := HF4.out.below hb5 HF4.out.lt
 have k0 : w5.cell? ⟨w2.heap.size + 1, 0, none⟩ = some (.int .i64 4) := hF5.cell 0
 have k1 : w5.cell? ⟨w2.heap.size + 1, 1, none⟩ = some (.int .i64 0) := hF5.cell 1
 have k2 : w5.cell? ⟨w2.heap.size + 1, 2, none⟩ = some (.bool true) := hF5.cell 2
 have k3 : w5.cell? ⟨w2.heap.size + 1, 3, none⟩ = some (.string ⟨(printS (ts.take n)).toArray⟩) := hF5.cell 3
 clear hb5 hF5
 go_wp2_with fail
 ((with_reducible refine (HX.out _).mono ?_); rintro e w6 ⟨rfl, hb6⟩)
 have HB6 := Lib.hid (HB5.out.trans (hb6.mono HB5.out.size))
 clear hb6
 go_wp2
 go_ret
 exact ⟨rfl, HB6.out⟩
end Nd
end Go.Proofs.YtbajkglacfheiaaGreatDoor
