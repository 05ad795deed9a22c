/-
  The law BindTotals of layer 16: plain facts, its walk.
-/
import Derived.Test.YtbajkglacfheiaaGreatDoorTA39
set_option linter.unusedVariables false
set_option linter.unusedSimpArgs false
set_option maxRecDepth 100000
set_option maxHeartbeats 16000000
namespace Go.Proofs.YtbajkglacfheiaaGreatDoor
open Go.RowKit Mem Utf Ref3 Idx Tok TokC Ieee
namespace Nd
theorem sumD_lt : ∀ (l : List Nat) (i s j : Nat), sumD l i s = .inl j → j < i + l.length
 | [], i, s, j, h => by
  rw [sumD] at h
  cases h
 | x :: r, i, s, j, h => by
  rw [sumD] at h
  rw [List.length_cons]
  split at h
  ·split at h
   ·have := sumD_lt r _ _ _ h
    omega
   ·injection h with h
    omega
  ·injection h with h
   omega
theorem lstD_five {t u : Tr} {l : Tx} (h : lstD t l = .inr u) : u.srt = 5 := by
 unfold lstD at h
 split at h
 ·cases h
 ·split at h
  ·cases h
  ·split at h
   ·rename_i hs
    injection h with h
    rw [← h]
    exact hs
   ·cases h
theorem tot_law {t u : Tr} {l : Tx} (h : lstD t l = .inr u) (ho : u.Ok) (hf : u.fit = true) (hl : l.length ≤ 4194304) : ∃ x ev,
  (∀ w e w', TotP t l w e w' → e = .returned (.tuple #[.float .f64 x, ev]) ∧ Below w.heap.size w w') ∧
  ∀ w A c K d, RdVA w u ((A, c), (K, d)) → Calls Tryz.prog 30 #[valV u A c K d, .string ⟨l.toArray⟩, .float .f64 x, ev] w (TrueN w) := by
 have hs := lstD_five h
 have hkl := kids_len (fit_le hf).1
 cases hbk : badK u.kids 0 with
 | some i =>
  refine ⟨0, trlV 5 (atP l i), fun w e w' hp => ?_, fun w A c K d hr => ltotal_bad u hs ho A c K d l hl w hr hf i hbk⟩
  unfold TotP at hp
  rw [h] at hp
  dsimp only at hp
  rw [totD_bad hbk] at hp
  exact hp
 | none =>
  cases hsm : sumD (u.kids.map Tr.nb) 0 0 with
  | inl i =>
   have hi := sumD_lt _ _ _ _ hsm
   rw [List.length_map] at hi
   refine ⟨0, trlV 161 (atP l i), fun w e w' hp => ?_, fun w A c K d hr => ltotal_no u hs ho A c K d l hl w hr hf hbk i (by omega) hsm⟩
   unfold TotP at hp
   rw [h] at hp
   dsimp only at hp
   rw [totD_no hbk hsm] at hp
   exact hp
  | inr s =>
   refine ⟨s, .nilIface, fun w e w' hp => ?_, fun w A c K d hr => ltotal_ok u hs ho A c K d l hl w hr hf hbk s hsm⟩
   unfold TotP at hp
   rw [h] at hp
   dsimp only at hp
   rw [totD_ok hbk hsm] at hp
   exact hp
theorem prd_law {t u : Tr} {l : Tx} (h : lstD t l = .inr u) (ho : u.Ok) (hf : u.fit = true) (hl : l.length ≤ 4194304) : ∃ x y ev,
  (∀ w e w', PrdP t l w e w' → e = .returned (.tuple #[.complex .f64 x y, ev]) ∧ Below w.heap.size w w') ∧
  ∀ w A c K d, RdVA w u ((A, c), (K, d)) → Calls Tryz.prog 31 #[valV u A c K d, .string ⟨l.toArray⟩, .complex .f64 x y, ev] w (TrueN w) := by
 have key : ∀ z1 z2 ev, (match prdD u l with
  | .inl e => z1 = 0 ∧ z2 = 0 ∧ ev = e
  | .inr x => z1 = normB x.1 ∧ z2 = normB x.2 ∧ ev = .nilIface) → ∀ w A c K d, RdVA w u ((A, c), (K, d)) → Calls Tryz.prog 31 #[valV u A c K d, .string ⟨l.toArray⟩, .complex .f64 z1 z2, ev] w (TrueN w) :=
  fun z1 z2 ev hx w A c K d hr => lprod_all u ho A c K d l hl w hr hf z1 z2 ev hx
 cases hd : prdD u l with
 | inl ev =>
  rw [hd] at key
  refine ⟨0, 0, ev, fun w e w' hp => ?_, key 0 0 ev ⟨rfl, rfl, rfl⟩⟩
  unfold PrdP at hp
  rw [h] at hp
  dsimp only at hp
  rw [hd] at hp
  exact hp
 | inr x =>
  rw [hd] at key
  refine ⟨normB x.1, normB x.2, .nilIface, fun w e w' hp => ?_, key _ _ _ ⟨rfl, rfl, rfl⟩⟩
  unfold PrdP at hp
  rw [h] at hp
  dsimp only at hp
  rw [hd] at hp
  exact hp
theorem totP_inl {t : Tr} {l : Tx} {w w' : World} {e : Ending} {ev : Value} (h : lstD t l = .inl ev) (hp : TotP t l w e w') : e = .returned (.tuple #[.float .f64 0, ev]) ∧ Below w.heap.size w w' := by
 unfold TotP at hp
 rw [h] at hp
 exact hp
theorem prdP_inl {t : Tr} {l : Tx} {w w' : World} {e : Ending} {ev : Value} (h : lstD t l = .inl ev) (hp : PrdP t l w e w') : e = .returned (.tuple #[.complex .f64 0 0, ev]) ∧ Below w.heap.size w w' := by
 unfold PrdP at hp
 rw [h] at hp
 exact hp
theorem totals_refused (v : Value) (l : Tx) (ss : List Stp) (w : World) (hS : RdS w v ss) (hF : ∀ s ∈ ss, s.Fine) (hC : ∀ s ∈ ss, s.Cnt) (hn : ss.length ≤ 1048576) (hl : l.length ≤ 4194304) (hG : Glob w) (hT : Tab w) (x : Int × Int) (hb : buildT ss = .inl x) :
  Calls Tryz.prog 7 #[v, .string ⟨l.toArray⟩] w (TrueN w) := by
 have hff : (Ieee.double.order 0 0 == some Ordering.eq) = true := by decide
 have r1 := ordt hff
 have r2 := ordb hff
 have r9 := ordn hff
 have q1 := err_ne_nil
 have q2 := err_ne_held
 have q3 := err_eq_nil
 have q4 := err_eq_held
 obtain ⟨SA, sc, rfl, _⟩ := id hS
 have HS := Lib.hid hS
 have HF := Lib.hid (And.intro hF (And.intro hC (And.intro hn (And.intro hl hb))))
 have HG := Lib.hid (And.intro hG hT)
 clear hS hF hC hn hl hG hT hb
 go_enter Tryz.func7, Tryz.ntmps7
 go_wp2_with fail
 ((with_reducible refine (build_all _ ss _ HS.out HF.out.1).mono ?_); intro e w1 hP)
 obtain ⟨hb1, hP⟩ := hP
 simp only [HF.out.2.2.2.2] at hP
 obtain rfl := hP
 obtain ⟨tx, ux, hsp⟩ := sp_form x.1 x.2
 rw [hsp]
 clear hsp
 have HB1 := Lib.hid hb1
 clear hb1
 go_wp2_with fail
 ((with_reducible refine (asked_any _ ss l _ (HS.out.below HB1.out) HF.out.1 HF.out.2.1 HF.out.2.2.1 HF.out.2.2.2.1).mono ?_); rintro e w2 ⟨he, hb2⟩)
 have HB2 := Lib.hid (HB1.out.trans (hb2.mono HB1.out.size))
 have HB12 := Lib.hid hb2
 clear hb2
 simp only [HF.out.2.2.2.2] at he
 obtain rfl := he
 unfold noVal
 obtain ⟨w3, hw3⟩ : ∃ w3, (w2.alloc (.cells #[.int .i64 0, .bool false, .int .u64 0, .string ⟨#[]⟩, .slice none 0 0, .slice none 0 0] 79)).alloc (.cells #[.int .i64 1, .int .i64 (-1), .bool false, .string ⟨#[]⟩] 81) = w3 := ⟨_, rfl⟩
 have hb3 : Below w2.heap.size w2 w3 := by rw [← hw3]; exact ((Below.refl _ _).alloc (Nat.le_refl _) _).alloc (by simp) _
 have hv3 : Blk w3 w2.heap.size 79 #[.int .i64 0, .bool false, .int .u64 0, .string ⟨#[]⟩, .slice none 0 0, .slice none 0 0] := by rw [← hw3]; exact (Blk.new w2 _ _).alloc _
 have hf3 : Blk w3 (w2.heap.size + 1) 81 #[.int .i64 1, .int .i64 (-1), .bool false, .string ⟨#[]⟩] := by
  have := Blk.new (w2.alloc (.cells #[.int .i64 0, .bool false, .int .u64 0, .string ⟨#[]⟩, .slice none 0 0, .slice none 0 0] 79)) 81 #[.int .i64 1, .int .i64 (-1), .bool false, .string ⟨#[]⟩]
  rw [World.size_alloc, hw3] at this
  exact this
 have HW3 := Lib.hid (And.intro hv3 hf3)
 have HB3 := Lib.hid (HB2.out.trans (hb3.mono HB2.out.size))
 have HB13 := Lib.hid (HB12.out.trans (hb3.mono HB12.out.size))
 have HW3E := Lib.hid hw3
 clear hb3 hv3 hf3 hw3
 go_upto_region 3 with fail
 rw [HW3E.out]
 go_wp2_with fail
 ((with_reducible refine (btotal_nil l _).mono ?_); rintro e wa ⟨rfl, hba⟩)
 have HBA3 := Lib.hid hba
 clear hba
 go_wp2_with fail
 ((with_reducible refine (bprod_nil l _).mono ?_); rintro e w4 ⟨rfl, hbb⟩)
 have hb4 := HBA3.out.trans (hbb.mono HBA3.out.size)
 clear hbb
 have HB4 := Lib.hid (HB3.out.trans (hb4.mono HB3.out.size))
 have HF4 := Lib.hid (HW3.out.2.below hb4 HW3.out.2.lt)
 clear hb4
 have HX := Lib.hid (fault16_no 1 (-1) [] (by omega))
 unfold errN
 go_wp2_with fail
 ((with_reducible refine (wakes16_any _ (HG.out.1.next HB4.out) (HG.out.2.next HB4.out)).mono ?_); rintro e w5 ⟨rfl, hb5⟩)
 have HB5 := Lib.hid (HB4.out.trans (hb5.mono HB4.out.size))
 have HF5 := Lib.hid (HF4.out.below hb5 HF4.out.lt)
 have k0 : w5.cell? ⟨w2.heap.size + 1, 0, none⟩ = some (.int .i64 1) := HF5.out.cell 0
 have k1 : w5.cell? ⟨w2.heap.size + 1, 1, none⟩ = some (.int .i64 (-1)) := HF5.out.cell 1
 have k2 : w5.cell? ⟨w2.heap.size + 1, 2, none⟩ = some (.bool false) := HF5.out.cell 2
 have k3 : w5.cell? ⟨w2.heap.size + 1, 3, none⟩ = some (.string ⟨#[]⟩) := HF5.out.cell 3
 clear hb5
 go_wp2_with fail
 ((with_reducible refine (HX.out _).mono ?_); rintro e w6 ⟨rfl, hb6⟩)
 have HB6 := Lib.hid (HB5.out.trans (hb6.mono HB5.out.size))
 have hF6 := HF5.out.below hb6 HF5.out.lt
 have m0 : w6.cell? ⟨w2.heap.size + 1, 0, none⟩ = some (.int .i64 1) := hF6.cell 0
 have m1 : w6.cell? ⟨w2.heap.size + 1, 1, none⟩ = some (.int .i64 (-1)) := hF6.cell 1
 have m2 : w6.cell? ⟨w2.heap.size + 1, 2, none⟩ = some (.bool false) := hF6.cell 2
 have m3 : w6.cell? ⟨w2.heap.size + 1, 3, none⟩ = some (.string ⟨#[]⟩) := hF6.cell 3
 clear hb6 hF6
 go_wp2_with fail
 ((with_reducible refine (HX.out _).mono ?_); rintro e w7 ⟨rfl, hb7⟩)
 have HB7 := Lib.hid (HB6.out.trans (hb7.mono HB6.out.size))
 clear hb7
 go_wp2
 go_ret
 exact ⟨rfl, HB7.out⟩
theorem totals_bad (v : Value) (l : Tx) (ss : List Stp) (w : World) (hS : RdS w v ss) (hF : ∀ s ∈ ss, s.Fine) (hC : ∀ s ∈ ss, s.Cnt) (hn : ss.length ≤ 1048576) (hl : l.length ≤ 4194304) (hG : Glob w) (hT : Tab w) (t : Tr) (hb : buildT ss = .inr t) (x1 x2 : Int) (hp : parseS (wrong l) l = .error (x1, x2)) :
  Calls Tryz.prog 7 #[v, .string ⟨l.toArray⟩] w (TrueN w) := by
 have hx0 : (x1 != 0) = true := by simpa using err_num hp
 have hx1 : (x1 == 0) = false := by simpa using err_num hp
 have HP := Lib.hid hp
 have HLD := Lib.hid (lstD_err (t := t) hp)
 clear hp
 have hff : (Ieee.double.order 0 0 == some Ordering.eq) = true := by decide
 have r1 := ordt hff
 have r2 := ordb hff
 have r9 := ordn hff
 have q1 := err_ne_nil
 have q2 := err_ne_held
 have q3 := err_eq_nil
 have q4 := err_eq_held
 obtain ⟨SA, sc, rfl, _⟩ := id hS
 have HS := Lib.hid hS
 have HF := Lib.hid (And.intro hF (And.intro hC (And.intro hn (And.intro hl hb))))
 have HG := Lib.hid (And.intro hG hT)
 clear hS hF hC hn hl hG hT hb
 go_enter Tryz.func7, Tryz.ntmps7
 go_wp2_with fail
 ((with_reducible refine (build_all _ ss _ HS.out HF.out.1).mono ?_); intro e w1 hP)
 obtain ⟨hb1, hP⟩ := hP
 simp only [HF.out.2.2.2.2] at hP
 obtain ⟨g, rfl, hTA⟩ := hP
 obtain ⟨_, hfit, tv, hB, hrd⟩ := hTA
 have hok := (buildT_ok HF.out.1 HF.out.2.2.2.2).1
 have hra : RdA w1 t tv := RdT.move (fun j hj hs => ⟨trivial, rfl⟩) _ _ hrd
 have HBT := Lib.hid (And.intro hB (And.intro hra (And.intro hok hfit)))
 clear hB hrd hfit hra hok
 have HB1 := Lib.hid hb1
 clear hb1
 go_wp2_with fail
 ((with_reducible refine (asked_any _ ss l _ (HS.out.below HB1.out) HF.out.1 HF.out.2.1 HF.out.2.2.1 HF.out.2.2.2.1).mono ?_); rintro e w2 ⟨he, hb2⟩)
 have HB2 := Lib.hid (HB1.out.trans (hb2.mono HB1.out.size))
 have HB12 := Lib.hid hb2
 clear hb2
 simp only [HF.out.2.2.2.2] at he
 rw [HP.out] at he
 obtain rfl := he
 unfold noVal
 obtain ⟨w3, hw3⟩ : ∃ w3, (w2.alloc (.cells #[.int .i64 0, .bool false, .int .u64 0, .string ⟨#[]⟩, .slice none 0 0, .slice none 0 0] 79)).alloc (.cells #[.int .i64 x1, .int .i64 x2, .bool false, .string ⟨#[]⟩] 81) = w3 := ⟨_, rfl⟩
 have hb3 : Below w2.heap.size w2 w3 := by rw [← hw3]; exact ((Below.refl _ _).alloc (Nat.le_refl _) _).alloc (by simp) _
 have hv3 : Blk w3 w2.heap.size 79 #[.int .i64 0, .bool false, .int .u64 0, .string ⟨#[]⟩, .slice none 0 0, .slice none 0 0] := by rw [← hw3]; exact (Blk.new w2 _ _).alloc _
 have hf3 : Blk w3 (w2.heap.size + 1) 81 #[.int .i64 x1, .int .i64 x2, .bool false, .string ⟨#[]⟩] := by
  have := Blk.new (w2.alloc (.cells #[.int .i64 0, .bool false, .int .u64 0, .string ⟨#[]⟩, .slice none 0 0, .slice none 0 0] 79)) 81 #[.int .i64 x1, .int .i64 x2, .bool false, .string ⟨#[]⟩]
  rw [World.size_alloc, hw3] at this
  exact this
 have HW3 := Lib.hid (And.intro hv3 hf3)
 have HB3 := Lib.hid (HB2.out.trans (hb3.mono HB2.out.size))
 have HB13 := Lib.hid (HB12.out.trans (hb3.mono HB12.out.size))
 have HW3E := Lib.hid hw3
 clear hb3 hv3 hf3 hw3
 go_upto_region 3 with fail
 rw [HW3E.out]
 go_wp2_with fail
 ((with_reducible refine (btotal_any g t tv l w1 _ HBT.out.1 HBT.out.2.1 HB13.out HBT.out.2.2.1 HBT.out.2.2.2 HF.out.2.2.2.1 (HG.out.1.next HB3.out) (HG.out.2.next HB3.out)).mono ?_); intro e wa hpa)
 obtain ⟨rfl, hba⟩ := totP_inl HLD.out hpa
 have HBA3 := Lib.hid hba
 have HBA := Lib.hid (HB3.out.trans (hba.mono HB3.out.size))
 have HB1A := Lib.hid (HB13.out.trans (hba.mono HB13.out.size))
 clear hba
 go_wp2_with fail
 ((with_reducible refine (bprod_any g t tv l w1 _ HBT.out.1 HBT.out.2.1 HB1A.out HBT.out.2.2.1 HBT.out.2.2.2 HF.out.2.2.2.1 (HG.out.1.next HBA.out) (HG.out.2.next HBA.out)).mono ?_); intro e w4 hpb)
 obtain ⟨rfl, hbb⟩ := prdP_inl HLD.out hpb
 have hb4 := HBA3.out.trans (hbb.mono HBA3.out.size)
 clear hbb
 have HB4 := Lib.hid (HB3.out.trans (hb4.mono HB3.out.size))
 have HF4 := Lib.hid (HW3.out.2.below hb4 HW3.out.2.lt)
 clear hb4
 have HX := fault16_err x1 x2 []
 dsimp only
 obtain ⟨Te, Ue, hTu⟩ := errV_form x1 x2
 rw [hTu] at HX ⊢
 have HX := Lib.hid HX
 clear hTu
 go_wp2_with fail
 ((with_reducible refine (wakes16_any _ (HG.out.1.next HB4.out) (HG.out.2.next HB4.out)).mono ?_); rintro e w5 ⟨rfl, hb5⟩)
 have HB5 := Lib.hid (HB4.out.trans (hb5.mono HB4.out.size))
 have HF5 := Lib.hid (HF4.out.below hb5 HF4.out.lt)
 have k0 : w5.cell? ⟨w2.heap.size + 1, 0, none⟩ = some (.int .i64 x1) := HF5.out.cell 0
 have k1 : w5.cell? ⟨w2.heap.size + 1, 1, none⟩ = some (.int .i64 x2) := HF5.out.cell 1
 have k2 : w5.cell? ⟨w2.heap.size + 1, 2, none⟩ = some (.bool false) := HF5.out.cell 2
 have k3 : w5.cell? ⟨w2.heap.size + 1, 3, none⟩ = some (.string ⟨#[]⟩) := HF5.out.cell 3
 clear hb5
 go_wp2_with fail
 ((with_reducible refine (HX.out _).mono ?_); rintro e w6 ⟨rfl, hb6⟩)
 have HB6 := Lib.hid (HB5.out.trans (hb6.mono HB5.out.size))
 have hF6 := HF5.out.below hb6 HF5.out.lt
 have m0 : w6.cell? ⟨w2.heap.size + 1, 0, none⟩ = some (.int .i64 x1) := hF6.cell 0
 have m1 : w6.cell? ⟨w2.heap.size + 1, 1, none⟩ = some (.int .i64 x2) := hF6.cell 1
 have m2 : w6.cell? ⟨w2.heap.size + 1, 2, none⟩ = some (.bool false) := hF6.cell 2
 have m3 : w6.cell? ⟨w2.heap.size + 1, 3, none⟩ = some (.string ⟨#[]⟩) := hF6.cell 3
 clear hb6 hF6
 go_wp2_with fail
 ((with_reducible refine (HX.out _).mono ?_); rintro e w7 ⟨rfl, hb7⟩)
 have HB7 := Lib.hid (HB6.out.trans (hb7.mono HB6.out.size))
 clear hb7
 go_wp2
 go_ret
 exact ⟨rfl, HB7.out⟩
theorem totals_lost (v : Value) (l : Tx) (ss : List Stp) (w : World) (hS : RdS w v ss) (hF : ∀ s ∈ ss, s.Fine) (hC : ∀ s ∈ ss, s.Cnt) (hn : ss.length ≤ 1048576) (hl : l.length ≤ 4194304) (hG : Glob w) (hT : Tab w) (t : Tr) (hb : buildT ss = .inr t) (ts : List Tx) (hp : parseS (wrong l) l = .ok ts) (n : Nat) (hle : leadT t ts 0 = .inl n) :
  Calls Tryz.prog 7 #[v, .string ⟨l.toArray⟩] w (TrueN w) := by
 have HP := Lib.hid hp
 have HLE := Lib.hid hle
 have HLD := Lib.hid (lstD_lost hp hle)
 clear hp hle
 have hff : (Ieee.double.order 0 0 == some Ordering.eq) = true := by decide
 have r1 := ordt hff
 have r2 := ordb hff
 have r9 := ordn hff
 have q1 := err_ne_nil
 have q2 := err_ne_held
 have q3 := err_eq_nil
 have q4 := err_eq_held
 obtain ⟨SA, sc, rfl, _⟩ := id hS
 have HS := Lib.hid hS
 have HF := Lib.hid (And.intro hF (And.intro hC (And.intro hn (And.intro hl hb))))
 have HG := Lib.hid (And.intro hG hT)
 clear hS hF hC hn hl hG hT hb
 go_enter Tryz.func7, Tryz.ntmps7
 go_wp2_with fail
 ((with_reducible refine (build_all _ ss _ HS.out HF.out.1).mono ?_); intro e w1 hP)
 obtain ⟨hb1, hP⟩ := hP
 simp only [HF.out.2.2.2.2] at hP
 obtain ⟨g, rfl, hTA⟩ := hP
 obtain ⟨_, hfit, tv, hB, hrd⟩ := hTA
 have hok := (buildT_ok HF.out.1 HF.out.2.2.2.2).1
 have hra : RdA w1 t tv := RdT.move (fun j hj hs => ⟨trivial, rfl⟩) _ _ hrd
 have HBT := Lib.hid (And.intro hB (And.intro hra (And.intro hok hfit)))
 clear hB hrd hfit hra hok
 have HB1 := Lib.hid hb1
 clear hb1
 go_wp2_with fail
 ((with_reducible refine (asked_any _ ss l _ (HS.out.below HB1.out) HF.out.1 HF.out.2.1 HF.out.2.2.1 HF.out.2.2.2.1).mono ?_); rintro e w2 ⟨he, hb2⟩)
 have HB2 := Lib.hid (HB1.out.trans (hb2.mono HB1.out.size))
 have HB12 := Lib.hid hb2
 clear hb2
 simp only [HF.out.2.2.2.2] at he
 rw [HP.out] at he
 dsimp only at he
 rw [HLE.out] at he
 obtain rfl := he
 unfold noVal
 obtain ⟨w3, hw3⟩ : ∃ w3, (w2.alloc (.cells #[.int .i64 0, .bool false, .int .u64 0, .string ⟨#[]⟩, .slice none 0 0, .slice none 0 0] 79)).alloc (.cells #[.int .i64 4, .int .i64 0, .bool true, .string ⟨(printS (ts.take n)).toArray⟩] 81) = w3 := ⟨_, rfl⟩
 have hb3 : Below w2.heap.size w2 w3 := by rw [← hw3]; exact ((Below.refl _ _).alloc (Nat.le_refl _) _).alloc (by simp) _
 have hv3 : Blk w3 w2.heap.size 79 #[.int .i64 0, .bool false, .int .u64 0, .string ⟨#[]⟩, .slice none 0 0, .slice none 0 0] := by rw [← hw3]; exact (Blk.new w2 _ _).alloc _
 have hf3 : Blk w3 (w2.heap.size + 1) 81 #[.int .i64 4, .int .i64 0, .bool true, .string ⟨(printS (ts.take n)).toArray⟩] := by
  have := Blk.new (w2.alloc (.cells #[.int .i64 0, .bool false, .int .u64 0, .string ⟨#[]⟩, .slice none 0 0, .slice none 0 0] 79)) 81 #[.int .i64 4, .int .i64 0, .bool true, .string ⟨(printS (ts.take n)).toArray⟩]
  rw [World.size_alloc, hw3] at this
  exact this
 have HW3 := Lib.hid (And.intro hv3 hf3)
 have HB3 := Lib.hid (HB2.out.trans (hb3.mono HB2.out.size))
 have HB13 := Lib.hid (HB12.out.trans (hb3.mono HB12.out.size))
 have HW3E := Lib.hid hw3
 clear hb3 hv3 hf3 hw3
 go_upto_region 3 with fail
 rw [HW3E.out]
 go_wp2_with fail
 ((with_reducible refine (btotal_any g t tv l w1 _ HBT.out.1 HBT.out.2.1 HB13.out HBT.out.2.2.1 HBT.out.2.2.2 HF.out.2.2.2.1 (HG.out.1.next HB3.out) (HG.out.2.next HB3.out)).mono ?_); intro e wa hpa)
 obtain ⟨rfl, hba⟩ := totP_inl HLD.out hpa
 have HBA3 := Lib.hid hba
 have HBA := Lib.hid (HB3.out.trans (hba.mono HB3.out.size))
 have HB1A := Lib.hid (HB13.out.trans (hba.mono HB13.out.size))
 clear hba
 go_wp2_with fail
 ((with_reducible refine (bprod_any g t tv l w1 _ HBT.out.1 HBT.out.2.1 HB1A.out HBT.out.2.2.1 HBT.out.2.2.2 HF.out.2.2.2.1 (HG.out.1.next HBA.out) (HG.out.2.next HBA.out)).mono ?_); intro e w4 hpb)
 obtain ⟨rfl, hbb⟩ := prdP_inl HLD.out hpb
 have hb4 := HBA3.out.trans (hbb.mono HBA3.out.size)
 clear hbb
 have HB4 := Lib.hid (HB3.out.trans (hb4.mono HB3.out.size))
 have HF4 := Lib.hid (HW3.out.2.below hb4 HW3.out.2.lt)
 clear hb4
 have HX := fault16_trail 4 0 (printS (ts.take n))
 unfold trlV at HX ⊢
 have HX := Lib.hid HX
 go_wp2_with fail
 ((with_reducible refine (wakes16_any _ (HG.out.1.next HB4.out) (HG.out.2.next HB4.out)).mono ?_); rintro e w5 ⟨rfl, hb5⟩)
 have HB5 := Lib.hid (HB4.out.trans (hb5.mono HB4.out.size))
 have HF5 := Lib.hid (HF4.out.below hb5 HF4.out.lt)
 have k0 : w5.cell? ⟨w2.heap.size + 1, 0, none⟩ = some (.int .i64 4) := HF5.out.cell 0
 have k1 : w5.cell? ⟨w2.heap.size + 1, 1, none⟩ = some (.int .i64 0) := HF5.out.cell 1
 have k2 : w5.cell? ⟨w2.heap.size + 1, 2, none⟩ = some (.bool true) := HF5.out.cell 2
 have k3 : w5.cell? ⟨w2.heap.size + 1, 3, none⟩ = some (.string ⟨(printS (ts.take n)).toArray⟩) := HF5.out.cell 3
 clear hb5
 go_wp2_with fail
 ((with_reducible refine (HX.out _).mono ?_); rintro e w6 ⟨rfl, hb6⟩)
 have HB6 := Lib.hid (HB5.out.trans (hb6.mono HB5.out.size))
 have hF6 := HF5.out.below hb6 HF5.out.lt
 have m0 : w6.cell? ⟨w2.heap.size + 1, 0, none⟩ = some (.int .i64 4) := hF6.cell 0
 have m1 : w6.cell? ⟨w2.heap.size + 1, 1, none⟩ = some (.int .i64 0) := hF6.cell 1
 have m2 : w6.cell? ⟨w2.heap.size + 1, 2, none⟩ = some (.bool true) := hF6.cell 2
 have m3 : w6.cell? ⟨w2.heap.size + 1, 3, none⟩ = some (.string ⟨(printS (ts.take n)).toArray⟩) := hF6.cell 3
 clear hb6 hF6
 go_wp2_with fail
 ((with_reducible refine (HX.out _).mono ?_); rintro e w7 ⟨rfl, hb7⟩)
 have HB7 := Lib.hid (HB6.out.trans (hb7.mono HB6.out.size))
 clear hb7
 go_wp2
 go_ret
 exact ⟨rfl, HB7.out⟩
theorem totals_sort (v : Value) (l : Tx) (ss : List Stp) (w : World) (hS : RdS w v ss) (hF : ∀ s ∈ ss, s.Fine) (hC : ∀ s ∈ ss, s.Cnt) (hn : ss.length ≤ 1048576) (hl : l.length ≤ 4194304) (hG : Glob w) (hT : Tab w) (t : Tr) (hb : buildT ss = .inr t) (ts : List Tx) (hp : parseS (wrong l) l = .ok ts) (u : Tr) (hle : leadT t ts 0 = .inr u) (hs : ¬ u.srt = 5) :
  Calls Tryz.prog 7 #[v, .string ⟨l.toArray⟩] w (TrueN w) := by
 have HP := Lib.hid hp
 have HLE := Lib.hid hle
 have HLD := Lib.hid (lstD_no hp hle hs)
 have hsi : (((u.srt : Nat) : Int) != 5) = true := by simpa using (show ¬ ((u.srt : Nat) : Int) = 5 by omega)
 have hsj : (((u.srt : Nat) : Int) == 5) = false := by simpa using (show ¬ ((u.srt : Nat) : Int) = 5 by omega)
 have HTR := Lib.hid (lawTrail16 5 l)
 clear hp hle hs
 have hff : (Ieee.double.order 0 0 == some Ordering.eq) = true := by decide
 have r1 := ordt hff
 have r2 := ordb hff
 have r9 := ordn hff
 have q1 := err_ne_nil
 have q2 := err_ne_held
 have q3 := err_eq_nil
 have q4 := err_eq_held
 obtain ⟨SA, sc, rfl, _⟩ := id hS
 have HS := Lib.hid hS
 have HF := Lib.hid (And.intro hF (And.intro hC (And.intro hn (And.intro hl hb))))
 have HG := Lib.hid (And.intro hG hT)
 clear hS hF hC hn hl hG hT hb
 go_enter Tryz.func7, Tryz.ntmps7
 go_wp2_with fail
 ((with_reducible refine (build_all _ ss _ HS.out HF.out.1).mono ?_); intro e w1 hP)
 obtain ⟨hb1, hP⟩ := hP
 simp only [HF.out.2.2.2.2] at hP
 obtain ⟨g, rfl, hTA⟩ := hP
 obtain ⟨_, hfit, tv, hB, hrd⟩ := hTA
 have hok := (buildT_ok HF.out.1 HF.out.2.2.2.2).1
 have hra : RdA w1 t tv := RdT.move (fun j hj hs => ⟨trivial, rfl⟩) _ _ hrd
 have HBT := Lib.hid (And.intro hB (And.intro hra (And.intro hok hfit)))
 clear hB hrd hfit hra hok
 have HB1 := Lib.hid hb1
 clear hb1
 go_wp2_with fail
 ((with_reducible refine (asked_any _ ss l _ (HS.out.below HB1.out) HF.out.1 HF.out.2.1 HF.out.2.2.1 HF.out.2.2.2.1).mono ?_); rintro e w2 ⟨he, hb2⟩)
 have HB2 := Lib.hid (HB1.out.trans (hb2.mono HB1.out.size))
 have HB12 := Lib.hid hb2
 clear hb2
 simp only [HF.out.2.2.2.2] at he
 rw [HP.out] at he
 dsimp only at he
 rw [HLE.out] at he
 obtain ⟨A5, c5, K5, d5, rfl, hru, huo⟩ := he
 have HUO := Lib.hid huo
 have HRU := Lib.hid hru
 clear hru huo
 unfold valV
 obtain ⟨w3, hw3⟩ : ∃ w3, (w2.alloc (.cells #[.int .i64 (u.srt : Nat), .bool u.fl, .int .u64 (u.bi : Nat), .string ⟨u.tx.toArray⟩, .slice A5 u.kids.length c5, .slice K5 u.kn.length d5] 79)).alloc (.cells #[.int .i64 0, .int .i64 0, .bool false, .string ⟨#[]⟩] 81) = w3 := ⟨_, rfl⟩
 have hb3 : Below w2.heap.size w2 w3 := by rw [← hw3]; exact ((Below.refl _ _).alloc (Nat.le_refl _) _).alloc (by simp) _
 have hv3 : Blk w3 w2.heap.size 79 #[.int .i64 (u.srt : Nat), .bool u.fl, .int .u64 (u.bi : Nat), .string ⟨u.tx.toArray⟩, .slice A5 u.kids.length c5, .slice K5 u.kn.length d5] := by rw [← hw3]; exact (Blk.new w2 _ _).alloc _
 have hf3 : Blk w3 (w2.heap.size + 1) 81 #[.int .i64 0, .int .i64 0, .bool false, .string ⟨#[]⟩] := by
  have := Blk.new (w2.alloc (.cells #[.int .i64 (u.srt : Nat), .bool u.fl, .int .u64 (u.bi : Nat), .string ⟨u.tx.toArray⟩, .slice A5 u.kids.length c5, .slice K5 u.kn.length d5] 79)) 81 #[.int .i64 0, .int .i64 0, .bool false, .string ⟨#[]⟩]
  rw [World.size_alloc, hw3] at this
  exact this
 have HW3 := Lib.hid (And.intro hv3 hf3)
 have HB3 := Lib.hid (HB2.out.trans (hb3.mono HB2.out.size))
 have HB13 := Lib.hid (HB12.out.trans (hb3.mono HB12.out.size))
 have HW3E := Lib.hid hw3
 clear hb3 hv3 hf3 hw3
 go_upto_region 3 with fail
 rw [HW3E.out]
 go_wp2_with fail
 ((with_reducible refine (btotal_any g t tv l w1 _ HBT.out.1 HBT.out.2.1 HB13.out HBT.out.2.2.1 HBT.out.2.2.2 HF.out.2.2.2.1 (HG.out.1.next HB3.out) (HG.out.2.next HB3.out)).mono ?_); intro e wa hpa)
 obtain ⟨rfl, hba⟩ := totP_inl HLD.out hpa
 have HBA3 := Lib.hid hba
 have HBA := Lib.hid (HB3.out.trans (hba.mono HB3.out.size))
 have HB1A := Lib.hid (HB13.out.trans (hba.mono HB13.out.size))
 clear hba
 go_wp2_with fail
 ((with_reducible refine (bprod_any g t tv l w1 _ HBT.out.1 HBT.out.2.1 HB1A.out HBT.out.2.2.1 HBT.out.2.2.2 HF.out.2.2.2.1 (HG.out.1.next HBA.out) (HG.out.2.next HBA.out)).mono ?_); intro e w4 hpb)
 obtain ⟨rfl, hbb⟩ := prdP_inl HLD.out hpb
 have hb4 := HBA3.out.trans (hbb.mono HBA3.out.size)
 clear hbb
 have HB4 := Lib.hid (HB3.out.trans (hb4.mono HB3.out.size))
 have HF4 := Lib.hid (HW3.out.2.below hb4 HW3.out.2.lt)
 have HV4 := Lib.hid (HW3.out.1.below hb4 HW3.out.1.lt)
 clear hb4
 have HX := fault16_trail 5 0 l
 unfold trlV at HX ⊢
 have HX := Lib.hid HX
 go_wp2_with fail
 ((with_reducible refine (wakes16_any _ (HG.out.1.next HB4.out) (HG.out.2.next HB4.out)).mono ?_); rintro e w5 ⟨rfl, hb5⟩)
 have HB5 := Lib.hid (HB4.out.trans (hb5.mono HB4.out.size))
 have HF5 := Lib.hid (HF4.out.below hb5 HF4.out.lt)
 have HV5 := Lib.hid (HV4.out.below hb5 HV4.out.lt)
 clear hb5
 have k0 : w5.cell? ⟨w2.heap.size + 1, 0, none⟩ = some (.int .i64 0) := HF5.out.cell 0
 have k1 : w5.cell? ⟨w2.heap.size + 1, 1, none⟩ = some (.int .i64 0) := HF5.out.cell 1
 have k2 : w5.cell? ⟨w2.heap.size + 1, 2, none⟩ = some (.bool false) := HF5.out.cell 2
 have k3 : w5.cell? ⟨w2.heap.size + 1, 3, none⟩ = some (.string ⟨#[]⟩) := HF5.out.cell 3
 have v0 : w5.cell? ⟨w2.heap.size, 0, none⟩ = some (.int .i64 (u.srt : Nat)) := HV5.out.cell 0
 have v1 : w5.cell? ⟨w2.heap.size, 1, none⟩ = some (.bool u.fl) := HV5.out.cell 1
 have v2 : w5.cell? ⟨w2.heap.size, 2, none⟩ = some (.int .u64 (u.bi : Nat)) := HV5.out.cell 2
 have v3 : w5.cell? ⟨w2.heap.size, 3, none⟩ = some (.string ⟨u.tx.toArray⟩) := HV5.out.cell 3
 have v4 : w5.cell? ⟨w2.heap.size, 4, none⟩ = some (.slice A5 u.kids.length c5) := HV5.out.cell 4
 have v5 : w5.cell? ⟨w2.heap.size, 5, none⟩ = some (.slice K5 u.kn.length d5) := HV5.out.cell 5
 go_wp2_with fail
 ((with_reducible refine (HTR.out _).mono ?_); rintro e w6 ⟨rfl, hb6⟩)
 have HB6 := Lib.hid (HB5.out.trans (hb6.mono HB5.out.size))
 have HF6 := Lib.hid (HF5.out.below hb6 HF5.out.lt)
 clear hb6 k0 k1 k2 k3 v0 v1 v2 v3 v4 v5
 have y0 : w6.cell? ⟨w2.heap.size + 1, 0, none⟩ = some (.int .i64 0) := HF6.out.cell 0
 have y1 : w6.cell? ⟨w2.heap.size + 1, 1, none⟩ = some (.int .i64 0) := HF6.out.cell 1
 have y2 : w6.cell? ⟨w2.heap.size + 1, 2, none⟩ = some (.bool false) := HF6.out.cell 2
 have y3 : w6.cell? ⟨w2.heap.size + 1, 3, none⟩ = some (.string ⟨#[]⟩) := HF6.out.cell 3
 have rr0 := HF6.out.frozen 0
 have rr1 := HF6.out.frozen 1
 have rr2 := HF6.out.frozen 2
 have rr3 := HF6.out.frozen 3
 have hlt6 := HF6.out.lt
 obtain ⟨w7, hw7⟩ : ∃ w7, (((w6.setCell ⟨w2.heap.size + 1, 0, none⟩ (.int .i64 5)).setCell ⟨w2.heap.size + 1, 1, none⟩ (.int .i64 0)).setCell ⟨w2.heap.size + 1, 2, none⟩ (.bool true)).setCell ⟨w2.heap.size + 1, 3, none⟩ (.string ⟨l.toArray⟩) = w7 := ⟨_, rfl⟩
 have hf7 : Blk w7 (w2.heap.size + 1) 81 #[.int .i64 5, .int .i64 0, .bool true, .string ⟨l.toArray⟩] := by rw [← hw7]; exact four_blk HF6.out (.int .i64 5) (.int .i64 0) (.bool true) (.string ⟨l.toArray⟩)
 have hb7 : Below w.heap.size w w7 := by rw [← hw7]; exact four_below HB6.out (show w.heap.size ≤ w2.heap.size + 1 by have := HB2.out.size; omega) (.int .i64 5) (.int .i64 0) (.bool true) (.string ⟨l.toArray⟩)
 have HW7E := Lib.hid hw7
 have HF5 := Lib.hid hf7
 have HB5 := Lib.hid hb7
 clear hw7 hf7 hb7
 go_upto_region 9 with fail
 rw [HW7E.out]
 have k0 : w7.cell? ⟨w2.heap.size + 1, 0, none⟩ = some (.int .i64 5) := HF5.out.cell 0
 have k1 : w7.cell? ⟨w2.heap.size + 1, 1, none⟩ = some (.int .i64 0) := HF5.out.cell 1
 have k2 : w7.cell? ⟨w2.heap.size + 1, 2, none⟩ = some (.bool true) := HF5.out.cell 2
 have k3 : w7.cell? ⟨w2.heap.size + 1, 3, none⟩ = some (.string ⟨l.toArray⟩) := HF5.out.cell 3
 go_wp2_with fail
 ((with_reducible refine (HX.out _).mono ?_); rintro e w6 ⟨rfl, hb6⟩)
 have HB6 := Lib.hid (HB5.out.trans (hb6.mono HB5.out.size))
 have hF6 := HF5.out.below hb6 HF5.out.lt
 have m0 : w6.cell? ⟨w2.heap.size + 1, 0, none⟩ = some (.int .i64 5) := hF6.cell 0
 have m1 : w6.cell? ⟨w2.heap.size + 1, 1, none⟩ = some (.int .i64 0) := hF6.cell 1
 have m2 : w6.cell? ⟨w2.heap.size + 1, 2, none⟩ = some (.bool true) := hF6.cell 2
 have m3 : w6.cell? ⟨w2.heap.size + 1, 3, none⟩ = some (.string ⟨l.toArray⟩) := hF6.cell 3
 clear hb6 hF6
 go_wp2_with fail
 ((with_reducible refine (HX.out _).mono ?_); rintro e w8 ⟨rfl, hb7⟩)
 have HB7 := Lib.hid (HB6.out.trans (hb7.mono HB6.out.size))
 clear hb7
 go_wp2
 go_ret
 exact ⟨rfl, HB7.out⟩
theorem totals_list (v : Value) (l : Tx) (ss : List Stp) (w : World) (hS : RdS w v ss) (hF : ∀ s ∈ ss, s.Fine) (hC : ∀ s ∈ ss, s.Cnt) (hn : ss.length ≤ 1048576) (hl : l.length ≤ 4194304) (hG : Glob w) (hT : Tab w) (t : Tr) (hb : buildT ss = .inr t) (ts : List Tx) (hp : parseS (wrong l) l = .ok ts) (u : Tr) (hle : leadT t ts 0 = .inr u) (hs : u.srt = 5) :
  Calls Tryz.prog 7 #[v, .string ⟨l.toArray⟩] w (TrueN w) := by
 have HP := Lib.hid hp
 have HLE := Lib.hid hle
 have HLD := Lib.hid (lstD_ok hp hle hs)
 have hsi : (((u.srt : Nat) : Int) != 5) = false := by rw [hs]; rfl
 have hsj : (((u.srt : Nat) : Int) == 5) = true := by rw [hs]; rfl
 clear hp hle hs
 have hff : (Ieee.double.order 0 0 == some Ordering.eq) = true := by decide
 have r1 := ordt hff
 have r2 := ordb hff
 have r9 := ordn hff
 have q1 := err_ne_nil
 have q2 := err_ne_held
 have q3 := err_eq_nil
 have q4 := err_eq_held
 obtain ⟨SA, sc, rfl, _⟩ := id hS
 have HS := Lib.hid hS
 have HF := Lib.hid (And.intro hF (And.intro hC (And.intro hn (And.intro hl hb))))
 have HG := Lib.hid (And.intro hG hT)
 clear hS hF hC hn hl hG hT hb
 go_enter Tryz.func7, Tryz.ntmps7
 go_wp2_with fail
 ((with_reducible refine (build_all _ ss _ HS.out HF.out.1).mono ?_); intro e w1 hP)
 obtain ⟨hb1, hP⟩ := hP
 simp only [HF.out.2.2.2.2] at hP
 obtain ⟨g, rfl, hTA⟩ := hP
 obtain ⟨_, hfit, tv, hB, hrd⟩ := hTA
 have hok := (buildT_ok HF.out.1 HF.out.2.2.2.2).1
 have hra : RdA w1 t tv := RdT.move (fun j hj hs => ⟨trivial, rfl⟩) _ _ hrd
 have HBT := Lib.hid (And.intro hB (And.intro hra (And.intro hok hfit)))
 clear hB hrd hfit hra hok
 have HB1 := Lib.hid hb1
 clear hb1
 go_wp2_with fail
 ((with_reducible refine (asked_any _ ss l _ (HS.out.below HB1.out) HF.out.1 HF.out.2.1 HF.out.2.2.1 HF.out.2.2.2.1).mono ?_); rintro e w2 ⟨he, hb2⟩)
 have HB2 := Lib.hid (HB1.out.trans (hb2.mono HB1.out.size))
 have HB12 := Lib.hid hb2
 clear hb2
 simp only [HF.out.2.2.2.2] at he
 rw [HP.out] at he
 dsimp only at he
 rw [HLE.out] at he
 obtain ⟨A5, c5, K5, d5, rfl, hru, huo⟩ := he
 have HUO := Lib.hid huo
 have HRU := Lib.hid hru
 clear hru huo
 unfold valV
 obtain ⟨w3, hw3⟩ : ∃ w3, (w2.alloc (.cells #[.int .i64 (u.srt : Nat), .bool u.fl, .int .u64 (u.bi : Nat), .string ⟨u.tx.toArray⟩, .slice A5 u.kids.length c5, .slice K5 u.kn.length d5] 79)).alloc (.cells #[.int .i64 0, .int .i64 0, .bool false, .string ⟨#[]⟩] 81) = w3 := ⟨_, rfl⟩
 have hb3 : Below w2.heap.size w2 w3 := by rw [← hw3]; exact ((Below.refl _ _).alloc (Nat.le_refl _) _).alloc (by simp) _
 have hv3 : Blk w3 w2.heap.size 79 #[.int .i64 (u.srt : Nat), .bool u.fl, .int .u64 (u.bi : Nat), .string ⟨u.tx.toArray⟩, .slice A5 u.kids.length c5, .slice K5 u.kn.length d5] := by rw [← hw3]; exact (Blk.new w2 _ _).alloc _
 have hf3 : Blk w3 (w2.heap.size + 1) 81 #[.int .i64 0, .int .i64 0, .bool false, .string ⟨#[]⟩] := by
  have := Blk.new (w2.alloc (.cells #[.int .i64 (u.srt : Nat), .bool u.fl, .int .u64 (u.bi : Nat), .string ⟨u.tx.toArray⟩, .slice A5 u.kids.length c5, .slice K5 u.kn.length d5] 79)) 81 #[.int .i64 0, .int .i64 0, .bool false, .string ⟨#[]⟩]
  rw [World.size_alloc, hw3] at this
  exact this
 have HW3 := Lib.hid (And.intro hv3 hf3)
 have HB3 := Lib.hid (HB2.out.trans (hb3.mono HB2.out.size))
 have HB23 := Lib.hid hb3
 have HB13 := Lib.hid (HB12.out.trans (hb3.mono HB12.out.size))
 have HW3E := Lib.hid hw3
 clear hb3 hv3 hf3 hw3
 obtain ⟨x, ev, hta, htb⟩ := tot_law HLD.out HUO.out.1 HUO.out.2 HF.out.2.2.2.1
 obtain ⟨re, im, eg, hpa0, hpb0⟩ := prd_law HLD.out HUO.out.1 HUO.out.2 HF.out.2.2.2.1
 have HTA := Lib.hid hta
 have HTB := Lib.hid htb
 have HPA := Lib.hid hpa0
 have HPB := Lib.hid hpb0
 clear hta htb hpa0 hpb0
 go_upto_region 3 with fail
 rw [HW3E.out]
 go_wp2_with fail
 ((with_reducible refine (btotal_any g t tv l w1 _ HBT.out.1 HBT.out.2.1 HB13.out HBT.out.2.2.1 HBT.out.2.2.2 HF.out.2.2.2.1 (HG.out.1.next HB3.out) (HG.out.2.next HB3.out)).mono ?_); intro e wa hpa)
 obtain ⟨rfl, hba⟩ := HTA.out _ _ _ hpa
 have HBA3 := Lib.hid hba
 have HBA := Lib.hid (HB3.out.trans (hba.mono HB3.out.size))
 have HB1A := Lib.hid (HB13.out.trans (hba.mono HB13.out.size))
 clear hba
 go_wp2_with fail
 ((with_reducible refine (bprod_any g t tv l w1 _ HBT.out.1 HBT.out.2.1 HB1A.out HBT.out.2.2.1 HBT.out.2.2.2 HF.out.2.2.2.1 (HG.out.1.next HBA.out) (HG.out.2.next HBA.out)).mono ?_); intro e w4 hpb)
 obtain ⟨rfl, hbb⟩ := HPA.out _ _ _ hpb
 have hb4 := HBA3.out.trans (hbb.mono HBA3.out.size)
 clear hbb
 have HB4 := Lib.hid (HB3.out.trans (hb4.mono HB3.out.size))
 have HF4 := Lib.hid (HW3.out.2.below hb4 HW3.out.2.lt)
 have HV4 := Lib.hid (HW3.out.1.below hb4 HW3.out.1.lt)
 have HR4 := Lib.hid (HB23.out.trans (hb4.mono HB23.out.size))
 clear hb4
 go_wp2_with fail
 ((with_reducible refine (wakes16_any _ (HG.out.1.next HB4.out) (HG.out.2.next HB4.out)).mono ?_); rintro e w5 ⟨rfl, hb5⟩)
 have HB5 := Lib.hid (HB4.out.trans (hb5.mono HB4.out.size))
 have HF5 := Lib.hid (HF4.out.below hb5 HF4.out.lt)
 have HV5 := Lib.hid (HV4.out.below hb5 HV4.out.lt)
 have HR5 := Lib.hid (HR4.out.trans (hb5.mono HR4.out.size))
 have HTC := Lib.hid (HTB.out w5 A5 c5 K5 d5 (RdV.move (fun j hj hs => ⟨trivial, HR5.out.block j hj⟩) _ _ HRU.out))
 have HPC := Lib.hid (fun (W : World) (hb : Below w5.heap.size w5 W) => HPB.out W A5 c5 K5 d5 (RdV.move (fun j hj hs => ⟨trivial, (HR5.out.trans (hb.mono HR5.out.size)).block j hj⟩) _ _ HRU.out))
 unfold valV at HTC HPC
 clear hb5 HTA HTB HPA HPB
 have k0 : w5.cell? ⟨w2.heap.size + 1, 0, none⟩ = some (.int .i64 0) := HF5.out.cell 0
 have k1 : w5.cell? ⟨w2.heap.size + 1, 1, none⟩ = some (.int .i64 0) := HF5.out.cell 1
 have k2 : w5.cell? ⟨w2.heap.size + 1, 2, none⟩ = some (.bool false) := HF5.out.cell 2
 have k3 : w5.cell? ⟨w2.heap.size + 1, 3, none⟩ = some (.string ⟨#[]⟩) := HF5.out.cell 3
 have v0 : w5.cell? ⟨w2.heap.size, 0, none⟩ = some (.int .i64 (u.srt : Nat)) := HV5.out.cell 0
 have v1 : w5.cell? ⟨w2.heap.size, 1, none⟩ = some (.bool u.fl) := HV5.out.cell 1
 have v2 : w5.cell? ⟨w2.heap.size, 2, none⟩ = some (.int .u64 (u.bi : Nat)) := HV5.out.cell 2
 have v3 : w5.cell? ⟨w2.heap.size, 3, none⟩ = some (.string ⟨u.tx.toArray⟩) := HV5.out.cell 3
 have v4 : w5.cell? ⟨w2.heap.size, 4, none⟩ = some (.slice A5 u.kids.length c5) := HV5.out.cell 4
 have v5 : w5.cell? ⟨w2.heap.size, 5, none⟩ = some (.slice K5 u.kn.length d5) := HV5.out.cell 5
 go_wp2_with fail
 ((with_reducible refine (HTC.out).mono ?_); rintro e w6 ⟨rfl, hb6⟩)
 have HPD := Lib.hid (HPC.out _ hb6)
 have HB6 := Lib.hid (HB5.out.trans (hb6.mono HB5.out.size))
 have HV6 := Lib.hid (HV5.out.below hb6 HV5.out.lt)
 clear hb6 HTC HPC
 have m0 : w6.cell? ⟨w2.heap.size, 0, none⟩ = some (.int .i64 (u.srt : Nat)) := HV6.out.cell 0
 have m1 : w6.cell? ⟨w2.heap.size, 1, none⟩ = some (.bool u.fl) := HV6.out.cell 1
 have m2 : w6.cell? ⟨w2.heap.size, 2, none⟩ = some (.int .u64 (u.bi : Nat)) := HV6.out.cell 2
 have m3 : w6.cell? ⟨w2.heap.size, 3, none⟩ = some (.string ⟨u.tx.toArray⟩) := HV6.out.cell 3
 have m4 : w6.cell? ⟨w2.heap.size, 4, none⟩ = some (.slice A5 u.kids.length c5) := HV6.out.cell 4
 have m5 : w6.cell? ⟨w2.heap.size, 5, none⟩ = some (.slice K5 u.kn.length d5) := HV6.out.cell 5
 go_wp2_with fail
 ((with_reducible refine (HPD.out).mono ?_); rintro e w7 ⟨rfl, hb7⟩)
 have HB7 := Lib.hid (HB6.out.trans (hb7.mono HB6.out.size))
 clear hb7
 go_wp2
 go_ret
 exact ⟨rfl, HB7.out⟩
theorem totals_any (v : Value) (l : Tx) (ss : List Stp) (w : World) (hS : RdS w v ss) (hF : ∀ s ∈ ss, s.Fine) (hC : ∀ s ∈ ss, s.Cnt) (hn : ss.length ≤ 1048576) (hl : l.length ≤ 4194304) (hG : Glob w) (hT : Tab w) : Calls Tryz.prog 7 #[v, .string ⟨l.toArray⟩] w (TrueN w) := by
 cases hb : buildT ss with
 | inl x => exact totals_refused v l ss w hS hF hC hn hl hG hT x hb
 | inr t =>
  cases hp : parseS (wrong l) l with
  | error x => exact totals_bad v l ss w hS hF hC hn hl hG hT t hb x.1 x.2 hp
  | ok ts =>
   cases hle : leadT t ts 0 with
   | inl n => exact totals_lost v l ss w hS hF hC hn hl hG hT t hb ts hp n hle
   | inr u =>
    by_cases hs : u.srt = 5
    ·exact totals_list v l ss w hS hF hC hn hl hG hT t hb ts hp u hle hs
    ·exact totals_sort v l ss w hS hF hC hn hl hG hT t hb ts hp u hle hs
end Nd
end Go.Proofs.YtbajkglacfheiaaGreatDoor
