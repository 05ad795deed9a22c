/-
  The law BindNarrows of layer 16: its walk where a value is found.
-/
import Derived.Test.YtbajkglacfheiaaGreatDoorNA33
set_option linter.unusedVariables false
set_option linter.unusedSimpArgs false
set_option maxRecDepth 100000
set_option maxHeartbeats 16000000
namespace Go.Proofs.YtbajkglacfheiaaGreatDoor
open Go.RowKit Mem Utf Ref3 Idx Tok TokC
set_option maxRecDepth 100000
namespace Nd
theorem first_test {u : Tr} (ho : u.Ok) : (u.isNb = true → ((((u.srt : Nat) : Int) == 3) = true ∧ (((u.bi : Nat) : Int) / 9223372036854775808 == 1) = decide (valB u.nb < 0))) ∧ (u.isNb = false → (((u.srt : Nat) : Int) == 3) = false ∧ ¬ valB u.nb < 0) := by
 have h0 : ¬ valB 0 < 0 := by rw [val_nought]; omega
 cases u with
 | num x =>
  refine ⟨fun _ => ⟨rfl, ?_⟩, fun h => (by cases h)⟩
  show ((x : Int) / 9223372036854775808 == 1) = decide (valB x < 0)
  rw [← sgn_val ho.2.2 ho.1 ho.2.1]
  exact sgn_test ho.2.2
 | null => exact ⟨fun h => (by cases h), fun _ => ⟨rfl, h0⟩⟩
 | flag b => exact ⟨fun h => (by cases h), fun _ => ⟨rfl, h0⟩⟩
 | text s => exact ⟨fun h => (by cases h), fun _ => ⟨rfl, h0⟩⟩
 | list l => exact ⟨fun h => (by cases h), fun _ => ⟨rfl, h0⟩⟩
 | obj ks l => exact ⟨fun h => (by cases h), fun _ => ⟨rfl, h0⟩⟩
theorem narrow_kind {u : Tr} : ∀ (n f : Nat) (e : Int) (k : Nat) (z : Int), narrowD u f n e = .inr (k, z) → f ≤ k ∧ k < f + n ∧ kindD k u = .inr z
 | 0, f, e, k, z, h => by
  rw [narrowD] at h
  cases h
 | n + 1, f, e, k, z, h => by
  cases hk : kindD f u with
  | inr z' =>
   rw [narrowD_yes hk] at h
   injection h with h
   injection h with h1 h2
   subst h1 h2
   exact ⟨by omega, by omega, hk⟩
  | inl e' =>
   rw [narrowD_no hk] at h
   obtain ⟨a, b, c⟩ := narrow_kind n (f + 1) e' k z h
   exact ⟨by omega, by omega, c⟩
theorem narrows_none (v : Value) (l : Tx) (ss : List Stp) (w : World) (hS : RdS w v ss) (hF : ∀ s ∈ ss, s.Fine) (hC : ∀ s ∈ ss, s.Cnt) (hn : ss.length ≤ 1048576) (hl : l.length ≤ 4194304) (hG : Glob w) (hT : Tab w) (t : Tr) (hb : buildT ss = .inr t) (ts : List Tx) (hp : parseS (wrong l) l = .ok ts) (u : Tr) (hle : leadT t ts 0 = .inr u) (m : Int) (hr : narrowD u (firstK u) 4 0 = .inl m) :
  Calls Tryz.prog 5 #[v, .string ⟨l.toArray⟩] w (TrueN w) := by
 have HP := Lib.hid hp
 have HLE := Lib.hid hle
 have HR0 := Lib.hid hr
 clear hp hle hr
 have q1 := err_ne_nil
 have q2 := err_ne_held
 have q3 := err_eq_nil
 have q4 := err_eq_held
 have q5 := who_eq_nil
 have q6 := who_eq_held
 obtain ⟨SA, sc, rfl, _⟩ := id hS
 have HS := Lib.hid hS
 have HF := Lib.hid (And.intro hF (And.intro hC (And.intro hn (And.intro hl hb))))
 have HG := Lib.hid (And.intro hG hT)
 clear hS hF hC hn hl hG hT hb
 go_enter Tryz.func5, Tryz.ntmps5
 go_wp2_with fail
 ((with_reducible refine (build_all _ ss _ HS.out HF.out.1).mono ?_); intro e w1 hP)
 obtain ⟨hb1, hP⟩ := hP
 simp only [HF.out.2.2.2.2] at hP
 obtain ⟨g, rfl, hTA⟩ := hP
 obtain ⟨_, hfit, tv, hB, hrd⟩ := hTA
 have hok := (buildT_ok HF.out.1 HF.out.2.2.2.2).1
 have hra : RdA w1 t tv := RdT.move (fun j hj hs => ⟨trivial, rfl⟩) _ _ hrd
 have HBT := Lib.hid (And.intro hB (And.intro hra (And.intro hok hfit)))
 clear hB hrd hfit hra hok
 have HB1 := Lib.hid hb1
 clear hb1
 go_wp2_with fail
 ((with_reducible refine (asked_any _ ss l _ (HS.out.below HB1.out) HF.out.1 HF.out.2.1 HF.out.2.2.1 HF.out.2.2.2.1).mono ?_); rintro e w2 ⟨he, hb2⟩)
 have HB2 := Lib.hid (HB1.out.trans (hb2.mono HB1.out.size))
 have HB12 := Lib.hid hb2
 clear hb2
 simp only [HF.out.2.2.2.2] at he
 rw [HP.out] at he
 dsimp only at he
 rw [HLE.out] at he
 obtain ⟨A5, c5, K5, d5, rfl, hru, huo⟩ := he
 have HUO := Lib.hid huo.1
 clear hru huo
 unfold valV
 obtain ⟨w3, hw3⟩ : ∃ w3, (w2.alloc (.cells #[.int .i64 (u.srt : Nat), .bool u.fl, .int .u64 (u.bi : Nat), .string ⟨u.tx.toArray⟩, .slice A5 u.kids.length c5, .slice K5 u.kn.length d5] 79)).alloc (.cells #[.int .i64 0, .int .i64 0, .bool false, .string ⟨#[]⟩] 81) = w3 := ⟨_, rfl⟩
 have hb3 : Below w2.heap.size w2 w3 := by rw [← hw3]; exact ((Below.refl _ _).alloc (Nat.le_refl _) _).alloc (by simp) _
 have hv3 : Blk w3 w2.heap.size 79 #[.int .i64 (u.srt : Nat), .bool u.fl, .int .u64 (u.bi : Nat), .string ⟨u.tx.toArray⟩, .slice A5 u.kids.length c5, .slice K5 u.kn.length d5] := by rw [← hw3]; exact (Blk.new w2 _ _).alloc _
 have hf3 : Blk w3 (w2.heap.size + 1) 81 #[.int .i64 0, .int .i64 0, .bool false, .string ⟨#[]⟩] := by
  have := Blk.new (w2.alloc (.cells #[.int .i64 (u.srt : Nat), .bool u.fl, .int .u64 (u.bi : Nat), .string ⟨u.tx.toArray⟩, .slice A5 u.kids.length c5, .slice K5 u.kn.length d5] 79)) 81 #[.int .i64 0, .int .i64 0, .bool false, .string ⟨#[]⟩]
  rw [World.size_alloc, hw3] at this
  exact this
 have HW3 := Lib.hid (And.intro hv3 hf3)
 have HB3 := Lib.hid (HB2.out.trans (hb3.mono HB2.out.size))
 have HB13 := Lib.hid (HB12.out.trans (hb3.mono HB12.out.size))
 have HW3E := Lib.hid hw3
 clear hb3 hv3 hf3 hw3
 go_upto_region 3 with fail
 rw [HW3E.out]
 go_wp2_with fail
 ((with_reducible refine (narrow_any g t tv l w1 _ HBT.out.1 HBT.out.2.1 HB13.out HBT.out.2.2.1 HBT.out.2.2.2 HF.out.2.2.2.1 (HG.out.1.next HB3.out) (HG.out.2.next HB3.out)).mono ?_); intro e w4 hp4)
 unfold BindP at hp4
 rw [HP.out] at hp4
 dsimp only at hp4
 rw [HLE.out] at hp4
 obtain ⟨Wl, hbl, hp4⟩ := hp4
 unfold NarR at hp4
 rw [HR0.out] at hp4
 obtain ⟨rfl, hb4'⟩ := hp4
 have hb4 := hbl.trans (hb4'.mono hbl.size)
 have HB4 := Lib.hid (HB3.out.trans (hb4.mono HB3.out.size))
 have HF4 := Lib.hid (HW3.out.2.below hb4 HW3.out.2.lt)
 have HV4 := Lib.hid (HW3.out.1.below hb4 HW3.out.1.lt)
 clear hb4 hb4' hbl
 have HX := fault16_trail m 0 l
 unfold trlV at HX ⊢
 have HX := Lib.hid HX
 go_wp2_with fail
 ((with_reducible refine (wakes16_any _ (HG.out.1.next HB4.out) (HG.out.2.next HB4.out)).mono ?_); rintro e w5 ⟨rfl, hb5⟩)
 have HB5 := Lib.hid (HB4.out.trans (hb5.mono HB4.out.size))
 have HF5 := Lib.hid (HF4.out.below hb5 HF4.out.lt)
 have HV5 := Lib.hid (HV4.out.below hb5 HV4.out.lt)
 have k0 : w5.cell? ⟨w2.heap.size + 1, 0, none⟩ = some (.int .i64 0) := HF5.out.cell 0
 have k1 : w5.cell? ⟨w2.heap.size + 1, 1, none⟩ = some (.int .i64 0) := HF5.out.cell 1
 have k2 : w5.cell? ⟨w2.heap.size + 1, 2, none⟩ = some (.bool false) := HF5.out.cell 2
 have k3 : w5.cell? ⟨w2.heap.size + 1, 3, none⟩ = some (.string ⟨#[]⟩) := HF5.out.cell 3
 have v0 : w5.cell? ⟨w2.heap.size, 0, none⟩ = some (.int .i64 (u.srt : Nat)) := HV5.out.cell 0
 have v1 : w5.cell? ⟨w2.heap.size, 1, none⟩ = some (.bool u.fl) := HV5.out.cell 1
 have v2 : w5.cell? ⟨w2.heap.size, 2, none⟩ = some (.int .u64 (u.bi : Nat)) := HV5.out.cell 2
 have v3 : w5.cell? ⟨w2.heap.size, 3, none⟩ = some (.string ⟨u.tx.toArray⟩) := HV5.out.cell 3
 have v4 : w5.cell? ⟨w2.heap.size, 4, none⟩ = some (.slice A5 u.kids.length c5) := HV5.out.cell 4
 have v5 : w5.cell? ⟨w2.heap.size, 5, none⟩ = some (.slice K5 u.kn.length d5) := HV5.out.cell 5
 clear hb5
 by_cases hneg : valB u.nb < 0
 ·have hnb : u.isNb = true := by
   cases hx : u.isNb with
   | true => rfl
   | false => exact absurd hneg ((first_test HUO.out).2 hx).2
  obtain ⟨ft1, ft2⟩ := (first_test HUO.out).1 hnb
  rw [decide_eq_true hneg] at ft2
  have HR : Hid (narrowD u 3 4 0 = _) := Lib.hid ((show firstK u = 3 by unfold firstK; rw [if_pos hneg]) ▸ HR0.out)
  clear hnb hneg
  go_upto_region 11 with fail
  clear k0 k1 k2 k3 v0 v1 v2 v3 v4 v5 ft1 ft2
  go_wp2_with fail
  go_loopw [12] (fun c12 wr => ∃ (k : Nat) (n : Int) (tr : Bool) (p : Tx), 3 ≤ k ∧ k ≤ 3+4 ∧ c12 = .int .i64 (k : Int) ∧ Hid ((k = 3 ∨ (tr = true ∧ p = l)) ∧ narrowD u 3 4 0 = narrowD u k (3+4 - k) n ∧ Below w.heap.size w wr ∧ Blk wr (w2.heap.size + 1) 81 #[.int .i64 n, .int .i64 0, .bool tr, .string ⟨p.toArray⟩] ∧ Blk wr w2.heap.size 79 #[.int .i64 (u.srt : Nat), .bool u.fl, .int .u64 (u.bi : Nat), .string ⟨u.tx.toArray⟩, .slice A5 u.kids.length c5, .slice K5 u.kn.length d5])) (fun c12 _ => 7 - (intOf c12).toNat)
  case atStart => exact ⟨3, 0, false, [], by omega, by omega, rfl, Lib.hid ⟨.inl rfl, rfl, HB5.out, HF5.out, HV5.out⟩⟩
  case round =>
   obtain ⟨k, n, tr, p, hk1, hk2, rfl, HI⟩ := hrel
   by_cases hlt : k < 3+4
   ·have hki : (k : Int) < 7 := by omega
    have hk0 : (0 : Int) ≤ (k : Int) := by omega
    have HJ := Lib.hid (And.intro hk1 hlt)
    have HOF := Lib.hid (refOf_whole k (by omega) (by omega) u HUO.out A5 c5 K5 d5 l wr)
    unfold valV at HOF
    have v0 : wr.cell? ⟨w2.heap.size, 0, none⟩ = some (.int .i64 (u.srt : Nat)) := HI.out.2.2.2.2.cell 0
    have v1 : wr.cell? ⟨w2.heap.size, 1, none⟩ = some (.bool u.fl) := HI.out.2.2.2.2.cell 1
    have v2 : wr.cell? ⟨w2.heap.size, 2, none⟩ = some (.int .u64 (u.bi : Nat)) := HI.out.2.2.2.2.cell 2
    have v3 : wr.cell? ⟨w2.heap.size, 3, none⟩ = some (.string ⟨u.tx.toArray⟩) := HI.out.2.2.2.2.cell 3
    have v4 : wr.cell? ⟨w2.heap.size, 4, none⟩ = some (.slice A5 u.kids.length c5) := HI.out.2.2.2.2.cell 4
    have v5 : wr.cell? ⟨w2.heap.size, 5, none⟩ = some (.slice K5 u.kn.length d5) := HI.out.2.2.2.2.cell 5
    clear hlt hk1 hk2
    go_wp2_with fail
    ((with_reducible refine HOF.out.mono ?_); rintro e w6 ⟨he, hb6⟩)
    have HB6 := Lib.hid (HI.out.2.2.1.trans (hb6.mono HI.out.2.2.1.size))
    have HF6 := Lib.hid (HI.out.2.2.2.1.below hb6 HI.out.2.2.2.1.lt)
    have HV6 := Lib.hid (HI.out.2.2.2.2.below hb6 HI.out.2.2.2.2.lt)
    clear hb6 v0 v1 v2 v3 v4 v5 HOF
    cases hkd : kindD k u with
    | inl m' =>
     rw [hkd] at he
     obtain rfl := he
     obtain ⟨w7, hw7⟩ : ∃ w7, (w6.alloc (.cells #[.int .i64 0, .bool false, .int .i64 0, .int .u64 0, .int .u64 0, .int .u32 0, .int .u64 0, .int .u32 0, .string ⟨#[]⟩, .slice none 0 0, .slice none 0 0, .slice none 0 0, .slice none 0 0] 92)).alloc (.cells #[.int .i64 m', .int .i64 0, .bool true, .string ⟨l.toArray⟩] 81) = w7 := ⟨_, rfl⟩
     have hb7 : Below w6.heap.size w6 w7 := by rw [← hw7]; exact ((Below.refl _ _).alloc (Nat.le_refl _) _).alloc (by simp) _
     have hnB : Blk w7 w6.heap.size 92 #[.int .i64 0, .bool false, .int .i64 0, .int .u64 0, .int .u64 0, .int .u32 0, .int .u64 0, .int .u32 0, .string ⟨#[]⟩, .slice none 0 0, .slice none 0 0, .slice none 0 0, .slice none 0 0] := by rw [← hw7]; exact (Blk.new w6 _ _).alloc _
     have hnF : Blk w7 (w6.heap.size + 1) 81 #[.int .i64 m', .int .i64 0, .bool true, .string ⟨l.toArray⟩] := by
      have := Blk.new (w6.alloc (.cells #[.int .i64 0, .bool false, .int .i64 0, .int .u64 0, .int .u64 0, .int .u32 0, .int .u64 0, .int .u32 0, .string ⟨#[]⟩, .slice none 0 0, .slice none 0 0, .slice none 0 0, .slice none 0 0] 92)) 81 #[.int .i64 m', .int .i64 0, .bool true, .string ⟨l.toArray⟩]
      rw [World.size_alloc, hw7] at this
      exact this
     have HNB := Lib.hid hnB
     have HNF := Lib.hid hnF
     have HB7 := Lib.hid (HB6.out.trans (hb7.mono HB6.out.size))
     have HV7 := Lib.hid (HV6.out.below hb7 HV6.out.lt)
     have HF7 := Lib.hid (HF6.out.below hb7 HF6.out.lt)
     have HW7E := Lib.hid hw7
     clear hb7 hnB hnF hw7
     have hm0 := (kindD_ne hkd).1
     have HN : Hid (narrowD u 3 4 0 = narrowD u (k + 1) (3+4 - (k + 1)) m') := Lib.hid (by
      have h1 := HI.out.2.1
      have e1 : 3+4 - k = (3+4 - (k + 1)) + 1 := by have := HJ.out; omega
      rw [e1, narrowD_no hkd] at h1
      exact h1)
     clear hkd
     go_upto_region 15 with fail
     rw [HW7E.out]
     have y0 : w7.cell? ⟨w6.heap.size + 1, 0, none⟩ = some (.int .i64 m') := HNF.out.cell 0
     have y1 : w7.cell? ⟨w6.heap.size + 1, 1, none⟩ = some (.int .i64 0) := HNF.out.cell 1
     have y2 : w7.cell? ⟨w6.heap.size + 1, 2, none⟩ = some (.bool true) := HNF.out.cell 2
     have y3 : w7.cell? ⟨w6.heap.size + 1, 3, none⟩ = some (.string ⟨l.toArray⟩) := HNF.out.cell 3
     have z0 : w7.cell? ⟨w2.heap.size + 1, 0, none⟩ = some (.int .i64 n) := HF7.out.cell 0
     have z1 : w7.cell? ⟨w2.heap.size + 1, 1, none⟩ = some (.int .i64 0) := HF7.out.cell 1
     have z2 : w7.cell? ⟨w2.heap.size + 1, 2, none⟩ = some (.bool tr) := HF7.out.cell 2
     have z3 : w7.cell? ⟨w2.heap.size + 1, 3, none⟩ = some (.string ⟨p.toArray⟩) := HF7.out.cell 3
     have r0 := HF7.out.frozen 0
     have r1 := HF7.out.frozen 1
     have r2 := HF7.out.frozen 2
     have r3 := HF7.out.frozen 3
     have hlt7 := HF7.out.lt
     go_wp2_with fail
     have hf8 := four_blk HF7.out (.int .i64 m') (.int .i64 0) (.bool true) (.string ⟨l.toArray⟩)
     have hv8 := four_far HV7.out (show w2.heap.size ≠ w2.heap.size + 1 by omega) (.int .i64 m') (.int .i64 0) (.bool true) (.string ⟨l.toArray⟩)
     have hb8 := four_below HB7.out (show w.heap.size ≤ w2.heap.size + 1 by have := HB2.out.size; omega) (.int .i64 m') (.int .i64 0) (.bool true) (.string ⟨l.toArray⟩)
     go_roundw
     case rel => exact ⟨k + 1, m', true, l, by have := HJ.out; omega, by have := HJ.out; omega, by go_num, Lib.hid ⟨.inr ⟨rfl, rfl⟩, HN.out, hb8, hf8, hv8⟩⟩
     case measure => have := HJ.out; simp [intOf]; omega
    | inr z =>
     rw [hkd] at he
     exfalso
     have h1 := HI.out.2.1
     have e1 : 3+4 - k = (3+4 - (k + 1)) + 1 := by have := HJ.out; omega
     rw [e1, narrowD_yes hkd, HR.out] at h1
     cases h1
   ·obtain rfl : k = 3+4 := by omega
    have h1 := HI.out.2.1
    rw [show 3+4 - (3+4) = 0 from rfl, narrowD, HR.out] at h1
    injection h1 with h1
    subst h1
    have h2 := HI.out.1
    have h3 : tr = true ∧ p = l := by
     rcases h2 with h2 | h2
     ·omega
     ·exact h2
    obtain ⟨rfl, rfl⟩ := h3
    clear h2
    have y0 : wr.cell? ⟨w2.heap.size + 1, 0, none⟩ = some (.int .i64 m) := HI.out.2.2.2.1.cell 0
    have y1 : wr.cell? ⟨w2.heap.size + 1, 1, none⟩ = some (.int .i64 0) := HI.out.2.2.2.1.cell 1
    have y2 : wr.cell? ⟨w2.heap.size + 1, 2, none⟩ = some (.bool true) := HI.out.2.2.2.1.cell 2
    have y3 : wr.cell? ⟨w2.heap.size + 1, 3, none⟩ = some (.string ⟨p.toArray⟩) := HI.out.2.2.2.1.cell 3
    go_wp2_with fail
    ((with_reducible refine (HX.out _).mono ?_); rintro e w6 ⟨rfl, hb6⟩)
    have HB6 := Lib.hid (HI.out.2.2.1.trans (hb6.mono HI.out.2.2.1.size))
    clear hb6
    go_wp2
    go_ret
    exact ⟨rfl, HB6.out⟩
 ·have HR : Hid (narrowD u 7 4 0 = _) := Lib.hid ((show firstK u = 7 by unfold firstK; rw [if_neg hneg]) ▸ HR0.out)
  cases hx : u.isNb with
  | true =>
   obtain ⟨ft1, ft2⟩ := (first_test HUO.out).1 hx
   rw [decide_eq_false hneg] at ft2
   clear hx hneg
   go_upto_region 11 with fail
   clear k0 k1 k2 k3 v0 v1 v2 v3 v4 v5 ft1 ft2
   go_wp2_with fail
   go_loopw [12] (fun c12 wr => ∃ (k : Nat) (n : Int) (tr : Bool) (p : Tx), 7 ≤ k ∧ k ≤ 7+4 ∧ c12 = .int .i64 (k : Int) ∧ Hid ((k = 7 ∨ (tr = true ∧ p = l)) ∧ narrowD u 7 4 0 = narrowD u k (7+4 - k) n ∧ Below w.heap.size w wr ∧ Blk wr (w2.heap.size + 1) 81 #[.int .i64 n, .int .i64 0, .bool tr, .string ⟨p.toArray⟩] ∧ Blk wr w2.heap.size 79 #[.int .i64 (u.srt : Nat), .bool u.fl, .int .u64 (u.bi : Nat), .string ⟨u.tx.toArray⟩, .slice A5 u.kids.length c5, .slice K5 u.kn.length d5])) (fun c12 _ => 11 - (intOf c12).toNat)
   case atStart => exact ⟨7, 0, false, [], by omega, by omega, rfl, Lib.hid ⟨.inl rfl, rfl, HB5.out, HF5.out, HV5.out⟩⟩
   case round =>
    obtain ⟨k, n, tr, p, hk1, hk2, rfl, HI⟩ := hrel
    by_cases hlt : k < 7+4
    ·have hki : (k : Int) < 11 := by omega
     have hk0 : (0 : Int) ≤ (k : Int) := by omega
     have HJ := Lib.hid (And.intro hk1 hlt)
     have HOF := Lib.hid (refOf_whole k (by omega) (by omega) u HUO.out A5 c5 K5 d5 l wr)
     unfold valV at HOF
     have v0 : wr.cell? ⟨w2.heap.size, 0, none⟩ = some (.int .i64 (u.srt : Nat)) := HI.out.2.2.2.2.cell 0
     have v1 : wr.cell? ⟨w2.heap.size, 1, none⟩ = some (.bool u.fl) := HI.out.2.2.2.2.cell 1
     have v2 : wr.cell? ⟨w2.heap.size, 2, none⟩ = some (.int .u64 (u.bi : Nat)) := HI.out.2.2.2.2.cell 2
     have v3 : wr.cell? ⟨w2.heap.size, 3, none⟩ = some (.string ⟨u.tx.toArray⟩) := HI.out.2.2.2.2.cell 3
     have v4 : wr.cell? ⟨w2.heap.size, 4, none⟩ = some (.slice A5 u.kids.length c5) := HI.out.2.2.2.2.cell 4
     have v5 : wr.cell? ⟨w2.heap.size, 5, none⟩ = some (.slice K5 u.kn.length d5) := HI.out.2.2.2.2.cell 5
     clear hlt hk1 hk2
     go_wp2_with fail
     ((with_reducible refine HOF.out.mono ?_); rintro e w6 ⟨he, hb6⟩)
     have HB6 := Lib.hid (HI.out.2.2.1.trans (hb6.mono HI.out.2.2.1.size))
     have HF6 := Lib.hid (HI.out.2.2.2.1.below hb6 HI.out.2.2.2.1.lt)
     have HV6 := Lib.hid (HI.out.2.2.2.2.below hb6 HI.out.2.2.2.2.lt)
     clear hb6 v0 v1 v2 v3 v4 v5 HOF
     cases hkd : kindD k u with
     | inl m' =>
      rw [hkd] at he
      obtain rfl := he
      obtain ⟨w7, hw7⟩ : ∃ w7, (w6.alloc (.cells #[.int .i64 0, .bool false, .int .i64 0, .int .u64 0, .int .u64 0, .int .u32 0, .int .u64 0, .int .u32 0, .string ⟨#[]⟩, .slice none 0 0, .slice none 0 0, .slice none 0 0, .slice none 0 0] 92)).alloc (.cells #[.int .i64 m', .int .i64 0, .bool true, .string ⟨l.toArray⟩] 81) = w7 := ⟨_, rfl⟩
      have hb7 : Below w6.heap.size w6 w7 := by rw [← hw7]; exact ((Below.refl _ _).alloc (Nat.le_refl _) _).alloc (by simp) _
      have hnB : Blk w7 w6.heap.size 92 #[.int .i64 0, .bool false, .int .i64 0, .int .u64 0, .int .u64 0, .int .u32 0, .int .u64 0, .int .u32 0, .string ⟨#[]⟩, .slice none 0 0, .slice none 0 0, .slice none 0 0, .slice none 0 0] := by rw [← hw7]; exact (Blk.new w6 _ _).alloc _
      have hnF : Blk w7 (w6.heap.size + 1) 81 #[.int .i64 m', .int .i64 0, .bool true, .string ⟨l.toArray⟩] := by
       have := Blk.new (w6.alloc (.cells #[.int .i64 0, .bool false, .int .i64 0, .int .u64 0, .int .u64 0, .int .u32 0, .int .u64 0, .int .u32 0, .string ⟨#[]⟩, .slice none 0 0, .slice none 0 0, .slice none 0 0, .slice none 0 0] 92)) 81 #[.int .i64 m', .int .i64 0, .bool true, .string ⟨l.toArray⟩]
       rw [World.size_alloc, hw7] at this
       exact this
      have HNB := Lib.hid hnB
      have HNF := Lib.hid hnF
      have HB7 := Lib.hid (HB6.out.trans (hb7.mono HB6.out.size))
      have HV7 := Lib.hid (HV6.out.below hb7 HV6.out.lt)
      have HF7 := Lib.hid (HF6.out.below hb7 HF6.out.lt)
      have HW7E := Lib.hid hw7
      clear hb7 hnB hnF hw7
      have hm0 := (kindD_ne hkd).1
      have HN : Hid (narrowD u 7 4 0 = narrowD u (k + 1) (7+4 - (k + 1)) m') := Lib.hid (by
       have h1 := HI.out.2.1
       have e1 : 7+4 - k = (7+4 - (k + 1)) + 1 := by have := HJ.out; omega
       rw [e1, narrowD_no hkd] at h1
       exact h1)
      clear hkd
      go_upto_region 15 with fail
      rw [HW7E.out]
      have y0 : w7.cell? ⟨w6.heap.size + 1, 0, none⟩ = some (.int .i64 m') := HNF.out.cell 0
      have y1 : w7.cell? ⟨w6.heap.size + 1, 1, none⟩ = some (.int .i64 0) := HNF.out.cell 1
      have y2 : w7.cell? ⟨w6.heap.size + 1, 2, none⟩ = some (.bool true) := HNF.out.cell 2
      have y3 : w7.cell? ⟨w6.heap.size + 1, 3, none⟩ = some (.string ⟨l.toArray⟩) := HNF.out.cell 3
      have z0 : w7.cell? ⟨w2.heap.size + 1, 0, none⟩ = some (.int .i64 n) := HF7.out.cell 0
      have z1 : w7.cell? ⟨w2.heap.size + 1, 1, none⟩ = some (.int .i64 0) := HF7.out.cell 1
      have z2 : w7.cell? ⟨w2.heap.size + 1, 2, none⟩ = some (.bool tr) := HF7.out.cell 2
      have z3 : w7.cell? ⟨w2.heap.size + 1, 3, none⟩ = some (.string ⟨p.toArray⟩) := HF7.out.cell 3
      have r0 := HF7.out.frozen 0
      have r1 := HF7.out.frozen 1
      have r2 := HF7.out.frozen 2
      have r3 := HF7.out.frozen 3
      have hlt7 := HF7.out.lt
      go_wp2_with fail
      have hf8 := four_blk HF7.out (.int .i64 m') (.int .i64 0) (.bool true) (.string ⟨l.toArray⟩)
      have hv8 := four_far HV7.out (show w2.heap.size ≠ w2.heap.size + 1 by omega) (.int .i64 m') (.int .i64 0) (.bool true) (.string ⟨l.toArray⟩)
      have hb8 := four_below HB7.out (show w.heap.size ≤ w2.heap.size + 1 by have := HB2.out.size; omega) (.int .i64 m') (.int .i64 0) (.bool true) (.string ⟨l.toArray⟩)
      go_roundw
      case rel => exact ⟨k + 1, m', true, l, by have := HJ.out; omega, by have := HJ.out; omega, by go_num, Lib.hid ⟨.inr ⟨rfl, rfl⟩, HN.out, hb8, hf8, hv8⟩⟩
      case measure => have := HJ.out; simp [intOf]; omega
     | inr z =>
      rw [hkd] at he
      exfalso
      have h1 := HI.out.2.1
      have e1 : 7+4 - k = (7+4 - (k + 1)) + 1 := by have := HJ.out; omega
      rw [e1, narrowD_yes hkd, HR.out] at h1
      cases h1
    ·obtain rfl : k = 7+4 := by omega
     have h1 := HI.out.2.1
     rw [show 7+4 - (7+4) = 0 from rfl, narrowD, HR.out] at h1
     injection h1 with h1
     subst h1
     have h2 := HI.out.1
     have h3 : tr = true ∧ p = l := by
      rcases h2 with h2 | h2
      ·omega
      ·exact h2
     obtain ⟨rfl, rfl⟩ := h3
     clear h2
     have y0 : wr.cell? ⟨w2.heap.size + 1, 0, none⟩ = some (.int .i64 m) := HI.out.2.2.2.1.cell 0
     have y1 : wr.cell? ⟨w2.heap.size + 1, 1, none⟩ = some (.int .i64 0) := HI.out.2.2.2.1.cell 1
     have y2 : wr.cell? ⟨w2.heap.size + 1, 2, none⟩ = some (.bool true) := HI.out.2.2.2.1.cell 2
     have y3 : wr.cell? ⟨w2.heap.size + 1, 3, none⟩ = some (.string ⟨p.toArray⟩) := HI.out.2.2.2.1.cell 3
     go_wp2_with fail
     ((with_reducible refine (HX.out _).mono ?_); rintro e w6 ⟨rfl, hb6⟩)
     have HB6 := Lib.hid (HI.out.2.2.1.trans (hb6.mono HI.out.2.2.1.size))
     clear hb6
     go_wp2
     go_ret
     exact ⟨rfl, HB6.out⟩
  | false =>
   have ft1 := ((first_test HUO.out).2 hx).1
   clear hx hneg
   go_upto_region 11 with fail
   clear k0 k1 k2 k3 v0 v1 v2 v3 v4 v5 ft1
   go_wp2_with fail
   go_loopw [12] (fun c12 wr => ∃ (k : Nat) (n : Int) (tr : Bool) (p : Tx), 7 ≤ k ∧ k ≤ 7+4 ∧ c12 = .int .i64 (k : Int) ∧ Hid ((k = 7 ∨ (tr = true ∧ p = l)) ∧ narrowD u 7 4 0 = narrowD u k (7+4 - k) n ∧ Below w.heap.size w wr ∧ Blk wr (w2.heap.size + 1) 81 #[.int .i64 n, .int .i64 0, .bool tr, .string ⟨p.toArray⟩] ∧ Blk wr w2.heap.size 79 #[.int .i64 (u.srt : Nat), .bool u.fl, .int .u64 (u.bi : Nat), .string ⟨u.tx.toArray⟩, .slice A5 u.kids.length c5, .slice K5 u.kn.length d5])) (fun c12 _ => 11 - (intOf c12).toNat)
   case atStart => exact ⟨7, 0, false, [], by omega, by omega, rfl, Lib.hid ⟨.inl rfl, rfl, HB5.out, HF5.out, HV5.out⟩⟩
   case round =>
    obtain ⟨k, n, tr, p, hk1, hk2, rfl, HI⟩ := hrel
    by_cases hlt : k < 7+4
    ·have hki : (k : Int) < 11 := by omega
     have hk0 : (0 : Int) ≤ (k : Int) := by omega
     have HJ := Lib.hid (And.intro hk1 hlt)
     have HOF := Lib.hid (refOf_whole k (by omega) (by omega) u HUO.out A5 c5 K5 d5 l wr)
     unfold valV at HOF
     have v0 : wr.cell? ⟨w2.heap.size, 0, none⟩ = some (.int .i64 (u.srt : Nat)) := HI.out.2.2.2.2.cell 0
     have v1 : wr.cell? ⟨w2.heap.size, 1, none⟩ = some (.bool u.fl) := HI.out.2.2.2.2.cell 1
     have v2 : wr.cell? ⟨w2.heap.size, 2, none⟩ = some (.int .u64 (u.bi : Nat)) := HI.out.2.2.2.2.cell 2
     have v3 : wr.cell? ⟨w2.heap.size, 3, none⟩ = some (.string ⟨u.tx.toArray⟩) := HI.out.2.2.2.2.cell 3
     have v4 : wr.cell? ⟨w2.heap.size, 4, none⟩ = some (.slice A5 u.kids.length c5) := HI.out.2.2.2.2.cell 4
     have v5 : wr.cell? ⟨w2.heap.size, 5, none⟩ = some (.slice K5 u.kn.length d5) := HI.out.2.2.2.2.cell 5
     clear hlt hk1 hk2
     go_wp2_with fail
     ((with_reducible refine HOF.out.mono ?_); rintro e w6 ⟨he, hb6⟩)
     have HB6 := Lib.hid (HI.out.2.2.1.trans (hb6.mono HI.out.2.2.1.size))
     have HF6 := Lib.hid (HI.out.2.2.2.1.below hb6 HI.out.2.2.2.1.lt)
     have HV6 := Lib.hid (HI.out.2.2.2.2.below hb6 HI.out.2.2.2.2.lt)
     clear hb6 v0 v1 v2 v3 v4 v5 HOF
     cases hkd : kindD k u with
     | inl m' =>
      rw [hkd] at he
      obtain rfl := he
      obtain ⟨w7, hw7⟩ : ∃ w7, (w6.alloc (.cells #[.int .i64 0, .bool false, .int .i64 0, .int .u64 0, .int .u64 0, .int .u32 0, .int .u64 0, .int .u32 0, .string ⟨#[]⟩, .slice none 0 0, .slice none 0 0, .slice none 0 0, .slice none 0 0] 92)).alloc (.cells #[.int .i64 m', .int .i64 0, .bool true, .string ⟨l.toArray⟩] 81) = w7 := ⟨_, rfl⟩
      have hb7 : Below w6.heap.size w6 w7 := by rw [← hw7]; exact ((Below.refl _ _).alloc (Nat.le_refl _) _).alloc (by simp) _
      have hnB : Blk w7 w6.heap.size 92 #[.int .i64 0, .bool false, .int .i64 0, .int .u64 0, .int .u64 0, .int .u32 0, .int .u64 0, .int .u32 0, .string ⟨#[]⟩, .slice none 0 0, .slice none 0 0, .slice none 0 0, .slice none 0 0] := by rw [← hw7]; exact (Blk.new w6 _ _).alloc _
      have hnF : Blk w7 (w6.heap.size + 1) 81 #[.int .i64 m', .int .i64 0, .bool true, .string ⟨l.toArray⟩] := by
       have := Blk.new (w6.alloc (.cells #[.int .i64 0, .bool false, .int .i64 0, .int .u64 0, .int .u64 0, .int .u32 0, .int .u64 0, .int .u32 0, .string ⟨#[]⟩, .slice none 0 0, .slice none 0 0, .slice none 0 0, .slice none 0 0] 92)) 81 #[.int .i64 m', .int .i64 0, .bool true, .string ⟨l.toArray⟩]
       rw [World.size_alloc, hw7] at this
       exact this
      have HNB := Lib.hid hnB
      have HNF := Lib.hid hnF
      have HB7 := Lib.hid (HB6.out.trans (hb7.mono HB6.out.size))
      have HV7 := Lib.hid (HV6.out.below hb7 HV6.out.lt)
      have HF7 := Lib.hid (HF6.out.below hb7 HF6.out.lt)
      have HW7E := Lib.hid hw7
      clear hb7 hnB hnF hw7
      have hm0 := (kindD_ne hkd).1
      have HN : Hid (narrowD u 7 4 0 = narrowD u (k + 1) (7+4 - (k + 1)) m') := Lib.hid (by
       have h1 := HI.out.2.1
       have e1 : 7+4 - k = (7+4 - (k + 1)) + 1 := by have := HJ.out; omega
       rw [e1, narrowD_no hkd] at h1
       exact h1)
      clear hkd
      go_upto_region 15 with fail
      rw [HW7E.out]
      have y0 : w7.cell? ⟨w6.heap.size + 1, 0, none⟩ = some (.int .i64 m') := HNF.out.cell 0
      have y1 : w7.cell? ⟨w6.heap.size + 1, 1, none⟩ = some (.int .i64 0) := HNF.out.cell 1
      have y2 : w7.cell? ⟨w6.heap.size + 1, 2, none⟩ = some (.bool true) := HNF.out.cell 2
      have y3 : w7.cell? ⟨w6.heap.size + 1, 3, none⟩ = some (.string ⟨l.toArray⟩) := HNF.out.cell 3
      have z0 : w7.cell? ⟨w2.heap.size + 1, 0, none⟩ = some (.int .i64 n) := HF7.out.cell 0
      have z1 : w7.cell? ⟨w2.heap.size + 1, 1, none⟩ = some (.int .i64 0) := HF7.out.cell 1
      have z2 : w7.cell? ⟨w2.heap.size + 1, 2, none⟩ = some (.bool tr) := HF7.out.cell 2
      have z3 : w7.cell? ⟨w2.heap.size + 1, 3, none⟩ = some (.string ⟨p.toArray⟩) := HF7.out.cell 3
      have r0 := HF7.out.frozen 0
      have r1 := HF7.out.frozen 1
      have r2 := HF7.out.frozen 2
      have r3 := HF7.out.frozen 3
      have hlt7 := HF7.out.lt
      go_wp2_with fail
      have hf8 := four_blk HF7.out (.int .i64 m') (.int .i64 0) (.bool true) (.string ⟨l.toArray⟩)
      have hv8 := four_far HV7.out (show w2.heap.size ≠ w2.heap.size + 1 by omega) (.int .i64 m') (.int .i64 0) (.bool true) (.string ⟨l.toArray⟩)
      have hb8 := four_below HB7.out (show w.heap.size ≤ w2.heap.size + 1 by have := HB2.out.size; omega) (.int .i64 m') (.int .i64 0) (.bool true) (.string ⟨l.toArray⟩)
      go_roundw
      case rel => exact ⟨k + 1, m', true, l, by have := HJ.out; omega, by have := HJ.out; omega, by go_num, Lib.hid ⟨.inr ⟨rfl, rfl⟩, HN.out, hb8, hf8, hv8⟩⟩
      case measure => have := HJ.out; simp [intOf]; omega
     | inr z =>
      rw [hkd] at he
      exfalso
      have h1 := HI.out.2.1
      have e1 : 7+4 - k = (7+4 - (k + 1)) + 1 := by have := HJ.out; omega
      rw [e1, narrowD_yes hkd, HR.out] at h1
      cases h1
    ·obtain rfl : k = 7+4 := by omega
     have h1 := HI.out.2.1
     rw [show 7+4 - (7+4) = 0 from rfl, narrowD, HR.out] at h1
     injection h1 with h1
     subst h1
     have h2 := HI.out.1
     have h3 : tr = true ∧ p = l := by
      rcases h2 with h2 | h2
      ·omega
      ·exact h2
     obtain ⟨rfl, rfl⟩ := h3
     clear h2
     have y0 : wr.cell? ⟨w2.heap.size + 1, 0, none⟩ = some (.int .i64 m) := HI.out.2.2.2.1.cell 0
     have y1 : wr.cell? ⟨w2.heap.size + 1, 1, none⟩ = some (.int .i64 0) := HI.out.2.2.2.1.cell 1
     have y2 : wr.cell? ⟨w2.heap.size + 1, 2, none⟩ = some (.bool true) := HI.out.2.2.2.1.cell 2
     have y3 : wr.cell? ⟨w2.heap.size + 1, 3, none⟩ = some (.string ⟨p.toArray⟩) := HI.out.2.2.2.1.cell 3
     go_wp2_with fail
     ((with_reducible refine (HX.out _).mono ?_); rintro e w6 ⟨rfl, hb6⟩)
     have HB6 := Lib.hid (HI.out.2.2.1.trans (hb6.mono HI.out.2.2.1.size))
     clear hb6
     go_wp2
     go_ret
     exact ⟨rfl, HB6.out⟩
end Nd
end Go.Proofs.YtbajkglacfheiaaGreatDoor
