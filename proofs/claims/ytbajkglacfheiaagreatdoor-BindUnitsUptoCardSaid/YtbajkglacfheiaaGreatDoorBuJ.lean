/-
  The statement BindUnits: where a text is bound.
-/
import Derived.Test.YtbajkglacfheiaaGreatDoorBuI
namespace Go.Proofs.YtbajkglacfheiaaGreatDoor
open Go.RowKit Mem Utf Ref3 Idx Tok TokC
set_option linter.unusedVariables false
set_option linter.unusedSimpArgs false
set_option maxRecDepth 100000
namespace Nd
theorem ta_chars (v : Value) (W : World) : (Instr.typeAssert (.iface 34 v) 29 34 true).run Tryz.prog W = .ok (.tuple #[v, .bool true]) W := by kernel_rfl
theorem ta_runes (v : Value) (W : World) : (Instr.typeAssert (.iface 37 v) 29 37 true).run Tryz.prog W = .ok (.tuple #[v, .bool true]) W := by kernel_rfl
theorem ta_units (v : Value) (W : World) : (Instr.typeAssert (.iface 40 v) 29 40 true).run Tryz.prog W = .ok (.tuple #[v, .bool true]) W := by kernel_rfl
theorem own_some {w : World} {b n : Nat} {e : TypeId} {A : Option Addr} {m c : Nat} {xs : List Value} (h : w.ownsRow b e 1 (.slice A m c) n xs) (hn : 0 < n) : ∃ g, A = some ⟨g, 0, none⟩ ∧ m = n ∧ n ≤ c ∧ ∀ (j : Nat) u, xs[j]? = some u → w.cell? ⟨g, j, none⟩ = some u := by
  rcases h.2 with ⟨h1, h2⟩ | ⟨g, cap, cur, h1, _, hg, h3, h4, h5, h6⟩
  · omega
  · injection h1 with e1 e2 e3
    subst e1 e2 e3
    refine ⟨g, rfl, rfl, h3, fun j u hu => ?_⟩
    rw [cell_of_row w g j cur e (0, 0) hg]
    rw [← h6, List.getElem?_take] at hu
    split at hu
    · simpa using hu
    · cases hu
theorem units_split (rs : List Nat) {k : Nat} (h : k < rs.length) : unitsQ rs = unitsQ (rs.take k) ++ (unQ rs[k] ++ unitsQ (rs.drop (k + 1))) := by
  have e : rs = rs.take k ++ (rs[k] :: rs.drop (k + 1)) := by rw [List.getElem_cons_drop h, List.take_append_drop]
  have e2 : unitsQ rs = unitsQ (rs.take k ++ (rs[k] :: rs.drop (k + 1))) := by rw [← e]
  rw [e2]
  unfold unitsQ
  rw [List.flatMap_append, List.flatMap_cons]
theorem lin3 {a b c d : Nat} (h : c = a + (b + d)) : a + b ≤ c := by omega
theorem one_okR {r : Nat} (h : okR r) : ∀ x ∈ [r], okR x := fun x hx => by
  rw [List.mem_singleton] at hx
  rw [hx]
  exact h
theorem units_one (r : Nat) : unitsQ [r] = unQ r := by
  unfold unitsQ
  simp
theorem units_small {rs : List Nat} {s : Tx} (h1 : ∀ r ∈ rs, okR r) (h2 : s = rs.flatMap encB) (h3 : s.length ≤ 2097152) : (unitsQ rs).length ≤ 4194304 := by
  have := units_le rs h1
  rw [← h2] at this
  omega
theorem cut_units (g n cap a b : Nat) (h1 : a < cap) (h2 : a + b ≤ cap) (W : World) : (Instr.slice 40 (.slice (some ⟨g, 0, none⟩) n cap) (some (.int .i64 (a : Int))) (some (.int .i64 ((a : Int) + (b : Int)))) none).run Tryz.prog W = .ok (.slice (some ⟨g, a, none⟩) b (cap - a)) W := by
  have e1 : ((a : Int) + (b : Int)) = ((a + b : Nat) : Int) := by omega
  have e2 : (((a + b : Nat) : Int)).toNat = a + b := by omega
  have h3 : ¬ ((a : Int) < 0) := by omega
  rw [e1]
  have h4 : ¬ (cap ≤ a) := by omega
  have h5 : ¬ (cap - a = 0) := by omega
  have h6 : ¬ (a = cap) := by omega
  simp [Instr.slice, Instr.sliceBounds, Instr.sliceBound, Sem.run_bind, run_underlying Tryz.underlying40, asIntOf, h2, Addr.add, h4, h5, h6]
  rw [if_pos ⟨by omega, by omega⟩, if_pos (by omega), if_neg (by omega)]
  have e3 : (if a = 0 then (⟨g, 0, none⟩ : Addr) else ⟨g, a, none⟩) = ⟨g, a, none⟩ := by
    split
    · rename_i h
      rw [h]
    · rfl
  have e4 : ((a : Int) + (b : Int)).toNat - a = b := by omega
  rw [e3, e4]
theorem wrap_small (a b : Nat) (h : a + b ≤ 4194304) : wrap64 ((a : Int) + (b : Int)) = (a : Int) + (b : Int) := by
  unfold wrap64
  omega
theorem runes_le : ∀ rs : List Nat, (∀ r ∈ rs, okR r) → rs.length ≤ (rs.flatMap encB).length
  | [], _ => by simp
  | r :: rs, hr => by
    have h2 := enc_pos r (hr r (by simp))
    have h3 := runes_le rs fun x hx => hr x (by simp [hx])
    rw [List.flatMap_cons, List.length_append, List.length_cons]
    omega
theorem runes_small {rs : List Nat} {s : Tx} (h1 : ∀ r ∈ rs, okR r) (h2 : s = rs.flatMap encB) (h3 : s.length ≤ 2097152) : rs.length ≤ 2097152 := by
  have := runes_le rs h1
  rw [← h2] at this
  omega
theorem enc_len4 {r : Nat} (h : okR r) : (encB r).length ≤ 4 := by
  unfold okR at h
  by_cases h1 : r < 128
  · rw [enc_one h1]; simp
  by_cases h2 : r < 2048
  · rw [enc_two (by omega) h2]; simp
  by_cases h3 : r < 65536
  · rw [enc_three (by omega) h3 h]; simp
  · rw [enc_four (by omega) h]; simp
theorem own_capB {w : World} {base n : Nat} {e : TypeId} {A : Option Addr} {m c : Nat} {xs : List Value} (h : w.ownsRow base e 1 (.slice A m c) n xs) : m ≤ c ∧ c ≤ maxLen := by
  rcases h.2 with ⟨h', h0⟩ | ⟨g, cap, cur, h', _, _, hn, hm, _⟩
  · injection h' with _ h1 h2
    subst h1 h2
    exact ⟨Nat.le_refl _, by unfold maxLen; omega⟩
  · injection h' with _ h1 h2
    subst h1 h2
    exact ⟨hn, hm⟩
theorem conv_runes (w : World) (rs : List Nat) (s : Tx) (g cap : Nat) (hs : s = rs.flatMap encB) (hc : ∀ (j : Nat) r, rs[j]? = some r → w.cell? ⟨g, j, none⟩ = some (i32V r)) : (convert 36 9 (.slice (some ⟨g, 0, none⟩) rs.length cap)).run Tryz.prog w = .ok (.string ⟨s.toArray⟩) w := by
  have h := run_convert_runes (P := Tryz.prog) w 36 9 21 ⟨g, 0, none⟩ rs.length cap (rs.map Int.ofNat) (by simp) Tryz.underlying36 Tryz.underlying21 Tryz.underlying9 (fun j hj => by
    have hj2 : j < rs.length := by simpa using hj
    have hadd : (⟨g, 0, none⟩ : Addr).add j = ⟨g, j, none⟩ := by unfold Addr.add; split <;> simp_all
    rw [hadd, hc j rs[j] (List.getElem?_eq_getElem hj2)]
    simp [i32V, hj2])
  rw [h, List.take_of_length_le (by simp), runesBytes_all, hs]
set_option maxHeartbeats 4000000 in
theorem units_ok (v : Value) (l : Tx) (ss : List Stp) (w : World) (hS : RdS w v ss) (hF : ∀ s ∈ ss, s.Fine) (hG : Glob w) (hT : Tab w) (t : Tr) (hb : buildT ss = .inr t) (hl : l.length ≤ 4194304) (hz : failV t l = none) :
    Calls Tryz.prog 3 #[v, .string ⟨l.toArray⟩] w (TrueW w) := by
  have q1 := err_ne_nil
  have q2 := err_ne_held
  have q3 := err_eq_nil
  have q4 := err_eq_held
  have q5 := bnd_eq_nil
  have q6 := bnd_eq_held
  obtain ⟨A, c, rfl, _⟩ := id hS
  have HS := Lib.hid hS
  have HF := Lib.hid (And.intro hF hb)
  have HG := Lib.hid (And.intro hG hT)
  obtain ⟨s, hrs, hsl, hsp⟩ := bindText_ok hz (buildT_ok hF hb).1 (buildT_ok hF hb).2
  obtain ⟨hr1, hr2⟩ := runesOf_right hrs
  obtain ⟨rs, hrr⟩ : ∃ rs, runesOf s = rs := ⟨_, rfl⟩
  rw [hrr] at hsp hr1 hr2
  have HZ := Lib.hid (And.intro hsp hl)
  have HR := Lib.hid (And.intro hr1 hr2)
  have HSL := Lib.hid hsl
  clear hS hF hb hG hT hz hl hrs hsl hsp hr1 hr2 hrr
  go_enter Tryz.func3, Tryz.ntmps3
  go_wp2_with fail
  ((with_reducible refine (build_all _ ss _ HS.out HF.out.1).mono ?_); intro e w1 hP)
  obtain ⟨hb1, hP⟩ := hP
  simp only [HF.out.2] at hP
  obtain ⟨g, rfl, hTA⟩ := hP
  obtain ⟨_, hfit, tv, hB, hrd⟩ := hTA
  have hok := (buildT_ok HF.out.1 HF.out.2).1
  have hra : RdA w1 t tv := RdT.move (fun j hj hs => ⟨trivial, rfl⟩) _ _ hrd
  have HBT := Lib.hid (And.intro hB (And.intro hra (And.intro hok hfit)))
  have HB1 := Lib.hid hb1
  clear hb1 hB hrd hfit hra hok
  have HC1 := Lib.hid (Below.refl w1.heap.size w1)
  go_wp2_with fail
  ((with_reducible refine (bind_textI 15 15 rfl (by omega) (by omega) g t tv l w1 _ HBT.out.1 HBT.out.2.1 HC1.out HBT.out.2.2.1 HBT.out.2.2.2 HZ.out.2 (HG.out.1.next (HB1.out.trans (HC1.out.mono HB1.out.size))) (HG.out.2.next (HB1.out.trans (HC1.out.mono HB1.out.size)))).mono ?_); intro e w2 hp)
  obtain ⟨W2, hbW2, hp, hb2⟩ := HZ.out.1 _ _ _ _ hp
  obtain rfl : e = .returned (.tuple #[.iface 34 (.string ⟨s.toArray⟩), .nilIface]) := hp
  have HC2 := Lib.hid (HC1.out.trans ((hbW2.trans (hb2.mono hbW2.size)).mono HC1.out.size))
  clear hb2 hbW2
  go_wp2_with fail
  ((with_reducible refine (bind_textI 16 16 rfl (by omega) (by omega) g t tv l w1 _ HBT.out.1 HBT.out.2.1 HC2.out HBT.out.2.2.1 HBT.out.2.2.2 HZ.out.2 (HG.out.1.next (HB1.out.trans (HC2.out.mono HB1.out.size))) (HG.out.2.next (HB1.out.trans (HC2.out.mono HB1.out.size)))).mono ?_); intro e w3 hp)
  obtain ⟨W3, hbW3, hp, hb3⟩ := HZ.out.1 _ _ _ _ hp
  obtain ⟨g1, cap, rfl, _, _, hcr⟩ : ∃ g cap, e = .returned (.tuple #[.iface 37 (.slice (some ⟨g, 0, none⟩) rs.length cap), .nilIface]) ∧ W3.heap.size ≤ g ∧ rs.length ≤ cap ∧ ∀ (j : Nat) r, rs[j]? = some r → w3.cell? ⟨g, j, none⟩ = some (i32V r) := hp
  have HC3 := Lib.hid (HC2.out.trans ((hbW3.trans (hb3.mono hbW3.size)).mono HC2.out.size))
  have HCR := Lib.hid hcr
  clear hb3 hbW3 hcr
  go_wp2_with fail
  ((with_reducible refine (bind_textI 17 17 rfl (by omega) (by omega) g t tv l w1 _ HBT.out.1 HBT.out.2.1 HC3.out HBT.out.2.2.1 HBT.out.2.2.2 HZ.out.2 (HG.out.1.next (HB1.out.trans (HC3.out.mono HB1.out.size))) (HG.out.2.next (HB1.out.trans (HC3.out.mono HB1.out.size)))).mono ?_); intro e w4 hp)
  obtain ⟨W4, hbW4, hp, hb4⟩ := HZ.out.1 _ _ _ _ hp
  obtain ⟨uv, rfl, hown⟩ : ∃ v, e = .returned (.tuple #[.iface 40 v, .nilIface]) ∧ w4.ownsRow W4.heap.size 131 1 v (unitsQ rs).length ((unitsQ rs).map u16V) := hp
  have HC4 := Lib.hid (HC3.out.trans ((hbW4.trans (hb4.mono hbW4.size)).mono HC3.out.size))
  have HC34 := Lib.hid (show Below w3.heap.size w3 w4 from hbW4.trans (hb4.mono hbW4.size))
  obtain ⟨A4, c4, rfl⟩ := own_slice hown
  have HOWN := Lib.hid hown
  clear hb4 hbW4 hown
  go_upto_region 5 with fail
  refine wp_region_held_drew (S := (fun w' => Below w4.heap.size w4 w')) (by kernel_rfl) (drewN_below _ 1) (fun hHeld => ?_)
  refine wpAnyH_ready (rs := [0]) (by kernel_rfl) (by simp) ?_
  refine AllReadyH.cons rfl (fun K hK => ?_) AllReadyH.nil
  go_simp
  ((with_reducible refine (wakes16_any _ (HG.out.1.next (HB1.out.trans ((HC4.out.trans (hHeld.mono HC4.out.size)).mono HB1.out.size))) (HG.out.2.next (HB1.out.trans ((HC4.out.trans (hHeld.mono HC4.out.size)).mono HB1.out.size)))).mono ?_); rintro e w2' ⟨rfl, hb2'⟩; dsimp only)
  replace hHeld := hHeld.trans (hb2'.mono hHeld.size)
  refine hK.out _ _ hHeld (fun _ => ?_)
  clear hK K
  refine held_take (i := 1) (v := ?_) (some 48) rfl rfl (by kernel_rfl) (by kernel_rfl) (by kernel_rfl) (fun _ _ _ h => h) (Or.inl ⟨by rfl, ?_⟩) hHeld ?_
  rotate_left
  · intro w hSw
    try dsimp only at hSw
    go_simp
    try with_reducible rfl
  simp only [Act.put, List.setIfInBounds_toArray, List.set_cons_zero, List.set_cons_succ]
  refine held_take (i := 2) (v := ?_) (some 49) rfl rfl (by kernel_rfl) (by kernel_rfl) (by kernel_rfl) (fun _ _ _ h => h) (Or.inl ⟨by rfl, ?_⟩) hHeld ?_
  rotate_left
  · intro w hSw
    try dsimp only at hSw
    go_simp
    try with_reducible rfl
  simp only [Act.put, List.setIfInBounds_toArray, List.set_cons_zero, List.set_cons_succ]
  refine held_take (i := 3) (v := ?_) (some 50) rfl rfl (by kernel_rfl) (by kernel_rfl) (by kernel_rfl) (fun _ _ _ h => h) (Or.inl ⟨by rfl, ?_⟩) hHeld ?_
  rotate_left
  · intro w hSw
    try dsimp only at hSw
    go_simp
    try with_reducible rfl
  simp only [Act.put, List.setIfInBounds_toArray, List.set_cons_zero, List.set_cons_succ]
  refine held_take (i := 4) (v := ?_) (some 51) rfl rfl (by kernel_rfl) (by kernel_rfl) (by kernel_rfl) (fun _ _ _ h => h) (Or.inl ⟨by rfl, ?_⟩) hHeld ?_
  rotate_left
  · intro w hSw
    try dsimp only at hSw
    go_simp
    try with_reducible rfl
  simp only [Act.put, List.setIfInBounds_toArray, List.set_cons_zero, List.set_cons_succ]
  refine held_take (i := 5) (v := ?_) (some 52) rfl rfl (by kernel_rfl) (by kernel_rfl) (by kernel_rfl) (fun _ _ _ h => h) (Or.inl ⟨by rfl, ?_⟩) hHeld ?_
  rotate_left
  · intro w hSw
    try dsimp only at hSw
    go_simp
    try with_reducible rfl
  simp only [Act.put, List.setIfInBounds_toArray, List.set_cons_zero, List.set_cons_succ]
  refine held_take (i := 6) (v := ?_) (some 53) rfl rfl (by kernel_rfl) (by kernel_rfl) (by kernel_rfl) (fun _ _ _ h => h) (Or.inl ⟨by rfl, ?_⟩) hHeld ?_
  rotate_left
  · intro w hSw
    try dsimp only at hSw
    go_simp
    try with_reducible rfl
  simp only [Act.put, List.setIfInBounds_toArray, List.set_cons_zero, List.set_cons_succ]
  refine held_take (i := 7) (v := ?_) (some 54) rfl rfl (by kernel_rfl) (by kernel_rfl) (by kernel_rfl) (fun _ _ _ h => h) (Or.inl ⟨by rfl, ?_⟩) hHeld ?_
  rotate_left
  · intro w hSw
    try dsimp only at hSw
    go_simp
    try with_reducible rfl
  simp only [Act.put, List.setIfInBounds_toArray, List.set_cons_zero, List.set_cons_succ]
  refine held_take (i := 8) (v := ?_) (some 55) rfl rfl (by kernel_rfl) (by kernel_rfl) (by kernel_rfl) (fun _ _ _ h => h) (Or.inl ⟨by rfl, ?_⟩) hHeld ?_
  rotate_left
  · intro w hSw
    try dsimp only at hSw
    go_simp
    try with_reducible rfl
  simp only [Act.put, List.setIfInBounds_toArray, List.set_cons_zero, List.set_cons_succ]
  refine held_take (i := 9) (v := ?_) (some 56) rfl rfl (by kernel_rfl) (by kernel_rfl) (by kernel_rfl) (fun _ _ _ h => h) (Or.inl ⟨by rfl, ?_⟩) hHeld ?_
  rotate_left
  · intro w hSw
    try dsimp only at hSw
    go_simp
    try with_reducible rfl
  simp only [Act.put, List.setIfInBounds_toArray, List.set_cons_zero, List.set_cons_succ]
  refine held_take (i := 10) (v := ?_) (some 57) rfl rfl (by kernel_rfl) (by kernel_rfl) (by kernel_rfl) (fun _ _ _ h => h) (Or.inl ⟨by rfl, ?_⟩) hHeld ?_
  rotate_left
  · intro w hSw
    try dsimp only at hSw
    go_simp
    try with_reducible rfl
  simp only [Act.put, List.setIfInBounds_toArray, List.set_cons_zero, List.set_cons_succ]
  refine held_take (i := 11) (v := ?_) (some 58) rfl rfl (by kernel_rfl) (by kernel_rfl) (by kernel_rfl) (fun _ _ _ h => h) (Or.inl ⟨by rfl, ?_⟩) hHeld ?_
  rotate_left
  · intro w hSw
    try dsimp only at hSw
    go_simp
    try with_reducible rfl
  simp only [Act.put, List.setIfInBounds_toArray, List.set_cons_zero, List.set_cons_succ]
  refine held_take (i := 12) (v := ?_) (some 59) rfl rfl (by kernel_rfl) (by kernel_rfl) (by kernel_rfl) (fun _ _ _ h => h) (Or.inl ⟨by rfl, ?_⟩) hHeld ?_
  rotate_left
  · intro w hSw
    try dsimp only at hSw
    go_simp
    try with_reducible rfl
  simp only [Act.put, List.setIfInBounds_toArray, List.set_cons_zero, List.set_cons_succ]
  refine held_take (i := 13) (v := ?_) (some 60) rfl rfl (by kernel_rfl) (by kernel_rfl) (by kernel_rfl) (fun _ _ _ h => h) (Or.inl ⟨by rfl, ?_⟩) hHeld ?_
  rotate_left
  · intro w hSw
    try dsimp only at hSw
    go_simp
    try with_reducible rfl
  simp only [Act.put, List.setIfInBounds_toArray, List.set_cons_zero, List.set_cons_succ]
  refine held_take (i := 14) (v := ?_) (some 61) rfl rfl (by kernel_rfl) (by kernel_rfl) (by kernel_rfl) (fun _ _ _ h => h) (Or.inl ⟨by rfl, ?_⟩) hHeld ?_
  rotate_left
  · intro w hSw
    try dsimp only at hSw
    go_simp
    try with_reducible rfl
  simp only [Act.put, List.setIfInBounds_toArray, List.set_cons_zero, List.set_cons_succ]
  refine held_take (i := 15) (v := ?_) (some 62) rfl rfl (by kernel_rfl) (by kernel_rfl) (by kernel_rfl) (fun _ _ _ h => h) (Or.inl ⟨by rfl, ?_⟩) hHeld ?_
  rotate_left
  · intro w hSw
    try dsimp only at hSw
    go_simp
    try with_reducible rfl
  simp only [Act.put, List.setIfInBounds_toArray, List.set_cons_zero, List.set_cons_succ]
  refine wpAnyH_done (by kernel_rfl) ?_ _
  have HC5 := Lib.hid hHeld
  have HB5 := Lib.hid (HB1.out.trans ((HC4.out.trans (hHeld.mono HC4.out.size)).mono HB1.out.size))
  have HCR5 := Lib.hid (fun (j : Nat) r (hj : rs[j]? = some r) => ((HC34.out.trans (hHeld.mono HC34.out.size)).cell (p := ⟨g1, j, none⟩) (World.block_lt_of_cell? _ _ (HCR.out j r hj))).trans (HCR.out j r hj))
  have HOWN5 := Lib.hid (HOWN.out.kept (row := none) ⟨hHeld.os, hHeld.tape, hHeld.output, hHeld.size, fun k hk _ => hHeld.block k hk⟩ (by cases A4 <;> simp [Value.ownBlock]))
  clear hHeld
  have hcv := conv_runes w2' rs s g1 cap HR.out.2 HCR5.out
  have t1 := ta_chars
  have t2 := ta_runes
  have t3 := ta_units
  have e2 : (s == s) = true := by simp
  go_wp2_with fail
  go_loopw [19, 108] (fun c19 c108 wr => ∃ k : Nat, k ≤ rs.length ∧ c19 = .int .i64 ((unitsQ (rs.take k)).length : Nat) ∧ c108 = .int .i64 (k : Nat) ∧ Hid (Below w2'.heap.size w2' wr)) (fun _ c108 _ => rs.length - (intOf c108).toNat)
  case atStart => exact ⟨0, Nat.zero_le _, rfl, rfl, Lib.hid (Below.refl _ _)⟩
  case round =>
    obtain ⟨k, hk, rfl, rfl, HI⟩ := hrel
    by_cases hlt : k < rs.length
    · have hor := HR.out.1 (rs[k]'hlt) (List.getElem_mem hlt)
      have hsp := units_split rs hlt
      have hck := (HI.out.cell (p := ⟨g1, k, none⟩) (World.block_lt_of_cell? _ _ (HCR5.out k (rs[k]'hlt) (List.getElem?_eq_getElem hlt)))).trans (HCR5.out k (rs[k]'hlt) (List.getElem?_eq_getElem hlt))
      have hsn := units_snoc (rs.take k) (rs[k]'hlt)
      rw [← take_next hlt] at hsn
      have hq := (unQ_len (rs[k]'hlt))
      have he4 : (encB (rs[k]'hlt)).length ≤ 4 := enc_len4 hor
      obtain ⟨r, hrk⟩ : ∃ r, (rs[k]'hlt) = r := ⟨_, rfl⟩
      rw [hrk] at hor hsp hck hsn hq he4
      unfold i32V at hck
      have hl1 := congrArg List.length hsp
      have hl2 := congrArg List.length hsn
      rw [List.length_append, List.length_append] at hl1
      rw [List.length_append] at hl2
      have hpos : 0 < (unitsQ rs).length := by omega
      obtain ⟨g3, rfl, _, hc4, hcu⟩ := own_some HOWN5.out hpos
      have HCU := Lib.hid (fun (j : Nat) x (hj : (unQ r)[j]? = some x) => (show wr.cell? ⟨g3, (unitsQ (rs.take k)).length + j, none⟩ = some (u16V x) by
        have h9 := hcu ((unitsQ (rs.take k)).length + j) (u16V x) (by
          rw [hsp, List.getElem?_map, List.getElem?_append_right (by omega), Nat.add_sub_cancel_left, List.getElem?_append_left (List.getElem?_eq_some_iff.1 hj).1, hj]
          rfl)
        exact (HI.out.cell (p := ⟨g3, _, none⟩) (World.block_lt_of_cell? _ _ h9)).trans h9))
      have HOR := Lib.hid (And.intro hor (And.intro he4 hq))
      have henc := enc_txt r
      have hi0 : (0 : Int) ≤ (k : Int) := by omega
      have hi1 : (k : Int) < (rs.length : Int) := by omega
      obtain ⟨n1, hn1⟩ : ∃ n1, (unitsQ (rs.take k)).length = n1 := ⟨_, rfl⟩
      obtain ⟨n2, hn2⟩ : ∃ n2, (unQ r).length = n2 := ⟨_, rfl⟩
      obtain ⟨n3, hn3⟩ : ∃ n3, (unitsQ rs).length = n3 := ⟨_, rfl⟩
      rw [hn1] at hl1 hl2 HCU ⊢
      rw [hn2] at hl1 hl2
      rw [hn3] at hl1 hc4 ⊢
      rw [hn2] at hq
      have HN := Lib.hid (And.intro hn1 (And.intro hn2 (And.intro hn3 (And.intro hl2 hlt))))
      have hle : n1 + n2 ≤ n3 := lin3 hl1
      have hcap := own_capB HOWN5.out
      have HEND := Lib.hid (And.intro hcap.1 hcap.2)
      have hm1 : n3 ≤ 4194304 := by rw [← hn3]; exact units_small HR.out.1 HR.out.2 HSL.out
      clear hor hsp hsn hl1 hl2 hpos hcu hrk hn1 hn2 hn3 he4 hcap
      go_wp2_with fail
      ((with_reducible refine (uunits_any [r] (encB r) (one_okR HOR.out.1) (by simp) (right_enc HOR.out.1) (by have := HOR.out.2.1; omega) _).mono ?_); rintro e w6 ⟨u6, rfl, hown6, hb6⟩)
      rw [units_one] at hown6
      obtain ⟨A6, c6, rfl⟩ := own_slice hown6
      obtain ⟨g6, rfl, _, _, hcu6⟩ := own_some hown6 (by have := HOR.out.2.2.1; omega)
      have HI6 := Lib.hid (HI.out.trans (hb6.mono HI.out.size))
      have HU := Lib.hid (units16_any (unQ r) g3 n1 (c4 - n1) g6 0 c6 w6 (fun j x hj => (hb6.cell (p := ⟨g3, _, none⟩) (World.block_lt_of_cell? _ _ (HCU.out j x hj))).trans (HCU.out j x hj)) (fun j x hj => by
        have h9 := hcu6 j (u16V x) (by rw [List.getElem?_map, hj]; rfl)
        rw [Nat.zero_add]
        exact h9) (by have := HOR.out.2.2.2; omega))
      rw [HN.out.2.1] at HU ⊢
      clear hown6 hb6 hcu6
      have hgt : ((n1 : Int) + (n2 : Int) > (n3 : Int)) = False := by simp; omega
      have hgt2 : (n3 : Int) < (n1 : Int) + (n2 : Int) ↔ False := by simp; omega
      have hsl := cut_units g3 n3 c4 n1 n2 (by omega) (by omega)
      have hn5 : n1 ≤ 4194304 := by omega
      have hrl : rs.length ≤ 2097152 := runes_small HR.out.1 HR.out.2 HSL.out
      have hn6 : n2 ≤ 2 := by omega
      clear hm1 hq hcv henc e2 t1 t2 t3 q5 q6 hck hgt hgt2
      go_wp2_with fail
      ((with_reducible refine (HU.out).mono ?_); rintro e w7 ⟨rfl, hb7⟩)
      have HI7 := Lib.hid (HI6.out.trans (hb7.mono HI6.out.size))
      clear hb7
      go_wp2
      go_roundw
      case rel => exact ⟨k + 1, HN.out.2.2.2.2, by rw [HN.out.2.2.2.1]; go_num, by go_num, HI7⟩
      case measure => simp [intOf]; omega
    · obtain rfl : k = rs.length := by omega
      rw [List.take_length]
      have HE := Lib.hid (HB5.out.trans (HI.out.mono HB5.out.size))
      have e9 : (((unitsQ rs).length : Int) == ((unitsQ rs).length : Int)) = true := by simp
      clear hcv e2 hlt hk
      go_wp2
      go_ret
      exact ⟨rfl, HE.out⟩
theorem units_any (v : Value) (l : Tx) (ss : List Stp) (w : World) (hS : RdS w v ss) (hF : ∀ s ∈ ss, s.Fine) (hl : l.length ≤ 4194304) (hG : Glob w) (hT : Tab w) : Calls Tryz.prog 3 #[v, .string ⟨l.toArray⟩] w (TrueW w) := by
  cases hb : buildT ss with
  | inl x => exact units_refused v l ss w hS hF hG hT x.1 x.2 hb
  | inr t =>
    cases hz : failV t l with
    | none => exact units_ok v l ss w hS hF hG hT t hb hl hz
    | some z => exact units_fail v l ss w hS hF hG hT t hb hl z hz
end Nd
end Go.Proofs.YtbajkglacfheiaaGreatDoor

