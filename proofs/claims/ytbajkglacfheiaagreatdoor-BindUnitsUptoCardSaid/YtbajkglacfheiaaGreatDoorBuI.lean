/-
  The statement BindUnits: where nothing is bound.
-/
import Derived.Test.YtbajkglacfheiaaGreatDoorBuG
import Derived.Deep.RegionHeldLaw
namespace Go.Proofs.YtbajkglacfheiaaGreatDoor
open Go.RowKit Mem Utf Ref3 Idx Tok TokC
set_option linter.unusedVariables false
set_option linter.unusedSimpArgs false
set_option maxRecDepth 100000
namespace Nd
theorem bndI : Tryz.prog.underlying 29 = some (.interface (Tryz.prog.methodsAt 29)) := by kernel_rfl
theorem bnd_eq_nil (w : World) : (binOp .eql 29 .nilIface .nilIface).run Tryz.prog w = .ok (.bool true) w := run_eql_nil_nil w _ bndI
theorem bnd_eq_held (u : TypeId) (x : Value) (w : World) : (binOp .eql 29 (.iface u x) .nilIface).run Tryz.prog w = .ok (.bool false) w := run_eql_held_nil w _ u x bndI
/-- the error where no text is bound -/
def failV (t : Tr) (l : Tx) : Option Value :=
  match parseS (wrong l) l with
    | .error x => some (Go.Proofs.YtbajkglacfheiaaGreatDoor.errV x.1 x.2)
    | .ok ts => match leadT t ts 0 with
      | .inl n => some (trlV 4 (printS (ts.take n)))
      | .inr u => if u.isTx = true then none else some (trlV 5 l)
theorem bindText_fail {k : Nat} {t : Tr} {l : Tx} {z : Value} {w w' : World} {e : Ending} (h : failV t l = some z) (hp : BindP (TextR k l) t l w e w') : e = .returned (.tuple #[.nilIface, z]) ∧ Below w.heap.size w w' := by
  unfold BindP at hp
  unfold failV at h
  cases h1 : parseS (wrong l) l with
  | error x =>
    rw [h1] at hp h
    injection h with h
    rw [← h]
    exact hp
  | ok ts =>
    rw [h1] at hp h
    dsimp only at hp h
    cases h2 : leadT t ts 0 with
    | inl n =>
      rw [h2] at hp h
      injection h with h
      rw [← h]
      exact hp
    | inr u =>
      rw [h2] at hp h
      dsimp only at hp h
      obtain ⟨W, hb, hr⟩ := hp
      unfold TextR at hr
      by_cases ht : u.isTx = true
      · rw [if_pos ht] at h
        cases h
      · rw [if_neg ht] at h hr
        injection h with h
        rw [← h]
        exact ⟨hr.1, hb.trans (hr.2.mono hb.size)⟩
theorem failV_form {t : Tr} {l : Tx} {z : Value} (h : failV t l = some z) : ∃ T u, z = .iface T u := by
  unfold failV at h
  split at h
  · rename_i x _
    injection h with h
    obtain ⟨T, u, e⟩ := errV_form x.1 x.2
    exact ⟨T, u, h.symm.trans e⟩
  · split at h
    · injection h with h
      exact ⟨_, _, h.symm⟩
    · split at h
      · cases h
      · injection h with h
        exact ⟨_, _, h.symm⟩
theorem bindText_ok {t : Tr} {l : Tx} (h : failV t l = none) (ho : t.Ok) (hf : t.fit = true) : ∃ s : Tx, rightB s = true ∧ s.length ≤ 2097152 ∧ ∀ k w e w', BindP (TextR k l) t l w e w' → Later (TxtP k s (runesOf s)) w e w' := by
  unfold failV at h
  cases h1 : parseS (wrong l) l with
  | error x =>
    rw [h1] at h
    cases h
  | ok ts =>
    rw [h1] at h
    dsimp only at h
    cases h2 : leadT t ts 0 with
    | inl n =>
      rw [h2] at h
      cases h
    | inr u =>
      rw [h2] at h
      dsimp only at h
      by_cases ht : u.isTx = true
      · obtain ⟨uo, uf⟩ := lead_ok ts t u 0 ho hf h2
        cases u <;> simp [Tr.isTx] at ht
        rename_i s
        refine ⟨s, uo, (fit_le uf).2.1, fun k w e w' hp => ?_⟩
        unfold BindP at hp
        rw [h1] at hp
        dsimp only at hp
        rw [h2] at hp
        obtain ⟨W, hb, hr⟩ := hp
        unfold TextR at hr
        rw [if_pos (show (Tr.text s).isTx = true from rfl)] at hr
        exact ⟨W, hb, hr⟩
      · rw [if_neg ht] at h
        cases h
def TrueW (w : World) (e : Ending) (w' : World) : Prop := e = .returned (.bool true) ∧ Below w.heap.size w w'
set_option maxHeartbeats 8000000 in
theorem units_refused (v : Value) (l : Tx) (ss : List Stp) (w : World) (hS : RdS w v ss) (hF : ∀ s ∈ ss, s.Fine) (hG : Glob w) (hT : Tab w) (n i : Int) (hb : buildT ss = .inl (n, i)) :
    Calls Tryz.prog 3 #[v, .string ⟨l.toArray⟩] w (TrueW w) := by
  have q1 := err_ne_nil
  have q2 := err_ne_held
  have q3 := err_eq_nil
  have q4 := err_eq_held
  have q5 := bnd_eq_nil
  have q6 := bnd_eq_held
  obtain ⟨A, c, rfl, _⟩ := id hS
  have HS := Lib.hid hS
  have HF := Lib.hid (And.intro hF hb)
  have HG := Lib.hid (And.intro hG hT)
  clear hS hF hb hG hT
  go_enter Tryz.func3, Tryz.ntmps3
  go_wp2_with fail
  ((with_reducible refine (build_all _ ss _ HS.out HF.out.1).mono ?_); intro e w1 hP)
  obtain ⟨hb1, hP⟩ := hP
  simp only [HF.out.2] at hP
  obtain rfl := hP
  obtain ⟨tx, ux, hsp⟩ := sp_form n i
  rw [hsp]
  have HB1 := Lib.hid hb1
  clear hsp hb1
  go_wp2_with fail
  ((with_reducible refine (bind_nil l 15 _).mono ?_); rintro e w2 ⟨rfl, rfl⟩)
  go_wp2_with fail
  ((with_reducible refine (bind_nil l 16 _).mono ?_); rintro e w2 ⟨rfl, rfl⟩)
  go_wp2_with fail
  ((with_reducible refine (bind_nil l 17 _).mono ?_); rintro e w2 ⟨rfl, rfl⟩)
  unfold errN
  go_upto_region 5 with fail
  refine wp_region_held_drew (S := (fun w' => Below w1.heap.size w1 w')) (by kernel_rfl) (drewN_below _ 1) (fun hHeld => ?_)
  refine wpAnyH_ready (rs := [0]) (by kernel_rfl) (by simp) ?_
  refine AllReadyH.cons rfl (fun K hK => ?_) AllReadyH.nil
  go_simp
  ((with_reducible refine (wakes16_any _ (HG.out.1.next (HB1.out.trans (hHeld.mono HB1.out.size))) (HG.out.2.next (HB1.out.trans (hHeld.mono HB1.out.size)))).mono ?_); rintro e w2' ⟨rfl, hb2'⟩; dsimp only)
  replace hHeld := hHeld.trans (hb2'.mono hHeld.size)
  refine hK.out _ _ hHeld (fun _ => ?_)
  clear hK K
  refine held_take (i := 1) (v := ?_) (some 48) rfl rfl (by kernel_rfl) (by kernel_rfl) (by kernel_rfl) (fun _ _ _ h => h) (Or.inl ⟨by rfl, ?_⟩) hHeld ?_
  rotate_left
  · intro w hSw
    try dsimp only at hSw
    go_simp
    try with_reducible rfl
  simp only [Act.put, List.setIfInBounds_toArray, List.set_cons_zero, List.set_cons_succ]
  refine held_take (i := 2) (v := ?_) (some 49) rfl rfl (by kernel_rfl) (by kernel_rfl) (by kernel_rfl) (fun _ _ _ h => h) (Or.inl ⟨by rfl, ?_⟩) hHeld ?_
  rotate_left
  · intro w hSw
    try dsimp only at hSw
    go_simp
    try with_reducible rfl
  simp only [Act.put, List.setIfInBounds_toArray, List.set_cons_zero, List.set_cons_succ]
  refine held_take (i := 3) (v := ?_) (some 50) rfl rfl (by kernel_rfl) (by kernel_rfl) (by kernel_rfl) (fun _ _ _ h => h) (Or.inl ⟨by rfl, ?_⟩) hHeld ?_
  rotate_left
  · intro w hSw
    try dsimp only at hSw
    go_simp
    try with_reducible rfl
  simp only [Act.put, List.setIfInBounds_toArray, List.set_cons_zero, List.set_cons_succ]
  refine held_take (i := 4) (v := ?_) (some 51) rfl rfl (by kernel_rfl) (by kernel_rfl) (by kernel_rfl) (fun _ _ _ h => h) (Or.inl ⟨by rfl, ?_⟩) hHeld ?_
  rotate_left
  · intro w hSw
    try dsimp only at hSw
    go_simp
    try with_reducible rfl
  simp only [Act.put, List.setIfInBounds_toArray, List.set_cons_zero, List.set_cons_succ]
  refine held_take (i := 5) (v := ?_) (some 52) rfl rfl (by kernel_rfl) (by kernel_rfl) (by kernel_rfl) (fun _ _ _ h => h) (Or.inl ⟨by rfl, ?_⟩) hHeld ?_
  rotate_left
  · intro w hSw
    try dsimp only at hSw
    go_simp
    try with_reducible rfl
  simp only [Act.put, List.setIfInBounds_toArray, List.set_cons_zero, List.set_cons_succ]
  refine held_take (i := 6) (v := ?_) (some 53) rfl rfl (by kernel_rfl) (by kernel_rfl) (by kernel_rfl) (fun _ _ _ h => h) (Or.inl ⟨by rfl, ?_⟩) hHeld ?_
  rotate_left
  · intro w hSw
    try dsimp only at hSw
    go_simp
    try with_reducible rfl
  simp only [Act.put, List.setIfInBounds_toArray, List.set_cons_zero, List.set_cons_succ]
  refine held_take (i := 7) (v := ?_) (some 54) rfl rfl (by kernel_rfl) (by kernel_rfl) (by kernel_rfl) (fun _ _ _ h => h) (Or.inl ⟨by rfl, ?_⟩) hHeld ?_
  rotate_left
  · intro w hSw
    try dsimp only at hSw
    go_simp
    try with_reducible rfl
  simp only [Act.put, List.setIfInBounds_toArray, List.set_cons_zero, List.set_cons_succ]
  refine held_take (i := 8) (v := ?_) (some 55) rfl rfl (by kernel_rfl) (by kernel_rfl) (by kernel_rfl) (fun _ _ _ h => h) (Or.inl ⟨by rfl, ?_⟩) hHeld ?_
  rotate_left
  · intro w hSw
    try dsimp only at hSw
    go_simp
    try with_reducible rfl
  simp only [Act.put, List.setIfInBounds_toArray, List.set_cons_zero, List.set_cons_succ]
  refine held_take (i := 9) (v := ?_) (some 56) rfl rfl (by kernel_rfl) (by kernel_rfl) (by kernel_rfl) (fun _ _ _ h => h) (Or.inl ⟨by rfl, ?_⟩) hHeld ?_
  rotate_left
  · intro w hSw
    try dsimp only at hSw
    go_simp
    try with_reducible rfl
  simp only [Act.put, List.setIfInBounds_toArray, List.set_cons_zero, List.set_cons_succ]
  refine held_take (i := 10) (v := ?_) (some 57) rfl rfl (by kernel_rfl) (by kernel_rfl) (by kernel_rfl) (fun _ _ _ h => h) (Or.inl ⟨by rfl, ?_⟩) hHeld ?_
  rotate_left
  · intro w hSw
    try dsimp only at hSw
    go_simp
    try with_reducible rfl
  simp only [Act.put, List.setIfInBounds_toArray, List.set_cons_zero, List.set_cons_succ]
  refine held_take (i := 11) (v := ?_) (some 58) rfl rfl (by kernel_rfl) (by kernel_rfl) (by kernel_rfl) (fun _ _ _ h => h) (Or.inl ⟨by rfl, ?_⟩) hHeld ?_
  rotate_left
  · intro w hSw
    try dsimp only at hSw
    go_simp
    try with_reducible rfl
  simp only [Act.put, List.setIfInBounds_toArray, List.set_cons_zero, List.set_cons_succ]
  refine held_take (i := 12) (v := ?_) (some 59) rfl rfl (by kernel_rfl) (by kernel_rfl) (by kernel_rfl) (fun _ _ _ h => h) (Or.inl ⟨by rfl, ?_⟩) hHeld ?_
  rotate_left
  · intro w hSw
    try dsimp only at hSw
    go_simp
    try with_reducible rfl
  simp only [Act.put, List.setIfInBounds_toArray, List.set_cons_zero, List.set_cons_succ]
  refine held_take (i := 13) (v := ?_) (some 60) rfl rfl (by kernel_rfl) (by kernel_rfl) (by kernel_rfl) (fun _ _ _ h => h) (Or.inl ⟨by rfl, ?_⟩) hHeld ?_
  rotate_left
  · intro w hSw
    try dsimp only at hSw
    go_simp
    try with_reducible rfl
  simp only [Act.put, List.setIfInBounds_toArray, List.set_cons_zero, List.set_cons_succ]
  refine held_take (i := 14) (v := ?_) (some 61) rfl rfl (by kernel_rfl) (by kernel_rfl) (by kernel_rfl) (fun _ _ _ h => h) (Or.inl ⟨by rfl, ?_⟩) hHeld ?_
  rotate_left
  · intro w hSw
    try dsimp only at hSw
    go_simp
    try with_reducible rfl
  simp only [Act.put, List.setIfInBounds_toArray, List.set_cons_zero, List.set_cons_succ]
  refine held_take (i := 15) (v := ?_) (some 62) rfl rfl (by kernel_rfl) (by kernel_rfl) (by kernel_rfl) (fun _ _ _ h => h) (Or.inl ⟨by rfl, ?_⟩) hHeld ?_
  rotate_left
  · intro w hSw
    try dsimp only at hSw
    go_simp
    try with_reducible rfl
  simp only [Act.put, List.setIfInBounds_toArray, List.set_cons_zero, List.set_cons_succ]
  refine wpAnyH_done (by kernel_rfl) ?_ _
  have HBX := Lib.hid (HB1.out.trans (hHeld.mono HB1.out.size))
  clear hHeld
  go_wp2
  go_ret
  exact ⟨rfl, HBX.out⟩
set_option maxHeartbeats 8000000 in
theorem units_fail (v : Value) (l : Tx) (ss : List Stp) (w : World) (hS : RdS w v ss) (hF : ∀ s ∈ ss, s.Fine) (hG : Glob w) (hT : Tab w) (t : Tr) (hb : buildT ss = .inr t) (hl : l.length ≤ 4194304) (z : Value) (hz : failV t l = some z) :
    Calls Tryz.prog 3 #[v, .string ⟨l.toArray⟩] w (TrueW w) := by
  have q1 := err_ne_nil
  have q2 := err_ne_held
  have q3 := err_eq_nil
  have q4 := err_eq_held
  have q5 := bnd_eq_nil
  have q6 := bnd_eq_held
  obtain ⟨A, c, rfl, _⟩ := id hS
  have HS := Lib.hid hS
  have HF := Lib.hid (And.intro hF hb)
  have HG := Lib.hid (And.intro hG hT)
  obtain ⟨Te, ue, rfl⟩ := failV_form hz
  have HZ := Lib.hid (And.intro hz hl)
  clear hS hF hb hG hT hz hl
  go_enter Tryz.func3, Tryz.ntmps3
  go_wp2_with fail
  ((with_reducible refine (build_all _ ss _ HS.out HF.out.1).mono ?_); intro e w1 hP)
  obtain ⟨hb1, hP⟩ := hP
  simp only [HF.out.2] at hP
  obtain ⟨g, rfl, hTA⟩ := hP
  obtain ⟨_, hfit, tv, hB, hrd⟩ := hTA
  have hok := (buildT_ok HF.out.1 HF.out.2).1
  have hra : RdA w1 t tv := RdT.move (fun j hj hs => ⟨trivial, rfl⟩) _ _ hrd
  have HBT := Lib.hid (And.intro hB (And.intro hra (And.intro hok hfit)))
  have HB1 := Lib.hid hb1
  clear hb1 hB hrd hfit hra hok
  go_wp2_with fail
  ((with_reducible refine (bind_textI 15 15 rfl (by omega) (by omega) g t tv l w1 _ HBT.out.1 HBT.out.2.1 (Below.refl _ _) HBT.out.2.2.1 HBT.out.2.2.2 HZ.out.2 (HG.out.1.next (HB1.out)) (HG.out.2.next (HB1.out))).mono ?_); intro e w2 hp)
  obtain ⟨rfl, hb2⟩ := bindText_fail HZ.out.1 hp
  have HC2 := Lib.hid (hb2)
  clear hp hb2
  go_wp2_with fail
  ((with_reducible refine (bind_textI 16 16 rfl (by omega) (by omega) g t tv l w1 _ HBT.out.1 HBT.out.2.1 HC2.out HBT.out.2.2.1 HBT.out.2.2.2 HZ.out.2 (HG.out.1.next (HB1.out.trans (HC2.out.mono HB1.out.size))) (HG.out.2.next (HB1.out.trans (HC2.out.mono HB1.out.size)))).mono ?_); intro e w3 hp)
  obtain ⟨rfl, hb3⟩ := bindText_fail HZ.out.1 hp
  have HC3 := Lib.hid (HC2.out.trans (hb3.mono HC2.out.size))
  clear hp hb3
  go_wp2_with fail
  ((with_reducible refine (bind_textI 17 17 rfl (by omega) (by omega) g t tv l w1 _ HBT.out.1 HBT.out.2.1 HC3.out HBT.out.2.2.1 HBT.out.2.2.2 HZ.out.2 (HG.out.1.next (HB1.out.trans (HC3.out.mono HB1.out.size))) (HG.out.2.next (HB1.out.trans (HC3.out.mono HB1.out.size)))).mono ?_); intro e w4 hp)
  obtain ⟨rfl, hb4⟩ := bindText_fail HZ.out.1 hp
  have HC4 := Lib.hid (HC3.out.trans (hb4.mono HC3.out.size))
  clear hp hb4
  go_upto_region 5 with fail
  refine wp_region_held_drew (S := (fun w' => Below w4.heap.size w4 w')) (by kernel_rfl) (drewN_below _ 1) (fun hHeld => ?_)
  refine wpAnyH_ready (rs := [0]) (by kernel_rfl) (by simp) ?_
  refine AllReadyH.cons rfl (fun K hK => ?_) AllReadyH.nil
  go_simp
  ((with_reducible refine (wakes16_any _ (HG.out.1.next (HB1.out.trans ((HC4.out.trans (hHeld.mono HC4.out.size)).mono HB1.out.size))) (HG.out.2.next (HB1.out.trans ((HC4.out.trans (hHeld.mono HC4.out.size)).mono HB1.out.size)))).mono ?_); rintro e w2' ⟨rfl, hb2'⟩; dsimp only)
  replace hHeld := hHeld.trans (hb2'.mono hHeld.size)
  refine hK.out _ _ hHeld (fun _ => ?_)
  clear hK K
  refine held_take (i := 1) (v := ?_) (some 48) rfl rfl (by kernel_rfl) (by kernel_rfl) (by kernel_rfl) (fun _ _ _ h => h) (Or.inl ⟨by rfl, ?_⟩) hHeld ?_
  rotate_left
  · intro w hSw
    try dsimp only at hSw
    go_simp
    try with_reducible rfl
  simp only [Act.put, List.setIfInBounds_toArray, List.set_cons_zero, List.set_cons_succ]
  refine held_take (i := 2) (v := ?_) (some 49) rfl rfl (by kernel_rfl) (by kernel_rfl) (by kernel_rfl) (fun _ _ _ h => h) (Or.inl ⟨by rfl, ?_⟩) hHeld ?_
  rotate_left
  · intro w hSw
    try dsimp only at hSw
    go_simp
    try with_reducible rfl
  simp only [Act.put, List.setIfInBounds_toArray, List.set_cons_zero, List.set_cons_succ]
  refine held_take (i := 3) (v := ?_) (some 50) rfl rfl (by kernel_rfl) (by kernel_rfl) (by kernel_rfl) (fun _ _ _ h => h) (Or.inl ⟨by rfl, ?_⟩) hHeld ?_
  rotate_left
  · intro w hSw
    try dsimp only at hSw
    go_simp
    try with_reducible rfl
  simp only [Act.put, List.setIfInBounds_toArray, List.set_cons_zero, List.set_cons_succ]
  refine held_take (i := 4) (v := ?_) (some 51) rfl rfl (by kernel_rfl) (by kernel_rfl) (by kernel_rfl) (fun _ _ _ h => h) (Or.inl ⟨by rfl, ?_⟩) hHeld ?_
  rotate_left
  · intro w hSw
    try dsimp only at hSw
    go_simp
    try with_reducible rfl
  simp only [Act.put, List.setIfInBounds_toArray, List.set_cons_zero, List.set_cons_succ]
  refine held_take (i := 5) (v := ?_) (some 52) rfl rfl (by kernel_rfl) (by kernel_rfl) (by kernel_rfl) (fun _ _ _ h => h) (Or.inl ⟨by rfl, ?_⟩) hHeld ?_
  rotate_left
  · intro w hSw
    try dsimp only at hSw
    go_simp
    try with_reducible rfl
  simp only [Act.put, List.setIfInBounds_toArray, List.set_cons_zero, List.set_cons_succ]
  refine held_take (i := 6) (v := ?_) (some 53) rfl rfl (by kernel_rfl) (by kernel_rfl) (by kernel_rfl) (fun _ _ _ h => h) (Or.inl ⟨by rfl, ?_⟩) hHeld ?_
  rotate_left
  · intro w hSw
    try dsimp only at hSw
    go_simp
    try with_reducible rfl
  simp only [Act.put, List.setIfInBounds_toArray, List.set_cons_zero, List.set_cons_succ]
  refine held_take (i := 7) (v := ?_) (some 54) rfl rfl (by kernel_rfl) (by kernel_rfl) (by kernel_rfl) (fun _ _ _ h => h) (Or.inl ⟨by rfl, ?_⟩) hHeld ?_
  rotate_left
  · intro w hSw
    try dsimp only at hSw
    go_simp
    try with_reducible rfl
  simp only [Act.put, List.setIfInBounds_toArray, List.set_cons_zero, List.set_cons_succ]
  refine held_take (i := 8) (v := ?_) (some 55) rfl rfl (by kernel_rfl) (by kernel_rfl) (by kernel_rfl) (fun _ _ _ h => h) (Or.inl ⟨by rfl, ?_⟩) hHeld ?_
  rotate_left
  · intro w hSw
    try dsimp only at hSw
    go_simp
    try with_reducible rfl
  simp only [Act.put, List.setIfInBounds_toArray, List.set_cons_zero, List.set_cons_succ]
  refine held_take (i := 9) (v := ?_) (some 56) rfl rfl (by kernel_rfl) (by kernel_rfl) (by kernel_rfl) (fun _ _ _ h => h) (Or.inl ⟨by rfl, ?_⟩) hHeld ?_
  rotate_left
  · intro w hSw
    try dsimp only at hSw
    go_simp
    try with_reducible rfl
  simp only [Act.put, List.setIfInBounds_toArray, List.set_cons_zero, List.set_cons_succ]
  refine held_take (i := 10) (v := ?_) (some 57) rfl rfl (by kernel_rfl) (by kernel_rfl) (by kernel_rfl) (fun _ _ _ h => h) (Or.inl ⟨by rfl, ?_⟩) hHeld ?_
  rotate_left
  · intro w hSw
    try dsimp only at hSw
    go_simp
    try with_reducible rfl
  simp only [Act.put, List.setIfInBounds_toArray, List.set_cons_zero, List.set_cons_succ]
  refine held_take (i := 11) (v := ?_) (some 58) rfl rfl (by kernel_rfl) (by kernel_rfl) (by kernel_rfl) (fun _ _ _ h => h) (Or.inl ⟨by rfl, ?_⟩) hHeld ?_
  rotate_left
  · intro w hSw
    try dsimp only at hSw
    go_simp
    try with_reducible rfl
  simp only [Act.put, List.setIfInBounds_toArray, List.set_cons_zero, List.set_cons_succ]
  refine held_take (i := 12) (v := ?_) (some 59) rfl rfl (by kernel_rfl) (by kernel_rfl) (by kernel_rfl) (fun _ _ _ h => h) (Or.inl ⟨by rfl, ?_⟩) hHeld ?_
  rotate_left
  · intro w hSw
    try dsimp only at hSw
    go_simp
    try with_reducible rfl
  simp only [Act.put, List.setIfInBounds_toArray, List.set_cons_zero, List.set_cons_succ]
  refine held_take (i := 13) (v := ?_) (some 60) rfl rfl (by kernel_rfl) (by kernel_rfl) (by kernel_rfl) (fun _ _ _ h => h) (Or.inl ⟨by rfl, ?_⟩) hHeld ?_
  rotate_left
  · intro w hSw
    try dsimp only at hSw
    go_simp
    try with_reducible rfl
  simp only [Act.put, List.setIfInBounds_toArray, List.set_cons_zero, List.set_cons_succ]
  refine held_take (i := 14) (v := ?_) (some 61) rfl rfl (by kernel_rfl) (by kernel_rfl) (by kernel_rfl) (fun _ _ _ h => h) (Or.inl ⟨by rfl, ?_⟩) hHeld ?_
  rotate_left
  · intro w hSw
    try dsimp only at hSw
    go_simp
    try with_reducible rfl
  simp only [Act.put, List.setIfInBounds_toArray, List.set_cons_zero, List.set_cons_succ]
  refine held_take (i := 15) (v := ?_) (some 62) rfl rfl (by kernel_rfl) (by kernel_rfl) (by kernel_rfl) (fun _ _ _ h => h) (Or.inl ⟨by rfl, ?_⟩) hHeld ?_
  rotate_left
  · intro w hSw
    try dsimp only at hSw
    go_simp
    try with_reducible rfl
  simp only [Act.put, List.setIfInBounds_toArray, List.set_cons_zero, List.set_cons_succ]
  refine wpAnyH_done (by kernel_rfl) ?_ _
  have HBX := Lib.hid (HB1.out.trans ((HC4.out.trans (hHeld.mono HC4.out.size)).mono HB1.out.size))
  clear hHeld
  go_wp2
  go_ret
  exact ⟨rfl, HBX.out⟩
end Nd
end Go.Proofs.YtbajkglacfheiaaGreatDoor

