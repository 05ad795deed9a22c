/-
  The closures that read a claim.
-/
import Derived.Test.YtbcckpnngonoeaaGreatDoorCrU
import Derived.Deep.RegionHeldLaw
namespace Go.Proofs.YtbcckpnngonoeaaGreatDoor
open Go.RowKit Mem Utf Ref3 Idx Tok TokC Cl
set_option linter.unusedVariables false
set_option linter.unusedSimpArgs false
namespace Nd
set_option maxRecDepth 100000 in
set_option maxHeartbeats 8000000 in
theorem rdc1_any {R : Ending → World → Prop} (F : FuncId) (gc bf off : Nat) (v : Value) (p : ByteArray) (w : World) (hF : ∀ (b : Nat) (w : World), Calls Tryz.prog F #[.pointer (some ⟨b, 0, none⟩)] w fun e w' => e = .returned (.pointer (some ⟨b, off, none⟩)) ∧ w = w') (hE : ∀ (args : Array Value) (w : World), (callFunc F args).run Tryz.prog w = .ok (.enter F args) w)
    (hf : w.cell? ⟨bf, 0, none⟩ = some (.func (.func F) #[] #[])) (hin : Calls Tryz.prog 85 #[.pointer (some ⟨gc, off, none⟩), .agg #[v], .string p] (w.alloc (.cells #[v] 140)).drew R)
    (hR : ∀ e w', R e w' → (∃ u, e = .returned u) ∧ w'.cell? ⟨bf, 0, none⟩ = some (.func (.func F) #[] #[]) ∧ w'.cell? ⟨w.heap.size, 0, none⟩ = some v) :
    Calls Tryz.prog 84 #[.pointer (some ⟨gc, 0, none⟩), .agg #[v], .string p, .pointer (some ⟨bf, 0, none⟩)] w R := by
  have hx := ref_box w v
  have c1 := cell_keep hf hx
  have c2 : (w.alloc (.cells #[v] 140)).cell? ⟨w.heap.size, 0, none⟩ = some v := (Blk.new w 140 #[v]).cell 0

  have HF := Lib.hid hF
  have HIN := Lib.hid hin
  have HR := Lib.hid hR
  clear hF hin hR hf hx
  go_enter Tryz.func84, Tryz.ntmps84
  go_upto_region 1 with fail
  generalize (w.alloc (.cells #[v] 140)) = W at *
  refine wp_region_held_drew (S := (fun w' => w'.cell? ⟨bf, 0, none⟩ = some (.func (.func F) #[] #[]) ∧ w'.cell? ⟨w.heap.size, 0, none⟩ = some v)) (by kernel_rfl) ⟨c1, c2⟩ (fun hHeld => ?_)
  refine held_take (i := 0) (v := ?_) (some 8) rfl rfl (by kernel_rfl) (by kernel_rfl) (by kernel_rfl) (fun _ _ _ h => h) (Or.inl ⟨by rfl, ?_⟩) hHeld ?_
  rotate_left
  · intro w hSw
    try dsimp only at hSw
    go_simp
    try with_reducible rfl
  simp only [Act.put, List.setIfInBounds_toArray, List.set_cons_zero, List.set_cons_succ]
  refine held_take (i := 1) (v := ?_) (some 9) rfl rfl (by kernel_rfl) (by kernel_rfl) (by kernel_rfl) (fun _ _ _ h => h) (Or.inl ⟨by rfl, ?_⟩) hHeld ?_
  rotate_left
  · intro w hSw
    try dsimp only at hSw
    go_simp
    try with_reducible rfl
  simp only [Act.put, List.setIfInBounds_toArray, List.set_cons_zero, List.set_cons_succ]
  refine held_take (i := 3) (v := ?_) (some 11) rfl rfl (by kernel_rfl) (by kernel_rfl) (by kernel_rfl) (fun _ _ _ h => h) (Or.inl ⟨by rfl, ?_⟩) hHeld ?_
  rotate_left
  · intro w hSw
    try dsimp only at hSw
    go_simp
    try with_reducible rfl
  simp only [Act.put, List.setIfInBounds_toArray, List.set_cons_zero, List.set_cons_succ]
  refine held_take (i := 4) (v := ?_) (some 12) rfl rfl (by kernel_rfl) (by kernel_rfl) (by kernel_rfl) (fun _ _ _ h => h) (Or.inl ⟨by rfl, ?_⟩) hHeld ?_
  rotate_left
  · intro w hSw
    try dsimp only at hSw
    go_simp
    try with_reducible rfl
  simp only [Act.put, List.setIfInBounds_toArray, List.set_cons_zero, List.set_cons_succ]
  refine wpAnyH_ready (rs := [2]) (by kernel_rfl) (by simp) ?_
  refine AllReadyH.cons rfl (fun K hK => ?_) AllReadyH.nil
  go_simp
  ((with_reducible refine (HF.out gc _).mono ?_); rintro e w5 ⟨rfl, rfl⟩; dsimp only)
  replace hHeld := hHeld
  refine hK.out _ _ hHeld (fun _ => ?_)
  clear hK K
  refine wpAnyH_ready (rs := [5]) (by kernel_rfl) (by simp) ?_
  refine AllReadyH.cons rfl (fun K hK => ?_) AllReadyH.nil
  go_simp
  (refine HIN.out.mono ?_; intro e w6 hr)
  obtain ⟨⟨u, rfl⟩, hr2⟩ := HR.out _ _ hr
  have HRR := Lib.hid hr
  clear hr
  dsimp only
  replace hHeld := hr2
  refine hK.out _ _ hHeld (fun _ => ?_)
  clear hK K
  refine held_take (i := 6) (v := ?_) (some 7) rfl rfl (by kernel_rfl) (by kernel_rfl) (by kernel_rfl) (fun _ _ _ h => h) (Or.inl ⟨by rfl, ?_⟩) hHeld ?_
  rotate_left
  · intro w hSw
    try dsimp only at hSw
    go_simp
    try with_reducible rfl
  simp only [Act.put, List.setIfInBounds_toArray, List.set_cons_zero, List.set_cons_succ]
  refine wpAnyH_done (by kernel_rfl) ?_ _
  clear hHeld
  go_wp2
  exact HRR.out
set_option maxRecDepth 100000 in
set_option maxHeartbeats 8000000 in
theorem rdc2_any {R : Ending → World → Prop} (F : FuncId) (gc bf off : Nat) (v : Value) (p : ByteArray) (w : World) (hF : ∀ (b : Nat) (w : World), Calls Tryz.prog F #[.pointer (some ⟨b, 0, none⟩)] w fun e w' => e = .returned (.pointer (some ⟨b, off, none⟩)) ∧ w = w') (hE : ∀ (args : Array Value) (w : World), (callFunc F args).run Tryz.prog w = .ok (.enter F args) w)
    (hf : w.cell? ⟨bf, 0, none⟩ = some (.func (.func F) #[] #[])) (hin : Calls Tryz.prog 88 #[.pointer (some ⟨gc, off, none⟩), .agg #[v], .string p] (w.alloc (.cells #[v] 140)).drew R)
    (hR : ∀ e w', R e w' → (∃ u, e = .returned u) ∧ w'.cell? ⟨bf, 0, none⟩ = some (.func (.func F) #[] #[]) ∧ w'.cell? ⟨w.heap.size, 0, none⟩ = some v) :
    Calls Tryz.prog 87 #[.pointer (some ⟨gc, 0, none⟩), .agg #[v], .string p, .pointer (some ⟨bf, 0, none⟩)] w R := by
  have hx := ref_box w v
  have c1 := cell_keep hf hx
  have c2 : (w.alloc (.cells #[v] 140)).cell? ⟨w.heap.size, 0, none⟩ = some v := (Blk.new w 140 #[v]).cell 0

  have HF := Lib.hid hF
  have HIN := Lib.hid hin
  have HR := Lib.hid hR
  clear hF hin hR hf hx
  go_enter Tryz.func87, Tryz.ntmps87
  go_upto_region 1 with fail
  generalize (w.alloc (.cells #[v] 140)) = W at *
  refine wp_region_held_drew (S := (fun w' => w'.cell? ⟨bf, 0, none⟩ = some (.func (.func F) #[] #[]) ∧ w'.cell? ⟨w.heap.size, 0, none⟩ = some v)) (by kernel_rfl) ⟨c1, c2⟩ (fun hHeld => ?_)
  refine held_take (i := 0) (v := ?_) (some 8) rfl rfl (by kernel_rfl) (by kernel_rfl) (by kernel_rfl) (fun _ _ _ h => h) (Or.inl ⟨by rfl, ?_⟩) hHeld ?_
  rotate_left
  · intro w hSw
    try dsimp only at hSw
    go_simp
    try with_reducible rfl
  simp only [Act.put, List.setIfInBounds_toArray, List.set_cons_zero, List.set_cons_succ]
  refine held_take (i := 1) (v := ?_) (some 9) rfl rfl (by kernel_rfl) (by kernel_rfl) (by kernel_rfl) (fun _ _ _ h => h) (Or.inl ⟨by rfl, ?_⟩) hHeld ?_
  rotate_left
  · intro w hSw
    try dsimp only at hSw
    go_simp
    try with_reducible rfl
  simp only [Act.put, List.setIfInBounds_toArray, List.set_cons_zero, List.set_cons_succ]
  refine held_take (i := 3) (v := ?_) (some 11) rfl rfl (by kernel_rfl) (by kernel_rfl) (by kernel_rfl) (fun _ _ _ h => h) (Or.inl ⟨by rfl, ?_⟩) hHeld ?_
  rotate_left
  · intro w hSw
    try dsimp only at hSw
    go_simp
    try with_reducible rfl
  simp only [Act.put, List.setIfInBounds_toArray, List.set_cons_zero, List.set_cons_succ]
  refine held_take (i := 4) (v := ?_) (some 12) rfl rfl (by kernel_rfl) (by kernel_rfl) (by kernel_rfl) (fun _ _ _ h => h) (Or.inl ⟨by rfl, ?_⟩) hHeld ?_
  rotate_left
  · intro w hSw
    try dsimp only at hSw
    go_simp
    try with_reducible rfl
  simp only [Act.put, List.setIfInBounds_toArray, List.set_cons_zero, List.set_cons_succ]
  refine wpAnyH_ready (rs := [2]) (by kernel_rfl) (by simp) ?_
  refine AllReadyH.cons rfl (fun K hK => ?_) AllReadyH.nil
  go_simp
  ((with_reducible refine (HF.out gc _).mono ?_); rintro e w5 ⟨rfl, rfl⟩; dsimp only)
  replace hHeld := hHeld
  refine hK.out _ _ hHeld (fun _ => ?_)
  clear hK K
  refine wpAnyH_ready (rs := [5]) (by kernel_rfl) (by simp) ?_
  refine AllReadyH.cons rfl (fun K hK => ?_) AllReadyH.nil
  go_simp
  (refine HIN.out.mono ?_; intro e w6 hr)
  obtain ⟨⟨u, rfl⟩, hr2⟩ := HR.out _ _ hr
  have HRR := Lib.hid hr
  clear hr
  dsimp only
  replace hHeld := hr2
  refine hK.out _ _ hHeld (fun _ => ?_)
  clear hK K
  refine held_take (i := 6) (v := ?_) (some 7) rfl rfl (by kernel_rfl) (by kernel_rfl) (by kernel_rfl) (fun _ _ _ h => h) (Or.inl ⟨by rfl, ?_⟩) hHeld ?_
  rotate_left
  · intro w hSw
    try dsimp only at hSw
    go_simp
    try with_reducible rfl
  simp only [Act.put, List.setIfInBounds_toArray, List.set_cons_zero, List.set_cons_succ]
  refine wpAnyH_done (by kernel_rfl) ?_ _
  clear hHeld
  go_wp2
  exact HRR.out
set_option maxRecDepth 100000 in
set_option maxHeartbeats 8000000 in
theorem rdc3_any {R : Ending → World → Prop} (F : FuncId) (gc bf ba off : Nat) (al : Bool) (v : Value) (p : ByteArray) (w : World) (hF : ∀ (b : Nat) (w : World), Calls Tryz.prog F #[.pointer (some ⟨b, 0, none⟩)] w fun e w' => e = .returned (.pointer (some ⟨b, off, none⟩)) ∧ w = w') (hE : ∀ (args : Array Value) (w : World), (callFunc F args).run Tryz.prog w = .ok (.enter F args) w)
    (hf : w.cell? ⟨bf, 0, none⟩ = some (.func (.func F) #[] #[])) (ha : w.cell? ⟨ba, 0, none⟩ = some (.bool al)) (hin : Calls Tryz.prog 91 #[.pointer (some ⟨gc, off, none⟩), .agg #[v], .string p, .bool al] (w.alloc (.cells #[v] 140)).drew R)
    (hR : ∀ e w', R e w' → (∃ u, e = .returned u) ∧ w'.cell? ⟨bf, 0, none⟩ = some (.func (.func F) #[] #[]) ∧ w'.cell? ⟨w.heap.size, 0, none⟩ = some v ∧ w'.cell? ⟨ba, 0, none⟩ = some (.bool al)) :
    Calls Tryz.prog 90 #[.pointer (some ⟨gc, 0, none⟩), .agg #[v], .string p, .pointer (some ⟨bf, 0, none⟩), .pointer (some ⟨ba, 0, none⟩)] w R := by
  have hx := ref_box w v
  have c1 := cell_keep hf hx
  have c2 : (w.alloc (.cells #[v] 140)).cell? ⟨w.heap.size, 0, none⟩ = some v := (Blk.new w 140 #[v]).cell 0
  have c3 := cell_keep ha hx
  have HF := Lib.hid hF
  have HIN := Lib.hid hin
  have HR := Lib.hid hR
  clear hF hin hR hf hx ha
  go_enter Tryz.func90, Tryz.ntmps90
  go_upto_region 1 with fail
  generalize (w.alloc (.cells #[v] 140)) = W at *
  refine wp_region_held_drew (S := (fun w' => w'.cell? ⟨bf, 0, none⟩ = some (.func (.func F) #[] #[]) ∧ w'.cell? ⟨w.heap.size, 0, none⟩ = some v ∧ w'.cell? ⟨ba, 0, none⟩ = some (.bool al))) (by kernel_rfl) ⟨c1, c2, c3⟩ (fun hHeld => ?_)
  refine held_take (i := 0) (v := ?_) (some 9) rfl rfl (by kernel_rfl) (by kernel_rfl) (by kernel_rfl) (fun _ _ _ h => h) (Or.inl ⟨by rfl, ?_⟩) hHeld ?_
  rotate_left
  · intro w hSw
    try dsimp only at hSw
    go_simp
    try with_reducible rfl
  simp only [Act.put, List.setIfInBounds_toArray, List.set_cons_zero, List.set_cons_succ]
  refine held_take (i := 1) (v := ?_) (some 10) rfl rfl (by kernel_rfl) (by kernel_rfl) (by kernel_rfl) (fun _ _ _ h => h) (Or.inl ⟨by rfl, ?_⟩) hHeld ?_
  rotate_left
  · intro w hSw
    try dsimp only at hSw
    go_simp
    try with_reducible rfl
  simp only [Act.put, List.setIfInBounds_toArray, List.set_cons_zero, List.set_cons_succ]
  refine held_take (i := 3) (v := ?_) (some 12) rfl rfl (by kernel_rfl) (by kernel_rfl) (by kernel_rfl) (fun _ _ _ h => h) (Or.inl ⟨by rfl, ?_⟩) hHeld ?_
  rotate_left
  · intro w hSw
    try dsimp only at hSw
    go_simp
    try with_reducible rfl
  simp only [Act.put, List.setIfInBounds_toArray, List.set_cons_zero, List.set_cons_succ]
  refine held_take (i := 4) (v := ?_) (some 13) rfl rfl (by kernel_rfl) (by kernel_rfl) (by kernel_rfl) (fun _ _ _ h => h) (Or.inl ⟨by rfl, ?_⟩) hHeld ?_
  rotate_left
  · intro w hSw
    try dsimp only at hSw
    go_simp
    try with_reducible rfl
  simp only [Act.put, List.setIfInBounds_toArray, List.set_cons_zero, List.set_cons_succ]
  refine held_take (i := 5) (v := ?_) (some 14) rfl rfl (by kernel_rfl) (by kernel_rfl) (by kernel_rfl) (fun _ _ _ h => h) (Or.inl ⟨by rfl, ?_⟩) hHeld ?_
  rotate_left
  · intro w hSw
    try dsimp only at hSw
    go_simp
    try with_reducible rfl
  simp only [Act.put, List.setIfInBounds_toArray, List.set_cons_zero, List.set_cons_succ]
  refine wpAnyH_ready (rs := [2]) (by kernel_rfl) (by simp) ?_
  refine AllReadyH.cons rfl (fun K hK => ?_) AllReadyH.nil
  go_simp
  ((with_reducible refine (HF.out gc _).mono ?_); rintro e w5 ⟨rfl, rfl⟩; dsimp only)
  replace hHeld := hHeld
  refine hK.out _ _ hHeld (fun _ => ?_)
  clear hK K
  refine wpAnyH_ready (rs := [6]) (by kernel_rfl) (by simp) ?_
  refine AllReadyH.cons rfl (fun K hK => ?_) AllReadyH.nil
  go_simp
  (refine HIN.out.mono ?_; intro e w6 hr)
  obtain ⟨⟨u, rfl⟩, hr2⟩ := HR.out _ _ hr
  have HRR := Lib.hid hr
  clear hr
  dsimp only
  replace hHeld := hr2
  refine hK.out _ _ hHeld (fun _ => ?_)
  clear hK K
  refine held_take (i := 7) (v := ?_) (some 8) rfl rfl (by kernel_rfl) (by kernel_rfl) (by kernel_rfl) (fun _ _ _ h => h) (Or.inl ⟨by rfl, ?_⟩) hHeld ?_
  rotate_left
  · intro w hSw
    try dsimp only at hSw
    go_simp
    try with_reducible rfl
  simp only [Act.put, List.setIfInBounds_toArray, List.set_cons_zero, List.set_cons_succ]
  refine wpAnyH_done (by kernel_rfl) ?_ _
  clear hHeld
  go_wp2
  exact HRR.out
end Nd
end Go.Proofs.YtbcckpnngonoeaaGreatDoor

