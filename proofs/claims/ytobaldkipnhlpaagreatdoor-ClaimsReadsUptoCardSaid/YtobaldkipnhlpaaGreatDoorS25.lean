/-
  The closures that read a claim.
-/
import Derived.Test.YtobaldkipnhlpaaGreatDoorS24
import Derived.Deep.RegionHeldLaw
set_option linter.unusedVariables false
set_option linter.unusedSimpArgs false
set_option maxRecDepth 100000
set_option maxHeartbeats 16000000
namespace Go.Proofs.YtobaldkipnhlpaaGreatDoor
open Go.RowKit Mem Utf Ref3 Idx Tok TokC Cl
namespace Nd
theorem rdc1_any {R : Ending → World → Prop} (F : FuncId) (gc bf off : Nat) (v : Value) (p : ByteArray) (w : World) (hF : ∀ (b : Nat) (w : World), Calls Tryz.prog F #[.pointer (some ⟨b, 0, none⟩)] w fun e w' => e = .returned (.pointer (some ⟨b, off, none⟩)) ∧ w = w') (hE : ∀ (args : Array Value) (w : World), (callFunc F args).run Tryz.prog w = .ok (.enter F args) w)
  (hf : w.cell? ⟨bf, 0, none⟩ = some (.func (.func F) #[] #[])) (hin : Calls Tryz.prog 50 #[.pointer (some ⟨gc, off, none⟩), .agg #[v], .string p] (w.alloc (.cells #[v] 93)).drew R)
  (hR : ∀ e w', R e w' → (∃ u, e = .returned u) ∧ w'.cell? ⟨bf, 0, none⟩ = some (.func (.func F) #[] #[]) ∧ w'.cell? ⟨w.heap.size, 0, none⟩ = some v) :
  Calls Tryz.prog 49 #[.pointer (some ⟨gc, 0, none⟩), .agg #[v], .string p, .pointer (some ⟨bf, 0, none⟩)] w R := by
 have hx := ref_box w v
 have c1 := cell_keep hf hx
 have c2 : (w.alloc (.cells #[v] 93)).cell? ⟨w.heap.size, 0, none⟩ = some v := (Blk.new w 93 #[v]).cell 0

 have HF := Lib.hid hF
 have HIN := Lib.hid hin
 have HR := Lib.hid hR
 clear hF hin hR hf hx
 go_enter Tryz.func49, Tryz.ntmps49
 go_upto_region 1 with fail
 generalize (w.alloc (.cells #[v] 93)) = W at *
 refine wp_region_held_drew (S := (fun w' => w'.cell? ⟨bf, 0, none⟩ = some (.func (.func F) #[] #[]) ∧ w'.cell? ⟨w.heap.size, 0, none⟩ = some v)) (by kernel_rfl) ⟨c1, c2⟩ (fun hHeld => ?_)
 refine held_take (i := 0) (v := ?_) (some 8) rfl rfl (by kernel_rfl) (by kernel_rfl) (by kernel_rfl) (fun _ _ _ h => h) (Or.inl ⟨by rfl, ?_⟩) hHeld ?_
 rotate_left
 ·intro w hSw
  try dsimp only at hSw
  go_simp
  try with_reducible rfl
 simp only [Act.put, List.setIfInBounds_toArray, List.set_cons_zero, List.set_cons_succ]
 refine held_take (i := 1) (v := ?_) (some 9) rfl rfl (by kernel_rfl) (by kernel_rfl) (by kernel_rfl) (fun _ _ _ h => h) (Or.inl ⟨by rfl, ?_⟩) hHeld ?_
 rotate_left
 ·intro w hSw
  try dsimp only at hSw
  go_simp
  try with_reducible rfl
 simp only [Act.put, List.setIfInBounds_toArray, List.set_cons_zero, List.set_cons_succ]
 refine held_take (i := 3) (v := ?_) (some 11) rfl rfl (by kernel_rfl) (by kernel_rfl) (by kernel_rfl) (fun _ _ _ h => h) (Or.inl ⟨by rfl, ?_⟩) hHeld ?_
 rotate_left
 ·intro w hSw
  try dsimp only at hSw
  go_simp
  try with_reducible rfl
 simp only [Act.put, List.setIfInBounds_toArray, List.set_cons_zero, List.set_cons_succ]
 refine held_take (i := 4) (v := ?_) (some 12) rfl rfl (by kernel_rfl) (by kernel_rfl) (by kernel_rfl) (fun _ _ _ h => h) (Or.inl ⟨by rfl, ?_⟩) hHeld ?_
 rotate_left
 ·intro w hSw
  try dsimp only at hSw
  go_simp
  try with_reducible rfl
 simp only [Act.put, List.setIfInBounds_toArray, List.set_cons_zero, List.set_cons_succ]
 refine wpAnyH_ready (rs := [2]) (by kernel_rfl) (by simp) ?_
 refine AllReadyH.cons rfl (fun K hK => ?_) AllReadyH.nil
 go_simp
 ((with_reducible refine (HF.out gc _).mono ?_); rintro e w5 ⟨rfl, rfl⟩; dsimp only)
 replace hHeld := hHeld
 refine hK.out _ _ hHeld (fun _ => ?_)
 clear hK K
 refine wpAnyH_ready (rs := [5]) (by kernel_rfl) (by simp) ?_
 refine AllReadyH.cons rfl (fun K hK => ?_) AllReadyH.nil
 go_simp
 (refine HIN.out.mono ?_; intro e w6 hr)
 obtain ⟨⟨u, rfl⟩, hr2⟩ := HR.out _ _ hr
 have HRR := Lib.hid hr
 clear hr
 dsimp only
 replace hHeld := hr2
 refine hK.out _ _ hHeld (fun _ => ?_)
 clear hK K
 refine held_take (i := 6) (v := ?_) (some 7) rfl rfl (by kernel_rfl) (by kernel_rfl) (by kernel_rfl) (fun _ _ _ h => h) (Or.inl ⟨by rfl, ?_⟩) hHeld ?_
 rotate_left
 ·intro w hSw
  try dsimp only at hSw
  go_simp
  try with_reducible rfl
 simp only [Act.put, List.setIfInBounds_toArray, List.set_cons_zero, List.set_cons_succ]
 refine wpAnyH_done (by kernel_rfl) ?_ _
 clear hHeld
 go_wp2
 exact HRR.out
theorem rdc2_any {R : Ending → World → Prop} (F : FuncId) (gc bf off : Nat) (v : Value) (p : ByteArray) (w : World) (hF : ∀ (b : Nat) (w : World), Calls Tryz.prog F #[.pointer (some ⟨b, 0, none⟩)] w fun e w' => e = .returned (.pointer (some ⟨b, off, none⟩)) ∧ w = w') (hE : ∀ (args : Array Value) (w : World), (callFunc F args).run Tryz.prog w = .ok (.enter F args) w)
  (hf : w.cell? ⟨bf, 0, none⟩ = some (.func (.func F) #[] #[])) (hin : Calls Tryz.prog 53 #[.pointer (some ⟨gc, off, none⟩), .agg #[v], .string p] (w.alloc (.cells #[v] 93)).drew R)
  (hR : ∀ e w', R e w' → (∃ u, e = .returned u) ∧ w'.cell? ⟨bf, 0, none⟩ = some (.func (.func F) #[] #[]) ∧ w'.cell? ⟨w.heap.size, 0, none⟩ = some v) :
  Calls Tryz.prog 52 #[.pointer (some ⟨gc, 0, none⟩), .agg #[v], .string p, .pointer (some ⟨bf, 0, none⟩)] w R := by
 have hx := ref_box w v
 have c1 := cell_keep hf hx
 have c2 : (w.alloc (.cells #[v] 93)).cell? ⟨w.heap.size, 0, none⟩ = some v := (Blk.new w 93 #[v]).cell 0

 have HF := Lib.hid hF
 have HIN := Lib.hid hin
 have HR := Lib.hid hR
 clear hF hin hR hf hx
 go_enter Tryz.func52, Tryz.ntmps52
 go_upto_region 1 with fail
 generalize (w.alloc (.cells #[v] 93)) = W at *
 refine wp_region_held_drew (S := (fun w' => w'.cell? ⟨bf, 0, none⟩ = some (.func (.func F) #[] #[]) ∧ w'.cell? ⟨w.heap.size, 0, none⟩ = some v)) (by kernel_rfl) ⟨c1, c2⟩ (fun hHeld => ?_)
 refine held_take (i := 0) (v := ?_) (some 8) rfl rfl (by kernel_rfl) (by kernel_rfl) (by kernel_rfl) (fun _ _ _ h => h) (Or.inl ⟨by rfl, ?_⟩) hHeld ?_
 rotate_left
 ·intro w hSw
  try dsimp only at hSw
  go_simp
  try with_reducible rfl
 simp only [Act.put, List.setIfInBounds_toArray, List.set_cons_zero, List.set_cons_succ]
 refine held_take (i := 1) (v := ?_) (some 9) rfl rfl (by kernel_rfl) (by kernel_rfl) (by kernel_rfl) (fun _ _ _ h => h) (Or.inl ⟨by rfl, ?_⟩) hHeld ?_
 rotate_left
 ·intro w hSw
  try dsimp only at hSw
  go_simp
  try with_reducible rfl
 simp only [Act.put, List.setIfInBounds_toArray, List.set_cons_zero, List.set_cons_succ]
 refine held_take (i := 3) (v := ?_) (some 11) rfl rfl (by kernel_rfl) (by kernel_rfl) (by kernel_rfl) (fun _ _ _ h => h) (Or.inl ⟨by rfl, ?_⟩) hHeld ?_
 rotate_left
 ·intro w hSw
  try dsimp only at hSw
  go_simp
  try with_reducible rfl
 simp only [Act.put, List.setIfInBounds_toArray, List.set_cons_zero, List.set_cons_succ]
 refine held_take (i := 4) (v := ?_) (some 12) rfl rfl (by kernel_rfl) (by kernel_rfl) (by kernel_rfl) (fun _ _ _ h => h) (Or.inl ⟨by rfl, ?_⟩) hHeld ?_
 rotate_left
 ·intro w hSw
  try dsimp only at hSw
  go_simp
  try with_reducible rfl
 simp only [Act.put, List.setIfInBounds_toArray, List.set_cons_zero, List.set_cons_succ]
 refine wpAnyH_ready (rs := [2]) (by kernel_rfl) (by simp) ?_
 refine AllReadyH.cons rfl (fun K hK => ?_) AllReadyH.nil
 go_simp
 ((with_reducible refine (HF.out gc _).mono ?_); rintro e w5 ⟨rfl, rfl⟩; dsimp only)
 replace hHeld := hHeld
 refine hK.out _ _ hHeld (fun _ => ?_)
 clear hK K
 refine wpAnyH_ready (rs := [5]) (by kernel_rfl) (by simp) ?_
 refine AllReadyH.cons rfl (fun K hK => ?_) AllReadyH.nil
 go_simp
 (refine HIN.out.mono ?_; intro e w6 hr)
 obtain ⟨⟨u, rfl⟩, hr2⟩ := HR.out _ _ hr
 have HRR := Lib.hid hr
 clear hr
 dsimp only
 replace hHeld := hr2
 refine hK.out _ _ hHeld (fun _ => ?_)
 clear hK K
 refine held_take (i := 6) (v := ?_) (some 7) rfl rfl (by kernel_rfl) (by kernel_rfl) (by kernel_rfl) (fun _ _ _ h => h) (Or.inl ⟨by rfl, ?_⟩) hHeld ?_
 rotate_left
 ·intro w hSw
  try dsimp only at hSw
  go_simp
  try with_reducible rfl
 simp only [Act.put, List.setIfInBounds_toArray, List.set_cons_zero, List.set_cons_succ]
 refine wpAnyH_done (by kernel_rfl) ?_ _
 clear hHeld
 go_wp2
 exact HRR.out
theorem rdc3_any {R : Ending → World → Prop} (F : FuncId) (gc bf ba off : Nat) (al : Bool) (v : Value) (p : ByteArray) (w : World) (hF : ∀ (b : Nat) (w : World), Calls Tryz.prog F #[.pointer (some ⟨b, 0, none⟩)] w fun e w' => e = .returned (.pointer (some ⟨b, off, none⟩)) ∧ w = w') (hE : ∀ (args : Array Value) (w : World), (callFunc F args).run Tryz.prog w = .ok (.enter F args) w)
  (hf : w.cell? ⟨bf, 0, none⟩ = some (.func (.func F) #[] #[])) (ha : w.cell? ⟨ba, 0, none⟩ = some (.bool al)) (hin : Calls Tryz.prog 56 #[.pointer (some ⟨gc, off, none⟩), .agg #[v], .string p, .bool al] (w.alloc (.cells #[v] 93)).drew R)
  (hR : ∀ e w', R e w' → (∃ u, e = .returned u) ∧ w'.cell? ⟨bf, 0, none⟩ = some (.func (.func F) #[] #[]) ∧ w'.cell? ⟨w.heap.size, 0, none⟩ = some v ∧ w'.cell? ⟨ba, 0, none⟩ = some (.bool al)) :
  Calls Tryz.prog 55 #[.pointer (some ⟨gc, 0, none⟩), .agg #[v], .string p, .pointer (some ⟨bf, 0, none⟩), .pointer (some ⟨ba, 0, none⟩)] w R := by
 have hx := ref_box w v
 have c1 := cell_keep hf hx
 have c2 : (w.alloc (.cells #[v] 93)).cell? ⟨w.heap.size, 0, none⟩ = some v := (Blk.new w 93 #[v]).cell 0
 have c3 := cell_keep ha hx
 have HF := Lib.hid hF
 have HIN := Lib.hid hin
 have HR := Lib.hid hR
 clear hF hin hR hf hx ha
 go_enter Tryz.func55, Tryz.ntmps55
 go_upto_region 1 with fail
 generalize (w.alloc (.cells #[v] 93)) = W at *
 refine wp_region_held_drew (S := (fun w' => w'.cell? ⟨bf, 0, none⟩ = some (.func (.func F) #[] #[]) ∧ w'.cell? ⟨w.heap.size, 0, none⟩ = some v ∧ w'.cell? ⟨ba, 0, none⟩ = some (.bool al))) (by kernel_rfl) ⟨c1, c2, c3⟩ (fun hHeld => ?_)
 refine held_take (i := 0) (v := ?_) (some 9) rfl rfl (by kernel_rfl) (by kernel_rfl) (by kernel_rfl) (fun _ _ _ h => h) (Or.inl ⟨by rfl, ?_⟩) hHeld ?_
 rotate_left
 ·intro w hSw
  try dsimp only at hSw
  go_simp
  try with_reducible rfl
 simp only [Act.put, List.setIfInBounds_toArray, List.set_cons_zero, List.set_cons_succ]
 refine held_take (i := 1) (v := ?_) (some 10) rfl rfl (by kernel_rfl) (by kernel_rfl) (by kernel_rfl) (fun _ _ _ h => h) (Or.inl ⟨by rfl, ?_⟩) hHeld ?_
 rotate_left
 ·intro w hSw
  try dsimp only at hSw
  go_simp
  try with_reducible rfl
 simp only [Act.put, List.setIfInBounds_toArray, List.set_cons_zero, List.set_cons_succ]
 refine held_take (i := 3) (v := ?_) (some 12) rfl rfl (by kernel_rfl) (by kernel_rfl) (by kernel_rfl) (fun _ _ _ h => h) (Or.inl ⟨by rfl, ?_⟩) hHeld ?_
 rotate_left
 ·intro w hSw
  try dsimp only at hSw
  go_simp
  try with_reducible rfl
 simp only [Act.put, List.setIfInBounds_toArray, List.set_cons_zero, List.set_cons_succ]
 refine held_take (i := 4) (v := ?_) (some 13) rfl rfl (by kernel_rfl) (by kernel_rfl) (by kernel_rfl) (fun _ _ _ h => h) (Or.inl ⟨by rfl, ?_⟩) hHeld ?_
 rotate_left
 ·intro w hSw
  try dsimp only at hSw
  go_simp
  try with_reducible rfl
 simp only [Act.put, List.setIfInBounds_toArray, List.set_cons_zero, List.set_cons_succ]
 refine held_take (i := 5) (v := ?_) (some 14) rfl rfl (by kernel_rfl) (by kernel_rfl) (by kernel_rfl) (fun _ _ _ h => h) (Or.inl ⟨by rfl, ?_⟩) hHeld ?_
 rotate_left
 ·intro w hSw
  try dsimp only at hSw
  go_simp
  try with_reducible rfl
 simp only [Act.put, List.setIfInBounds_toArray, List.set_cons_zero, List.set_cons_succ]
 refine wpAnyH_ready (rs := [2]) (by kernel_rfl) (by simp) ?_
 refine AllReadyH.cons rfl (fun K hK => ?_) AllReadyH.nil
 go_simp
 ((with_reducible refine (HF.out gc _).mono ?_); rintro e w5 ⟨rfl, rfl⟩; dsimp only)
 replace hHeld := hHeld
 refine hK.out _ _ hHeld (fun _ => ?_)
 clear hK K
 refine wpAnyH_ready (rs := [6]) (by kernel_rfl) (by simp) ?_
 refine AllReadyH.cons rfl (fun K hK => ?_) AllReadyH.nil
 go_simp
 (refine HIN.out.mono ?_; intro e w6 hr)
 obtain ⟨⟨u, rfl⟩, hr2⟩ := HR.out _ _ hr
 have HRR := Lib.hid hr
 clear hr
 dsimp only
 replace hHeld := hr2
 refine hK.out _ _ hHeld (fun _ => ?_)
 clear hK K
 refine held_take (i := 7) (v := ?_) (some 8) rfl rfl (by kernel_rfl) (by kernel_rfl) (by kernel_rfl) (fun _ _ _ h => h) (Or.inl ⟨by rfl, ?_⟩) hHeld ?_
 rotate_left
 ·intro w hSw
  try dsimp only at hSw
  go_simp
  try with_reducible rfl
 simp only [Act.put, List.setIfInBounds_toArray, List.set_cons_zero, List.set_cons_succ]
 refine wpAnyH_done (by kernel_rfl) ?_ _
 clear hHeld
 go_wp2
 exact HRR.out
end Nd
end Go.Proofs.YtobaldkipnhlpaaGreatDoor
