/-
  The table of claims, and how each one is read.
-/
import Derived.Test.YtbcckpnngonoeaaGreatDoorCvC
import Derived.Test.YtbcckpnngonoeaaGreatDoorCrT
import Derived.Laws.EntriesVeiled
namespace Go.Proofs.YtbcckpnngonoeaaGreatDoor
open Go.RowKit Mem Utf Ref3 Idx Tok TokC Cl
set_option linter.unusedVariables false
set_option linter.unusedSimpArgs false
namespace Nd
/-- how a claim is read: the closure, and what it captured -/
def RdAt (w : World) (k : Nat) (x : FuncId × Array Value) : Prop :=
  ((k = 0 ∨ k = 2 ∨ k = 5) ∧ ∃ bf, x = (84, #[.pointer (some ⟨bf, 0, none⟩)]) ∧ w.cell? ⟨bf, 0, none⟩ = some (fnV k)) ∨
  ((k = 1 ∨ k = 4 ∨ k = 7) ∧ ∃ bf, x = (87, #[.pointer (some ⟨bf, 0, none⟩)]) ∧ w.cell? ⟨bf, 0, none⟩ = some (fnV k)) ∨
  ((k = 3 ∨ k = 6) ∧ ∃ bf ba, x = (90, #[.pointer (some ⟨bf, 0, none⟩), .pointer (some ⟨ba, 0, none⟩)]) ∧ w.cell? ⟨bf, 0, none⟩ = some (fnV k) ∧ w.cell? ⟨ba, 0, none⟩ = some (.bool (decide (k = 3))))
theorem cell_keep {w w' : World} {b o : Nat} {x : Value} (h : w.cell? ⟨b, o, none⟩ = some x) (hb : Below w.heap.size w w') : w'.cell? ⟨b, o, none⟩ = some x := ((old hb).1 _ _ (World.block_lt_of_cell? _ _ h)).trans h
theorem RdAt.below {w w' : World} {k : Nat} {x : FuncId × Array Value} (h : RdAt w k x) (hb : Below w.heap.size w w') : RdAt w' k x := by
  rcases h with ⟨h1, bf, h2, h3⟩ | ⟨h1, bf, h2, h3⟩ | ⟨h1, bf, ba, h2, h3, h4⟩
  · exact .inl ⟨h1, bf, h2, cell_keep h3 hb⟩
  · exact .inr (.inl ⟨h1, bf, h2, cell_keep h3 hb⟩)
  · exact .inr (.inr ⟨h1, bf, ba, h2, cell_keep h3 hb, cell_keep h4 hb⟩)
theorem rowx1_any (k : ByteArray) (j : FuncId) (w : World) :
    Calls Tryz.prog 83 #[.string k, .func (.func j) #[] #[]] w fun e w' => (∃ bf, e = .returned (.agg #[.string k, .func (.func 84) #[] #[.pointer (some ⟨bf, 0, none⟩)], .func (.func j) #[] #[], .nilFunc, .nilFunc]) ∧ w'.cell? ⟨bf, 0, none⟩ = some (.func (.func j) #[] #[])) ∧ Below w.heap.size w w' := by
  have hmf : ∀ (fn : Fn) (first cap : Array Value) (w : World), (Instr.makeFunc fn first cap).run Tryz.prog w = .ok (.func fn first cap) w := fun _ _ _ _ => rfl
  go_enter Tryz.func83, Tryz.ntmps83
  go_wp2
  refine bodyPost_ret (v := .agg #[.string k, .func (.func 84) #[] #[.pointer (some ⟨w.heap.size, 0, none⟩)], .func (.func j) #[] #[], .nilFunc, .nilFunc]) (by simp [results, Tryz.results83, go_sem]) rfl ⟨⟨_, rfl, ?_⟩, ?_⟩
  · exact ((Blk.new w _ _).alloc _).cell 0
  · exact ((Below.refl _ _).alloc (Nat.le_refl _) _).alloc (by simp) _
theorem rowx2_any (k : ByteArray) (j : FuncId) (w : World) :
    Calls Tryz.prog 86 #[.string k, .func (.func j) #[] #[]] w fun e w' => (∃ bf, e = .returned (.agg #[.string k, .func (.func 87) #[] #[.pointer (some ⟨bf, 0, none⟩)], .nilFunc, .func (.func j) #[] #[], .nilFunc]) ∧ w'.cell? ⟨bf, 0, none⟩ = some (.func (.func j) #[] #[])) ∧ Below w.heap.size w w' := by
  have hmf : ∀ (fn : Fn) (first cap : Array Value) (w : World), (Instr.makeFunc fn first cap).run Tryz.prog w = .ok (.func fn first cap) w := fun _ _ _ _ => rfl
  go_enter Tryz.func86, Tryz.ntmps86
  go_wp2
  refine bodyPost_ret (v := .agg #[.string k, .func (.func 87) #[] #[.pointer (some ⟨w.heap.size, 0, none⟩)], .nilFunc, .func (.func j) #[] #[], .nilFunc]) (by simp [results, Tryz.results86, go_sem]) rfl ⟨⟨_, rfl, ?_⟩, ?_⟩
  · exact ((Blk.new w _ _).alloc _).cell 0
  · exact ((Below.refl _ _).alloc (Nat.le_refl _) _).alloc (by simp) _
theorem rowx3_any (k : ByteArray) (b : Bool) (j : FuncId) (w : World) :
    Calls Tryz.prog 89 #[.string k, .bool b, .func (.func j) #[] #[]] w fun e w' => (∃ bf ba, e = .returned (.agg #[.string k, .func (.func 90) #[] #[.pointer (some ⟨bf, 0, none⟩), .pointer (some ⟨ba, 0, none⟩)], .nilFunc, .nilFunc, .func (.func j) #[] #[]]) ∧ w'.cell? ⟨bf, 0, none⟩ = some (.func (.func j) #[] #[]) ∧ w'.cell? ⟨ba, 0, none⟩ = some (.bool b)) ∧ Below w.heap.size w w' := by
  have hmf : ∀ (fn : Fn) (first cap : Array Value) (w : World), (Instr.makeFunc fn first cap).run Tryz.prog w = .ok (.func fn first cap) w := fun _ _ _ _ => rfl
  go_enter Tryz.func89, Tryz.ntmps89
  go_wp2
  refine bodyPost_ret (v := .agg #[.string k, .func (.func 90) #[] #[.pointer (some ⟨w.heap.size + 1, 0, none⟩), .pointer (some ⟨w.heap.size, 0, none⟩)], .nilFunc, .nilFunc, .func (.func j) #[] #[]]) (by simp [results, Tryz.results89, go_sem]) rfl ⟨⟨_, _, rfl, ?_, ?_⟩, ?_⟩
  · have h := (Blk.new (w.alloc (.cells #[.bool b] 4)) 151 #[.func (.func j) #[] #[]])
    rw [World.size_alloc] at h
    exact (h.alloc _).cell 0
  · exact (((Blk.new w _ _).alloc _).alloc _).cell 0
  · exact (((Below.refl _ _).alloc (Nat.le_refl _) _).alloc (by simp) _).alloc (by simp; omega) _
set_option maxRecDepth 100000 in
set_option maxHeartbeats 8000000 in
theorem rowsx_any (w : World) : Calls Tryz.prog 45 #[] w fun e w' => ∃ g rd, e = .returned (.slice (some ⟨g, 0, none⟩) 8 8) ∧ Blk w' g 153 (rowCells rd) ∧ (∀ k, k < 8 → RdAt w' k (rd k)) ∧ w.heap.size ≤ g ∧ Below w.heap.size w w' := by
  have hbw : Below w.heap.size w w := Below.refl _ _
  go_enter Tryz.func45, Tryz.ntmps45
  go_wp2_with fail
  refine (rowx1_any ⟨#[97, 98, 111, 117, 116]⟩ 92 _).mono ?_
  rintro e w0 ⟨⟨bf0, rfl, hc0⟩, hb⟩
  replace hbw := below_chain hbw hbw.size hb
  have HR0 : Hid (RdAt w0 0 (84, #[.pointer (some ⟨bf0, 0, none⟩)])) := Lib.hid (.inl ⟨by decide, bf0, rfl, hc0⟩)
  clear hb hc0
  go_wp2_with fail
  refine (rowx2_any ⟨#[97, 116]⟩ 93 _).mono ?_
  rintro e w1 ⟨⟨bf1, rfl, hc1⟩, hb⟩
  replace hbw := below_chain hbw hbw.size hb
  have HR0 := Lib.hid (HR0.out.below hb)
  have HR1 : Hid (RdAt w1 1 (87, #[.pointer (some ⟨bf1, 0, none⟩)])) := Lib.hid (.inr (.inl ⟨by decide, bf1, rfl, hc1⟩))
  clear hb hc1
  go_wp2_with fail
  refine (rowx1_any ⟨#[98, 121]⟩ 94 _).mono ?_
  rintro e w2 ⟨⟨bf2, rfl, hc2⟩, hb⟩
  replace hbw := below_chain hbw hbw.size hb
  have HR0 := Lib.hid (HR0.out.below hb)
  have HR1 := Lib.hid (HR1.out.below hb)
  have HR2 : Hid (RdAt w2 2 (84, #[.pointer (some ⟨bf2, 0, none⟩)])) := Lib.hid (.inl ⟨by decide, bf2, rfl, hc2⟩)
  clear hb hc2
  go_wp2_with fail
  refine (rowx3_any ⟨#[102, 111, 114]⟩ true 95 _).mono ?_
  rintro e w3 ⟨⟨bf3, ba3, rfl, hc3, hd3⟩, hb⟩
  replace hbw := below_chain hbw hbw.size hb
  have HR0 := Lib.hid (HR0.out.below hb)
  have HR1 := Lib.hid (HR1.out.below hb)
  have HR2 := Lib.hid (HR2.out.below hb)
  have HR3 : Hid (RdAt w3 3 (90, #[.pointer (some ⟨bf3, 0, none⟩), .pointer (some ⟨ba3, 0, none⟩)])) := Lib.hid (.inr (.inr ⟨by decide, bf3, ba3, rfl, hc3, hd3⟩))
  clear hb hc3 hd3
  go_wp2_with fail
  refine (rowx2_any ⟨#[102, 114, 111, 109]⟩ 96 _).mono ?_
  rintro e w4 ⟨⟨bf4, rfl, hc4⟩, hb⟩
  replace hbw := below_chain hbw hbw.size hb
  have HR0 := Lib.hid (HR0.out.below hb)
  have HR1 := Lib.hid (HR1.out.below hb)
  have HR2 := Lib.hid (HR2.out.below hb)
  have HR3 := Lib.hid (HR3.out.below hb)
  have HR4 : Hid (RdAt w4 4 (87, #[.pointer (some ⟨bf4, 0, none⟩)])) := Lib.hid (.inr (.inl ⟨by decide, bf4, rfl, hc4⟩))
  clear hb hc4
  go_wp2_with fail
  refine (rowx1_any ⟨#[105, 100]⟩ 97 _).mono ?_
  rintro e w5 ⟨⟨bf5, rfl, hc5⟩, hb⟩
  replace hbw := below_chain hbw hbw.size hb
  have HR0 := Lib.hid (HR0.out.below hb)
  have HR1 := Lib.hid (HR1.out.below hb)
  have HR2 := Lib.hid (HR2.out.below hb)
  have HR3 := Lib.hid (HR3.out.below hb)
  have HR4 := Lib.hid (HR4.out.below hb)
  have HR5 : Hid (RdAt w5 5 (84, #[.pointer (some ⟨bf5, 0, none⟩)])) := Lib.hid (.inl ⟨by decide, bf5, rfl, hc5⟩)
  clear hb hc5
  go_wp2_with fail
  refine (rowx3_any ⟨#[109, 97, 121]⟩ false 98 _).mono ?_
  rintro e w6 ⟨⟨bf6, ba6, rfl, hc6, hd6⟩, hb⟩
  replace hbw := below_chain hbw hbw.size hb
  have HR0 := Lib.hid (HR0.out.below hb)
  have HR1 := Lib.hid (HR1.out.below hb)
  have HR2 := Lib.hid (HR2.out.below hb)
  have HR3 := Lib.hid (HR3.out.below hb)
  have HR4 := Lib.hid (HR4.out.below hb)
  have HR5 := Lib.hid (HR5.out.below hb)
  have HR6 : Hid (RdAt w6 6 (90, #[.pointer (some ⟨bf6, 0, none⟩), .pointer (some ⟨ba6, 0, none⟩)])) := Lib.hid (.inr (.inr ⟨by decide, bf6, ba6, rfl, hc6, hd6⟩))
  clear hb hc6 hd6
  go_wp2_with fail
  refine (rowx2_any ⟨#[117, 110, 116, 105, 108]⟩ 99 _).mono ?_
  rintro e w7 ⟨⟨bf7, rfl, hc7⟩, hb⟩
  replace hbw := below_chain hbw hbw.size hb
  have HR0 := Lib.hid (HR0.out.below hb)
  have HR1 := Lib.hid (HR1.out.below hb)
  have HR2 := Lib.hid (HR2.out.below hb)
  have HR3 := Lib.hid (HR3.out.below hb)
  have HR4 := Lib.hid (HR4.out.below hb)
  have HR5 := Lib.hid (HR5.out.below hb)
  have HR6 := Lib.hid (HR6.out.below hb)
  have HR7 : Hid (RdAt w7 7 (87, #[.pointer (some ⟨bf7, 0, none⟩)])) := Lib.hid (.inr (.inl ⟨by decide, bf7, rfl, hc7⟩))
  clear hb hc7
  have HBW := Lib.hid hbw
  clear hbw
  go_wp2
  go_ret
  refine ⟨_, fun k => match k with | 0 => (84, #[.pointer (some ⟨bf0, 0, none⟩)]) | 1 => (87, #[.pointer (some ⟨bf1, 0, none⟩)]) | 2 => (84, #[.pointer (some ⟨bf2, 0, none⟩)]) | 3 => (90, #[.pointer (some ⟨bf3, 0, none⟩), .pointer (some ⟨ba3, 0, none⟩)]) | 4 => (87, #[.pointer (some ⟨bf4, 0, none⟩)]) | 5 => (84, #[.pointer (some ⟨bf5, 0, none⟩)]) | 6 => (90, #[.pointer (some ⟨bf6, 0, none⟩), .pointer (some ⟨ba6, 0, none⟩)]) | _ => (87, #[.pointer (some ⟨bf7, 0, none⟩)]), rfl, Blk.new _ _ _, ?_, HBW.out.size, HBW.out.alloc HBW.out.size _⟩
  intro k hk
  have hbn : ∀ o, Below w7.heap.size w7 (w7.alloc o) := fun o => (Below.refl _ _).alloc (Nat.le_refl _) _
  rcases below8 hk with rfl | rfl | rfl | rfl | rfl | rfl | rfl | rfl
  · exact HR0.out.below (hbn _)
  · exact HR1.out.below (hbn _)
  · exact HR2.out.below (hbn _)
  · exact HR3.out.below (hbn _)
  · exact HR4.out.below (hbn _)
  · exact HR5.out.below (hbn _)
  · exact HR6.out.below (hbn _)
  · exact HR7.out.below (hbn _)
end Nd
end Go.Proofs.YtbcckpnngonoeaaGreatDoor

