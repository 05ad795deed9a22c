/-
  Told values: what assertions of them come to, in all forms.
  Walks of package ask: an assertion with two results, of each class of what is told.
  Walks of package ask: an assertion with one result, of each class of what is told.
  Walks of package ask: a type switch, of each class of what is told.
-/
import Derived.Test.YtmcmoaeheadihaaGreatDoorProg
import Derived.Test.YtmcmoaeheadihaaGreatDoorDn
import Derived.WalkKit
import Derived.Stop.Asserts
import Derived.WalkLawsBesides
import Derived.Lib.Hide
namespace Go.Proofs.YtmcmoaeheadihaaGreatDoor
open Go.RowKit Mem
set_option linter.unusedVariables false
namespace Nd
/-- does a want hold of a class of what is told? (0: nothing; 1 to 6: the sorts; 7, 8: a *Lost that is not nil, that is nil) -/
def holdB (k w : Nat) : Bool :=
  if k = 0 then false else
  if w = 1 then true else
  if w = 2 then decide (k ≤ 4) else
  if w = 3 then decide (k = 5 ∨ k = 6) else
  if w = 4 then decide (k = 6) else
  if w = 11 then decide (7 ≤ k) else decide (k + 4 = w)
theorem assert_elem (W : World) : (elemOf Tryz.prog.rt.typeAssertionError).run Tryz.prog W = .ok 499 W := by kernel_rfl
theorem assert_panic (i c : Option TypeId) (a : TypeId) (m : String) (W : World) : ∃ pv o, (runtimePanic (.typeAssertion i c a m) : Sem Value).run Tryz.prog W = .halt (.panic (.iface 15 pv)) (W.alloc o) := by
  have h := assert_elem W
  have hr : Tryz.prog.rt.typeAssertionError = 15 := by kernel_rfl
  rw [hr] at h
  unfold runtimePanic
  simp [newVar, goPanic, go_sem, h]
  exact ⟨_, rfl⟩
/-- what a panic of an assertion that does not hold leaves -/
def Dies (v : Value) (t : TypeId) : Prop := ∀ W, ∃ pv o, (Instr.typeAssert v 42 t false).run Tryz.prog W = .halt (.panic (.iface 15 pv)) (W.alloc o)
theorem dies_lacks {t a : TypeId} {want : Array (String × TypeId)} (hu : Tryz.prog.underlying a = some (.interface want)) (h : (Tryz.prog.info? t).map (fun i => (lacking want i.methods).isEmpty) = some false) (x : Value) : Dies (.iface t x) a := by
  intro W
  obtain ⟨i, hi, hl⟩ := Option.map_eq_some_iff.1 h
  obtain ⟨m, hm⟩ := missingMethod_some (want := want) (got := i.methods) (fun e => by rw [e] at hl; cases hl)
  have e : (Instr.typeAssert (.iface t x) 42 a false).run Tryz.prog W = (runtimePanic (.typeAssertion none (some t) a m) : Sem Value).run Tryz.prog W := by
    simp [Instr.typeAssert, run_underlying hu, typeInfo, hi, hm]
  rw [e]
  exact assert_panic _ _ _ _ W
theorem dies_of {v : Value} {t : TypeId} {i c : Option TypeId} {m : String} (h : ∀ W, (Instr.typeAssert v 42 t false).run Tryz.prog W = (runtimePanic (.typeAssertion i c t m) : Sem Value).run Tryz.prog W) : Dies v t := fun W => by
  rw [h W]
  exact assert_panic _ _ _ _ W
theorem wa_0_1 (W : World) : (Instr.typeAssert .nilIface 42 42 true).run Tryz.prog W = .ok (.tuple #[.nilIface, .bool false]) W := by kernel_rfl
theorem wc_0_1 : Dies .nilIface 42 := dies_of (i := none) (c := none) (m := "") fun W => by kernel_rfl
theorem wa_0_2 (W : World) : (Instr.typeAssert .nilIface 42 199 true).run Tryz.prog W = .ok (.tuple #[.nilIface, .bool false]) W := by kernel_rfl
theorem wc_0_2 : Dies .nilIface 199 := dies_of (i := none) (c := none) (m := "") fun W => by kernel_rfl
theorem wa_0_3 (W : World) : (Instr.typeAssert .nilIface 42 202 true).run Tryz.prog W = .ok (.tuple #[.nilIface, .bool false]) W := by kernel_rfl
theorem wc_0_3 : Dies .nilIface 202 := dies_of (i := none) (c := none) (m := "") fun W => by kernel_rfl
theorem wa_0_4 (W : World) : (Instr.typeAssert .nilIface 42 205 true).run Tryz.prog W = .ok (.tuple #[.nilIface, .bool false]) W := by kernel_rfl
theorem wc_0_4 : Dies .nilIface 205 := dies_of (i := none) (c := none) (m := "") fun W => by kernel_rfl
theorem wa_0_5 (W : World) : (Instr.typeAssert .nilIface 42 172 true).run Tryz.prog W = .ok (.tuple #[.agg #[], .bool false]) W := by kernel_rfl
theorem wc_0_5 : Dies .nilIface 172 := dies_of (i := some 42) (c := none) (m := "") fun W => by kernel_rfl
theorem wa_0_6 (W : World) : (Instr.typeAssert .nilIface 42 173 true).run Tryz.prog W = .ok (.tuple #[.bool false, .bool false]) W := by kernel_rfl
theorem wc_0_6 : Dies .nilIface 173 := dies_of (i := some 42) (c := none) (m := "") fun W => by kernel_rfl
theorem wa_0_7 (W : World) : (Instr.typeAssert .nilIface 42 175 true).run Tryz.prog W = .ok (.tuple #[.float .f64 0, .bool false]) W := by kernel_rfl
theorem wc_0_7 : Dies .nilIface 175 := dies_of (i := some 42) (c := none) (m := "") fun W => by kernel_rfl
theorem wa_0_8 (W : World) : (Instr.typeAssert .nilIface 42 177 true).run Tryz.prog W = .ok (.tuple #[.string ⟨#[]⟩, .bool false]) W := by kernel_rfl
theorem wc_0_8 : Dies .nilIface 177 := dies_of (i := some 42) (c := none) (m := "") fun W => by kernel_rfl
theorem wa_0_9 (W : World) : (Instr.typeAssert .nilIface 42 178 true).run Tryz.prog W = .ok (.tuple #[.slice none 0 0, .bool false]) W := by kernel_rfl
theorem wc_0_9 : Dies .nilIface 178 := dies_of (i := some 42) (c := none) (m := "") fun W => by kernel_rfl
theorem wa_0_10 (W : World) : (Instr.typeAssert .nilIface 42 180 true).run Tryz.prog W = .ok (.tuple #[.slice none 0 0, .bool false]) W := by kernel_rfl
theorem wc_0_10 : Dies .nilIface 180 := dies_of (i := some 42) (c := none) (m := "") fun W => by kernel_rfl
theorem wa_0_11 (W : World) : (Instr.typeAssert .nilIface 42 56 true).run Tryz.prog W = .ok (.tuple #[.pointer none, .bool false]) W := by kernel_rfl
theorem wc_0_11 : Dies .nilIface 56 := dies_of (i := some 42) (c := none) (m := "") fun W => by kernel_rfl
theorem wa_1_1 (x : Value) (W : World) : (Instr.typeAssert (.iface 172 x) 42 42 true).run Tryz.prog W = .ok (.tuple #[.iface 172 x, .bool true]) W := run_typeAssert_hasB Tryz.underlying42 (by kernel_rfl) _ _ W
theorem wb_1_1 (x : Value) (W : World) : (Instr.typeAssert (.iface 172 x) 42 42 false).run Tryz.prog W = .ok (.iface 172 x) W := by kernel_rfl
theorem wa_1_2 (x : Value) (W : World) : (Instr.typeAssert (.iface 172 x) 42 199 true).run Tryz.prog W = .ok (.tuple #[.iface 172 x, .bool true]) W := run_typeAssert_hasB Tryz.underlying199 (by kernel_rfl) _ _ W
theorem wb_1_2 (x : Value) (W : World) : (Instr.typeAssert (.iface 172 x) 42 199 false).run Tryz.prog W = .ok (.iface 172 x) W := by kernel_rfl
theorem wa_1_3 (x : Value) (W : World) : (Instr.typeAssert (.iface 172 x) 42 202 true).run Tryz.prog W = .ok (.tuple #[.nilIface, .bool false]) W := run_typeAssert_lacksB Tryz.underlying202 (by kernel_rfl) (by kernel_rfl) _ _ W
theorem wc_1_3 (x : Value) : Dies (.iface 172 x) 202 := dies_lacks Tryz.underlying202 (by kernel_rfl) x
theorem wa_1_4 (x : Value) (W : World) : (Instr.typeAssert (.iface 172 x) 42 205 true).run Tryz.prog W = .ok (.tuple #[.nilIface, .bool false]) W := run_typeAssert_lacksB Tryz.underlying205 (by kernel_rfl) (by kernel_rfl) _ _ W
theorem wc_1_4 (x : Value) : Dies (.iface 172 x) 205 := dies_lacks Tryz.underlying205 (by kernel_rfl) x
theorem wa_1_5 (x : Value) (W : World) : (Instr.typeAssert (.iface 172 x) 42 172 true).run Tryz.prog W = .ok (.tuple #[x, .bool true]) W := by kernel_rfl
theorem wb_1_5 (x : Value) (W : World) : (Instr.typeAssert (.iface 172 x) 42 172 false).run Tryz.prog W = .ok (x) W := by kernel_rfl
theorem wa_1_6 (x : Value) (W : World) : (Instr.typeAssert (.iface 172 x) 42 173 true).run Tryz.prog W = .ok (.tuple #[.bool false, .bool false]) W := by kernel_rfl
theorem wc_1_6 (x : Value) : Dies (.iface 172 x) 173 := dies_of (i := some 42) (c := some 172) (m := "") fun W => by kernel_rfl
theorem wa_1_7 (x : Value) (W : World) : (Instr.typeAssert (.iface 172 x) 42 175 true).run Tryz.prog W = .ok (.tuple #[.float .f64 0, .bool false]) W := by kernel_rfl
theorem wc_1_7 (x : Value) : Dies (.iface 172 x) 175 := dies_of (i := some 42) (c := some 172) (m := "") fun W => by kernel_rfl
theorem wa_1_8 (x : Value) (W : World) : (Instr.typeAssert (.iface 172 x) 42 177 true).run Tryz.prog W = .ok (.tuple #[.string ⟨#[]⟩, .bool false]) W := by kernel_rfl
theorem wc_1_8 (x : Value) : Dies (.iface 172 x) 177 := dies_of (i := some 42) (c := some 172) (m := "") fun W => by kernel_rfl
theorem wa_1_9 (x : Value) (W : World) : (Instr.typeAssert (.iface 172 x) 42 178 true).run Tryz.prog W = .ok (.tuple #[.slice none 0 0, .bool false]) W := by kernel_rfl
theorem wc_1_9 (x : Value) : Dies (.iface 172 x) 178 := dies_of (i := some 42) (c := some 172) (m := "") fun W => by kernel_rfl
theorem wa_1_10 (x : Value) (W : World) : (Instr.typeAssert (.iface 172 x) 42 180 true).run Tryz.prog W = .ok (.tuple #[.slice none 0 0, .bool false]) W := by kernel_rfl
theorem wc_1_10 (x : Value) : Dies (.iface 172 x) 180 := dies_of (i := some 42) (c := some 172) (m := "") fun W => by kernel_rfl
theorem wa_1_11 (x : Value) (W : World) : (Instr.typeAssert (.iface 172 x) 42 56 true).run Tryz.prog W = .ok (.tuple #[.pointer none, .bool false]) W := by kernel_rfl
theorem wc_1_11 (x : Value) : Dies (.iface 172 x) 56 := dies_of (i := some 42) (c := some 172) (m := "") fun W => by kernel_rfl
theorem wa_2_1 (x : Value) (W : World) : (Instr.typeAssert (.iface 173 x) 42 42 true).run Tryz.prog W = .ok (.tuple #[.iface 173 x, .bool true]) W := run_typeAssert_hasB Tryz.underlying42 (by kernel_rfl) _ _ W
theorem wb_2_1 (x : Value) (W : World) : (Instr.typeAssert (.iface 173 x) 42 42 false).run Tryz.prog W = .ok (.iface 173 x) W := by kernel_rfl
theorem wa_2_2 (x : Value) (W : World) : (Instr.typeAssert (.iface 173 x) 42 199 true).run Tryz.prog W = .ok (.tuple #[.iface 173 x, .bool true]) W := run_typeAssert_hasB Tryz.underlying199 (by kernel_rfl) _ _ W
theorem wb_2_2 (x : Value) (W : World) : (Instr.typeAssert (.iface 173 x) 42 199 false).run Tryz.prog W = .ok (.iface 173 x) W := by kernel_rfl
theorem wa_2_3 (x : Value) (W : World) : (Instr.typeAssert (.iface 173 x) 42 202 true).run Tryz.prog W = .ok (.tuple #[.nilIface, .bool false]) W := run_typeAssert_lacksB Tryz.underlying202 (by kernel_rfl) (by kernel_rfl) _ _ W
theorem wc_2_3 (x : Value) : Dies (.iface 173 x) 202 := dies_lacks Tryz.underlying202 (by kernel_rfl) x
theorem wa_2_4 (x : Value) (W : World) : (Instr.typeAssert (.iface 173 x) 42 205 true).run Tryz.prog W = .ok (.tuple #[.nilIface, .bool false]) W := run_typeAssert_lacksB Tryz.underlying205 (by kernel_rfl) (by kernel_rfl) _ _ W
theorem wc_2_4 (x : Value) : Dies (.iface 173 x) 205 := dies_lacks Tryz.underlying205 (by kernel_rfl) x
theorem wa_2_5 (x : Value) (W : World) : (Instr.typeAssert (.iface 173 x) 42 172 true).run Tryz.prog W = .ok (.tuple #[.agg #[], .bool false]) W := by kernel_rfl
theorem wc_2_5 (x : Value) : Dies (.iface 173 x) 172 := dies_of (i := some 42) (c := some 173) (m := "") fun W => by kernel_rfl
theorem wa_2_6 (x : Value) (W : World) : (Instr.typeAssert (.iface 173 x) 42 173 true).run Tryz.prog W = .ok (.tuple #[x, .bool true]) W := by kernel_rfl
theorem wb_2_6 (x : Value) (W : World) : (Instr.typeAssert (.iface 173 x) 42 173 false).run Tryz.prog W = .ok (x) W := by kernel_rfl
theorem wa_2_7 (x : Value) (W : World) : (Instr.typeAssert (.iface 173 x) 42 175 true).run Tryz.prog W = .ok (.tuple #[.float .f64 0, .bool false]) W := by kernel_rfl
theorem wc_2_7 (x : Value) : Dies (.iface 173 x) 175 := dies_of (i := some 42) (c := some 173) (m := "") fun W => by kernel_rfl
theorem wa_2_8 (x : Value) (W : World) : (Instr.typeAssert (.iface 173 x) 42 177 true).run Tryz.prog W = .ok (.tuple #[.string ⟨#[]⟩, .bool false]) W := by kernel_rfl
theorem wc_2_8 (x : Value) : Dies (.iface 173 x) 177 := dies_of (i := some 42) (c := some 173) (m := "") fun W => by kernel_rfl
theorem wa_2_9 (x : Value) (W : World) : (Instr.typeAssert (.iface 173 x) 42 178 true).run Tryz.prog W = .ok (.tuple #[.slice none 0 0, .bool false]) W := by kernel_rfl
theorem wc_2_9 (x : Value) : Dies (.iface 173 x) 178 := dies_of (i := some 42) (c := some 173) (m := "") fun W => by kernel_rfl
theorem wa_2_10 (x : Value) (W : World) : (Instr.typeAssert (.iface 173 x) 42 180 true).run Tryz.prog W = .ok (.tuple #[.slice none 0 0, .bool false]) W := by kernel_rfl
theorem wc_2_10 (x : Value) : Dies (.iface 173 x) 180 := dies_of (i := some 42) (c := some 173) (m := "") fun W => by kernel_rfl
theorem wa_2_11 (x : Value) (W : World) : (Instr.typeAssert (.iface 173 x) 42 56 true).run Tryz.prog W = .ok (.tuple #[.pointer none, .bool false]) W := by kernel_rfl
theorem wc_2_11 (x : Value) : Dies (.iface 173 x) 56 := dies_of (i := some 42) (c := some 173) (m := "") fun W => by kernel_rfl
theorem wa_3_1 (x : Value) (W : World) : (Instr.typeAssert (.iface 175 x) 42 42 true).run Tryz.prog W = .ok (.tuple #[.iface 175 x, .bool true]) W := run_typeAssert_hasB Tryz.underlying42 (by kernel_rfl) _ _ W
theorem wb_3_1 (x : Value) (W : World) : (Instr.typeAssert (.iface 175 x) 42 42 false).run Tryz.prog W = .ok (.iface 175 x) W := by kernel_rfl
theorem wa_3_2 (x : Value) (W : World) : (Instr.typeAssert (.iface 175 x) 42 199 true).run Tryz.prog W = .ok (.tuple #[.iface 175 x, .bool true]) W := run_typeAssert_hasB Tryz.underlying199 (by kernel_rfl) _ _ W
theorem wb_3_2 (x : Value) (W : World) : (Instr.typeAssert (.iface 175 x) 42 199 false).run Tryz.prog W = .ok (.iface 175 x) W := by kernel_rfl
theorem wa_3_3 (x : Value) (W : World) : (Instr.typeAssert (.iface 175 x) 42 202 true).run Tryz.prog W = .ok (.tuple #[.nilIface, .bool false]) W := run_typeAssert_lacksB Tryz.underlying202 (by kernel_rfl) (by kernel_rfl) _ _ W
theorem wc_3_3 (x : Value) : Dies (.iface 175 x) 202 := dies_lacks Tryz.underlying202 (by kernel_rfl) x
theorem wa_3_4 (x : Value) (W : World) : (Instr.typeAssert (.iface 175 x) 42 205 true).run Tryz.prog W = .ok (.tuple #[.nilIface, .bool false]) W := run_typeAssert_lacksB Tryz.underlying205 (by kernel_rfl) (by kernel_rfl) _ _ W
theorem wc_3_4 (x : Value) : Dies (.iface 175 x) 205 := dies_lacks Tryz.underlying205 (by kernel_rfl) x
theorem wa_3_5 (x : Value) (W : World) : (Instr.typeAssert (.iface 175 x) 42 172 true).run Tryz.prog W = .ok (.tuple #[.agg #[], .bool false]) W := by kernel_rfl
theorem wc_3_5 (x : Value) : Dies (.iface 175 x) 172 := dies_of (i := some 42) (c := some 175) (m := "") fun W => by kernel_rfl
theorem wa_3_6 (x : Value) (W : World) : (Instr.typeAssert (.iface 175 x) 42 173 true).run Tryz.prog W = .ok (.tuple #[.bool false, .bool false]) W := by kernel_rfl
theorem wc_3_6 (x : Value) : Dies (.iface 175 x) 173 := dies_of (i := some 42) (c := some 175) (m := "") fun W => by kernel_rfl
theorem wa_3_7 (x : Value) (W : World) : (Instr.typeAssert (.iface 175 x) 42 175 true).run Tryz.prog W = .ok (.tuple #[x, .bool true]) W := by kernel_rfl
theorem wb_3_7 (x : Value) (W : World) : (Instr.typeAssert (.iface 175 x) 42 175 false).run Tryz.prog W = .ok (x) W := by kernel_rfl
theorem wa_3_8 (x : Value) (W : World) : (Instr.typeAssert (.iface 175 x) 42 177 true).run Tryz.prog W = .ok (.tuple #[.string ⟨#[]⟩, .bool false]) W := by kernel_rfl
theorem wc_3_8 (x : Value) : Dies (.iface 175 x) 177 := dies_of (i := some 42) (c := some 175) (m := "") fun W => by kernel_rfl
theorem wa_3_9 (x : Value) (W : World) : (Instr.typeAssert (.iface 175 x) 42 178 true).run Tryz.prog W = .ok (.tuple #[.slice none 0 0, .bool false]) W := by kernel_rfl
theorem wc_3_9 (x : Value) : Dies (.iface 175 x) 178 := dies_of (i := some 42) (c := some 175) (m := "") fun W => by kernel_rfl
theorem wa_3_10 (x : Value) (W : World) : (Instr.typeAssert (.iface 175 x) 42 180 true).run Tryz.prog W = .ok (.tuple #[.slice none 0 0, .bool false]) W := by kernel_rfl
theorem wc_3_10 (x : Value) : Dies (.iface 175 x) 180 := dies_of (i := some 42) (c := some 175) (m := "") fun W => by kernel_rfl
theorem wa_3_11 (x : Value) (W : World) : (Instr.typeAssert (.iface 175 x) 42 56 true).run Tryz.prog W = .ok (.tuple #[.pointer none, .bool false]) W := by kernel_rfl
theorem wc_3_11 (x : Value) : Dies (.iface 175 x) 56 := dies_of (i := some 42) (c := some 175) (m := "") fun W => by kernel_rfl
theorem wa_4_1 (x : Value) (W : World) : (Instr.typeAssert (.iface 177 x) 42 42 true).run Tryz.prog W = .ok (.tuple #[.iface 177 x, .bool true]) W := run_typeAssert_hasB Tryz.underlying42 (by kernel_rfl) _ _ W
theorem wb_4_1 (x : Value) (W : World) : (Instr.typeAssert (.iface 177 x) 42 42 false).run Tryz.prog W = .ok (.iface 177 x) W := by kernel_rfl
theorem wa_4_2 (x : Value) (W : World) : (Instr.typeAssert (.iface 177 x) 42 199 true).run Tryz.prog W = .ok (.tuple #[.iface 177 x, .bool true]) W := run_typeAssert_hasB Tryz.underlying199 (by kernel_rfl) _ _ W
theorem wb_4_2 (x : Value) (W : World) : (Instr.typeAssert (.iface 177 x) 42 199 false).run Tryz.prog W = .ok (.iface 177 x) W := by kernel_rfl
theorem wa_4_3 (x : Value) (W : World) : (Instr.typeAssert (.iface 177 x) 42 202 true).run Tryz.prog W = .ok (.tuple #[.nilIface, .bool false]) W := run_typeAssert_lacksB Tryz.underlying202 (by kernel_rfl) (by kernel_rfl) _ _ W
theorem wc_4_3 (x : Value) : Dies (.iface 177 x) 202 := dies_lacks Tryz.underlying202 (by kernel_rfl) x
theorem wa_4_4 (x : Value) (W : World) : (Instr.typeAssert (.iface 177 x) 42 205 true).run Tryz.prog W = .ok (.tuple #[.nilIface, .bool false]) W := run_typeAssert_lacksB Tryz.underlying205 (by kernel_rfl) (by kernel_rfl) _ _ W
theorem wc_4_4 (x : Value) : Dies (.iface 177 x) 205 := dies_lacks Tryz.underlying205 (by kernel_rfl) x
theorem wa_4_5 (x : Value) (W : World) : (Instr.typeAssert (.iface 177 x) 42 172 true).run Tryz.prog W = .ok (.tuple #[.agg #[], .bool false]) W := by kernel_rfl
theorem wc_4_5 (x : Value) : Dies (.iface 177 x) 172 := dies_of (i := some 42) (c := some 177) (m := "") fun W => by kernel_rfl
theorem wa_4_6 (x : Value) (W : World) : (Instr.typeAssert (.iface 177 x) 42 173 true).run Tryz.prog W = .ok (.tuple #[.bool false, .bool false]) W := by kernel_rfl
theorem wc_4_6 (x : Value) : Dies (.iface 177 x) 173 := dies_of (i := some 42) (c := some 177) (m := "") fun W => by kernel_rfl
theorem wa_4_7 (x : Value) (W : World) : (Instr.typeAssert (.iface 177 x) 42 175 true).run Tryz.prog W = .ok (.tuple #[.float .f64 0, .bool false]) W := by kernel_rfl
theorem wc_4_7 (x : Value) : Dies (.iface 177 x) 175 := dies_of (i := some 42) (c := some 177) (m := "") fun W => by kernel_rfl
theorem wa_4_8 (x : Value) (W : World) : (Instr.typeAssert (.iface 177 x) 42 177 true).run Tryz.prog W = .ok (.tuple #[x, .bool true]) W := by kernel_rfl
theorem wb_4_8 (x : Value) (W : World) : (Instr.typeAssert (.iface 177 x) 42 177 false).run Tryz.prog W = .ok (x) W := by kernel_rfl
theorem wa_4_9 (x : Value) (W : World) : (Instr.typeAssert (.iface 177 x) 42 178 true).run Tryz.prog W = .ok (.tuple #[.slice none 0 0, .bool false]) W := by kernel_rfl
theorem wc_4_9 (x : Value) : Dies (.iface 177 x) 178 := dies_of (i := some 42) (c := some 177) (m := "") fun W => by kernel_rfl
theorem wa_4_10 (x : Value) (W : World) : (Instr.typeAssert (.iface 177 x) 42 180 true).run Tryz.prog W = .ok (.tuple #[.slice none 0 0, .bool false]) W := by kernel_rfl
theorem wc_4_10 (x : Value) : Dies (.iface 177 x) 180 := dies_of (i := some 42) (c := some 177) (m := "") fun W => by kernel_rfl
theorem wa_4_11 (x : Value) (W : World) : (Instr.typeAssert (.iface 177 x) 42 56 true).run Tryz.prog W = .ok (.tuple #[.pointer none, .bool false]) W := by kernel_rfl
theorem wc_4_11 (x : Value) : Dies (.iface 177 x) 56 := dies_of (i := some 42) (c := some 177) (m := "") fun W => by kernel_rfl
theorem wa_5_1 (x : Value) (W : World) : (Instr.typeAssert (.iface 178 x) 42 42 true).run Tryz.prog W = .ok (.tuple #[.iface 178 x, .bool true]) W := run_typeAssert_hasB Tryz.underlying42 (by kernel_rfl) _ _ W
theorem wb_5_1 (x : Value) (W : World) : (Instr.typeAssert (.iface 178 x) 42 42 false).run Tryz.prog W = .ok (.iface 178 x) W := by kernel_rfl
theorem wa_5_2 (x : Value) (W : World) : (Instr.typeAssert (.iface 178 x) 42 199 true).run Tryz.prog W = .ok (.tuple #[.nilIface, .bool false]) W := run_typeAssert_lacksB Tryz.underlying199 (by kernel_rfl) (by kernel_rfl) _ _ W
theorem wc_5_2 (x : Value) : Dies (.iface 178 x) 199 := dies_lacks Tryz.underlying199 (by kernel_rfl) x
theorem wa_5_3 (x : Value) (W : World) : (Instr.typeAssert (.iface 178 x) 42 202 true).run Tryz.prog W = .ok (.tuple #[.iface 178 x, .bool true]) W := run_typeAssert_hasB Tryz.underlying202 (by kernel_rfl) _ _ W
theorem wb_5_3 (x : Value) (W : World) : (Instr.typeAssert (.iface 178 x) 42 202 false).run Tryz.prog W = .ok (.iface 178 x) W := by kernel_rfl
theorem wa_5_4 (x : Value) (W : World) : (Instr.typeAssert (.iface 178 x) 42 205 true).run Tryz.prog W = .ok (.tuple #[.nilIface, .bool false]) W := run_typeAssert_lacksB Tryz.underlying205 (by kernel_rfl) (by kernel_rfl) _ _ W
theorem wc_5_4 (x : Value) : Dies (.iface 178 x) 205 := dies_lacks Tryz.underlying205 (by kernel_rfl) x
theorem wa_5_5 (x : Value) (W : World) : (Instr.typeAssert (.iface 178 x) 42 172 true).run Tryz.prog W = .ok (.tuple #[.agg #[], .bool false]) W := by kernel_rfl
theorem wc_5_5 (x : Value) : Dies (.iface 178 x) 172 := dies_of (i := some 42) (c := some 178) (m := "") fun W => by kernel_rfl
theorem wa_5_6 (x : Value) (W : World) : (Instr.typeAssert (.iface 178 x) 42 173 true).run Tryz.prog W = .ok (.tuple #[.bool false, .bool false]) W := by kernel_rfl
theorem wc_5_6 (x : Value) : Dies (.iface 178 x) 173 := dies_of (i := some 42) (c := some 178) (m := "") fun W => by kernel_rfl
theorem wa_5_7 (x : Value) (W : World) : (Instr.typeAssert (.iface 178 x) 42 175 true).run Tryz.prog W = .ok (.tuple #[.float .f64 0, .bool false]) W := by kernel_rfl
theorem wc_5_7 (x : Value) : Dies (.iface 178 x) 175 := dies_of (i := some 42) (c := some 178) (m := "") fun W => by kernel_rfl
theorem wa_5_8 (x : Value) (W : World) : (Instr.typeAssert (.iface 178 x) 42 177 true).run Tryz.prog W = .ok (.tuple #[.string ⟨#[]⟩, .bool false]) W := by kernel_rfl
theorem wc_5_8 (x : Value) : Dies (.iface 178 x) 177 := dies_of (i := some 42) (c := some 178) (m := "") fun W => by kernel_rfl
theorem wa_5_9 (x : Value) (W : World) : (Instr.typeAssert (.iface 178 x) 42 178 true).run Tryz.prog W = .ok (.tuple #[x, .bool true]) W := by kernel_rfl
theorem wb_5_9 (x : Value) (W : World) : (Instr.typeAssert (.iface 178 x) 42 178 false).run Tryz.prog W = .ok (x) W := by kernel_rfl
theorem wa_5_10 (x : Value) (W : World) : (Instr.typeAssert (.iface 178 x) 42 180 true).run Tryz.prog W = .ok (.tuple #[.slice none 0 0, .bool false]) W := by kernel_rfl
theorem wc_5_10 (x : Value) : Dies (.iface 178 x) 180 := dies_of (i := some 42) (c := some 178) (m := "") fun W => by kernel_rfl
theorem wa_5_11 (x : Value) (W : World) : (Instr.typeAssert (.iface 178 x) 42 56 true).run Tryz.prog W = .ok (.tuple #[.pointer none, .bool false]) W := by kernel_rfl
theorem wc_5_11 (x : Value) : Dies (.iface 178 x) 56 := dies_of (i := some 42) (c := some 178) (m := "") fun W => by kernel_rfl
theorem wa_6_1 (x : Value) (W : World) : (Instr.typeAssert (.iface 180 x) 42 42 true).run Tryz.prog W = .ok (.tuple #[.iface 180 x, .bool true]) W := run_typeAssert_hasB Tryz.underlying42 (by kernel_rfl) _ _ W
theorem wb_6_1 (x : Value) (W : World) : (Instr.typeAssert (.iface 180 x) 42 42 false).run Tryz.prog W = .ok (.iface 180 x) W := by kernel_rfl
theorem wa_6_2 (x : Value) (W : World) : (Instr.typeAssert (.iface 180 x) 42 199 true).run Tryz.prog W = .ok (.tuple #[.nilIface, .bool false]) W := run_typeAssert_lacksB Tryz.underlying199 (by kernel_rfl) (by kernel_rfl) _ _ W
theorem wc_6_2 (x : Value) : Dies (.iface 180 x) 199 := dies_lacks Tryz.underlying199 (by kernel_rfl) x
theorem wa_6_3 (x : Value) (W : World) : (Instr.typeAssert (.iface 180 x) 42 202 true).run Tryz.prog W = .ok (.tuple #[.iface 180 x, .bool true]) W := run_typeAssert_hasB Tryz.underlying202 (by kernel_rfl) _ _ W
theorem wb_6_3 (x : Value) (W : World) : (Instr.typeAssert (.iface 180 x) 42 202 false).run Tryz.prog W = .ok (.iface 180 x) W := by kernel_rfl
theorem wa_6_4 (x : Value) (W : World) : (Instr.typeAssert (.iface 180 x) 42 205 true).run Tryz.prog W = .ok (.tuple #[.iface 180 x, .bool true]) W := run_typeAssert_hasB Tryz.underlying205 (by kernel_rfl) _ _ W
theorem wb_6_4 (x : Value) (W : World) : (Instr.typeAssert (.iface 180 x) 42 205 false).run Tryz.prog W = .ok (.iface 180 x) W := by kernel_rfl
theorem wa_6_5 (x : Value) (W : World) : (Instr.typeAssert (.iface 180 x) 42 172 true).run Tryz.prog W = .ok (.tuple #[.agg #[], .bool false]) W := by kernel_rfl
theorem wc_6_5 (x : Value) : Dies (.iface 180 x) 172 := dies_of (i := some 42) (c := some 180) (m := "") fun W => by kernel_rfl
theorem wa_6_6 (x : Value) (W : World) : (Instr.typeAssert (.iface 180 x) 42 173 true).run Tryz.prog W = .ok (.tuple #[.bool false, .bool false]) W := by kernel_rfl
theorem wc_6_6 (x : Value) : Dies (.iface 180 x) 173 := dies_of (i := some 42) (c := some 180) (m := "") fun W => by kernel_rfl
theorem wa_6_7 (x : Value) (W : World) : (Instr.typeAssert (.iface 180 x) 42 175 true).run Tryz.prog W = .ok (.tuple #[.float .f64 0, .bool false]) W := by kernel_rfl
theorem wc_6_7 (x : Value) : Dies (.iface 180 x) 175 := dies_of (i := some 42) (c := some 180) (m := "") fun W => by kernel_rfl
theorem wa_6_8 (x : Value) (W : World) : (Instr.typeAssert (.iface 180 x) 42 177 true).run Tryz.prog W = .ok (.tuple #[.string ⟨#[]⟩, .bool false]) W := by kernel_rfl
theorem wc_6_8 (x : Value) : Dies (.iface 180 x) 177 := dies_of (i := some 42) (c := some 180) (m := "") fun W => by kernel_rfl
theorem wa_6_9 (x : Value) (W : World) : (Instr.typeAssert (.iface 180 x) 42 178 true).run Tryz.prog W = .ok (.tuple #[.slice none 0 0, .bool false]) W := by kernel_rfl
theorem wc_6_9 (x : Value) : Dies (.iface 180 x) 178 := dies_of (i := some 42) (c := some 180) (m := "") fun W => by kernel_rfl
theorem wa_6_10 (x : Value) (W : World) : (Instr.typeAssert (.iface 180 x) 42 180 true).run Tryz.prog W = .ok (.tuple #[x, .bool true]) W := by kernel_rfl
theorem wb_6_10 (x : Value) (W : World) : (Instr.typeAssert (.iface 180 x) 42 180 false).run Tryz.prog W = .ok (x) W := by kernel_rfl
theorem wa_6_11 (x : Value) (W : World) : (Instr.typeAssert (.iface 180 x) 42 56 true).run Tryz.prog W = .ok (.tuple #[.pointer none, .bool false]) W := by kernel_rfl
theorem wc_6_11 (x : Value) : Dies (.iface 180 x) 56 := dies_of (i := some 42) (c := some 180) (m := "") fun W => by kernel_rfl
theorem wa_7_1 (x : Value) (W : World) : (Instr.typeAssert (.iface 56 x) 42 42 true).run Tryz.prog W = .ok (.tuple #[.iface 56 x, .bool true]) W := run_typeAssert_hasB Tryz.underlying42 (by kernel_rfl) _ _ W
theorem wb_7_1 (x : Value) (W : World) : (Instr.typeAssert (.iface 56 x) 42 42 false).run Tryz.prog W = .ok (.iface 56 x) W := by kernel_rfl
theorem wa_7_2 (x : Value) (W : World) : (Instr.typeAssert (.iface 56 x) 42 199 true).run Tryz.prog W = .ok (.tuple #[.nilIface, .bool false]) W := run_typeAssert_lacksB Tryz.underlying199 (by kernel_rfl) (by kernel_rfl) _ _ W
theorem wc_7_2 (x : Value) : Dies (.iface 56 x) 199 := dies_lacks Tryz.underlying199 (by kernel_rfl) x
theorem wa_7_3 (x : Value) (W : World) : (Instr.typeAssert (.iface 56 x) 42 202 true).run Tryz.prog W = .ok (.tuple #[.nilIface, .bool false]) W := run_typeAssert_lacksB Tryz.underlying202 (by kernel_rfl) (by kernel_rfl) _ _ W
theorem wc_7_3 (x : Value) : Dies (.iface 56 x) 202 := dies_lacks Tryz.underlying202 (by kernel_rfl) x
theorem wa_7_4 (x : Value) (W : World) : (Instr.typeAssert (.iface 56 x) 42 205 true).run Tryz.prog W = .ok (.tuple #[.nilIface, .bool false]) W := run_typeAssert_lacksB Tryz.underlying205 (by kernel_rfl) (by kernel_rfl) _ _ W
theorem wc_7_4 (x : Value) : Dies (.iface 56 x) 205 := dies_lacks Tryz.underlying205 (by kernel_rfl) x
theorem wa_7_5 (x : Value) (W : World) : (Instr.typeAssert (.iface 56 x) 42 172 true).run Tryz.prog W = .ok (.tuple #[.agg #[], .bool false]) W := by kernel_rfl
theorem wc_7_5 (x : Value) : Dies (.iface 56 x) 172 := dies_of (i := some 42) (c := some 56) (m := "") fun W => by kernel_rfl
theorem wa_7_6 (x : Value) (W : World) : (Instr.typeAssert (.iface 56 x) 42 173 true).run Tryz.prog W = .ok (.tuple #[.bool false, .bool false]) W := by kernel_rfl
theorem wc_7_6 (x : Value) : Dies (.iface 56 x) 173 := dies_of (i := some 42) (c := some 56) (m := "") fun W => by kernel_rfl
theorem wa_7_7 (x : Value) (W : World) : (Instr.typeAssert (.iface 56 x) 42 175 true).run Tryz.prog W = .ok (.tuple #[.float .f64 0, .bool false]) W := by kernel_rfl
theorem wc_7_7 (x : Value) : Dies (.iface 56 x) 175 := dies_of (i := some 42) (c := some 56) (m := "") fun W => by kernel_rfl
theorem wa_7_8 (x : Value) (W : World) : (Instr.typeAssert (.iface 56 x) 42 177 true).run Tryz.prog W = .ok (.tuple #[.string ⟨#[]⟩, .bool false]) W := by kernel_rfl
theorem wc_7_8 (x : Value) : Dies (.iface 56 x) 177 := dies_of (i := some 42) (c := some 56) (m := "") fun W => by kernel_rfl
theorem wa_7_9 (x : Value) (W : World) : (Instr.typeAssert (.iface 56 x) 42 178 true).run Tryz.prog W = .ok (.tuple #[.slice none 0 0, .bool false]) W := by kernel_rfl
theorem wc_7_9 (x : Value) : Dies (.iface 56 x) 178 := dies_of (i := some 42) (c := some 56) (m := "") fun W => by kernel_rfl
theorem wa_7_10 (x : Value) (W : World) : (Instr.typeAssert (.iface 56 x) 42 180 true).run Tryz.prog W = .ok (.tuple #[.slice none 0 0, .bool false]) W := by kernel_rfl
theorem wc_7_10 (x : Value) : Dies (.iface 56 x) 180 := dies_of (i := some 42) (c := some 56) (m := "") fun W => by kernel_rfl
theorem wa_7_11 (x : Value) (W : World) : (Instr.typeAssert (.iface 56 x) 42 56 true).run Tryz.prog W = .ok (.tuple #[x, .bool true]) W := by kernel_rfl
theorem wb_7_11 (x : Value) (W : World) : (Instr.typeAssert (.iface 56 x) 42 56 false).run Tryz.prog W = .ok (x) W := by kernel_rfl
end Nd
end Go.Proofs.YtmcmoaeheadihaaGreatDoor
namespace Go.Proofs.YtmcmoaeheadihaaGreatDoor
open Go.RowKit Mem
set_option linter.unusedVariables false
set_option linter.unusedSimpArgs false
namespace Nd
def BoolR (b : Bool) (w : World) (e : Ending) (w' : World) : Prop := e = .returned (.bool b) ∧ w = w'
def ValR (v : Value) (w : World) (e : Ending) (w' : World) : Prop := e = .returned v ∧ w = w'
def PanR (w : World) (e : Ending) (w' : World) : Prop := ∃ pv, e = .panicked [{ v := .iface 15 pv, recovered := false }] ∧ Below w.heap.size w w'
theorem wants {n : Nat} (h : 1 ≤ n ∧ n ≤ 11) : n = 1 ∨ n = 2 ∨ n = 3 ∨ n = 4 ∨ n = 5 ∨ n = 6 ∨ n = 7 ∨ n = 8 ∨ n = 9 ∨ n = 10 ∨ n = 11 := by omega
theorem two_0 (n : Nat) (hn : 1 ≤ n ∧ n ≤ 11) (w : World) : Calls Tryz.prog 81 #[.nilIface, .int .i64 (n : Nat)] w (BoolR (holdB 0 n) w) := by
  have t1 := wa_0_1
  have t2 := wa_0_2
  have t3 := wa_0_3
  have t4 := wa_0_4
  have t5 := wa_0_5
  have t6 := wa_0_6
  have t7 := wa_0_7
  have t8 := wa_0_8
  have t9 := wa_0_9
  have t10 := wa_0_10
  have t11 := wa_0_11
  rcases wants hn with rfl | rfl | rfl | rfl | rfl | rfl | rfl | rfl | rfl | rfl | rfl
  all_goals
    clear hn
    go_enter Tryz.func81, Tryz.ntmps81
    go_wp2
    go_ret
    exact ⟨rfl, rfl⟩
theorem two_1 (x : Value) (n : Nat) (hn : 1 ≤ n ∧ n ≤ 11) (w : World) : Calls Tryz.prog 81 #[.iface 172 x, .int .i64 (n : Nat)] w (BoolR (holdB 1 n) w) := by
  have t1 := wa_1_1 x
  have t2 := wa_1_2 x
  have t3 := wa_1_3 x
  have t4 := wa_1_4 x
  have t5 := wa_1_5 x
  have t6 := wa_1_6 x
  have t7 := wa_1_7 x
  have t8 := wa_1_8 x
  have t9 := wa_1_9 x
  have t10 := wa_1_10 x
  have t11 := wa_1_11 x
  rcases wants hn with rfl | rfl | rfl | rfl | rfl | rfl | rfl | rfl | rfl | rfl | rfl
  all_goals
    clear hn
    go_enter Tryz.func81, Tryz.ntmps81
    go_wp2
    go_ret
    exact ⟨rfl, rfl⟩
theorem two_2 (x : Value) (n : Nat) (hn : 1 ≤ n ∧ n ≤ 11) (w : World) : Calls Tryz.prog 81 #[.iface 173 x, .int .i64 (n : Nat)] w (BoolR (holdB 2 n) w) := by
  have t1 := wa_2_1 x
  have t2 := wa_2_2 x
  have t3 := wa_2_3 x
  have t4 := wa_2_4 x
  have t5 := wa_2_5 x
  have t6 := wa_2_6 x
  have t7 := wa_2_7 x
  have t8 := wa_2_8 x
  have t9 := wa_2_9 x
  have t10 := wa_2_10 x
  have t11 := wa_2_11 x
  rcases wants hn with rfl | rfl | rfl | rfl | rfl | rfl | rfl | rfl | rfl | rfl | rfl
  all_goals
    clear hn
    go_enter Tryz.func81, Tryz.ntmps81
    go_wp2
    go_ret
    exact ⟨rfl, rfl⟩
theorem two_3 (x : Value) (n : Nat) (hn : 1 ≤ n ∧ n ≤ 11) (w : World) : Calls Tryz.prog 81 #[.iface 175 x, .int .i64 (n : Nat)] w (BoolR (holdB 3 n) w) := by
  have t1 := wa_3_1 x
  have t2 := wa_3_2 x
  have t3 := wa_3_3 x
  have t4 := wa_3_4 x
  have t5 := wa_3_5 x
  have t6 := wa_3_6 x
  have t7 := wa_3_7 x
  have t8 := wa_3_8 x
  have t9 := wa_3_9 x
  have t10 := wa_3_10 x
  have t11 := wa_3_11 x
  rcases wants hn with rfl | rfl | rfl | rfl | rfl | rfl | rfl | rfl | rfl | rfl | rfl
  all_goals
    clear hn
    go_enter Tryz.func81, Tryz.ntmps81
    go_wp2
    go_ret
    exact ⟨rfl, rfl⟩
theorem two_4 (x : Value) (n : Nat) (hn : 1 ≤ n ∧ n ≤ 11) (w : World) : Calls Tryz.prog 81 #[.iface 177 x, .int .i64 (n : Nat)] w (BoolR (holdB 4 n) w) := by
  have t1 := wa_4_1 x
  have t2 := wa_4_2 x
  have t3 := wa_4_3 x
  have t4 := wa_4_4 x
  have t5 := wa_4_5 x
  have t6 := wa_4_6 x
  have t7 := wa_4_7 x
  have t8 := wa_4_8 x
  have t9 := wa_4_9 x
  have t10 := wa_4_10 x
  have t11 := wa_4_11 x
  rcases wants hn with rfl | rfl | rfl | rfl | rfl | rfl | rfl | rfl | rfl | rfl | rfl
  all_goals
    clear hn
    go_enter Tryz.func81, Tryz.ntmps81
    go_wp2
    go_ret
    exact ⟨rfl, rfl⟩
theorem two_5 (x : Value) (n : Nat) (hn : 1 ≤ n ∧ n ≤ 11) (w : World) : Calls Tryz.prog 81 #[.iface 178 x, .int .i64 (n : Nat)] w (BoolR (holdB 5 n) w) := by
  have t1 := wa_5_1 x
  have t2 := wa_5_2 x
  have t3 := wa_5_3 x
  have t4 := wa_5_4 x
  have t5 := wa_5_5 x
  have t6 := wa_5_6 x
  have t7 := wa_5_7 x
  have t8 := wa_5_8 x
  have t9 := wa_5_9 x
  have t10 := wa_5_10 x
  have t11 := wa_5_11 x
  rcases wants hn with rfl | rfl | rfl | rfl | rfl | rfl | rfl | rfl | rfl | rfl | rfl
  all_goals
    clear hn
    go_enter Tryz.func81, Tryz.ntmps81
    go_wp2
    go_ret
    exact ⟨rfl, rfl⟩
theorem two_6 (x : Value) (n : Nat) (hn : 1 ≤ n ∧ n ≤ 11) (w : World) : Calls Tryz.prog 81 #[.iface 180 x, .int .i64 (n : Nat)] w (BoolR (holdB 6 n) w) := by
  have t1 := wa_6_1 x
  have t2 := wa_6_2 x
  have t3 := wa_6_3 x
  have t4 := wa_6_4 x
  have t5 := wa_6_5 x
  have t6 := wa_6_6 x
  have t7 := wa_6_7 x
  have t8 := wa_6_8 x
  have t9 := wa_6_9 x
  have t10 := wa_6_10 x
  have t11 := wa_6_11 x
  rcases wants hn with rfl | rfl | rfl | rfl | rfl | rfl | rfl | rfl | rfl | rfl | rfl
  all_goals
    clear hn
    go_enter Tryz.func81, Tryz.ntmps81
    go_wp2
    go_ret
    exact ⟨rfl, rfl⟩
theorem two_7 (x : Value) (n : Nat) (hn : 1 ≤ n ∧ n ≤ 11) (w : World) : Calls Tryz.prog 81 #[.iface 56 x, .int .i64 (n : Nat)] w (BoolR (holdB 7 n) w) := by
  have t1 := wa_7_1 x
  have t2 := wa_7_2 x
  have t3 := wa_7_3 x
  have t4 := wa_7_4 x
  have t5 := wa_7_5 x
  have t6 := wa_7_6 x
  have t7 := wa_7_7 x
  have t8 := wa_7_8 x
  have t9 := wa_7_9 x
  have t10 := wa_7_10 x
  have t11 := wa_7_11 x
  rcases wants hn with rfl | rfl | rfl | rfl | rfl | rfl | rfl | rfl | rfl | rfl | rfl
  all_goals
    clear hn
    go_enter Tryz.func81, Tryz.ntmps81
    go_wp2
    go_ret
    exact ⟨rfl, rfl⟩
end Nd
end Go.Proofs.YtmcmoaeheadihaaGreatDoor
namespace Go.Proofs.YtmcmoaeheadihaaGreatDoor
open Go.RowKit Mem
set_option linter.unusedVariables false
set_option linter.unusedSimpArgs false
namespace Nd
theorem one_no_0 (n : Nat) (hn : 1 ≤ n ∧ n ≤ 11) (hh : holdB 0 n = false) (w : World) : Calls Tryz.prog 228 #[.nilIface, .int .i64 (n : Nat)] w (PanR w) := by
  have hb : ∀ o, Below w.heap.size w (w.alloc o) := fun o => (Below.refl _ _).alloc (Nat.le_refl _) _
  rcases wants hn with rfl | rfl | rfl | rfl | rfl | rfl | rfl | rfl | rfl | rfl | rfl
  · obtain ⟨pv, ob, ht⟩ := wc_0_1 w
    clear hn hh
    go_enter Tryz.func228, Tryz.ntmps228
    go_wp2
    exact ⟨rfl, _, rfl, hb _⟩
  · obtain ⟨pv, ob, ht⟩ := wc_0_2 w
    clear hn hh
    go_enter Tryz.func228, Tryz.ntmps228
    go_wp2
    exact ⟨rfl, _, rfl, hb _⟩
  · obtain ⟨pv, ob, ht⟩ := wc_0_3 w
    clear hn hh
    go_enter Tryz.func228, Tryz.ntmps228
    go_wp2
    exact ⟨rfl, _, rfl, hb _⟩
  · obtain ⟨pv, ob, ht⟩ := wc_0_4 w
    clear hn hh
    go_enter Tryz.func228, Tryz.ntmps228
    go_wp2
    exact ⟨rfl, _, rfl, hb _⟩
  · obtain ⟨pv, ob, ht⟩ := wc_0_5 w
    clear hn hh
    go_enter Tryz.func228, Tryz.ntmps228
    go_wp2
    exact ⟨rfl, _, rfl, hb _⟩
  · obtain ⟨pv, ob, ht⟩ := wc_0_6 w
    clear hn hh
    go_enter Tryz.func228, Tryz.ntmps228
    go_wp2
    exact ⟨rfl, _, rfl, hb _⟩
  · obtain ⟨pv, ob, ht⟩ := wc_0_7 w
    clear hn hh
    go_enter Tryz.func228, Tryz.ntmps228
    go_wp2
    exact ⟨rfl, _, rfl, hb _⟩
  · obtain ⟨pv, ob, ht⟩ := wc_0_8 w
    clear hn hh
    go_enter Tryz.func228, Tryz.ntmps228
    go_wp2
    exact ⟨rfl, _, rfl, hb _⟩
  · obtain ⟨pv, ob, ht⟩ := wc_0_9 w
    clear hn hh
    go_enter Tryz.func228, Tryz.ntmps228
    go_wp2
    exact ⟨rfl, _, rfl, hb _⟩
  · obtain ⟨pv, ob, ht⟩ := wc_0_10 w
    clear hn hh
    go_enter Tryz.func228, Tryz.ntmps228
    go_wp2
    exact ⟨rfl, _, rfl, hb _⟩
  · obtain ⟨pv, ob, ht⟩ := wc_0_11 w
    clear hn hh
    go_enter Tryz.func228, Tryz.ntmps228
    go_wp2
    exact ⟨rfl, _, rfl, hb _⟩
theorem one_yes_1 (x : Value) (n : Nat) (hn : 1 ≤ n ∧ n ≤ 11) (hh : holdB 1 n = true) (w : World) : Calls Tryz.prog 228 #[.iface 172 x, .int .i64 (n : Nat)] w (ValR (.iface 172 x) w) := by
  have t1 := wb_1_1 x
  have t2 := wb_1_2 x
  have t5 := wb_1_5 x
  rcases wants hn with rfl | rfl | rfl | rfl | rfl | rfl | rfl | rfl | rfl | rfl | rfl
  · clear hn hh
    go_enter Tryz.func228, Tryz.ntmps228
    go_wp2
    go_ret
    exact ⟨rfl, rfl⟩
  · clear hn hh
    go_enter Tryz.func228, Tryz.ntmps228
    go_wp2
    go_ret
    exact ⟨rfl, rfl⟩
  · exact absurd hh (by decide)
  · exact absurd hh (by decide)
  · clear hn hh
    go_enter Tryz.func228, Tryz.ntmps228
    go_wp2
    go_ret
    exact ⟨rfl, rfl⟩
  · exact absurd hh (by decide)
  · exact absurd hh (by decide)
  · exact absurd hh (by decide)
  · exact absurd hh (by decide)
  · exact absurd hh (by decide)
  · exact absurd hh (by decide)
theorem one_no_1 (x : Value) (n : Nat) (hn : 1 ≤ n ∧ n ≤ 11) (hh : holdB 1 n = false) (w : World) : Calls Tryz.prog 228 #[.iface 172 x, .int .i64 (n : Nat)] w (PanR w) := by
  have hb : ∀ o, Below w.heap.size w (w.alloc o) := fun o => (Below.refl _ _).alloc (Nat.le_refl _) _
  rcases wants hn with rfl | rfl | rfl | rfl | rfl | rfl | rfl | rfl | rfl | rfl | rfl
  · exact absurd hh (by decide)
  · exact absurd hh (by decide)
  · obtain ⟨pv, ob, ht⟩ := wc_1_3 x w
    clear hn hh
    go_enter Tryz.func228, Tryz.ntmps228
    go_wp2
    exact ⟨rfl, _, rfl, hb _⟩
  · obtain ⟨pv, ob, ht⟩ := wc_1_4 x w
    clear hn hh
    go_enter Tryz.func228, Tryz.ntmps228
    go_wp2
    exact ⟨rfl, _, rfl, hb _⟩
  · exact absurd hh (by decide)
  · obtain ⟨pv, ob, ht⟩ := wc_1_6 x w
    clear hn hh
    go_enter Tryz.func228, Tryz.ntmps228
    go_wp2
    exact ⟨rfl, _, rfl, hb _⟩
  · obtain ⟨pv, ob, ht⟩ := wc_1_7 x w
    clear hn hh
    go_enter Tryz.func228, Tryz.ntmps228
    go_wp2
    exact ⟨rfl, _, rfl, hb _⟩
  · obtain ⟨pv, ob, ht⟩ := wc_1_8 x w
    clear hn hh
    go_enter Tryz.func228, Tryz.ntmps228
    go_wp2
    exact ⟨rfl, _, rfl, hb _⟩
  · obtain ⟨pv, ob, ht⟩ := wc_1_9 x w
    clear hn hh
    go_enter Tryz.func228, Tryz.ntmps228
    go_wp2
    exact ⟨rfl, _, rfl, hb _⟩
  · obtain ⟨pv, ob, ht⟩ := wc_1_10 x w
    clear hn hh
    go_enter Tryz.func228, Tryz.ntmps228
    go_wp2
    exact ⟨rfl, _, rfl, hb _⟩
  · obtain ⟨pv, ob, ht⟩ := wc_1_11 x w
    clear hn hh
    go_enter Tryz.func228, Tryz.ntmps228
    go_wp2
    exact ⟨rfl, _, rfl, hb _⟩
theorem one_yes_2 (x : Value) (n : Nat) (hn : 1 ≤ n ∧ n ≤ 11) (hh : holdB 2 n = true) (w : World) : Calls Tryz.prog 228 #[.iface 173 x, .int .i64 (n : Nat)] w (ValR (.iface 173 x) w) := by
  have t1 := wb_2_1 x
  have t2 := wb_2_2 x
  have t6 := wb_2_6 x
  rcases wants hn with rfl | rfl | rfl | rfl | rfl | rfl | rfl | rfl | rfl | rfl | rfl
  · clear hn hh
    go_enter Tryz.func228, Tryz.ntmps228
    go_wp2
    go_ret
    exact ⟨rfl, rfl⟩
  · clear hn hh
    go_enter Tryz.func228, Tryz.ntmps228
    go_wp2
    go_ret
    exact ⟨rfl, rfl⟩
  · exact absurd hh (by decide)
  · exact absurd hh (by decide)
  · exact absurd hh (by decide)
  · clear hn hh
    go_enter Tryz.func228, Tryz.ntmps228
    go_wp2
    go_ret
    exact ⟨rfl, rfl⟩
  · exact absurd hh (by decide)
  · exact absurd hh (by decide)
  · exact absurd hh (by decide)
  · exact absurd hh (by decide)
  · exact absurd hh (by decide)
theorem one_no_2 (x : Value) (n : Nat) (hn : 1 ≤ n ∧ n ≤ 11) (hh : holdB 2 n = false) (w : World) : Calls Tryz.prog 228 #[.iface 173 x, .int .i64 (n : Nat)] w (PanR w) := by
  have hb : ∀ o, Below w.heap.size w (w.alloc o) := fun o => (Below.refl _ _).alloc (Nat.le_refl _) _
  rcases wants hn with rfl | rfl | rfl | rfl | rfl | rfl | rfl | rfl | rfl | rfl | rfl
  · exact absurd hh (by decide)
  · exact absurd hh (by decide)
  · obtain ⟨pv, ob, ht⟩ := wc_2_3 x w
    clear hn hh
    go_enter Tryz.func228, Tryz.ntmps228
    go_wp2
    exact ⟨rfl, _, rfl, hb _⟩
  · obtain ⟨pv, ob, ht⟩ := wc_2_4 x w
    clear hn hh
    go_enter Tryz.func228, Tryz.ntmps228
    go_wp2
    exact ⟨rfl, _, rfl, hb _⟩
  · obtain ⟨pv, ob, ht⟩ := wc_2_5 x w
    clear hn hh
    go_enter Tryz.func228, Tryz.ntmps228
    go_wp2
    exact ⟨rfl, _, rfl, hb _⟩
  · exact absurd hh (by decide)
  · obtain ⟨pv, ob, ht⟩ := wc_2_7 x w
    clear hn hh
    go_enter Tryz.func228, Tryz.ntmps228
    go_wp2
    exact ⟨rfl, _, rfl, hb _⟩
  · obtain ⟨pv, ob, ht⟩ := wc_2_8 x w
    clear hn hh
    go_enter Tryz.func228, Tryz.ntmps228
    go_wp2
    exact ⟨rfl, _, rfl, hb _⟩
  · obtain ⟨pv, ob, ht⟩ := wc_2_9 x w
    clear hn hh
    go_enter Tryz.func228, Tryz.ntmps228
    go_wp2
    exact ⟨rfl, _, rfl, hb _⟩
  · obtain ⟨pv, ob, ht⟩ := wc_2_10 x w
    clear hn hh
    go_enter Tryz.func228, Tryz.ntmps228
    go_wp2
    exact ⟨rfl, _, rfl, hb _⟩
  · obtain ⟨pv, ob, ht⟩ := wc_2_11 x w
    clear hn hh
    go_enter Tryz.func228, Tryz.ntmps228
    go_wp2
    exact ⟨rfl, _, rfl, hb _⟩
theorem one_yes_3 (x : Value) (n : Nat) (hn : 1 ≤ n ∧ n ≤ 11) (hh : holdB 3 n = true) (w : World) : Calls Tryz.prog 228 #[.iface 175 x, .int .i64 (n : Nat)] w (ValR (.iface 175 x) w) := by
  have t1 := wb_3_1 x
  have t2 := wb_3_2 x
  have t7 := wb_3_7 x
  rcases wants hn with rfl | rfl | rfl | rfl | rfl | rfl | rfl | rfl | rfl | rfl | rfl
  · clear hn hh
    go_enter Tryz.func228, Tryz.ntmps228
    go_wp2
    go_ret
    exact ⟨rfl, rfl⟩
  · clear hn hh
    go_enter Tryz.func228, Tryz.ntmps228
    go_wp2
    go_ret
    exact ⟨rfl, rfl⟩
  · exact absurd hh (by decide)
  · exact absurd hh (by decide)
  · exact absurd hh (by decide)
  · exact absurd hh (by decide)
  · clear hn hh
    go_enter Tryz.func228, Tryz.ntmps228
    go_wp2
    go_ret
    exact ⟨rfl, rfl⟩
  · exact absurd hh (by decide)
  · exact absurd hh (by decide)
  · exact absurd hh (by decide)
  · exact absurd hh (by decide)
theorem one_no_3 (x : Value) (n : Nat) (hn : 1 ≤ n ∧ n ≤ 11) (hh : holdB 3 n = false) (w : World) : Calls Tryz.prog 228 #[.iface 175 x, .int .i64 (n : Nat)] w (PanR w) := by
  have hb : ∀ o, Below w.heap.size w (w.alloc o) := fun o => (Below.refl _ _).alloc (Nat.le_refl _) _
  rcases wants hn with rfl | rfl | rfl | rfl | rfl | rfl | rfl | rfl | rfl | rfl | rfl
  · exact absurd hh (by decide)
  · exact absurd hh (by decide)
  · obtain ⟨pv, ob, ht⟩ := wc_3_3 x w
    clear hn hh
    go_enter Tryz.func228, Tryz.ntmps228
    go_wp2
    exact ⟨rfl, _, rfl, hb _⟩
  · obtain ⟨pv, ob, ht⟩ := wc_3_4 x w
    clear hn hh
    go_enter Tryz.func228, Tryz.ntmps228
    go_wp2
    exact ⟨rfl, _, rfl, hb _⟩
  · obtain ⟨pv, ob, ht⟩ := wc_3_5 x w
    clear hn hh
    go_enter Tryz.func228, Tryz.ntmps228
    go_wp2
    exact ⟨rfl, _, rfl, hb _⟩
  · obtain ⟨pv, ob, ht⟩ := wc_3_6 x w
    clear hn hh
    go_enter Tryz.func228, Tryz.ntmps228
    go_wp2
    exact ⟨rfl, _, rfl, hb _⟩
  · exact absurd hh (by decide)
  · obtain ⟨pv, ob, ht⟩ := wc_3_8 x w
    clear hn hh
    go_enter Tryz.func228, Tryz.ntmps228
    go_wp2
    exact ⟨rfl, _, rfl, hb _⟩
  · obtain ⟨pv, ob, ht⟩ := wc_3_9 x w
    clear hn hh
    go_enter Tryz.func228, Tryz.ntmps228
    go_wp2
    exact ⟨rfl, _, rfl, hb _⟩
  · obtain ⟨pv, ob, ht⟩ := wc_3_10 x w
    clear hn hh
    go_enter Tryz.func228, Tryz.ntmps228
    go_wp2
    exact ⟨rfl, _, rfl, hb _⟩
  · obtain ⟨pv, ob, ht⟩ := wc_3_11 x w
    clear hn hh
    go_enter Tryz.func228, Tryz.ntmps228
    go_wp2
    exact ⟨rfl, _, rfl, hb _⟩
theorem one_yes_4 (x : Value) (n : Nat) (hn : 1 ≤ n ∧ n ≤ 11) (hh : holdB 4 n = true) (w : World) : Calls Tryz.prog 228 #[.iface 177 x, .int .i64 (n : Nat)] w (ValR (.iface 177 x) w) := by
  have t1 := wb_4_1 x
  have t2 := wb_4_2 x
  have t8 := wb_4_8 x
  rcases wants hn with rfl | rfl | rfl | rfl | rfl | rfl | rfl | rfl | rfl | rfl | rfl
  · clear hn hh
    go_enter Tryz.func228, Tryz.ntmps228
    go_wp2
    go_ret
    exact ⟨rfl, rfl⟩
  · clear hn hh
    go_enter Tryz.func228, Tryz.ntmps228
    go_wp2
    go_ret
    exact ⟨rfl, rfl⟩
  · exact absurd hh (by decide)
  · exact absurd hh (by decide)
  · exact absurd hh (by decide)
  · exact absurd hh (by decide)
  · exact absurd hh (by decide)
  · clear hn hh
    go_enter Tryz.func228, Tryz.ntmps228
    go_wp2
    go_ret
    exact ⟨rfl, rfl⟩
  · exact absurd hh (by decide)
  · exact absurd hh (by decide)
  · exact absurd hh (by decide)
theorem one_no_4 (x : Value) (n : Nat) (hn : 1 ≤ n ∧ n ≤ 11) (hh : holdB 4 n = false) (w : World) : Calls Tryz.prog 228 #[.iface 177 x, .int .i64 (n : Nat)] w (PanR w) := by
  have hb : ∀ o, Below w.heap.size w (w.alloc o) := fun o => (Below.refl _ _).alloc (Nat.le_refl _) _
  rcases wants hn with rfl | rfl | rfl | rfl | rfl | rfl | rfl | rfl | rfl | rfl | rfl
  · exact absurd hh (by decide)
  · exact absurd hh (by decide)
  · obtain ⟨pv, ob, ht⟩ := wc_4_3 x w
    clear hn hh
    go_enter Tryz.func228, Tryz.ntmps228
    go_wp2
    exact ⟨rfl, _, rfl, hb _⟩
  · obtain ⟨pv, ob, ht⟩ := wc_4_4 x w
    clear hn hh
    go_enter Tryz.func228, Tryz.ntmps228
    go_wp2
    exact ⟨rfl, _, rfl, hb _⟩
  · obtain ⟨pv, ob, ht⟩ := wc_4_5 x w
    clear hn hh
    go_enter Tryz.func228, Tryz.ntmps228
    go_wp2
    exact ⟨rfl, _, rfl, hb _⟩
  · obtain ⟨pv, ob, ht⟩ := wc_4_6 x w
    clear hn hh
    go_enter Tryz.func228, Tryz.ntmps228
    go_wp2
    exact ⟨rfl, _, rfl, hb _⟩
  · obtain ⟨pv, ob, ht⟩ := wc_4_7 x w
    clear hn hh
    go_enter Tryz.func228, Tryz.ntmps228
    go_wp2
    exact ⟨rfl, _, rfl, hb _⟩
  · exact absurd hh (by decide)
  · obtain ⟨pv, ob, ht⟩ := wc_4_9 x w
    clear hn hh
    go_enter Tryz.func228, Tryz.ntmps228
    go_wp2
    exact ⟨rfl, _, rfl, hb _⟩
  · obtain ⟨pv, ob, ht⟩ := wc_4_10 x w
    clear hn hh
    go_enter Tryz.func228, Tryz.ntmps228
    go_wp2
    exact ⟨rfl, _, rfl, hb _⟩
  · obtain ⟨pv, ob, ht⟩ := wc_4_11 x w
    clear hn hh
    go_enter Tryz.func228, Tryz.ntmps228
    go_wp2
    exact ⟨rfl, _, rfl, hb _⟩
theorem one_yes_5 (x : Value) (n : Nat) (hn : 1 ≤ n ∧ n ≤ 11) (hh : holdB 5 n = true) (w : World) : Calls Tryz.prog 228 #[.iface 178 x, .int .i64 (n : Nat)] w (ValR (.iface 178 x) w) := by
  have t1 := wb_5_1 x
  have t3 := wb_5_3 x
  have t9 := wb_5_9 x
  rcases wants hn with rfl | rfl | rfl | rfl | rfl | rfl | rfl | rfl | rfl | rfl | rfl
  · clear hn hh
    go_enter Tryz.func228, Tryz.ntmps228
    go_wp2
    go_ret
    exact ⟨rfl, rfl⟩
  · exact absurd hh (by decide)
  · clear hn hh
    go_enter Tryz.func228, Tryz.ntmps228
    go_wp2
    go_ret
    exact ⟨rfl, rfl⟩
  · exact absurd hh (by decide)
  · exact absurd hh (by decide)
  · exact absurd hh (by decide)
  · exact absurd hh (by decide)
  · exact absurd hh (by decide)
  · clear hn hh
    go_enter Tryz.func228, Tryz.ntmps228
    go_wp2
    go_ret
    exact ⟨rfl, rfl⟩
  · exact absurd hh (by decide)
  · exact absurd hh (by decide)
theorem one_no_5 (x : Value) (n : Nat) (hn : 1 ≤ n ∧ n ≤ 11) (hh : holdB 5 n = false) (w : World) : Calls Tryz.prog 228 #[.iface 178 x, .int .i64 (n : Nat)] w (PanR w) := by
  have hb : ∀ o, Below w.heap.size w (w.alloc o) := fun o => (Below.refl _ _).alloc (Nat.le_refl _) _
  rcases wants hn with rfl | rfl | rfl | rfl | rfl | rfl | rfl | rfl | rfl | rfl | rfl
  · exact absurd hh (by decide)
  · obtain ⟨pv, ob, ht⟩ := wc_5_2 x w
    clear hn hh
    go_enter Tryz.func228, Tryz.ntmps228
    go_wp2
    exact ⟨rfl, _, rfl, hb _⟩
  · exact absurd hh (by decide)
  · obtain ⟨pv, ob, ht⟩ := wc_5_4 x w
    clear hn hh
    go_enter Tryz.func228, Tryz.ntmps228
    go_wp2
    exact ⟨rfl, _, rfl, hb _⟩
  · obtain ⟨pv, ob, ht⟩ := wc_5_5 x w
    clear hn hh
    go_enter Tryz.func228, Tryz.ntmps228
    go_wp2
    exact ⟨rfl, _, rfl, hb _⟩
  · obtain ⟨pv, ob, ht⟩ := wc_5_6 x w
    clear hn hh
    go_enter Tryz.func228, Tryz.ntmps228
    go_wp2
    exact ⟨rfl, _, rfl, hb _⟩
  · obtain ⟨pv, ob, ht⟩ := wc_5_7 x w
    clear hn hh
    go_enter Tryz.func228, Tryz.ntmps228
    go_wp2
    exact ⟨rfl, _, rfl, hb _⟩
  · obtain ⟨pv, ob, ht⟩ := wc_5_8 x w
    clear hn hh
    go_enter Tryz.func228, Tryz.ntmps228
    go_wp2
    exact ⟨rfl, _, rfl, hb _⟩
  · exact absurd hh (by decide)
  · obtain ⟨pv, ob, ht⟩ := wc_5_10 x w
    clear hn hh
    go_enter Tryz.func228, Tryz.ntmps228
    go_wp2
    exact ⟨rfl, _, rfl, hb _⟩
  · obtain ⟨pv, ob, ht⟩ := wc_5_11 x w
    clear hn hh
    go_enter Tryz.func228, Tryz.ntmps228
    go_wp2
    exact ⟨rfl, _, rfl, hb _⟩
theorem one_yes_6 (x : Value) (n : Nat) (hn : 1 ≤ n ∧ n ≤ 11) (hh : holdB 6 n = true) (w : World) : Calls Tryz.prog 228 #[.iface 180 x, .int .i64 (n : Nat)] w (ValR (.iface 180 x) w) := by
  have t1 := wb_6_1 x
  have t3 := wb_6_3 x
  have t4 := wb_6_4 x
  have t10 := wb_6_10 x
  rcases wants hn with rfl | rfl | rfl | rfl | rfl | rfl | rfl | rfl | rfl | rfl | rfl
  · clear hn hh
    go_enter Tryz.func228, Tryz.ntmps228
    go_wp2
    go_ret
    exact ⟨rfl, rfl⟩
  · exact absurd hh (by decide)
  · clear hn hh
    go_enter Tryz.func228, Tryz.ntmps228
    go_wp2
    go_ret
    exact ⟨rfl, rfl⟩
  · clear hn hh
    go_enter Tryz.func228, Tryz.ntmps228
    go_wp2
    go_ret
    exact ⟨rfl, rfl⟩
  · exact absurd hh (by decide)
  · exact absurd hh (by decide)
  · exact absurd hh (by decide)
  · exact absurd hh (by decide)
  · exact absurd hh (by decide)
  · clear hn hh
    go_enter Tryz.func228, Tryz.ntmps228
    go_wp2
    go_ret
    exact ⟨rfl, rfl⟩
  · exact absurd hh (by decide)
theorem one_no_6 (x : Value) (n : Nat) (hn : 1 ≤ n ∧ n ≤ 11) (hh : holdB 6 n = false) (w : World) : Calls Tryz.prog 228 #[.iface 180 x, .int .i64 (n : Nat)] w (PanR w) := by
  have hb : ∀ o, Below w.heap.size w (w.alloc o) := fun o => (Below.refl _ _).alloc (Nat.le_refl _) _
  rcases wants hn with rfl | rfl | rfl | rfl | rfl | rfl | rfl | rfl | rfl | rfl | rfl
  · exact absurd hh (by decide)
  · obtain ⟨pv, ob, ht⟩ := wc_6_2 x w
    clear hn hh
    go_enter Tryz.func228, Tryz.ntmps228
    go_wp2
    exact ⟨rfl, _, rfl, hb _⟩
  · exact absurd hh (by decide)
  · exact absurd hh (by decide)
  · obtain ⟨pv, ob, ht⟩ := wc_6_5 x w
    clear hn hh
    go_enter Tryz.func228, Tryz.ntmps228
    go_wp2
    exact ⟨rfl, _, rfl, hb _⟩
  · obtain ⟨pv, ob, ht⟩ := wc_6_6 x w
    clear hn hh
    go_enter Tryz.func228, Tryz.ntmps228
    go_wp2
    exact ⟨rfl, _, rfl, hb _⟩
  · obtain ⟨pv, ob, ht⟩ := wc_6_7 x w
    clear hn hh
    go_enter Tryz.func228, Tryz.ntmps228
    go_wp2
    exact ⟨rfl, _, rfl, hb _⟩
  · obtain ⟨pv, ob, ht⟩ := wc_6_8 x w
    clear hn hh
    go_enter Tryz.func228, Tryz.ntmps228
    go_wp2
    exact ⟨rfl, _, rfl, hb _⟩
  · obtain ⟨pv, ob, ht⟩ := wc_6_9 x w
    clear hn hh
    go_enter Tryz.func228, Tryz.ntmps228
    go_wp2
    exact ⟨rfl, _, rfl, hb _⟩
  · exact absurd hh (by decide)
  · obtain ⟨pv, ob, ht⟩ := wc_6_11 x w
    clear hn hh
    go_enter Tryz.func228, Tryz.ntmps228
    go_wp2
    exact ⟨rfl, _, rfl, hb _⟩
theorem one_yes_7 (x : Value) (n : Nat) (hn : 1 ≤ n ∧ n ≤ 11) (hh : holdB 7 n = true) (w : World) : Calls Tryz.prog 228 #[.iface 56 x, .int .i64 (n : Nat)] w (ValR (.iface 56 x) w) := by
  have t1 := wb_7_1 x
  have t11 := wb_7_11 x
  rcases wants hn with rfl | rfl | rfl | rfl | rfl | rfl | rfl | rfl | rfl | rfl | rfl
  · clear hn hh
    go_enter Tryz.func228, Tryz.ntmps228
    go_wp2
    go_ret
    exact ⟨rfl, rfl⟩
  · exact absurd hh (by decide)
  · exact absurd hh (by decide)
  · exact absurd hh (by decide)
  · exact absurd hh (by decide)
  · exact absurd hh (by decide)
  · exact absurd hh (by decide)
  · exact absurd hh (by decide)
  · exact absurd hh (by decide)
  · exact absurd hh (by decide)
  · clear hn hh
    go_enter Tryz.func228, Tryz.ntmps228
    go_wp2
    go_ret
    exact ⟨rfl, rfl⟩
theorem one_no_7 (x : Value) (n : Nat) (hn : 1 ≤ n ∧ n ≤ 11) (hh : holdB 7 n = false) (w : World) : Calls Tryz.prog 228 #[.iface 56 x, .int .i64 (n : Nat)] w (PanR w) := by
  have hb : ∀ o, Below w.heap.size w (w.alloc o) := fun o => (Below.refl _ _).alloc (Nat.le_refl _) _
  rcases wants hn with rfl | rfl | rfl | rfl | rfl | rfl | rfl | rfl | rfl | rfl | rfl
  · exact absurd hh (by decide)
  · obtain ⟨pv, ob, ht⟩ := wc_7_2 x w
    clear hn hh
    go_enter Tryz.func228, Tryz.ntmps228
    go_wp2
    exact ⟨rfl, _, rfl, hb _⟩
  · obtain ⟨pv, ob, ht⟩ := wc_7_3 x w
    clear hn hh
    go_enter Tryz.func228, Tryz.ntmps228
    go_wp2
    exact ⟨rfl, _, rfl, hb _⟩
  · obtain ⟨pv, ob, ht⟩ := wc_7_4 x w
    clear hn hh
    go_enter Tryz.func228, Tryz.ntmps228
    go_wp2
    exact ⟨rfl, _, rfl, hb _⟩
  · obtain ⟨pv, ob, ht⟩ := wc_7_5 x w
    clear hn hh
    go_enter Tryz.func228, Tryz.ntmps228
    go_wp2
    exact ⟨rfl, _, rfl, hb _⟩
  · obtain ⟨pv, ob, ht⟩ := wc_7_6 x w
    clear hn hh
    go_enter Tryz.func228, Tryz.ntmps228
    go_wp2
    exact ⟨rfl, _, rfl, hb _⟩
  · obtain ⟨pv, ob, ht⟩ := wc_7_7 x w
    clear hn hh
    go_enter Tryz.func228, Tryz.ntmps228
    go_wp2
    exact ⟨rfl, _, rfl, hb _⟩
  · obtain ⟨pv, ob, ht⟩ := wc_7_8 x w
    clear hn hh
    go_enter Tryz.func228, Tryz.ntmps228
    go_wp2
    exact ⟨rfl, _, rfl, hb _⟩
  · obtain ⟨pv, ob, ht⟩ := wc_7_9 x w
    clear hn hh
    go_enter Tryz.func228, Tryz.ntmps228
    go_wp2
    exact ⟨rfl, _, rfl, hb _⟩
  · obtain ⟨pv, ob, ht⟩ := wc_7_10 x w
    clear hn hh
    go_enter Tryz.func228, Tryz.ntmps228
    go_wp2
    exact ⟨rfl, _, rfl, hb _⟩
  · exact absurd hh (by decide)
end Nd
end Go.Proofs.YtmcmoaeheadihaaGreatDoor
namespace Go.Proofs.YtmcmoaeheadihaaGreatDoor
open Go.RowKit Mem
set_option linter.unusedVariables false
set_option linter.unusedSimpArgs false
namespace Nd
theorem akind_1 (x : Value) (w : World) : Calls Tryz.prog 257 #[.iface 172 x] w fun e w' => e = .returned (.int .i64 5) ∧ w = w' := by
  have t5 := wa_1_5 x
  have t6 := wa_1_6 x
  have t7 := wa_1_7 x
  go_enter Tryz.func257, Tryz.ntmps257
  go_wp2
  go_ret
  exact ⟨rfl, rfl⟩
theorem akind_2 (x : Value) (w : World) : Calls Tryz.prog 257 #[.iface 173 x] w fun e w' => e = .returned (.int .i64 6) ∧ w = w' := by
  have t5 := wa_2_5 x
  have t6 := wa_2_6 x
  have t7 := wa_2_7 x
  go_enter Tryz.func257, Tryz.ntmps257
  go_wp2
  go_ret
  exact ⟨rfl, rfl⟩
theorem akind_3 (x : Value) (w : World) : Calls Tryz.prog 257 #[.iface 175 x] w fun e w' => e = .returned (.int .i64 7) ∧ w = w' := by
  have t5 := wa_3_5 x
  have t6 := wa_3_6 x
  have t7 := wa_3_7 x
  go_enter Tryz.func257, Tryz.ntmps257
  go_wp2
  go_ret
  exact ⟨rfl, rfl⟩
theorem akind_4 (x : Value) (w : World) : Calls Tryz.prog 257 #[.iface 177 x] w fun e w' => e = .returned (.int .i64 8) ∧ w = w' := by
  have t5 := wa_4_5 x
  have t6 := wa_4_6 x
  have t7 := wa_4_7 x
  go_enter Tryz.func257, Tryz.ntmps257
  go_wp2
  go_ret
  exact ⟨rfl, rfl⟩
theorem sw_nil (T : TypeId) (x : Value) (W : World) : (binOp .eql 42 (.iface T x) .nilIface).run Tryz.prog W = .ok (.bool false) W := by kernel_rfl
theorem sw_nil0 (W : World) : (binOp .eql 42 .nilIface .nilIface).run Tryz.prog W = .ok (.bool true) W := by kernel_rfl
theorem sw_0 (n : Nat) (hn : 1 ≤ n ∧ n ≤ 11) (w : World) : Calls Tryz.prog 229 #[.nilIface, .int .i64 (n : Nat)] w (BoolR (holdB 0 n) w) := by
  have q0 := sw_nil
  have q1 := sw_nil0
  have t11 := wa_0_11
  have t4 := wa_0_4
  have t3 := wa_0_3
  rcases wants hn with rfl | rfl | rfl | rfl | rfl | rfl | rfl | rfl | rfl | rfl | rfl
  all_goals
    clear hn
    go_enter Tryz.func229, Tryz.ntmps229
    go_wp2
    go_ret
    exact ⟨rfl, rfl⟩
theorem sw_1 (x : Value) (n : Nat) (hn : 1 ≤ n ∧ n ≤ 11) (w : World) : Calls Tryz.prog 229 #[.iface 172 x, .int .i64 (n : Nat)] w (BoolR (holdB 1 n) w) := by
  have q0 := sw_nil
  have q1 := sw_nil0
  have t11 := wa_1_11 x
  have t4 := wa_1_4 x
  have t3 := wa_1_3 x
  rcases wants hn with rfl | rfl | rfl | rfl | rfl | rfl | rfl | rfl | rfl | rfl | rfl
  all_goals
    clear hn
    go_enter Tryz.func229, Tryz.ntmps229
    go_wp2_with (first | ((with_reducible refine (akind_1 x _).mono ?_); rintro e w' ⟨rfl, rfl⟩))
    go_ret
    exact ⟨rfl, rfl⟩
theorem sw_2 (x : Value) (n : Nat) (hn : 1 ≤ n ∧ n ≤ 11) (w : World) : Calls Tryz.prog 229 #[.iface 173 x, .int .i64 (n : Nat)] w (BoolR (holdB 2 n) w) := by
  have q0 := sw_nil
  have q1 := sw_nil0
  have t11 := wa_2_11 x
  have t4 := wa_2_4 x
  have t3 := wa_2_3 x
  rcases wants hn with rfl | rfl | rfl | rfl | rfl | rfl | rfl | rfl | rfl | rfl | rfl
  all_goals
    clear hn
    go_enter Tryz.func229, Tryz.ntmps229
    go_wp2_with (first | ((with_reducible refine (akind_2 x _).mono ?_); rintro e w' ⟨rfl, rfl⟩))
    go_ret
    exact ⟨rfl, rfl⟩
theorem sw_3 (x : Value) (n : Nat) (hn : 1 ≤ n ∧ n ≤ 11) (w : World) : Calls Tryz.prog 229 #[.iface 175 x, .int .i64 (n : Nat)] w (BoolR (holdB 3 n) w) := by
  have q0 := sw_nil
  have q1 := sw_nil0
  have t11 := wa_3_11 x
  have t4 := wa_3_4 x
  have t3 := wa_3_3 x
  rcases wants hn with rfl | rfl | rfl | rfl | rfl | rfl | rfl | rfl | rfl | rfl | rfl
  all_goals
    clear hn
    go_enter Tryz.func229, Tryz.ntmps229
    go_wp2_with (first | ((with_reducible refine (akind_3 x _).mono ?_); rintro e w' ⟨rfl, rfl⟩))
    go_ret
    exact ⟨rfl, rfl⟩
theorem sw_4 (x : Value) (n : Nat) (hn : 1 ≤ n ∧ n ≤ 11) (w : World) : Calls Tryz.prog 229 #[.iface 177 x, .int .i64 (n : Nat)] w (BoolR (holdB 4 n) w) := by
  have q0 := sw_nil
  have q1 := sw_nil0
  have t11 := wa_4_11 x
  have t4 := wa_4_4 x
  have t3 := wa_4_3 x
  rcases wants hn with rfl | rfl | rfl | rfl | rfl | rfl | rfl | rfl | rfl | rfl | rfl
  all_goals
    clear hn
    go_enter Tryz.func229, Tryz.ntmps229
    go_wp2_with (first | ((with_reducible refine (akind_4 x _).mono ?_); rintro e w' ⟨rfl, rfl⟩))
    go_ret
    exact ⟨rfl, rfl⟩
theorem sw_5 (x : Value) (n : Nat) (hn : 1 ≤ n ∧ n ≤ 11) (w : World) : Calls Tryz.prog 229 #[.iface 178 x, .int .i64 (n : Nat)] w (BoolR (holdB 5 n) w) := by
  have q0 := sw_nil
  have q1 := sw_nil0
  have t11 := wa_5_11 x
  have t4 := wa_5_4 x
  have t3 := wa_5_3 x
  rcases wants hn with rfl | rfl | rfl | rfl | rfl | rfl | rfl | rfl | rfl | rfl | rfl
  all_goals
    clear hn
    go_enter Tryz.func229, Tryz.ntmps229
    go_wp2
    go_ret
    exact ⟨rfl, rfl⟩
theorem sw_6 (x : Value) (n : Nat) (hn : 1 ≤ n ∧ n ≤ 11) (w : World) : Calls Tryz.prog 229 #[.iface 180 x, .int .i64 (n : Nat)] w (BoolR (holdB 6 n) w) := by
  have q0 := sw_nil
  have q1 := sw_nil0
  have t11 := wa_6_11 x
  have t4 := wa_6_4 x
  have t3 := wa_6_3 x
  rcases wants hn with rfl | rfl | rfl | rfl | rfl | rfl | rfl | rfl | rfl | rfl | rfl
  all_goals
    clear hn
    go_enter Tryz.func229, Tryz.ntmps229
    go_wp2
    go_ret
    exact ⟨rfl, rfl⟩
theorem sw_7 (x : Value) (n : Nat) (hn : 1 ≤ n ∧ n ≤ 11) (w : World) : Calls Tryz.prog 229 #[.iface 56 x, .int .i64 (n : Nat)] w (BoolR (holdB 7 n) w) := by
  have q0 := sw_nil
  have q1 := sw_nil0
  have t11 := wa_7_11 x
  have t4 := wa_7_4 x
  have t3 := wa_7_3 x
  rcases wants hn with rfl | rfl | rfl | rfl | rfl | rfl | rfl | rfl | rfl | rfl | rfl
  all_goals
    clear hn
    go_enter Tryz.func229, Tryz.ntmps229
    go_wp2
    go_ret
    exact ⟨rfl, rfl⟩
end Nd
end Go.Proofs.YtmcmoaeheadihaaGreatDoor
