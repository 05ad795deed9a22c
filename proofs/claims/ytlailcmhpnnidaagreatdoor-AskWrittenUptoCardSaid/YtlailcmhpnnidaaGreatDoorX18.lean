/-
  Told values: what assertions of them come to, in all forms. Walks of package ask: an assertion with two results, of each class of what is told. Walks of package ask: an assertion with one result, of each class of what is told. Walks of package ask: a type switch, of each class of what is told.
-/
import Derived.Test.YtlailcmhpnnidaaGreatDoorProg
import Derived.Test.YtlailcmhpnnidaaGreatDoorX4
import Derived.WalkKit
import Derived.Stop.Asserts
import Derived.WalkLawsBesides
import Derived.Lib.Hide
set_option linter.unusedVariables false
set_option linter.unusedSimpArgs false
set_option maxRecDepth 100000
set_option maxHeartbeats 16000000
namespace Go.Proofs.YtlailcmhpnnidaaGreatDoor
open Go.RowKit Mem
namespace Nd
def holdB (k w : Nat) : Bool :=
 if k = 0 then false else
 if w = 1 then true else
 if w = 2 then decide (k ≤ 4) else
 if w = 3 then decide (k = 5 ∨ k = 6) else
 if w = 4 then decide (k = 6) else
 if w = 11 then decide (7 ≤ k) else decide (k + 4 = w)
theorem assert_elem (W : World) : (elemOf Tryz.prog.rt.typeAssertionError).run Tryz.prog W = .ok 339 W := by kernel_rfl
theorem assert_panic (i c : Option TypeId) (a : TypeId) (m : String) (W : World) : ∃ pv o, (runtimePanic (.typeAssertion i c a m) : Sem Value).run Tryz.prog W = .halt (.panic (.iface 15 pv)) (W.alloc o) := by
 have h := assert_elem W
 have hr : Tryz.prog.rt.typeAssertionError = 15 := by kernel_rfl
 rw [hr] at h
 unfold runtimePanic
 simp [newVar, goPanic, go_sem, h]
 exact ⟨_, rfl⟩
def Dies (v : Value) (t : TypeId) : Prop := ∀ W, ∃ pv o, (Instr.typeAssert v 35 t false).run Tryz.prog W = .halt (.panic (.iface 15 pv)) (W.alloc o)
theorem dies_lacks {t a : TypeId} {want : Array (String × TypeId)} (hu : Tryz.prog.underlying a = some (.interface want)) (h : (Tryz.prog.info? t).map (fun i => (lacking want i.methods).isEmpty) = some false) (x : Value) : Dies (.iface t x) a := by
 intro W
 obtain ⟨i, hi, hl⟩ := Option.map_eq_some_iff.1 h
 obtain ⟨m, hm⟩ := missingMethod_some (want := want) (got := i.methods) (fun e => by rw [e] at hl; cases hl)
 have e : (Instr.typeAssert (.iface t x) 35 a false).run Tryz.prog W = (runtimePanic (.typeAssertion none (some t) a m) : Sem Value).run Tryz.prog W := by
  simp [Instr.typeAssert, run_underlying hu, typeInfo, hi, hm]
 rw [e]
 exact assert_panic _ _ _ _ W
theorem dies_of {v : Value} {t : TypeId} {i c : Option TypeId} {m : String} (h : ∀ W, (Instr.typeAssert v 35 t false).run Tryz.prog W = (runtimePanic (.typeAssertion i c t m) : Sem Value).run Tryz.prog W) : Dies v t := fun W => by
 rw [h W]
 exact assert_panic _ _ _ _ W
theorem wa_0_1 (W : World) : (Instr.typeAssert .nilIface 35 35 true).run Tryz.prog W = .ok (.tuple #[.nilIface, .bool false]) W := by kernel_rfl
theorem wc_0_1 : Dies .nilIface 35 := dies_of (i := none) (c := none) (m := "") fun W => by kernel_rfl
theorem wa_0_2 (W : World) : (Instr.typeAssert .nilIface 35 173 true).run Tryz.prog W = .ok (.tuple #[.nilIface, .bool false]) W := by kernel_rfl
theorem wc_0_2 : Dies .nilIface 173 := dies_of (i := none) (c := none) (m := "") fun W => by kernel_rfl
theorem wa_0_3 (W : World) : (Instr.typeAssert .nilIface 35 126 true).run Tryz.prog W = .ok (.tuple #[.nilIface, .bool false]) W := by kernel_rfl
theorem wc_0_3 : Dies .nilIface 126 := dies_of (i := none) (c := none) (m := "") fun W => by kernel_rfl
theorem wa_0_4 (W : World) : (Instr.typeAssert .nilIface 35 122 true).run Tryz.prog W = .ok (.tuple #[.nilIface, .bool false]) W := by kernel_rfl
theorem wc_0_4 : Dies .nilIface 122 := dies_of (i := none) (c := none) (m := "") fun W => by kernel_rfl
theorem wa_0_5 (W : World) : (Instr.typeAssert .nilIface 35 103 true).run Tryz.prog W = .ok (.tuple #[.agg #[], .bool false]) W := by kernel_rfl
theorem wc_0_5 : Dies .nilIface 103 := dies_of (i := some 35) (c := none) (m := "") fun W => by kernel_rfl
theorem wa_0_6 (W : World) : (Instr.typeAssert .nilIface 35 104 true).run Tryz.prog W = .ok (.tuple #[.bool false, .bool false]) W := by kernel_rfl
theorem wc_0_6 : Dies .nilIface 104 := dies_of (i := some 35) (c := none) (m := "") fun W => by kernel_rfl
theorem wa_0_7 (W : World) : (Instr.typeAssert .nilIface 35 106 true).run Tryz.prog W = .ok (.tuple #[.float .f64 0, .bool false]) W := by kernel_rfl
theorem wc_0_7 : Dies .nilIface 106 := dies_of (i := some 35) (c := none) (m := "") fun W => by kernel_rfl
theorem wa_0_8 (W : World) : (Instr.typeAssert .nilIface 35 108 true).run Tryz.prog W = .ok (.tuple #[.string ⟨#[]⟩, .bool false]) W := by kernel_rfl
theorem wc_0_8 : Dies .nilIface 108 := dies_of (i := some 35) (c := none) (m := "") fun W => by kernel_rfl
theorem wa_0_9 (W : World) : (Instr.typeAssert .nilIface 35 109 true).run Tryz.prog W = .ok (.tuple #[.slice none 0 0, .bool false]) W := by kernel_rfl
theorem wc_0_9 : Dies .nilIface 109 := dies_of (i := some 35) (c := none) (m := "") fun W => by kernel_rfl
theorem wa_0_10 (W : World) : (Instr.typeAssert .nilIface 35 112 true).run Tryz.prog W = .ok (.tuple #[.slice none 0 0, .bool false]) W := by kernel_rfl
theorem wc_0_10 : Dies .nilIface 112 := dies_of (i := some 35) (c := none) (m := "") fun W => by kernel_rfl
theorem wa_0_11 (W : World) : (Instr.typeAssert .nilIface 35 53 true).run Tryz.prog W = .ok (.tuple #[.pointer none, .bool false]) W := by kernel_rfl
theorem wc_0_11 : Dies .nilIface 53 := dies_of (i := some 35) (c := none) (m := "") fun W => by kernel_rfl
theorem wa_1_1 (x : Value) (W : World) : (Instr.typeAssert (.iface 103 x) 35 35 true).run Tryz.prog W = .ok (.tuple #[.iface 103 x, .bool true]) W := run_typeAssert_hasB Tryz.underlying35 (by kernel_rfl) _ _ W
theorem wb_1_1 (x : Value) (W : World) : (Instr.typeAssert (.iface 103 x) 35 35 false).run Tryz.prog W = .ok (.iface 103 x) W := by kernel_rfl
theorem wa_1_2 (x : Value) (W : World) : (Instr.typeAssert (.iface 103 x) 35 173 true).run Tryz.prog W = .ok (.tuple #[.iface 103 x, .bool true]) W := run_typeAssert_hasB Tryz.underlying173 (by kernel_rfl) _ _ W
theorem wb_1_2 (x : Value) (W : World) : (Instr.typeAssert (.iface 103 x) 35 173 false).run Tryz.prog W = .ok (.iface 103 x) W := by kernel_rfl
theorem wa_1_3 (x : Value) (W : World) : (Instr.typeAssert (.iface 103 x) 35 126 true).run Tryz.prog W = .ok (.tuple #[.nilIface, .bool false]) W := run_typeAssert_lacksB Tryz.underlying126 (by kernel_rfl) (by kernel_rfl) _ _ W
theorem wc_1_3 (x : Value) : Dies (.iface 103 x) 126 := dies_lacks Tryz.underlying126 (by kernel_rfl) x
theorem wa_1_4 (x : Value) (W : World) : (Instr.typeAssert (.iface 103 x) 35 122 true).run Tryz.prog W = .ok (.tuple #[.nilIface, .bool false]) W := run_typeAssert_lacksB Tryz.underlying122 (by kernel_rfl) (by kernel_rfl) _ _ W
theorem wc_1_4 (x : Value) : Dies (.iface 103 x) 122 := dies_lacks Tryz.underlying122 (by kernel_rfl) x
theorem wa_1_5 (x : Value) (W : World) : (Instr.typeAssert (.iface 103 x) 35 103 true).run Tryz.prog W = .ok (.tuple #[x, .bool true]) W := by kernel_rfl
theorem wb_1_5 (x : Value) (W : World) : (Instr.typeAssert (.iface 103 x) 35 103 false).run Tryz.prog W = .ok (x) W := by kernel_rfl
theorem wa_1_6 (x : Value) (W : World) : (Instr.typeAssert (.iface 103 x) 35 104 true).run Tryz.prog W = .ok (.tuple #[.bool false, .bool false]) W := by kernel_rfl
theorem wc_1_6 (x : Value) : Dies (.iface 103 x) 104 := dies_of (i := some 35) (c := some 103) (m := "") fun W => by kernel_rfl
theorem wa_1_7 (x : Value) (W : World) : (Instr.typeAssert (.iface 103 x) 35 106 true).run Tryz.prog W = .ok (.tuple #[.float .f64 0, .bool false]) W := by kernel_rfl
theorem wc_1_7 (x : Value) : Dies (.iface 103 x) 106 := dies_of (i := some 35) (c := some 103) (m := "") fun W => by kernel_rfl
theorem wa_1_8 (x : Value) (W : World) : (Instr.typeAssert (.iface 103 x) 35 108 true).run Tryz.prog W = .ok (.tuple #[.string ⟨#[]⟩, .bool false]) W := by kernel_rfl
theorem wc_1_8 (x : Value) : Dies (.iface 103 x) 108 := dies_of (i := some 35) (c := some 103) (m := "") fun W => by kernel_rfl
theorem wa_1_9 (x : Value) (W : World) : (Instr.typeAssert (.iface 103 x) 35 109 true).run Tryz.prog W = .ok (.tuple #[.slice none 0 0, .bool false]) W := by kernel_rfl
theorem wc_1_9 (x : Value) : Dies (.iface 103 x) 109 := dies_of (i := some 35) (c := some 103) (m := "") fun W => by kernel_rfl
theorem wa_1_10 (x : Value) (W : World) : (Instr.typeAssert (.iface 103 x) 35 112 true).run Tryz.prog W = .ok (.tuple #[.slice none 0 0, .bool false]) W := by kernel_rfl
theorem wc_1_10 (x : Value) : Dies (.iface 103 x) 112 := dies_of (i := some 35) (c := some 103) (m := "") fun W => by kernel_rfl
theorem wa_1_11 (x : Value) (W : World) : (Instr.typeAssert (.iface 103 x) 35 53 true).run Tryz.prog W = .ok (.tuple #[.pointer none, .bool false]) W := by kernel_rfl
theorem wc_1_11 (x : Value) : Dies (.iface 103 x) 53 := dies_of (i := some 35) (c := some 103) (m := "") fun W => by kernel_rfl
theorem wa_2_1 (x : Value) (W : World) : (Instr.typeAssert (.iface 104 x) 35 35 true).run Tryz.prog W = .ok (.tuple #[.iface 104 x, .bool true]) W := run_typeAssert_hasB Tryz.underlying35 (by kernel_rfl) _ _ W
theorem wb_2_1 (x : Value) (W : World) : (Instr.typeAssert (.iface 104 x) 35 35 false).run Tryz.prog W = .ok (.iface 104 x) W := by kernel_rfl
theorem wa_2_2 (x : Value) (W : World) : (Instr.typeAssert (.iface 104 x) 35 173 true).run Tryz.prog W = .ok (.tuple #[.iface 104 x, .bool true]) W := run_typeAssert_hasB Tryz.underlying173 (by kernel_rfl) _ _ W
theorem wb_2_2 (x : Value) (W : World) : (Instr.typeAssert (.iface 104 x) 35 173 false).run Tryz.prog W = .ok (.iface 104 x) W := by kernel_rfl
theorem wa_2_3 (x : Value) (W : World) : (Instr.typeAssert (.iface 104 x) 35 126 true).run Tryz.prog W = .ok (.tuple #[.nilIface, .bool false]) W := run_typeAssert_lacksB Tryz.underlying126 (by kernel_rfl) (by kernel_rfl) _ _ W
theorem wc_2_3 (x : Value) : Dies (.iface 104 x) 126 := dies_lacks Tryz.underlying126 (by kernel_rfl) x
theorem wa_2_4 (x : Value) (W : World) : (Instr.typeAssert (.iface 104 x) 35 122 true).run Tryz.prog W = .ok (.tuple #[.nilIface, .bool false]) W := run_typeAssert_lacksB Tryz.underlying122 (by kernel_rfl) (by kernel_rfl) _ _ W
theorem wc_2_4 (x : Value) : Dies (.iface 104 x) 122 := dies_lacks Tryz.underlying122 (by kernel_rfl) x
theorem wa_2_5 (x : Value) (W : World) : (Instr.typeAssert (.iface 104 x) 35 103 true).run Tryz.prog W = .ok (.tuple #[.agg #[], .bool false]) W := by kernel_rfl
theorem wc_2_5 (x : Value) : Dies (.iface 104 x) 103 := dies_of (i := some 35) (c := some 104) (m := "") fun W => by kernel_rfl
theorem wa_2_6 (x : Value) (W : World) : (Instr.typeAssert (.iface 104 x) 35 104 true).run Tryz.prog W = .ok (.tuple #[x, .bool true]) W := by kernel_rfl
theorem wb_2_6 (x : Value) (W : World) : (Instr.typeAssert (.iface 104 x) 35 104 false).run Tryz.prog W = .ok (x) W := by kernel_rfl
theorem wa_2_7 (x : Value) (W : World) : (Instr.typeAssert (.iface 104 x) 35 106 true).run Tryz.prog W = .ok (.tuple #[.float .f64 0, .bool false]) W := by kernel_rfl
theorem wc_2_7 (x : Value) : Dies (.iface 104 x) 106 := dies_of (i := some 35) (c := some 104) (m := "") fun W => by kernel_rfl
theorem wa_2_8 (x : Value) (W : World) : (Instr.typeAssert (.iface 104 x) 35 108 true).run Tryz.prog W = .ok (.tuple #[.string ⟨#[]⟩, .bool false]) W := by kernel_rfl
theorem wc_2_8 (x : Value) : Dies (.iface 104 x) 108 := dies_of (i := some 35) (c := some 104) (m := "") fun W => by kernel_rfl
theorem wa_2_9 (x : Value) (W : World) : (Instr.typeAssert (.iface 104 x) 35 109 true).run Tryz.prog W = .ok (.tuple #[.slice none 0 0, .bool false]) W := by kernel_rfl
theorem wc_2_9 (x : Value) : Dies (.iface 104 x) 109 := dies_of (i := some 35) (c := some 104) (m := "") fun W => by kernel_rfl
theorem wa_2_10 (x : Value) (W : World) : (Instr.typeAssert (.iface 104 x) 35 112 true).run Tryz.prog W = .ok (.tuple #[.slice none 0 0, .bool false]) W := by kernel_rfl
theorem wc_2_10 (x : Value) : Dies (.iface 104 x) 112 := dies_of (i := some 35) (c := some 104) (m := "") fun W => by kernel_rfl
theorem wa_2_11 (x : Value) (W : World) : (Instr.typeAssert (.iface 104 x) 35 53 true).run Tryz.prog W = .ok (.tuple #[.pointer none, .bool false]) W := by kernel_rfl
theorem wc_2_11 (x : Value) : Dies (.iface 104 x) 53 := dies_of (i := some 35) (c := some 104) (m := "") fun W => by kernel_rfl
theorem wa_3_1 (x : Value) (W : World) : (Instr.typeAssert (.iface 106 x) 35 35 true).run Tryz.prog W = .ok (.tuple #[.iface 106 x, .bool true]) W := run_typeAssert_hasB Tryz.underlying35 (by kernel_rfl) _ _ W
theorem wb_3_1 (x : Value) (W : World) : (Instr.typeAssert (.iface 106 x) 35 35 false).run Tryz.prog W = .ok (.iface 106 x) W := by kernel_rfl
theorem wa_3_2 (x : Value) (W : World) : (Instr.typeAssert (.iface 106 x) 35 173 true).run Tryz.prog W = .ok (.tuple #[.iface 106 x, .bool true]) W := run_typeAssert_hasB Tryz.underlying173 (by kernel_rfl) _ _ W
theorem wb_3_2 (x : Value) (W : World) : (Instr.typeAssert (.iface 106 x) 35 173 false).run Tryz.prog W = .ok (.iface 106 x) W := by kernel_rfl
theorem wa_3_3 (x : Value) (W : World) : (Instr.typeAssert (.iface 106 x) 35 126 true).run Tryz.prog W = .ok (.tuple #[.nilIface, .bool false]) W := run_typeAssert_lacksB Tryz.underlying126 (by kernel_rfl) (by kernel_rfl) _ _ W
theorem wc_3_3 (x : Value) : Dies (.iface 106 x) 126 := dies_lacks Tryz.underlying126 (by kernel_rfl) x
theorem wa_3_4 (x : Value) (W : World) : (Instr.typeAssert (.iface 106 x) 35 122 true).run Tryz.prog W = .ok (.tuple #[.nilIface, .bool false]) W := run_typeAssert_lacksB Tryz.underlying122 (by kernel_rfl) (by kernel_rfl) _ _ W
theorem wc_3_4 (x : Value) : Dies (.iface 106 x) 122 := dies_lacks Tryz.underlying122 (by kernel_rfl) x
theorem wa_3_5 (x : Value) (W : World) : (Instr.typeAssert (.iface 106 x) 35 103 true).run Tryz.prog W = .ok (.tuple #[.agg #[], .bool false]) W := by kernel_rfl
theorem wc_3_5 (x : Value) : Dies (.iface 106 x) 103 := dies_of (i := some 35) (c := some 106) (m := "") fun W => by kernel_rfl
theorem wa_3_6 (x : Value) (W : World) : (Instr.typeAssert (.iface 106 x) 35 104 true).run Tryz.prog W = .ok (.tuple #[.bool false, .bool false]) W := by kernel_rfl
theorem wc_3_6 (x : Value) : Dies (.iface 106 x) 104 := dies_of (i := some 35) (c := some 106) (m := "") fun W => by kernel_rfl
theorem wa_3_7 (x : Value) (W : World) : (Instr.typeAssert (.iface 106 x) 35 106 true).run Tryz.prog W = .ok (.tuple #[x, .bool true]) W := by kernel_rfl
theorem wb_3_7 (x : Value) (W : World) : (Instr.typeAssert (.iface 106 x) 35 106 false).run Tryz.prog W = .ok (x) W := by kernel_rfl
theorem wa_3_8 (x : Value) (W : World) : (Instr.typeAssert (.iface 106 x) 35 108 true).run Tryz.prog W = .ok (.tuple #[.string ⟨#[]⟩, .bool false]) W := by kernel_rfl
theorem wc_3_8 (x : Value) : Dies (.iface 106 x) 108 := dies_of (i := some 35) (c := some 106) (m := "") fun W => by kernel_rfl
theorem wa_3_9 (x : Value) (W : World) : (Instr.typeAssert (.iface 106 x) 35 109 true).run Tryz.prog W = .ok (.tuple #[.slice none 0 0, .bool false]) W := by kernel_rfl
theorem wc_3_9 (x : Value) : Dies (.iface 106 x) 109 := dies_of (i := some 35) (c := some 106) (m := "") fun W => by kernel_rfl
theorem wa_3_10 (x : Value) (W : World) : (Instr.typeAssert (.iface 106 x) 35 112 true).run Tryz.prog W = .ok (.tuple #[.slice none 0 0, .bool false]) W := by kernel_rfl
theorem wc_3_10 (x : Value) : Dies (.iface 106 x) 112 := dies_of (i := some 35) (c := some 106) (m := "") fun W => by kernel_rfl
theorem wa_3_11 (x : Value) (W : World) : (Instr.typeAssert (.iface 106 x) 35 53 true).run Tryz.prog W = .ok (.tuple #[.pointer none, .bool false]) W := by kernel_rfl
theorem wc_3_11 (x : Value) : Dies (.iface 106 x) 53 := dies_of (i := some 35) (c := some 106) (m := "") fun W => by kernel_rfl
theorem wa_4_1 (x : Value) (W : World) : (Instr.typeAssert (.iface 108 x) 35 35 true).run Tryz.prog W = .ok (.tuple #[.iface 108 x, .bool true]) W := run_typeAssert_hasB Tryz.underlying35 (by kernel_rfl) _ _ W
theorem wb_4_1 (x : Value) (W : World) : (Instr.typeAssert (.iface 108 x) 35 35 false).run Tryz.prog W = .ok (.iface 108 x) W := by kernel_rfl
theorem wa_4_2 (x : Value) (W : World) : (Instr.typeAssert (.iface 108 x) 35 173 true).run Tryz.prog W = .ok (.tuple #[.iface 108 x, .bool true]) W := run_typeAssert_hasB Tryz.underlying173 (by kernel_rfl) _ _ W
theorem wb_4_2 (x : Value) (W : World) : (Instr.typeAssert (.iface 108 x) 35 173 false).run Tryz.prog W = .ok (.iface 108 x) W := by kernel_rfl
theorem wa_4_3 (x : Value) (W : World) : (Instr.typeAssert (.iface 108 x) 35 126 true).run Tryz.prog W = .ok (.tuple #[.nilIface, .bool false]) W := run_typeAssert_lacksB Tryz.underlying126 (by kernel_rfl) (by kernel_rfl) _ _ W
theorem wc_4_3 (x : Value) : Dies (.iface 108 x) 126 := dies_lacks Tryz.underlying126 (by kernel_rfl) x
theorem wa_4_4 (x : Value) (W : World) : (Instr.typeAssert (.iface 108 x) 35 122 true).run Tryz.prog W = .ok (.tuple #[.nilIface, .bool false]) W := run_typeAssert_lacksB Tryz.underlying122 (by kernel_rfl) (by kernel_rfl) _ _ W
theorem wc_4_4 (x : Value) : Dies (.iface 108 x) 122 := dies_lacks Tryz.underlying122 (by kernel_rfl) x
theorem wa_4_5 (x : Value) (W : World) : (Instr.typeAssert (.iface 108 x) 35 103 true).run Tryz.prog W = .ok (.tuple #[.agg #[], .bool false]) W := by kernel_rfl
theorem wc_4_5 (x : Value) : Dies (.iface 108 x) 103 := dies_of (i := some 35) (c := some 108) (m := "") fun W => by kernel_rfl
theorem wa_4_6 (x : Value) (W : World) : (Instr.typeAssert (.iface 108 x) 35 104 true).run Tryz.prog W = .ok (.tuple #[.bool false, .bool false]) W := by kernel_rfl
theorem wc_4_6 (x : Value) : Dies (.iface 108 x) 104 := dies_of (i := some 35) (c := some 108) (m := "") fun W => by kernel_rfl
theorem wa_4_7 (x : Value) (W : World) : (Instr.typeAssert (.iface 108 x) 35 106 true).run Tryz.prog W = .ok (.tuple #[.float .f64 0, .bool false]) W := by kernel_rfl
theorem wc_4_7 (x : Value) : Dies (.iface 108 x) 106 := dies_of (i := some 35) (c := some 108) (m := "") fun W => by kernel_rfl
theorem wa_4_8 (x : Value) (W : World) : (Instr.typeAssert (.iface 108 x) 35 108 true).run Tryz.prog W = .ok (.tuple #[x, .bool true]) W := by kernel_rfl
theorem wb_4_8 (x : Value) (W : World) : (Instr.typeAssert (.iface 108 x) 35 108 false).run Tryz.prog W = .ok (x) W := by kernel_rfl
theorem wa_4_9 (x : Value) (W : World) : (Instr.typeAssert (.iface 108 x) 35 109 true).run Tryz.prog W = .ok (.tuple #[.slice none 0 0, .bool false]) W := by kernel_rfl
theorem wc_4_9 (x : Value) : Dies (.iface 108 x) 109 := dies_of (i := some 35) (c := some 108) (m := "") fun W => by kernel_rfl
theorem wa_4_10 (x : Value) (W : World) : (Instr.typeAssert (.iface 108 x) 35 112 true).run Tryz.prog W = .ok (.tuple #[.slice none 0 0, .bool false]) W := by kernel_rfl
theorem wc_4_10 (x : Value) : Dies (.iface 108 x) 112 := dies_of (i := some 35) (c := some 108) (m := "") fun W => by kernel_rfl
theorem wa_4_11 (x : Value) (W : World) : (Instr.typeAssert (.iface 108 x) 35 53 true).run Tryz.prog W = .ok (.tuple #[.pointer none, .bool false]) W := by kernel_rfl
theorem wc_4_11 (x : Value) : Dies (.iface 108 x) 53 := dies_of (i := some 35) (c := some 108) (m := "") fun W => by kernel_rfl
theorem wa_5_1 (x : Value) (W : World) : (Instr.typeAssert (.iface 109 x) 35 35 true).run Tryz.prog W = .ok (.tuple #[.iface 109 x, .bool true]) W := run_typeAssert_hasB Tryz.underlying35 (by kernel_rfl) _ _ W
theorem wb_5_1 (x : Value) (W : World) : (Instr.typeAssert (.iface 109 x) 35 35 false).run Tryz.prog W = .ok (.iface 109 x) W := by kernel_rfl
theorem wa_5_2 (x : Value) (W : World) : (Instr.typeAssert (.iface 109 x) 35 173 true).run Tryz.prog W = .ok (.tuple #[.nilIface, .bool false]) W := run_typeAssert_lacksB Tryz.underlying173 (by kernel_rfl) (by kernel_rfl) _ _ W
theorem wc_5_2 (x : Value) : Dies (.iface 109 x) 173 := dies_lacks Tryz.underlying173 (by kernel_rfl) x
theorem wa_5_3 (x : Value) (W : World) : (Instr.typeAssert (.iface 109 x) 35 126 true).run Tryz.prog W = .ok (.tuple #[.iface 109 x, .bool true]) W := run_typeAssert_hasB Tryz.underlying126 (by kernel_rfl) _ _ W
theorem wb_5_3 (x : Value) (W : World) : (Instr.typeAssert (.iface 109 x) 35 126 false).run Tryz.prog W = .ok (.iface 109 x) W := by kernel_rfl
theorem wa_5_4 (x : Value) (W : World) : (Instr.typeAssert (.iface 109 x) 35 122 true).run Tryz.prog W = .ok (.tuple #[.nilIface, .bool false]) W := run_typeAssert_lacksB Tryz.underlying122 (by kernel_rfl) (by kernel_rfl) _ _ W
theorem wc_5_4 (x : Value) : Dies (.iface 109 x) 122 := dies_lacks Tryz.underlying122 (by kernel_rfl) x
theorem wa_5_5 (x : Value) (W : World) : (Instr.typeAssert (.iface 109 x) 35 103 true).run Tryz.prog W = .ok (.tuple #[.agg #[], .bool false]) W := by kernel_rfl
theorem wc_5_5 (x : Value) : Dies (.iface 109 x) 103 := dies_of (i := some 35) (c := some 109) (m := "") fun W => by kernel_rfl
theorem wa_5_6 (x : Value) (W : World) : (Instr.typeAssert (.iface 109 x) 35 104 true).run Tryz.prog W = .ok (.tuple #[.bool false, .bool false]) W := by kernel_rfl
theorem wc_5_6 (x : Value) : Dies (.iface 109 x) 104 := dies_of (i := some 35) (c := some 109) (m := "") fun W => by kernel_rfl
theorem wa_5_7 (x : Value) (W : World) : (Instr.typeAssert (.iface 109 x) 35 106 true).run Tryz.prog W = .ok (.tuple #[.float .f64 0, .bool false]) W := by kernel_rfl
theorem wc_5_7 (x : Value) : Dies (.iface 109 x) 106 := dies_of (i := some 35) (c := some 109) (m := "") fun W => by kernel_rfl
theorem wa_5_8 (x : Value) (W : World) : (Instr.typeAssert (.iface 109 x) 35 108 true).run Tryz.prog W = .ok (.tuple #[.string ⟨#[]⟩, .bool false]) W := by kernel_rfl
theorem wc_5_8 (x : Value) : Dies (.iface 109 x) 108 := dies_of (i := some 35) (c := some 109) (m := "") fun W => by kernel_rfl
theorem wa_5_9 (x : Value) (W : World) : (Instr.typeAssert (.iface 109 x) 35 109 true).run Tryz.prog W = .ok (.tuple #[x, .bool true]) W := by kernel_rfl
theorem wb_5_9 (x : Value) (W : World) : (Instr.typeAssert (.iface 109 x) 35 109 false).run Tryz.prog W = .ok (x) W := by kernel_rfl
theorem wa_5_10 (x : Value) (W : World) : (Instr.typeAssert (.iface 109 x) 35 112 true).run Tryz.prog W = .ok (.tuple #[.slice none 0 0, .bool false]) W := by kernel_rfl
theorem wc_5_10 (x : Value) : Dies (.iface 109 x) 112 := dies_of (i := some 35) (c := some 109) (m := "") fun W => by kernel_rfl
theorem wa_5_11 (x : Value) (W : World) : (Instr.typeAssert (.iface 109 x) 35 53 true).run Tryz.prog W = .ok (.tuple #[.pointer none, .bool false]) W := by kernel_rfl
theorem wc_5_11 (x : Value) : Dies (.iface 109 x) 53 := dies_of (i := some 35) (c := some 109) (m := "") fun W => by kernel_rfl
theorem wa_6_1 (x : Value) (W : World) : (Instr.typeAssert (.iface 112 x) 35 35 true).run Tryz.prog W = .ok (.tuple #[.iface 112 x, .bool true]) W := run_typeAssert_hasB Tryz.underlying35 (by kernel_rfl) _ _ W
theorem wb_6_1 (x : Value) (W : World) : (Instr.typeAssert (.iface 112 x) 35 35 false).run Tryz.prog W = .ok (.iface 112 x) W := by kernel_rfl
theorem wa_6_2 (x : Value) (W : World) : (Instr.typeAssert (.iface 112 x) 35 173 true).run Tryz.prog W = .ok (.tuple #[.nilIface, .bool false]) W := run_typeAssert_lacksB Tryz.underlying173 (by kernel_rfl) (by kernel_rfl) _ _ W
theorem wc_6_2 (x : Value) : Dies (.iface 112 x) 173 := dies_lacks Tryz.underlying173 (by kernel_rfl) x
theorem wa_6_3 (x : Value) (W : World) : (Instr.typeAssert (.iface 112 x) 35 126 true).run Tryz.prog W = .ok (.tuple #[.iface 112 x, .bool true]) W := run_typeAssert_hasB Tryz.underlying126 (by kernel_rfl) _ _ W
theorem wb_6_3 (x : Value) (W : World) : (Instr.typeAssert (.iface 112 x) 35 126 false).run Tryz.prog W = .ok (.iface 112 x) W := by kernel_rfl
theorem wa_6_4 (x : Value) (W : World) : (Instr.typeAssert (.iface 112 x) 35 122 true).run Tryz.prog W = .ok (.tuple #[.iface 112 x, .bool true]) W := run_typeAssert_hasB Tryz.underlying122 (by kernel_rfl) _ _ W
theorem wb_6_4 (x : Value) (W : World) : (Instr.typeAssert (.iface 112 x) 35 122 false).run Tryz.prog W = .ok (.iface 112 x) W := by kernel_rfl
theorem wa_6_5 (x : Value) (W : World) : (Instr.typeAssert (.iface 112 x) 35 103 true).run Tryz.prog W = .ok (.tuple #[.agg #[], .bool false]) W := by kernel_rfl
theorem wc_6_5 (x : Value) : Dies (.iface 112 x) 103 := dies_of (i := some 35) (c := some 112) (m := "") fun W => by kernel_rfl
theorem wa_6_6 (x : Value) (W : World) : (Instr.typeAssert (.iface 112 x) 35 104 true).run Tryz.prog W = .ok (.tuple #[.bool false, .bool false]) W := by kernel_rfl
theorem wc_6_6 (x : Value) : Dies (.iface 112 x) 104 := dies_of (i := some 35) (c := some 112) (m := "") fun W => by kernel_rfl
theorem wa_6_7 (x : Value) (W : World) : (Instr.typeAssert (.iface 112 x) 35 106 true).run Tryz.prog W = .ok (.tuple #[.float .f64 0, .bool false]) W := by kernel_rfl
theorem wc_6_7 (x : Value) : Dies (.iface 112 x) 106 := dies_of (i := some 35) (c := some 112) (m := "") fun W => by kernel_rfl
theorem wa_6_8 (x : Value) (W : World) : (Instr.typeAssert (.iface 112 x) 35 108 true).run Tryz.prog W = .ok (.tuple #[.string ⟨#[]⟩, .bool false]) W := by kernel_rfl
theorem wc_6_8 (x : Value) : Dies (.iface 112 x) 108 := dies_of (i := some 35) (c := some 112) (m := "") fun W => by kernel_rfl
theorem wa_6_9 (x : Value) (W : World) : (Instr.typeAssert (.iface 112 x) 35 109 true).run Tryz.prog W = .ok (.tuple #[.slice none 0 0, .bool false]) W := by kernel_rfl
theorem wc_6_9 (x : Value) : Dies (.iface 112 x) 109 := dies_of (i := some 35) (c := some 112) (m := "") fun W => by kernel_rfl
theorem wa_6_10 (x : Value) (W : World) : (Instr.typeAssert (.iface 112 x) 35 112 true).run Tryz.prog W = .ok (.tuple #[x, .bool true]) W := by kernel_rfl
theorem wb_6_10 (x : Value) (W : World) : (Instr.typeAssert (.iface 112 x) 35 112 false).run Tryz.prog W = .ok (x) W := by kernel_rfl
theorem wa_6_11 (x : Value) (W : World) : (Instr.typeAssert (.iface 112 x) 35 53 true).run Tryz.prog W = .ok (.tuple #[.pointer none, .bool false]) W := by kernel_rfl
theorem wc_6_11 (x : Value) : Dies (.iface 112 x) 53 := dies_of (i := some 35) (c := some 112) (m := "") fun W => by kernel_rfl
theorem wa_7_1 (x : Value) (W : World) : (Instr.typeAssert (.iface 53 x) 35 35 true).run Tryz.prog W = .ok (.tuple #[.iface 53 x, .bool true]) W := run_typeAssert_hasB Tryz.underlying35 (by kernel_rfl) _ _ W
theorem wb_7_1 (x : Value) (W : World) : (Instr.typeAssert (.iface 53 x) 35 35 false).run Tryz.prog W = .ok (.iface 53 x) W := by kernel_rfl
theorem wa_7_2 (x : Value) (W : World) : (Instr.typeAssert (.iface 53 x) 35 173 true).run Tryz.prog W = .ok (.tuple #[.nilIface, .bool false]) W := run_typeAssert_lacksB Tryz.underlying173 (by kernel_rfl) (by kernel_rfl) _ _ W
theorem wc_7_2 (x : Value) : Dies (.iface 53 x) 173 := dies_lacks Tryz.underlying173 (by kernel_rfl) x
theorem wa_7_3 (x : Value) (W : World) : (Instr.typeAssert (.iface 53 x) 35 126 true).run Tryz.prog W = .ok (.tuple #[.nilIface, .bool false]) W := run_typeAssert_lacksB Tryz.underlying126 (by kernel_rfl) (by kernel_rfl) _ _ W
theorem wc_7_3 (x : Value) : Dies (.iface 53 x) 126 := dies_lacks Tryz.underlying126 (by kernel_rfl) x
theorem wa_7_4 (x : Value) (W : World) : (Instr.typeAssert (.iface 53 x) 35 122 true).run Tryz.prog W = .ok (.tuple #[.nilIface, .bool false]) W := run_typeAssert_lacksB Tryz.underlying122 (by kernel_rfl) (by kernel_rfl) _ _ W
theorem wc_7_4 (x : Value) : Dies (.iface 53 x) 122 := dies_lacks Tryz.underlying122 (by kernel_rfl) x
theorem wa_7_5 (x : Value) (W : World) : (Instr.typeAssert (.iface 53 x) 35 103 true).run Tryz.prog W = .ok (.tuple #[.agg #[], .bool false]) W := by kernel_rfl
theorem wc_7_5 (x : Value) : Dies (.iface 53 x) 103 := dies_of (i := some 35) (c := some 53) (m := "") fun W => by kernel_rfl
theorem wa_7_6 (x : Value) (W : World) : (Instr.typeAssert (.iface 53 x) 35 104 true).run Tryz.prog W = .ok (.tuple #[.bool false, .bool false]) W := by kernel_rfl
theorem wc_7_6 (x : Value) : Dies (.iface 53 x) 104 := dies_of (i := some 35) (c := some 53) (m := "") fun W => by kernel_rfl
theorem wa_7_7 (x : Value) (W : World) : (Instr.typeAssert (.iface 53 x) 35 106 true).run Tryz.prog W = .ok (.tuple #[.float .f64 0, .bool false]) W := by kernel_rfl
theorem wc_7_7 (x : Value) : Dies (.iface 53 x) 106 := dies_of (i := some 35) (c := some 53) (m := "") fun W => by kernel_rfl
theorem wa_7_8 (x : Value) (W : World) : (Instr.typeAssert (.iface 53 x) 35 108 true).run Tryz.prog W = .ok (.tuple #[.string ⟨#[]⟩, .bool false]) W := by kernel_rfl
theorem wc_7_8 (x : Value) : Dies (.iface 53 x) 108 := dies_of (i := some 35) (c := some 53) (m := "") fun W => by kernel_rfl
theorem wa_7_9 (x : Value) (W : World) : (Instr.typeAssert (.iface 53 x) 35 109 true).run Tryz.prog W = .ok (.tuple #[.slice none 0 0, .bool false]) W := by kernel_rfl
theorem wc_7_9 (x : Value) : Dies (.iface 53 x) 109 := dies_of (i := some 35) (c := some 53) (m := "") fun W => by kernel_rfl
theorem wa_7_10 (x : Value) (W : World) : (Instr.typeAssert (.iface 53 x) 35 112 true).run Tryz.prog W = .ok (.tuple #[.slice none 0 0, .bool false]) W := by kernel_rfl
theorem wc_7_10 (x : Value) : Dies (.iface 53 x) 112 := dies_of (i := some 35) (c := some 53) (m := "") fun W => by kernel_rfl
theorem wa_7_11 (x : Value) (W : World) : (Instr.typeAssert (.iface 53 x) 35 53 true).run Tryz.prog W = .ok (.tuple #[x, .bool true]) W := by kernel_rfl
theorem wb_7_11 (x : Value) (W : World) : (Instr.typeAssert (.iface 53 x) 35 53 false).run Tryz.prog W = .ok (x) W := by kernel_rfl
end Nd
end Go.Proofs.YtlailcmhpnnidaaGreatDoor
namespace Go.Proofs.YtlailcmhpnnidaaGreatDoor
open Go.RowKit Mem
namespace Nd
def BoolR (b : Bool) (w : World) (e : Ending) (w' : World) : Prop := e = .returned (.bool b) ∧ w = w'
def ValR (v : Value) (w : World) (e : Ending) (w' : World) : Prop := e = .returned v ∧ w = w'
def PanR (w : World) (e : Ending) (w' : World) : Prop := ∃ pv, e = .panicked [{ v := .iface 15 pv, recovered := false }] ∧ Below w.heap.size w w'
theorem wants {n : Nat} (h : 1 ≤ n ∧ n ≤ 11) : n = 1 ∨ n = 2 ∨ n = 3 ∨ n = 4 ∨ n = 5 ∨ n = 6 ∨ n = 7 ∨ n = 8 ∨ n = 9 ∨ n = 10 ∨ n = 11 := by omega
theorem two_0 (n : Nat) (hn : 1 ≤ n ∧ n ≤ 11) (w : World) : Calls Tryz.prog 30 #[.nilIface, .int .i64 (n : Nat)] w (BoolR (holdB 0 n) w) := by
 have t1 := wa_0_1
 have t2 := wa_0_2
 have t3 := wa_0_3
 have t4 := wa_0_4
 have t5 := wa_0_5
 have t6 := wa_0_6
 have t7 := wa_0_7
 have t8 := wa_0_8
 have t9 := wa_0_9
 have t10 := wa_0_10
 have t11 := wa_0_11
 rcases wants hn with rfl | rfl | rfl | rfl | rfl | rfl | rfl | rfl | rfl | rfl | rfl
 all_goals
  clear hn
  go_enter Tryz.func30, Tryz.ntmps30
  go_wp2
  go_ret
  exact ⟨rfl, rfl⟩
theorem two_1 (x : Value) (n : Nat) (hn : 1 ≤ n ∧ n ≤ 11) (w : World) : Calls Tryz.prog 30 #[.iface 103 x, .int .i64 (n : Nat)] w (BoolR (holdB 1 n) w) := by
 have t1 := wa_1_1 x
 have t2 := wa_1_2 x
 have t3 := wa_1_3 x
 have t4 := wa_1_4 x
 have t5 := wa_1_5 x
 have t6 := wa_1_6 x
 have t7 := wa_1_7 x
 have t8 := wa_1_8 x
 have t9 := wa_1_9 x
 have t10 := wa_1_10 x
 have t11 := wa_1_11 x
 rcases wants hn with rfl | rfl | rfl | rfl | rfl | rfl | rfl | rfl | rfl | rfl | rfl
 all_goals
  clear hn
  go_enter Tryz.func30, Tryz.ntmps30
  go_wp2
  go_ret
  exact ⟨rfl, rfl⟩
theorem two_2 (x : Value) (n : Nat) (hn : 1 ≤ n ∧ n ≤ 11) (w : World) : Calls Tryz.prog 30 #[.iface 104 x, .int .i64 (n : Nat)] w (BoolR (holdB 2 n) w) := by
 have t1 := wa_2_1 x
 have t2 := wa_2_2 x
 have t3 := wa_2_3 x
 have t4 := wa_2_4 x
 have t5 := wa_2_5 x
 have t6 := wa_2_6 x
 have t7 := wa_2_7 x
 have t8 := wa_2_8 x
 have t9 := wa_2_9 x
 have t10 := wa_2_10 x
 have t11 := wa_2_11 x
 rcases wants hn with rfl | rfl | rfl | rfl | rfl | rfl | rfl | rfl | rfl | rfl | rfl
 all_goals
  clear hn
  go_enter Tryz.func30, Tryz.ntmps30
  go_wp2
  go_ret
  exact ⟨rfl, rfl⟩
theorem two_3 (x : Value) (n : Nat) (hn : 1 ≤ n ∧ n ≤ 11) (w : World) : Calls Tryz.prog 30 #[.iface 106 x, .int .i64 (n : Nat)] w (BoolR (holdB 3 n) w) := by
 have t1 := wa_3_1 x
 have t2 := wa_3_2 x
 have t3 := wa_3_3 x
 have t4 := wa_3_4 x
 have t5 := wa_3_5 x
 have t6 := wa_3_6 x
 have t7 := wa_3_7 x
 have t8 := wa_3_8 x
 have t9 := wa_3_9 x
 have t10 := wa_3_10 x
 have t11 := wa_3_11 x
 rcases wants hn with rfl | rfl | rfl | rfl | rfl | rfl | rfl | rfl | rfl | rfl | rfl
 all_goals
  clear hn
  go_enter Tryz.func30, Tryz.ntmps30
  go_wp2
  go_ret
  exact ⟨rfl, rfl⟩
theorem two_4 (x : Value) (n : Nat) (hn : 1 ≤ n ∧ n ≤ 11) (w : World) : Calls Tryz.prog 30 #[.iface 108 x, .int .i64 (n : Nat)] w (BoolR (holdB 4 n) w) := by
 have t1 := wa_4_1 x
 have t2 := wa_4_2 x
 have t3 := wa_4_3 x
 have t4 := wa_4_4 x
 have t5 := wa_4_5 x
 have t6 := wa_4_6 x
 have t7 := wa_4_7 x
 have t8 := wa_4_8 x
 have t9 := wa_4_9 x
 have t10 := wa_4_10 x
 have t11 := wa_4_11 x
 rcases wants hn with rfl | rfl | rfl | rfl | rfl | rfl | rfl | rfl | rfl | rfl | rfl
 all_goals
  clear hn
  go_enter Tryz.func30, Tryz.ntmps30
  go_wp2
  go_ret
  exact ⟨rfl, rfl⟩
theorem two_5 (x : Value) (n : Nat) (hn : 1 ≤ n ∧ n ≤ 11) (w : World) : Calls Tryz.prog 30 #[.iface 109 x, .int .i64 (n : Nat)] w (BoolR (holdB 5 n) w) := by
 have t1 := wa_5_1 x
 have t2 := wa_5_2 x
 have t3 := wa_5_3 x
 have t4 := wa_5_4 x
 have t5 := wa_5_5 x
 have t6 := wa_5_6 x
 have t7 := wa_5_7 x
 have t8 := wa_5_8 x
 have t9 := wa_5_9 x
 have t10 := wa_5_10 x
 have t11 := wa_5_11 x
 rcases wants hn with rfl | rfl | rfl | rfl | rfl | rfl | rfl | rfl | rfl | rfl | rfl
 all_goals
  clear hn
  go_enter Tryz.func30, Tryz.ntmps30
  go_wp2
  go_ret
  exact ⟨rfl, rfl⟩
theorem two_6 (x : Value) (n : Nat) (hn : 1 ≤ n ∧ n ≤ 11) (w : World) : Calls Tryz.prog 30 #[.iface 112 x, .int .i64 (n : Nat)] w (BoolR (holdB 6 n) w) := by
 have t1 := wa_6_1 x
 have t2 := wa_6_2 x
 have t3 := wa_6_3 x
 have t4 := wa_6_4 x
 have t5 := wa_6_5 x
 have t6 := wa_6_6 x
 have t7 := wa_6_7 x
 have t8 := wa_6_8 x
 have t9 := wa_6_9 x
 have t10 := wa_6_10 x
 have t11 := wa_6_11 x
 rcases wants hn with rfl | rfl | rfl | rfl | rfl | rfl | rfl | rfl | rfl | rfl | rfl
 all_goals
  clear hn
  go_enter Tryz.func30, Tryz.ntmps30
  go_wp2
  go_ret
  exact ⟨rfl, rfl⟩
theorem two_7 (x : Value) (n : Nat) (hn : 1 ≤ n ∧ n ≤ 11) (w : World) : Calls Tryz.prog 30 #[.iface 53 x, .int .i64 (n : Nat)] w (BoolR (holdB 7 n) w) := by
 have t1 := wa_7_1 x
 have t2 := wa_7_2 x
 have t3 := wa_7_3 x
 have t4 := wa_7_4 x
 have t5 := wa_7_5 x
 have t6 := wa_7_6 x
 have t7 := wa_7_7 x
 have t8 := wa_7_8 x
 have t9 := wa_7_9 x
 have t10 := wa_7_10 x
 have t11 := wa_7_11 x
 rcases wants hn with rfl | rfl | rfl | rfl | rfl | rfl | rfl | rfl | rfl | rfl | rfl
 all_goals
  clear hn
  go_enter Tryz.func30, Tryz.ntmps30
  go_wp2
  go_ret
  exact ⟨rfl, rfl⟩
end Nd
end Go.Proofs.YtlailcmhpnnidaaGreatDoor
namespace Go.Proofs.YtlailcmhpnnidaaGreatDoor
open Go.RowKit Mem
namespace Nd
theorem one_no_0 (n : Nat) (hn : 1 ≤ n ∧ n ≤ 11) (hh : holdB 0 n = false) (w : World) : Calls Tryz.prog 168 #[.nilIface, .int .i64 (n : Nat)] w (PanR w) := by
 have hb : ∀ o, Below w.heap.size w (w.alloc o) := fun o => (Below.refl _ _).alloc (Nat.le_refl _) _
 rcases wants hn with rfl | rfl | rfl | rfl | rfl | rfl | rfl | rfl | rfl | rfl | rfl
 ·obtain ⟨pv, ob, ht⟩ := wc_0_1 w
  clear hn hh
  go_enter Tryz.func168, Tryz.ntmps168
  go_wp2
  exact ⟨rfl, _, rfl, hb _⟩
 ·obtain ⟨pv, ob, ht⟩ := wc_0_2 w
  clear hn hh
  go_enter Tryz.func168, Tryz.ntmps168
  go_wp2
  exact ⟨rfl, _, rfl, hb _⟩
 ·obtain ⟨pv, ob, ht⟩ := wc_0_3 w
  clear hn hh
  go_enter Tryz.func168, Tryz.ntmps168
  go_wp2
  exact ⟨rfl, _, rfl, hb _⟩
 ·obtain ⟨pv, ob, ht⟩ := wc_0_4 w
  clear hn hh
  go_enter Tryz.func168, Tryz.ntmps168
  go_wp2
  exact ⟨rfl, _, rfl, hb _⟩
 ·obtain ⟨pv, ob, ht⟩ := wc_0_5 w
  clear hn hh
  go_enter Tryz.func168, Tryz.ntmps168
  go_wp2
  exact ⟨rfl, _, rfl, hb _⟩
 ·obtain ⟨pv, ob, ht⟩ := wc_0_6 w
  clear hn hh
  go_enter Tryz.func168, Tryz.ntmps168
  go_wp2
  exact ⟨rfl, _, rfl, hb _⟩
 ·obtain ⟨pv, ob, ht⟩ := wc_0_7 w
  clear hn hh
  go_enter Tryz.func168, Tryz.ntmps168
  go_wp2
  exact ⟨rfl, _, rfl, hb _⟩
 ·obtain ⟨pv, ob, ht⟩ := wc_0_8 w
  clear hn hh
  go_enter Tryz.func168, Tryz.ntmps168
  go_wp2
  exact ⟨rfl, _, rfl, hb _⟩
 ·obtain ⟨pv, ob, ht⟩ := wc_0_9 w
  clear hn hh
  go_enter Tryz.func168, Tryz.ntmps168
  go_wp2
  exact ⟨rfl, _, rfl, hb _⟩
 ·obtain ⟨pv, ob, ht⟩ := wc_0_10 w
  clear hn hh
  go_enter Tryz.func168, Tryz.ntmps168
  go_wp2
  exact ⟨rfl, _, rfl, hb _⟩
 ·obtain ⟨pv, ob, ht⟩ := wc_0_11 w
  clear hn hh
  go_enter Tryz.func168, Tryz.ntmps168
  go_wp2
  exact ⟨rfl, _, rfl, hb _⟩
theorem one_yes_1 (x : Value) (n : Nat) (hn : 1 ≤ n ∧ n ≤ 11) (hh : holdB 1 n = true) (w : World) : Calls Tryz.prog 168 #[.iface 103 x, .int .i64 (n : Nat)] w (ValR (.iface 103 x) w) := by
 have t1 := wb_1_1 x
 have t2 := wb_1_2 x
 have t5 := wb_1_5 x
 rcases wants hn with rfl | rfl | rfl | rfl | rfl | rfl | rfl | rfl | rfl | rfl | rfl
 ·clear hn hh
  go_enter Tryz.func168, Tryz.ntmps168
  go_wp2
  go_ret
  exact ⟨rfl, rfl⟩
 ·clear hn hh
  go_enter Tryz.func168, Tryz.ntmps168
  go_wp2
  go_ret
  exact ⟨rfl, rfl⟩
 ·exact absurd hh (by decide)
 ·exact absurd hh (by decide)
 ·clear hn hh
  go_enter Tryz.func168, Tryz.ntmps168
  go_wp2
  go_ret
  exact ⟨rfl, rfl⟩
 ·exact absurd hh (by decide)
 ·exact absurd hh (by decide)
 ·exact absurd hh (by decide)
 ·exact absurd hh (by decide)
 ·exact absurd hh (by decide)
 ·exact absurd hh (by decide)
theorem one_no_1 (x : Value) (n : Nat) (hn : 1 ≤ n ∧ n ≤ 11) (hh : holdB 1 n = false) (w : World) : Calls Tryz.prog 168 #[.iface 103 x, .int .i64 (n : Nat)] w (PanR w) := by
 have hb : ∀ o, Below w.heap.size w (w.alloc o) := fun o => (Below.refl _ _).alloc (Nat.le_refl _) _
 rcases wants hn with rfl | rfl | rfl | rfl | rfl | rfl | rfl | rfl | rfl | rfl | rfl
 ·exact absurd hh (by decide)
 ·exact absurd hh (by decide)
 ·obtain ⟨pv, ob, ht⟩ := wc_1_3 x w
  clear hn hh
  go_enter Tryz.func168, Tryz.ntmps168
  go_wp2
  exact ⟨rfl, _, rfl, hb _⟩
 ·obtain ⟨pv, ob, ht⟩ := wc_1_4 x w
  clear hn hh
  go_enter Tryz.func168, Tryz.ntmps168
  go_wp2
  exact ⟨rfl, _, rfl, hb _⟩
 ·exact absurd hh (by decide)
 ·obtain ⟨pv, ob, ht⟩ := wc_1_6 x w
  clear hn hh
  go_enter Tryz.func168, Tryz.ntmps168
  go_wp2
  exact ⟨rfl, _, rfl, hb _⟩
 ·obtain ⟨pv, ob, ht⟩ := wc_1_7 x w
  clear hn hh
  go_enter Tryz.func168, Tryz.ntmps168
  go_wp2
  exact ⟨rfl, _, rfl, hb _⟩
 ·obtain ⟨pv, ob, ht⟩ := wc_1_8 x w
  clear hn hh
  go_enter Tryz.func168, Tryz.ntmps168
  go_wp2
  exact ⟨rfl, _, rfl, hb _⟩
 ·obtain ⟨pv, ob, ht⟩ := wc_1_9 x w
  clear hn hh
  go_enter Tryz.func168, Tryz.ntmps168
  go_wp2
  exact ⟨rfl, _, rfl, hb _⟩
 ·obtain ⟨pv, ob, ht⟩ := wc_1_10 x w
  clear hn hh
  go_enter Tryz.func168, Tryz.ntmps168
  go_wp2
  exact ⟨rfl, _, rfl, hb _⟩
 ·obtain ⟨pv, ob, ht⟩ := wc_1_11 x w
  clear hn hh
  go_enter Tryz.func168, Tryz.ntmps168
  go_wp2
  exact ⟨rfl, _, rfl, hb _⟩
theorem one_yes_2 (x : Value) (n : Nat) (hn : 1 ≤ n ∧ n ≤ 11) (hh : holdB 2 n = true) (w : World) : Calls Tryz.prog 168 #[.iface 104 x, .int .i64 (n : Nat)] w (ValR (.iface 104 x) w) := by
 have t1 := wb_2_1 x
 have t2 := wb_2_2 x
 have t6 := wb_2_6 x
 rcases wants hn with rfl | rfl | rfl | rfl | rfl | rfl | rfl | rfl | rfl | rfl | rfl
 ·clear hn hh
  go_enter Tryz.func168, Tryz.ntmps168
  go_wp2
  go_ret
  exact ⟨rfl, rfl⟩
 ·clear hn hh
  go_enter Tryz.func168, Tryz.ntmps168
  go_wp2
  go_ret
  exact ⟨rfl, rfl⟩
 ·exact absurd hh (by decide)
 ·exact absurd hh (by decide)
 ·exact absurd hh (by decide)
 ·clear hn hh
  go_enter Tryz.func168, Tryz.ntmps168
  go_wp2
  go_ret
  exact ⟨rfl, rfl⟩
 ·exact absurd hh (by decide)
 ·exact absurd hh (by decide)
 ·exact absurd hh (by decide)
 ·exact absurd hh (by decide)
 ·exact absurd hh (by decide)
theorem one_no_2 (x : Value) (n : Nat) (hn : 1 ≤ n ∧ n ≤ 11) (hh : holdB 2 n = false) (w : World) : Calls Tryz.prog 168 #[.iface 104 x, .int .i64 (n : Nat)] w (PanR w) := by
 have hb : ∀ o, Below w.heap.size w (w.alloc o) := fun o => (Below.refl _ _).alloc (Nat.le_refl _) _
 rcases wants hn with rfl | rfl | rfl | rfl | rfl | rfl | rfl | rfl | rfl | rfl | rfl
 ·exact absurd hh (by decide)
 ·exact absurd hh (by decide)
 ·obtain ⟨pv, ob, ht⟩ := wc_2_3 x w
  clear hn hh
  go_enter Tryz.func168, Tryz.ntmps168
  go_wp2
  exact ⟨rfl, _, rfl, hb _⟩
 ·obtain ⟨pv, ob, ht⟩ := wc_2_4 x w
  clear hn hh
  go_enter Tryz.func168, Tryz.ntmps168
  go_wp2
  exact ⟨rfl, _, rfl, hb _⟩
 ·obtain ⟨pv, ob, ht⟩ := wc_2_5 x w
  clear hn hh
  go_enter Tryz.func168, Tryz.ntmps168
  go_wp2
  exact ⟨rfl, _, rfl, hb _⟩
 ·exact absurd hh (by decide)
 ·obtain ⟨pv, ob, ht⟩ := wc_2_7 x w
  clear hn hh
  go_enter Tryz.func168, Tryz.ntmps168
  go_wp2
  exact ⟨rfl, _, rfl, hb _⟩
 ·obtain ⟨pv, ob, ht⟩ := wc_2_8 x w
  clear hn hh
  go_enter Tryz.func168, Tryz.ntmps168
  go_wp2
  exact ⟨rfl, _, rfl, hb _⟩
 ·obtain ⟨pv, ob, ht⟩ := wc_2_9 x w
  clear hn hh
  go_enter Tryz.func168, Tryz.ntmps168
  go_wp2
  exact ⟨rfl, _, rfl, hb _⟩
 ·obtain ⟨pv, ob, ht⟩ := wc_2_10 x w
  clear hn hh
  go_enter Tryz.func168, Tryz.ntmps168
  go_wp2
  exact ⟨rfl, _, rfl, hb _⟩
 ·obtain ⟨pv, ob, ht⟩ := wc_2_11 x w
  clear hn hh
  go_enter Tryz.func168, Tryz.ntmps168
  go_wp2
  exact ⟨rfl, _, rfl, hb _⟩
theorem one_yes_3 (x : Value) (n : Nat) (hn : 1 ≤ n ∧ n ≤ 11) (hh : holdB 3 n = true) (w : World) : Calls Tryz.prog 168 #[.iface 106 x, .int .i64 (n : Nat)] w (ValR (.iface 106 x) w) := by
 have t1 := wb_3_1 x
 have t2 := wb_3_2 x
 have t7 := wb_3_7 x
 rcases wants hn with rfl | rfl | rfl | rfl | rfl | rfl | rfl | rfl | rfl | rfl | rfl
 ·clear hn hh
  go_enter Tryz.func168, Tryz.ntmps168
  go_wp2
  go_ret
  exact ⟨rfl, rfl⟩
 ·clear hn hh
  go_enter Tryz.func168, Tryz.ntmps168
  go_wp2
  go_ret
  exact ⟨rfl, rfl⟩
 ·exact absurd hh (by decide)
 ·exact absurd hh (by decide)
 ·exact absurd hh (by decide)
 ·exact absurd hh (by decide)
 ·clear hn hh
  go_enter Tryz.func168, Tryz.ntmps168
  go_wp2
  go_ret
  exact ⟨rfl, rfl⟩
 ·exact absurd hh (by decide)
 ·exact absurd hh (by decide)
 ·exact absurd hh (by decide)
 ·exact absurd hh (by decide)
theorem one_no_3 (x : Value) (n : Nat) (hn : 1 ≤ n ∧ n ≤ 11) (hh : holdB 3 n = false) (w : World) : Calls Tryz.prog 168 #[.iface 106 x, .int .i64 (n : Nat)] w (PanR w) := by
 have hb : ∀ o, Below w.heap.size w (w.alloc o) := fun o => (Below.refl _ _).alloc (Nat.le_refl _) _
 rcases wants hn with rfl | rfl | rfl | rfl | rfl | rfl | rfl | rfl | rfl | rfl | rfl
 ·exact absurd hh (by decide)
 ·exact absurd hh (by decide)
 ·obtain ⟨pv, ob, ht⟩ := wc_3_3 x w
  clear hn hh
  go_enter Tryz.func168, Tryz.ntmps168
  go_wp2
  exact ⟨rfl, _, rfl, hb _⟩
 ·obtain ⟨pv, ob, ht⟩ := wc_3_4 x w
  clear hn hh
  go_enter Tryz.func168, Tryz.ntmps168
  go_wp2
  exact ⟨rfl, _, rfl, hb _⟩
 ·obtain ⟨pv, ob, ht⟩ := wc_3_5 x w
  clear hn hh
  go_enter Tryz.func168, Tryz.ntmps168
  go_wp2
  exact ⟨rfl, _, rfl, hb _⟩
 ·obtain ⟨pv, ob, ht⟩ := wc_3_6 x w
  clear hn hh
  go_enter Tryz.func168, Tryz.ntmps168
  go_wp2
  exact ⟨rfl, _, rfl, hb _⟩
 ·exact absurd hh (by decide)
 ·obtain ⟨pv, ob, ht⟩ := wc_3_8 x w
  clear hn hh
  go_enter Tryz.func168, Tryz.ntmps168
  go_wp2
  exact ⟨rfl, _, rfl, hb _⟩
 ·obtain ⟨pv, ob, ht⟩ := wc_3_9 x w
  clear hn hh
  go_enter Tryz.func168, Tryz.ntmps168
  go_wp2
  exact ⟨rfl, _, rfl, hb _⟩
 ·obtain ⟨pv, ob, ht⟩ := wc_3_10 x w
  clear hn hh
  go_enter Tryz.func168, Tryz.ntmps168
  go_wp2
  exact ⟨rfl, _, rfl, hb _⟩
 ·obtain ⟨pv, ob, ht⟩ := wc_3_11 x w
  clear hn hh
  go_enter Tryz.func168, Tryz.ntmps168
  go_wp2
  exact ⟨rfl, _, rfl, hb _⟩
theorem one_yes_4 (x : Value) (n : Nat) (hn : 1 ≤ n ∧ n ≤ 11) (hh : holdB 4 n = true) (w : World) : Calls Tryz.prog 168 #[.iface 108 x, .int .i64 (n : Nat)] w (ValR (.iface 108 x) w) := by
 have t1 := wb_4_1 x
 have t2 := wb_4_2 x
 have t8 := wb_4_8 x
 rcases wants hn with rfl | rfl | rfl | rfl | rfl | rfl | rfl | rfl | rfl | rfl | rfl
 ·clear hn hh
  go_enter Tryz.func168, Tryz.ntmps168
  go_wp2
  go_ret
  exact ⟨rfl, rfl⟩
 ·clear hn hh
  go_enter Tryz.func168, Tryz.ntmps168
  go_wp2
  go_ret
  exact ⟨rfl, rfl⟩
 ·exact absurd hh (by decide)
 ·exact absurd hh (by decide)
 ·exact absurd hh (by decide)
 ·exact absurd hh (by decide)
 ·exact absurd hh (by decide)
 ·clear hn hh
  go_enter Tryz.func168, Tryz.ntmps168
  go_wp2
  go_ret
  exact ⟨rfl, rfl⟩
 ·exact absurd hh (by decide)
 ·exact absurd hh (by decide)
 ·exact absurd hh (by decide)
theorem one_no_4 (x : Value) (n : Nat) (hn : 1 ≤ n ∧ n ≤ 11) (hh : holdB 4 n = false) (w : World) : Calls Tryz.prog 168 #[.iface 108 x, .int .i64 (n : Nat)] w (PanR w) := by
 have hb : ∀ o, Below w.heap.size w (w.alloc o) := fun o => (Below.refl _ _).alloc (Nat.le_refl _) _
 rcases wants hn with rfl | rfl | rfl | rfl | rfl | rfl | rfl | rfl | rfl | rfl | rfl
 ·exact absurd hh (by decide)
 ·exact absurd hh (by decide)
 ·obtain ⟨pv, ob, ht⟩ := wc_4_3 x w
  clear hn hh
  go_enter Tryz.func168, Tryz.ntmps168
  go_wp2
  exact ⟨rfl, _, rfl, hb _⟩
 ·obtain ⟨pv, ob, ht⟩ := wc_4_4 x w
  clear hn hh
  go_enter Tryz.func168, Tryz.ntmps168
  go_wp2
  exact ⟨rfl, _, rfl, hb _⟩
 ·obtain ⟨pv, ob, ht⟩ := wc_4_5 x w
  clear hn hh
  go_enter Tryz.func168, Tryz.ntmps168
  go_wp2
  exact ⟨rfl, _, rfl, hb _⟩
 ·obtain ⟨pv, ob, ht⟩ := wc_4_6 x w
  clear hn hh
  go_enter Tryz.func168, Tryz.ntmps168
  go_wp2
  exact ⟨rfl, _, rfl, hb _⟩
 ·obtain ⟨pv, ob, ht⟩ := wc_4_7 x w
  clear hn hh
  go_enter Tryz.func168, Tryz.ntmps168
  go_wp2
  exact ⟨rfl, _, rfl, hb _⟩
 ·exact absurd hh (by decide)
 ·obtain ⟨pv, ob, ht⟩ := wc_4_9 x w
  clear hn hh
  go_enter Tryz.func168, Tryz.ntmps168
  go_wp2
  exact ⟨rfl, _, rfl, hb _⟩
 ·obtain ⟨pv, ob, ht⟩ := wc_4_10 x w
  clear hn hh
  go_enter Tryz.func168, Tryz.ntmps168
  go_wp2
  exact ⟨rfl, _, rfl, hb _⟩
 ·obtain ⟨pv, ob, ht⟩ := wc_4_11 x w
  clear hn hh
  go_enter Tryz.func168, Tryz.ntmps168
  go_wp2
  exact ⟨rfl, _, rfl, hb _⟩
theorem one_yes_5 (x : Value) (n : Nat) (hn : 1 ≤ n ∧ n ≤ 11) (hh : holdB 5 n = true) (w : World) : Calls Tryz.prog 168 #[.iface 109 x, .int .i64 (n : Nat)] w (ValR (.iface 109 x) w) := by
 have t1 := wb_5_1 x
 have t3 := wb_5_3 x
 have t9 := wb_5_9 x
 rcases wants hn with rfl | rfl | rfl | rfl | rfl | rfl | rfl | rfl | rfl | rfl | rfl
 ·clear hn hh
  go_enter Tryz.func168, Tryz.ntmps168
  go_wp2
  go_ret
  exact ⟨rfl, rfl⟩
 ·exact absurd hh (by decide)
 ·clear hn hh
  go_enter Tryz.func168, Tryz.ntmps168
  go_wp2
  go_ret
  exact ⟨rfl, rfl⟩
 ·exact absurd hh (by decide)
 ·exact absurd hh (by decide)
 ·exact absurd hh (by decide)
 ·exact absurd hh (by decide)
 ·exact absurd hh (by decide)
 ·clear hn hh
  go_enter Tryz.func168, Tryz.ntmps168
  go_wp2
  go_ret
  exact ⟨rfl, rfl⟩
 ·exact absurd hh (by decide)
 ·exact absurd hh (by decide)
theorem one_no_5 (x : Value) (n : Nat) (hn : 1 ≤ n ∧ n ≤ 11) (hh : holdB 5 n = false) (w : World) : Calls Tryz.prog 168 #[.iface 109 x, .int .i64 (n : Nat)] w (PanR w) := by
 have hb : ∀ o, Below w.heap.size w (w.alloc o) := fun o => (Below.refl _ _).alloc (Nat.le_refl _) _
 rcases wants hn with rfl | rfl | rfl | rfl | rfl | rfl | rfl | rfl | rfl | rfl | rfl
 ·exact absurd hh (by decide)
 ·obtain ⟨pv, ob, ht⟩ := wc_5_2 x w
  clear hn hh
  go_enter Tryz.func168, Tryz.ntmps168
  go_wp2
  exact ⟨rfl, _, rfl, hb _⟩
 ·exact absurd hh (by decide)
 ·obtain ⟨pv, ob, ht⟩ := wc_5_4 x w
  clear hn hh
  go_enter Tryz.func168, Tryz.ntmps168
  go_wp2
  exact ⟨rfl, _, rfl, hb _⟩
 ·obtain ⟨pv, ob, ht⟩ := wc_5_5 x w
  clear hn hh
  go_enter Tryz.func168, Tryz.ntmps168
  go_wp2
  exact ⟨rfl, _, rfl, hb _⟩
 ·obtain ⟨pv, ob, ht⟩ := wc_5_6 x w
  clear hn hh
  go_enter Tryz.func168, Tryz.ntmps168
  go_wp2
  exact ⟨rfl, _, rfl, hb _⟩
 ·obtain ⟨pv, ob, ht⟩ := wc_5_7 x w
  clear hn hh
  go_enter Tryz.func168, Tryz.ntmps168
  go_wp2
  exact ⟨rfl, _, rfl, hb _⟩
 ·obtain ⟨pv, ob, ht⟩ := wc_5_8 x w
  clear hn hh
  go_enter Tryz.func168, Tryz.ntmps168
  go_wp2
  exact ⟨rfl, _, rfl, hb _⟩
 ·exact absurd hh (by decide)
 ·obtain ⟨pv, ob, ht⟩ := wc_5_10 x w
  clear hn hh
  go_enter Tryz.func168, Tryz.ntmps168
  go_wp2
  exact ⟨rfl, _, rfl, hb _⟩
 ·obtain ⟨pv, ob, ht⟩ := wc_5_11 x w
  clear hn hh
  go_enter Tryz.func168, Tryz.ntmps168
  go_wp2
  exact ⟨rfl, _, rfl, hb _⟩
theorem one_yes_6 (x : Value) (n : Nat) (hn : 1 ≤ n ∧ n ≤ 11) (hh : holdB 6 n = true) (w : World) : Calls Tryz.prog 168 #[.iface 112 x, .int .i64 (n : Nat)] w (ValR (.iface 112 x) w) := by
 have t1 := wb_6_1 x
 have t3 := wb_6_3 x
 have t4 := wb_6_4 x
 have t10 := wb_6_10 x
 rcases wants hn with rfl | rfl | rfl | rfl | rfl | rfl | rfl | rfl | rfl | rfl | rfl
 ·clear hn hh
  go_enter Tryz.func168, Tryz.ntmps168
  go_wp2
  go_ret
  exact ⟨rfl, rfl⟩
 ·exact absurd hh (by decide)
 ·clear hn hh
  go_enter Tryz.func168, Tryz.ntmps168
  go_wp2
  go_ret
  exact ⟨rfl, rfl⟩
 ·clear hn hh
  go_enter Tryz.func168, Tryz.ntmps168
  go_wp2
  go_ret
  exact ⟨rfl, rfl⟩
 ·exact absurd hh (by decide)
 ·exact absurd hh (by decide)
 ·exact absurd hh (by decide)
 ·exact absurd hh (by decide)
 ·exact absurd hh (by decide)
 ·clear hn hh
  go_enter Tryz.func168, Tryz.ntmps168
  go_wp2
  go_ret
  exact ⟨rfl, rfl⟩
 ·exact absurd hh (by decide)
theorem one_no_6 (x : Value) (n : Nat) (hn : 1 ≤ n ∧ n ≤ 11) (hh : holdB 6 n = false) (w : World) : Calls Tryz.prog 168 #[.iface 112 x, .int .i64 (n : Nat)] w (PanR w) := by
 have hb : ∀ o, Below w.heap.size w (w.alloc o) := fun o => (Below.refl _ _).alloc (Nat.le_refl _) _
 rcases wants hn with rfl | rfl | rfl | rfl | rfl | rfl | rfl | rfl | rfl | rfl | rfl
 ·exact absurd hh (by decide)
 ·obtain ⟨pv, ob, ht⟩ := wc_6_2 x w
  clear hn hh
  go_enter Tryz.func168, Tryz.ntmps168
  go_wp2
  exact ⟨rfl, _, rfl, hb _⟩
 ·exact absurd hh (by decide)
 ·exact absurd hh (by decide)
 ·obtain ⟨pv, ob, ht⟩ := wc_6_5 x w
  clear hn hh
  go_enter Tryz.func168, Tryz.ntmps168
  go_wp2
  exact ⟨rfl, _, rfl, hb _⟩
 ·obtain ⟨pv, ob, ht⟩ := wc_6_6 x w
  clear hn hh
  go_enter Tryz.func168, Tryz.ntmps168
  go_wp2
  exact ⟨rfl, _, rfl, hb _⟩
 ·obtain ⟨pv, ob, ht⟩ := wc_6_7 x w
  clear hn hh
  go_enter Tryz.func168, Tryz.ntmps168
  go_wp2
  exact ⟨rfl, _, rfl, hb _⟩
 ·obtain ⟨pv, ob, ht⟩ := wc_6_8 x w
  clear hn hh
  go_enter Tryz.func168, Tryz.ntmps168
  go_wp2
  exact ⟨rfl, _, rfl, hb _⟩
 ·obtain ⟨pv, ob, ht⟩ := wc_6_9 x w
  clear hn hh
  go_enter Tryz.func168, Tryz.ntmps168
  go_wp2
  exact ⟨rfl, _, rfl, hb _⟩
 ·exact absurd hh (by decide)
 ·obtain ⟨pv, ob, ht⟩ := wc_6_11 x w
  clear hn hh
  go_enter Tryz.func168, Tryz.ntmps168
  go_wp2
  exact ⟨rfl, _, rfl, hb _⟩
theorem one_yes_7 (x : Value) (n : Nat) (hn : 1 ≤ n ∧ n ≤ 11) (hh : holdB 7 n = true) (w : World) : Calls Tryz.prog 168 #[.iface 53 x, .int .i64 (n : Nat)] w (ValR (.iface 53 x) w) := by
 have t1 := wb_7_1 x
 have t11 := wb_7_11 x
 rcases wants hn with rfl | rfl | rfl | rfl | rfl | rfl | rfl | rfl | rfl | rfl | rfl
 ·clear hn hh
  go_enter Tryz.func168, Tryz.ntmps168
  go_wp2
  go_ret
  exact ⟨rfl, rfl⟩
 ·exact absurd hh (by decide)
 ·exact absurd hh (by decide)
 ·exact absurd hh (by decide)
 ·exact absurd hh (by decide)
 ·exact absurd hh (by decide)
 ·exact absurd hh (by decide)
 ·exact absurd hh (by decide)
 ·exact absurd hh (by decide)
 ·exact absurd hh (by decide)
 ·clear hn hh
  go_enter Tryz.func168, Tryz.ntmps168
  go_wp2
  go_ret
  exact ⟨rfl, rfl⟩
theorem one_no_7 (x : Value) (n : Nat) (hn : 1 ≤ n ∧ n ≤ 11) (hh : holdB 7 n = false) (w : World) : Calls Tryz.prog 168 #[.iface 53 x, .int .i64 (n : Nat)] w (PanR w) := by
 have hb : ∀ o, Below w.heap.size w (w.alloc o) := fun o => (Below.refl _ _).alloc (Nat.le_refl _) _
 rcases wants hn with rfl | rfl | rfl | rfl | rfl | rfl | rfl | rfl | rfl | rfl | rfl
 ·exact absurd hh (by decide)
 ·obtain ⟨pv, ob, ht⟩ := wc_7_2 x w
  clear hn hh
  go_enter Tryz.func168, Tryz.ntmps168
  go_wp2
  exact ⟨rfl, _, rfl, hb _⟩
 ·obtain ⟨pv, ob, ht⟩ := wc_7_3 x w
  clear hn hh
  go_enter Tryz.func168, Tryz.ntmps168
  go_wp2
  exact ⟨rfl, _, rfl, hb _⟩
 ·obtain ⟨pv, ob, ht⟩ := wc_7_4 x w
  clear hn hh
  go_enter Tryz.func168, Tryz.ntmps168
  go_wp2
  exact ⟨rfl, _, rfl, hb _⟩
 ·obtain ⟨pv, ob, ht⟩ := wc_7_5 x w
  clear hn hh
  go_enter Tryz.func168, Tryz.ntmps168
  go_wp2
  exact ⟨rfl, _, rfl, hb _⟩
 ·obtain ⟨pv, ob, ht⟩ := wc_7_6 x w
  clear hn hh
  go_enter Tryz.func168, Tryz.ntmps168
  go_wp2
  exact ⟨rfl, _, rfl, hb _⟩
 ·obtain ⟨pv, ob, ht⟩ := wc_7_7 x w
  clear hn hh
  go_enter Tryz.func168, Tryz.ntmps168
  go_wp2
  exact ⟨rfl, _, rfl, hb _⟩
 ·obtain ⟨pv, ob, ht⟩ := wc_7_8 x w
  clear hn hh
  go_enter Tryz.func168, Tryz.ntmps168
  go_wp2
  exact ⟨rfl, _, rfl, hb _⟩
 ·obtain ⟨pv, ob, ht⟩ := wc_7_9 x w
  clear hn hh
  go_enter Tryz.func168, Tryz.ntmps168
  go_wp2
  exact ⟨rfl, _, rfl, hb _⟩
 ·obtain ⟨pv, ob, ht⟩ := wc_7_10 x w
  clear hn hh
  go_enter Tryz.func168, Tryz.ntmps168
  go_wp2
  exact ⟨rfl, _, rfl, hb _⟩
 ·exact absurd hh (by decide)
end Nd
end Go.Proofs.YtlailcmhpnnidaaGreatDoor
namespace Go.Proofs.YtlailcmhpnnidaaGreatDoor
open Go.RowKit Mem
namespace Nd
theorem akind_1 (x : Value) (w : World) : Calls Tryz.prog 195 #[.iface 103 x] w fun e w' => e = .returned (.int .i64 5) ∧ w = w' := by
 have t5 := wa_1_5 x
 have t6 := wa_1_6 x
 have t7 := wa_1_7 x
 go_enter Tryz.func195, Tryz.ntmps195
 go_wp2
 go_ret
 exact ⟨rfl, rfl⟩
theorem akind_2 (x : Value) (w : World) : Calls Tryz.prog 195 #[.iface 104 x] w fun e w' => e = .returned (.int .i64 6) ∧ w = w' := by
 have t5 := wa_2_5 x
 have t6 := wa_2_6 x
 have t7 := wa_2_7 x
 go_enter Tryz.func195, Tryz.ntmps195
 go_wp2
 go_ret
 exact ⟨rfl, rfl⟩
theorem akind_3 (x : Value) (w : World) : Calls Tryz.prog 195 #[.iface 106 x] w fun e w' => e = .returned (.int .i64 7) ∧ w = w' := by
 have t5 := wa_3_5 x
 have t6 := wa_3_6 x
 have t7 := wa_3_7 x
 go_enter Tryz.func195, Tryz.ntmps195
 go_wp2
 go_ret
 exact ⟨rfl, rfl⟩
theorem akind_4 (x : Value) (w : World) : Calls Tryz.prog 195 #[.iface 108 x] w fun e w' => e = .returned (.int .i64 8) ∧ w = w' := by
 have t5 := wa_4_5 x
 have t6 := wa_4_6 x
 have t7 := wa_4_7 x
 go_enter Tryz.func195, Tryz.ntmps195
 go_wp2
 go_ret
 exact ⟨rfl, rfl⟩
theorem sw_nil (T : TypeId) (x : Value) (W : World) : (binOp .eql 35 (.iface T x) .nilIface).run Tryz.prog W = .ok (.bool false) W := by kernel_rfl
theorem sw_nil0 (W : World) : (binOp .eql 35 .nilIface .nilIface).run Tryz.prog W = .ok (.bool true) W := by kernel_rfl
theorem sw_0 (n : Nat) (hn : 1 ≤ n ∧ n ≤ 11) (w : World) : Calls Tryz.prog 169 #[.nilIface, .int .i64 (n : Nat)] w (BoolR (holdB 0 n) w) := by
 have q0 := sw_nil
 have q1 := sw_nil0
 have t11 := wa_0_11
 have t4 := wa_0_4
 have t3 := wa_0_3
 rcases wants hn with rfl | rfl | rfl | rfl | rfl | rfl | rfl | rfl | rfl | rfl | rfl
 all_goals
  clear hn
  go_enter Tryz.func169, Tryz.ntmps169
  go_wp2
  go_ret
  exact ⟨rfl, rfl⟩
theorem sw_1 (x : Value) (n : Nat) (hn : 1 ≤ n ∧ n ≤ 11) (w : World) : Calls Tryz.prog 169 #[.iface 103 x, .int .i64 (n : Nat)] w (BoolR (holdB 1 n) w) := by
 have q0 := sw_nil
 have q1 := sw_nil0
 have t11 := wa_1_11 x
 have t4 := wa_1_4 x
 have t3 := wa_1_3 x
 rcases wants hn with rfl | rfl | rfl | rfl | rfl | rfl | rfl | rfl | rfl | rfl | rfl
 all_goals
  clear hn
  go_enter Tryz.func169, Tryz.ntmps169
  go_wp2_with (first | ((with_reducible refine (akind_1 x _).mono ?_); rintro e w' ⟨rfl, rfl⟩))
  go_ret
  exact ⟨rfl, rfl⟩
theorem sw_2 (x : Value) (n : Nat) (hn : 1 ≤ n ∧ n ≤ 11) (w : World) : Calls Tryz.prog 169 #[.iface 104 x, .int .i64 (n : Nat)] w (BoolR (holdB 2 n) w) := by
 have q0 := sw_nil
 have q1 := sw_nil0
 have t11 := wa_2_11 x
 have t4 := wa_2_4 x
 have t3 := wa_2_3 x
 rcases wants hn with rfl | rfl | rfl | rfl | rfl | rfl | rfl | rfl | rfl | rfl | rfl
 all_goals
  clear hn
  go_enter Tryz.func169, Tryz.ntmps169
  go_wp2_with (first | ((with_reducible refine (akind_2 x _).mono ?_); rintro e w' ⟨rfl, rfl⟩))
  go_ret
  exact ⟨rfl, rfl⟩
theorem sw_3 (x : Value) (n : Nat) (hn : 1 ≤ n ∧ n ≤ 11) (w : World) : Calls Tryz.prog 169 #[.iface 106 x, .int .i64 (n : Nat)] w (BoolR (holdB 3 n) w) := by
 have q0 := sw_nil
 have q1 := sw_nil0
 have t11 := wa_3_11 x
 have t4 := wa_3_4 x
 have t3 := wa_3_3 x
 rcases wants hn with rfl | rfl | rfl | rfl | rfl | rfl | rfl | rfl | rfl | rfl | rfl
 all_goals
  clear hn
  go_enter Tryz.func169, Tryz.ntmps169
  go_wp2_with (first | ((with_reducible refine (akind_3 x _).mono ?_); rintro e w' ⟨rfl, rfl⟩))
  go_ret
  exact ⟨rfl, rfl⟩
theorem sw_4 (x : Value) (n : Nat) (hn : 1 ≤ n ∧ n ≤ 11) (w : World) : Calls Tryz.prog 169 #[.iface 108 x, .int .i64 (n : Nat)] w (BoolR (holdB 4 n) w) := by
 have q0 := sw_nil
 have q1 := sw_nil0
 have t11 := wa_4_11 x
 have t4 := wa_4_4 x
 have t3 := wa_4_3 x
 rcases wants hn with rfl | rfl | rfl | rfl | rfl | rfl | rfl | rfl | rfl | rfl | rfl
 all_goals
  clear hn
  go_enter Tryz.func169, Tryz.ntmps169
  go_wp2_with (first | ((with_reducible refine (akind_4 x _).mono ?_); rintro e w' ⟨rfl, rfl⟩))
  go_ret
  exact ⟨rfl, rfl⟩
theorem sw_5 (x : Value) (n : Nat) (hn : 1 ≤ n ∧ n ≤ 11) (w : World) : Calls Tryz.prog 169 #[.iface 109 x, .int .i64 (n : Nat)] w (BoolR (holdB 5 n) w) := by
 have q0 := sw_nil
 have q1 := sw_nil0
 have t11 := wa_5_11 x
 have t4 := wa_5_4 x
 have t3 := wa_5_3 x
 rcases wants hn with rfl | rfl | rfl | rfl | rfl | rfl | rfl | rfl | rfl | rfl | rfl
 all_goals
  clear hn
  go_enter Tryz.func169, Tryz.ntmps169
  go_wp2
  go_ret
  exact ⟨rfl, rfl⟩
theorem sw_6 (x : Value) (n : Nat) (hn : 1 ≤ n ∧ n ≤ 11) (w : World) : Calls Tryz.prog 169 #[.iface 112 x, .int .i64 (n : Nat)] w (BoolR (holdB 6 n) w) := by
 have q0 := sw_nil
 have q1 := sw_nil0
 have t11 := wa_6_11 x
 have t4 := wa_6_4 x
 have t3 := wa_6_3 x
 rcases wants hn with rfl | rfl | rfl | rfl | rfl | rfl | rfl | rfl | rfl | rfl | rfl
 all_goals
  clear hn
  go_enter Tryz.func169, Tryz.ntmps169
  go_wp2
  go_ret
  exact ⟨rfl, rfl⟩
theorem sw_7 (x : Value) (n : Nat) (hn : 1 ≤ n ∧ n ≤ 11) (w : World) : Calls Tryz.prog 169 #[.iface 53 x, .int .i64 (n : Nat)] w (BoolR (holdB 7 n) w) := by
 have q0 := sw_nil
 have q1 := sw_nil0
 have t11 := wa_7_11 x
 have t4 := wa_7_4 x
 have t3 := wa_7_3 x
 rcases wants hn with rfl | rfl | rfl | rfl | rfl | rfl | rfl | rfl | rfl | rfl | rfl
 all_goals
  clear hn
  go_enter Tryz.func169, Tryz.ntmps169
  go_wp2
  go_ret
  exact ⟨rfl, rfl⟩
end Nd
end Go.Proofs.YtlailcmhpnnidaaGreatDoor
