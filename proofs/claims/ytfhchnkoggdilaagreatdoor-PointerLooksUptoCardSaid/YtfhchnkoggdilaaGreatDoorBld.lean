/-
  The Builder's contracts at this dump, out of the closure of strings.Replace.
-/
import Derived.Test.YtfhchnkoggdilaaGreatDoorShelf
import Derived.Test.YtfhchnkoggdilaaGreatDoorWords
namespace Go.Proofs.YtfhchnkoggdilaaGreatDoor
open Go.RowKit
/-- the closure of WriteString lies within that of Replace -/
theorem laysW : Go.Proofs.Lays.n166 Tryz.prog Tryz.lays154_ren := {
  mixed := Tryz.lays154.mixed
  f166 := Tryz.lays154.f166
  f240 := Tryz.lays154.f240
  f276 := Tryz.lays154.f276
  t0 := Tryz.lays154.t0
  a0 := Tryz.lays154.a0
  z0 := Tryz.lays154.z0
  v0 := Tryz.lays154.v0
  t3 := Tryz.lays154.t3
  a3 := Tryz.lays154.a3
  z3 := Tryz.lays154.z3
  v3 := Tryz.lays154.v3
  t4 := Tryz.lays154.t4
  a4 := Tryz.lays154.a4
  z4 := Tryz.lays154.z4
  v4 := Tryz.lays154.v4
  t9 := Tryz.lays154.t9
  a9 := Tryz.lays154.a9
  z9 := Tryz.lays154.z9
  v9 := Tryz.lays154.v9
  t20 := Tryz.lays154.t20
  a20 := Tryz.lays154.a20
  z20 := Tryz.lays154.z20
  v20 := Tryz.lays154.v20
  t37 := Tryz.lays154.t37
  a37 := Tryz.lays154.a37
  z37 := Tryz.lays154.z37
  v37 := Tryz.lays154.v37
  t70 := Tryz.lays154.t70
  a70 := Tryz.lays154.a70
  z70 := Tryz.lays154.z70
  v70 := Tryz.lays154.v70
  t72 := Tryz.lays154.t72
  a72 := Tryz.lays154.a72
  z72 := Tryz.lays154.z72
  v72 := Tryz.lays154.v72
  t75 := Tryz.lays154.t75
  a75 := Tryz.lays154.a75
  z75 := Tryz.lays154.z75
  v75 := Tryz.lays154.v75
  t164 := Tryz.lays154.t164
  a164 := Tryz.lays154.a164
  z164 := Tryz.lays154.z164
  v164 := Tryz.lays154.v164 }
/-- a Builder that holds these bytes -/
def Bld (w : World) (B b : Nat) (l : List UInt8) : Prop := Lib.IsBuilderF 149 5 B b (Lib.byteCells l) w
theorem writeString_any (B b : Nat) (l m : List UInt8) (w : World) (h : Bld w B b l) (hl : l.length + m.length ≤ 140737488355328) (hB : B ≤ w.heap.size) :
    Calls Tryz.prog 47 #[.pointer (some ⟨b, 0, none⟩), .string ⟨m.toArray⟩] w fun e w' =>
      e = .returned (.tuple #[.int .i64 m.length, .nilIface]) ∧ Bld w' B b (l ++ m) ∧ Below B w w' := by
  refine (Any.Builder_WriteString_f laysW Tryz.Builder_Extra_154 B b (Lib.byteCells l) ⟨m.toArray⟩ w h (by rw [Lib.byteCells_length]; exact hl) hB).mono ?_
  rintro e w' ⟨rfl, hb, hbel⟩
  refine ⟨rfl, ?_, hbel⟩
  unfold Bld
  have e : Lib.byteCells (l ++ m) = Lib.byteCells l ++ Lib.strCells ⟨m.toArray⟩ := by simp [Lib.byteCells, Lib.strCells]
  rw [e]
  exact .inr hb
theorem string_any (B b : Nat) (l : List UInt8) (w : World) (h : Bld w B b l) (hB : B ≤ w.heap.size) :
    Calls Tryz.prog 49 #[.pointer (some ⟨b, 0, none⟩)] w fun e w' =>
      e = .returned (.string ⟨l.toArray⟩) ∧ Bld w' B b l ∧ Below B w w' := Tryz.Builder_String_any_f B b l w h hB
end Go.Proofs.YtfhchnkoggdilaaGreatDoor
