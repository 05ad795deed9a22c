/-
  Walks of the statements' own functions of layer 13: texts.
-/
import Derived.Test.YtnondmeafilplaaGreatDoorRef13
namespace Go.Proofs.YtnondmeafilplaaGreatDoor
open Go.RowKit Mem Utf Ref3 Tok
set_option linter.unusedVariables false

/-- a slice of texts reads as these -/
def Rd (w : World) (v : Value) (xs : List (List UInt8)) : Prop :=
  ∃ A c, v = .slice A xs.length c ∧ ∀ j (h : j < xs.length), ∃ g o, A = some ⟨g, o, none⟩ ∧ g < w.heap.size ∧ w.cell? ⟨g, o + j, none⟩ = some (strV xs[j])
theorem Rd.of_own {w : World} {base : Nat} {e : TypeId} {v : Value} {xs : List (List UInt8)} (h : w.ownsRow base e 1 v xs.length (xs.map strV)) : Rd w v xs := by
  rcases Joins.ownsRow_forms h with ⟨rfl, h0⟩ | ⟨g, cap, rfl, hlt⟩
  · refine ⟨none, 0, by rw [h0], fun j hj => by omega⟩
  · refine ⟨_, _, rfl, fun j hj => ⟨g, 0, rfl, (h.lt g rfl).2, ?_⟩⟩
    have := h.cellAt j (by omega)
    rw [Nat.zero_add, this, List.getElem?_map, List.getElem?_eq_getElem hj]
    rfl
theorem Rd.below {w w' : World} {v : Value} {xs : List (List UInt8)} (h : Rd w v xs) (hb : Below w.heap.size w w') : Rd w' v xs := by
  obtain ⟨A, c, rfl, hc⟩ := h
  refine ⟨A, c, rfl, fun j hj => ?_⟩
  obtain ⟨g, o, rfl, hl, hcell⟩ := hc j hj
  exact ⟨g, o, rfl, Nat.lt_of_lt_of_le hl hb.size, (hb.cell (by exact hl)).trans hcell⟩

theorem ta_no_no (v : Value) (w : World) : (Instr.typeAssert (.iface 46 v) 53 46 true).run Tryz.prog w = .ok (.tuple #[v, .bool true]) w := by kernel_rfl
theorem ta_spot_no (v : Value) (w : World) : (Instr.typeAssert (.iface 163 v) 53 46 true).run Tryz.prog w = .ok (.tuple #[.int .i64 0, .bool false]) w := by kernel_rfl
theorem ta_spot_spot (v : Value) (w : World) : (Instr.typeAssert (.iface 163 v) 53 163 true).run Tryz.prog w = .ok (.tuple #[v, .bool true]) w := by kernel_rfl

end Go.Proofs.YtnondmeafilplaaGreatDoor
