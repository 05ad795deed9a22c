/-
  What the statements' arguments read as: texts, slices of texts; the second form's bound on them.
-/
import Derived.Test.YtnondmeafilplaaGreatDoorRows
import Derived.Test.YtnondmeafilplaaGreatDoorLaw13
import Derived.ProofKit
import Derived.SliceStrings
namespace Go.Proofs.YtnondmeafilplaaGreatDoor
open Go.ChangeShapes Go.WideShapes Go.RowKit Tok
set_option linter.unusedVariables false

theorem prog_own : ownKnob Tryz.prog.godebug = none := by kernel_rfl
theorem prog_laidOut : laidOutB Tryz.prog = true := by kernel_rfl
theorem glob {W : World} (h : W.ShapedOpen Tryz.prog) : Glob W := Tryz.laysM219.s1_3 W h
/-- a slice of texts that came in -/
theorem open_texts {H : Type} {enc : TypeId × Value → H} {W : World} {a : Option Addr} {len cap : Nat} {d : DataW H} {ps : List MemPlace}
    (h : DataW.Trod enc Tryz.prog W 0 (fun _ => true) true 23 (.slice a len cap) d ps) :
    ∃ ts : List (List UInt8), ts.length = len ∧ Rd W (.slice a ts.length cap) ts ∧ (a = none → ts.length = 0 ∧ cap = 0) ∧ bulkS ts ≤ Rows.uptoBulk d := by
  obtain ⟨fuel, hf⟩ := h
  rcases open_strings Tryz.underlying23 Tryz.underlying9 (by kernel_rfl) hf with ⟨hcs, hx⟩ | ⟨ad, len', cap', ss, hcs, _, hl, hm, hz, hx, hcell, hws⟩
  · simp [Value.cells] at hcs
    obtain ⟨rfl, rfl, rfl⟩ := hcs
    exact ⟨[], rfl, ⟨none, 0, rfl, fun j hj => by cases hj⟩, fun _ => ⟨rfl, rfl⟩, Nat.zero_le _⟩
  · simp [Value.cells] at hcs
    obtain ⟨rfl, rfl, rfl⟩ := hcs
    have hz' : ss.length = cap := by simpa using hz
    have hlen : ((ss.take len).map fun s => s.data.toList).length = len := by rw [List.length_map, List.length_take]; omega
    refine ⟨(ss.take len).map fun s => s.data.toList, hlen, ?_, (fun h => by cases h), ?_⟩
    · rw [hlen]
      refine ⟨some ad, cap, by rw [hlen], fun j hj => ?_⟩
      have hjl : j < len := by omega
      have hc := hcell j (by omega)
      obtain ⟨g, o, spot⟩ := ad
      have hspot : spot = none := by simpa [Addr.add] using World.cell?_spot (hcell 0 (by omega))
      subst hspot
      have e1 : (⟨g, o, none⟩ : Addr).add j = ⟨g, o + j, none⟩ := by
        unfold Addr.add
        split <;> simp_all
      rw [e1] at hc
      refine ⟨g, o, rfl, World.block_lt_of_cell? W _ hc, ?_⟩
      rw [hc, List.getD_eq_getElem?_getD, List.getElem?_eq_getElem (by omega), List.getElem_map, List.getElem_take]
      rfl
    · have hd : d = .slice (ChangeShapes.strs (ss.take len)) (ChangeShapes.strs (ss.drop len)) := by
        have := congrArg Prod.fst hx
        exact this
      subst hd
      have hall : ∀ l : List ByteArray, bulkS (l.map fun s => s.data.toList) = Rows.uptoBulkAll (ChangeShapes.strs (H := H) l) := by
        intro l
        induction l with
        | nil => simp [bulkS, ChangeShapes.strs, Rows.uptoBulkAll]
        | cons s r ih =>
          simp only [ChangeShapes.strs, List.map_cons, bulkS, Rows.uptoBulkAll, Rows.uptoBulk] at ih ⊢
          omega
      rw [hall, Rows.uptoBulk]
      omega
end Go.Proofs.YtnondmeafilplaaGreatDoor
