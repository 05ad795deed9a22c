/-
  The law PointerFinds: its walk.
-/
import Derived.Test.YtmcmoaeheadihaaGreatDoorMF
import Derived.Test.YtmcmoaeheadihaaGreatDoorPkG
namespace Go.Proofs.YtmcmoaeheadihaaGreatDoor
open Go.RowKit Mem Utf Ref3 Idx Tok TokC
set_option linter.unusedVariables false
set_option linter.unusedSimpArgs false
namespace Nd
set_option maxRecDepth 100000 in
set_option maxHeartbeats 4000000 in
theorem pfind_nil (l : List UInt8) (w : World) : Calls Tryz.prog 14 #[.pointer none, .string ⟨l.toArray⟩] w fun e w' => e = .returned (.tuple #[.agg #[.nilIface], .iface 51 (.int .i64 1)]) ∧ Below w.heap.size w w' := by
  have hB := Blk.new w 38 #[.nilIface]
  have hba : Below w.heap.size w (w.alloc (.cells #[.nilIface] 38)) := (Below.refl _ _).alloc (Nat.le_refl _) _
  have c4 := hB.cell 0
  have f4 := hB.frozen 0
  go_enter Tryz.func14, Tryz.ntmps14
  go_wp2
  refine bodyPost_ret (v := .tuple #[.agg #[.nilIface], .iface 51 (.int .i64 1)]) ?_ rfl ⟨rfl, ?_⟩
  · simp [results, Tryz.results14, go_sem]
  · first | exact hba | exact below_put hba (Nat.le_refl _)
theorem held7 {a b : Nat} {x0 x1 x2 x3 x4 x5 x6 : Value} {W0 W W' : World} (h : W.cell? ⟨a, 0, none⟩ = some x0 ∧ W.cell? ⟨b, 0, none⟩ = some x1 ∧ W.cell? ⟨b, 1, none⟩ = some x2 ∧ W.cell? ⟨b, 2, none⟩ = some x3 ∧ W.cell? ⟨b, 3, none⟩ = some x4 ∧ W.cell? ⟨b, 4, none⟩ = some x5 ∧ W.cell? ⟨b, 5, none⟩ = some x6 ∧ Below W0.heap.size W0 W) (hb : Below W.heap.size W W') : W'.cell? ⟨a, 0, none⟩ = some x0 ∧ W'.cell? ⟨b, 0, none⟩ = some x1 ∧ W'.cell? ⟨b, 1, none⟩ = some x2 ∧ W'.cell? ⟨b, 2, none⟩ = some x3 ∧ W'.cell? ⟨b, 3, none⟩ = some x4 ∧ W'.cell? ⟨b, 4, none⟩ = some x5 ∧ W'.cell? ⟨b, 5, none⟩ = some x6 ∧ Below W0.heap.size W0 W' := by
  obtain ⟨h0, h1, h2, h3, h4, h5, h6, h7⟩ := h
  have g : ∀ {k i : Nat} {y : Value}, W.cell? ⟨k, i, none⟩ = some y → W'.cell? ⟨k, i, none⟩ = some y := fun h => ((old hb).1 _ _ (World.block_lt_of_cell? _ _ h)).trans h
  exact ⟨g h0, g h1, g h2, g h3, g h4, g h5, g h6, h7.trans (hb.mono h7.size)⟩
end Nd
end Go.Proofs.YtmcmoaeheadihaaGreatDoor
