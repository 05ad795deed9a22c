/-
  Walk of the statement PointerIndexes.
  Walks of the reference of layer 13: Piece, Print.
  The reference of layer 13: On, and layer 10's Find of a key.
  The reference of layer 13: Lead.
  The law's value: what steps make, by the reference.
-/
import Derived.Test.YtmcmoaeheadihaaGreatDoorMC
import Derived.Lib.AppendStr
import Derived.Test.YtmcmoaeheadihaaGreatDoorMD
import Derived.Test.YtmcmoaeheadihaaGreatDoorHD
import Derived.Test.YtmcmoaeheadihaaGreatDoorHF
import Derived.Test.YtmcmoaeheadihaaGreatDoorHGs
namespace Go.Proofs.YtmcmoaeheadihaaGreatDoor
open Go.RowKit Mem Utf Ref3 Tok Idx
set_option linter.unusedVariables false

end Go.Proofs.YtmcmoaeheadihaaGreatDoor
namespace Go.Proofs.YtmcmoaeheadihaaGreatDoor
open Go.RowKit Mem Utf Ref3 Tok
set_option linter.unusedVariables false

end Go.Proofs.YtmcmoaeheadihaaGreatDoor
namespace Go.Proofs.YtmcmoaeheadihaaGreatDoor
open Go.RowKit Mem Idx
set_option linter.unusedVariables false
namespace Nd
end Nd
end Go.Proofs.YtmcmoaeheadihaaGreatDoor
namespace Go.Proofs.YtmcmoaeheadihaaGreatDoor
open Go.RowKit Mem Idx Tok
set_option linter.unusedVariables false
set_option linter.unusedSimpArgs false
namespace Nd
theorem six_below {w w' : World} {P : Nat} (h : Below w.heap.size w w') (hP : w.heap.size ≤ P) (a b c d e f : Value) : Below w.heap.size w (six w' P a b c d e f) :=
  below_put (below_put (below_put (below_put (below_put (below_put h hP) hP) hP) hP) hP) hP
end Nd
end Go.Proofs.YtmcmoaeheadihaaGreatDoor
namespace Go.Proofs.YtmcmoaeheadihaaGreatDoor
open Go.RowKit Mem
set_option linter.unusedVariables false
set_option linter.unusedSimpArgs false
namespace Nd
theorem runT_ne : ∀ (ss : List Stp) (l : List Tr) (i n j : Nat) (m : Int), runT l ss i = .inl (m, n) → m ≠ 0
  | [], l, i, n, j, m, h => by rw [runT] at h; cases h
  | s :: ss, l, i, n, j, m, h => by
    rw [runT] at h
    by_cases h0 : (doT l s).1 = 0
    · rw [if_pos h0] at h
      exact runT_ne ss _ _ _ j _ h
    · rw [if_neg h0] at h
      injection h with h
      injection h with h1 h2
      rw [← h1]
      exact h0
theorem buildT_ne {ss : List Stp} {n i : Int} (h : buildT ss = .inl (n, i)) : n ≠ 0 := by
  unfold buildT at h
  by_cases hl : 65536 < ss.length
  · rw [if_pos hl] at h
    injection h with h
    injection h with h1 h2
    omega
  · rw [if_neg hl] at h
    cases hr : runT [] ss 0 with
    | inl x =>
      rw [hr] at h
      injection h with h
      injection h with h1 h2
      have := runT_ne ss [] 0 x.2 0 x.1 hr
      rw [← h1]
      exact this
    | inr l =>
      rw [hr] at h
      match l, h with
      | [], h => injection h with h; injection h with h1 h2; omega
      | [t], h => cases h
      | _ :: _ :: _, h => injection h with h; injection h with h1 h2; omega
theorem refBuild_all (v : Value) (ss : List Stp) (w : World) (hS : RdS w v ss) (hF : ∀ s ∈ ss, s.Fine) (hC : ∀ s ∈ ss, s.Cnt) : Calls Tryz.prog 69 #[v] w (RBuildP ss w) := by
  by_cases hn : ss.length ≤ 65536
  · exact refBuild_any v ss w hS hF hC hn
  · exact refBuild_long v ss w hS (by omega)
end Nd
end Go.Proofs.YtmcmoaeheadihaaGreatDoor
