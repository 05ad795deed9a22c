/-
  Walks of the reference of layer 10: Made.
  Walks of the reference of layer 10: Do, from the check of the limits on.
  Walks of the reference of layer 10: Do, from the making of the value on.
-/
import Derived.Test.YtbcckpnngonoeaaGreatDoorHDs
import Derived.Deep.AppendLies
import Derived.Deep.RegionLaw
import Derived.Test.YtbcckpnngonoeaaGreatDoorGE
namespace Go.Proofs.YtbcckpnngonoeaaGreatDoor
open Go.RowKit Mem Ref3
set_option linter.unusedVariables false
set_option linter.unusedSimpArgs false
namespace Nd
theorem info_val : (Tryz.prog.info? 61).map (fun i => (i.zero, i.size, i.bytes)) = some (some (.agg #[.int .i64 0, .bool false, .int .u64 0, .string ⟨#[]⟩, .slice none 0 0, .slice none 0 0]), 6, 88) := by kernel_rfl
section
variable {es : List E7} {w3 : World} {P ki kk : Nat} {AI : Option Addr} {cI : Nat} {AK : Option Addr} {cK : Nat} {wr : World}
end
theorem own_cells {S : Nat → Prop} {w : World} {B s n c : Nat} {e : TypeId} {A : Option Addr} {us : List Value} (h : w.ownsRow B e s (.slice A n c) n us) (hS : ∀ k, B ≤ k → S k) : Cells S w A us := by
  have hl := h.1
  rcases h.2 with ⟨hv, h0⟩ | ⟨g, cap, cur, hv, hb, hg, hc, _, hs, ht⟩
  · left
    subst h0
    simp at hl
    exact hl
  · injection hv with hA _ h3
    refine .inr ⟨g, 0, hA, hS g hb, fun i u hi => ?_⟩
    rw [cell_of_row w g _ cur _ _ hg, Nat.zero_add]
    have hil : i < n * s := by
      rcases Nat.lt_or_ge i (n * s) with h | h
      · exact h
      · rw [List.getElem?_eq_none (by omega)] at hi
        cases hi
    rw [← ht, List.getElem?_take, if_pos hil] at hi
    simpa using hi
end Nd
end Go.Proofs.YtbcckpnngonoeaaGreatDoor
namespace Go.Proofs.YtbcckpnngonoeaaGreatDoor
open Go.RowKit Mem Ref3
set_option linter.unusedVariables false
set_option linter.unusedSimpArgs false
namespace Nd
end Nd
end Go.Proofs.YtbcckpnngonoeaaGreatDoor
namespace Go.Proofs.YtbcckpnngonoeaaGreatDoor
open Go.RowKit Mem Ref3
set_option linter.unusedVariables false
set_option linter.unusedSimpArgs false
namespace Nd
end Nd
end Go.Proofs.YtbcckpnngonoeaaGreatDoor

