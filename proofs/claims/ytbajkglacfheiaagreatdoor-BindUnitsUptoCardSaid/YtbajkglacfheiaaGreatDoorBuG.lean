/-
  The statement BindUnits: its own function units: two rows that are alike.
-/
import Derived.Test.YtbajkglacfheiaaGreatDoorBvF
namespace Go.Proofs.YtbajkglacfheiaaGreatDoor
open Go.RowKit Mem Utf Ref3 Idx Tok TokC
set_option linter.unusedVariables false
set_option linter.unusedSimpArgs false
set_option maxRecDepth 100000
namespace Nd
set_option maxHeartbeats 4000000 in
theorem units16_any (xs : List Nat) (g o c g' o' c' : Nat) (w : World) (h1 : ∀ j x, xs[j]? = some x → w.cell? ⟨g, o + j, none⟩ = some (u16V x)) (h2 : ∀ j x, xs[j]? = some x → w.cell? ⟨g', o' + j, none⟩ = some (u16V x)) (hn : xs.length ≤ 4) :
    Calls Tryz.prog 12 #[.slice (some ⟨g, o, none⟩) xs.length c, .slice (some ⟨g', o', none⟩) xs.length c'] w fun e w' => e = .returned (.bool true) ∧ Below w.heap.size w w' := by
  have H1 := Lib.hid h1
  have H2 := Lib.hid h2
  clear h1 h2
  have e0 : ((xs.length : Int) != (xs.length : Int)) = false := by simp
  go_enter Tryz.func12, Tryz.ntmps12
  go_wp2
  go_loopw [13] (fun c13 wr => ∃ k q : Nat, k ≤ xs.length ∧ c13 = .int .i64 k ∧ wr = w.drewN q) (fun c13 _ => xs.length - (intOf c13).toNat)
  case atStart => exact ⟨0, 0, by omega, rfl, rfl⟩
  case round =>
    obtain ⟨k, q, hk, rfl, rfl⟩ := hrel
    by_cases hlt : k < xs.length
    · have hs1 := H1.out k xs[k] (List.getElem?_eq_getElem hlt)
      have hs2 := H2.out k xs[k] (List.getElem?_eq_getElem hlt)
      unfold u16V at hs1 hs2
      generalize xs[k] = x at *
      have hi0 : (0 : Int) ≤ (k : Int) := by omega
      have hi1 : (k : Int) < (xs.length : Int) := by omega
      have e5 : ((x : Int) != (x : Int)) = false := by simp
      go_wp2
      go_quiet (fail)
      go_wp2
      go_roundw
      case rel => exact ⟨k + 1, _, by omega, by go_num, rfl⟩
      case measure => simp [intOf]; omega
    · obtain rfl : k = xs.length := by omega
      go_wp2
      go_ret
      exact ⟨rfl, drewN_below _ _⟩
end Nd
end Go.Proofs.YtbajkglacfheiaaGreatDoor

