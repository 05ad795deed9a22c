/-
  Walks of the statements' own functions of layer 13: wakes.
-/
import Derived.Test.YtfhchnkoggdilaaGreatDoorPvB
import Derived.KernelRfl
namespace Go.Proofs.YtfhchnkoggdilaaGreatDoor
open Go.RowKit Mem Utf Ref3 Tok
set_option linter.unusedVariables false

theorem Glob.size {w : World} (h : Glob w) : 1 < w.heap.size := by
  obtain ⟨m, hm⟩ := h
  exact World.block_lt_of_cell? w _ hm
theorem Glob.next {w w' : World} (h : Glob w) (hb : Below w.heap.size w w') : Glob w' := h.below hb h.size
theorem wk_parse : parseS (wrong [47, 97, 126, 49, 98, 47, 48]) [47, 97, 126, 49, 98, 47, 48] = .ok [[97, 47, 98], [48]] := by kernel_rfl
theorem wk_print : printR wrong [[97, 47, 98], [48]] = .ok [47, 97, 126, 49, 98, 47, 48] := by kernel_rfl

set_option maxRecDepth 100000 in
set_option maxHeartbeats 4000000 in
theorem wakes_any (w : World) (hg : Glob w) : Calls Tryz.prog 9 #[] w fun e w' => e = .returned (.bool true) ∧ Below w.heap.size w w' := by
  have q1 := err_eq_nil
  go_enter Tryz.func9, Tryz.ntmps9
  go_wp2_with fail
  refine (parse_any ⟨#[47, 97, 126, 49, 98, 47, 48]⟩ (by decide) _ hg).mono ?_
  rintro e w1 ⟨hb1, _, hok⟩
  obtain ⟨v, rfl, hown⟩ := hok _ wk_parse
  obtain ⟨g, cap, rfl, hbg⟩ := Joins.ownsRow_form hown (by decide)
  have hg1 := hg.next hb1
  go_wp2_with fail
  have hR : Rd (w1.alloc (.cells #[.string ⟨#[97, 47, 98]⟩, .string ⟨#[48]⟩] 9)) (.slice (some ⟨w1.heap.size, 0, none⟩) 2 2) [[97, 47, 98], [48]] := by
    refine ⟨_, _, rfl, fun j hj => ⟨w1.heap.size, 0, rfl, by simp, ?_⟩⟩
    rw [Nat.zero_add, Blk.cell (Blk.new w1 9 #[.string ⟨#[97, 47, 98]⟩, .string ⟨#[48]⟩]) j]
    match j, hj with
    | 0, _ => rfl
    | 1, _ => rfl
  refine (print_any _ _ _ hR (by decide) (hg1.next (Joins.below_alloc1 _ _))).mono ?_
  rintro e w2 ⟨hb2, _, hok2⟩
  rw [hok2 _ wk_print]
  clear hok hok2
  have hb12 : Below w1.heap.size w1 w2 := below_chain (Joins.below_alloc1 _ _) (by simp) hb2
  have hown2 := own_below hown hb12
  have c0 : w2.cell? ⟨g, 0, none⟩ = some (.string ⟨#[97, 47, 98]⟩) := hown2.cellAt 0 (by decide)
  have c1 : w2.cell? ⟨g, 1, none⟩ = some (.string ⟨#[48]⟩) := hown2.cellAt 1 (by decide)
  have hbw : Below w.heap.size w w2 := below_chain hb1 hb1.size hb12
  clear hown hown2 hb1 hb2 hb12 hR
  go_wp2
  go_ret
  exact ⟨rfl, hbw⟩
end Go.Proofs.YtfhchnkoggdilaaGreatDoor
