/-
  Walk of the statements' own function wakes of layer 25.
-/
import Derived.Test.YtbcckpnngonoeaaGreatDoorCvQ
namespace Go.Proofs.YtbcckpnngonoeaaGreatDoor
open Go.RowKit Mem Utf Ref3 Tok Cl
set_option linter.unusedVariables false

def cW : C := ⟨[key 7], [], 0, [], [], 0, [], [], 10⟩
def rW (n : Int) : R := ⟨n, 0, [], [], [], []⟩
theorem wk9 : judgeP cW (rW 9) = ⟨1, 10, [], []⟩ := by kernel_rfl
theorem wk10 : judgeP cW (rW 10) = ⟨3, 10, [], []⟩ := by kernel_rfl
theorem rd_none (w : World) : Rd w (.slice none 0 0) [] := ⟨none, 0, rfl, fun j hj => by cases hj⟩
theorem cW_at {w : World} {g : Nat} (h : Blk w g 9 #[.string ⟨#[117, 110, 116, 105, 108]⟩]) : ClAt w cW (.slice (some ⟨g, 0, none⟩) 1 1) (.slice none 0 0) (.slice none 0 0) := by
  refine ⟨⟨_, _, rfl, fun j hj => ?_⟩, rd_none w, rd_none w, by decide, by decide, by decide, by decide, by decide, by decide, (fun t ht => (by cases ht)), (fun t ht => (by cases ht)), fun A n e => ?_, fun A n e => ?_⟩
  · obtain rfl : j = 0 := by
      have : j < 1 := hj
      omega
    exact ⟨g, 0, rfl, h.lt, h.cell 0⟩
  · injection e with _ _ e
    subst e
    exact ⟨by decide, by decide⟩
  · injection e with _ _ e
    subst e
    exact ⟨by decide, by decide⟩
theorem rW_at (n : Int) (w : World) : RuAt w (rW n) (.slice none 0 0) (.slice none 0 0) (.slice none 0 0) :=
  ⟨rd_none w, rd_none w, rd_none w, Nat.zero_le _, Nat.zero_le _, Nat.zero_le _⟩
theorem judgeW (n : Int) (g : Nat) (w : World) (h : Blk w g 9 #[.string ⟨#[117, 110, 116, 105, 108]⟩]) :
    Calls Tryz.prog 12 #[.agg #[.slice (some ⟨g, 0, none⟩) 1 1, .string ⟨#[]⟩, .int .i64 0, .string ⟨#[]⟩, .slice none 0 0, .int .i64 0, .string ⟨#[]⟩, .slice none 0 0, .int .i64 10],
      .agg #[.int .i64 n, .int .i64 0, .string ⟨#[]⟩, .slice none 0 0, .slice none 0 0, .slice none 0 0]] w (JudgeP cW (rW n) w) :=
  judge_any cW (rW n) _ _ _ _ _ _ w (cW_at h) (rW_at n w)

set_option maxRecDepth 100000 in
set_option maxHeartbeats 1000000 in
theorem wakes25_any (w : World) : Calls Tryz.prog 10 #[] w fun e w' => e = .returned (.bool true) ∧ Below w.heap.size w w' := by
  have t1 := tv_0_0
  have t2 := tv_2_2
  have hq : ∀ (w : World) o, (w.alloc o).heap.size = w.heap.size + 1 := fun w o => by simp
  go_enter Tryz.func10, Tryz.ntmps10
  go_wp2_with fail
  refine (judgeW 9 w.heap.size _ ((Blk.new w _ _).alloc _)).mono ?_
  rintro e w1 ⟨v, rfl, hv, hb1⟩
  rw [wk9] at hv
  obtain rfl : v = _ := hv
  have hS : Blk w1 w.heap.size 9 #[.string ⟨#[117, 110, 116, 105, 108]⟩] := ((Blk.new w _ _).alloc _).below hb1 (by rw [hq, hq]; omega)
  have hC : Blk w1 (w.heap.size + 1) 24 #[.slice (some ⟨w.heap.size, 0, none⟩) 1 1, .string ⟨#[]⟩, .int .i64 0, .string ⟨#[]⟩, .slice none 0 0, .int .i64 0, .string ⟨#[]⟩, .slice none 0 0, .int .i64 10] := by
    have := Blk.new (w.alloc (.cells #[.string ⟨#[117, 110, 116, 105, 108]⟩] 9)) 24 #[.slice (some ⟨w.heap.size, 0, none⟩) 1 1, .string ⟨#[]⟩, .int .i64 0, .string ⟨#[]⟩, .slice none 0 0, .int .i64 0, .string ⟨#[]⟩, .slice none 0 0, .int .i64 10]
    rw [hq] at this
    exact this.below hb1 (by rw [hq, hq]; omega)
  have hbw := below_chain (((Below.refl w.heap.size w).alloc (Nat.le_refl _) _).alloc (by rw [hq]; omega) _) (by rw [hq, hq]; omega) hb1
  clear hb1
  have hSl := hS.lt
  have hCl := hC.lt
  have hs := hbw.size
  obtain ⟨e0, e1, e2, e3, e4, e5, e6, e7, e8⟩ := C9 hC
  go_wp2_with fail
  refine (judgeW 10 w.heap.size _ (hS.alloc _)).mono ?_
  rintro e w2 ⟨v, rfl, hv, hb2⟩
  rw [wk10] at hv
  obtain rfl : v = _ := hv
  have hH : Blk w2 w1.heap.size 110 #[.int .i64 10] := (Blk.new w1 _ _).below hb2 (by rw [hq]; omega)
  have h0 : w2.cell? ⟨w1.heap.size, 0, none⟩ = some (.int .i64 10) := hH.cell 0
  have hHl := hH.lt
  have hbw2 := below_chain (hbw.alloc hs _) (by rw [hq]; omega) hb2
  have hs2 := hbw2.size
  clear hb2 e0 e1 e2 e3 e4 e5 e6 e7 e8
  go_wp2
  go_ret
  exact ⟨rfl, hbw2.alloc hs2 _⟩
end Go.Proofs.YtbcckpnngonoeaaGreatDoor

