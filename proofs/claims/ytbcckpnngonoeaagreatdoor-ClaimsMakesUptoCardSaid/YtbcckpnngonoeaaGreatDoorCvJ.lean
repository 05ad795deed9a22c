/-
  Walks of package claims: start (printed by wip/gen_clj.py).
-/
import Derived.Test.YtbcckpnngonoeaaGreatDoorCvD
namespace Go.Proofs.YtbcckpnngonoeaaGreatDoor
open Go.RowKit Mem Utf Ref3 Tok Cl
set_option linter.unusedVariables false

def startV (x : Int × Bool) : Value := .tuple #[.int .i64 x.1, .bool x.2]
set_option maxRecDepth 100000 in
set_option maxHeartbeats 2000000 in
theorem start_any (c : C) (v1 v2 v3 : Value) (w : World) (h : ClAt w c v1 v2 v3) :
    Calls Tryz.prog 40 #[.agg #[v1, .string ⟨c.about.toArray⟩, .int .i64 c.at_, .string ⟨c.by_.toArray⟩, v2, .int .i64 c.from_, .string ⟨c.id_.toArray⟩, v3, .int .i64 c.until_]] w fun e w' => e = .returned (startV (startP c)) ∧ Below w.heap.size w w' := by
  have hb0 : ∀ cs, Below w.heap.size w (w.alloc (.cells cs 24)) := fun cs => (Below.refl _ _).alloc (Nat.le_refl _) _
  have HS : Hid (startP c = if inB c.has (key 1) = true then (max (if inB c.has (key 4) = true then c.from_ else 0) c.at_, true) else if inB c.has (key 4) = true then (c.from_, true) else (0, false)) := Lib.hid rfl
  go_enter Tryz.func40, Tryz.ntmps40
  go_wp2_with fail
  refine (has_any c v1 v2 v3 (key 4) _ (h.below (hb0 _))).mono ?_
  rintro e w1 ⟨rfl, hb1⟩
  have hC : Blk w1 w.heap.size 24 (clCells c v1 v2 v3) := (Blk.new w _ _).below hb1 (by simp)
  have hcl : ClAt w1 c v1 v2 v3 := (h.below (hb0 _)).below hb1
  have hbw1 := below_chain (hb0 _) (hb0 _).size hb1
  have hwl := hC.lt
  obtain ⟨e0, e1, e2, e3, e4, e5, e6, e7, e8⟩ := C9 hC
  clear hb0 hb1 h
  by_cases h4 : inB c.has (key 4) = true
  ·
    have h4 := h4
    have G4 := Lib.hid h4
    rw [h4]
    clear h4
    go_wp2_with fail
    refine (has_any c v1 v2 v3 (key 1) _ hcl).mono ?_
    rintro e w2 ⟨rfl, hb2⟩
    clear e0 e1 e2 e3 e4 e5 e6 e7 e8
    have h4 := G4.out
    by_cases h1 : inB c.has (key 1) = true
    ·
      have HV : Hid (startP c = (max (c.from_) c.at_, true)) := Lib.hid (by rw [HS.out, h1, h4]; rfl)
      rw [h1]
      clear h1 h4 HS
      obtain ⟨e0, e1, e2, e3, e4, e5, e6, e7, e8⟩ := C9 (hC.below hb2 hwl)
      go_wp2
      go_ret2
      exact ⟨by rw [HV.out]; rfl, below_chain hbw1 hbw1.size hb2⟩
    · rw [Bool.not_eq_true] at h1
      have HV : Hid (startP c = (c.from_, true)) := Lib.hid (by rw [HS.out, h1, h4]; rfl)
      rw [h1]
      clear h1 h4 HS
      obtain ⟨e0, e1, e2, e3, e4, e5, e6, e7, e8⟩ := C9 (hC.below hb2 hwl)
      go_wp2
      go_ret2
      exact ⟨by rw [HV.out]; rfl, below_chain hbw1 hbw1.size hb2⟩
  ·
    rw [Bool.not_eq_true] at h4
    have G4 := Lib.hid h4
    rw [h4]
    clear h4
    go_wp2_with fail
    refine (has_any c v1 v2 v3 (key 1) _ hcl).mono ?_
    rintro e w2 ⟨rfl, hb2⟩
    clear e0 e1 e2 e3 e4 e5 e6 e7 e8
    have h4 := G4.out
    by_cases h1 : inB c.has (key 1) = true
    ·
      have HV : Hid (startP c = (max (0) c.at_, true)) := Lib.hid (by rw [HS.out, h1, h4]; rfl)
      rw [h1]
      clear h1 h4 HS
      obtain ⟨e0, e1, e2, e3, e4, e5, e6, e7, e8⟩ := C9 (hC.below hb2 hwl)
      go_wp2
      go_ret2
      exact ⟨by rw [HV.out]; rfl, below_chain hbw1 hbw1.size hb2⟩
    · rw [Bool.not_eq_true] at h1
      have HV : Hid (startP c = (0, false)) := Lib.hid (by rw [HS.out, h1, h4]; rfl)
      rw [h1]
      clear h1 h4 HS
      obtain ⟨e0, e1, e2, e3, e4, e5, e6, e7, e8⟩ := C9 (hC.below hb2 hwl)
      go_wp2
      go_ret2
      exact ⟨by rw [HV.out]; rfl, below_chain hbw1 hbw1.size hb2⟩
end Go.Proofs.YtbcckpnngonoeaaGreatDoor

