/-
  Walks of package node: used.
-/
import Derived.Test.YtfhfkggkbeahbaaNdA
namespace Go.Proofs.Ytfhfkggkbeahbaa
open Go.RowKit Mem
set_option linter.unusedVariables false

/-- what of a step its sort does not use is zero -/
def usedB (s : Int) (f : Bool) (b : Int) (t : List UInt8) (c : Int) (n : Nat) : Bool :=
  (decide (1 ≤ s) && decide (s ≤ 6) && decide (0 ≤ c)) && (!f || s == 2) && (b == 0 || s == 3) && (t.isEmpty || s == 4) && (c == 0 || s == 5) && ((n : Int) == 0 || s == 6)
set_option maxRecDepth 100000 in
set_option maxHeartbeats 4000000 in
theorem used_any (s : Int) (f : Bool) (b : Int) (t : List UInt8) (c : Int) (A : Option Addr) (n q : Nat) (w : World) :
    Calls Try.prog 34 #[.agg #[.int .i64 s, .bool f, .int .u64 b, .string ⟨t.toArray⟩, .int .i64 c, .slice A n q]] w fun e w' => e = .returned (.bool (usedB s f b t c n)) ∧ Below w.heap.size w w' := by
  have hb : ∀ o, Below w.heap.size w (w.alloc o) := fun o => (Below.refl _ _).alloc (Nat.le_refl _) _
  have HU : Hid (usedB s f b t c n = ((decide (1 ≤ s) && decide (s ≤ 6) && decide (0 ≤ c)) && (!f || s == 2) && (b == 0 || s == 3) && (t.isEmpty || s == 4) && (c == 0 || s == 5) && ((n : Int) == 0 || s == 6))) := Lib.hid rfl
  obtain ⟨p1, h1⟩ : ∃ p, decide (1 ≤ s) = p := ⟨_, rfl⟩
  obtain ⟨p2, h2⟩ : ∃ p, decide (s ≤ 6) = p := ⟨_, rfl⟩
  obtain ⟨p3, h3⟩ : ∃ p, decide (0 ≤ c) = p := ⟨_, rfl⟩
  obtain ⟨q2, g2⟩ : ∃ p, (s == 2) = p := ⟨_, rfl⟩
  obtain ⟨q3, g3⟩ : ∃ p, (s == 3) = p := ⟨_, rfl⟩
  obtain ⟨q4, g4⟩ : ∃ p, (s == 4) = p := ⟨_, rfl⟩
  obtain ⟨q5, g5⟩ : ∃ p, (s == 5) = p := ⟨_, rfl⟩
  obtain ⟨q6, g6⟩ : ∃ p, (s == 6) = p := ⟨_, rfl⟩
  obtain ⟨zb, k1⟩ : ∃ p, (b == 0) = p := ⟨_, rfl⟩
  obtain ⟨zt, k2⟩ : ∃ p, t.isEmpty = p := ⟨_, rfl⟩
  obtain ⟨zc, k3⟩ : ∃ p, (c == 0) = p := ⟨_, rfl⟩
  obtain ⟨zn, k4⟩ : ∃ p, ((n : Int) == 0) = p := ⟨_, rfl⟩
  rw [h1, h2, h3, g2, g3, g4, g5, g6, k1, k2, k3, k4] at HU
  go_enter Try.func34, Try.ntmps34
  go_upto_region 1 with fail
  have hB := Blk.new w 42 #[.int .i64 s, .bool f, .int .u64 b, .string ⟨t.toArray⟩, .int .i64 c, .slice A n q]
  have hb1 := hb (.cells #[.int .i64 s, .bool f, .int .u64 b, .string ⟨t.toArray⟩, .int .i64 c, .slice A n q] 42)
  generalize w.alloc (.cells #[.int .i64 s, .bool f, .int .u64 b, .string ⟨t.toArray⟩, .int .i64 c, .slice A n q] 42) = w1 at *
  have c0 : w1.cell? ⟨w.heap.size, 0, none⟩ = some (.int .i64 s) := hB.cell 0
  have c1 : w1.cell? ⟨w.heap.size, 1, none⟩ = some (.bool f) := hB.cell 1
  have c2 : w1.cell? ⟨w.heap.size, 2, none⟩ = some (.int .u64 b) := hB.cell 2
  have c3 : w1.cell? ⟨w.heap.size, 3, none⟩ = some (.string ⟨t.toArray⟩) := hB.cell 3
  have c4 : w1.cell? ⟨w.heap.size, 4, none⟩ = some (.int .i64 c) := hB.cell 4
  have c5 : w1.cell? ⟨w.heap.size, 5, none⟩ = some (.slice A n q) := hB.cell 5
  clear hB hb
  go_cut [3] (fun c3 wx => c3 = .bool (p1 && p2 && p3) ∧ wx = w1)
  case first =>
    cases p1 with
    | false => go_wp2_with fail; go_meet; exact ⟨rfl, rfl⟩
    | true =>
      cases p2 with
      | false => go_wp2_with fail; go_meet; exact ⟨rfl, rfl⟩
      | true =>
        cases p3 with
        | false => go_wp2_with fail; go_meet; exact ⟨rfl, rfl⟩
        | true => go_wp2_with fail; go_meet; exact ⟨rfl, rfl⟩
  case rest =>
    obtain ⟨rfl, rfl⟩ := hcut
    generalize (p1 && p2 && p3) = b1 at *
    go_upto_region 2 with fail
    go_cut [3] (fun c3 wx => c3 = .bool (b1 && (!f || q2) && (zb || q3) && (zt || q4)) ∧ wx = wc)
    case first =>
      cases b1 with
      | false =>
        go_wp2_with fail; go_meet; exact ⟨by simp, rfl⟩
      | true =>
        cases f with
        | false =>
          cases zb with
          | false =>
            cases q3 with
            | false =>
              go_wp2_with fail; go_meet; exact ⟨by simp, rfl⟩
            | true =>
              cases zt with
              | false =>
                have k5 : ¬ t = [] := by simpa using k2
                cases q4 with
                | false =>
                  go_wp2_with fail; go_meet; exact ⟨by simp, rfl⟩
                | true =>
                  go_wp2_with fail; go_meet; exact ⟨by simp, rfl⟩
              | true =>
                go_wp2_with fail; go_meet; exact ⟨by simp, rfl⟩
          | true =>
            cases zt with
            | false =>
              have k5 : ¬ t = [] := by simpa using k2
              cases q4 with
              | false =>
                go_wp2_with fail; go_meet; exact ⟨by simp, rfl⟩
              | true =>
                go_wp2_with fail; go_meet; exact ⟨by simp, rfl⟩
            | true =>
              go_wp2_with fail; go_meet; exact ⟨by simp, rfl⟩
        | true =>
          cases q2 with
          | false =>
            go_wp2_with fail; go_meet; exact ⟨by simp, rfl⟩
          | true =>
            cases zb with
            | false =>
              cases q3 with
              | false =>
                go_wp2_with fail; go_meet; exact ⟨by simp, rfl⟩
              | true =>
                cases zt with
                | false =>
                  have k5 : ¬ t = [] := by simpa using k2
                  cases q4 with
                  | false =>
                    go_wp2_with fail; go_meet; exact ⟨by simp, rfl⟩
                  | true =>
                    go_wp2_with fail; go_meet; exact ⟨by simp, rfl⟩
                | true =>
                  go_wp2_with fail; go_meet; exact ⟨by simp, rfl⟩
            | true =>
              cases zt with
              | false =>
                have k5 : ¬ t = [] := by simpa using k2
                cases q4 with
                | false =>
                  go_wp2_with fail; go_meet; exact ⟨by simp, rfl⟩
                | true =>
                  go_wp2_with fail; go_meet; exact ⟨by simp, rfl⟩
              | true =>
                go_wp2_with fail; go_meet; exact ⟨by simp, rfl⟩
    case rest =>
      obtain ⟨rfl, rfl⟩ := hcut
      generalize (b1 && (!f || q2) && (zb || q3) && (zt || q4)) = b2 at *
      cases b2 with
      | false =>
        go_wp2; go_ret; exact ⟨by rw [HU.out]; simp, hb1⟩
      | true =>
        cases zc with
        | false =>
          cases q5 with
          | false =>
            go_wp2; go_ret; exact ⟨by rw [HU.out]; simp, hb1⟩
          | true =>
            cases zn with
            | false =>
              cases q6 with
              | false =>
                go_wp2; go_ret; exact ⟨by rw [HU.out]; simp, hb1⟩
              | true =>
                go_wp2; go_ret; exact ⟨by rw [HU.out]; simp, hb1⟩
            | true =>
              go_wp2; go_ret; exact ⟨by rw [HU.out]; simp, hb1⟩
        | true =>
          cases zn with
          | false =>
            cases q6 with
            | false =>
              go_wp2; go_ret; exact ⟨by rw [HU.out]; simp, hb1⟩
            | true =>
              go_wp2; go_ret; exact ⟨by rw [HU.out]; simp, hb1⟩
          | true =>
            go_wp2; go_ret; exact ⟨by rw [HU.out]; simp, hb1⟩
end Go.Proofs.Ytfhfkggkbeahbaa
