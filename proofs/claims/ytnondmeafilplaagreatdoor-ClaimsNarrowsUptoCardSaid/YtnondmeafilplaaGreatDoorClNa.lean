/-
  Walks of the statements' own function there of layer 25; what is good of a verdict (printed by wip/gen_clna.py).
-/
import Derived.Test.YtnondmeafilplaaGreatDoorClNP
import Derived.Test.YtnondmeafilplaaGreatDoorClKa
namespace Go.Proofs.YtnondmeafilplaaGreatDoor
open Go.RowKit Mem Utf Ref3 Tok Cl
set_option linter.unusedVariables false

set_option maxRecDepth 100000 in
set_option maxHeartbeats 2000000 in
theorem there_any (c : C) (v1 v2 v3 : Value) (t : Txt) (w : World) (h : ClAt w c v1 v2 v3) :
    Calls Tryz.prog 20 #[.agg #[v1, .string ⟨c.about.toArray⟩, .int .i64 c.at_, .string ⟨c.by_.toArray⟩, v2, .int .i64 c.from_, .string ⟨c.id_.toArray⟩, v3, .int .i64 c.until_], .string ⟨t.toArray⟩] w fun e w' => e = .returned (.bool (inB c.has t)) ∧ Below w.heap.size w w' := by
  have hb : ∀ cs, Below w.heap.size w (w.alloc (.cells cs 44)) := fun cs => (Below.refl _ _).alloc (Nat.le_refl _) _
  have hn := h.nhas
  obtain ⟨A, q, e1, _⟩ := h.has
  subst e1
  have hcb : ∀ cs, ClAt (w.alloc (.cells cs 44)) c (.slice A c.has.length q) v2 v3 := fun cs => h.below (hb cs)
  go_enter Tryz.func20, Tryz.ntmps20
  go_wp2
  go_loop [10] (fun c10 => ∃ k : Nat, k ≤ c.has.length ∧ c10 = .int .i64 k ∧ Hid (inB (c.has.drop k) t = inB c.has t)) (fun c10 => c.has.length - (intOf c10).toNat)
  case atStart => exact ⟨0, by omega, rfl, Lib.hid rfl⟩
  case round =>
    obtain ⟨k, hk, rfl, H⟩ := hrel
    by_cases hlt : k < c.has.length
    · have hst := inB_drop (t := t) hlt
      rw [H.out] at hst
      obtain ⟨g, o, hA, hcell⟩ := has_at h.has hlt
      subst hA
      have hi0 : (0 : Int) ≤ (k : Int) := by omega
      have hi1 : (k : Int) < (c.has.length : Int) := by omega
      have hgl := World.block_lt_of_cell? w _ hcell
      have Hst := Lib.hid hst
      clear hst H
      generalize c.has[k] = x at *
      by_cases hx : x = t
      · have HV : Hid (inB c.has t = true) := Lib.hid (by rw [Hst.out]; simp [hx])
        have he : (x == t) = true := by simpa using hx
        clear hx
        go_wp2
        go_ret
        exact ⟨by rw [HV.out]; rfl, hb _⟩
      · have HV : Hid (inB (c.has.drop (k + 1)) t = inB c.has t) := Lib.hid (by rw [Hst.out]; simp [hx])
        have he : (x == t) = false := by simpa using hx
        clear hx
        go_wp2
        go_round
        case rel => exact ⟨k + 1, by omega, by go_num, HV⟩
        case measure => simp [intOf]; omega
    · obtain rfl : k = c.has.length := by omega
      have HV : Hid (inB c.has t = false) := Lib.hid (by rw [← H.out, List.drop_length]; rfl)
      go_wp2
      go_ret
      exact ⟨by rw [HV.out]; rfl, hb _⟩

theorem good1_any (n : Int) (w : World) : Calls Tryz.prog 177 #[.agg #[.int .i64 n]] w fun e w' => e = .returned (.bool true) ∧ Below w.heap.size w w' := by
  go_enter Tryz.func177, Tryz.ntmps177
  go_wp2
  go_ret
  exact ⟨rfl, (Below.refl _ _).alloc (Nat.le_refl _) _⟩

theorem good2_any (n : Int) (w : World) : Calls Tryz.prog 176 #[.agg #[.int .i64 n]] w fun e w' => e = .returned (.bool false) ∧ Below w.heap.size w w' := by
  go_enter Tryz.func176, Tryz.ntmps176
  go_wp2
  go_ret
  exact ⟨rfl, (Below.refl _ _).alloc (Nat.le_refl _) _⟩

theorem good3_any (n : Int) (w : World) : Calls Tryz.prog 171 #[.agg #[.int .i64 n]] w fun e w' => e = .returned (.bool false) ∧ Below w.heap.size w w' := by
  go_enter Tryz.func171, Tryz.ntmps171
  go_wp2
  go_ret
  exact ⟨rfl, (Below.refl _ _).alloc (Nat.le_refl _) _⟩

theorem good4_any (s : ByteArray) (w : World) : Calls Tryz.prog 181 #[.agg #[.string s]] w fun e w' => e = .returned (.bool false) ∧ Below w.heap.size w w' := by
  go_enter Tryz.func181, Tryz.ntmps181
  go_wp2
  go_ret
  exact ⟨rfl, (Below.refl _ _).alloc (Nat.le_refl _) _⟩

theorem good5_any (s : ByteArray) (w : World) : Calls Tryz.prog 183 #[.agg #[.string s]] w fun e w' => e = .returned (.bool false) ∧ Below w.heap.size w w' := by
  go_enter Tryz.func183, Tryz.ntmps183
  go_wp2
  go_ret
  exact ⟨rfl, (Below.refl _ _).alloc (Nat.le_refl _) _⟩

theorem good6_any (y : Value) (w : World) : Calls Tryz.prog 173 #[.agg #[y]] w fun e w' => e = .returned (.bool false) ∧ Below w.heap.size w w' := by
  go_enter Tryz.func173, Tryz.ntmps173
  go_wp2
  go_ret
  exact ⟨rfl, (Below.refl _ _).alloc (Nat.le_refl _) _⟩

theorem good7_any (y : Value) (w : World) : Calls Tryz.prog 175 #[.agg #[y]] w fun e w' => e = .returned (.bool false) ∧ Below w.heap.size w w' := by
  go_enter Tryz.func175, Tryz.ntmps175
  go_wp2
  go_ret
  exact ⟨rfl, (Below.refl _ _).alloc (Nat.le_refl _) _⟩

theorem good8_any (p : Option Addr) (w : World) : Calls Tryz.prog 179 #[.pointer p] w fun e w' => e = .returned (.bool false) ∧ w = w' := by
  go_enter Tryz.func179, Tryz.ntmps179
  go_wp2
  go_ret
  exact ⟨rfl, rfl⟩
end Go.Proofs.YtnondmeafilplaaGreatDoor
