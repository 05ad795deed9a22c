/-
  Walks of the statements' own functions of layer 13: texts.
-/
import Derived.Test.YtfhchnkoggdilaaGreatDoorPvR
namespace Go.Proofs.YtfhchnkoggdilaaGreatDoor
open Go.RowKit Mem Utf Ref3 Tok
set_option linter.unusedVariables false

/-- a slice of texts reads as these -/
def Rd (w : World) (v : Value) (xs : List (List UInt8)) : Prop :=
  ∃ A c, v = .slice A xs.length c ∧ ∀ j (h : j < xs.length), ∃ g o, A = some ⟨g, o, none⟩ ∧ g < w.heap.size ∧ w.cell? ⟨g, o + j, none⟩ = some (strV xs[j])
theorem Rd.of_own {w : World} {base : Nat} {e : TypeId} {v : Value} {xs : List (List UInt8)} (h : w.ownsRow base e 1 v xs.length (xs.map strV)) : Rd w v xs := by
  rcases Joins.ownsRow_forms h with ⟨rfl, h0⟩ | ⟨g, cap, rfl, hlt⟩
  · refine ⟨none, 0, by rw [h0], fun j hj => by omega⟩
  · refine ⟨_, _, rfl, fun j hj => ⟨g, 0, rfl, (h.lt g rfl).2, ?_⟩⟩
    have := h.cellAt j (by omega)
    rw [Nat.zero_add, this, List.getElem?_map, List.getElem?_eq_getElem hj]
    rfl
theorem Rd.below {w w' : World} {v : Value} {xs : List (List UInt8)} (h : Rd w v xs) (hb : Below w.heap.size w w') : Rd w' v xs := by
  obtain ⟨A, c, rfl, hc⟩ := h
  refine ⟨A, c, rfl, fun j hj => ?_⟩
  obtain ⟨g, o, rfl, hl, hcell⟩ := hc j hj
  exact ⟨g, o, rfl, Nat.lt_of_lt_of_le hl hb.size, (hb.cell (by exact hl)).trans hcell⟩

set_option maxRecDepth 100000 in
set_option maxHeartbeats 4000000 in
theorem texts_any (v1 v2 : Value) (xs ys : List (List UInt8)) (w : World) (h1 : Rd w v1 xs) (h2 : Rd w v2 ys) (hx : xs.length ≤ 140737488355328) (hy : ys.length ≤ 140737488355328) :
    Calls Tryz.prog 19 #[v1, v2] w fun e w' => e = .returned (.bool (decide (xs = ys))) ∧ Below w.heap.size w w' := by
  obtain ⟨A, c, rfl, hA⟩ := h1
  obtain ⟨A', c', rfl, hA'⟩ := h2
  by_cases hlen : xs.length = ys.length
  · have e0 : ((xs.length : Int) != (ys.length : Int)) = false := by simp [hlen]
    have Hlen := Lib.hid hlen
    have hle : ys.length ≤ xs.length := by omega
    have hle' : xs.length ≤ ys.length := by omega
    clear hlen
    go_enter Tryz.func19, Tryz.ntmps19
    go_wp2
    go_loopw [13] (fun c13 wr => ∃ k q : Nat, k ≤ xs.length ∧ c13 = .int .i64 k ∧ Hid (xs.take k = ys.take k) ∧ wr = w.drewN q) (fun c13 _ => xs.length - (intOf c13).toNat)
    case atStart => exact ⟨0, 0, by omega, rfl, Lib.hid rfl, rfl⟩
    case round =>
      obtain ⟨k, q, hk, rfl, heq, rfl⟩ := hrel
      by_cases hlt : k < xs.length
      · have hlt' : k < ys.length := by omega
        obtain ⟨g, o, rfl, hg, hcell⟩ := hA k hlt
        obtain ⟨g', o', rfl, hg', hcell'⟩ := hA' k hlt'
        have hs1 : w.cell? ⟨g, o + k, none⟩ = some (.string ⟨xs[k].toArray⟩) := hcell
        have hs2 : w.cell? ⟨g', o' + k, none⟩ = some (.string ⟨ys[k].toArray⟩) := hcell'
        clear hcell hcell' hA hA'
        have hi0 : (0 : Int) ≤ (k : Int) := by omega
        have hi1 : (k : Int) < (xs.length : Int) := by omega
        have hi2 : (k : Int) < (ys.length : Int) := by omega
        by_cases hk2 : xs[k] = ys[k]
        · have e5 : (!xs[k] == ys[k]) = false := by rw [hk2]; simp
          have HT : Hid (xs.take (k + 1) = ys.take (k + 1)) := Lib.hid (by
            rw [List.take_succ_eq_append_getElem hlt, List.take_succ_eq_append_getElem hlt', heq.out, hk2])
          clear hk2
          go_wp2
          go_quiet (fail)
          go_wp2
          go_roundw
          case rel => exact ⟨k + 1, _, by omega, by go_num, HT, rfl⟩
          case measure => simp [intOf]; omega
        · have e5 : (!xs[k] == ys[k]) = true := by simpa using hk2
          have H : Hid (¬ xs = ys) := Lib.hid fun e => hk2 (by subst e; rfl)
          clear hk2
          go_wp2
          go_quiet (fail)
          go_wp2
          go_ret
          exact ⟨by rw [decide_eq_false H.out]; rfl, (drewN_below _ _).trans (drewN_below _ _)⟩
      · obtain rfl : k = xs.length := by omega
        have hres : xs = ys := by
          have := heq.out
          rwa [List.take_length, List.take_of_length_le hle] at this
        have H := Lib.hid hres
        clear hres
        go_wp2
        go_ret
        exact ⟨by rw [decide_eq_true H.out]; rfl, drewN_below _ _⟩
  · have e0 : ((xs.length : Int) != (ys.length : Int)) = true := by rw [bne_iff_ne]; omega
    have H : Hid (¬ xs = ys) := Lib.hid fun e => hlen (by rw [e])
    clear hlen
    go_enter Tryz.func19, Tryz.ntmps19
    go_wp2
    go_ret
    exact ⟨by rw [decide_eq_false H.out]; rfl, Below.refl _ _⟩

theorem ta_no_no (v : Value) (w : World) : (Instr.typeAssert (.iface 51 v) 25 51 true).run Tryz.prog w = .ok (.tuple #[v, .bool true]) w := by kernel_rfl
theorem ta_spot_no (v : Value) (w : World) : (Instr.typeAssert (.iface 79 v) 25 51 true).run Tryz.prog w = .ok (.tuple #[.int .i64 0, .bool false]) w := by kernel_rfl
theorem ta_spot_spot (v : Value) (w : World) : (Instr.typeAssert (.iface 79 v) 25 79 true).run Tryz.prog w = .ok (.tuple #[v, .bool true]) w := by kernel_rfl

set_option maxRecDepth 100000 in
set_option maxHeartbeats 2000000 in
theorem fault_no (n a : Int) (p : ByteArray) (ha : a < 0) (w : World) :
    Calls Tryz.prog 11 #[.iface 51 (.int .i64 n), .agg #[.int .i64 n, .int .i64 a, .bool false, .string p]] w
      fun e w' => e = .returned (.bool true) ∧ Below w.heap.size w w' := by
  have t1 := ta_no_no
  have e1 : (n == n) = true := by simp
  go_enter Tryz.func11, Tryz.ntmps11
  go_wp2
  go_ret
  exact ⟨rfl, (Below.refl _ _).alloc (Nat.le_refl _) _⟩

set_option maxRecDepth 100000 in
set_option maxHeartbeats 2000000 in
theorem fault_spot (n a : Int) (p : ByteArray) (ha : 0 ≤ a) (w : World) :
    Calls Tryz.prog 11 #[.iface 79 (.agg #[.int .i64 n, .int .i64 a]), .agg #[.int .i64 n, .int .i64 a, .bool false, .string p]] w
      fun e w' => e = .returned (.bool true) ∧ Below w.heap.size w w' := by
  have t1 := ta_spot_no
  have t2 := ta_spot_spot
  go_enter Tryz.func11, Tryz.ntmps11
  go_wp2
  go_ret
  exact ⟨rfl, ((Below.refl _ _).alloc (Nat.le_refl _) _).alloc (by simp) _⟩

theorem fault_err (n a : Int) (p : ByteArray) (w : World) :
    Calls Tryz.prog 11 #[errV n a, .agg #[.int .i64 n, .int .i64 a, .bool false, .string p]] w
      fun e w' => e = .returned (.bool true) ∧ Below w.heap.size w w' := by
  by_cases h : a < 0
  · rw [errV, if_pos h]
    exact fault_no n a p h w
  · rw [errV_at n h]
    exact fault_spot n a p (by omega) w
end Go.Proofs.YtfhchnkoggdilaaGreatDoor
