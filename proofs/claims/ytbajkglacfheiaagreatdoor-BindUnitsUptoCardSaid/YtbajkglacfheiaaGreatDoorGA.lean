/-
  Walks of package node: refuse, within, used; the closure of row.do that recovers.
  Walks of package node: used.
  Walks of package node: put of a null.
  Walks of package node: the step that puts a null.
  Walks of package node: Maker.step and Maker.Null.
  Walks of package node: a row that is full takes no further value.
  Walks of package node: New, Len; numbers at a full row; a copy at a full row.
  Walks of package node: a number at a full row.
-/
import Derived.Test.YtbajkglacfheiaaGreatDoorProg
import Derived.Test.YtbajkglacfheiaaGreatDoorWords
import Derived.WalkKit
import Derived.LoopTactic
import Derived.Deep.QuietTactic
import Derived.BigQuiet
import Derived.Lib.Hide
import Derived.Outline
import Derived.Tactics2
import Derived.Defers
import Derived.Recover
import Derived.Deep.DeepCutAuto
import Derived.WalkLawsBesides
import Derived.WalkSpells
import Derived.Laws.AppendOwn
import Derived.OwnWalk
import Derived.StillTailTactics
namespace Go.Proofs.YtbajkglacfheiaaGreatDoor
open Go.RowKit Mem
set_option linter.unusedVariables false

theorem refuse_yes (n : Int) (w : World) : Calls Tryz.prog 71 #[.bool true, .int .i64 n] w fun e w' => e = .returned (.tuple #[]) ∧ w = w' := by
  go_enter Tryz.func71, Tryz.ntmps71
  go_wp2
  go_end0
  exact ⟨rfl, rfl⟩
theorem refuse_no (n : Int) (w : World) : Calls Tryz.prog 71 #[.bool false, .int .i64 n] w fun e w' => e = .panicked [{ v := .iface 113 (.int .i64 n), recovered := false }] ∧ w = w' := by
  go_enter Tryz.func71, Tryz.ntmps71
  go_wp2
  exact ⟨rfl, rfl, rfl⟩
/-- is a size within the limits? -/
def withinB (n b d : Int) : Bool := decide (n ≤ 65536) && decide (b ≤ 2097152) && decide (d ≤ 512)
theorem within_any (n b d : Int) (w : World) : Calls Tryz.prog 116 #[.agg #[.int .i64 n, .int .i64 b, .int .i64 d]] w fun e w' => e = .returned (.bool (withinB n b d)) ∧ Below w.heap.size w w' := by
  have hb : ∀ o, Below w.heap.size w (w.alloc o) := fun o => (Below.refl _ _).alloc (Nat.le_refl _) _
  have HW : Hid (withinB n b d = (decide (n ≤ 65536) && decide (b ≤ 2097152) && decide (d ≤ 512))) := Lib.hid rfl
  obtain ⟨p, hp⟩ : ∃ p, decide (n ≤ 65536) = p := ⟨_, rfl⟩
  obtain ⟨q, hq⟩ : ∃ p, decide (b ≤ 2097152) = p := ⟨_, rfl⟩
  obtain ⟨r, hr⟩ : ∃ p, decide (d ≤ 512) = p := ⟨_, rfl⟩
  rw [hp, hq, hr] at HW
  go_enter Tryz.func116, Tryz.ntmps116
  cases p with
  | false =>
    go_wp2
    go_ret
    exact ⟨by rw [HW.out]; rfl, hb _⟩
  | true =>
    cases q with
    | false =>
      go_wp2
      go_ret
      exact ⟨by rw [HW.out]; rfl, hb _⟩
    | true =>
      cases r with
      | false =>
        go_wp2
        go_ret
        exact ⟨by rw [HW.out]; rfl, hb _⟩
      | true =>
        go_wp2
        go_ret
        exact ⟨by rw [HW.out]; rfl, hb _⟩
/-- the closure that recovers, behind a panic with a number -/
theorem catch_panicking (p : Addr) (x : Value) (n : Int) (older : List PanicEntry) (w : World) (hc : w.cell? p = some x) (hz : w.frozen? p = false) :
    CallsD Tryz.prog 70 #[.pointer (some p)] (.panicking ({ v := .iface 113 (.int .i64 n), recovered := false } :: older)) w fun e u' w' =>
      e = .returned (.tuple #[]) ∧ u' = .panicking ({ v := .iface 113 (.int .i64 n), recovered := true } :: older) ∧ w' = w.setCell p (.iface 113 (.int .i64 n)) := by
  have hta : ∀ W, (Instr.typeAssert (.iface 113 (.int .i64 n)) 20 113 false).run Tryz.prog W = .ok (.int .i64 n) W := fun W => by kernel_rfl
  refine callsD_of_wpS Tryz.func70 rfl fun c₀ cs hu => ?_
  apply wpS_seq
  apply wpS_region
  simp [wpOpsS, go_sem, recoverD, hu, Tryz.ntmps70, Exit.thenS]
  apply wpS_seq
  apply wpS_region
  simp [wpOpsS, go_sem, Exit.thenS]
  refine wpS_cond (t := true) (by simp [Act.eval]) ?_
  simp only [if_true]
  apply wpS_region
  simp [wpOpsS, go_sem, hta, hc, hz, bodyPostS, results, Tryz.results70]
theorem catch_idle (p : Addr) (w : World) :
    CallsD Tryz.prog 70 #[.pointer (some p)] .returning w fun e u' w' => e = .returned (.tuple #[]) ∧ u' = .returning ∧ w' = w := by
  refine callsD_of_wpS Tryz.func70 rfl fun c₀ cs hu => ?_
  apply wpS_seq
  apply wpS_region
  simp [wpOpsS, go_sem, recoverD, hu, Tryz.ntmps70, Exit.thenS]
  apply wpS_seq
  apply wpS_region
  simp [wpOpsS, go_sem, Exit.thenS]
  refine wpS_cond (t := false) (by simp [Act.eval]) ?_
  simp only [Bool.false_eq_true, if_false]
  refine wpS_of_wp (wp_skip ?_)
  cases c₀
  simp_all [bodyPostS, results, Tryz.results70]
end Go.Proofs.YtbajkglacfheiaaGreatDoor
namespace Go.Proofs.YtbajkglacfheiaaGreatDoor
open Go.RowKit Mem
set_option linter.unusedVariables false

/-- what of a step its sort does not use is zero -/
def usedB (s : Int) (f : Bool) (b : Int) (t : List UInt8) (c : Int) (n : Nat) : Bool :=
  (decide (1 ≤ s) && decide (s ≤ 6) && decide (0 ≤ c)) && (!f || s == 2) && (b == 0 || s == 3) && (t.isEmpty || s == 4) && (c == 0 || s == 5) && ((n : Int) == 0 || s == 6)
set_option maxRecDepth 100000 in
set_option maxHeartbeats 4000000 in
theorem used_any (s : Int) (f : Bool) (b : Int) (t : List UInt8) (c : Int) (A : Option Addr) (n q : Nat) (w : World) :
    Calls Tryz.prog 72 #[.agg #[.int .i64 s, .bool f, .int .u64 b, .string ⟨t.toArray⟩, .int .i64 c, .slice A n q]] w fun e w' => e = .returned (.bool (usedB s f b t c n)) ∧ Below w.heap.size w w' := by
  have hb : ∀ o, Below w.heap.size w (w.alloc o) := fun o => (Below.refl _ _).alloc (Nat.le_refl _) _
  have HU : Hid (usedB s f b t c n = ((decide (1 ≤ s) && decide (s ≤ 6) && decide (0 ≤ c)) && (!f || s == 2) && (b == 0 || s == 3) && (t.isEmpty || s == 4) && (c == 0 || s == 5) && ((n : Int) == 0 || s == 6))) := Lib.hid rfl
  obtain ⟨p1, h1⟩ : ∃ p, decide (1 ≤ s) = p := ⟨_, rfl⟩
  obtain ⟨p2, h2⟩ : ∃ p, decide (s ≤ 6) = p := ⟨_, rfl⟩
  obtain ⟨p3, h3⟩ : ∃ p, decide (0 ≤ c) = p := ⟨_, rfl⟩
  obtain ⟨q2, g2⟩ : ∃ p, (s == 2) = p := ⟨_, rfl⟩
  obtain ⟨q3, g3⟩ : ∃ p, (s == 3) = p := ⟨_, rfl⟩
  obtain ⟨q4, g4⟩ : ∃ p, (s == 4) = p := ⟨_, rfl⟩
  obtain ⟨q5, g5⟩ : ∃ p, (s == 5) = p := ⟨_, rfl⟩
  obtain ⟨q6, g6⟩ : ∃ p, (s == 6) = p := ⟨_, rfl⟩
  obtain ⟨zb, k1⟩ : ∃ p, (b == 0) = p := ⟨_, rfl⟩
  obtain ⟨zt, k2⟩ : ∃ p, t.isEmpty = p := ⟨_, rfl⟩
  obtain ⟨zc, k3⟩ : ∃ p, (c == 0) = p := ⟨_, rfl⟩
  obtain ⟨zn, k4⟩ : ∃ p, ((n : Int) == 0) = p := ⟨_, rfl⟩
  rw [h1, h2, h3, g2, g3, g4, g5, g6, k1, k2, k3, k4] at HU
  go_enter Tryz.func72, Tryz.ntmps72
  go_upto_region 1 with fail
  have hB := Blk.new w 119 #[.int .i64 s, .bool f, .int .u64 b, .string ⟨t.toArray⟩, .int .i64 c, .slice A n q]
  have hb1 := hb (.cells #[.int .i64 s, .bool f, .int .u64 b, .string ⟨t.toArray⟩, .int .i64 c, .slice A n q] 119)
  generalize w.alloc (.cells #[.int .i64 s, .bool f, .int .u64 b, .string ⟨t.toArray⟩, .int .i64 c, .slice A n q] 119) = w1 at *
  have c0 : w1.cell? ⟨w.heap.size, 0, none⟩ = some (.int .i64 s) := hB.cell 0
  have c1 : w1.cell? ⟨w.heap.size, 1, none⟩ = some (.bool f) := hB.cell 1
  have c2 : w1.cell? ⟨w.heap.size, 2, none⟩ = some (.int .u64 b) := hB.cell 2
  have c3 : w1.cell? ⟨w.heap.size, 3, none⟩ = some (.string ⟨t.toArray⟩) := hB.cell 3
  have c4 : w1.cell? ⟨w.heap.size, 4, none⟩ = some (.int .i64 c) := hB.cell 4
  have c5 : w1.cell? ⟨w.heap.size, 5, none⟩ = some (.slice A n q) := hB.cell 5
  clear hB hb
  go_cut [3] (fun c3 wx => c3 = .bool (p1 && p2 && p3) ∧ wx = w1)
  case first =>
    cases p1 with
    | false => go_wp2_with fail; go_meet; exact ⟨rfl, rfl⟩
    | true =>
      cases p2 with
      | false => go_wp2_with fail; go_meet; exact ⟨rfl, rfl⟩
      | true =>
        cases p3 with
        | false => go_wp2_with fail; go_meet; exact ⟨rfl, rfl⟩
        | true => go_wp2_with fail; go_meet; exact ⟨rfl, rfl⟩
  case rest =>
    obtain ⟨rfl, rfl⟩ := hcut
    generalize (p1 && p2 && p3) = b1 at *
    go_upto_region 2 with fail
    go_cut [3] (fun c3 wx => c3 = .bool (b1 && (!f || q2) && (zb || q3) && (zt || q4)) ∧ wx = wc)
    case first =>
      cases b1 with
      | false =>
        go_wp2_with fail; go_meet; exact ⟨by simp, rfl⟩
      | true =>
        cases f with
        | false =>
          cases zb with
          | false =>
            cases q3 with
            | false =>
              go_wp2_with fail; go_meet; exact ⟨by simp, rfl⟩
            | true =>
              cases zt with
              | false =>
                have k5 : ¬ t = [] := by simpa using k2
                cases q4 with
                | false =>
                  go_wp2_with fail; go_meet; exact ⟨by simp, rfl⟩
                | true =>
                  go_wp2_with fail; go_meet; exact ⟨by simp, rfl⟩
              | true =>
                go_wp2_with fail; go_meet; exact ⟨by simp, rfl⟩
          | true =>
            cases zt with
            | false =>
              have k5 : ¬ t = [] := by simpa using k2
              cases q4 with
              | false =>
                go_wp2_with fail; go_meet; exact ⟨by simp, rfl⟩
              | true =>
                go_wp2_with fail; go_meet; exact ⟨by simp, rfl⟩
            | true =>
              go_wp2_with fail; go_meet; exact ⟨by simp, rfl⟩
        | true =>
          cases q2 with
          | false =>
            go_wp2_with fail; go_meet; exact ⟨by simp, rfl⟩
          | true =>
            cases zb with
            | false =>
              cases q3 with
              | false =>
                go_wp2_with fail; go_meet; exact ⟨by simp, rfl⟩
              | true =>
                cases zt with
                | false =>
                  have k5 : ¬ t = [] := by simpa using k2
                  cases q4 with
                  | false =>
                    go_wp2_with fail; go_meet; exact ⟨by simp, rfl⟩
                  | true =>
                    go_wp2_with fail; go_meet; exact ⟨by simp, rfl⟩
                | true =>
                  go_wp2_with fail; go_meet; exact ⟨by simp, rfl⟩
            | true =>
              cases zt with
              | false =>
                have k5 : ¬ t = [] := by simpa using k2
                cases q4 with
                | false =>
                  go_wp2_with fail; go_meet; exact ⟨by simp, rfl⟩
                | true =>
                  go_wp2_with fail; go_meet; exact ⟨by simp, rfl⟩
              | true =>
                go_wp2_with fail; go_meet; exact ⟨by simp, rfl⟩
    case rest =>
      obtain ⟨rfl, rfl⟩ := hcut
      generalize (b1 && (!f || q2) && (zb || q3) && (zt || q4)) = b2 at *
      cases b2 with
      | false =>
        go_wp2; go_ret; exact ⟨by rw [HU.out]; simp, hb1⟩
      | true =>
        cases zc with
        | false =>
          cases q5 with
          | false =>
            go_wp2; go_ret; exact ⟨by rw [HU.out]; simp, hb1⟩
          | true =>
            cases zn with
            | false =>
              cases q6 with
              | false =>
                go_wp2; go_ret; exact ⟨by rw [HU.out]; simp, hb1⟩
              | true =>
                go_wp2; go_ret; exact ⟨by rw [HU.out]; simp, hb1⟩
            | true =>
              go_wp2; go_ret; exact ⟨by rw [HU.out]; simp, hb1⟩
        | true =>
          cases zn with
          | false =>
            cases q6 with
            | false =>
              go_wp2; go_ret; exact ⟨by rw [HU.out]; simp, hb1⟩
            | true =>
              go_wp2; go_ret; exact ⟨by rw [HU.out]; simp, hb1⟩
          | true =>
            go_wp2; go_ret; exact ⟨by rw [HU.out]; simp, hb1⟩
end Go.Proofs.YtbajkglacfheiaaGreatDoor
namespace Go.Proofs.YtbajkglacfheiaaGreatDoor
open Go.RowKit Mem
set_option linter.unusedVariables false

theorem info_item : (Tryz.prog.info? 56).map (fun i => (i.zero, i.size, i.bytes)) = some (some .nilIface, 1, 16) := by kernel_rfl
theorem one_new (w : World) (t : TypeId) (v : Value) : ∀ j u, [v][j]? = some u → (w.alloc (.cells #[v] t)).cell? ((⟨w.heap.size, 0, none⟩ : Addr).add j) = some u := by
  intro j u hj
  match j, hj with
  | 0, hj =>
    injection hj with hj
    subst hj
    exact Blk.cell (Blk.new w t #[v]) 0
  | j + 1, hj => cases hj
theorem one_cell (v : Value) (h : v.oneCell' = true) : ∀ u ∈ [v], u.oneCell' = true := by
  intro u hu
  rw [List.mem_singleton] at hu
  rw [hu]
  exact h
/-- a row of the call's own is a slice of its length -/
theorem own_slice {w : World} {base size n : Nat} {e : TypeId} {v : Value} {xs : List Value} (h : w.ownsRow base e size v n xs) : ∃ A c, v = .slice A n c := by
  rcases Joins.ownsRow_forms h with ⟨rfl, rfl⟩ | ⟨g, cap, rfl, _⟩
  · exact ⟨none, 0, rfl⟩
  · exact ⟨_, _, rfl⟩
def nullV : Value := .iface 195 (.agg #[])
/-- all is as it was but one block and the row's own -/
def Keep2 (p : Nat) (v : Value) (W W' : World) : Prop := W.heap.size ≤ W'.heap.size ∧ ∀ k, k < W.heap.size → k ≠ p → some k ≠ v.ownBlock → W'.heap[k]? = W.heap[k]?
theorem sized_null (w : World) : Calls Tryz.prog 281 #[.agg #[]] w fun e w' => e = .returned (.agg #[.int .i64 1, .int .i64 0, .int .i64 1]) ∧ Below w.heap.size w w' := by
  go_enter Tryz.func281, Tryz.ntmps281
  go_wp2
  refine bodyPost_ret (v := .agg #[.int .i64 1, .int .i64 0, .int .i64 1]) ?_ rfl ⟨rfl, ((Below.refl _ _).alloc (Nat.le_refl _) _).alloc (by simp) _⟩
  simp [results, Tryz.results281, go_sem]
theorem sized_text (t : List UInt8) (w : World) : Calls Tryz.prog 285 #[.string ⟨t.toArray⟩] w fun e w' => e = .returned (.agg #[.int .i64 1, .int .i64 t.length, .int .i64 1]) ∧ Below w.heap.size w w' := by
  go_enter Tryz.func285, Tryz.ntmps285
  go_wp2
  refine bodyPost_ret (v := .agg #[.int .i64 1, .int .i64 t.length, .int .i64 1]) ?_ rfl ⟨rfl, (Below.refl _ _).alloc (Nat.le_refl _) _⟩
  simp [results, Tryz.results285, go_sem]
set_option maxRecDepth 100000 in
set_option maxHeartbeats 4000000 in
theorem put_null (p : Nat) (ty : TypeId) (B : Nat) (v : Value) (n : Nat) (xs : List Value) (w : World) (hB : Blk w p ty #[v]) (hown : w.ownsRow B 56 1 v n xs) (hp : p < B) (hn : n ≤ 1099511627776) (hBw : B ≤ w.heap.size) :
    Calls Tryz.prog 73 #[.pointer (some ⟨p, 0, none⟩), nullV] w fun e w' => e = .returned (.tuple #[]) ∧ ∃ v', Blk w' p ty #[v'] ∧ w'.ownsRow B 56 1 v' (n + 1) (xs ++ [nullV]) ∧ Below p w w' ∧ ∀ k t cs, k ≠ p → some k ≠ v.ownBlock → Blk w k t cs → Blk w' k t cs := by
  obtain ⟨i0, hi0, hz0, hz1, hz2⟩ := info_parts info_item
  have hwi : withinB 1 0 1 = true := by decide
  unfold nullV
  go_enter Tryz.func73, Tryz.ntmps73
  go_wp2_with fail
  refine (sized_null _).mono ?_
  rintro e w1 ⟨rfl, hb1⟩
  have hB1 := hB.below hb1 hB.lt
  have hown1 := own_below hown hb1
  have hbp1 : Below p w w1 := hb1.mono (by omega)
  have hs1 := hb1.size
  go_wp2_with fail
  refine (within_any 1 0 1 _).mono ?_
  rw [hwi]
  rintro e w2 ⟨rfl, hb2⟩
  have hB2 := hB1.below hb2 hB1.lt
  have hown2 := own_below hown1 hb2
  have hbp2 : Below p w w2 := below_chain hbp1 (by have := hB1.lt; omega) hb2
  have hs2 := hb2.size
  have hk2 : ∀ k t cs, Blk w k t cs → Blk w2 k t cs := fun k t cs h => (h.below hb1 h.lt).below hb2 (h.below hb1 h.lt).lt
  have HK2 := Lib.hid hk2
  clear hB hown hb1 hB1 hown1 hbp1 hb2 hk2
  have hc : w2.cell? ⟨p, 0, none⟩ = some v := hB2.cell 0
  have hcA := (hB2.alloc (.cells #[.iface 195 (.agg #[])] 56)).cell 0
  go_wp2_with (at_builtin; go_must (refine wpList_append_own _ rfl (.tmp 13) (.tmp 15) _ rfl B 56 i0 _ 1 16 Tryz.underlying114 hi0 hz0 hz1 hz2 rfl (by omega) v n xs rfl (hown2.alloc _) ⟨w2.heap.size, 0, none⟩ 1 1 [.iface 195 (.agg #[])] rfl rfl (one_new _ _ _) (one_cell _ rfl) (by unfold maxLen; omega) (by omega) (by simp; omega) ?_); intro v9 w9 hown9 hgr9 hnil9; obtain ⟨A9, q9, e9⟩ := own_slice hown9; subst e9; have hB9 := (hB2.alloc (.cells #[.iface 195 (.agg #[])] 56)).only hgr9 (by intro e; have := (hown2.lt _ e.symm).1; omega); have hc9 : w9.cell? ⟨p, 0, none⟩ = some v := hB9.cell 0; have hf9 := hB9.frozen 0)
  have hbp9 : Below p w w9 := (hbp2.alloc (by omega) (.cells #[.iface 195 (.agg #[])] 56)).grown hgr9 (by simp; omega) (fun q hq => by have := (hown2.lt q hq).1; omega)
  go_end0
  exact ⟨rfl, _, hB9.put 0 _, hown9.kept (grown_put (grown_refl w9 (some p)) 0 _) (.inr (by intro e; have := (hown9.lt _ e).1; omega)), hbp9.setCell (Nat.le_refl _) _, fun k t cs h1 h2 h => (((HK2.out k t cs h).alloc _).only hgr9 h2).far (p := ⟨p, 0, none⟩) h1 _⟩
end Go.Proofs.YtbajkglacfheiaaGreatDoor
namespace Go.Proofs.YtbajkglacfheiaaGreatDoor
open Go.RowKit Mem
set_option linter.unusedVariables false

set_option maxRecDepth 100000 in
set_option maxHeartbeats 4000000 in
theorem do_null (p : Nat) (ty : TypeId) (B : Nat) (v : Value) (n : Nat) (xs : List Value) (w : World) (hB : Blk w p ty #[v]) (hown : w.ownsRow B 56 1 v n xs) (hp : p < B) (hn : n ≤ 1099511627776) (hBw : B ≤ w.heap.size) :
    Calls Tryz.prog 32 #[.pointer (some ⟨p, 0, none⟩), .agg #[.int .i64 1, .bool false, .int .u64 0, .string ⟨#[]⟩, .int .i64 0, .slice none 0 0]] w fun e w' => e = .returned .nilIface ∧ ∃ v', Blk w' p ty #[v'] ∧ w'.ownsRow B 56 1 v' (n + 1) (xs ++ [nullV]) ∧ Below p w w' := by
  have hmf : ∀ (fn : Fn) (first cap : Array Value) (w : World), (Instr.makeFunc fn first cap).run Tryz.prog w = .ok (.func fn first cap) w := fun _ _ _ _ => rfl
  have hus : usedB 1 false 0 [] 0 0 = true := by decide
  have hb0 : ∀ o1 o2, Below w.heap.size w ((w.alloc o1).alloc o2) := fun o1 o2 => ((Below.refl _ _).alloc (Nat.le_refl _) _).alloc (by simp) _
  go_enter_defers Tryz.func32, Tryz.ntmps32
  go_wp2_with fail
  refine (used_any 1 false 0 [] 0 none 0 0 _).mono ?_
  rw [hus]
  rintro e w1 ⟨rfl, hb1⟩
  have hsz : ((w.alloc (.cells #[.int .i64 1, .bool false, .int .u64 0, .string ⟨#[]⟩, .int .i64 0, .slice none 0 0] 119)).alloc (.cells #[.nilIface] 25)).heap.size = w.heap.size + 2 := by simp
  have hS1 := ((Blk.new w 119 #[.int .i64 1, .bool false, .int .u64 0, .string ⟨#[]⟩, .int .i64 0, .slice none 0 0]).alloc (.cells #[.nilIface] 25)).below hb1 (by rw [hsz]; omega)
  have hE1 := (Blk.new (w.alloc (.cells #[.int .i64 1, .bool false, .int .u64 0, .string ⟨#[]⟩, .int .i64 0, .slice none 0 0] 119)) 25 #[.nilIface]).below hb1 (by simp)
  have hb1' := below_chain (hb0 _ _) (by rw [hsz]; omega) hb1
  have hB1 := hB.below hb1' hB.lt
  have hown1 := own_below hown hb1'
  have hbp1 : Below p w w1 := hb1'.mono (by omega)
  have hs1 := hb1'.size
  have hlt : ∀ k, v.ownBlock = some k → k < w.heap.size := fun k e => (hown.lt k e).2
  have HLT := Lib.hid hlt
  have hq : (w.alloc (.cells #[.int .i64 1, .bool false, .int .u64 0, .string ⟨#[]⟩, .int .i64 0, .slice none 0 0] 119)).heap.size = w.heap.size + 1 := by simp
  rw [hq] at hE1
  clear hb1 hb1' hB hown hb0 hsz hlt hq
  have c0 : w1.cell? ⟨w.heap.size, 0, none⟩ = some (.int .i64 1) := hS1.cell 0
  go_wp2_with fail
  refine (refuse_yes 2 _).mono ?_
  rintro e w' ⟨rfl, rfl⟩
  go_wp2_with fail
  refine (put_null p ty B v n xs _ hB1 hown1 hp hn (by omega)).mono ?_
  rintro e w2 ⟨rfl, v2, hB2, hown2, hbp2, hk2⟩
  have hE2 := hk2 _ _ _ (by omega) (by intro e; have := HLT.out _ e.symm; omega) hE1
  have cE : w2.cell? ⟨w.heap.size + 1, 0, none⟩ = some .nilIface := hE2.cell 0
  have fE := hE2.frozen 0
  have hne : v2.ownBlock ≠ some (w.heap.size + 1) := by
    intro e
    rcases hown2.2 with ⟨rfl, _⟩ | ⟨g', cap, cur, rfl, _, hh, _⟩
    · cases e
    · injection e with e
      have e' : g' = w.heap.size + 1 := e
      subst e'
      have := hh.symm.trans hE2
      injection this with this
      injection this with _ this
      exact absurd this (by decide)
  have hB3 := hB2.far (p := ⟨w.heap.size + 1, 0, none⟩) (by show p ≠ w.heap.size + 1; omega) .nilIface
  have hown3 : (w2.setCell ⟨w.heap.size + 1, 0, none⟩ .nilIface).ownsRow B 56 1 v2 (n + 1) (xs ++ [nullV]) := hown2.kept (grown_put (grown_refl w2 (some (w.heap.size + 1))) 0 _) (.inr hne)
  have hbp3 : Below p w (w2.setCell ⟨w.heap.size + 1, 0, none⟩ .nilIface) := (hbp1.trans hbp2).setCell (by show p ≤ w.heap.size + 1; omega) _
  have cE3 : (w2.setCell ⟨w.heap.size + 1, 0, none⟩ .nilIface).cell? ⟨w.heap.size + 1, 0, none⟩ = some .nilIface := (hE2.put 0 _).cell 0
  go_wp2
  refine leaves_cons (f := 70) (args := #[.pointer (some ⟨w.heap.size + 1, 0, none⟩)]) (by simp) (by simp [go_sem]) ?_
  refine (catch_idle ⟨w.heap.size + 1, 0, none⟩ _).mono ?_
  rintro e u' w'' ⟨rfl, rfl, rfl⟩
  simp [Leaves, settle, results, Tryz.results32, go_sem, cE3]
  exact ⟨v2, hB3, hown3, hbp3⟩
end Go.Proofs.YtbajkglacfheiaaGreatDoor
namespace Go.Proofs.YtbajkglacfheiaaGreatDoor
open Go.RowKit Mem
set_option linter.unusedVariables false

set_option maxRecDepth 100000 in
set_option maxHeartbeats 4000000 in
theorem step_null (p : Nat) (ty : TypeId) (B : Nat) (A : Option Addr) (n q : Nat) (xs : List Value) (w : World) (hB : Blk w p ty #[.slice A n q]) (hown : w.ownsRow B 56 1 (.slice A n q) n xs) (hp : p < B) (hn : n < 65536) (hBw : B ≤ w.heap.size) :
    Calls Tryz.prog 57 #[.pointer (some ⟨p, 0, none⟩), .agg #[.int .i64 1, .bool false, .int .u64 0, .string ⟨#[]⟩, .int .i64 0, .slice none 0 0]] w fun e w' => e = .returned .nilIface ∧ ∃ v', Blk w' p ty #[v'] ∧ w'.ownsRow B 56 1 v' (n + 1) (xs ++ [nullV]) ∧ Below p w w' := by
  have d1 : decide (65536 ≤ (n : Int)) = false := decide_eq_false (by omega)
  have hb0 : ∀ o1, Below w.heap.size w (w.alloc o1) := fun o1 => (Below.refl _ _).alloc (Nat.le_refl _) _
  have hS1 := Blk.new w 119 #[.int .i64 1, .bool false, .int .u64 0, .string ⟨#[]⟩, .int .i64 0, .slice none 0 0]
  have hB1 := hB.alloc (.cells #[.int .i64 1, .bool false, .int .u64 0, .string ⟨#[]⟩, .int .i64 0, .slice none 0 0] 119)
  have hown1 := own_below hown (hb0 (.cells #[.int .i64 1, .bool false, .int .u64 0, .string ⟨#[]⟩, .int .i64 0, .slice none 0 0] 119))
  have hbp1 : Below p w (w.alloc (.cells #[.int .i64 1, .bool false, .int .u64 0, .string ⟨#[]⟩, .int .i64 0, .slice none 0 0] 119)) := (hb0 _).mono (by omega)
  have hs1 := (hb0 (.cells #[.int .i64 1, .bool false, .int .u64 0, .string ⟨#[]⟩, .int .i64 0, .slice none 0 0] 119)).size
  go_enter Tryz.func57, Tryz.ntmps57
  go_upto_region 1 with fail
  generalize w.alloc (.cells #[.int .i64 1, .bool false, .int .u64 0, .string ⟨#[]⟩, .int .i64 0, .slice none 0 0] 119) = w1 at *
  clear hb0 hB hown
  have a0 : w1.cell? ⟨p, 0, none⟩ = some (.slice A n q) := hB1.cell 0
  have c0 : w1.cell? ⟨w.heap.size, 0, none⟩ = some (.int .i64 1) := hS1.cell 0
  have c1 : w1.cell? ⟨w.heap.size, 1, none⟩ = some (.bool false) := hS1.cell 1
  have c2 : w1.cell? ⟨w.heap.size, 2, none⟩ = some (.int .u64 0) := hS1.cell 2
  have c3 : w1.cell? ⟨w.heap.size, 3, none⟩ = some (.string ⟨#[]⟩) := hS1.cell 3
  have c4 : w1.cell? ⟨w.heap.size, 4, none⟩ = some (.int .i64 0) := hS1.cell 4
  have c5 : w1.cell? ⟨w.heap.size, 5, none⟩ = some (.slice none 0 0) := hS1.cell 5
  go_upto_region 5 with fail
  go_still_tail 4, (by kernel_rfl)
  go_wp2_with fail
  refine (do_null p ty B _ n xs _ hB1.drew (own_below hown1 (Below.refl _ _).drew) hp (by omega) (by show B ≤ w1.heap.size; omega)).mono ?_
  rintro e w2 ⟨rfl, v2, hB2, hown2, hbp2⟩
  go_wp2
  go_ret
  exact ⟨rfl, v2, hB2, hown2, (hbp1.drew).trans hbp2⟩
end Go.Proofs.YtbajkglacfheiaaGreatDoor
namespace Go.Proofs.YtbajkglacfheiaaGreatDoor
open Go.RowKit Mem
set_option linter.unusedVariables false

def errN (n : Int) : Value := .iface 113 (.int .i64 n)
set_option maxRecDepth 100000 in
set_option maxHeartbeats 4000000 in
theorem step_full (s : Int) (f : Bool) (b : Int) (t : List UInt8) (c : Int) (A9 : Option Addr) (n9 q9 : Nat) (p : Nat) (ty : TypeId) (A : Option Addr) (n q : Nat) (w : World) (hB : Blk w p ty #[.slice A n q]) (hs : s < 5) (hn : 65536 ≤ n) :
    Calls Tryz.prog 57 #[.pointer (some ⟨p, 0, none⟩), .agg #[.int .i64 s, .bool f, .int .u64 b, .string ⟨t.toArray⟩, .int .i64 c, .slice A9 n9 q9]] w fun e w' => e = .returned (errN 3) ∧ Below w.heap.size w w' := by
  have d1 : decide (65536 ≤ (n : Int)) = true := decide_eq_true (by omega)
  have d2 : decide (s < 5) = true := decide_eq_true hs
  have hb0 : ∀ o1, Below w.heap.size w (w.alloc o1) := fun o1 => (Below.refl _ _).alloc (Nat.le_refl _) _
  have hB1 := hB.alloc (.cells #[.int .i64 s, .bool f, .int .u64 b, .string ⟨t.toArray⟩, .int .i64 c, .slice A9 n9 q9] 119)
  have a0 := hB1.cell 0
  have a1 : w.cell? ⟨p, 0, none⟩ = some (.slice A n q) := hB.cell 0
  have hlt := hB.lt
  have a2 : (w.alloc (.cells #[.int .i64 s, .bool f, .int .u64 b, .string ⟨t.toArray⟩, .int .i64 c, .slice A9 n9 q9] 119)).cell? ⟨p, 0, none⟩ = some (.slice A n q) := hB1.cell 0
  clear hB hB1 a0 hs hn
  go_enter Tryz.func57, Tryz.ntmps57
  go_wp2
  go_ret
  exact ⟨rfl, hb0 _⟩
end Go.Proofs.YtbajkglacfheiaaGreatDoor
namespace Go.Proofs.YtbajkglacfheiaaGreatDoor
open Go.RowKit Mem
set_option linter.unusedVariables false

theorem mnew_any (w : World) : Calls Tryz.prog 22 #[] w fun e w' => e = .returned (.pointer (some ⟨w.heap.size, 0, none⟩)) ∧ w.alloc (.cells #[.slice none 0 0] 168) = w' := by
  go_enter Tryz.func22, Tryz.ntmps22
  go_wp2
  go_ret
  exact ⟨rfl, rfl⟩
end Go.Proofs.YtbajkglacfheiaaGreatDoor
namespace Go.Proofs.YtbajkglacfheiaaGreatDoor
open Go.RowKit Mem
set_option linter.unusedVariables false

theorem f64bits (x : Nat) (W : World) : (callFunc 15 #[.float .f64 x]).run Tryz.prog W = .ok (.value (.int .u64 (x : Int))) W := by kernel_rfl
set_option maxRecDepth 100000 in
theorem mnum_full (x : Nat) (p : Nat) (ty : TypeId) (A : Option Addr) (n q : Nat) (w : World) (hB : Blk w p ty #[.slice A n q]) (hn : 65536 ≤ n) :
    Calls Tryz.prog 23 #[.pointer (some ⟨p, 0, none⟩), .float .f64 x] w fun e w' => e = .returned (errN 3) ∧ Below w.heap.size w w' := by
  have hfb := f64bits x
  go_enter Tryz.func23, Tryz.ntmps23
  go_wp2_with fail
  refine (step_full 3 false x [] 0 none 0 0 p ty A n q _ hB (by omega) hn).mono ?_
  rintro e w2 ⟨rfl, h⟩
  go_wp2
  go_ret
  exact ⟨rfl, h⟩
end Go.Proofs.YtbajkglacfheiaaGreatDoor

