/-
  Walks of package node: put of a null.
-/
import Derived.Test.YtfhfkggkbeahbaaNdB
import Derived.WalkSpells
import Derived.Laws.AppendOwn
import Derived.OwnWalk
namespace Go.Proofs.Ytfhfkggkbeahbaa
open Go.RowKit Mem
set_option linter.unusedVariables false

theorem info_item : (Try.prog.info? 46).map (fun i => (i.zero, i.size, i.bytes)) = some (some .nilIface, 1, 16) := by kernel_rfl
theorem one_new (w : World) (t : TypeId) (v : Value) : ∀ j u, [v][j]? = some u → (w.alloc (.cells #[v] t)).cell? ((⟨w.heap.size, 0, none⟩ : Addr).add j) = some u := by
  intro j u hj
  match j, hj with
  | 0, hj =>
    injection hj with hj
    subst hj
    exact Blk.cell (Blk.new w t #[v]) 0
  | j + 1, hj => cases hj
theorem one_cell (v : Value) (h : v.oneCell' = true) : ∀ u ∈ [v], u.oneCell' = true := by
  intro u hu
  rw [List.mem_singleton] at hu
  rw [hu]
  exact h
/-- a row of the call's own is a slice of its length -/
theorem own_slice {w : World} {base size n : Nat} {e : TypeId} {v : Value} {xs : List Value} (h : w.ownsRow base e size v n xs) : ∃ A c, v = .slice A n c := by
  rcases Joins.ownsRow_forms h with ⟨rfl, rfl⟩ | ⟨g, cap, rfl, _⟩
  · exact ⟨none, 0, rfl⟩
  · exact ⟨_, _, rfl⟩
def nullV : Value := .iface 112 (.agg #[])
/-- all is as it was but one block and the row's own -/
def Keep2 (p : Nat) (v : Value) (W W' : World) : Prop := W.heap.size ≤ W'.heap.size ∧ ∀ k, k < W.heap.size → k ≠ p → some k ≠ v.ownBlock → W'.heap[k]? = W.heap[k]?
theorem sized_null (w : World) : Calls Try.prog 119 #[.agg #[]] w fun e w' => e = .returned (.agg #[.int .i64 1, .int .i64 0, .int .i64 1]) ∧ Below w.heap.size w w' := by
  go_enter Try.func119, Try.ntmps119
  go_wp2
  refine bodyPost_ret (v := .agg #[.int .i64 1, .int .i64 0, .int .i64 1]) ?_ rfl ⟨rfl, ((Below.refl _ _).alloc (Nat.le_refl _) _).alloc (by simp) _⟩
  simp [results, Try.results119, go_sem]
theorem sized_text (t : List UInt8) (w : World) : Calls Try.prog 107 #[.string ⟨t.toArray⟩] w fun e w' => e = .returned (.agg #[.int .i64 1, .int .i64 t.length, .int .i64 1]) ∧ Below w.heap.size w w' := by
  go_enter Try.func107, Try.ntmps107
  go_wp2
  refine bodyPost_ret (v := .agg #[.int .i64 1, .int .i64 t.length, .int .i64 1]) ?_ rfl ⟨rfl, (Below.refl _ _).alloc (Nat.le_refl _) _⟩
  simp [results, Try.results107, go_sem]
set_option maxRecDepth 100000 in
set_option maxHeartbeats 4000000 in
theorem put_null (p : Nat) (ty : TypeId) (B : Nat) (v : Value) (n : Nat) (xs : List Value) (w : World) (hB : Blk w p ty #[v]) (hown : w.ownsRow B 46 1 v n xs) (hp : p < B) (hn : n ≤ 1099511627776) (hBw : B ≤ w.heap.size) :
    Calls Try.prog 35 #[.pointer (some ⟨p, 0, none⟩), nullV] w fun e w' => e = .returned (.tuple #[]) ∧ ∃ v', Blk w' p ty #[v'] ∧ w'.ownsRow B 46 1 v' (n + 1) (xs ++ [nullV]) ∧ Below p w w' ∧ ∀ k t cs, k ≠ p → some k ≠ v.ownBlock → Blk w k t cs → Blk w' k t cs := by
  obtain ⟨i0, hi0, hz0, hz1, hz2⟩ := info_parts info_item
  have hwi : withinB 1 0 1 = true := by decide
  unfold nullV
  go_enter Try.func35, Try.ntmps35
  go_wp2_with fail
  refine (sized_null _).mono ?_
  rintro e w1 ⟨rfl, hb1⟩
  have hB1 := hB.below hb1 hB.lt
  have hown1 := own_below hown hb1
  have hbp1 : Below p w w1 := hb1.mono (by omega)
  have hs1 := hb1.size
  go_wp2_with fail
  refine (within_any 1 0 1 _).mono ?_
  rw [hwi]
  rintro e w2 ⟨rfl, hb2⟩
  have hB2 := hB1.below hb2 hB1.lt
  have hown2 := own_below hown1 hb2
  have hbp2 : Below p w w2 := below_chain hbp1 (by have := hB1.lt; omega) hb2
  have hs2 := hb2.size
  have hk2 : ∀ k t cs, Blk w k t cs → Blk w2 k t cs := fun k t cs h => (h.below hb1 h.lt).below hb2 (h.below hb1 h.lt).lt
  have HK2 := Lib.hid hk2
  clear hB hown hb1 hB1 hown1 hbp1 hb2 hk2
  have hc : w2.cell? ⟨p, 0, none⟩ = some v := hB2.cell 0
  have hcA := (hB2.alloc (.cells #[.iface 112 (.agg #[])] 46)).cell 0
  go_wp2_with (at_builtin; go_must (refine wpList_append_own _ rfl (.tmp 13) (.tmp 15) _ rfl B 46 i0 _ 1 16 Try.underlying70 hi0 hz0 hz1 hz2 rfl (by omega) v n xs rfl (hown2.alloc _) ⟨w2.heap.size, 0, none⟩ 1 1 [.iface 112 (.agg #[])] rfl rfl (one_new _ _ _) (one_cell _ rfl) (by unfold maxLen; omega) (by omega) (by simp; omega) ?_); intro v9 w9 hown9 hgr9 hnil9; obtain ⟨A9, q9, e9⟩ := own_slice hown9; subst e9; have hB9 := (hB2.alloc (.cells #[.iface 112 (.agg #[])] 46)).only hgr9 (by intro e; have := (hown2.lt _ e.symm).1; omega); have hc9 : w9.cell? ⟨p, 0, none⟩ = some v := hB9.cell 0; have hf9 := hB9.frozen 0)
  have hbp9 : Below p w w9 := (hbp2.alloc (by omega) (.cells #[.iface 112 (.agg #[])] 46)).grown hgr9 (by simp; omega) (fun q hq => by have := (hown2.lt q hq).1; omega)
  go_end0
  exact ⟨rfl, _, hB9.put 0 _, hown9.kept (grown_put (grown_refl w9 (some p)) 0 _) (.inr (by intro e; have := (hown9.lt _ e).1; omega)), hbp9.setCell (Nat.le_refl _) _, fun k t cs h1 h2 h => (((HK2.out k t cs h).alloc _).only hgr9 h2).far (p := ⟨p, 0, none⟩) h1 _⟩
end Go.Proofs.Ytfhfkggkbeahbaa
