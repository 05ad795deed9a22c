/-
  append where nothing is asked of what the row holds: to a slice at a row's head, of one cell an element; of so many zeros.
-/
import Derived.Test.YtnldkbgbgngjjaaDoorWords
import Derived.Laws.AppendOwn
import Derived.OwnWalk
import Derived.WalkKit
namespace Go.Proofs.YtnldkbgbgngjjaaDoor
open Go.RowKit Mem
set_option linter.unusedVariables false
namespace App

/-- nil, or n elements at the head of a row of elements of type e -/
def RowOf (w : World) (e : TypeId) (v : Value) (n : Nat) : Prop :=
  (v = .slice none 0 0 ∧ n = 0) ∨ ∃ g cap cur, v = .slice (some ⟨g, 0, none⟩) n cap ∧ w.heap[g]? = some (.cells cur e (0, 0)) ∧ n ≤ cap ∧ cap ≤ maxLen ∧ cur.size = cap
theorem RowOf.of_own {w : World} {base n : Nat} {e : TypeId} {v : Value} {xs : List Value} (h : w.ownsRow base e 1 v n xs) : RowOf w e v n := by
  rcases h.2 with ⟨rfl, h0⟩ | ⟨g, cap, cur, rfl, _, hg, hn, hc, hs, _⟩
  · refine .inl ⟨rfl, ?_⟩
    have := h.1
    rw [h0] at this
    simp at this
    omega
  · exact .inr ⟨g, cap, cur, rfl, hg, hn, hc, by omega⟩
theorem RowOf.lt {w : World} {e : TypeId} {v : Value} {n g : Nat} (h : RowOf w e v n) (hg : v.ownBlock = some g) : g < w.heap.size := by
  rcases h with ⟨rfl, _⟩ | ⟨g', cap, cur, rfl, hh, _⟩
  · cases hg
  · injection hg with hg
    subst hg
    exact (Array.getElem?_eq_some_iff.1 hh).1
theorem RowOf.keep {w w' : World} {e : TypeId} {v : Value} {n : Nat} (h : RowOf w e v n) (hk : ∀ g, v.ownBlock = some g → w'.heap[g]? = w.heap[g]?) : RowOf w' e v n := by
  rcases h with ⟨rfl, h0⟩ | ⟨g, cap, cur, rfl, hh, h1⟩
  · exact .inl ⟨rfl, h0⟩
  · exact .inr ⟨g, cap, cur, rfl, (hk g rfl).trans hh, h1⟩
/-- what comes of an append of m elements to n -/
def Out (w : World) (e : TypeId) (v : Value) (n m : Nat) (v' : Value) (w' : World) : Prop :=
  (∃ g cap cur cur', v = .slice (some ⟨g, 0, none⟩) n cap ∧ w.heap[g]? = some (.cells cur e (0, 0)) ∧ n + m ≤ cap ∧ v' = .slice (some ⟨g, 0, none⟩) (n + m) cap ∧ w' = w.setRow g cur' ∧ cur'.size = cur.size) ∨
  (∃ cap cur, v' = .slice (some ⟨w.heap.size, 0, none⟩) (n + m) cap ∧ w' = w.drew.alloc (.cells cur e) ∧ n + m ≤ cap ∧ cap ≤ maxLen ∧ cur.size = cap) ∨
  (m = 0 ∧ v' = v ∧ w' = w)
section
variable {w w' : World} {e : TypeId} {v v' : Value} {n m : Nat}
theorem Out.row (h : Out w e v n m v' w') (hv : RowOf w e v n) : RowOf w' e v' (n + m) := by
  rcases h with ⟨g, cap, cur, cur', rfl, hg, hr, rfl, rfl, hs⟩ | ⟨cap, cur, rfl, rfl, h1, h2, h3⟩ | ⟨rfl, rfl, rfl⟩
  · rcases hv with ⟨h, _⟩ | ⟨g2, cap2, cur2, h, hg2, _, hc, hs2⟩
    · cases h
    · injection h with h _ hcap
      injection h with h
      injection h with h
      subst h; subst hcap
      rw [hg] at hg2
      injection hg2 with hg2
      injection hg2 with hg2
      subst hg2
      exact .inr ⟨g, cap, cur', rfl, setRow_heap w g cur cur' e _ hg, hr, hc, by omega⟩
  · exact .inr ⟨_, _, cur, rfl, Mem.Blk.new _ _ _, h1, h2, h3⟩
  · simpa using hv
/-- another row stays a row -/
theorem Out.other (h : Out w e v n m v' w') {v0 : Value} {n0 : Nat} (hv : RowOf w e v n) (h0 : RowOf w e v0 n0) : RowOf w' e v0 n0 := by
  rcases h with ⟨g, cap, cur, cur', rfl, hg, hr, rfl, rfl, hs⟩ | ⟨cap, cur, rfl, rfl, h1, h2, h3⟩ | ⟨rfl, rfl, rfl⟩
  · rcases h0 with ⟨rfl, h0⟩ | ⟨g0, cap0, cur0, rfl, hg0, hn0, hc0, hs0⟩
    · exact .inl ⟨rfl, h0⟩
    · by_cases hgg : g0 = g
      · subst hgg
        rw [hg] at hg0
        injection hg0 with hg0
        injection hg0 with hg0
        subst hg0
        exact .inr ⟨g0, cap0, cur', rfl, setRow_heap w g0 cur cur' e _ hg, hn0, hc0, by omega⟩
      · exact .inr ⟨g0, cap0, cur0, rfl, (setRow_other w g g0 cur' hgg).trans hg0, hn0, hc0, hs0⟩
  · refine h0.keep fun g hg => ?_
    exact Below.heap_alloc w.drew _ g (h0.lt hg)
  · exact h0
theorem Out.grown (h : Out w e v n m v' w') : w.grownBy w' v.ownBlock := by
  rcases h with ⟨g, cap, cur, cur', rfl, hg, hr, rfl, rfl, hs⟩ | ⟨cap, cur, rfl, rfl, h1, h2, h3⟩ | ⟨rfl, rfl, rfl⟩
  · exact ⟨rfl, rfl, rfl, by simp, fun k hk hne => setRow_other w g k cur' (fun e => hne (by rw [e]; rfl))⟩
  · exact ⟨rfl, rfl, rfl, by simp, fun k hk _ => Below.heap_alloc w.drew _ k hk⟩
  · exact grown_refl _ _
theorem Out.block (h : Out w e v n m v' w') : v'.ownBlock = v.ownBlock ∨ v'.ownBlock = some w.heap.size := by
  rcases h with ⟨g, cap, cur, cur', rfl, hg, hr, rfl, rfl, hs⟩ | ⟨cap, cur, rfl, rfl, h1, h2, h3⟩ | ⟨rfl, rfl, rfl⟩
  · exact .inl rfl
  · exact .inr rfl
  · exact .inl rfl
end

section
variable {P : Program} (w : World)
/-- append of what lies elsewhere -/
theorem run_app (t ty e : TypeId) (i : TypeInfo) (z : Value) (bytes : Nat) (ht : P.underlying t = some (.slice e)) (hi : P.info? e = some i) (hz : i.zero = some z) (hsize : i.size = 1) (hby : i.bytes = bytes)
    (hzs : z.cells.size = 1) (v : Value) (n : Nat) (hv : RowOf w e v n) (a : Addr) (m c : Nat) (news : List Value) (hl : news.length = m) (hnews : ∀ j u, news[j]? = some u → w.cell? (a.add j) = some u)
    (h1 : ∀ u ∈ news, u.oneCell' = true) (h63 : n + m ≤ maxLen) (hbytes : (n + m) * bytes ≤ 140737488355328) :
    ∃ v' w', (Builtin.append_ #[t, t] ty #[v, .slice (some a) m c]).run P w = .ok v' w' ∧ Out w e v n m v' w' := by
  subst hby
  have hsmall : n + m ≤ 9223372036854775807 := by simp only [maxLen] at h63; omega
  have hzc : ∀ k, (Builtin.zeroCells z.cells k).size = k := fun k => by rw [size_zeroCells, hzs, Nat.mul_one]
  rcases hv with ⟨rfl, rfl⟩ | ⟨g, cap, cur, rfl, hg, hnc, hcm, hcs⟩
  · by_cases hm : m = 0
    · subst hm
      refine ⟨.slice none 0 0, w, ?_, .inr (.inr ⟨rfl, rfl, rfl⟩)⟩
      simp [Builtin.append_, run_underlying ht, sizeOf, typeInfo, hi, Builtin.lenOf, Builtin.firstCells, loadCells, loadCellsFrom]
    · have hr := run_append_nil (P := P) w t ty e i z ht hi hz a m c news (by rw [hsize]; omega) hnews (by omega) (by omega) (by have hb := hbytes; simp only [Nat.zero_add] at hb; omega)
      have hge := grownCap_ge w m 0 e
      refine ⟨_, _, hr, .inr (.inl ⟨_, _, by rw [Nat.zero_add], rfl, by omega, grownCap_le_maxLen w m 0 e (by omega), ?_⟩)⟩
      rw [Array.size_append, hzc, List.size_toArray]
      omega
  · by_cases hroom : n + m ≤ cap
    · have hr := run_append_room (P := P) w t ty e i ht hi g n cap cur hg a m c news (by rw [hsize]; omega) hnews h1 hroom (by rw [hsize]; omega)
      refine ⟨_, _, hr, .inl ⟨g, cap, cur, _, rfl, hg, hroom, rfl, rfl, ?_⟩⟩
      simp only [List.size_toArray, List.length_append, List.length_take, List.length_drop, Array.length_toList, hsize]
      omega
    · have holds : ∀ j u, (cur.toList.take n)[j]? = some u → w.cell? ((⟨g, 0, none⟩ : Addr).add j) = some u := fun j u hu => by
        have hj : j < n := by
          have := (List.getElem?_eq_some_iff.1 hu).1
          rw [List.length_take] at this
          omega
        rw [List.getElem?_take_of_lt hj] at hu
        have e1 : (⟨g, 0, none⟩ : Addr).add j = ⟨g, j, none⟩ := by
          unfold Addr.add
          split <;> simp_all
        rw [e1, cell_of_row w g j cur e (0, 0) hg, ← Array.getElem?_toList]
        exact hu
      have hr := run_append_grow (P := P) w t ty e i z ht hi hz ⟨g, 0, none⟩ n cap (cur.toList.take n) (by rw [List.length_take, Array.length_toList, hsize]; omega) holds a m c news (by rw [hsize]; omega) hnews (by omega) (by omega) (growslice_fits (by omega) hbytes)
      have hge := grownCap_ge w (n + m) cap e
      refine ⟨_, _, hr, .inr (.inl ⟨_, _, rfl, rfl, hge, grownCap_le_maxLen w (n + m) cap e h63, ?_⟩)⟩
      rw [Array.size_append, Array.size_append, hzc, List.size_toArray, List.size_toArray, List.length_take, Array.length_toList]
      omega
/-- append of so many zeros -/
theorem run_app_zeros (t u ty e : TypeId) (i : TypeInfo) (z : Value) (bytes : Nat) (ht : P.underlying t = some (.slice e)) (hu : P.underlying u = some (.int .i64)) (hi : P.info? e = some i) (hz : i.zero = some z) (hsize : i.size = 1) (hby : i.bytes = bytes)
    (hzs : z.cells.size = 1) (h1 : z.oneCell' = true) (hzc1 : z.cells = #[z]) (v : Value) (n : Nat) (hv : RowOf w e v n) (m : Nat) (hm0 : 0 < m) (h63 : n + m ≤ maxLen) (hbytes : (n + m) * bytes ≤ 140737488355328) :
    ∃ v' w', (Builtin.append_ #[t, u] ty #[v, .int .i64 m]).run P w = .ok v' w' ∧ Out w e v n m v' w' := by
  subst hby
  have hsmall : n + m ≤ 9223372036854775807 := by simp only [maxLen] at h63; omega
  have hzc : ∀ k, (Builtin.zeroCells z.cells k).size = k := fun k => by rw [size_zeroCells, hzs, Nat.mul_one]
  have hw : IntKind.i64.wrap (m : Int) = m := by rw [IntKind.wrap_i64]; omega
  have hmb : m * i.bytes ≤ 140737488355328 := Nat.le_trans (Nat.mul_le_mul_right _ (by omega)) hbytes
  have hmb' : ¬ (281474976710656 < (m : Int) * (i.bytes : Int)) := by
    have : ((m * i.bytes : Nat) : Int) ≤ 140737488355328 := by omega
    rw [Int.natCast_mul] at this
    omega
  have hm1 : ¬ m = 0 := by omega
  have hm2 : ¬ (m : Int) < 0 := by omega
  rcases hv with ⟨rfl, rfl⟩ | ⟨g, cap, cur, rfl, hg, hnc, hcm, hcs⟩
  · have h63' : ¬ (9223372036854775807 < (m : Int)) := by omega
    have h48' : ¬ (281474976710656 < Builtin.nextslicecap m 0 * i.bytes) := by rw [nextslicecap_zero hm0]; omega
    have hr : (Builtin.append_ #[t, u] ty #[.slice none 0 0, .int .i64 m]).run P w =
        .ok (.slice (some ⟨w.heap.size, 0, none⟩) m (grownCap w m 0 e)) (w.drew.alloc (.cells (Builtin.zeroCells z.cells m ++ Builtin.zeroCells z.cells (grownCap w m 0 e - m)) e)) := by
      simp [Builtin.append_, run_underlying ht, run_underlying hu, sizeOf, typeInfo, zeroValue, hi, hz, hsize, hw, hmb', hm1, hm2, h63', h48', Question.forced, run_firstCells_none, newRow, grownCap, asInt, asIntOf]
    have hge := grownCap_ge w m 0 e
    refine ⟨_, _, hr, .inr (.inl ⟨_, _, by rw [Nat.zero_add], rfl, by omega, grownCap_le_maxLen w m 0 e (by omega), ?_⟩)⟩
    rw [Array.size_append, hzc, hzc]
    omega
  · by_cases hroom : n + m ≤ cap
    · have hone : ∀ v ∈ (Builtin.zeroCells z.cells m).toList, v.oneCell' = true := by
        intro v hv
        simp only [Builtin.zeroCells, hzc1, Array.toList_map, List.mem_map] at hv
        obtain ⟨q, _, rfl⟩ := hv
        have : q % (#[z] : Array Value).size = 0 := by simp; omega
        rw [this]
        exact h1
      have hst := run_storeCells_at P g (n * i.size) e (Builtin.zeroCells z.cells m).toList 0 cur w hg (by rw [hsize, Array.length_toList, hzc]; omega) hone
      simp only [Nat.add_zero, hsize, Nat.mul_one] at hst
      have hr : (Builtin.append_ #[t, u] ty #[.slice (some ⟨g, 0, none⟩) n cap, .int .i64 m]).run P w =
          .ok (.slice (some ⟨g, 0, none⟩) (n + m) cap) (w.setRow g (cur.toList.take n ++ (Builtin.zeroCells z.cells m).toList ++ cur.toList.drop (n + (Builtin.zeroCells z.cells m).toList.length)).toArray) := by
        simp [Builtin.append_, run_underlying ht, run_underlying hu, sizeOf, typeInfo, zeroValue, hi, hz, hw, hmb', hm1, hm2, asInt, asIntOf, hroom, Addr.add_lit, hst, hsize]
      refine ⟨_, _, hr, .inl ⟨g, cap, cur, _, rfl, hg, hroom, rfl, rfl, ?_⟩⟩
      simp only [List.size_toArray, List.length_append, List.length_take, List.length_drop, Array.length_toList, hzc]
      omega
    · have holds : ∀ j u, (cur.toList.take n)[j]? = some u → w.cell? ((⟨g, 0, none⟩ : Addr).add j) = some u := fun j u hu => by
        have hj : j < n := by
          have := (List.getElem?_eq_some_iff.1 hu).1
          rw [List.length_take] at this
          omega
        rw [List.getElem?_take_of_lt hj] at hu
        have e1 : (⟨g, 0, none⟩ : Addr).add j = ⟨g, j, none⟩ := by
          unfold Addr.add
          split <;> simp_all
        rw [e1, cell_of_row w g j cur e (0, 0) hg, ← Array.getElem?_toList]
        exact hu
      have hfo := run_firstCells_some (P := P) w.drew i.size n ⟨g, 0, none⟩ n cap (cur.toList.take n) (by rw [List.length_take, Array.length_toList, hsize]; omega) (by simpa using holds)
      rw [hsize] at hfo
      have h63' : ¬ (9223372036854775807 < (n : Int) + (m : Int)) := by omega
      have h48' : ¬ (281474976710656 < Builtin.nextslicecap (n + m) cap * i.bytes) := by
        have := growslice_fits (old := cap) (need := n + m) (by omega) hbytes
        omega
      have hr : (Builtin.append_ #[t, u] ty #[.slice (some ⟨g, 0, none⟩) n cap, .int .i64 m]).run P w =
          .ok (.slice (some ⟨w.heap.size, 0, none⟩) (n + m) (grownCap w (n + m) cap e)) (w.drew.alloc (.cells ((cur.toList.take n).toArray ++ Builtin.zeroCells z.cells m ++ Builtin.zeroCells z.cells (grownCap w (n + m) cap e - (n + m))) e)) := by
        simp [Builtin.append_, run_underlying ht, run_underlying hu, sizeOf, typeInfo, zeroValue, hi, hz, hsize, hw, hmb', hm1, hm2, h63', h48', hroom, Question.forced, hfo, newRow, grownCap, asInt, asIntOf]
      have hge := grownCap_ge w (n + m) cap e
      refine ⟨_, _, hr, .inr (.inl ⟨_, _, rfl, rfl, hge, grownCap_le_maxLen w (n + m) cap e h63, ?_⟩)⟩
      rw [Array.size_append, Array.size_append, hzc, hzc, List.size_toArray, List.length_take, Array.length_toList]
      omega

theorem wpList_app {ops : Array Oper} {rest : List Oper} {o : Oper} {a : Act} {Q : Exit → Act → World → Prop} (hgd : o.guard = none) (s x : Operand) (t : TypeId)
    (ho : o.op = .call { callee := .builtin .append, args := #[s, x], argTypes := #[t, t] })
    (e : TypeId) (i : TypeInfo) (z : Value) (bytes : Nat) (ht : P.underlying t = some (.slice e)) (hi : P.info? e = some i) (hz : i.zero = some z) (hsize : i.size = 1) (hby : i.bytes = bytes) (hzs : z.cells.size = 1)
    (v : Value) (n : Nat) (hs : a.eval s = v) (hv : RowOf w e v n) (ad : Addr) (m c : Nat) (news : List Value) (hx : a.eval x = .slice (some ad) m c) (hl : news.length = m)
    (hnews : ∀ j u, news[j]? = some u → w.cell? (ad.add j) = some u) (h1 : ∀ u ∈ news, u.oneCell' = true) (h63 : n + m ≤ maxLen) (hbytes : (n + m) * bytes ≤ 140737488355328)
    (h : ∀ v' w', Out w e v n m v' w' → wpList P ops Q rest (a.put o.dst v') w') : wpList P ops Q (o :: rest) a w :=
  wpList_plain hgd fun K hK => by
    obtain ⟨v', w', hrun, hout⟩ := run_app (P := P) w t o.type e i z bytes ht hi hz hsize hby hzs v n hv ad m c news hl hnews h1 h63 hbytes
    unfold Oper.wp execOp
    simp only [ho, resolve, invoke, builtin, Sem.run_bind, Sem.run_pure, Result.andThen_ok, List.map_toArray, List.map_cons, List.map_nil, hs, hx, hrun]
    exact hK _ _ (h v' w' hout)
theorem wpList_app_zeros {ops : Array Oper} {rest : List Oper} {o : Oper} {a : Act} {Q : Exit → Act → World → Prop} (hgd : o.guard = none) (s x : Operand) (t u : TypeId)
    (ho : o.op = .call { callee := .builtin .append, args := #[s, x], argTypes := #[t, u] })
    (e : TypeId) (i : TypeInfo) (z : Value) (bytes : Nat) (ht : P.underlying t = some (.slice e)) (hu : P.underlying u = some (.int .i64)) (hi : P.info? e = some i) (hz : i.zero = some z) (hsize : i.size = 1) (hby : i.bytes = bytes) (hzs : z.cells.size = 1)
    (h1 : z.oneCell' = true) (hzc1 : z.cells = #[z]) (v : Value) (n : Nat) (hs : a.eval s = v) (hv : RowOf w e v n) (m : Nat) (hx : a.eval x = .int .i64 m) (hm0 : 0 < m) (h63 : n + m ≤ maxLen) (hbytes : (n + m) * bytes ≤ 140737488355328)
    (h : ∀ v' w', Out w e v n m v' w' → wpList P ops Q rest (a.put o.dst v') w') : wpList P ops Q (o :: rest) a w :=
  wpList_plain hgd fun K hK => by
    obtain ⟨v', w', hrun, hout⟩ := run_app_zeros (P := P) w t u o.type e i z bytes ht hu hi hz hsize hby hzs h1 hzc1 v n hv m hm0 h63 hbytes
    unfold Oper.wp execOp
    simp only [ho, resolve, invoke, builtin, Sem.run_bind, Sem.run_pure, Result.andThen_ok, List.map_toArray, List.map_cons, List.map_nil, hs, hx, hrun]
    exact hK _ _ (h v' w' hout)
end
end App
end Go.Proofs.YtnldkbgbgngjjaaDoor
