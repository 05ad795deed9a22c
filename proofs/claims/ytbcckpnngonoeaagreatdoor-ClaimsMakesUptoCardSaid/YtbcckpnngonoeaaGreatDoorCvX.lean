/-
  A row of claims copied by an append; an append as one step of a region whose order is open; what the document's verdict may be.
-/
import Derived.Test.YtbcckpnngonoeaaGreatDoorCvW
import Derived.Test.YtbcckpnngonoeaaGreatDoorCvU
import Derived.Deep.AppendSrc
namespace Go.Proofs.YtbcckpnngonoeaaGreatDoor
open Go.RowKit Mem Utf Ref3 Tok Cl
set_option linter.unusedVariables false

theorem step_append_own {P : Program} {ops : Array Oper} {o : Oper} {a : Act} {w : World} {K : Act → World → Prop} {Q : Exit → Act → World → Prop} {E : Prop}
    (hg : o.guard = none) (s x : Operand) (t : TypeId) (hop : o.op = Op.call { callee := Callee.builtin Builtin.append, args := #[s, x], argTypes := #[t, t] })
    (base : Nat) (e : TypeId) (i : TypeInfo) (z : Value) (size bytes : Nat) (ht : P.underlying t = some (.slice e)) (hi : P.info? e = some i) (hz : i.zero = some z)
    (hsize : i.size = size) (hby : i.bytes = bytes) (hzs : z.cells.size = size) (hsz : 0 < size)
    (v : Value) (n : Nat) (xs : List Value) (hs : a.eval s = v) (hown : w.ownsRow base e size v n xs)
    (ad : Addr) (m c : Nat) (news : List Value) (hx : a.eval x = .slice (some ad) m c) (hl : news.length = m * size) (hnews : ∀ j u, news[j]? = some u → w.cell? (ad.add j) = some u) (h1 : ∀ u ∈ news, u.oneCell' = true)
    (h63 : n + m ≤ maxLen) (hbytes : (n + m) * bytes ≤ 140737488355328) (hbase : base ≤ w.heap.size)
    (h : ∀ v' w', w'.ownsRow base e size v' (n + m) (xs ++ news) → w.grownBy w' v.ownBlock → K (a.put o.dst v') w') :
    if Region.wanted o (yielded ops a.tmps) = true then Oper.wp P o a w K Q else E := by
  have hw : Region.wanted o (yielded ops a.tmps) = true := by simp [Region.wanted, hg]
  rw [if_pos hw]
  obtain ⟨v', w', hrun, h2, h3, _⟩ := run_append_own (P := P) w base t o.type e i z size bytes ht hi hz hsize hby hzs hsz v n xs hown ad m c news hl hnews h1 h63 hbytes hbase
  unfold Oper.wp
  simp [execOp, hop, resolve, invoke, builtin, hs, hx, hrun, Result.andThen]
  exact h v' w' h2 h3
/-- nothing is appended: the slice as it was -/
theorem step_append_none {P : Program} {ops : Array Oper} {o : Oper} {a : Act} {w : World} {K : Act → World → Prop} {Q : Exit → Act → World → Prop} {E : Prop}
    (hg : o.guard = none) (s x : Operand) (t : TypeId) (hop : o.op = Op.call { callee := Callee.builtin Builtin.append, args := #[s, x], argTypes := #[t, t] })
    (e : TypeId) (i : TypeInfo) (ht : P.underlying t = some (.slice e)) (hi : P.info? e = some i)
    (b off n cap : Nat) (hs : a.eval s = .slice (some ⟨b, off, none⟩) n cap) (hn : n ≤ cap)
    (A : Option Addr) (c : Nat) (hx : a.eval x = .slice A 0 c)
    (h : K (a.put o.dst (.slice (some ⟨b, off, none⟩) n cap)) w) :
    if Region.wanted o (yielded ops a.tmps) = true then Oper.wp P o a w K Q else E := by
  have hw : Region.wanted o (yielded ops a.tmps) = true := by simp [Region.wanted, hg]
  rw [if_pos hw]
  have hsrc : Src P i.size t (.slice A 0 c) 0 [] w := by
    cases A with
    | none => exact Src.ofNil w ht c
    | some ad => exact Src.ofSlice w ht ad 0 c [] (by simp) (fun j u hu => by simp at hu) (fun u hu => by cases hu)
  have hrun := run_append_room_src (P := P) w t t o.type e i ht hi b off n cap (.slice A 0 c) 0 [] hsrc (by omega) (fun j hj => by simp at hj) (fun j hj => by simp at hj)
  rw [show w.setCells b (off + n * i.size) [] = w from rfl, Nat.add_zero] at hrun
  unfold Oper.wp
  simp [execOp, hop, resolve, invoke, builtin, hs, hx, hrun, Result.andThen]
  exact h

theorem Nine.one {w : World} {g a : Nat} {c : C} {v1 v2 v3 : Value} (h : Nine w g a c v1 v2 v3) (hc : ClAt w c v1 v2 v3) (i : Nat) (hi : i < 9) : ∃ u, w.cell? ⟨g, a + i, none⟩ = some u ∧ u.oneCell' = true := by
  obtain ⟨A1, k1, e1, _⟩ := hc.has
  obtain ⟨A2, k2, e2, _⟩ := hc.for_
  obtain ⟨A3, k3, e3, _⟩ := hc.may
  have h9 : i = 0 ∨ i = 1 ∨ i = 2 ∨ i = 3 ∨ i = 4 ∨ i = 5 ∨ i = 6 ∨ i = 7 ∨ i = 8 := by omega
  rcases h9 with rfl | rfl | rfl | rfl | rfl | rfl | rfl | rfl | rfl
  · exact ⟨_, h.c0, by rw [e1]; rfl⟩
  · exact ⟨_, h.c1, rfl⟩
  · exact ⟨_, h.c2, rfl⟩
  · exact ⟨_, h.c3, rfl⟩
  · exact ⟨_, h.c4, by rw [e2]; rfl⟩
  · exact ⟨_, h.c5, rfl⟩
  · exact ⟨_, h.c6, rfl⟩
  · exact ⟨_, h.c7, by rw [e3]; rfl⟩
  · exact ⟨_, h.c8, rfl⟩
/-- the cells of a row of claims, as a list -/
theorem cls_cells {W : World} {A : Option Addr} {l : List C} (h : ClsAt W A l) (hne : 0 < l.length) : ∃ (g o : Nat) (news : List Value), A = some ⟨g, o, none⟩ ∧ g < W.heap.size ∧ news.length = l.length * 9 ∧
    (∀ W', Below W.heap.size W W' → ∀ j u, news[j]? = some u → W'.cell? ((⟨g, o, none⟩ : Addr).add j) = some u) ∧ (∀ u ∈ news, u.oneCell' = true) ∧ (∀ m, m < l.length * 9 → news[m]? = W.cell? ⟨g, o + m, none⟩) := by
  obtain ⟨g, o, _, _, _, hA, hg, _, _⟩ := h 0 hne
  have hs : ∀ m, m < l.length * 9 → ∃ u, W.cell? ⟨g, o + m, none⟩ = some u ∧ u.oneCell' = true := by
    intro m hm
    have hj : m / 9 < l.length := by omega
    obtain ⟨g', o', v1, v2, v3, hA', _, h9, hc⟩ := h (m / 9) hj
    rw [hA] at hA'
    injection hA' with hA'
    injection hA' with e1 e2
    subst e1; subst e2
    obtain ⟨u, hu, h1⟩ := h9.one hc (m % 9) (by omega)
    have : o + m / 9 * 9 + m % 9 = o + m := by omega
    rw [this] at hu
    exact ⟨u, hu, h1⟩
  have hget : ∀ m, m < l.length * 9 → ((List.range (l.length * 9)).map fun m => (W.cell? ⟨g, o + m, none⟩).getD undef)[m]? = W.cell? ⟨g, o + m, none⟩ := by
    intro m hm
    obtain ⟨u, hu, _⟩ := hs m hm
    rw [List.getElem?_map, List.getElem?_range hm, hu]
    simp [hu]
  refine ⟨g, o, (List.range (l.length * 9)).map fun m => (W.cell? ⟨g, o + m, none⟩).getD undef, hA, hg, by simp, fun W' hb j u hu => ?_, fun u hu => ?_, hget⟩
  · have hj : j < l.length * 9 := by
      have := (List.getElem?_eq_some_iff.1 hu).1
      simpa using this
    rw [hget j hj] at hu
    have e1 : (⟨g, o, none⟩ : Addr).add j = ⟨g, o + j, none⟩ := by
      unfold Addr.add
      split <;> simp_all
    rw [e1]
    exact ((old hb).1 g (o + j) hg).trans hu
  · obtain ⟨m, hm, rfl⟩ := List.mem_map.1 hu
    obtain ⟨u, hu', h1⟩ := hs m (List.mem_range.1 hm)
    rw [hu']
    exact h1
/-- the row that holds them -/
theorem cls_own {W W' : World} {A : Option Addr} {l : List C} {B g o cap g' : Nat} {news : List Value} {e : TypeId} (h : ClsAt W A l) (hb : Below W.heap.size W W') (hA : A = some ⟨g, o, none⟩)
    (hn : ∀ m, m < l.length * 9 → news[m]? = W.cell? ⟨g, o + m, none⟩) (hown : W'.ownsRow B e 9 (.slice (some ⟨g', 0, none⟩) l.length cap) l.length news) : ClsAt W' (some ⟨g', 0, none⟩) l := by
  intro j hj
  obtain ⟨g1, o1, v1, v2, v3, hA', hg1, h9, hc⟩ := h j hj
  rw [hA] at hA'
  injection hA' with hA'
  injection hA' with e1 e2
  subst e1; subst e2
  have hcell : ∀ i, i < 9 → W'.cell? ⟨g', 0 + j * 9 + i, none⟩ = W.cell? ⟨g, o + j * 9 + i, none⟩ := by
    intro i hi
    have hm : j * 9 + i < l.length * 9 := by omega
    rw [show 0 + j * 9 + i = j * 9 + i from by omega, hown.cellAt (j * 9 + i) hm, hn _ hm, Nat.add_assoc]
  have c0 := hcell 0 (by omega)
  exact ⟨g', 0, v1, v2, v3, rfl, (hown.lt g' rfl).2, ⟨c0.trans h9.c0, (hcell 1 (by omega)).trans h9.c1, (hcell 2 (by omega)).trans h9.c2, (hcell 3 (by omega)).trans h9.c3, (hcell 4 (by omega)).trans h9.c4, (hcell 5 (by omega)).trans h9.c5, (hcell 6 (by omega)).trans h9.c6, (hcell 7 (by omega)).trans h9.c7, (hcell 8 (by omega)).trans h9.c8⟩, hc.below hb⟩

theorem info_claims : (Tryz.prog.info? 24).map (fun i => (i.zero, i.size, i.bytes)) = some (some (.agg #[.slice none 0 0, .string ⟨#[]⟩, .int .i64 0, .string ⟨#[]⟩, .slice none 0 0, .int .i64 0, .string ⟨#[]⟩, .slice none 0 0, .int .i64 0]), 9, 144) := by kernel_rfl
/-- a row of claims appended to a new slice that holds none -/
theorem step_append_cls {ops : Array Oper} {o : Oper} {a : Act} {w0 wr : World} {K : Act → World → Prop} {Q : Exit → Act → World → Prop} {E : Prop} {l : List C} {A : Option Addr} {q : Nat}
    (hg : o.guard = none) (s x : Operand) (hop : o.op = Op.call { callee := Callee.builtin Builtin.append, args := #[s, x], argTypes := #[38, 38] })
    (h : ClsAt w0 A l) (hl : l.length ≤ 1048576) (hb : Below w0.heap.size w0 wr) (hs : a.eval s = .slice (some ⟨wr.heap.size, 0, none⟩) 0 0) (hx : a.eval x = .slice A l.length q)
    (hK : ∀ A' q' w', Below wr.heap.size wr w' → ClsAt w' A' l → K (a.put o.dst (.slice A' l.length q')) w') :
    if Region.wanted o (yielded ops a.tmps) = true then Oper.wp Tryz.prog o a (wr.alloc (.cells #[] 24)).drew K Q else E := by
  obtain ⟨i0, hi0, hz0, hz1, hz2⟩ := info_parts info_claims
  have hbn : Below wr.heap.size wr (wr.alloc (.cells #[] 24)).drew := ((Below.refl _ _).alloc (Nat.le_refl _) _).drew
  have hbw := below_chain hb hb.size hbn
  cases l with
  | nil => exact step_append_none hg s x 38 hop 24 i0 Tryz.underlying38 hi0 _ _ _ _ hs (Nat.le_refl _) A q hx (hK _ _ _ hbn (fun j hj => absurd hj (Nat.not_lt_zero _)))
  | cons c r =>
    generalize hll : c :: r = l at *
    have hpos : 0 < l.length := by rw [← hll]; simp
    obtain ⟨g, o', news, hA, hg', hnl, hnews, h1, hget⟩ := cls_cells h hpos
    subst hA
    have hown : (wr.alloc (.cells #[] 24)).drew.ownsRow wr.heap.size 24 9 (.slice (some ⟨wr.heap.size, 0, none⟩) 0 0) 0 [] :=
      ⟨rfl, .inr ⟨wr.heap.size, 0, #[], rfl, Nat.le_refl _, heap_alloc_new wr _, Nat.le_refl _, Nat.zero_le _, rfl, rfl⟩⟩
    refine step_append_own hg s x 38 hop wr.heap.size 24 i0 _ 9 144 Tryz.underlying38 hi0 hz0 hz1 hz2 rfl (by omega) _ 0 [] hs hown ⟨g, o', none⟩ l.length q news hx hnl
      (hnews _ hbw) h1 (by unfold maxLen; omega) (by omega) (by have := hbn.size; exact this) (fun v' w' hown' hgr => ?_)
    rw [Nat.zero_add, List.nil_append] at hown'
    have hb' : Below wr.heap.size wr w' := hbn.trans (below_of_grown hgr (Nat.le_refl _) hbn.size)
    rcases hown'.2 with ⟨rfl, h0⟩ | ⟨g', cap, cur, rfl, _⟩
    · omega
    · exact hK _ _ _ hb' (cls_own h (below_chain hb hb.size hb') rfl hget hown')

theorem judge0_kind (c : C) (r : R) : 1 ≤ (judge0 c r).kind ∧ (judge0 c r).kind ≤ 7 := by
  unfold judge0
  split
  · exact ⟨(by decide : 1 ≤ 4), (by decide : 4 ≤ 7)⟩
  · unfold judge1
    split
    · exact ⟨(by decide : 1 ≤ 5), (by decide : 5 ≤ 7)⟩
    · unfold judge2
      split
      · exact ⟨(by decide : 1 ≤ 6), (by decide : 6 ≤ 7)⟩
      · unfold judge3
        split
        · exact ⟨(by decide : 1 ≤ 2), (by decide : 2 ≤ 7)⟩
        · unfold judge4
          split
          · exact ⟨(by decide : 1 ≤ 3), (by decide : 3 ≤ 7)⟩
          · unfold judge5
            split
            · exact ⟨(by decide : 1 ≤ 1), (by decide : 1 ≤ 7)⟩
            · exact ⟨(by decide : 1 ≤ 7), (by decide : 7 ≤ 7)⟩
theorem judge0_len {c : C} {r : R} {N : Nat} (h1 : c.for_.length ≤ N) (h2 : r.may_.length ≤ N) : (judge0 c r).list.length ≤ N := by
  unfold judge0
  split
  · exact Nat.zero_le _
  · unfold judge1
    split
    · exact Nat.zero_le _
    · unfold judge2
      split
      · exact h1
      · unfold judge3
        split
        · exact Nat.zero_le _
        · unfold judge4
          split
          · exact Nat.zero_le _
          · unfold judge5
            split
            · exact Nat.zero_le _
            · have := lackF_len c.may_ r.may_ []
              simp only [List.length_nil, Nat.zero_add] at this
              exact Nat.le_trans this h2
theorem judgeP_fit {c : C} {r : R} (h : fit c r = true) : judgeP c r = judge0 c r := by
  rw [judgeP, if_pos h]
theorem judgeP_unfit {c : C} {r : R} (h : fit c r = false) : judgeP c r = ⟨0, 0, [], []⟩ := by
  rw [judgeP, if_neg (by rw [h]; decide)]
/-- a whole row stored -/
theorem wpList_store_row {P : Program} {ops : Array Oper} {rest : List Oper} {o : Oper} {a : Act} {w : World} {Q : Exit → Act → World → Prop} (hgd : o.guard = none) (ty : TypeId) (p x : Operand) (ho : o.op = .store ty p x)
    (g : Nat) (t : TypeId) (cs ds : Array Value) (hp : a.eval p = .pointer (some ⟨g, 0, none⟩)) (hx : a.eval x = .agg ds) (hB : Blk w g t cs) (hs : ds.size = cs.size) (h1 : ∀ v ∈ ds.toList, v.oneCell' = true) (hi : (P.info? ty).map (·.size) = some ds.size) (hd : o.dst = none)
    (h : wpList P ops Q rest a (putCells w g ds.toList 0)) : wpList P ops Q (o :: rest) a w :=
  wpList_plain hgd fun K hK => by
    have hst := run_storeVar_row (P := P) w g t ty cs ds hB hs h1 hi
    unfold Oper.wp execOp
    simp only [ho, hp, hx, Instr.storeAt, Instr.sureAddr, Sem.run_bind, Sem.run_pure, Result.andThen_ok, hst]
    have e : a.put o.dst undef = a := by rw [hd]; rfl
    exact hK _ _ (by rw [e]; exact h)
end Go.Proofs.YtbcckpnngonoeaaGreatDoor

