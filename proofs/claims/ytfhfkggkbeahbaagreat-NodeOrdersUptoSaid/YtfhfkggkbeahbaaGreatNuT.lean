/-
  Walks of layer 10's law: refs: a tree's values, each behind what lies within it.
-/
import Derived.Test.YtfhfkggkbeahbaaGreatNuS
import Derived.Maps.AppendAt
namespace Go.Proofs.YtfhfkggkbeahbaaGreat
open Go.RowKit Go.Shelf Mem
set_option linter.unusedVariables false
namespace Nd
attribute [local go_sem] Oper.semAt_some

mutual
def Tr.subs : Tr → List Tr
  | .null => [.null]
  | .flag b => [.flag b]
  | .num x => [.num x]
  | .text s => [.text s]
  | .list l => subsL l ++ [.list l]
  | .obj ks l => subsL l ++ [.obj ks l]
def subsL : List Tr → List Tr
  | [] => []
  | t :: l => t.subs ++ subsL l
end
theorem subs_kids (t : Tr) : t.subs = subsL t.kids ++ [t] := by
  cases t <;> simp [Tr.subs, Tr.kids, subsL]
theorem subsL_app : ∀ a b : List Tr, subsL (a ++ b) = subsL a ++ subsL b
  | [], b => by simp [subsL]
  | t :: a, b => by simp [subsL, subsL_app a b]
theorem subsL_snoc (l : List Tr) (k : Nat) (h : k < l.length) : subsL (l.take (k + 1)) = subsL (l.take k) ++ l[k].subs := by
  rw [List.take_succ_eq_append_getElem h, subsL_app]
  simp [subsL]
mutual
theorem subs_len : ∀ t : Tr, t.subs.length = t.nodes
  | .null => by simp [Tr.subs, Tr.nodes]
  | .flag b => by simp [Tr.subs, Tr.nodes]
  | .num x => by simp [Tr.subs, Tr.nodes]
  | .text s => by simp [Tr.subs, Tr.nodes]
  | .list l => by simp [Tr.subs, Tr.nodes, subsL_len l]; omega
  | .obj ks l => by simp [Tr.subs, Tr.nodes, subsL_len l]; omega
theorem subsL_len : ∀ l : List Tr, (subsL l).length = nodesL l
  | [] => by simp [subsL, nodesL]
  | t :: l => by simp [subsL, nodesL, subs_len t, subsL_len l]
end
theorem info_ref : (Tryz.prog.info? 43).map (fun i => (i.zero, i.size, i.bytes)) = some (some (.agg #[.nilIface]), 1, 16) := by kernel_rfl
theorem fn_nil (g : Nat) (W : World) : (binOp .eql 101 (.func (.func 67) #[] #[.pointer (some ⟨g, 0, none⟩)]) .nilFunc).run Tryz.prog W = .ok (.bool false) W := by kernel_rfl
theorem stepIn_append_own {F : Fence} {n : Nat} {P : Program} {w : World} {ops : Array Oper} {o : Oper} {a : Act} {K : Act → World → Prop} {Q : Exit → Act → World → Prop} {E : Prop}
    (hg : o.guard = none) (s x : Operand) (t : TypeId) (hop : o.op = Op.call { callee := Callee.builtin Builtin.append, args := #[s, x], argTypes := #[t, t] })
    (base : Nat) (e : TypeId) (i : TypeInfo) (z : Value) (size bytes : Nat) (h1 : P.underlying t = some (.slice e)) (h2 : P.info? e = some i) (h3 : i.zero = some z) (h4 : i.size = size) (h5 : i.bytes = bytes) (h6 : z.cells.size = size) (h7 : 0 < size)
    (v : Value) (k : Nat) (xs : List Value) (hs : a.eval s = v) (hown : w.ownsRow base e size v k xs) (ad : Addr) (m c : Nat) (news : List Value) (hx : a.eval x = .slice (some ad) m c) (hn : news.length = m * size)
    (hc : ∀ j u, news[j]? = some u → w.cell? (ad.add j) = some u) (h1c : ∀ u ∈ news, u.oneCell' = true) (b1 : k + m ≤ maxLen) (b2 : (k + m) * bytes ≤ 140737488355328) (b3 : base ≤ w.heap.size)
    (hK : ∀ v' w', w'.ownsRow base e size v' (k + m) (xs ++ news) → w.grownBy w' v.ownBlock → (v' = .slice none 0 0 ↔ v = .slice none 0 0 ∧ m = 0) → K (a.put o.dst v') w') :
    if Region.wanted o (yielded ops a.tmps) = true then Oper.wpIn F n P o a w K Q else E := by
  have hw : Region.wanted o (yielded ops a.tmps) = true := by simp [Region.wanted, hg]
  rw [if_pos hw]
  obtain ⟨v', w', hrun, r1, r2, r3⟩ := run_append_own (P := P) w base t o.type e i z size bytes h1 h2 h3 h4 h5 h6 h7 v k xs hown ad m c news hn hc h1c b1 b2 b3
  unfold Oper.wpIn
  refine ⟨?_, ?_⟩
  · simp [Oper.about, hop, resolve, Target.leads, Sem.run_pure]
  · rw [Oper.semAt_plain F _ _ (by rw [hop]; intro c hc'; cases hc')]
    simp [execOp, hop, resolve, invoke, builtin, hs, hx, hrun, Result.andThen]
    exact hK v' w' r1 r2 r3
/-- the values that came so far -/
def subsP {t : Tr} (pre : List (Fin t.kids.length)) : List Tr := pre.flatMap fun j => t.kids[j].subs
def RefsP (S : Nat → Prop) (t : Tr) (w : World) (e : Ending) (w' : World) : Prop := ∃ u vs, e = .returned u ∧ w'.ownsRow w.heap.size 43 1 u t.nodes vs ∧ RdL S w' t.subs vs ∧ Below w.heap.size w w'
theorem RdL.app {S : Nat → Prop} {w : World} : ∀ {l m : List Tr} {vs us : List Value}, RdL S w l vs → RdL S w m us → RdL S w (l ++ m) (vs ++ us)
  | [], m, vs, us, h, k => by
    unfold RdL at h
    subst h
    exact k
  | t :: l, m, vs, us, h, k => by
    unfold RdL at h
    obtain ⟨v, vs', rfl, h1, h2⟩ := h
    simp only [List.cons_append]
    unfold RdL
    exact ⟨v, vs' ++ us, rfl, h1, RdL.app h2 k⟩
theorem subsP_snoc {t : Tr} (pre : List (Fin t.kids.length)) (x : Fin t.kids.length) : subsP (pre ++ [x]) = subsP pre ++ t.kids[x].subs := by
  unfold subsP
  simp
theorem own_block_ge {w : World} {base size n : Nat} {e : TypeId} {v : Value} {xs : List Value} (h : w.ownsRow base e size v n xs) (g : Nat) (hg : v.ownBlock = some g) : base ≤ g ∧ ∃ o, w.heap[g]? = some o ∧ o.isCells = true := by
  rcases h.2 with ⟨rfl, _⟩ | ⟨g', cap, cur, rfl, h1, h2, _⟩
  · cases hg
  · simp only [Value.ownBlock, Option.some.injEq] at hg
    subst hg
    exact ⟨h1, _, h2, rfl⟩
theorem nodes_kids (t : Tr) : t.nodes = nodesL t.kids + 1 := by
  cases t <;> simp [Tr.nodes, Tr.kids, nodesL] <;> omega
theorem subsP_upto {t : Tr} : ∀ k, k ≤ t.kids.length → subsP (upF t.kids.length k) = subsL (t.kids.take k)
  | 0, _ => by simp [upF, subsP, subsL]
  | k + 1, h => by
    rw [upF_succ _ _ h, subsP_snoc, subsP_upto k (by omega), subsL_snoc _ _ h]
    rfl
theorem subsP_up (t : Tr) : subsP (upF t.kids.length t.kids.length) = subsL t.kids := by
  rw [subsP_upto _ (Nat.le_refl _), List.take_of_length_le (Nat.le_refl _)]
theorem own_lower {w : World} {B B' size n : Nat} {e : TypeId} {v : Value} {xs : List Value} (h : w.ownsRow B e size v n xs) (hB : B' ≤ B) : w.ownsRow B' e size v n xs :=
  ⟨h.1, h.2.imp id fun ⟨g, cap, cur, e1, e2, e3⟩ => ⟨g, cap, cur, e1, Nat.le_trans hB e2, e3⟩⟩
theorem refs_end {t : Tr} {x : Fin t.kids.length} {pre : List (Fin t.kids.length)} {SW : Nat → Prop} {v v1 v9 : Value} {us us2 : List Value} {w W w2 w9 : World} {b0 : Nat}
    (h1 : Boxed W (w.heap.size + 1) 65 v1) (h5 : Boxed W w.heap.size 43 v) (h7 : Boxed W (w.heap.size + 1 + 1) 43 v) (h6 : Below w.heap.size w W) (hb0 : b0 = w.heap.size + 3)
    (hb2 : Below W.heap.size W w2) (ho1 : w2.ownsRow (w.heap.size + 3) 43 1 v1 us.length us) (hgr9 : w2.grownBy w9 v1.ownBlock) (hown9 : w9.ownsRow (w.heap.size + 3) 43 1 v9 (us.length + t.kids[x].nodes) (us ++ us2)) (hne9 : some (w.heap.size + 1) ≠ v9.ownBlock)
    (h3 : RdL SW W (subsP pre) us) (hr2 : RdL SW w2 t.kids[x].subs us2) (hSlt : ∀ k, SW k → k < w.heap.size) (h4 : us.length ≤ pre.length * 65536) (hx : t.kids[x].nodes ≤ 65536) (hn3 : us2.length = t.kids[x].nodes) (hne : some (w.heap.size + 1) ≠ v1.ownBlock) :
    KeepsFrom b0 W (w9.setCell ⟨w.heap.size + 1, 0, none⟩ v9) ∧ KpB w.heap.size (w.heap.size + 1 + 1) W (w9.setCell ⟨w.heap.size + 1, 0, none⟩ v9) ∧
    ((∃ u us, Boxed (w9.setCell ⟨w.heap.size + 1, 0, none⟩ v9) (w.heap.size + 1) 65 u ∧ (w9.setCell ⟨w.heap.size + 1, 0, none⟩ v9).ownsRow (w.heap.size + 3) 43 1 u us.length us ∧ RdL SW (w9.setCell ⟨w.heap.size + 1, 0, none⟩ v9) (subsP (pre ++ [x])) us ∧ us.length ≤ (pre ++ [x]).length * 65536) ∧ (Boxed (w9.setCell ⟨w.heap.size + 1, 0, none⟩ v9) w.heap.size 43 v ∧ Boxed (w9.setCell ⟨w.heap.size + 1, 0, none⟩ v9) (w.heap.size + 1 + 1) 43 v ∧ Below w.heap.size w (w9.setCell ⟨w.heap.size + 1, 0, none⟩ v9))) := by
  have hms := h6.size
  have hlt := h7.lt
  have hge := fun g hg => (own_block_ge ho1 g hg).1
  have hnb : ∀ k, k < w.heap.size + 3 → some k ≠ v1.ownBlock := fun k hk e => by have := hge k e.symm; omega
  have h29 := hgr9.size
  have hb2s := hb2.size
  have hB1 : Below w.heap.size W w9 := (hb2.mono hms).grown hgr9 (by omega) (fun k e => by have := hge k e; omega)
  have hB : Below w.heap.size W (w9.setCell ⟨w.heap.size + 1, 0, none⟩ v9) := hB1.setCell (p := ⟨w.heap.size + 1, 0, none⟩) (by simp) v9
  have hbl : ∀ k, k < w.heap.size + 3 → k ≠ w.heap.size + 1 → (w9.setCell ⟨w.heap.size + 1, 0, none⟩ v9).heap[k]? = W.heap[k]? := fun k hk hne =>
    (Below.heap_setCell w9 _ _ k hne).trans ((hgr9.block k (by omega) (hnb k hk)).trans (hb2.block k (by omega)))
  have hv9 : Boxed w9 (w.heap.size + 1) 65 v1 := (hgr9.block _ (by omega) (hnb _ (by omega))).trans ((hb2.block _ (by omega)).trans h1)
  have hK2 : KeepsFrom b0 W w2 := ⟨hb2.size, fun k o _ hk _ => (hb2.block k (Array.getElem?_eq_some_iff.1 hk).1).trans hk⟩
  have hK9 : KeepsOthers w2 w9 := KeepsOthers.of_grownBy hgr9 fun j o e ho => by
    obtain ⟨_, o', ho', hc⟩ := own_block_ge ho1 j e
    rw [ho] at ho'
    cases ho'
    exact hc
  have hmv : ∀ X : World, Below w.heap.size X (w9.setCell ⟨w.heap.size + 1, 0, none⟩ v9) → ∀ k, k < X.heap.size → SW k → SW k ∧ (w9.setCell ⟨w.heap.size + 1, 0, none⟩ v9).heap[k]? = X.heap[k]? := fun X hX k _ hS => ⟨hS, hX.block k (hSlt k hS)⟩
  have hB2 : Below w.heap.size w2 (w9.setCell ⟨w.heap.size + 1, 0, none⟩ v9) := ((Below.refl _ _).grown hgr9 (by omega) (fun k e => by have := hge k e; omega)).setCell (p := ⟨w.heap.size + 1, 0, none⟩) (by simp) v9
  refine ⟨(hK2.trans (hK9.from _)).trans ((KeepsOthers.setCell _ _ _).from _), ⟨hB, hbl _ (by omega) (by omega)⟩, ⟨v9, us ++ us2, Boxed.set v9 hv9, ?_, ?_, ?_⟩, (hbl _ (by omega) (by omega)).trans h5, (hbl _ (by omega) (by omega)).trans h7, h6.trans hB⟩
  · rw [List.length_append, hn3]
    exact hown9.kept (grownBy_setCell' w9 _ v9) (.inr hne9.symm)
  · rw [subsP_snoc]
    exact (h3.move (hmv W hB)).app (hr2.move (hmv w2 hB2))
  · simp only [List.length_append, List.length_singleton]
    omega
set_option maxRecDepth 100000 in
set_option maxHeartbeats 4000000 in
theorem refs_step (S : Nat → Prop) (t : Tr) (v : Value) (w : World) (hT : RdT S w t v) (hn : t.nodes ≤ 65536) (ih : ∀ x, x ∈ t.kids → ∀ (S : Nat → Prop) u W, RdT S W x u → Calls Tryz.prog 28 #[.agg #[u]] W (RefsP S x W)) :
    Calls Tryz.prog 28 #[.agg #[v]] w (RefsP S t w) := by
  have hfn := fn_nil (w.heap.size + 1 + 1)
  obtain ⟨i0, hi0, hz0, hz1, hz2⟩ := info_parts info_ref
  have HT := Lib.hid hT
  have HIH := Lib.hid ih
  clear hT ih
  refine (callsIn_wide (n := 6)).1 ?_
  refine callsIn_of_wp_marks Tryz.func28 rfl trivial ?_ rfl
  simp only [Tryz.ntmps28, List.size_toArray, List.length_cons, List.length_nil, Nat.reduceAdd, Nat.reduceSub, Array.replicate_succ, Array.replicate_zero, List.push_toArray, List.append_toArray, List.nil_append, List.cons_append]
  gi_wp2_with (refine ⟨trivial, ?_⟩; gi_at_call 45; refine (callsIn_wide.2 (all_any v _)).mono ?_; rintro e w1 ⟨rfl, rfl⟩)
  obtain ⟨SW, hSW⟩ : ∃ SW : Nat → Prop, SW = fun k => S k ∧ k < w.heap.size := ⟨_, rfl⟩
  have hSlt : ∀ k, SW k → k < w.heap.size := fun k h => by rw [hSW] at h; exact h.2
  have hT2 : RdT SW w t v := RdT.move (S := S) (fun j hj hs => ⟨by rw [hSW]; exact ⟨hs, hj⟩, rfl⟩) _ _ HT.out
  obtain ⟨A, c, vs, hitv, hrow, hl⟩ := hT2.itv
  have bL := (Boxed.new (w.alloc (.cells #[v] 43)) 65 (.slice none 0 0)).alloc (.cells #[v] 43)
  have bR := ((Boxed.new w 43 v).alloc (.cells #[.slice none 0 0] 65)).alloc (.cells #[v] 43)
  have bA := Boxed.new ((w.alloc (.cells #[v] 43)).alloc (.cells #[.slice none 0 0] 65)) 43 v
  simp only [World.size_alloc] at bL bA
  have hB0 : Below w.heap.size w (((w.alloc (.cells #[v] 43)).alloc (.cells #[.slice none 0 0] 65)).alloc (.cells #[v] 43)) := (((Below.refl _ w).alloc (Nat.le_refl _) _).alloc (by simp) _).alloc (by simp; omega) _
  have hsz : (((w.alloc (.cells #[v] 43)).alloc (.cells #[.slice none 0 0] 65)).alloc (.cells #[v] 43)).heap.size = w.heap.size + 3 := by simp
  obtain ⟨W0, hW0⟩ : ∃ W0, ((w.alloc (.cells #[v] 43)).alloc (.cells #[.slice none 0 0] 65)).alloc (.cells #[v] 43) = W0 := ⟨_, rfl⟩
  rw [hW0] at bL bR bA hB0 hsz ⊢
  clear hW0
  have hmv : ∀ j, j < w.heap.size → SW j → j < w.heap.size ∧ W0.heap[j]? = w.heap[j]? := fun j hj hs => ⟨hj, hB0.block j hj⟩
  have hgd : ∀ x : Fin t.kids.length, ∃ tx ux, vs.getD x.1 .nilIface = .iface tx ux ∧ RdT SW w t.kids[x] (.iface tx ux) := fun x => by
    have hvl := hl.len
    have hx := x.2
    have hvk : vs[x.1]? = some (vs[x.1]'(by omega)) := List.getElem?_eq_getElem (by omega)
    have hrd := hl.at (List.getElem?_eq_getElem hx) hvk
    obtain ⟨tx, ux, he⟩ := hrd.iface
    rw [he] at hrd
    exact ⟨tx, ux, by rw [List.getD_eq_getElem?_getD, hvk, he]; rfl, hrd⟩
  have hkl : t.kids.length ≤ 65536 := by
    have h1 := nodes_len t.kids
    have h2 : nodesL t.kids ≤ t.nodes := by cases t <;> simp [Tr.kids, Tr.nodes, nodesL]
    omega
  refine wpIn_rangeFunc_ownH rfl (by omega) (gf := 67) (lb := #[.pointer (some ⟨w.heap.size + 1 + 1, 0, none⟩)]) rfl trivial (enters_of Tryz.func67 (by kernel_rfl) rfl)
    (all_stops 5 (w.heap.size + 1 + 1) w.heap.size t v A c vs (by omega) (by omega) W0 (by omega) bA.cell (hitv.move hmv) (hrow.move hmv) (hl.move hmv) (RdT.move hmv _ _ hT2)) kpB_t (kpB_b (by omega) (by omega)) (Below.refl _ _) (fun _ => rfl)
    (fun pre W => (∃ u us, Boxed W (w.heap.size + 1) 65 u ∧ W.ownsRow (w.heap.size + 3) 43 1 u us.length us ∧ RdL SW W (subsP pre) us ∧ us.length ≤ pre.length * 65536) ∧ (Boxed W w.heap.size 43 v ∧ Boxed W (w.heap.size + 1 + 1) 43 v ∧ Below w.heap.size w W))
    (fun _ _ _ => False)
    (fun pre X Y row hs hg hr => by
      obtain ⟨⟨u, us, h1, h2, h3, h4⟩, h5, h7, h6⟩ := hs
      have hnc : ∀ (b : Nat) (ty : TypeId) (x : Value), Boxed X b ty x → some b ≠ row := fun b ty x hb e => by
        obtain ⟨_, o, ho, hc⟩ := hr b e.symm
        rw [show X.heap[b]? = _ from hb] at ho
        cases ho
        cases hc
      refine ⟨⟨u, us, h1.kept hg (hnc _ _ _ h1), h2.kept hg ?_, h3.move fun k hk hS => ⟨hS, hg.block k hk fun e => by have := (hr k e.symm).1; have := hSlt k hS; omega⟩, h4⟩, h5.kept hg (hnc _ _ _ h5), h7.kept hg (hnc _ _ _ h7), h6.grown hg h6.size fun k e => by have := (hr k e).1; omega⟩
      rcases h2.2 with ⟨rfl, _⟩ | ⟨g, cap, cur, rfl, _, hgb, _⟩
      · exact .inl rfl
      · refine .inr fun e => ?_
        obtain ⟨_, o, ho, hc⟩ := hr g e.symm
        rw [hgb] at ho
        cases ho
        cases hc)
    (fun _ _ _ _ _ hs _ _ => hs)
    ⟨⟨.slice none 0 0, [], bL, World.ownsRow_nil _ _ _ _, by unfold subsP RdL; rfl, by simp⟩, bR, bA, hB0⟩
    (fun x a' W => ∃ Bx, w.heap.size + 1 < Bx ∧ Boxed W Bx 43 (vs.getD x.1 .nilIface) ∧ a' = { tmps := #[.agg #[v], .pointer (some ⟨w.heap.size, 0, none⟩), .slice none 0 0, .pointer (some ⟨w.heap.size + 1, 0, none⟩), .func (.func 67) #[] #[.pointer (some ⟨w.heap.size + 1 + 1, 0, none⟩)], undef, .pointer (some ⟨Bx, 0, none⟩), .agg #[v], .func (.func 67) #[] #[.pointer (some ⟨w.heap.size + 1 + 1, 0, none⟩)], .func (.func 67) #[] #[.pointer (some ⟨w.heap.size + 1 + 1, 0, none⟩)], .bool false, undef, undef, .func (.func 67) #[] #[.pointer (some ⟨w.heap.size + 1 + 1, 0, none⟩)], .string ⟨(t.kn[x.1]?.getD []).toArray⟩, .agg #[vs.getD x.1 .nilIface], undef, undef, undef, undef, undef, undef, undef, undef], defers := [] })
    (fun x a' _ X Y row hs hg hr => by obtain ⟨Bx, h1, h2, h3⟩ := hs; exact ⟨Bx, h1, boxed_own Bx 43 (fun (_ : Unit) => vs.getD x.1 .nilIface) () X Y row h2 hg (fun r e => (hr r e).2), h3⟩)
    ?assign ?body ?done ?stop
  case assign =>
    rintro l pre x W K ⟨⟨u, us, h1, h2, h3, h4⟩, h5, h7, h6⟩ hK
    obtain ⟨tx, ux, he, _⟩ := hgd x
    have hms := h6.size
    have hlt1 := h1.lt
    have hK2 := hK _ _ ((KeepsOthers.alloc _ (.cells #[vs.getD x.1 .nilIface] 43)).from _) ⟨(Below.refl _ W).alloc hms _, Below.heap_alloc W _ _ h7.lt⟩ ⟨⟨u, us, h1.alloc _, h2.alloc _, h3.move fun k hk hS => ⟨hS, Below.heap_alloc W _ k hk⟩, h4⟩, h5.alloc _, h7.alloc _, h6.alloc hms _⟩ ⟨W.heap.size, hlt1, Boxed.new W _ _, rfl⟩
    clear hK
    simp only [encR, he] at hK2 ⊢
    gi_wp2
    exact hK2
  case body =>
    rintro l pre x a' W hl9 hr9 ⟨⟨u, us, h1, h2, h3, h4⟩, h5, h7, h6⟩ ⟨Bx, hBx, bX, rfl⟩ hlt
    obtain ⟨tx, ux, he, hrx⟩ := hgd x
    rw [he] at bX ⊢
    have hms := h6.size
    have c1 := h1.cell
    have f1 := h1.frozen
    have cX := bX.cell
    have hrw : RdT SW W t.kids[x] (.iface tx ux) := RdT.move (S := SW) (S' := SW) (fun j hj hs => ⟨hs, h6.block j hj⟩) _ _ hrx
    have HRW := Lib.hid hrw
    have H2 := Lib.hid h2
    have H3 := Lib.hid h3
    clear hrw h2 h3
    obtain ⟨A2, q2, rfl⟩ := own_slice H2.out
    gi_wp2_with fail
    have hix := HIH.out t.kids[x] (List.getElem_mem x.2) SW (.iface tx ux) W.drew (RdT.move (S := SW) (S' := SW) (w := W) (w' := W.drew) (fun j hj hs => ⟨hs, rfl⟩) _ _ HRW.out)
    have HIX := Lib.hid hix
    clear hix
    refine wpIn_region_any (by kernel_rfl) ?_
    try (change wpAnyIn _ _ _ _ _ _ _ _ _ (World.drew _))
    refine wpAnyIn_ready (rs := [0, 1]) (by kernel_rfl) (by simp) ?_
    refine AllReadyIn.cons rfl (fun K hK => ?_) (AllReadyIn.cons rfl (fun K hK => ?_) AllReadyIn.nil)
    · go_simp
      refine hK _ _ ?_
      clear hK K
      refine wpAnyIn_ready (rs := [1]) (by kernel_rfl) (by simp) ?_
      refine AllReadyIn.cons rfl (fun K hK => ?_) AllReadyIn.nil
      go_simp
      refine hK _ _ ?_
      clear hK K
      refine wpAnyIn_ready (rs := [2]) (by kernel_rfl) (by simp) ?_
      refine AllReadyIn.cons rfl (fun K hK => ?_) AllReadyIn.nil
      go_simp
      refine ⟨trivial, (CallsIn.inRound l (callsIn_wide.2 HIX.out)).mono ?_⟩
      rintro e w2 ⟨u2, us2, rfl, ho2, hr2, hb2⟩
      dsimp only
      refine hK _ _ ?_
      clear hK K
      obtain ⟨A3, q3, rfl⟩ := own_slice ho2
      have hn3 : us2.length = t.kids[x].nodes := by have := ho2.1; omega
      have hp3 := nodes_pos t.kids[x]
      have hg3 : ∃ g3, A3 = some ⟨g3, 0, none⟩ := by
        rcases ho2.2 with ⟨_, h0⟩ | ⟨g, cap, cur, hv, _⟩
        · omega
        · injection hv with e1 _ _
          exact ⟨g, e1⟩
      obtain ⟨g3, rfl⟩ := hg3
      have hxn := nodes_mem t.kids t.kids[x] (List.getElem_mem x.2)
      have hkn : nodesL t.kids ≤ t.nodes := by cases t <;> simp [Tr.kids, Tr.nodes, nodesL]
      have hb2' : Below W.heap.size W w2 := ⟨hb2.os, hb2.tape, hb2.output, hb2.size, hb2.block⟩
      have ho1 := own_below H2.out hb2'
      have hv2 : Boxed w2 (w.heap.size + 1) 65 (.slice A2 us.length q2) := (hb2'.block _ h1.lt).trans h1
      refine wpAnyIn_ready (rs := [3]) (by kernel_rfl) (by simp) ?_
      refine AllReadyIn.cons rfl (fun K hK => ?_) AllReadyIn.nil
      refine stepIn_append_own rfl (.tmp 16) (.tmp 18) _ rfl (w.heap.size + 3) 43 i0 _ 1 16 Tryz.underlying65 hi0 hz0 hz1 hz2 rfl (by omega) _ us.length us rfl ho1 ⟨g3, 0, none⟩ t.kids[x].nodes q3 us2 rfl (by omega) (fun j u hj => ?_) hr2.ones (by unfold maxLen; omega) (by omega) (by have := hb2'.size; have := h7.lt; omega) ?_
      · have hjl : j < us2.length := by
          rcases Nat.lt_or_ge j us2.length with h | h
          · exact h
          · rw [List.getElem?_eq_none h] at hj
            cases hj
        have e1 : (⟨g3, 0, none⟩ : Addr).add j = ⟨g3, j, none⟩ := by
          unfold Addr.add
          split <;> simp_all
        rw [e1, ho2.cellAt j (by omega)]
        exact hj
      · intro v9 w9 hown9 hgr9 hnil9
        refine hK _ _ ?_
        clear hK K
        have hne := hv2.not_row (by decide) ho1
        have hv9 : Boxed w9 (w.heap.size + 1) 65 (.slice A2 us.length q2) := hv2.kept hgr9 hne
        have hne9 := hv9.not_row (by decide) hown9
        have c9 := hv9.cell
        have f9 := hv9.frozen
        obtain ⟨u9, q9, rfl⟩ := own_slice hown9
        have HEND := Lib.hid (refs_end h1 h5 h7 h6 hsz hb2' ho1 hgr9 hown9 hne9 H3.out hr2 (fun k hk => hSlt k hk) h4 (by omega) hn3 hne)
        refine wpAnyIn_ready (rs := [4]) (by kernel_rfl) (by simp) ?_
        refine AllReadyIn.cons rfl (fun K hK => ?_) AllReadyIn.nil
        go_simp
        refine hK _ _ ?_
        clear hK K
        refine wpAnyIn_done (by kernel_rfl) ?_ _
        clear c9 f9
        gi_wp2
        exact HEND.out
    · go_simp
      refine hK _ _ ?_
      clear hK K
      refine wpAnyIn_ready (rs := [0, 2]) (by kernel_rfl) (by simp) ?_
      refine AllReadyIn.cons rfl (fun K hK => ?_) (AllReadyIn.cons rfl (fun K hK => ?_) AllReadyIn.nil)
      · go_simp
        refine hK _ _ ?_
        clear hK K
        refine wpAnyIn_ready (rs := [2]) (by kernel_rfl) (by simp) ?_
        refine AllReadyIn.cons rfl (fun K hK => ?_) AllReadyIn.nil
        go_simp
        refine ⟨trivial, (CallsIn.inRound l (callsIn_wide.2 HIX.out)).mono ?_⟩
        rintro e w2 ⟨u2, us2, rfl, ho2, hr2, hb2⟩
        dsimp only
        refine hK _ _ ?_
        clear hK K
        obtain ⟨A3, q3, rfl⟩ := own_slice ho2
        have hn3 : us2.length = t.kids[x].nodes := by have := ho2.1; omega
        have hp3 := nodes_pos t.kids[x]
        have hg3 : ∃ g3, A3 = some ⟨g3, 0, none⟩ := by
          rcases ho2.2 with ⟨_, h0⟩ | ⟨g, cap, cur, hv, _⟩
          · omega
          · injection hv with e1 _ _
            exact ⟨g, e1⟩
        obtain ⟨g3, rfl⟩ := hg3
        have hxn := nodes_mem t.kids t.kids[x] (List.getElem_mem x.2)
        have hkn : nodesL t.kids ≤ t.nodes := by cases t <;> simp [Tr.kids, Tr.nodes, nodesL]
        have hb2' : Below W.heap.size W w2 := ⟨hb2.os, hb2.tape, hb2.output, hb2.size, hb2.block⟩
        have ho1 := own_below H2.out hb2'
        have hv2 : Boxed w2 (w.heap.size + 1) 65 (.slice A2 us.length q2) := (hb2'.block _ h1.lt).trans h1
        refine wpAnyIn_ready (rs := [3]) (by kernel_rfl) (by simp) ?_
        refine AllReadyIn.cons rfl (fun K hK => ?_) AllReadyIn.nil
        refine stepIn_append_own rfl (.tmp 16) (.tmp 18) _ rfl (w.heap.size + 3) 43 i0 _ 1 16 Tryz.underlying65 hi0 hz0 hz1 hz2 rfl (by omega) _ us.length us rfl ho1 ⟨g3, 0, none⟩ t.kids[x].nodes q3 us2 rfl (by omega) (fun j u hj => ?_) hr2.ones (by unfold maxLen; omega) (by omega) (by have := hb2'.size; have := h7.lt; omega) ?_
        · have hjl : j < us2.length := by
            rcases Nat.lt_or_ge j us2.length with h | h
            · exact h
            · rw [List.getElem?_eq_none h] at hj
              cases hj
          have e1 : (⟨g3, 0, none⟩ : Addr).add j = ⟨g3, j, none⟩ := by
            unfold Addr.add
            split <;> simp_all
          rw [e1, ho2.cellAt j (by omega)]
          exact hj
        · intro v9 w9 hown9 hgr9 hnil9
          refine hK _ _ ?_
          clear hK K
          have hne := hv2.not_row (by decide) ho1
          have hv9 : Boxed w9 (w.heap.size + 1) 65 (.slice A2 us.length q2) := hv2.kept hgr9 hne
          have hne9 := hv9.not_row (by decide) hown9
          have c9 := hv9.cell
          have f9 := hv9.frozen
          obtain ⟨u9, q9, rfl⟩ := own_slice hown9
          have HEND := Lib.hid (refs_end h1 h5 h7 h6 hsz hb2' ho1 hgr9 hown9 hne9 H3.out hr2 (fun k hk => hSlt k hk) h4 (by omega) hn3 hne)
          refine wpAnyIn_ready (rs := [4]) (by kernel_rfl) (by simp) ?_
          refine AllReadyIn.cons rfl (fun K hK => ?_) AllReadyIn.nil
          go_simp
          refine hK _ _ ?_
          clear hK K
          refine wpAnyIn_done (by kernel_rfl) ?_ _
          clear c9 f9
          gi_wp2
          exact HEND.out
      · go_simp
        refine ⟨trivial, (CallsIn.inRound l (callsIn_wide.2 HIX.out)).mono ?_⟩
        rintro e w2 ⟨u2, us2, rfl, ho2, hr2, hb2⟩
        dsimp only
        refine hK _ _ ?_
        clear hK K
        obtain ⟨A3, q3, rfl⟩ := own_slice ho2
        have hn3 : us2.length = t.kids[x].nodes := by have := ho2.1; omega
        have hp3 := nodes_pos t.kids[x]
        have hg3 : ∃ g3, A3 = some ⟨g3, 0, none⟩ := by
          rcases ho2.2 with ⟨_, h0⟩ | ⟨g, cap, cur, hv, _⟩
          · omega
          · injection hv with e1 _ _
            exact ⟨g, e1⟩
        obtain ⟨g3, rfl⟩ := hg3
        have hxn := nodes_mem t.kids t.kids[x] (List.getElem_mem x.2)
        have hkn : nodesL t.kids ≤ t.nodes := by cases t <;> simp [Tr.kids, Tr.nodes, nodesL]
        have hb2' : Below W.heap.size W w2 := ⟨hb2.os, hb2.tape, hb2.output, hb2.size, hb2.block⟩
        have ho1 := own_below H2.out hb2'
        have hv2 : Boxed w2 (w.heap.size + 1) 65 (.slice A2 us.length q2) := (hb2'.block _ h1.lt).trans h1
        refine wpAnyIn_ready (rs := [0]) (by kernel_rfl) (by simp) ?_
        refine AllReadyIn.cons rfl (fun K hK => ?_) AllReadyIn.nil
        have c2 := hv2.cell
        go_simp
        refine hK _ _ ?_
        clear hK K
        refine wpAnyIn_ready (rs := [3]) (by kernel_rfl) (by simp) ?_
        refine AllReadyIn.cons rfl (fun K hK => ?_) AllReadyIn.nil
        refine stepIn_append_own rfl (.tmp 16) (.tmp 18) _ rfl (w.heap.size + 3) 43 i0 _ 1 16 Tryz.underlying65 hi0 hz0 hz1 hz2 rfl (by omega) _ us.length us rfl ho1 ⟨g3, 0, none⟩ t.kids[x].nodes q3 us2 rfl (by omega) (fun j u hj => ?_) hr2.ones (by unfold maxLen; omega) (by omega) (by have := hb2'.size; have := h7.lt; omega) ?_
        · have hjl : j < us2.length := by
            rcases Nat.lt_or_ge j us2.length with h | h
            · exact h
            · rw [List.getElem?_eq_none h] at hj
              cases hj
          have e1 : (⟨g3, 0, none⟩ : Addr).add j = ⟨g3, j, none⟩ := by
            unfold Addr.add
            split <;> simp_all
          rw [e1, ho2.cellAt j (by omega)]
          exact hj
        · intro v9 w9 hown9 hgr9 hnil9
          refine hK _ _ ?_
          clear hK K
          have hne := hv2.not_row (by decide) ho1
          have hv9 : Boxed w9 (w.heap.size + 1) 65 (.slice A2 us.length q2) := hv2.kept hgr9 hne
          have hne9 := hv9.not_row (by decide) hown9
          have c9 := hv9.cell
          have f9 := hv9.frozen
          obtain ⟨u9, q9, rfl⟩ := own_slice hown9
          have HEND := Lib.hid (refs_end h1 h5 h7 h6 hsz hb2' ho1 hgr9 hown9 hne9 H3.out hr2 (fun k hk => hSlt k hk) h4 (by omega) hn3 hne)
          refine wpAnyIn_ready (rs := [4]) (by kernel_rfl) (by simp) ?_
          refine AllReadyIn.cons rfl (fun K hK => ?_) AllReadyIn.nil
          go_simp
          refine hK _ _ ?_
          clear hK K
          refine wpAnyIn_done (by kernel_rfl) ?_ _
          clear c9 f9
          gi_wp2
          exact HEND.out
  case done =>
    rintro D ys W hD hys ⟨⟨u, us, h1, h2, h3, h4⟩, h5, h7, h6⟩ hK
    rw [hys, subsP_up] at h3
    have hul : us.length = nodesL t.kids := h3.len.trans (subsL_len _)
    rw [hul] at h2 h4
    have HUL := Lib.hid hul
    clear hul
    have hnb : nodesL t.kids + 1 ≤ 65536 := by have := nodes_kids t; omega
    have HN := Lib.hid (nodes_kids t)
    have hvo := hT2.one
    obtain ⟨tx, ux, hv⟩ := hT2.iface
    subst hv
    have hms := h6.size
    have hlt5 := h7.lt
    have c1 := h1.cell
    have c5 := h5.cell
    have H3 := Lib.hid h3
    have H2 := Lib.hid h2
    clear h3 h2
    obtain ⟨A2, q2, rfl⟩ := own_slice H2.out
    have ho1 := H2.out.alloc (.cells #[.iface tx ux] 43)
    gi_wp2_with (gi_at_builtin; refine wpListIn_append_own _ rfl _ _ 65 rfl (w.heap.size + 3) 43 i0 _ 1 16 Tryz.underlying65 hi0 hz0 hz1 hz2 rfl (by omega) _ (nodesL t.kids) us rfl ho1 ⟨W.heap.size, 0, none⟩ 1 1 [.iface tx ux] rfl rfl (cell_one_new _ _ _) ?h1c ?hb1 ?hb2 ?hb3 ?_; (intro u2 hu2; rw [List.mem_singleton] at hu2; rw [hu2]; exact hvo); (unfold maxLen; omega); omega; (simp; omega); intro v9 w9 hown9 hgr9 hnil9)
    have hgr : (W.alloc (.cells #[.iface tx ux] 43)).grownBy w9 (Value.slice A2 (nodesL t.kids) q2).ownBlock := hgr9
    clear hgr9 hnil9 c1 c5
    have hDlt : D < W.heap.size := (Array.getElem?_eq_some_iff.1 hK).1
    have hK1 : (W.alloc (.cells #[.iface tx ux] 43)).heap[D]? = some (.deferred (some [])) := (Below.heap_alloc W _ D hDlt).trans hK
    have hK9 : w9.heap[D]? = some (.deferred (some [])) := (hgr.block D (by simp; omega) (fun e => by
      obtain ⟨_, o, ho, hc⟩ := own_block_ge ho1 D e.symm
      rw [hK1] at ho
      cases ho
      cases hc)).trans hK1
    have hB1 : Below w.heap.size W (W.alloc (.cells #[.iface tx ux] 43)) := (Below.refl _ W).alloc hms _
    have hB9 : Below w.heap.size W w9 := hB1.grown hgr (by simp; omega) (fun k e => by have := (own_block_ge ho1 k e).1; omega)
    have hBX := hB9.trans (belowK_b (w := w) (Nat.le_refl _) w9 D _ (.deferred none) (by omega) hK9 rfl rfl)
    refine ⟨by simp, .inl ⟨_, _, rfl, run_takeDeferred hK9, ?_⟩⟩
    refine ⟨_, results_tmp rfl _ _ _, v9, us ++ [.iface tx ux], rfl, ?_, ?_, h6.trans hBX⟩
    · rw [HN.out]
      exact ownsRow_putObj (own_lower hown9 (by omega)) _ hK9 rfl
    · rw [subs_kids]
      refine RdL.snoc (H3.out.move fun k _ hS => ⟨?_, hBX.block k (hSlt k hS)⟩) (RdT.move (fun k _ hS => ⟨?_, (h6.trans hBX).block k (hSlt k hS)⟩) _ _ hT2)
      · rw [hSW] at hS
        exact hS.1
      · rw [hSW] at hS
        exact hS.1
  case stop =>
    rintro D c pre W _ _ h _
    exact h.elim
theorem refs_any (t : Tr) : t.nodes ≤ 65536 → ∀ (S : Nat → Prop) v w, RdT S w t v → Calls Tryz.prog 28 #[.agg #[v]] w (RefsP S t w) := by
  induction t using Tr.ind with
  | h0 => exact fun hn S v w h => refs_step S _ v w h hn (fun x hx => by cases hx)
  | h1 b => exact fun hn S v w h => refs_step S _ v w h hn (fun x hx => by cases hx)
  | h2 x => exact fun hn S v w h => refs_step S _ v w h hn (fun x hx => by cases hx)
  | h3 s => exact fun hn S v w h => refs_step S _ v w h hn (fun x hx => by cases hx)
  | h4 l ih => exact fun hn S v w h => refs_step S _ v w h hn (fun x hx S' u W h' => ih x hx (by have := nodes_mem l x hx; unfold Tr.nodes at hn; omega) S' u W h')
  | h5 ks l ih => exact fun hn S v w h => refs_step S _ v w h hn (fun x hx S' u W h' => ih x hx (by have := nodes_mem l x hx; unfold Tr.nodes at hn; omega) S' u W h')
end Nd
end Go.Proofs.YtfhfkggkbeahbaaGreat
