/-
  Walks of package node: Value of objects, of every tree.
-/
import Derived.Test.YtfhfkggkbeahbaaNuC
import Derived.Deep.RegionHeldLaw
namespace Go.Proofs.Ytfhfkggkbeahbaa
open Go.RowKit Mem
set_option linter.unusedVariables false
namespace Nd

theorem step_append_fits {P : Program} {w : World} {ops : Array Oper} {o : Oper} {a : Act} {K : Act → World → Prop} {Q : Exit → Act → World → Prop} {E : Prop}
    (hg : o.guard = none) (s x : Operand) (t : TypeId) (hop : o.op = Op.call { callee := Callee.builtin Builtin.append, args := #[s, x], argTypes := #[t, t] })
    (base : Nat) (e : TypeId) (i : TypeInfo) (size : Nat) (h1 : P.underlying t = some (.slice e)) (h2 : P.info? e = some i) (h4 : i.size = size)
    (g k cap : Nat) (xs : List Value) (hs : a.eval s = .slice (some ⟨g, 0, none⟩) k cap) (hown : w.ownsRow base e size (.slice (some ⟨g, 0, none⟩) k cap) k xs) (ad : Addr) (m c : Nat) (news : List Value) (hx : a.eval x = .slice (some ad) m c) (hn : news.length = m * size)
    (hc : ∀ j u, news[j]? = some u → w.cell? (ad.add j) = some u) (h1c : ∀ u ∈ news, u.oneCell' = true) (b1 : k + m ≤ cap)
    (hK : ∀ w', w'.ownsRow base e size (.slice (some ⟨g, 0, none⟩) (k + m) cap) (k + m) (xs ++ news) → w.grownBy w' (some g) → K (a.put o.dst (.slice (some ⟨g, 0, none⟩) (k + m) cap)) w') :
    if Region.wanted o (yielded ops a.tmps) = true then Oper.wp P o a w K Q else E := by
  have hw : Region.wanted o (yielded ops a.tmps) = true := by simp [Region.wanted, hg]
  rw [if_pos hw]
  obtain ⟨w', hrun, r1, r2⟩ := run_append_fits (P := P) w base t o.type e i size h1 h2 h4 g k cap xs hown ad m c news hn hc h1c b1
  unfold Oper.wp
  simp [execOp, hop, resolve, invoke, builtin, hs, hx, hrun, Result.andThen]
  exact hK w' r1 r2
theorem pairs_snoc : ∀ (ks : List Tx) (us : List Value) (u : Value) (h : us.length < ks.length), pairs (ks.take (us.length + 1)) (us ++ [u]) = pairs (ks.take us.length) us ++ [txV ks[us.length], u]
  | [], us, u, h => by simp at h
  | k :: ks, [], u, h => by simp [pairs]
  | k :: ks, v :: us, u, h => by
    have h' : us.length < ks.length := by simpa using h
    have ih := pairs_snoc ks us u h'
    simp only [List.length_cons, List.take_succ_cons, List.cons_append, pairs, List.getElem_cons_succ]
    rw [ih]
theorem pairs_snoc2 (ks : List Tx) (us : List Value) (k : Nat) (hu : us.length = k) (h : k < ks.length) : ∀ u, pairs (ks.take (k + 1)) (us ++ [u]) = pairs (ks.take k) us ++ [txV ks[k], u] := by
  subst hu
  exact fun u => pairs_snoc ks us u h
theorem pairs_len : ∀ (ks : List Tx) (us : List Value), us.length = ks.length → (pairs ks us).length = ks.length * 2
  | [], us, h => by
    have : us = [] := List.length_eq_zero_iff.1 h
    simp [pairs]
  | k :: ks, [], h => by simp at h
  | k :: ks, v :: us, h => by
    have := pairs_len ks us (by simpa using h)
    simp only [pairs, List.length_cons]
    omega
theorem two_new (w : World) (t : TypeId) (a b : Value) : ∀ (j : Nat) (u : Value), [a, b][j]? = some u → (w.alloc (.cells #[a, b] t)).cell? ((⟨w.heap.size, 0, none⟩ : Addr).add j) = some u := by
  intro j u hj
  have hadd : (⟨w.heap.size, 0, none⟩ : Addr).add j = ⟨w.heap.size, j, none⟩ := by unfold Addr.add; split <;> simp_all
  rw [hadd, (Blk.new w t #[a, b]).cell]
  simpa using hj
/-- how the loop over an object's members stands -/
structure ValO (ks : List Tx) (l : List Tr) (w : World) (g0 : Nat) (k : Nat) (wr : World) : Prop where
  bl : Below w.heap.size w wr
  ex : ∃ us, us.length = k ∧ TdL (fun j => g0 < j) wr (l.take k) us ∧ wr.ownsRow g0 103 2 (.slice (some ⟨g0, 0, none⟩) k l.length) k (pairs (ks.take k) us)
theorem row2_of_own {w : World} {base n : Nat} {e : TypeId} {v : Value} {xs : List Value} (h : w.ownsRow base e 2 v n xs) : Row2 (fun k => v.ownBlock = some k) w e v n xs := by
  have hl := h.1
  rcases h.2 with ⟨rfl, h0⟩ | ⟨g, cap, cur, rfl, _, hg, hn, hc, hs, ht⟩
  · exact ⟨none, 0, by rw [h0], hl, .inl h0⟩
  · refine ⟨_, cap, rfl, hl, .inr ⟨g, 0, cur, rfl, rfl, hg, fun j x hx => ?_⟩⟩
    rw [← ht, List.getElem?_take] at hx
    split at hx
    · simpa using hx
    · cases hx
set_option maxRecDepth 100000 in
set_option maxHeartbeats 8000000 in
theorem value_obj (S : Nat → Prop) (ks : List Tx) (l : List Tr) (v : Value) (w : World) (h : RdT S w (.obj ks l) v) (hkl : ks.length = l.length) (hlen : l.length ≤ 1048576) (ih : ∀ x, x ∈ l → ∀ u W, RdT S W x u → Calls Try.prog 28 #[.agg #[u]] W (ValP x W)) :
    Calls Try.prog 28 #[.agg #[v]] w (ValP (.obj ks l) w) := by
  obtain ⟨i0, hi0, hz0, hz1, hz2⟩ := info_parts info_member
  unfold RdT at h
  obtain ⟨g1, K1, dk, A1, c1, vs, rfl, hS1, hB1, hK1, hR1, hL1⟩ := h
  have h0 := ta_5_0 (some ⟨g1, 0, none⟩)
  have h1 := ta_5_1 (some ⟨g1, 0, none⟩)
  have h2 := ta_5_2 (some ⟨g1, 0, none⟩)
  have h3 := ta_5_3 (some ⟨g1, 0, none⟩)
  have h4 := ta_5_4 (some ⟨g1, 0, none⟩)
  have h5 := ta_5_5 (some ⟨g1, 0, none⟩)
  have HR := Lib.hid hR1
  have HL := Lib.hid hL1
  have HK := Lib.hid hK1
  have HIH := Lib.hid ih
  have HKL := Lib.hid hkl
  have hlt1 := hB1.lt
  have d3 : w.cell? ⟨g1, 3, none⟩ = some (.slice K1 ks.length dk) := hB1.cell 3
  have d4 : w.cell? ⟨g1, 4, none⟩ = some (.slice A1 l.length c1) := hB1.cell 4
  clear hR1 hL1 ih hB1 hK1 hkl
  go_enter Try.func28, Try.ntmps28
  go_wp2_with (at_make; refine wpList_make_own _ rfl _ _ 100 rfl (w.heap.size + 1) 103 i0 _ 2 Try.underlying100 hi0 hz0 hz1 .i64 .i64 (l.length : Int) l.length rfl rfl rfl (by rw [hz2]; omega) (by unfold maxLen; omega) (by simp) ?_; intro w1 hown1 hgr1; have hb1 := below_made hgr1; have d4' : w1.cell? ⟨g1, 4, none⟩ = some (.slice A1 l.length c1) := ((old hb1).1 _ _ hlt1).trans d4)
  have hsz1 : w.heap.size + 1 < w1.heap.size := by have h9 := (hown1.lt _ rfl).2; simpa using h9
  rw [World.size_alloc] at hown1
  have HO1 := Lib.hid hown1
  clear hown1 hgr1 d4 d4'
  go_loopw [12, 78] (fun c12 c78 wr => ∃ k : Nat, k ≤ l.length ∧ c78 = .int .i64 k ∧ c12 = .slice (some ⟨w.heap.size + 1, 0, none⟩) k l.length ∧ ValO ks l w (w.heap.size + 1) k wr) (fun _ c78 _ => l.length - (intOf c78).toNat)
  case atStart => exact ⟨0, by omega, rfl, rfl, hb1, [], rfl, by unfold TdL; simp, by cases ks <;> exact HO1.out⟩
  case round =>
    obtain ⟨k, hk, rfl, rfl, hV⟩ := hrel
    have HV := Lib.hid hV
    have hbs := hV.bl.size
    have d3r : wr.cell? ⟨g1, 3, none⟩ = some (.slice K1 ks.length dk) := ((old hV.bl).1 _ _ hlt1).trans d3
    clear hV
    by_cases hlt : k < l.length
    · have hcell : ∃ g o tx ux, A1 = some ⟨g, o, none⟩ ∧ wr.cell? ⟨g, o + k, none⟩ = some (.iface tx ux) ∧ RdT S wr l[k] (.iface tx ux) := by
        obtain ⟨A', c', e', h'⟩ := HR.out
        injection e' with e1 e2 e3
        have hvl := HL.out.len
        rcases h' with ⟨h', _⟩ | ⟨g, o, cur, hA, hSg, hBg, hc⟩
        · rw [h'] at hvl
          simp at hvl
          omega
        · have hvk : vs[k]? = some (vs[k]'(by omega)) := List.getElem?_eq_getElem (by omega)
          have hrd := HL.out.at (List.getElem?_eq_getElem hlt) hvk
          obtain ⟨tx, ux, he⟩ := hrd.iface
          rw [he] at hvk hrd
          exact ⟨g, o, tx, ux, by rw [e1, hA], ((HV.out.bl.cell (p := ⟨g, o + k, none⟩) hBg.lt).trans (hBg.cell _)).trans (hc k _ hvk), RdT.move (fun j hj hs => ⟨hs, HV.out.bl.block j hj⟩) _ _ hrd⟩
      obtain ⟨g, o, tx, ux, rfl, hcell, hrd⟩ := hcell
      have hkk : k < ks.length := by have := HKL.out; omega
      have hkey : ∃ gk ok, K1 = some ⟨gk, ok, none⟩ ∧ gk < w.heap.size ∧ w.cell? ⟨gk, ok + k, none⟩ = some (.string ⟨ks[k].toArray⟩) := by
        obtain ⟨A', c', e', h'⟩ := HK.out
        injection e' with e1 e2 e3
        rcases h' with ⟨h', _⟩ | ⟨g, o, cur, hA, hSg, hBg, hc⟩
        · have := congrArg List.length h'
          simp at this
          rw [this] at hkk
          simp at hkk
        · refine ⟨g, o, by rw [e1, hA], hBg.lt, ?_⟩
          rw [hBg.cell]
          apply hc
          rw [List.getElem?_map, List.getElem?_eq_getElem hkk]
          rfl
      obtain ⟨gk, ok, rfl, hgk, hkc⟩ := hkey
      have hkcr : wr.cell? ⟨gk, ok + k, none⟩ = some (.string ⟨ks[k].toArray⟩) := ((old HV.out.bl).1 _ _ hgk).trans hkc
      have HRD := Lib.hid (RdT.move (S := S) (S' := S) (w := wr) (w' := wr.drew) (fun j hj hs => ⟨hs, rfl⟩) _ _ hrd)
      have hkb : (k : Int) < (ks.length : Int) := by omega
      have hkb0 : (0 : Int) ≤ (k : Int) := by omega
      clear hrd hkc
      obtain ⟨us, hul, hus, hown⟩ := HV.out.ex
      have hwlt : w.heap.size + 1 < wr.heap.size := (hown.lt _ rfl).2
      have HUS := Lib.hid hus
      have HOW := Lib.hid hown.drew
      have HPS := Lib.hid (pairs_snoc2 ks us k hul hkk)
      have HUL := Lib.hid hul
      clear hus hown hul
      obtain ⟨kt, hkt⟩ : ∃ t, ks[k] = t := ⟨_, rfl⟩
      rw [hkt] at hkcr
      have HKT := Lib.hid hkt
      clear hkt
      go_wp2_with fail
      go_region_held_law (fun w' => w'.cell? ⟨g1, 3, none⟩ = some (.slice (some ⟨gk, ok, none⟩) ks.length dk) ∧ w'.cell? ⟨gk, ok + k, none⟩ = some (.string ⟨kt.toArray⟩)) (first | exact ⟨d3r, hkcr⟩ | exact ⟨((old hb2).1 _ _ (by show g1 < wr.heap.size; omega)).trans d3r, ((old hb2).1 _ _ (by show gk < wr.heap.size; omega)).trans hkcr⟩ | exact ⟨hgr3.cell (a := ⟨g1, 3, none⟩) (Lib.cell?_alloc_some _ d3w) (by intro e; injection e with e; have e' : g1 = w.heap.size + 1 := e; omega), hgr3.cell (a := ⟨gk, ok + k, none⟩) (Lib.cell?_alloc_some _ kcw) (by intro e; injection e with e; have e' : gk = w.heap.size + 1 := e; omega)⟩ | go_keep)
        (first | (refine step_append_fits (by rfl) _ _ _ (by rfl) (w.heap.size + 1) 103 i0 2 Try.underlying100 hi0 hz1 (w.heap.size + 1) k l.length (pairs (ks.take k) us) (by rfl) (HO2.out.alloc _) ⟨w2.heap.size, 0, none⟩ 1 1 [.string ⟨kt.toArray⟩, .iface ty uy] (by rfl) (by rfl) (two_new _ _ _ _) (by intro u hu; simp at hu; rcases hu with rfl | rfl <;> rfl) (by omega) ?_; intro w3 hown3 hgr3) | (go_simp; go_at_call 28; ((with_reducible refine (HIH.out _ (List.getElem_mem hlt) _ _ HRD.out).mono ?_); rintro e w2 ⟨u, rfl, htd, hb2⟩; obtain ⟨ty, uy, rfl⟩ := htd.iface; have HO2 := Lib.hid (own_below HOW.out hb2); have HTD := Lib.hid htd; have hs2 := hb2.size; have d3w := ((old hb2).1 g1 3 (by show g1 < wr.heap.size; omega)).trans d3r; have kcw := ((old hb2).1 gk (ok + k) (by show gk < wr.heap.size; omega)).trans hkcr; dsimp only)))
      have hV3 : ValO ks l w (w.heap.size + 1) (k + 1) w3 := by
        have hmv : ∀ j, j < w2.heap.size → w.heap.size + 1 < j → w.heap.size + 1 < j ∧ w3.heap[j]? = w2.heap[j]? := fun j hj hs =>
          ⟨hs, (hgr3.block j (by simp; omega) (by intro e; injection e with e; omega)).trans (Below.heap_alloc w2 _ j hj)⟩
        have hb2' : Below wr.heap.size wr w2 := ⟨hb2.os, hb2.tape, hb2.output, hb2.size, hb2.block⟩
        refine ⟨?_, us ++ [.iface ty uy], by simp [HUL.out], ?_, ?_⟩
        · have h1 : Below w.heap.size w w2 := HV.out.bl.trans (hb2'.mono hbs)
          exact (h1.alloc h1.size _).grown hgr3 (by simp; have := hb2'.size; omega) (fun j e => by injection e with e; omega)
        · rw [List.take_succ_eq_append_getElem hlt]
          refine ((HUS.out.move fun j hj hs => ⟨hs, hb2'.block j hj⟩).move hmv).snoc ?_
          exact TdT.move hmv _ _ (TdT.move (fun j hj hs => ⟨by have h9 : wr.heap.size ≤ j := hs; omega, rfl⟩) _ _ HTD.out)
        · rw [HPS.out, HKT.out]
          exact hown3
      clear hown3 hgr3 hb2
      go_wp2
      go_roundw
      case rel => exact ⟨k + 1, by omega, by go_num, rfl, hV3⟩
      case measure => simp [intOf]; omega
    · have hkn : k = l.length := by omega
      subst hkn
      go_wp2
      go_ret
      obtain ⟨us, hul, hus, hown⟩ := HV.out.ex
      rw [List.take_length] at hus
      rw [List.take_of_length_le (by have := HKL.out; omega)] at hown
      refine ⟨_, rfl, ?_, HV.out.bl⟩
      unfold TdT
      exact ⟨_, us, rfl, HKL.out, (row2_of_own hown).move fun j hj hs => ⟨by have := (hown.lt j hs).1; omega, rfl⟩, hus.move fun j hj hs => ⟨by omega, rfl⟩⟩
end Nd
end Go.Proofs.Ytfhfkggkbeahbaa
