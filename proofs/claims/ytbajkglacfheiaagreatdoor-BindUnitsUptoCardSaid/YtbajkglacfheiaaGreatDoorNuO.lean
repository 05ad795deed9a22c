/-
  What a slice of steps that came in reads as.
-/
import Derived.Test.YtbajkglacfheiaaGreatDoorRows
import Derived.Test.YtbajkglacfheiaaGreatDoorGF
import Derived.ProofKit
import Derived.SliceStrings
import Derived.Deep.Slices
import Derived.Deep.Fields
import Derived.ChangeSame
namespace Go.Proofs.YtbajkglacfheiaaGreatDoor
open Go.ChangeShapes Go.WideShapes Go.RowKit Go.Deep Mem
set_option linter.unusedVariables false
namespace Nd

theorem prog_own : ownKnob Tryz.prog.godebug = none := by kernel_rfl
theorem prog_laidOut : laidOutB Tryz.prog = true := by kernel_rfl
section
variable {H : Type} {enc : TypeId × Value → H} {P : Program} {w : World} {base : Nat} {spare : Nat → Bool} {held : Bool}
theorem open_slice_fields {t e : TypeId} {fs : Array Field} {fuel : Nat} {cs : List Value} {x : DataW H × List MemPlace} (ht : P.underlying t = some (.slice e)) (he : P.underlying e = some (.struct fs))
    (hone : oneCellFields P fs = true) (hC : P.cellsOf e = fs.size) (h : DataW.trod enc P w base spare held fuel t cs = some x) :
    (cs = [.slice none 0 0] ∧ x = (.nil, [])) ∨
    ∃ (a : Addr) (len cap m : Nat) (D : Nat → DataW H) (Pl : Nat → List MemPlace), cs = [.slice (some a) len cap] ∧ base ≤ a.block ∧ len ≤ cap ∧ cap ≤ maxLen ∧ m = (if spare a.block then cap else len) ∧
      x = (.slice ((List.range len).map D) ((List.range (m - len)).map fun j => D (len + j)), MemPlace.row a (m * fs.size) ++ (List.range m).flatMap Pl) ∧
      ∀ i, i < m → ∃ (ys : List (DataW H × List MemPlace)) (n : Nat), D i = .agg (ys.map (·.1)) ∧ Pl i = ys.flatMap (·.2) ∧ ys.length = fs.size ∧
        ∀ (j : Nat) (f : Field), fs[j]? = some f → ∃ (v : Value) (y : DataW H × List MemPlace), w.cell? (a.add (i * fs.size + j)) = some v ∧ ys[j]? = some y ∧ DataW.trod enc P w base spare held n f.type [v] = some y := by
  rcases open_slice ht h with h0 | ⟨a, len, cap, m, n, D, Pl, hcs, hb, hl, hm, hmm, hx, hi⟩
  · exact .inl h0
  · refine .inr ⟨a, len, cap, m, D, Pl, hcs, hb, hl, hm, hmm, by rw [hC] at hx; exact hx, fun i him => ?_⟩
    obtain ⟨cs', hc, ht'⟩ := hi i him
    rw [hC] at hc
    obtain ⟨ys, n', hn', hy, hlen, hyl, hf⟩ := DataW.trod_struct he ht'
    obtain ⟨_, hcl, hat⟩ := World.cells?_some hc
    simp only [Prod.mk.injEq] at hy
    refine ⟨ys, n', hy.1, hy.2, hyl, fun j f hj => ?_⟩
    obtain ⟨ho, hk⟩ := hone_of hone j f hj
    have hjl : j < fs.size := (Array.getElem?_eq_some_iff.1 hj).1
    have hcell := hat j hjl
    have hv : cs'[j]? = some (cs'[j]'(by omega)) := List.getElem?_eq_getElem (by omega)
    have h1 := hf j f hj
    rw [ho, hk] at h1
    have hone' : (cs'.drop j).take 1 = [cs'[j]'(by omega)] := by
      rw [List.drop_eq_getElem_cons (by omega)]
      rfl
    rw [hone'] at h1
    have hys : ys[j]? = some (ys[j]'(by omega)) := List.getElem?_eq_getElem (by omega)
    refine ⟨_, _, ?_, hys, h1.trans hys⟩
    rw [← Go.Deep.add_add, hcell, hv]
end
theorem bulk_pos {H : Type} (d : DataW H) : 1 ≤ Rows.uptoBulk d := by
  cases d <;> (try (rename_i x; cases x)) <;> simp [Rows.uptoBulk]
theorem bulkAll_mem {H : Type} : ∀ {l : List (DataW H)} {d : DataW H}, d ∈ l → Rows.uptoBulk d ≤ Rows.uptoBulkAll l
  | e :: r, d, h => by
    rw [Rows.uptoBulkAll]
    rcases List.mem_cons.1 h with rfl | h
    · omega
    · have := bulkAll_mem h
      omega
theorem bulkAll_len {H : Type} : ∀ l : List (DataW H), l.length ≤ Rows.uptoBulkAll l
  | [] => Nat.zero_le _
  | e :: r => by
    have := bulkAll_len r
    have := bulk_pos e
    rw [Rows.uptoBulkAll, List.length_cons]
    omega

def bulkK : List Tx → Nat
  | [] => 0
  | t :: r => t.length + 1 + bulkK r
theorem bulkK_lens : ∀ ts : List Tx, lens ts + ts.length = bulkK ts
  | [] => rfl
  | t :: r => by
    have := bulkK_lens r
    simp only [lens, bulkK, List.length_cons]
    omega
theorem lens_mem : ∀ (ts : List Tx) (t : Tx), t ∈ ts → t.length ≤ lens ts
  | s :: r, t, h => by
    rw [lens]
    rcases List.mem_cons.1 h with rfl | h
    · omega
    · have := lens_mem r t h
      omega
theorem list_of {α : Type} (P : Nat → α → Prop) : ∀ n, (∀ i, i < n → ∃ s, P i s) → ∃ l : List α, l.length = n ∧ ∀ j s, l[j]? = some s → P j s
  | 0, _ => ⟨[], rfl, fun j s h => by simp at h⟩
  | n + 1, h => by
    obtain ⟨l, hl, hp⟩ := list_of P n fun i hi => h i (by omega)
    obtain ⟨s, hs⟩ := h n (by omega)
    refine ⟨l ++ [s], by simp [hl], fun j u hj => ?_⟩
    rcases Nat.lt_or_ge j l.length with hlt | hge
    · rw [List.getElem?_append_left hlt] at hj
      exact hp j u hj
    · rw [List.getElem?_append_right hge] at hj
      rcases Nat.lt_or_ge (j - l.length) 1 with h1 | h1
      · have e : j - l.length = 0 := by omega
        rw [e] at hj
        injection hj with hj
        subst hj
        have e2 : j = n := by omega
        rw [e2]
        exact hs
      · rw [List.getElem?_eq_none (by simpa using h1)] at hj
        cases hj
section
variable {H : Type} {enc : TypeId × Value → H} {W : World}
theorem kin_of {n : Nat} {v : Value} {y : DataW H × List MemPlace} (h : DataW.trod enc Tryz.prog W 0 (fun _ => true) true n 77 [v] = some y) :
    ∃ (ts : List Tx) (A : Option Addr) (cap : Nat), v = .slice A ts.length cap ∧ RdK W v ts ∧ bulkK ts ≤ Rows.uptoBulk y.1 ∧ ts.length ≤ cap := by
  rcases open_strings Tryz.underlying77 Tryz.underlying9 (by kernel_rfl) h with ⟨hcs, hx⟩ | ⟨ad, len, cap, ss, hcs, _, hl, hm, hz, hx, hcell, hws⟩
  · injection hcs with e _
    subst e
    exact ⟨[], none, 0, rfl, ⟨none, 0, rfl, .inl rfl⟩, Nat.zero_le _, Nat.zero_le _⟩
  · injection hcs with e _
    subst e
    have hz' : ss.length = cap := by simpa using hz
    have hlen : ((ss.take len).map fun s => s.data.toList).length = len := by rw [List.length_map, List.length_take]; omega
    refine ⟨(ss.take len).map fun s => s.data.toList, some ad, cap, by rw [hlen], ?_, ?_, by rw [hlen]; exact hl⟩
    · refine ⟨some ad, cap, by rw [hlen], ?_⟩
      rcases Nat.eq_zero_or_pos len with h0 | hp
      · exact .inl (List.length_eq_zero_iff.1 (by omega))
      · obtain ⟨g, o, spot⟩ := ad
        have hspot : spot = none := by simpa [Addr.add] using World.cell?_spot (hcell 0 (by omega))
        subst hspot
        refine .inr ⟨g, o, rfl, fun j t hj => ?_⟩
        have hjl : j < len := by
          rcases Nat.lt_or_ge j len with h | h
          · exact h
          · rw [List.getElem?_eq_none (by omega)] at hj
            cases hj
        have hc := hcell j (by omega)
        have e1 : (⟨g, o, none⟩ : Addr).add j = ⟨g, o + j, none⟩ := by
          unfold Addr.add
          split <;> simp_all
        rw [e1] at hc
        rw [List.getElem?_map, List.getElem?_take, if_pos hjl, List.getElem?_eq_getElem (by omega)] at hj
        injection hj with hj
        subst hj
        rw [hc, List.getD_eq_getElem?_getD, List.getElem?_eq_getElem (by omega)]
        rfl
    · have hd : y.1 = .slice (ChangeShapes.strs (ss.take len)) (ChangeShapes.strs (ss.drop len)) := by
        have := congrArg Prod.fst hx
        exact this
      rw [hd]
      have hall : ∀ l : List ByteArray, bulkK (l.map fun s => s.data.toList) = Rows.uptoBulkAll (ChangeShapes.strs (H := H) l) := by
        intro l
        induction l with
        | nil => simp [bulkK, ChangeShapes.strs, Rows.uptoBulkAll]
        | cons s r ih =>
          simp only [ChangeShapes.strs, List.map_cons, bulkK, Rows.uptoBulkAll, Rows.uptoBulk] at ih ⊢
          omega
      rw [hall, Rows.uptoBulk]
      omega
/-- a number that the machine has -/
def CntP (n : Int) : Prop := -9223372036854775808 ≤ n ∧ n ≤ 9223372036854775807
theorem step_of {n : Nat} {g o : Nat} {c0 c1 c2 c3 c4 c5 : Value} {y0 y1 y2 y3 y4 y5 : DataW H × List MemPlace}
    (a0 : W.cell? ⟨g, o, none⟩ = some c0) (a1 : W.cell? ⟨g, o + 1, none⟩ = some c1) (a2 : W.cell? ⟨g, o + 2, none⟩ = some c2) (a3 : W.cell? ⟨g, o + 3, none⟩ = some c3) (a4 : W.cell? ⟨g, o + 4, none⟩ = some c4) (a5 : W.cell? ⟨g, o + 5, none⟩ = some c5)
    (h0 : DataW.trod enc Tryz.prog W 0 (fun _ => true) true n 117 [c0] = some y0) (h1 : DataW.trod enc Tryz.prog W 0 (fun _ => true) true n 4 [c1] = some y1)
    (h2 : DataW.trod enc Tryz.prog W 0 (fun _ => true) true n 64 [c2] = some y2) (h3 : DataW.trod enc Tryz.prog W 0 (fun _ => true) true n 9 [c3] = some y3)
    (h4 : DataW.trod enc Tryz.prog W 0 (fun _ => true) true n 3 [c4] = some y4) (h5 : DataW.trod enc Tryz.prog W 0 (fun _ => true) true n 77 [c5] = some y5)
    (hb : Rows.uptoBulk y3.1 + Rows.uptoBulk y5.1 ≤ 1048576) :
    ∃ s : Stp, (∃ K q, CellS W g o s K q) ∧ s.Fine ∧ CntP s.count := by
  obtain ⟨n0, e0, _, _⟩ := DataW.trod_int Tryz.underlying117 h0
  obtain ⟨b1, e1, _⟩ := DataW.trod_bool Tryz.underlying4 h1
  obtain ⟨n2, e2, _, hw2⟩ := DataW.trod_int Tryz.underlying64 h2
  obtain ⟨s3, e3, y3e, _⟩ := DataW.trod_string Tryz.underlying9 h3
  obtain ⟨n4, e4, _, hw4⟩ := DataW.trod_int Tryz.underlying3 h4
  obtain ⟨t5, A5, k5, e5, r5, b5, l5⟩ := kin_of h5
  injection e0 with e0 _
  injection e1 with e1 _
  injection e2 with e2 _
  injection e3 with e3 _
  injection e4 with e4 _
  subst e0 e1 e2 e3 e4 e5 y3e
  simp only [Rows.uptoBulk] at hb
  have hr : 0 ≤ n2 ∧ n2 ≤ 18446744073709551615 := by
    have h := hw2
    simp [Lit.wf, IntKind.min, IntKind.max, IntKind.signed, IntKind.bits] at h
    omega
  have hc4 : CntP n4 := by
    have h := hw4
    simp [Lit.wf, IntKind.min, IntKind.max, IntKind.signed, IntKind.bits] at h
    unfold CntP
    omega
  have hk := bulkK_lens t5
  have hcast : ((n2.toNat : Nat) : Int) = n2 := by omega
  refine ⟨⟨n0, b1, n2.toNat, s3.data.toList, n4, t5⟩, ⟨A5, k5, ⟨a0, a1, by rw [hcast]; exact a2, a3, a4, a5, r5, l5⟩⟩, ⟨by show n2.toNat < _; omega, by show s3.data.toList.length ≤ _; omega, fun k hk2 => ?_, by show lens t5 ≤ _; omega, by show t5.length ≤ _; omega⟩, hc4⟩
  have := lens_mem t5 k hk2
  omega
set_option maxRecDepth 100000 in
theorem open_stepsC {A : Option Addr} {len cap : Nat} {d : DataW H} {ps : List MemPlace} (h : DataW.Trod enc Tryz.prog W 0 (fun _ => true) true 22 (.slice A len cap) d ps) (hb : Rows.uptoBulk d ≤ 1048576) :
    ∃ ss : List Stp, ss.length = len ∧ RdS W (.slice A len cap) ss ∧ (∀ s ∈ ss, s.Fine) ∧ ss.length ≤ 1048576 ∧ ∀ s ∈ ss, CntP s.count := by
  obtain ⟨fuel, hf⟩ := h
  rcases open_slice_fields Tryz.underlying22 Tryz.underlying119 (by kernel_rfl) (by kernel_rfl) hf with ⟨hcs, hx⟩ | ⟨ad, len', cap', m, D, Pl, hcs, _, hl, hm, hmm, hx, hi⟩
  · simp [Value.cells] at hcs
    obtain ⟨rfl, rfl, rfl⟩ := hcs
    exact ⟨[], rfl, ⟨none, 0, rfl, .inl rfl⟩, fun s hs => by simp at hs, Nat.zero_le _, fun s hs => by simp at hs⟩
  · simp [Value.cells] at hcs
    obtain ⟨rfl, rfl, rfl⟩ := hcs
    have hm' : m = cap := by simpa using hmm
    have hd : d = _ := congrArg Prod.fst hx
    subst hd
    simp only [Rows.uptoBulk] at hb
    have hlen : len ≤ 1048576 := by
      have := bulkAll_len ((List.range len).map D)
      simp only [List.length_map, List.length_range] at this
      omega
    rcases Nat.eq_zero_or_pos len with h0 | hp
    · subst h0
      exact ⟨[], rfl, ⟨some ad, cap, rfl, .inl rfl⟩, fun s hs => by simp at hs, Nat.zero_le _, fun s hs => by simp at hs⟩
    obtain ⟨_, _, _, _, _, hff0⟩ := hi 0 (by omega)
    obtain ⟨_, _, a00, _, _⟩ := hff0 0 _ rfl
    obtain ⟨g, o, spot⟩ := ad
    have hspot : spot = none := by simpa [Addr.add] using World.cell?_spot a00
    subst hspot
    have e1 : ∀ i, (⟨g, o, none⟩ : Addr).add i = ⟨g, o + i, none⟩ := fun i => by
      unfold Addr.add
      split <;> simp_all
    have hj : ∀ j, j < len → ∃ s : Stp, (∃ K q, CellS W g (o + j * 6) s K q) ∧ s.Fine ∧ CntP s.count := by
      intro j hjl
      obtain ⟨ys, n, hD, _, hyl, hff⟩ := hi j (by omega)
      have hbj : Rows.uptoBulk (D j) ≤ 1048576 := by
        have : Rows.uptoBulk (D j) ≤ Rows.uptoBulkAll ((List.range len).map D) := bulkAll_mem (List.mem_map.2 ⟨j, List.mem_range.2 hjl, rfl⟩)
        omega
      rw [hD] at hbj
      match ys, hyl with
      | [y0, y1, y2, y3, y4, y5], _ =>
        obtain ⟨c0, _, a0, b0, t0⟩ := hff 0 _ rfl
        obtain ⟨c1, _, a1, b1, t1⟩ := hff 1 _ rfl
        obtain ⟨c2, _, a2, b2, t2⟩ := hff 2 _ rfl
        obtain ⟨c3, _, a3, b3, t3⟩ := hff 3 _ rfl
        obtain ⟨c4, _, a4, b4, t4⟩ := hff 4 _ rfl
        obtain ⟨c5, _, a5, b5, t5⟩ := hff 5 _ rfl
        injection b0 with b0; injection b1 with b1; injection b2 with b2; injection b3 with b3; injection b4 with b4; injection b5 with b5
        subst b0 b1 b2 b3 b4 b5
        simp only [List.map_cons, List.map_nil, Rows.uptoBulk, Rows.uptoBulkAll] at hbj
        rw [e1] at a0 a1 a2 a3 a4 a5
        exact step_of (o := o + j * 6) a0 a1 a2 a3 a4 a5 t0 t1 t2 t3 t4 t5 (by omega)
    obtain ⟨ss, hsl, hss⟩ := list_of (fun j s => (∃ K q, CellS W g (o + j * 6) s K q) ∧ s.Fine ∧ CntP s.count) len hj
    refine ⟨ss, hsl, ⟨some ⟨g, o, none⟩, cap, by rw [hsl], .inr ⟨g, o, rfl, fun j s h => (hss j s h).1⟩⟩, fun s hs => ?_, by omega, fun s hs => ?_⟩
    · obtain ⟨j, hjl, rfl⟩ := List.getElem_of_mem hs
      exact (hss j _ (List.getElem?_eq_getElem hjl)).2.1
    · obtain ⟨j, hjl, rfl⟩ := List.getElem_of_mem hs
      exact (hss j _ (List.getElem?_eq_getElem hjl)).2.2
theorem open_steps {A : Option Addr} {len cap : Nat} {d : DataW H} {ps : List MemPlace} (h : DataW.Trod enc Tryz.prog W 0 (fun _ => true) true 22 (.slice A len cap) d ps) (hb : Rows.uptoBulk d ≤ 1048576) :
    ∃ ss : List Stp, ss.length = len ∧ RdS W (.slice A len cap) ss ∧ (∀ s ∈ ss, s.Fine) ∧ ss.length ≤ 1048576 := by
  obtain ⟨ss, h1, h2, h3, h4, _⟩ := open_stepsC h hb
  exact ⟨ss, h1, h2, h3, h4⟩
end
end Nd
end Go.Proofs.YtbajkglacfheiaaGreatDoor

