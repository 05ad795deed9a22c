/-
  What claims and rules that came in read as.
-/
import Derived.Test.YtbcckpnngonoeaaGreatDoorNuO
import Derived.Test.YtbcckpnngonoeaaGreatDoorCvW
import Derived.Deep.Slices
import Derived.Deep.Fields
import Derived.ChangeSame
import Derived.SliceStrings
import Derived.ProofKit
namespace Go.Proofs.YtbcckpnngonoeaaGreatDoor
open Go.ChangeShapes Go.WideShapes Go.RowKit Go.Deep Mem Tok Cl
set_option linter.unusedVariables false

/-- a slice of texts that came in -/
theorem open_texts {H : Type} {enc : TypeId × Value → H} {W : World} {a : Option Addr} {len cap : Nat} {d : DataW H} {ps : List MemPlace}
    (h : DataW.Trod enc Tryz.prog W 0 (fun _ => true) true 22 (.slice a len cap) d ps) :
    ∃ ts : List (List UInt8), ts.length = len ∧ Rd W (.slice a ts.length cap) ts ∧ (a = none → ts.length = 0 ∧ cap = 0) ∧ bulkS ts ≤ Rows.uptoBulk d := by
  obtain ⟨fuel, hf⟩ := h
  rcases open_strings Tryz.underlying22 Tryz.underlying9 (by kernel_rfl) hf with ⟨hcs, hx⟩ | ⟨ad, len', cap', ss, hcs, _, hl, hm, hz, hx, hcell, hws⟩
  · simp [Value.cells] at hcs
    obtain ⟨rfl, rfl, rfl⟩ := hcs
    exact ⟨[], rfl, ⟨none, 0, rfl, fun j hj => by cases hj⟩, fun _ => ⟨rfl, rfl⟩, Nat.zero_le _⟩
  · simp [Value.cells] at hcs
    obtain ⟨rfl, rfl, rfl⟩ := hcs
    have hz' : ss.length = cap := by simpa using hz
    have hlen : ((ss.take len).map fun s => s.data.toList).length = len := by rw [List.length_map, List.length_take]; omega
    refine ⟨(ss.take len).map fun s => s.data.toList, hlen, ?_, (fun h => by cases h), ?_⟩
    · rw [hlen]
      refine ⟨some ad, cap, by rw [hlen], fun j hj => ?_⟩
      have hjl : j < len := by omega
      have hc := hcell j (by omega)
      obtain ⟨g, o, spot⟩ := ad
      have hspot : spot = none := by simpa [Addr.add] using World.cell?_spot (hcell 0 (by omega))
      subst hspot
      have e1 : (⟨g, o, none⟩ : Addr).add j = ⟨g, o + j, none⟩ := by
        unfold Addr.add
        split <;> simp_all
      rw [e1] at hc
      refine ⟨g, o, rfl, World.block_lt_of_cell? W _ hc, ?_⟩
      rw [hc, List.getD_eq_getElem?_getD, List.getElem?_eq_getElem (by omega), List.getElem_map, List.getElem_take]
      rfl
    · have hd : d = .slice (ChangeShapes.strs (ss.take len)) (ChangeShapes.strs (ss.drop len)) := by
        have := congrArg Prod.fst hx
        exact this
      subst hd
      have hall : ∀ l : List ByteArray, bulkS (l.map fun s => s.data.toList) = Rows.uptoBulkAll (ChangeShapes.strs (H := H) l) := by
        intro l
        induction l with
        | nil => simp [bulkS, ChangeShapes.strs, Rows.uptoBulkAll]
        | cons s r ih =>
          simp only [ChangeShapes.strs, List.map_cons, bulkS, Rows.uptoBulkAll, Rows.uptoBulk] at ih ⊢
          omega
      rw [hall, Rows.uptoBulk]
      omega


section
variable {H : Type} {enc : TypeId × Value → H} {P : Program} {w : World} {base : Nat} {spare : Nat → Bool} {held : Bool}
theorem open_slice_fields {t e : TypeId} {fs : Array Field} {fuel : Nat} {cs : List Value} {x : DataW H × List MemPlace} (ht : P.underlying t = some (.slice e)) (he : P.underlying e = some (.struct fs))
    (hone : oneCellFields P fs = true) (hC : P.cellsOf e = fs.size) (h : DataW.trod enc P w base spare held fuel t cs = some x) :
    (cs = [.slice none 0 0] ∧ x = (.nil, [])) ∨
    ∃ (a : Addr) (len cap m : Nat) (D : Nat → DataW H) (Pl : Nat → List MemPlace), cs = [.slice (some a) len cap] ∧ base ≤ a.block ∧ len ≤ cap ∧ cap ≤ maxLen ∧ m = (if spare a.block then cap else len) ∧
      x = (.slice ((List.range len).map D) ((List.range (m - len)).map fun j => D (len + j)), MemPlace.row a (m * fs.size) ++ (List.range m).flatMap Pl) ∧
      ∀ i, i < m → ∃ (ys : List (DataW H × List MemPlace)) (n : Nat), D i = .agg (ys.map (·.1)) ∧ Pl i = ys.flatMap (·.2) ∧ ys.length = fs.size ∧
        ∀ (j : Nat) (f : Field), fs[j]? = some f → ∃ (v : Value) (y : DataW H × List MemPlace), w.cell? (a.add (i * fs.size + j)) = some v ∧ ys[j]? = some y ∧ DataW.trod enc P w base spare held n f.type [v] = some y := by
  rcases open_slice ht h with h0 | ⟨a, len, cap, m, n, D, Pl, hcs, hb, hl, hm, hmm, hx, hi⟩
  · exact .inl h0
  · refine .inr ⟨a, len, cap, m, D, Pl, hcs, hb, hl, hm, hmm, by rw [hC] at hx; exact hx, fun i him => ?_⟩
    obtain ⟨cs', hc, ht'⟩ := hi i him
    rw [hC] at hc
    obtain ⟨ys, n', hn', hy, hlen, hyl, hf⟩ := DataW.trod_struct he ht'
    obtain ⟨_, hcl, hat⟩ := World.cells?_some hc
    simp only [Prod.mk.injEq] at hy
    refine ⟨ys, n', hy.1, hy.2, hyl, fun j f hj => ?_⟩
    obtain ⟨ho, hk⟩ := hone_of hone j f hj
    have hjl : j < fs.size := (Array.getElem?_eq_some_iff.1 hj).1
    have hcell := hat j hjl
    have hv : cs'[j]? = some (cs'[j]'(by omega)) := List.getElem?_eq_getElem (by omega)
    have h1 := hf j f hj
    rw [ho, hk] at h1
    have hone' : (cs'.drop j).take 1 = [cs'[j]'(by omega)] := by
      rw [List.drop_eq_getElem_cons (by omega)]
      rfl
    rw [hone'] at h1
    have hys : ys[j]? = some (ys[j]'(by omega)) := List.getElem?_eq_getElem (by omega)
    refine ⟨_, _, ?_, hys, h1.trans hys⟩
    rw [← Go.Deep.add_add, hcell, hv]
/-- a struct of one-cell fields, by value -/
theorem open_agg_any {r : Reach} {b0 : Nat} {t : TypeId} {fs : Array Field} {v : Value} {d : DataW H} {p : List MemPlace} (hs : P.underlying t = some (.struct fs)) (hone : oneCellFields P fs = true) (hC : P.cellsOf t = fs.size)
    (hv : Value.okWide P w r b0 t v) (h : DataW.Trod enc P w base spare held t v d p) :
    ∃ (cs : List Value) (ys : List (DataW H × List MemPlace)) (n : Nat), v = .agg cs.toArray ∧ cs.length = fs.size ∧ d = .agg (ys.map (·.1)) ∧ ys.length = fs.size ∧
      ∀ (j : Nat) (f : Field), fs[j]? = some f → ∃ (c : Value) (y : DataW H × List MemPlace), cs[j]? = some c ∧ ys[j]? = some y ∧ DataW.trod enc P w base spare held n f.type [c] = some y := by
  obtain ⟨cs, rfl, hsz⟩ := okWide_struct hs hv
  obtain ⟨l⟩ := cs
  obtain ⟨fuel, hf⟩ := h
  obtain ⟨xs, n, _, hx, hln, hlen, hg⟩ := DataW.trod_struct hs hf
  have hll : l.length = fs.size := by simpa [hC] using hsz
  simp only [Prod.mk.injEq] at hx
  refine ⟨l, xs, n, rfl, hll, hx.1, hlen, fun j f hj => ?_⟩
  obtain ⟨ho, hk⟩ := hone_of hone j f hj
  have hjl : j < fs.size := (Array.getElem?_eq_some_iff.1 hj).1
  have h1 := hg j f hj
  rw [ho, hk] at h1
  have hcl : (Value.agg ⟨l⟩).cells.toList = l := rfl
  rw [hcl, List.drop_eq_getElem_cons (by omega)] at h1
  have hys : xs[j]? = some (xs[j]'(by omega)) := List.getElem?_eq_getElem (by omega)
  exact ⟨_, _, List.getElem?_eq_getElem (by omega), hys, h1.trans hys⟩
end
theorem bulkS_len : ∀ ts : List Txt, ts.length ≤ bulkS ts
  | [] => Nat.zero_le _
  | t :: r => by
    have := bulkS_len r
    rw [bulkS, List.length_cons]
    omega
theorem bulkS_mem : ∀ {ts : List Txt} {t : Txt}, t ∈ ts → t.length ≤ bulkS ts
  | s :: r, t, h => by
    rw [bulkS]
    rcases List.mem_cons.1 h with rfl | h
    · omega
    · have := bulkS_mem h
      omega
theorem bulk_pos {H : Type} (d : DataW H) : 1 ≤ Rows.uptoBulk d := by
  cases d <;> (try (rename_i x; cases x)) <;> simp [Rows.uptoBulk]
theorem bulkAll_mem {H : Type} : ∀ {l : List (DataW H)} {d : DataW H}, d ∈ l → Rows.uptoBulk d ≤ Rows.uptoBulkAll l
  | e :: r, d, h => by
    rw [Rows.uptoBulkAll]
    rcases List.mem_cons.1 h with rfl | h
    · omega
    · have := bulkAll_mem h
      omega
theorem bulkAll_len {H : Type} : ∀ l : List (DataW H), l.length ≤ Rows.uptoBulkAll l
  | [] => Nat.zero_le _
  | e :: r => by
    have := bulkAll_len r
    have := bulk_pos e
    rw [Rows.uptoBulkAll, List.length_cons]
    omega
theorem str_eta (s : ByteArray) : Value.string s = .string ⟨s.data.toList.toArray⟩ := rfl
section
variable {H : Type} {enc : TypeId × Value → H} {W : World}
theorem texts_of {n : Nat} {v : Value} {y : DataW H × List MemPlace} (h : DataW.trod enc Tryz.prog W 0 (fun _ => true) true n 22 [v] = some y) :
    ∃ (ts : List Txt) (A : Option Addr) (cap : Nat), v = .slice A ts.length cap ∧ Rd W v ts ∧ bulkS ts ≤ Rows.uptoBulk y.1 ∧ ts.length ≤ cap ∧ cap ≤ 9223372036854775807 := by
  have hT : ∀ A len cap, v = .slice A len cap → DataW.Trod enc Tryz.prog W 0 (fun _ => true) true 22 v y.1 y.2 := fun A len cap e => ⟨n, by subst e; exact h⟩
  rcases open_strings Tryz.underlying22 Tryz.underlying9 (by kernel_rfl) h with ⟨hcs, hx⟩ | ⟨ad, len', cap', ss, hcs, _, hl, hm, hz, hx, hcell, hws⟩
  · injection hcs with e _
    subst e
    obtain ⟨ts, e1, hr, _, hb⟩ := open_texts (hT _ _ _ rfl)
    exact ⟨ts, none, 0, by rw [e1], by rw [e1] at hr; exact hr, hb, by omega, by omega⟩
  · injection hcs with e _
    subst e
    obtain ⟨ts, e1, hr, _, hb⟩ := open_texts (hT _ _ _ rfl)
    unfold maxLen at hm
    exact ⟨ts, some ad, cap', by rw [e1], by rw [e1] at hr; exact hr, hb, by omega, by omega⟩
/-- claims of no great size -/
structure SzQ (c : C) : Prop where
  about : c.about.length ≤ 1048576
  by_ : c.by_.length ≤ 1048576
  id_ : c.id_.length ≤ 1048576
  for_ : ∀ t ∈ c.for_, t.length ≤ 1048576
  may_ : ∀ t ∈ c.may_, t.length ≤ 1048576
  nhas : c.has.length ≤ 1048576
  nfor : c.for_.length ≤ 1048576
  nmay : c.may_.length ≤ 1048576
theorem claims_of {n : Nat} {c0 c1 c2 c3 c4 c5 c6 c7 c8 : Value} {y0 y1 y2 y3 y4 y5 y6 y7 y8 : DataW H × List MemPlace}
    (h0 : DataW.trod enc Tryz.prog W 0 (fun _ => true) true n 22 [c0] = some y0) (h1 : DataW.trod enc Tryz.prog W 0 (fun _ => true) true n 9 [c1] = some y1)
    (h2 : DataW.trod enc Tryz.prog W 0 (fun _ => true) true n 2 [c2] = some y2) (h3 : DataW.trod enc Tryz.prog W 0 (fun _ => true) true n 9 [c3] = some y3)
    (h4 : DataW.trod enc Tryz.prog W 0 (fun _ => true) true n 22 [c4] = some y4) (h5 : DataW.trod enc Tryz.prog W 0 (fun _ => true) true n 2 [c5] = some y5)
    (h6 : DataW.trod enc Tryz.prog W 0 (fun _ => true) true n 9 [c6] = some y6) (h7 : DataW.trod enc Tryz.prog W 0 (fun _ => true) true n 22 [c7] = some y7)
    (h8 : DataW.trod enc Tryz.prog W 0 (fun _ => true) true n 2 [c8] = some y8)
    (hb : Rows.uptoBulk y0.1 + Rows.uptoBulk y1.1 + Rows.uptoBulk y3.1 + Rows.uptoBulk y4.1 + Rows.uptoBulk y6.1 + Rows.uptoBulk y7.1 ≤ 1048576) :
    ∃ c : C, c1 = .string ⟨c.about.toArray⟩ ∧ c2 = .int .i64 c.at_ ∧ c3 = .string ⟨c.by_.toArray⟩ ∧ c5 = .int .i64 c.from_ ∧ c6 = .string ⟨c.id_.toArray⟩ ∧ c8 = .int .i64 c.until_ ∧ SzQ c ∧ ClAt W c c0 c4 c7 := by
  obtain ⟨t0, A0, k0, e0, r0, b0, l0, m0⟩ := texts_of h0
  obtain ⟨t4, A4, k4, e4, r4, b4, l4, m4⟩ := texts_of h4
  obtain ⟨t7, A7, k7, e7, r7, b7, l7, m7⟩ := texts_of h7
  obtain ⟨s1, e1, y1e, _⟩ := DataW.trod_string Tryz.underlying9 h1
  obtain ⟨s3, e3, y3e, _⟩ := DataW.trod_string Tryz.underlying9 h3
  obtain ⟨s6, e6, y6e, _⟩ := DataW.trod_string Tryz.underlying9 h6
  obtain ⟨n2, e2, _, _⟩ := DataW.trod_int Tryz.underlying2 h2
  obtain ⟨n5, e5, _, _⟩ := DataW.trod_int Tryz.underlying2 h5
  obtain ⟨n8, e8, _, _⟩ := DataW.trod_int Tryz.underlying2 h8
  injection e1 with e1 _
  injection e2 with e2 _
  injection e3 with e3 _
  injection e5 with e5 _
  injection e6 with e6 _
  injection e8 with e8 _
  subst y1e; subst y3e; subst y6e
  simp only [Rows.uptoBulk] at hb
  have q0 := bulkS_len t0
  have q4 := bulkS_len t4
  have q7 := bulkS_len t7
  refine ⟨⟨t0, s1.data.toList, n2, s3.data.toList, t4, n5, s6.data.toList, t7, n8⟩, e1, e2, e3, e5, e6, e8, ⟨(by show s1.data.toList.length ≤ _; omega), (by show s3.data.toList.length ≤ _; omega), (by show s6.data.toList.length ≤ _; omega), (fun t ht => by have := bulkS_mem (ts := t4) ht; omega), (fun t ht => by have := bulkS_mem (ts := t7) ht; omega), (by show t0.length ≤ _; omega), (by show t4.length ≤ _; omega), (by show t7.length ≤ _; omega)⟩, r0, r4, r7, (by show t0.length ≤ _; omega), (by show t4.length ≤ _; omega), (by show t7.length ≤ _; omega),
    (by show s1.data.toList.length ≤ _; omega), (by show s3.data.toList.length ≤ _; omega), (by show s6.data.toList.length ≤ _; omega), (fun t ht => ?_), (fun t ht => ?_), (fun A n e => ?_), (fun A n e => ?_)⟩
  · have := bulkS_mem (ts := t4) ht
    omega
  · have := bulkS_mem (ts := t7) ht
    omega
  · rw [e4] at e
    injection e with _ _ e
    subst e
    exact ⟨l4, m4⟩
  · rw [e7] at e
    injection e with _ _ e
    subst e
    exact ⟨l7, m7⟩
theorem rules_of {n : Nat} {c0 c1 c2 c3 c4 c5 : Value} {y0 y1 y2 y3 y4 y5 : DataW H × List MemPlace}
    (h0 : DataW.trod enc Tryz.prog W 0 (fun _ => true) true n 2 [c0] = some y0) (h1 : DataW.trod enc Tryz.prog W 0 (fun _ => true) true n 2 [c1] = some y1)
    (h2 : DataW.trod enc Tryz.prog W 0 (fun _ => true) true n 9 [c2] = some y2) (h3 : DataW.trod enc Tryz.prog W 0 (fun _ => true) true n 22 [c3] = some y3)
    (h4 : DataW.trod enc Tryz.prog W 0 (fun _ => true) true n 22 [c4] = some y4) (h5 : DataW.trod enc Tryz.prog W 0 (fun _ => true) true n 22 [c5] = some y5)
    (hb : Rows.uptoBulk y3.1 + Rows.uptoBulk y4.1 + Rows.uptoBulk y5.1 ≤ 1048576) :
    ∃ r : R, c0 = .int .i64 r.now ∧ c1 = .int .i64 r.slack ∧ c2 = .string ⟨r.who.toArray⟩ ∧ RuAt W r c3 c4 c5 := by
  obtain ⟨t3, A3, k3, e3, r3, b3, l3, m3⟩ := texts_of h3
  obtain ⟨t4, A4, k4, e4, r4, b4, l4, m4⟩ := texts_of h4
  obtain ⟨t5, A5, k5, e5, r5, b5, l5, m5⟩ := texts_of h5
  obtain ⟨n0, e0, _, _⟩ := DataW.trod_int Tryz.underlying2 h0
  obtain ⟨n1, e1, _, _⟩ := DataW.trod_int Tryz.underlying2 h1
  obtain ⟨s2, e2, _, _⟩ := DataW.trod_string Tryz.underlying9 h2
  injection e0 with e0 _
  injection e1 with e1 _
  injection e2 with e2 _
  have q3 := bulkS_len t3
  have q4 := bulkS_len t4
  have q5 := bulkS_len t5
  exact ⟨⟨n0, n1, s2.data.toList, t3, t4, t5⟩, e0, e1, e2, r3, r4, r5, (by show t3.length ≤ _; omega), (by show t4.length ≤ _; omega), (by show t5.length ≤ _; omega)⟩
set_option maxRecDepth 100000 in
theorem open_claims {b0 : Nat} {r : Reach} {v : Value} {d : DataW H} {p : List MemPlace} (hv : Value.okWide Tryz.prog W r b0 24 v) (h : DataW.Trod enc Tryz.prog W 0 (fun _ => true) true 24 v d p) (hb : Rows.uptoBulk d ≤ 1048576) :
    ∃ c v1 v2 v3, v = clV c v1 v2 v3 ∧ ClAt W c v1 v2 v3 ∧ SzQ c := by
  obtain ⟨cs, ys, n, rfl, hcl, rfl, hyl, hf⟩ := open_agg_any Tryz.underlying24 (by kernel_rfl) (by kernel_rfl) hv h
  match cs, hcl, ys, hyl with
  | [c0, c1, c2, c3, c4, c5, c6, c7, c8], _, [y0, y1, y2, y3, y4, y5, y6, y7, y8], _ =>
    have g := fun j f hj => (hf j f hj)
    obtain ⟨_, _, a0, b0, t0⟩ := hf 0 _ rfl
    obtain ⟨_, _, a1, b1, t1⟩ := hf 1 _ rfl
    obtain ⟨_, _, a2, b2, t2⟩ := hf 2 _ rfl
    obtain ⟨_, _, a3, b3, t3⟩ := hf 3 _ rfl
    obtain ⟨_, _, a4, b4, t4⟩ := hf 4 _ rfl
    obtain ⟨_, _, a5, b5, t5⟩ := hf 5 _ rfl
    obtain ⟨_, _, a6, b6, t6⟩ := hf 6 _ rfl
    obtain ⟨_, _, a7, b7, t7⟩ := hf 7 _ rfl
    obtain ⟨_, _, a8, b8, t8⟩ := hf 8 _ rfl
    injection a0 with a0; injection a1 with a1; injection a2 with a2; injection a3 with a3; injection a4 with a4; injection a5 with a5; injection a6 with a6; injection a7 with a7; injection a8 with a8
    injection b0 with b0; injection b1 with b1; injection b2 with b2; injection b3 with b3; injection b4 with b4; injection b5 with b5; injection b6 with b6; injection b7 with b7; injection b8 with b8
    subst a0 a1 a2 a3 a4 a5 a6 a7 a8 b0 b1 b2 b3 b4 b5 b6 b7 b8
    simp only [List.map_cons, List.map_nil, Rows.uptoBulk, Rows.uptoBulkAll] at hb
    obtain ⟨c, rfl, rfl, rfl, rfl, rfl, rfl, hq, hc⟩ := claims_of t0 t1 t2 t3 t4 t5 t6 t7 t8 (by omega)
    exact ⟨c, _, _, _, rfl, hc, hq⟩
set_option maxRecDepth 100000 in
theorem open_rules {b0 : Nat} {r : Reach} {v : Value} {d : DataW H} {p : List MemPlace} (hv : Value.okWide Tryz.prog W r b0 27 v) (h : DataW.Trod enc Tryz.prog W 0 (fun _ => true) true 27 v d p) (hb : Rows.uptoBulk d ≤ 1048576) :
    ∃ r u1 u2 u3, v = .agg (ruCells r u1 u2 u3) ∧ RuAt W r u1 u2 u3 := by
  obtain ⟨cs, ys, n, rfl, hcl, rfl, hyl, hf⟩ := open_agg_any Tryz.underlying27 (by kernel_rfl) (by kernel_rfl) hv h
  match cs, hcl, ys, hyl with
  | [c0, c1, c2, c3, c4, c5], _, [y0, y1, y2, y3, y4, y5], _ =>
    obtain ⟨_, _, a0, b0, t0⟩ := hf 0 _ rfl
    obtain ⟨_, _, a1, b1, t1⟩ := hf 1 _ rfl
    obtain ⟨_, _, a2, b2, t2⟩ := hf 2 _ rfl
    obtain ⟨_, _, a3, b3, t3⟩ := hf 3 _ rfl
    obtain ⟨_, _, a4, b4, t4⟩ := hf 4 _ rfl
    obtain ⟨_, _, a5, b5, t5⟩ := hf 5 _ rfl
    injection a0 with a0; injection a1 with a1; injection a2 with a2; injection a3 with a3; injection a4 with a4; injection a5 with a5
    injection b0 with b0; injection b1 with b1; injection b2 with b2; injection b3 with b3; injection b4 with b4; injection b5 with b5
    subst a0 a1 a2 a3 a4 a5 b0 b1 b2 b3 b4 b5
    simp only [List.map_cons, List.map_nil, Rows.uptoBulk, Rows.uptoBulkAll] at hb
    obtain ⟨r, rfl, rfl, rfl, hr⟩ := rules_of t0 t1 t2 t3 t4 t5 (by omega)
    exact ⟨r, _, _, _, rfl, hr⟩
end
end Go.Proofs.YtbcckpnngonoeaaGreatDoor

