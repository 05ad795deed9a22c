/-
  What claims and rules that came in read as.
  Walks of package node: what a Ref answers: items, keys, Key, Text, Size, All. Walks of package node: the slice of a Ref's items, named.
  Walks of package node: a Ref's Sort and Len. Two trees alike, in plain terms; slices.Equal of two rows of keys. Walks of package node: a Ref's Same.
-/
import Derived.Test.YtobaldkipnhlpaaGreatDoorS8
import Derived.Test.YtobaldkipnhlpaaGreatDoorS14
import Derived.Test.YtobaldkipnhlpaaGreatDoorS2
import Derived.Test.YtobaldkipnhlpaaGreatDoorS6
import Derived.Deep.Slices
import Derived.Deep.Fields
import Derived.ChangeSame
import Derived.SliceStrings
import Derived.ProofKit
import Derived.BigQuiet
import Derived.Deep.RegionHeldLaw
set_option linter.unusedVariables false
set_option linter.unusedSimpArgs false
set_option maxRecDepth 100000
set_option maxHeartbeats 16000000
namespace Go.Proofs.YtobaldkipnhlpaaGreatDoor
open Go.ChangeShapes Go.WideShapes Go.RowKit Go.Deep Mem Tok Cl

theorem open_texts {H : Type} {enc : TypeId × Value → H} {W : World} {a : Option Addr} {len cap : Nat} {d : DataW H} {ps : List MemPlace}
  (h : DataW.Trod enc Tryz.prog W 0 (fun _ => true) true 23 (.slice a len cap) d ps) :
  ∃ ts : List (List UInt8), ts.length = len ∧ Rd W (.slice a ts.length cap) ts ∧ (a = none → ts.length = 0 ∧ cap = 0) ∧ bulkS ts ≤ Rows.uptoBulk d := by
 obtain ⟨fuel, hf⟩ := h
 rcases open_strings Tryz.underlying23 Tryz.underlying9 (by kernel_rfl) hf with ⟨hcs, hx⟩ | ⟨ad, len', cap', ss, hcs, _, hl, hm, hz, hx, hcell, hws⟩
 ·simp [Value.cells] at hcs
  obtain ⟨rfl, rfl, rfl⟩ := hcs
  exact ⟨[], rfl, ⟨none, 0, rfl, fun j hj => by cases hj⟩, fun _ => ⟨rfl, rfl⟩, Nat.zero_le _⟩
 ·simp [Value.cells] at hcs
  obtain ⟨rfl, rfl, rfl⟩ := hcs
  have hz' : ss.length = cap := by simpa using hz
  have hlen : ((ss.take len).map fun s => s.data.toList).length = len := by rw [List.length_map, List.length_take]; omega
  refine ⟨(ss.take len).map fun s => s.data.toList, hlen, ?_, (fun h => by cases h), ?_⟩
  ·rw [hlen]
   refine ⟨some ad, cap, by rw [hlen], fun j hj => ?_⟩
   have hjl : j < len := by omega
   have hc := hcell j (by omega)
   obtain ⟨g, o, spot⟩ := ad
   have hspot : spot = none := by simpa [Addr.add] using World.cell?_spot (hcell 0 (by omega))
   subst hspot
   have e1 : (⟨g, o, none⟩ : Addr).add j = ⟨g, o + j, none⟩ := by
    unfold Addr.add
    split <;> simp_all
   rw [e1] at hc
   refine ⟨g, o, rfl, World.block_lt_of_cell? W _ hc, ?_⟩
   rw [hc, List.getD_eq_getElem?_getD, List.getElem?_eq_getElem (by omega), List.getElem_map, List.getElem_take]
   rfl
  ·have hd : d = .slice (ChangeShapes.strs (ss.take len)) (ChangeShapes.strs (ss.drop len)) := by
    have := congrArg Prod.fst hx
    exact this
   subst hd
   have hall : ∀ l : List ByteArray, bulkS (l.map fun s => s.data.toList) = Rows.uptoBulkAll (ChangeShapes.strs (H := H) l) := by
    intro l
    induction l with
    | nil => simp [bulkS, ChangeShapes.strs, Rows.uptoBulkAll]
    | cons s r ih =>
     simp only [ChangeShapes.strs, List.map_cons, bulkS, Rows.uptoBulkAll, Rows.uptoBulk] at ih ⊢
     omega
   rw [hall, Rows.uptoBulk]
   omega

section
variable {H : Type} {enc : TypeId × Value → H} {P : Program} {w : World} {base : Nat} {spare : Nat → Bool} {held : Bool}
theorem open_agg_any {r : Reach} {b0 : Nat} {t : TypeId} {fs : Array Field} {v : Value} {d : DataW H} {p : List MemPlace} (hs : P.underlying t = some (.struct fs)) (hone : oneCellFields P fs = true) (hC : P.cellsOf t = fs.size)
  (hv : Value.okWide P w r b0 t v) (h : DataW.Trod enc P w base spare held t v d p) :
  ∃ (cs : List Value) (ys : List (DataW H × List MemPlace)) (n : Nat), v = .agg cs.toArray ∧ cs.length = fs.size ∧ d = .agg (ys.map (·.1)) ∧ ys.length = fs.size ∧
   ∀ (j : Nat) (f : Field), fs[j]? = some f → ∃ (c : Value) (y : DataW H × List MemPlace), cs[j]? = some c ∧ ys[j]? = some y ∧ DataW.trod enc P w base spare held n f.type [c] = some y := by
 obtain ⟨cs, rfl, hsz⟩ := okWide_struct hs hv
 obtain ⟨l⟩ := cs
 obtain ⟨fuel, hf⟩ := h
 obtain ⟨xs, n, _, hx, hln, hlen, hg⟩ := DataW.trod_struct hs hf
 have hll : l.length = fs.size := by simpa [hC] using hsz
 simp only [Prod.mk.injEq] at hx
 refine ⟨l, xs, n, rfl, hll, hx.1, hlen, fun j f hj => ?_⟩
 obtain ⟨ho, hk⟩ := hone_of hone j f hj
 have hjl : j < fs.size := (Array.getElem?_eq_some_iff.1 hj).1
 have h1 := hg j f hj
 rw [ho, hk] at h1
 have hcl : (Value.agg ⟨l⟩).cells.toList = l := rfl
 rw [hcl, List.drop_eq_getElem_cons (by omega)] at h1
 have hys : xs[j]? = some (xs[j]'(by omega)) := List.getElem?_eq_getElem (by omega)
 exact ⟨_, _, List.getElem?_eq_getElem (by omega), hys, h1.trans hys⟩
end
theorem bulkS_len : ∀ ts : List Txt, ts.length ≤ bulkS ts
 | [] => Nat.zero_le _
 | t :: r => by
  have := bulkS_len r
  rw [bulkS, List.length_cons]
  omega
section
variable {H : Type} {enc : TypeId × Value → H} {W : World}
theorem texts_of {n : Nat} {v : Value} {y : DataW H × List MemPlace} (h : DataW.trod enc Tryz.prog W 0 (fun _ => true) true n 23 [v] = some y) :
  ∃ (ts : List Txt) (A : Option Addr) (cap : Nat), v = .slice A ts.length cap ∧ Rd W v ts ∧ bulkS ts ≤ Rows.uptoBulk y.1 ∧ ts.length ≤ cap ∧ cap ≤ 9223372036854775807 := by
 have hT : ∀ A len cap, v = .slice A len cap → DataW.Trod enc Tryz.prog W 0 (fun _ => true) true 23 v y.1 y.2 := fun A len cap e => ⟨n, by subst e; exact h⟩
 rcases open_strings Tryz.underlying23 Tryz.underlying9 (by kernel_rfl) h with ⟨hcs, hx⟩ | ⟨ad, len', cap', ss, hcs, _, hl, hm, hz, hx, hcell, hws⟩
 ·injection hcs with e _
  subst e
  obtain ⟨ts, e1, hr, _, hb⟩ := open_texts (hT _ _ _ rfl)
  exact ⟨ts, none, 0, by rw [e1], by rw [e1] at hr; exact hr, hb, by omega, by omega⟩
 ·injection hcs with e _
  subst e
  obtain ⟨ts, e1, hr, _, hb⟩ := open_texts (hT _ _ _ rfl)
  unfold maxLen at hm
  exact ⟨ts, some ad, cap', by rw [e1], by rw [e1] at hr; exact hr, hb, by omega, by omega⟩
theorem rules_of {n : Nat} {c0 c1 c2 c3 c4 c5 : Value} {y0 y1 y2 y3 y4 y5 : DataW H × List MemPlace}
  (h0 : DataW.trod enc Tryz.prog W 0 (fun _ => true) true n 2 [c0] = some y0) (h1 : DataW.trod enc Tryz.prog W 0 (fun _ => true) true n 2 [c1] = some y1)
  (h2 : DataW.trod enc Tryz.prog W 0 (fun _ => true) true n 9 [c2] = some y2) (h3 : DataW.trod enc Tryz.prog W 0 (fun _ => true) true n 23 [c3] = some y3)
  (h4 : DataW.trod enc Tryz.prog W 0 (fun _ => true) true n 23 [c4] = some y4) (h5 : DataW.trod enc Tryz.prog W 0 (fun _ => true) true n 23 [c5] = some y5)
  (hb : Rows.uptoBulk y3.1 + Rows.uptoBulk y4.1 + Rows.uptoBulk y5.1 ≤ 1048576) :
  ∃ r : R, c0 = .int .i64 r.now ∧ c1 = .int .i64 r.slack ∧ c2 = .string ⟨r.who.toArray⟩ ∧ RuAt W r c3 c4 c5 := by
 obtain ⟨t3, A3, k3, e3, r3, b3, l3, m3⟩ := texts_of h3
 obtain ⟨t4, A4, k4, e4, r4, b4, l4, m4⟩ := texts_of h4
 obtain ⟨t5, A5, k5, e5, r5, b5, l5, m5⟩ := texts_of h5
 obtain ⟨n0, e0, _, _⟩ := DataW.trod_int Tryz.underlying2 h0
 obtain ⟨n1, e1, _, _⟩ := DataW.trod_int Tryz.underlying2 h1
 obtain ⟨s2, e2, _, _⟩ := DataW.trod_string Tryz.underlying9 h2
 injection e0 with e0 _
 injection e1 with e1 _
 injection e2 with e2 _
 have q3 := bulkS_len t3
 have q4 := bulkS_len t4
 have q5 := bulkS_len t5
 exact ⟨⟨n0, n1, s2.data.toList, t3, t4, t5⟩, e0, e1, e2, r3, r4, r5, (by show t3.length ≤ _; omega), (by show t4.length ≤ _; omega), (by show t5.length ≤ _; omega)⟩
theorem open_rules {b0 : Nat} {r : Reach} {v : Value} {d : DataW H} {p : List MemPlace} (hv : Value.okWide Tryz.prog W r b0 25 v) (h : DataW.Trod enc Tryz.prog W 0 (fun _ => true) true 25 v d p) (hb : Rows.uptoBulk d ≤ 1048576) :
  ∃ r u1 u2 u3, v = .agg (ruCells r u1 u2 u3) ∧ RuAt W r u1 u2 u3 := by
 obtain ⟨cs, ys, n, rfl, hcl, rfl, hyl, hf⟩ := open_agg_any Tryz.underlying25 (by kernel_rfl) (by kernel_rfl) hv h
 match cs, hcl, ys, hyl with
 | [c0, c1, c2, c3, c4, c5], _, [y0, y1, y2, y3, y4, y5], _ =>
  obtain ⟨_, _, a0, b0, t0⟩ := hf 0 _ rfl
  obtain ⟨_, _, a1, b1, t1⟩ := hf 1 _ rfl
  obtain ⟨_, _, a2, b2, t2⟩ := hf 2 _ rfl
  obtain ⟨_, _, a3, b3, t3⟩ := hf 3 _ rfl
  obtain ⟨_, _, a4, b4, t4⟩ := hf 4 _ rfl
  obtain ⟨_, _, a5, b5, t5⟩ := hf 5 _ rfl
  injection a0 with a0; injection a1 with a1; injection a2 with a2; injection a3 with a3; injection a4 with a4; injection a5 with a5
  injection b0 with b0; injection b1 with b1; injection b2 with b2; injection b3 with b3; injection b4 with b4; injection b5 with b5
  subst a0 a1 a2 a3 a4 a5 b0 b1 b2 b3 b4 b5
  simp only [List.map_cons, List.map_nil, Rows.uptoBulk, Rows.uptoBulkAll] at hb
  obtain ⟨r, rfl, rfl, rfl, hr⟩ := rules_of t0 t1 t2 t3 t4 t5 (by omega)
  exact ⟨r, _, _, _, rfl, hr⟩
end
end Go.Proofs.YtobaldkipnhlpaaGreatDoor
namespace Go.Proofs.YtobaldkipnhlpaaGreatDoor
open Go.RowKit Mem
namespace Nd

def Tr.kids : Tr → List Tr
 | .list l => l
 | .obj _ l => l
 | _ => []
def Tr.kn : Tr → List Tx
 | .obj ks _ => ks
 | _ => []
def Tr.tx : Tr → Tx
 | .text s => s
 | _ => []
def Tr.isTx : Tr → Bool
 | .text _ => true
 | _ => false
theorem rdk_row {S : Nat → Prop} {w : World} {A : Option Addr} {ks : List Tx} {c : Nat} (h : Row S w 9 (.slice A ks.length c) (ks.map txV)) : RdK w (.slice A ks.length c) ks := by
 obtain ⟨A', c', e, h⟩ := h
 injection e with e1 e2 e3
 subst e1
 refine ⟨_, _, rfl, ?_⟩
 rcases h with ⟨h, _⟩ | ⟨g, o, cur, hA, _, hB, hc⟩
 ·exact .inl (by simpa using congrArg List.length h)
 ·exact .inr ⟨g, o, hA, fun j t hj => (hB.cell _).trans (hc j _ (by rw [List.getElem?_map, hj]; rfl))⟩
theorem row_none (S : Nat → Prop) (w : World) (e : TypeId) : Row S w e (.slice none 0 0) [] := ⟨none, 0, rfl, .inl ⟨rfl, .inl rfl⟩⟩
def KeysP (t : Tr) (w : World) (e : Ending) (w' : World) : Prop := (∃ A c, e = .returned (.slice A t.kn.length c) ∧ RdK w (.slice A t.kn.length c) t.kn) ∧ Below w.heap.size w w'
theorem keysr_null (S : Nat → Prop) (v : Value) (w : World) (h : RdT S w (.null) v) : Calls Tryz.prog 66 #[.agg #[v]] w (KeysP (.null) w) := by
 unfold RdT at h
 subst h
 have h5 := ta_0_5
 go_enter Tryz.func66, Tryz.ntmps66
 go_wp2
 go_ret
 exact ⟨⟨none, 0, rfl, ⟨none, 0, rfl, .inl rfl⟩⟩, (Below.refl _ _).alloc (Nat.le_refl _) _⟩
theorem textr_null (S : Nat → Prop) (v : Value) (w : World) (h : RdT S w (.null) v) : Calls Tryz.prog 93 #[.agg #[v]] w fun e w' => e = .returned (.tuple #[.string ⟨(Tr.tx (.null)).toArray⟩, .bool (Tr.isTx (.null))]) ∧ Below w.heap.size w w' := by
 unfold RdT at h
 subst h
 have h3 := ta_0_3
 go_enter Tryz.func93, Tryz.ntmps93
 go_wp2
 go_ret2
 exact ⟨rfl, (Below.refl _ _).alloc (Nat.le_refl _) _⟩
theorem keysr_flag (b : Bool) (S : Nat → Prop) (v : Value) (w : World) (h : RdT S w (.flag b) v) : Calls Tryz.prog 66 #[.agg #[v]] w (KeysP (.flag b) w) := by
 unfold RdT at h
 subst h
 have h5 := ta_1_5 b
 go_enter Tryz.func66, Tryz.ntmps66
 go_wp2
 go_ret
 exact ⟨⟨none, 0, rfl, ⟨none, 0, rfl, .inl rfl⟩⟩, (Below.refl _ _).alloc (Nat.le_refl _) _⟩
theorem textr_flag (b : Bool) (S : Nat → Prop) (v : Value) (w : World) (h : RdT S w (.flag b) v) : Calls Tryz.prog 93 #[.agg #[v]] w fun e w' => e = .returned (.tuple #[.string ⟨(Tr.tx (.flag b)).toArray⟩, .bool (Tr.isTx (.flag b))]) ∧ Below w.heap.size w w' := by
 unfold RdT at h
 subst h
 have h3 := ta_1_3 b
 go_enter Tryz.func93, Tryz.ntmps93
 go_wp2
 go_ret2
 exact ⟨rfl, (Below.refl _ _).alloc (Nat.le_refl _) _⟩
theorem keysr_num (x : Nat) (S : Nat → Prop) (v : Value) (w : World) (h : RdT S w (.num x) v) : Calls Tryz.prog 66 #[.agg #[v]] w (KeysP (.num x) w) := by
 unfold RdT at h
 subst h
 have h5 := ta_2_5 x
 go_enter Tryz.func66, Tryz.ntmps66
 go_wp2
 go_ret
 exact ⟨⟨none, 0, rfl, ⟨none, 0, rfl, .inl rfl⟩⟩, (Below.refl _ _).alloc (Nat.le_refl _) _⟩
theorem textr_num (x : Nat) (S : Nat → Prop) (v : Value) (w : World) (h : RdT S w (.num x) v) : Calls Tryz.prog 93 #[.agg #[v]] w fun e w' => e = .returned (.tuple #[.string ⟨(Tr.tx (.num x)).toArray⟩, .bool (Tr.isTx (.num x))]) ∧ Below w.heap.size w w' := by
 unfold RdT at h
 subst h
 have h3 := ta_2_3 x
 go_enter Tryz.func93, Tryz.ntmps93
 go_wp2
 go_ret2
 exact ⟨rfl, (Below.refl _ _).alloc (Nat.le_refl _) _⟩
theorem keysr_text (s : Tx) (S : Nat → Prop) (v : Value) (w : World) (h : RdT S w (.text s) v) : Calls Tryz.prog 66 #[.agg #[v]] w (KeysP (.text s) w) := by
 unfold RdT at h
 subst h
 have h5 := ta_3_5 ⟨s.toArray⟩
 go_enter Tryz.func66, Tryz.ntmps66
 go_wp2
 go_ret
 exact ⟨⟨none, 0, rfl, ⟨none, 0, rfl, .inl rfl⟩⟩, (Below.refl _ _).alloc (Nat.le_refl _) _⟩
theorem textr_text (s : Tx) (S : Nat → Prop) (v : Value) (w : World) (h : RdT S w (.text s) v) : Calls Tryz.prog 93 #[.agg #[v]] w fun e w' => e = .returned (.tuple #[.string ⟨(Tr.tx (.text s)).toArray⟩, .bool (Tr.isTx (.text s))]) ∧ Below w.heap.size w w' := by
 unfold RdT at h
 subst h
 have h3 := ta_3_3 ⟨s.toArray⟩
 go_enter Tryz.func93, Tryz.ntmps93
 go_wp2
 go_ret2
 exact ⟨rfl, (Below.refl _ _).alloc (Nat.le_refl _) _⟩
theorem keysr_list (l : List Tr) (S : Nat → Prop) (v : Value) (w : World) (h : RdT S w (.list l) v) : Calls Tryz.prog 66 #[.agg #[v]] w (KeysP (.list l) w) := by
 unfold RdT at h
 obtain ⟨g1, A1, c1, vs, rfl, hS1, hB1, hR1, hL1⟩ := h
 have h5 := ta_4_5 (some ⟨g1, 0, none⟩)
 clear hB1 hR1 hL1
 go_enter Tryz.func66, Tryz.ntmps66
 go_wp2
 go_ret
 exact ⟨⟨none, 0, rfl, ⟨none, 0, rfl, .inl rfl⟩⟩, (Below.refl _ _).alloc (Nat.le_refl _) _⟩
theorem textr_list (l : List Tr) (S : Nat → Prop) (v : Value) (w : World) (h : RdT S w (.list l) v) : Calls Tryz.prog 93 #[.agg #[v]] w fun e w' => e = .returned (.tuple #[.string ⟨(Tr.tx (.list l)).toArray⟩, .bool (Tr.isTx (.list l))]) ∧ Below w.heap.size w w' := by
 unfold RdT at h
 obtain ⟨g1, A1, c1, vs, rfl, hS1, hB1, hR1, hL1⟩ := h
 have h3 := ta_4_3 (some ⟨g1, 0, none⟩)
 clear hB1 hR1 hL1
 go_enter Tryz.func93, Tryz.ntmps93
 go_wp2
 go_ret2
 exact ⟨rfl, (Below.refl _ _).alloc (Nat.le_refl _) _⟩
theorem keysr_obj (ks : List Tx) (l : List Tr) (S : Nat → Prop) (v : Value) (w : World) (h : RdT S w (.obj ks l) v) : Calls Tryz.prog 66 #[.agg #[v]] w (KeysP (.obj ks l) w) := by
 unfold RdT at h
 obtain ⟨g1, K1, dk, A1, c1, vs, rfl, hS1, hB1, hK1, hR1, hL1⟩ := h
 have h5 := ta_5_5 (some ⟨g1, 0, none⟩)
 have d4 : w.cell? ⟨g1, 3, none⟩ = some (.slice K1 ks.length dk) := hB1.cell 3
 have HP := Lib.hid (rdk_row hK1)
 have hlt := hB1.lt
 clear hB1 hR1 hL1 hK1
 go_enter Tryz.func66, Tryz.ntmps66
 go_wp2
 go_ret
 exact ⟨⟨K1, dk, rfl, HP.out⟩, (Below.refl _ _).alloc (Nat.le_refl _) _⟩
theorem textr_obj (ks : List Tx) (l : List Tr) (S : Nat → Prop) (v : Value) (w : World) (h : RdT S w (.obj ks l) v) : Calls Tryz.prog 93 #[.agg #[v]] w fun e w' => e = .returned (.tuple #[.string ⟨(Tr.tx (.obj ks l)).toArray⟩, .bool (Tr.isTx (.obj ks l))]) ∧ Below w.heap.size w w' := by
 unfold RdT at h
 obtain ⟨g1, K1, dk, A1, c1, vs, rfl, hS1, hB1, hK1, hR1, hL1⟩ := h
 have h3 := ta_5_3 (some ⟨g1, 0, none⟩)
 clear hB1 hR1 hL1 hK1
 go_enter Tryz.func93, Tryz.ntmps93
 go_wp2
 go_ret2
 exact ⟨rfl, (Below.refl _ _).alloc (Nat.le_refl _) _⟩
theorem keysr_any (S : Nat → Prop) (t : Tr) (v : Value) (w : World) (h : RdT S w t v) : Calls Tryz.prog 66 #[.agg #[v]] w (KeysP t w) := by
 cases t with
 | null => exact keysr_null S v w h
 | flag b => exact keysr_flag b S v w h
 | num x => exact keysr_num x S v w h
 | text s => exact keysr_text s S v w h
 | list l => exact keysr_list l S v w h
 | obj ks l => exact keysr_obj ks l S v w h
theorem textr_any (S : Nat → Prop) (t : Tr) (v : Value) (w : World) (h : RdT S w t v) : Calls Tryz.prog 93 #[.agg #[v]] w (fun e w' => e = .returned (.tuple #[.string ⟨t.tx.toArray⟩, .bool t.isTx]) ∧ Below w.heap.size w w') := by
 cases t with
 | null => exact textr_null S v w h
 | flag b => exact textr_flag b S v w h
 | num x => exact textr_num x S v w h
 | text s => exact textr_text s S v w h
 | list l => exact textr_list l S v w h
 | obj ks l => exact textr_obj ks l S v w h
end Nd
end Go.Proofs.YtobaldkipnhlpaaGreatDoor
namespace Go.Proofs.YtobaldkipnhlpaaGreatDoor
open Go.RowKit Mem
namespace Nd

def ItV (S : Nat → Prop) (w : World) (v : Value) (A : Option Addr) (n c : Nat) : Prop :=
 (((v = .iface 148 (.agg #[])) ∨ (∃ b, v = .iface 149 (.bool b)) ∨ (∃ x, v = .iface 154 (.float .f64 x)) ∨ (∃ s, v = .iface 156 (.string s))) ∧ A = none ∧ n = 0 ∧ c = 0) ∨
 (∃ g, v = .iface 159 (.pointer (some ⟨g, 0, none⟩)) ∧ S g ∧ w.cell? ⟨g, 3, none⟩ = some (.slice A n c)) ∨
 (∃ g, v = .iface 198 (.pointer (some ⟨g, 0, none⟩)) ∧ S g ∧ w.cell? ⟨g, 4, none⟩ = some (.slice A n c))
theorem itv_cell {w w' : World} {g o : Nat} (h : w'.heap[g]? = w.heap[g]?) : w'.cell? ⟨g, o, none⟩ = w.cell? ⟨g, o, none⟩ := by
 unfold World.cell?
 simp only [h]
theorem ItV.move {S S' : Nat → Prop} {w w' : World} {v : Value} {A : Option Addr} {n c : Nat} (h : ItV S w v A n c) (hm : ∀ k, k < w.heap.size → S k → S' k ∧ w'.heap[k]? = w.heap[k]?) : ItV S' w' v A n c := by
 rcases h with h | ⟨g, hv, hs, hc⟩ | ⟨g, hv, hs, hc⟩
 ·exact .inl h
 ·have hlt := World.block_lt_of_cell? w _ hc
  have := hm g hlt hs
  exact .inr (.inl ⟨g, hv, this.1, (itv_cell this.2).trans hc⟩)
 ·have hlt := World.block_lt_of_cell? w _ hc
  have := hm g hlt hs
  exact .inr (.inr ⟨g, hv, this.1, (itv_cell this.2).trans hc⟩)
theorem RdT.itv {S : Nat → Prop} {w : World} {t : Tr} {v : Value} (h : RdT S w t v) : ∃ A c vs, ItV S w v A t.kids.length c ∧ Row S w 85 (.slice A t.kids.length c) vs ∧ RdL S w t.kids vs := by
 cases t <;> unfold RdT at h
 ·exact ⟨none, 0, [], .inl ⟨.inl h, rfl, rfl, rfl⟩, row_none _ _ _, by unfold Tr.kids RdL; rfl⟩
 ·exact ⟨none, 0, [], .inl ⟨.inr (.inl ⟨_, h⟩), rfl, rfl, rfl⟩, row_none _ _ _, by unfold Tr.kids RdL; rfl⟩
 ·exact ⟨none, 0, [], .inl ⟨.inr (.inr (.inl ⟨_, h⟩)), rfl, rfl, rfl⟩, row_none _ _ _, by unfold Tr.kids RdL; rfl⟩
 ·exact ⟨none, 0, [], .inl ⟨.inr (.inr (.inr ⟨_, h⟩)), rfl, rfl, rfl⟩, row_none _ _ _, by unfold Tr.kids RdL; rfl⟩
 ·obtain ⟨g1, A1, c1, vs, rfl, hS1, hB1, hR1, hL1⟩ := h
  exact ⟨A1, c1, vs, .inr (.inl ⟨g1, rfl, hS1, hB1.cell 3⟩), hR1, hL1⟩
 ·obtain ⟨g1, K1, dk, A1, c1, vs, rfl, hS1, hB1, hK1, hR1, hL1⟩ := h
  exact ⟨A1, c1, vs, .inr (.inr ⟨g1, rfl, hS1, hB1.cell 4⟩), hR1, hL1⟩
theorem itm_null (w : World) : Calls Tryz.prog 103 #[.agg #[.iface 148 (.agg #[])]] w fun e w' => e = .returned (.slice none 0 0) ∧ Below w.heap.size w w' := by
 have h4 := ta_0_4
 have h5 := ta_0_5
 go_enter Tryz.func103, Tryz.ntmps103
 go_wp2
 go_ret
 exact ⟨rfl, (Below.refl _ _).alloc (Nat.le_refl _) _⟩
theorem itm_flag (b : Bool) (w : World) : Calls Tryz.prog 103 #[.agg #[.iface 149 (.bool b)]] w fun e w' => e = .returned (.slice none 0 0) ∧ Below w.heap.size w w' := by
 have h4 := ta_1_4 b
 have h5 := ta_1_5 b
 go_enter Tryz.func103, Tryz.ntmps103
 go_wp2
 go_ret
 exact ⟨rfl, (Below.refl _ _).alloc (Nat.le_refl _) _⟩
theorem itm_num (x : Nat) (w : World) : Calls Tryz.prog 103 #[.agg #[.iface 154 (.float .f64 x)]] w fun e w' => e = .returned (.slice none 0 0) ∧ Below w.heap.size w w' := by
 have h4 := ta_2_4 x
 have h5 := ta_2_5 x
 go_enter Tryz.func103, Tryz.ntmps103
 go_wp2
 go_ret
 exact ⟨rfl, (Below.refl _ _).alloc (Nat.le_refl _) _⟩
theorem itm_text (s : ByteArray) (w : World) : Calls Tryz.prog 103 #[.agg #[.iface 156 (.string s)]] w fun e w' => e = .returned (.slice none 0 0) ∧ Below w.heap.size w w' := by
 have h4 := ta_3_4 s
 have h5 := ta_3_5 s
 go_enter Tryz.func103, Tryz.ntmps103
 go_wp2
 go_ret
 exact ⟨rfl, (Below.refl _ _).alloc (Nat.le_refl _) _⟩
theorem itm_list (g1 : Nat) (w : World) (A : Option Addr) (n c : Nat) (d3 : w.cell? ⟨g1, 3, none⟩ = some (.slice A n c)) : Calls Tryz.prog 103 #[.agg #[.iface 159 (.pointer (some ⟨g1, 0, none⟩))]] w fun e w' => e = .returned (.slice A n c) ∧ Below w.heap.size w w' := by
 have h4 := ta_4_4 (some ⟨g1, 0, none⟩)
 have hlt := World.block_lt_of_cell? w _ d3
 dsimp only at hlt
 go_enter Tryz.func103, Tryz.ntmps103
 go_wp2
 go_ret
 exact ⟨rfl, (Below.refl _ _).alloc (Nat.le_refl _) _⟩
theorem itm_obj (g1 : Nat) (w : World) (A : Option Addr) (n c : Nat) (d3 : w.cell? ⟨g1, 4, none⟩ = some (.slice A n c)) : Calls Tryz.prog 103 #[.agg #[.iface 198 (.pointer (some ⟨g1, 0, none⟩))]] w fun e w' => e = .returned (.slice A n c) ∧ Below w.heap.size w w' := by
 have h4 := ta_5_4 (some ⟨g1, 0, none⟩)
 have h5 := ta_5_5 (some ⟨g1, 0, none⟩)
 have hlt := World.block_lt_of_cell? w _ d3
 dsimp only at hlt
 go_enter Tryz.func103, Tryz.ntmps103
 go_wp2
 go_ret
 exact ⟨rfl, (Below.refl _ _).alloc (Nat.le_refl _) _⟩
theorem itm_any {S : Nat → Prop} {w : World} {v : Value} {A : Option Addr} {n c : Nat} (h : ItV S w v A n c) : Calls Tryz.prog 103 #[.agg #[v]] w fun e w' => e = .returned (.slice A n c) ∧ Below w.heap.size w w' := by
 rcases h with ⟨h, rfl, rfl, rfl⟩ | ⟨g, rfl, _, hc⟩ | ⟨g, rfl, _, hc⟩
 ·rcases h with rfl | ⟨b, rfl⟩ | ⟨x, rfl⟩ | ⟨s, rfl⟩
  ·exact itm_null w
  ·exact itm_flag b w
  ·exact itm_num x w
  ·exact itm_text s w
 ·exact itm_list g w A n c hc
 ·exact itm_obj g w A n c hc
end Nd
end Go.Proofs.YtobaldkipnhlpaaGreatDoor
namespace Go.Proofs.YtobaldkipnhlpaaGreatDoor
open Go.RowKit Mem
namespace Nd

def Tr.srt : Tr → Nat
 | .null => 1
 | .flag _ => 2
 | .num _ => 3
 | .text _ => 4
 | .list _ => 5
 | .obj _ _ => 6
def IntP (n : Int) (w : World) (e : Ending) (w' : World) : Prop := e = .returned (.int .i64 n) ∧ Below w.heap.size w w'
theorem ms_null (fuel : Nat) (nm : String) (hnm : nm = itemM 1) (W : World) : (method (fuel + 1) 148 (.agg #[]) nm).run Tryz.prog W = .ok (197, (.agg #[])) W := by
 subst hnm
 kernel_rfl
theorem sf_null (w : World) : Calls Tryz.prog 197 #[(.agg #[])] w (IntP 1 w) := by
 go_enter Tryz.func197, Tryz.ntmps197
 go_wp2
 go_ret
 exact ⟨rfl, (Below.refl _ _).alloc (Nat.le_refl _) _⟩
theorem st_null (w : World) : Calls Tryz.prog 22 #[.agg #[.iface 148 (.agg #[])]] w (IntP 1 w) := by
 go_enter Tryz.func22, Tryz.ntmps22
 go_wp2_with fail
 rw [ms_null _ _ ?nm]
 case nm => kernel_rfl
 go_wp2_with fail
 ((with_reducible refine (sf_null _).mono ?_); rintro e w1 ⟨rfl, hb1⟩)
 have hbw := ((Below.refl w.heap.size w).alloc (Nat.le_refl _) (.cells #[.iface 148 (.agg #[])] 93)).trans (hb1.mono (by simp))
 clear hb1
 go_wp2
 go_ret
 exact ⟨rfl, hbw⟩
theorem ms_flag (fuel : Nat) (b : Bool) (nm : String) (hnm : nm = itemM 1) (W : World) : (method (fuel + 1) 149 (.bool b) nm).run Tryz.prog W = .ok (199, (.bool b)) W := by
 subst hnm
 kernel_rfl
theorem sf_flag (b : Bool) (w : World) : Calls Tryz.prog 199 #[(.bool b)] w (IntP 2 w) := by
 go_enter Tryz.func199, Tryz.ntmps199
 go_wp2
 go_ret
 exact ⟨rfl, Below.refl _ _⟩
theorem st_flag (b : Bool) (w : World) : Calls Tryz.prog 22 #[.agg #[.iface 149 (.bool b)]] w (IntP 2 w) := by
 go_enter Tryz.func22, Tryz.ntmps22
 go_wp2_with fail
 rw [ms_flag _ b _ ?nm]
 case nm => kernel_rfl
 go_wp2_with fail
 ((with_reducible refine (sf_flag b _).mono ?_); rintro e w1 ⟨rfl, hb1⟩)
 have hbw := ((Below.refl w.heap.size w).alloc (Nat.le_refl _) (.cells #[.iface 149 (.bool b)] 93)).trans (hb1.mono (by simp))
 clear hb1
 go_wp2
 go_ret
 exact ⟨rfl, hbw⟩
theorem ms_num (fuel : Nat) (x : Nat) (nm : String) (hnm : nm = itemM 1) (W : World) : (method (fuel + 1) 154 (.float .f64 x) nm).run Tryz.prog W = .ok (201, (.float .f64 x)) W := by
 subst hnm
 kernel_rfl
theorem sf_num (x : Nat) (w : World) : Calls Tryz.prog 201 #[(.float .f64 x)] w (IntP 3 w) := by
 go_enter Tryz.func201, Tryz.ntmps201
 go_wp2
 go_ret
 exact ⟨rfl, Below.refl _ _⟩
theorem st_num (x : Nat) (w : World) : Calls Tryz.prog 22 #[.agg #[.iface 154 (.float .f64 x)]] w (IntP 3 w) := by
 go_enter Tryz.func22, Tryz.ntmps22
 go_wp2_with fail
 rw [ms_num _ x _ ?nm]
 case nm => kernel_rfl
 go_wp2_with fail
 ((with_reducible refine (sf_num x _).mono ?_); rintro e w1 ⟨rfl, hb1⟩)
 have hbw := ((Below.refl w.heap.size w).alloc (Nat.le_refl _) (.cells #[.iface 154 (.float .f64 x)] 93)).trans (hb1.mono (by simp))
 clear hb1
 go_wp2
 go_ret
 exact ⟨rfl, hbw⟩
theorem ms_text (fuel : Nat) (s : ByteArray) (nm : String) (hnm : nm = itemM 1) (W : World) : (method (fuel + 1) 156 (.string s) nm).run Tryz.prog W = .ok (203, (.string s)) W := by
 subst hnm
 kernel_rfl
theorem sf_text (s : ByteArray) (w : World) : Calls Tryz.prog 203 #[(.string s)] w (IntP 4 w) := by
 go_enter Tryz.func203, Tryz.ntmps203
 go_wp2
 go_ret
 exact ⟨rfl, Below.refl _ _⟩
theorem st_text (s : ByteArray) (w : World) : Calls Tryz.prog 22 #[.agg #[.iface 156 (.string s)]] w (IntP 4 w) := by
 go_enter Tryz.func22, Tryz.ntmps22
 go_wp2_with fail
 rw [ms_text _ s _ ?nm]
 case nm => kernel_rfl
 go_wp2_with fail
 ((with_reducible refine (sf_text s _).mono ?_); rintro e w1 ⟨rfl, hb1⟩)
 have hbw := ((Below.refl w.heap.size w).alloc (Nat.le_refl _) (.cells #[.iface 156 (.string s)] 93)).trans (hb1.mono (by simp))
 clear hb1
 go_wp2
 go_ret
 exact ⟨rfl, hbw⟩
theorem ms_list (fuel : Nat) (g : Nat) (nm : String) (hnm : nm = itemM 1) (W : World) : (method (fuel + 1) 159 (.pointer (some ⟨g, 0, none⟩)) nm).run Tryz.prog W = .ok (205, (.pointer (some ⟨g, 0, none⟩))) W := by
 subst hnm
 kernel_rfl
theorem sf_list (g : Nat) (w : World) : Calls Tryz.prog 205 #[(.pointer (some ⟨g, 0, none⟩))] w (IntP 5 w) := by
 go_enter Tryz.func205, Tryz.ntmps205
 go_wp2
 go_ret
 exact ⟨rfl, Below.refl _ _⟩
theorem st_list (g : Nat) (w : World) : Calls Tryz.prog 22 #[.agg #[.iface 159 (.pointer (some ⟨g, 0, none⟩))]] w (IntP 5 w) := by
 go_enter Tryz.func22, Tryz.ntmps22
 go_wp2_with fail
 rw [ms_list _ g _ ?nm]
 case nm => kernel_rfl
 go_wp2_with fail
 ((with_reducible refine (sf_list g _).mono ?_); rintro e w1 ⟨rfl, hb1⟩)
 have hbw := ((Below.refl w.heap.size w).alloc (Nat.le_refl _) (.cells #[.iface 159 (.pointer (some ⟨g, 0, none⟩))] 93)).trans (hb1.mono (by simp))
 clear hb1
 go_wp2
 go_ret
 exact ⟨rfl, hbw⟩
theorem ms_obj (fuel : Nat) (g : Nat) (nm : String) (hnm : nm = itemM 1) (W : World) : (method (fuel + 1) 198 (.pointer (some ⟨g, 0, none⟩)) nm).run Tryz.prog W = .ok (206, (.pointer (some ⟨g, 0, none⟩))) W := by
 subst hnm
 kernel_rfl
theorem sf_obj (g : Nat) (w : World) : Calls Tryz.prog 206 #[(.pointer (some ⟨g, 0, none⟩))] w (IntP 6 w) := by
 go_enter Tryz.func206, Tryz.ntmps206
 go_wp2
 go_ret
 exact ⟨rfl, Below.refl _ _⟩
theorem st_obj (g : Nat) (w : World) : Calls Tryz.prog 22 #[.agg #[.iface 198 (.pointer (some ⟨g, 0, none⟩))]] w (IntP 6 w) := by
 go_enter Tryz.func22, Tryz.ntmps22
 go_wp2_with fail
 rw [ms_obj _ g _ ?nm]
 case nm => kernel_rfl
 go_wp2_with fail
 ((with_reducible refine (sf_obj g _).mono ?_); rintro e w1 ⟨rfl, hb1⟩)
 have hbw := ((Below.refl w.heap.size w).alloc (Nat.le_refl _) (.cells #[.iface 198 (.pointer (some ⟨g, 0, none⟩))] 93)).trans (hb1.mono (by simp))
 clear hb1
 go_wp2
 go_ret
 exact ⟨rfl, hbw⟩
theorem sort_any (S : Nat → Prop) (t : Tr) (v : Value) (w : World) (h : RdT S w t v) : Calls Tryz.prog 22 #[.agg #[v]] w (IntP (t.srt : Nat) w) := by
 cases t with
 | null =>
  unfold RdT at h
  subst h
  exact st_null w
 | flag b =>
  unfold RdT at h
  subst h
  exact st_flag b w
 | num x =>
  unfold RdT at h
  subst h
  exact st_num x w
 | text s =>
  unfold RdT at h
  subst h
  exact st_text _ w
 | list l =>
  unfold RdT at h
  obtain ⟨g1, A1, c1, vs, rfl, _⟩ := h
  exact st_list g1 w
 | obj ks l =>
  unfold RdT at h
  obtain ⟨g1, K1, dk, A1, c1, vs, rfl, _⟩ := h
  exact st_obj g1 w
theorem len_itv (S : Nat → Prop) (v : Value) (A : Option Addr) (n c : Nat) (w : World) (h : ItV S w v A n c) : Calls Tryz.prog 96 #[.agg #[v]] w (IntP (n : Nat) w) := by
 have hI : ItV S (w.alloc (.cells #[v] 93)) v A n c := h.move fun j hj hs => ⟨hs, Below.heap_alloc w _ j hj⟩
 have HI := Lib.hid hI
 clear hI h
 go_enter Tryz.func96, Tryz.ntmps96
 go_wp2_with fail
 ((with_reducible refine (itm_any HI.out).mono ?_); rintro e w1 ⟨rfl, hb1⟩)
 have hbw := ((Below.refl w.heap.size w).alloc (Nat.le_refl _) (.cells #[v] 93)).trans (hb1.mono (by simp))
 clear hb1
 go_wp2
 go_ret
 exact ⟨rfl, hbw⟩
theorem len_any (S : Nat → Prop) (t : Tr) (v : Value) (w : World) (h : RdT S w t v) : Calls Tryz.prog 96 #[.agg #[v]] w (IntP (t.kids.length : Nat) w) := by
 obtain ⟨A, c, vs, hI, _, _⟩ := h.itv
 exact len_itv S v A _ c w hI
end Nd
end Go.Proofs.YtobaldkipnhlpaaGreatDoor
namespace Go.Proofs.YtobaldkipnhlpaaGreatDoor
open Go.RowKit Mem
namespace Nd

end Nd
end Go.Proofs.YtobaldkipnhlpaaGreatDoor
namespace Go.Proofs.YtobaldkipnhlpaaGreatDoor
open Go.RowKit Mem
namespace Nd

abbrev RdA (w : World) (t : Tr) (v : Value) : Prop := RdT (fun _ => True) w t v
theorem RdT.toA {S : Nat → Prop} {w : World} {t : Tr} {v : Value} (h : RdT S w t v) : RdA w t v := RdT.move (fun j hj hs => ⟨trivial, rfl⟩) _ _ h
theorem rda_below {w w' : World} {t : Tr} {v : Value} (h : RdA w t v) (hb : Below w.heap.size w w') : RdA w' t v := RdT.move (fun j hj hs => ⟨trivial, hb.block j hj⟩) _ _ h
theorem held_take {P : Program} {md : Region.Mode} {ops : Array Oper} {Q : Exit → Act → World → Prop} {S : World → Prop} {i : Nat} {oi : Oper} {v : Value} (d : Option Tmp) {fuel : Nat} {listed : Array Bool} {a : Act} {w : World} (hi : ops[i]? = some oi) (hd : oi.dst = d)
  (hs : Region.noSelect ops = true) (hf : Region.free md ops listed i = true) (hr : (Region.ready md ops listed).contains i = true)
  (hQ : ∀ c a w, Q (.panic c) (a.put d v) w → Q (.panic c) a w) (hy : YieldsIf P ops S oi v a) (hS : S w)
  (h : wpAnyH P md ops Q S fuel (listed.setIfInBounds i true) (a.put d v) w) : wpAnyH P md ops Q S (fuel + 1) listed a w := by
 subst hd
 exact wpAnyH_take hi hs hf hr hQ hy hS h
theorem itv_below {w w' : World} {v : Value} {A : Option Addr} {n c : Nat} (h : ItV (fun _ => True) w v A n c) (hb : Below w.heap.size w w') : ItV (fun _ => True) w' v A n c := h.move fun j hj _ => ⟨trivial, hb.block j hj⟩
theorem row_at {w wr : World} {A : Option Addr} {c : Nat} {vs : List Value} {l : List Tr} {k : Nat} (hrow : Row (fun _ => True) w 85 (.slice A l.length c) vs) (hl : RdL (fun _ => True) w l vs) (hb : Below w.heap.size w wr) (hk : k < l.length) :
  ∃ g o tx ux, A = some ⟨g, o, none⟩ ∧ wr.cell? ⟨g, o + k, none⟩ = some (.iface tx ux) ∧ RdA wr l[k] (.iface tx ux) := by
 obtain ⟨A', c', e', h'⟩ := hrow
 injection e' with e1 e2 e3
 have hvl := hl.len
 rcases h' with ⟨h', _⟩ | ⟨g, o, cur, hA, hSg, hBg, hc⟩
 ·rw [h'] at hvl
  simp at hvl
  omega
 ·have hvk : vs[k]? = some (vs[k]'(by omega)) := List.getElem?_eq_getElem (by omega)
  have hrd := hl.at (List.getElem?_eq_getElem hk) hvk
  obtain ⟨tx, ux, he⟩ := hrd.iface
  refine ⟨g, o, tx, ux, by rw [e1, hA], (hb.cell (p := ⟨g, o + k, none⟩) hBg.lt).trans ((hBg.cell _).trans (hc k _ (by rw [hvk, he]))), ?_⟩
  rw [he] at hrd
  exact rda_below hrd hb
end Nd
end Go.Proofs.YtobaldkipnhlpaaGreatDoor
