/-
  A row of steps of the call's own, with their keys; what a walk keeps of it.
-/
import Derived.Test.YtfhfkggkbeahbaaGreatNsJ
import Derived.Test.YtfhfkggkbeahbaaGreatGI
import Derived.Test.YtfhfkggkbeahbaaGreatGE
import Derived.Maps.AppendAt
import Derived.RangeFuncBox
namespace Go.Proofs.YtfhfkggkbeahbaaGreat
open Go.RowKit Mem
set_option linter.unusedVariables false
namespace Nd

def cell6 (s : Stp) (K : Option Addr) (q : Nat) : List Value := [.int .i64 s.sort, .bool s.flag, .int .u64 (s.bits : Int), .string ⟨s.text.toArray⟩, .int .i64 s.count, .slice K s.keys.length q]
abbrev E6 := Stp × Option Addr × Nat
def cellsE (es : List E6) : List Value := es.flatMap fun e => cell6 e.1 e.2.1 e.2.2
/-- a step's keys lie in a row -/
def KeyRow (w : World) (e : E6) : Prop := w.ownsRow 0 9 1 (.slice e.2.1 e.1.keys.length e.2.2) e.1.keys.length (e.1.keys.map txV)
/-- a row of steps of the call's own -/
def SRow (B : Nat) (ss : List Stp) (v : Value) (w : World) : Prop := ∃ es : List E6, es.map (·.1) = ss ∧ w.ownsRow B 54 6 v ss.length (cellsE es) ∧ ∀ e ∈ es, KeyRow w e
theorem own_typed {w : World} {base size n : Nat} {e : TypeId} {v : Value} {xs : List Value} (h : w.ownsRow base e size v n xs) (g : Nat) (hg : v.ownBlock = some g) : base ≤ g ∧ ∃ cur, w.heap[g]? = some (.cells cur e (0, 0)) := by
  rcases h.2 with ⟨rfl, _⟩ | ⟨g', cap, cur, rfl, h1, h2, _⟩
  · cases hg
  · simp only [Value.ownBlock, Option.some.injEq] at hg
    subst hg
    exact ⟨h1, _, h2⟩
theorem KeyRow.kept {w w' : World} {e : E6} {row : Option Nat} (h : KeyRow w e) (hg : w.grownBy w' row) (hrow : ∀ g, row = some g → ∃ cur, w.heap[g]? = some (.cells cur 54 (0, 0))) : KeyRow w' e := by
  refine World.ownsRow.kept h hg ?_
  cases ho : (Value.slice e.2.1 e.1.keys.length e.2.2).ownBlock with
  | none => exact .inl rfl
  | some g =>
    refine .inr fun e' => ?_
    obtain ⟨_, cur, h1⟩ := own_typed h g ho
    obtain ⟨cur', h2⟩ := hrow g e'.symm
    rw [h1] at h2
    injection h2 with h2
    injection h2 with _ h3 _
    cases h3
theorem KeyRow.below {w w' : World} {e : E6} (h : KeyRow w e) (hb : Below w.heap.size w w') : KeyRow w' e := h.kept (grown_of_below hb none) (fun g hg => by cases hg)
theorem SRow.below {B : Nat} {ss : List Stp} {v : Value} {w w' : World} (h : SRow B ss v w) (hb : Below w.heap.size w w') : SRow B ss v w' := by
  obtain ⟨es, h1, h2, h3⟩ := h
  exact ⟨es, h1, own_below h2 hb, fun e he => (h3 e he).below hb⟩
theorem SRow.block {B : Nat} {ss : List Stp} {v : Value} {w : World} (h : SRow B ss v w) (g : Nat) (hg : v.ownBlock = some g) : B ≤ g ∧ g < w.heap.size ∧ ∃ cur, w.heap[g]? = some (.cells cur 54 (0, 0)) := by
  obtain ⟨es, h1, h2, h3⟩ := h
  obtain ⟨a, cur, b⟩ := own_typed h2 g hg
  exact ⟨a, (Array.getElem?_eq_some_iff.1 b).1, cur, b⟩
theorem srow_nil (B : Nat) (w : World) : SRow B [] (.slice none 0 0) w := ⟨[], rfl, World.ownsRow_nil _ _ _ _, fun e h => by cases h⟩
theorem SRow.append {B : Nat} {ss : List Stp} {v v' : Value} {w w1 w' : World} {e : E6} (h : SRow B ss v w) (hk : KeyRow w e) (hb : Below w.heap.size w w1) (es : List E6) (h1 : es.map (·.1) = ss) (h3 : ∀ e ∈ es, KeyRow w e)
    (ho : w'.ownsRow B 54 6 v' (ss.length + 1) (cellsE es ++ cell6 e.1 e.2.1 e.2.2)) (hg : w1.grownBy w' v.ownBlock) : SRow B (ss ++ [e.1]) v' w' := by
  have hrow : ∀ g, v.ownBlock = some g → ∃ cur, w1.heap[g]? = some (.cells cur 54 (0, 0)) := fun g hg => (h.below hb).block g hg |>.2.2
  refine ⟨es ++ [e], by simp [h1], ?_, fun x hx => ?_⟩
  · rw [List.length_append, List.length_singleton]
    unfold cellsE at ho ⊢
    rw [List.flatMap_append]
    simpa using ho
  · rcases List.mem_append.1 hx with hx | hx
    · exact ((h3 x hx).below hb).kept hg hrow
    · rw [List.mem_singleton] at hx
      subst hx
      exact (hk.below hb).kept hg hrow
theorem own_lower0 {w : World} {B size n : Nat} {e : TypeId} {v : Value} {xs : List Value} (h : w.ownsRow B e size v n xs) : w.ownsRow 0 e size v n xs :=
  ⟨h.1, h.2.imp id fun ⟨g, cap, cur, e1, e2, e3⟩ => ⟨g, cap, cur, e1, Nat.zero_le _, e3⟩⟩
theorem cell6_one (s : Stp) (K : Option Addr) (q : Nat) : ∀ u ∈ cell6 s K q, u.oneCell' = true := by
  intro u hu
  simp [cell6] at hu
  rcases hu with rfl | rfl | rfl | rfl | rfl | rfl <;> rfl
theorem cells_new (w : World) (cs : List Value) (t : TypeId) : ∀ j u, cs[j]? = some u → (w.alloc (.cells cs.toArray t)).cell? ((⟨w.heap.size, 0, none⟩ : Addr).add j) = some u := by
  intro j u hj
  have e1 : (⟨w.heap.size, 0, none⟩ : Addr).add j = ⟨w.heap.size, j, none⟩ := by
    unfold Addr.add
    split <;> simp_all
  rw [e1, (Blk.new w t cs.toArray).cell]
  simpa using hj
theorem info_step : (Tryz.prog.info? 54).map (fun i => (i.zero, i.size, i.bytes)) = some (some (.agg #[.int .i64 0, .bool false, .int .u64 0, .string ⟨#[]⟩, .int .i64 0, .slice none 0 0]), 6, 72) := by kernel_rfl
theorem rowB_at {B : Nat} {w wr : World} {A : Option Addr} {c : Nat} {vs : List Value} {l : List Tr} {k : Nat} (hrow : Row (fun k => k < B) w 41 (.slice A l.length c) vs) (hl : RdL (fun k => k < B) w l vs) (hb : Below B w wr) (hk : k < l.length) :
    ∃ g o tx ux, A = some ⟨g, o, none⟩ ∧ wr.cell? ⟨g, o + k, none⟩ = some (.iface tx ux) ∧ RdT (fun k => k < B) wr l[k] (.iface tx ux) := by
  obtain ⟨A', c', e', h'⟩ := hrow
  injection e' with e1 e2 e3
  have hvl := hl.len
  rcases h' with ⟨h', _⟩ | ⟨g, o, cur, hA, hSg, hBg, hc⟩
  · rw [h'] at hvl
    simp at hvl
    omega
  · have hvk : vs[k]? = some (vs[k]'(by omega)) := List.getElem?_eq_getElem (by omega)
    have hrd := hl.at (List.getElem?_eq_getElem hk) hvk
    obtain ⟨tx, ux, he⟩ := hrd.iface
    refine ⟨g, o, tx, ux, by rw [e1, hA], (hb.cell (p := ⟨g, o + k, none⟩) hSg).trans ((hBg.cell _).trans (hc k _ (by rw [hvk, he]))), ?_⟩
    rw [he] at hrd
    exact RdT.move (fun j _ hj => ⟨hj, hb.block j hj⟩) _ _ hrd
/-- what steps comes to -/
def StepsP (B : Nat) (ss : List Stp) (v : Value) (w : World) (e : Ending) (w' : World) : Prop := ∃ v', e = .returned v' ∧ SRow B ss v' w' ∧ w.grownBy w' v.ownBlock ∧ (v'.ownBlock = v.ownBlock ∨ ∀ g, v'.ownBlock = some g → w.heap.size ≤ g)
theorem StepsP.form {B : Nat} {ss : List Stp} {v : Value} {w : World} (h : SRow B ss v w) : ∃ A c, v = .slice A ss.length c := by
  obtain ⟨es, h1, h2, h3⟩ := h
  exact own_slice h2
/-- the state of the loop over what lies within -/
structure StL (B b5 : Nat) (e : E6) (ss : List Stp) (v0 : Value) (w0 : World) (v : Value) (w : World) : Prop where
  row : SRow B ss v w
  gr : w0.grownBy w v0.ownBlock
  own : v.ownBlock = v0.ownBlock ∨ ∀ g, v.ownBlock = some g → w0.heap.size ≤ g
  bl : Blk w b5 54 (cell6 e.1 e.2.1 e.2.2).toArray
  key : KeyRow w e
  ne : some b5 ≠ v.ownBlock
theorem StL.step {B b5 : Nat} {e : E6} {ss ss' : List Stp} {v0 v v' : Value} {w0 w w' : World} (h : StL B b5 e ss v0 w0 v w) (hr : SRow B ss' v' w') (hg : w.grownBy w' v.ownBlock) (ho : v'.ownBlock = v.ownBlock ∨ ∀ g, v'.ownBlock = some g → w.heap.size ≤ g) : StL B b5 e ss' v0 w0 v' w' := by
  have hs := h.gr.size
  refine ⟨hr, grown_join h.gr hg h.own, ?_, h.bl.only hg h.ne, h.key.kept hg (fun g hg => (h.row.block g hg).2.2), ?_⟩
  · rcases ho with ho | ho
    · rw [ho]
      exact h.own
    · exact .inr fun g hg => by have := ho g hg; omega
  · rcases ho with ho | ho
    · rw [ho]
      exact h.ne
    · intro e'
      have h1 := ho b5 e'.symm
      have h2 := h.bl.lt
      omega
theorem StL.fin {B b5 : Nat} {e : E6} {ss : List Stp} {v0 v v' : Value} {w0 w w' : World} (h : StL B b5 e ss v0 w0 v w) (es : List E6) (h1 : es.map (·.1) = ss) (h3 : ∀ e ∈ es, KeyRow w e) (tmp : Obj)
    (ho : w'.ownsRow B 54 6 v' (ss.length + 1) (cellsE es ++ cell6 e.1 e.2.1 e.2.2)) (hg : (w.alloc tmp).grownBy w' v.ownBlock) (hat : v'.ownBlock = v.ownBlock ∨ v'.ownBlock = some (w.alloc tmp).heap.size) :
    StepsP B (ss ++ [e.1]) v0 w0 (.returned v') w' := by
  have hb : Below w.heap.size w (w.alloc tmp) := (Below.refl _ _).alloc (Nat.le_refl _) _
  have hs := h.gr.size
  have hs2 := hb.size
  refine ⟨v', rfl, h.row.append h.key hb es h1 h3 ho hg, grown_join (grown_alloc h.gr tmp) hg h.own, ?_⟩
  rcases hat with hat | hat
  · rw [hat]
    exact h.own
  · refine .inr fun g hg => ?_
    rw [hat] at hg
    injection hg with hg
    omega
theorem StL.bel {B b5 : Nat} {e : E6} {ss : List Stp} {v0 v : Value} {w0 w : World} (h : StL B b5 e ss v0 w0 v w) (h0 : ∀ g, v0.ownBlock = some g → B ≤ g) (hB : B ≤ w0.heap.size) : Below B w0 w :=
  (Below.refl B w0).grown h.gr hB (fun k hk => h0 k hk)
end Nd
end Go.Proofs.YtfhfkggkbeahbaaGreat
