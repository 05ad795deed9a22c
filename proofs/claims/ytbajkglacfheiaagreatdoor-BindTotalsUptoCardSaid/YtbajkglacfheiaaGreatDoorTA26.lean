/-
  A value's steps, in plain terms: they make it again. A row of steps of the call's own, with their keys; what a walk keeps of it. Walks of package node: steps. Walks of package node: a Ref's Steps, a Tree's Steps, a Ref's Tree; what a row of steps reads as. Walks of layer 10's law: step, steps.
-/
import Derived.Test.YtbajkglacfheiaaGreatDoorTA9
import Derived.Test.YtbajkglacfheiaaGreatDoorTA1
import Derived.Test.YtbajkglacfheiaaGreatDoorTA16
import Derived.Test.YtbajkglacfheiaaGreatDoorTA8
import Derived.Maps.AppendAt
import Derived.RangeFuncBox
set_option linter.unusedVariables false
set_option maxRecDepth 100000
set_option maxHeartbeats 16000000
namespace Go.Proofs.YtbajkglacfheiaaGreatDoor
open Go.RowKit Mem
namespace Nd
end Nd
end Go.Proofs.YtbajkglacfheiaaGreatDoor
namespace Go.Proofs.YtbajkglacfheiaaGreatDoor
open Go.RowKit Mem
namespace Nd
def cell6 (s : Stp) (K : Option Addr) (q : Nat) : List Value := [.int .i64 s.sort, .bool s.flag, .int .u64 (s.bits : Int), .string ⟨s.text.toArray⟩, .int .i64 s.count, .slice K s.keys.length q]
abbrev E6 := Stp × Option Addr × Nat
def cellsE (es : List E6) : List Value := es.flatMap fun e => cell6 e.1 e.2.1 e.2.2
theorem own_typed {w : World} {base size n : Nat} {e : TypeId} {v : Value} {xs : List Value} (h : w.ownsRow base e size v n xs) (g : Nat) (hg : v.ownBlock = some g) : base ≤ g ∧ ∃ cur, w.heap[g]? = some (.cells cur e (0, 0)) := by
 rcases h.2 with ⟨rfl, _⟩ | ⟨g', cap, cur, rfl, h1, h2, _⟩
 ·cases hg
 ·simp only [Value.ownBlock, Option.some.injEq] at hg
  subst hg
  exact ⟨h1, _, h2⟩
theorem cell6_one (s : Stp) (K : Option Addr) (q : Nat) : ∀ u ∈ cell6 s K q, u.oneCell' = true := by
 intro u hu
 simp [cell6] at hu
 rcases hu with rfl | rfl | rfl | rfl | rfl | rfl <;> rfl
theorem cells_new (w : World) (cs : List Value) (t : TypeId) : ∀ j u, cs[j]? = some u → (w.alloc (.cells cs.toArray t)).cell? ((⟨w.heap.size, 0, none⟩ : Addr).add j) = some u := by
 intro j u hj
 have e1 : (⟨w.heap.size, 0, none⟩ : Addr).add j = ⟨w.heap.size, j, none⟩ := by
  unfold Addr.add
  split <;> simp_all
 rw [e1, (Blk.new w t cs.toArray).cell]
 simpa using hj
end Nd
end Go.Proofs.YtbajkglacfheiaaGreatDoor
namespace Go.Proofs.YtbajkglacfheiaaGreatDoor
open Go.RowKit Mem
namespace Nd
end Nd
end Go.Proofs.YtbajkglacfheiaaGreatDoor
namespace Go.Proofs.YtbajkglacfheiaaGreatDoor
open Go.RowKit Mem
namespace Nd
theorem cellsE_len (es : List E6) : (cellsE es).length = es.length * 6 := by
 induction es with
 | nil => rfl
 | cons e es ih =>
  unfold cellsE at ih ⊢
  rw [List.flatMap_cons, List.length_append, ih]
  simp [cell6]
  omega
theorem cellsE_at : ∀ (es : List E6) (j : Nat) (e : E6), es[j]? = some e → ∀ i, i < 6 → (cellsE es)[j * 6 + i]? = (cell6 e.1 e.2.1 e.2.2)[i]?
 | [], j, e, h, i, hi => by simp at h
 | x :: es, 0, e, h, i, hi => by
  simp at h
  subst h
  unfold cellsE
  rw [List.flatMap_cons, Nat.zero_mul, Nat.zero_add, List.getElem?_append_left (by simp [cell6]; omega)]
 | x :: es, j + 1, e, h, i, hi => by
  have ih := cellsE_at es j e (by simpa using h) i hi
  unfold cellsE at ih ⊢
  rw [List.flatMap_cons, List.getElem?_append_right (by simp [cell6]; omega), ← ih]
  have e1 : (cell6 x.1 x.2.1 x.2.2).length = 6 := by simp [cell6]
  rw [e1]
  congr 1
  omega
theorem own_rds {w : World} {B n : Nat} {ty : TypeId} {v : Value} {es : List E6} (h : w.ownsRow B ty 6 v n (cellsE es)) (hk : ∀ e ∈ es, RdK w (.slice e.2.1 e.1.keys.length e.2.2) e.1.keys ∧ e.1.keys.length ≤ e.2.2) : RdS w v (es.map (·.1)) := by
 have hl := h.1
 rw [cellsE_len] at hl
 have hn : n = es.length := by omega
 subst hn
 obtain ⟨A, c, rfl⟩ := own_slice h
 refine ⟨A, c, by simp, ?_⟩
 rcases h.2 with ⟨_, h0⟩ | ⟨g, cap, cur, hv, _, hg, _, _, hs, ht⟩
 ·left
  rw [List.length_eq_zero_iff.1 h0]
  rfl
 ·injection hv with hA _ _
  refine .inr ⟨g, 0, hA, fun j s hs => ?_⟩
  rw [List.getElem?_map] at hs
  cases he : es[j]? with
  | none => rw [he] at hs; cases hs
  | some e =>
   rw [he] at hs
   simp at hs
   subst hs
   have hjl : j < es.length := by
    rcases Nat.lt_or_ge j es.length with h | h
    ·exact h
    ·rw [List.getElem?_eq_none h] at he
     cases he
   have hc : ∀ i, i < 6 → w.cell? ⟨g, 0 + j * 6 + i, none⟩ = (cell6 e.1 e.2.1 e.2.2)[i]? := by
    intro i hi
    rw [cell_of_row w g _ cur _ _ hg, ← cellsE_at es j e he i hi, ← ht, List.getElem?_take, if_pos (by omega), Nat.zero_add]
    simp
   exact ⟨e.2.1, e.2.2, hc 0 (by omega), hc 1 (by omega), hc 2 (by omega), hc 3 (by omega), hc 4 (by omega), hc 5 (by omega), (hk e (List.mem_of_getElem? he)).1, (hk e (List.mem_of_getElem? he)).2⟩
end Nd
end Go.Proofs.YtbajkglacfheiaaGreatDoor
namespace Go.Proofs.YtbajkglacfheiaaGreatDoor
open Go.RowKit Mem
namespace Nd
theorem rds_es {w : World} {A : Option Addr} {c : Nat} {ss : List Stp} (h : RdS w (.slice A ss.length c) ss) : ∃ es : List E6, es.map (·.1) = ss ∧ ∀ (k : Nat) (hk : k < ss.length), ∃ g o K q, A = some ⟨g, o, none⟩ ∧ CellS w g (o + k * 6) ss[k] K q ∧ es[k]? = some (ss[k], K, q) := by
 obtain ⟨A', c', e', h'⟩ := h
 injection e' with e1 e2 e3
 subst e1
 rcases h' with rfl | ⟨g, o, rfl, hc⟩
 ·exact ⟨[], rfl, fun k hk => by simp at hk⟩
 ·have hex : ∀ m, m ≤ ss.length → ∃ es : List E6, es.map (·.1) = ss.take m ∧ ∀ (k : Nat) (hk : k < m) (hk2 : k < ss.length), ∃ K q, CellS w g (o + k * 6) ss[k] K q ∧ es[k]? = some (ss[k], K, q) := by
   intro m
   induction m with
   | zero => exact fun _ => ⟨[], rfl, fun k hk => by omega⟩
   | succ m ih =>
    intro hm
    obtain ⟨es, h1, h2⟩ := ih (by omega)
    obtain ⟨K, q, hcs⟩ := hc m _ (List.getElem?_eq_getElem (by omega))
    have hel : es.length = m := by
     have := congrArg List.length h1
     simp at this
     omega
    refine ⟨es ++ [(ss[m], K, q)], ?_, fun k hk hk2 => ?_⟩
    ·rw [List.map_append, h1, List.take_succ_eq_append_getElem (by omega)]
     rfl
    ·rcases Nat.lt_or_ge k m with hlt | hge
     ·obtain ⟨K', q', h3, h4⟩ := h2 k hlt hk2
      exact ⟨K', q', h3, by rw [List.getElem?_append_left (by omega)]; exact h4⟩
     ·obtain rfl : k = m := by omega
      exact ⟨K, q, hcs, by rw [List.getElem?_append_right (by omega), hel]; simp⟩
  obtain ⟨es, h1, h2⟩ := hex ss.length (Nat.le_refl _)
  rw [List.take_of_length_le (Nat.le_refl _)] at h1
  exact ⟨es, h1, fun k hk => by obtain ⟨K, q, h3, h4⟩ := h2 k hk hk; exact ⟨g, o, K, q, rfl, h3, h4⟩⟩
theorem cellsE_snoc (es : List E6) (k : Nat) (e : E6) (h : es[k]? = some e) : cellsE (es.take (k + 1)) = cellsE (es.take k) ++ cell6 e.1 e.2.1 e.2.2 := by
 have hk : k < es.length := by
  rcases Nat.lt_or_ge k es.length with h1 | h1
  ·exact h1
  ·rw [List.getElem?_eq_none h1] at h
   cases h
 rw [List.take_succ_eq_append_getElem hk]
 unfold cellsE
 rw [List.flatMap_append]
 rw [List.getElem?_eq_getElem hk] at h
 injection h with h
 rw [h]
 simp
theorem info_rstep : (Tryz.prog.info? 240).map (fun i => (i.zero, i.size, i.bytes)) = some (some (.agg #[.int .i64 0, .bool false, .int .u64 0, .string ⟨#[]⟩, .int .i64 0, .slice none 0 0]), 6, 72) := by kernel_rfl
end Nd
end Go.Proofs.YtbajkglacfheiaaGreatDoor
