/-
  Walk of the reference of layer 25: Make.
-/
import Derived.Test.YtbcckpnngonoeaaGreatDoorCmE
import Derived.Test.YtbcckpnngonoeaaGreatDoorCvN
import Derived.Test.YtbcckpnngonoeaaGreatDoorHEs
import Derived.Deep.AppendLies
import Derived.BigRegion
namespace Go.Proofs.YtbcckpnngonoeaaGreatDoor
open Go.RowKit Mem Utf Ref3 Tok Cl
set_option linter.unusedVariables false
set_option linter.unusedSimpArgs false
namespace Nd
/-- where the object's values lie -/
abbrev SV (B : Nat) (vI vK : Value) : Nat → Prop := fun j => B ≤ j ∧ some j ≠ vI.ownBlock ∧ some j ≠ vK.ownBlock
/-- what Make holds of the object: so many values, so many keys -/
structure MkV (B : Nat) (w3 : World) (P : Nat) (l : List Tr) (ks : List Tx) (AI : Option Addr) (cI : Nat) (AK : Option Addr) (cK : Nat) (wr : World) : Prop where
  bl : Blk wr P 61 #[.int .i64 6, .bool false, .int .u64 0, .string ⟨#[]⟩, .slice AI l.length cI, .slice AK ks.length cK]
  ri : ∃ xs, wr.ownsRow B 61 6 (.slice AI l.length cI) l.length (cellsV l xs) ∧ RdVL (SV B (.slice AI l.length cI) (.slice AK ks.length cK)) wr l xs
  rk : wr.ownsRow B 9 1 (.slice AK ks.length cK) ks.length (ks.map txV)
  gr : w3.grownBy wr (some P)
  lt : P < B
  le : B = w3.heap.size
section
variable {B : Nat} {w3 : World} {P : Nat} {l : List Tr} {ks : List Tx} {AI : Option Addr} {cI : Nat} {AK : Option Addr} {cK : Nat} {wr : World}
theorem own_notP {w : World} {B P s n : Nat} {e : TypeId} {v : Value} {xs : List Value} (h : w.ownsRow B e s v n xs) (hP : P < B) : v.ownBlock = none ∨ v.ownBlock ≠ some P :=
  .inr fun e => by have := own_base h P e; omega
theorem MkV.below {w' : World} (h : MkV B w3 P l ks AI cI AK cK wr) (hb : Below wr.heap.size wr w') : MkV B w3 P l ks AI cI AK cK w' := by
  obtain ⟨xs, h1, h2⟩ := h.ri
  exact ⟨h.bl.below hb h.bl.lt, ⟨xs, own_below h1 hb, h2.move fun k hk hs => ⟨hs, hb.block k hk⟩⟩, own_below h.rk hb, grown_below h.gr hb, h.lt, h.le⟩
/-- the key is put behind the keys -/
theorem MkV.keyed {k : Tx} {g9 q9 : Nat} {w9 : World} {ob : Obj} (h : MkV B w3 P l ks AI cI AK cK wr)
    (ho : w9.ownsRow B 9 1 (.slice (some ⟨g9, 0, none⟩) (ks.length + 1) q9) (ks.length + 1) (ks.map txV ++ [txV k])) (hg : (wr.alloc ob).drew.grownBy w9 (Value.slice AK ks.length cK).ownBlock) (hat : (Value.slice AK ks.length cK).ownBlock = some g9 ∨ g9 = wr.heap.size + 1) :
    MkV B w3 P l (ks ++ [k]) AI cI (some ⟨g9, 0, none⟩) q9 (w9.setCell ⟨P, 5, none⟩ (.slice (some ⟨g9, 0, none⟩) (ks.length + 1) q9)) := by
  obtain ⟨xs, h1, h2⟩ := h.ri
  have hlt := h.lt
  have hle := h.le
  have hs := h.gr.size
  have hne : some P ≠ (Value.slice AK ks.length cK).ownBlock := fun e => by have := own_base h.rk P e.symm; omega
  have hb9 := ((h.bl.alloc ob).drew).only hg hne
  have hput := grown_put (grown_refl w9 (some P)) 5 (.slice (some ⟨g9, 0, none⟩) (ks.length + 1) q9)
  have hri9 := World.ownsRow.kept ((h1.alloc ob).drew) hg (own_apart h1 h.rk (by decide))
  have hlen : (ks ++ [k]).length = ks.length + 1 := by simp
  refine ⟨?_, ⟨xs, World.ownsRow.kept hri9 hput (own_notP hri9 hlt), ?_⟩, ?_, ?_, hlt, hle⟩
  · rw [hlen]
    exact hb9.put 5 _
  · refine h2.move fun j hj hs' => ⟨⟨hs'.1, hs'.2.1, fun e => ?_⟩, ?_⟩
    · simp only [Value.ownBlock, Option.some.injEq] at e
      rcases hat with h | h
      · exact hs'.2.2 (by rw [h, e])
      · omega
    · have hjP : j ≠ P := by have := hs'.1; omega
      have e1 : (w9.setCell ⟨P, 5, none⟩ (.slice (some ⟨g9, 0, none⟩) (ks.length + 1) q9)).heap[j]? = w9.heap[j]? := heap_setCell_other w9 ⟨P, 5, none⟩ j _ hjP
      rw [e1]
      exact (hg.block j (by show j < (wr.alloc ob).heap.size; simp; omega) hs'.2.2).trans (Below.heap_alloc wr ob j hj)
  · rw [hlen, List.map_append]
    exact World.ownsRow.kept ho hput (own_notP ho hlt)
  · exact grown_trans (grown_join (grown_drew (grown_alloc h.gr ob)) hg (.inr fun g hg => by have := own_base h.rk g hg; omega)) hput
/-- the value is put behind the values -/
theorem MkV.valued {t : Tr} {x : X4} {xs : List X4} {g9 q9 : Nat} {w9 : World} {ob : Obj} (h : MkV B w3 P l ks AI cI AK cK wr) (h1 : wr.ownsRow B 61 6 (.slice AI l.length cI) l.length (cellsV l xs)) (h2 : RdVL (SV B (.slice AI l.length cI) (.slice AK ks.length cK)) wr l xs) (hx : RdV (SV B (.slice AI l.length cI) (.slice AK ks.length cK)) wr t x)
    (ho : w9.ownsRow B 61 6 (.slice (some ⟨g9, 0, none⟩) (l.length + 1) q9) (l.length + 1) (cellsV l xs ++ cellV t x)) (hg : (wr.alloc ob).grownBy w9 (Value.slice AI l.length cI).ownBlock) (hat : (Value.slice AI l.length cI).ownBlock = some g9 ∨ g9 = wr.heap.size + 1) :
    MkV B w3 P (l ++ [t]) ks (some ⟨g9, 0, none⟩) q9 AK cK (w9.setCell ⟨P, 4, none⟩ (.slice (some ⟨g9, 0, none⟩) (l.length + 1) q9)) := by
  have hlt := h.lt
  have hle := h.le
  have hs := h.gr.size
  have hne : some P ≠ (Value.slice AI l.length cI).ownBlock := fun e => by have := own_base h1 P e.symm; omega
  have hb9 := (h.bl.alloc ob).only hg hne
  have hput := grown_put (grown_refl w9 (some P)) 4 (.slice (some ⟨g9, 0, none⟩) (l.length + 1) q9)
  have hrk9 := World.ownsRow.kept (h.rk.alloc ob) hg (own_apart h.rk h1 (by decide))
  have hlen : (l ++ [t]).length = l.length + 1 := by simp
  have hmv : ∀ j, j < wr.heap.size → SV B (.slice AI l.length cI) (.slice AK ks.length cK) j → SV B (.slice (some ⟨g9, 0, none⟩) (l.length + 1) q9) (.slice AK ks.length cK) j ∧ (w9.setCell ⟨P, 4, none⟩ (.slice (some ⟨g9, 0, none⟩) (l.length + 1) q9)).heap[j]? = wr.heap[j]? := fun j hj hs' => by
    refine ⟨⟨hs'.1, fun e => ?_, hs'.2.2⟩, ?_⟩
    · simp only [Value.ownBlock, Option.some.injEq] at e
      rcases hat with h | h
      · exact hs'.2.1 (by rw [h, e])
      · omega
    · have hjP : j ≠ P := by have := hs'.1; omega
      have e1 : (w9.setCell ⟨P, 4, none⟩ (.slice (some ⟨g9, 0, none⟩) (l.length + 1) q9)).heap[j]? = w9.heap[j]? := heap_setCell_other w9 ⟨P, 4, none⟩ j _ hjP
      rw [e1]
      exact (hg.block j (by show j < (wr.alloc ob).heap.size; simp; omega) hs'.2.1).trans (Below.heap_alloc wr ob j hj)
  refine ⟨?_, ⟨xs ++ [x], ?_, ?_⟩, World.ownsRow.kept hrk9 hput (own_notP hrk9 hlt), ?_, hlt, hle⟩
  · rw [hlen]
    exact hb9.put 4 _
  · rw [hlen, cellsV_snoc _ _ _ _ h2.len]
    exact World.ownsRow.kept ho hput (own_notP ho hlt)
  · rw [hlen]
    exact (h2.move hmv).snoc (RdV.move hmv _ _ hx)
  · exact grown_trans (grown_join (grown_alloc h.gr ob) hg (.inr fun g hg => by have := own_base h1 g hg; omega)) hput
end
end Nd
end Go.Proofs.YtbcckpnngonoeaaGreatDoor

