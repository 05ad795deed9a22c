/-
  What is held while an object's claims are read.
-/
import Derived.Test.YtbcckpnngonoeaaGreatDoorCrX
import Derived.Lib.OwnKind
namespace Go.Proofs.YtbcckpnngonoeaaGreatDoor
open Go.RowKit Mem Utf Ref3 Idx Tok TokC Cl
set_option linter.unusedVariables false
set_option linter.unusedSimpArgs false
namespace Nd
def OwnE (B : Nat) (w : World) (u : Value) (l : List Trl) : Prop := w.ownsRow B 30 1 u l.length (l.map tlV)
/-- one value's row is none of another one's -/
def Dj (a b : Value) : Prop := a.ownBlock = none ∨ a.ownBlock ≠ b.ownBlock
structure RSt (wS : World) (gc : Nat) (c : C) (errs : List Trl) (v0 v4 v7 va : Value) (wr : World) : Prop where
  gcl : gc < wS.heap.size
  blk : Blk wr gc 24 (clCells c v0 v4 v7)
  h0 : OwnT wS.heap.size wr v0 c.has
  h4 : OwnT wS.heap.size wr v4 c.for_
  h7 : OwnT wS.heap.size wr v7 c.may_
  ha : OwnE wS.heap.size wr va errs
  d4 : Dj v4 v0
  d7 : Dj v7 v0
  gr : wS.grownBy wr (some gc)
section
variable {wS wr w' : World} {gc : Nat} {c d : C} {errs : List Trl} {v0 v4 v7 va u : Value}
theorem RSt.size (h : RSt wS gc c errs v0 v4 v7 va wr) : wS.heap.size ≤ wr.heap.size := h.gr.size
theorem RSt.below (h : RSt wS gc c errs v0 v4 v7 va wr) (hb : Below wr.heap.size wr w') : RSt wS gc c errs v0 v4 v7 va w' :=
  ⟨h.gcl, h.blk.below hb h.blk.lt, own_below h.h0 hb, own_below h.h4 hb, own_below h.h7 hb, own_below h.ha hb, h.d4, h.d7, grown_below h.gr hb⟩
theorem own_far {w w' : World} {B n : Nat} {e : TypeId} {v : Value} {xs : List Value} (h : w.ownsRow B e 1 v n xs) {g : Nat} (hg : g < B) (hb : w.grownBy w' (some g)) : w'.ownsRow B e 1 v n xs :=
  h.kept hb (.inr fun e => by have := (h.lt g e).1; omega)
theorem own_part {w : World} {B1 B2 n1 n2 : Nat} {e1 e2 : TypeId} {a b : Value} {xs ys : List Value} (h1 : w.ownsRow B1 e1 1 a n1 xs) (h2 : w.ownsRow B2 e2 1 b n2 ys) (hne : e1 ≠ e2) : a.ownBlock = none ∨ a.ownBlock ≠ b.ownBlock := by
  cases ha : a.ownBlock with
  | none => exact .inl rfl
  | some g =>
    refine .inr fun e => ?_
    obtain ⟨c1, f1, k1⟩ := Go.Lib.ownsRow_kind h1 g ha
    obtain ⟨c2, f2, k2⟩ := Go.Lib.ownsRow_kind h2 g e.symm
    rw [k1] at k2
    injection k2 with k2
    injection k2 with _ k2 _
    exact hne k2
theorem own_new {w w' : World} {B n : Nat} {e : TypeId} {v : Value} {xs : List Value} {m g : Nat} {cap : Nat} {b : Value} (h : w.ownsRow B e 1 v n xs) (hd : Dj v b) (hat : b.ownBlock = some g ∨ g = w.heap.size) : Dj v (.slice (some ⟨g, 0, none⟩) m cap) := by
  rcases hd with hd | hd
  · exact .inl hd
  · refine .inr fun e => ?_
    have e' : v.ownBlock = some g := e
    rcases hat with hat | hat
    · exact hd (e'.trans hat.symm)
    · have := (h.lt g e').2
      omega
/-- a key is put behind the others -/
theorem RSt.hasAdd (h : RSt wS gc c errs v0 v4 v7 va wr) {k g cap : Nat} {w9 : World} (hown : w9.ownsRow wS.heap.size 9 1 (.slice (some ⟨g, 0, none⟩) (c.has.length + 1) cap) (c.has.length + 1) (c.has.map strV ++ [strV (key k)])) (hgr : wr.grownBy w9 v0.ownBlock) (hat : v0.ownBlock = some g ∨ g = wr.heap.size) :
    RSt wS gc (withHas c k) errs (.slice (some ⟨g, 0, none⟩) (c.has.length + 1) cap) v4 v7 va (w9.setCell ⟨gc, 0, none⟩ (.slice (some ⟨g, 0, none⟩) (c.has.length + 1) cap)) := by
  have hgc : ∀ j, v0.ownBlock = some j → wS.heap.size ≤ j := fun j e => (h.h0.lt j e).1
  have hgl := h.gcl
  have hp : w9.grownBy (w9.setCell ⟨gc, 0, none⟩ (.slice (some ⟨g, 0, none⟩) (c.has.length + 1) cap)) (some gc) := grown_put (grown_refl _ _) 0 _
  have e : (withHas c k).has.map strV = c.has.map strV ++ [strV (key k)] := by
    unfold withHas
    rw [List.map_append]
    rfl
  have el : (withHas c k).has.length = c.has.length + 1 := by
    unfold withHas
    rw [List.length_append]
    rfl
  refine ⟨hgl, ?_, ?_, ?_, ?_, ?_, ?_, ?_, ?_⟩
  · exact (h.blk.only hgr (fun e => by have := hgc gc e.symm; omega)).put 0 _
  · unfold OwnT
    rw [el, e]
    exact own_far hown hgl hp
  · exact own_far (h.h4.kept hgr h.d4) hgl hp
  · exact own_far (h.h7.kept hgr h.d7) hgl hp
  · exact own_far (h.ha.kept hgr (own_part h.ha h.h0 (by decide))) hgl hp
  · exact own_new (w' := w9) h.h4 h.d4 hat
  · exact own_new (w' := w9) h.h7 h.d7 hat
  · exact grown_put (grown_join h.gr hgr (.inr hgc)) 0 _
/-- a claim is set -/
theorem RSt.set (h : RSt wS gc c errs v0 v4 v7 va wr) {u4 u7 : Value} (hh : d.has = c.has) (hg : wr.grownBy w' (some gc)) (hB : Blk w' gc 24 (clCells d v0 u4 u7)) (h4 : u4 = v4 ∧ d.for_ = c.for_ ∨ OwnT wr.heap.size w' u4 d.for_) (h7 : u7 = v7 ∧ d.may_ = c.may_ ∨ OwnT wr.heap.size w' u7 d.may_) :
    RSt wS gc d errs v0 u4 u7 va w' := by
  have hgl := h.gcl
  have hs := h.size
  have dj : ∀ {u v : Value} {l : List Txt}, OwnT wr.heap.size w' u l → Dj u v0 := fun {u v l} hu => by
    cases hu' : u.ownBlock with
    | none => exact .inl hu'
    | some g =>
      refine .inr fun e => ?_
      rw [hu'] at e
      have h1 := (hu.lt g hu').1
      have h2 := (h.h0.lt g e.symm).2
      omega
  refine ⟨hgl, hB, ?_, ?_, ?_, own_far h.ha hgl hg, ?_, ?_, grown_trans h.gr hg⟩
  · rw [hh]
    exact own_far h.h0 hgl hg
  · rcases h4 with ⟨rfl, e⟩ | h4
    · rw [e]
      exact own_far h.h4 hgl hg
    · exact own_baseR h4 hs
  · rcases h7 with ⟨rfl, e⟩ | h7
    · rw [e]
      exact own_far h.h7 hgl hg
    · exact own_baseR h7 hs
  · rcases h4 with ⟨rfl, e⟩ | h4
    · exact h.d4
    · exact dj (v := v4) h4
  · rcases h7 with ⟨rfl, e⟩ | h7
    · exact h.d7
    · exact dj (v := v7) h7
/-- an error is put behind the others -/
theorem RSt.errAdd (h : RSt wS gc c errs v0 v4 v7 va wr) {x : Trl} {w9 : World} (hown : w9.ownsRow wS.heap.size 30 1 u (errs.length + 1) (errs.map tlV ++ [tlV x])) (hgr : wr.grownBy w9 va.ownBlock) :
    RSt wS gc c (errs ++ [x]) v0 v4 v7 u w9 := by
  have hgc : ∀ j, va.ownBlock = some j → wS.heap.size ≤ j := fun j e => (h.ha.lt j e).1
  have hgl := h.gcl
  refine ⟨hgl, h.blk.only hgr (fun e => by have := hgc gc e.symm; omega), h.h0.kept hgr (own_part h.h0 h.ha (by decide)), h.h4.kept hgr (own_part h.h4 h.ha (by decide)), h.h7.kept hgr (own_part h.h7 h.ha (by decide)), ?_, h.d4, h.d7, grown_join h.gr hgr (.inr hgc)⟩
  unfold OwnE
  rw [List.length_append, List.map_append]
  exact hown
theorem setK_has {k : Nat} {t : Tr} (hk : k < 8) (h : setK c k t = .inr d) : d.has = c.has := by
  rcases below8 hk with rfl | rfl | rfl | rfl | rfl | rfl | rfl | rfl
  · rw [setK_0] at h
    split at h
    · cases h
    · injection h with h
      subst h
      rfl
  · rw [setK_1] at h
    split at h
    · cases h
    · injection h with h
      subst h
      rfl
  · rw [setK_2] at h
    split at h
    · cases h
    · injection h with h
      subst h
      rfl
  · rw [setK_3] at h
    split at h
    · cases h
    · injection h with h
      subst h
      rfl
  · rw [setK_4] at h
    split at h
    · cases h
    · injection h with h
      subst h
      rfl
  · rw [setK_5] at h
    split at h
    · cases h
    · injection h with h
      subst h
      rfl
  · rw [setK_6] at h
    split at h
    · cases h
    · injection h with h
      subst h
      rfl
  · rw [setK_7] at h
    split at h
    · cases h
    · injection h with h
      subst h
      rfl
end
end Nd
end Go.Proofs.YtbcckpnngonoeaaGreatDoor

