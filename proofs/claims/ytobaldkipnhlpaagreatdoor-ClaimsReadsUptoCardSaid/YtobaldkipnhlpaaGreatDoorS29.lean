/-
  What is held while an object's claims are read.
  Walks of package claims: Read.
-/
import Derived.Test.YtobaldkipnhlpaaGreatDoorS26
import Derived.Test.YtobaldkipnhlpaaGreatDoorS8
import Derived.Lib.OwnKind
set_option linter.unusedVariables false
set_option linter.unusedSimpArgs false
set_option maxRecDepth 100000
set_option maxHeartbeats 16000000
namespace Go.Proofs.YtobaldkipnhlpaaGreatDoor
open Go.RowKit Mem Utf Ref3 Idx Tok TokC Cl
namespace Nd
def OwnE (B : Nat) (w : World) (u : Value) (l : List Trl) : Prop := w.ownsRow B 28 1 u l.length (l.map tlV)
def Dj (a b : Value) : Prop := a.ownBlock = none ∨ a.ownBlock ≠ b.ownBlock
structure RSt (wS : World) (gc : Nat) (c : C) (errs : List Trl) (v0 v4 v7 va : Value) (wr : World) : Prop where
 gcl : gc < wS.heap.size
 blk : Blk wr gc 38 (clCells c v0 v4 v7)
 h0 : OwnT wS.heap.size wr v0 c.has
 h4 : OwnT wS.heap.size wr v4 c.for_
 h7 : OwnT wS.heap.size wr v7 c.may_
 ha : OwnE wS.heap.size wr va errs
 d4 : Dj v4 v0
 d7 : Dj v7 v0
 gr : wS.grownBy wr (some gc)
section
variable {wS wr w' : World} {gc : Nat} {c d : C} {errs : List Trl} {v0 v4 v7 va u : Value}
theorem RSt.size (h : RSt wS gc c errs v0 v4 v7 va wr) : wS.heap.size ≤ wr.heap.size := h.gr.size
theorem RSt.below (h : RSt wS gc c errs v0 v4 v7 va wr) (hb : Below wr.heap.size wr w') : RSt wS gc c errs v0 v4 v7 va w' :=
 ⟨h.gcl, h.blk.below hb h.blk.lt, own_below h.h0 hb, own_below h.h4 hb, own_below h.h7 hb, own_below h.ha hb, h.d4, h.d7, grown_below h.gr hb⟩
theorem own_far {w w' : World} {B n : Nat} {e : TypeId} {v : Value} {xs : List Value} (h : w.ownsRow B e 1 v n xs) {g : Nat} (hg : g < B) (hb : w.grownBy w' (some g)) : w'.ownsRow B e 1 v n xs :=
 h.kept hb (.inr fun e => by have := (h.lt g e).1; omega)
theorem own_part {w : World} {B1 B2 n1 n2 : Nat} {e1 e2 : TypeId} {a b : Value} {xs ys : List Value} (h1 : w.ownsRow B1 e1 1 a n1 xs) (h2 : w.ownsRow B2 e2 1 b n2 ys) (hne : e1 ≠ e2) : a.ownBlock = none ∨ a.ownBlock ≠ b.ownBlock := by
 cases ha : a.ownBlock with
 | none => exact .inl rfl
 | some g =>
  refine .inr fun e => ?_
  obtain ⟨c1, f1, k1⟩ := Go.Lib.ownsRow_kind h1 g ha
  obtain ⟨c2, f2, k2⟩ := Go.Lib.ownsRow_kind h2 g e.symm
  rw [k1] at k2
  injection k2 with k2
  injection k2 with _ k2 _
  exact hne k2
theorem own_new {w w' : World} {B n : Nat} {e : TypeId} {v : Value} {xs : List Value} {m g : Nat} {cap : Nat} {b : Value} (h : w.ownsRow B e 1 v n xs) (hd : Dj v b) (hat : b.ownBlock = some g ∨ g = w.heap.size) : Dj v (.slice (some ⟨g, 0, none⟩) m cap) := by
 rcases hd with hd | hd
 ·exact .inl hd
 ·refine .inr fun e => ?_
  have e' : v.ownBlock = some g := e
  rcases hat with hat | hat
  ·exact hd (e'.trans hat.symm)
  ·have := (h.lt g e').2
   omega
theorem RSt.hasAdd (h : RSt wS gc c errs v0 v4 v7 va wr) {k g cap : Nat} {w9 : World} (hown : w9.ownsRow wS.heap.size 9 1 (.slice (some ⟨g, 0, none⟩) (c.has.length + 1) cap) (c.has.length + 1) (c.has.map strV ++ [strV (key k)])) (hgr : wr.grownBy w9 v0.ownBlock) (hat : v0.ownBlock = some g ∨ g = wr.heap.size) :
  RSt wS gc (withHas c k) errs (.slice (some ⟨g, 0, none⟩) (c.has.length + 1) cap) v4 v7 va (w9.setCell ⟨gc, 0, none⟩ (.slice (some ⟨g, 0, none⟩) (c.has.length + 1) cap)) := by
 have hgc : ∀ j, v0.ownBlock = some j → wS.heap.size ≤ j := fun j e => (h.h0.lt j e).1
 have hgl := h.gcl
 have hp : w9.grownBy (w9.setCell ⟨gc, 0, none⟩ (.slice (some ⟨g, 0, none⟩) (c.has.length + 1) cap)) (some gc) := grown_put (grown_refl _ _) 0 _
 have e : (withHas c k).has.map strV = c.has.map strV ++ [strV (key k)] := by
  unfold withHas
  rw [List.map_append]
  rfl
 have el : (withHas c k).has.length = c.has.length + 1 := by
  unfold withHas
  rw [List.length_append]
  rfl
 refine ⟨hgl, ?_, ?_, ?_, ?_, ?_, ?_, ?_, ?_⟩
 ·exact (h.blk.only hgr (fun e => by have := hgc gc e.symm; omega)).put 0 _
 ·unfold OwnT
  rw [el, e]
  exact own_far hown hgl hp
 ·exact own_far (h.h4.kept hgr h.d4) hgl hp
 ·exact own_far (h.h7.kept hgr h.d7) hgl hp
 ·exact own_far (h.ha.kept hgr (own_part h.ha h.h0 (by decide))) hgl hp
 ·exact own_new (w' := w9) h.h4 h.d4 hat
 ·exact own_new (w' := w9) h.h7 h.d7 hat
 ·exact grown_put (grown_join h.gr hgr (.inr hgc)) 0 _
theorem RSt.set (h : RSt wS gc c errs v0 v4 v7 va wr) {u4 u7 : Value} (hh : d.has = c.has) (hg : wr.grownBy w' (some gc)) (hB : Blk w' gc 38 (clCells d v0 u4 u7)) (h4 : u4 = v4 ∧ d.for_ = c.for_ ∨ OwnT wr.heap.size w' u4 d.for_) (h7 : u7 = v7 ∧ d.may_ = c.may_ ∨ OwnT wr.heap.size w' u7 d.may_) :
  RSt wS gc d errs v0 u4 u7 va w' := by
 have hgl := h.gcl
 have hs := h.size
 have dj : ∀ {u v : Value} {l : List Txt}, OwnT wr.heap.size w' u l → Dj u v0 := fun {u v l} hu => by
  cases hu' : u.ownBlock with
  | none => exact .inl hu'
  | some g =>
   refine .inr fun e => ?_
   rw [hu'] at e
   have h1 := (hu.lt g hu').1
   have h2 := (h.h0.lt g e.symm).2
   omega
 refine ⟨hgl, hB, ?_, ?_, ?_, own_far h.ha hgl hg, ?_, ?_, grown_trans h.gr hg⟩
 ·rw [hh]
  exact own_far h.h0 hgl hg
 ·rcases h4 with ⟨rfl, e⟩ | h4
  ·rw [e]
   exact own_far h.h4 hgl hg
  ·exact own_baseR h4 hs
 ·rcases h7 with ⟨rfl, e⟩ | h7
  ·rw [e]
   exact own_far h.h7 hgl hg
  ·exact own_baseR h7 hs
 ·rcases h4 with ⟨rfl, e⟩ | h4
  ·exact h.d4
  ·exact dj (v := v4) h4
 ·rcases h7 with ⟨rfl, e⟩ | h7
  ·exact h.d7
  ·exact dj (v := v7) h7
theorem RSt.errAdd (h : RSt wS gc c errs v0 v4 v7 va wr) {x : Trl} {w9 : World} (hown : w9.ownsRow wS.heap.size 28 1 u (errs.length + 1) (errs.map tlV ++ [tlV x])) (hgr : wr.grownBy w9 va.ownBlock) :
  RSt wS gc c (errs ++ [x]) v0 v4 v7 u w9 := by
 have hgc : ∀ j, va.ownBlock = some j → wS.heap.size ≤ j := fun j e => (h.ha.lt j e).1
 have hgl := h.gcl
 refine ⟨hgl, h.blk.only hgr (fun e => by have := hgc gc e.symm; omega), h.h0.kept hgr (own_part h.h0 h.ha (by decide)), h.h4.kept hgr (own_part h.h4 h.ha (by decide)), h.h7.kept hgr (own_part h.h7 h.ha (by decide)), ?_, h.d4, h.d7, grown_join h.gr hgr (.inr hgc)⟩
 unfold OwnE
 rw [List.length_append, List.map_append]
 exact hown
theorem setK_has {k : Nat} {t : Tr} (hk : k < 8) (h : setK c k t = .inr d) : d.has = c.has := by
 rcases below8 hk with rfl | rfl | rfl | rfl | rfl | rfl | rfl | rfl
 ·rw [setK_0] at h
  split at h
  ·cases h
  ·injection h with h
   subst h
   rfl
 ·rw [setK_1] at h
  split at h
  ·cases h
  ·injection h with h
   subst h
   rfl
 ·rw [setK_2] at h
  split at h
  ·cases h
  ·injection h with h
   subst h
   rfl
 ·rw [setK_3] at h
  split at h
  ·cases h
  ·injection h with h
   subst h
   rfl
 ·rw [setK_4] at h
  split at h
  ·cases h
  ·injection h with h
   subst h
   rfl
 ·rw [setK_5] at h
  split at h
  ·cases h
  ·injection h with h
   subst h
   rfl
 ·rw [setK_6] at h
  split at h
  ·cases h
  ·injection h with h
   subst h
   rfl
 ·rw [setK_7] at h
  split at h
  ·cases h
  ·injection h with h
   subst h
   rfl
end
end Nd
end Go.Proofs.YtobaldkipnhlpaaGreatDoor
namespace Go.Proofs.YtobaldkipnhlpaaGreatDoor
open Go.RowKit Mem Utf Ref3 Idx Tok TokC Cl
namespace Nd
def zClaims : Array Value := #[.slice none 0 0, .string ⟨#[]⟩, .int .i64 0, .string ⟨#[]⟩, .slice none 0 0, .int .i64 0, .string ⟨#[]⟩, .slice none 0 0, .int .i64 0]
abbrev nineW (w : World) (P : Nat) (a b c d e f g h i : Value) : World := ((((((((w.setCell ⟨P, 0, none⟩ a).setCell ⟨P, 1, none⟩ b).setCell ⟨P, 2, none⟩ c).setCell ⟨P, 3, none⟩ d).setCell ⟨P, 4, none⟩ e).setCell ⟨P, 5, none⟩ f).setCell ⟨P, 6, none⟩ g).setCell ⟨P, 7, none⟩ h).setCell ⟨P, 8, none⟩ i
theorem nine_grown (w : World) (P : Nat) (a b c d e f g h i : Value) : w.grownBy (nineW w P a b c d e f g h i) (some P) := grown_put (grown_put (grown_put (grown_put (grown_put (grown_put (grown_put (grown_put (grown_put (grown_refl w _) 0 _) 1 _) 2 _) 3 _) 4 _) 5 _) 6 _) 7 _) 8 _
theorem nine_blk {w : World} {P : Nat} {t : TypeId} {z0 z1 z2 z3 z4 z5 z6 z7 z8 : Value} (h : Blk w P t #[z0, z1, z2, z3, z4, z5, z6, z7, z8]) (a b c d e f g k i : Value) : Blk (nineW w P a b c d e f g k i) P t #[a, b, c, d, e, f, g, k, i] := by
 have h0 : Blk (w.setCell ⟨P, 0, none⟩ a) P t #[a, z1, z2, z3, z4, z5, z6, z7, z8] := h.put 0 a
 have h1 : Blk ((w.setCell ⟨P, 0, none⟩ a).setCell ⟨P, 1, none⟩ b) P t #[a, b, z2, z3, z4, z5, z6, z7, z8] := h0.put 1 b
 have h2 : Blk (((w.setCell ⟨P, 0, none⟩ a).setCell ⟨P, 1, none⟩ b).setCell ⟨P, 2, none⟩ c) P t #[a, b, c, z3, z4, z5, z6, z7, z8] := h1.put 2 c
 have h3 : Blk ((((w.setCell ⟨P, 0, none⟩ a).setCell ⟨P, 1, none⟩ b).setCell ⟨P, 2, none⟩ c).setCell ⟨P, 3, none⟩ d) P t #[a, b, c, d, z4, z5, z6, z7, z8] := h2.put 3 d
 have h4 : Blk (((((w.setCell ⟨P, 0, none⟩ a).setCell ⟨P, 1, none⟩ b).setCell ⟨P, 2, none⟩ c).setCell ⟨P, 3, none⟩ d).setCell ⟨P, 4, none⟩ e) P t #[a, b, c, d, e, z5, z6, z7, z8] := h3.put 4 e
 have h5 : Blk ((((((w.setCell ⟨P, 0, none⟩ a).setCell ⟨P, 1, none⟩ b).setCell ⟨P, 2, none⟩ c).setCell ⟨P, 3, none⟩ d).setCell ⟨P, 4, none⟩ e).setCell ⟨P, 5, none⟩ f) P t #[a, b, c, d, e, f, z6, z7, z8] := h4.put 5 f
 have h6 : Blk (((((((w.setCell ⟨P, 0, none⟩ a).setCell ⟨P, 1, none⟩ b).setCell ⟨P, 2, none⟩ c).setCell ⟨P, 3, none⟩ d).setCell ⟨P, 4, none⟩ e).setCell ⟨P, 5, none⟩ f).setCell ⟨P, 6, none⟩ g) P t #[a, b, c, d, e, f, g, z7, z8] := h5.put 6 g
 have h7 : Blk ((((((((w.setCell ⟨P, 0, none⟩ a).setCell ⟨P, 1, none⟩ b).setCell ⟨P, 2, none⟩ c).setCell ⟨P, 3, none⟩ d).setCell ⟨P, 4, none⟩ e).setCell ⟨P, 5, none⟩ f).setCell ⟨P, 6, none⟩ g).setCell ⟨P, 7, none⟩ k) P t #[a, b, c, d, e, f, g, k, z8] := h6.put 7 k
 have h8 : Blk (((((((((w.setCell ⟨P, 0, none⟩ a).setCell ⟨P, 1, none⟩ b).setCell ⟨P, 2, none⟩ c).setCell ⟨P, 3, none⟩ d).setCell ⟨P, 4, none⟩ e).setCell ⟨P, 5, none⟩ f).setCell ⟨P, 6, none⟩ g).setCell ⟨P, 7, none⟩ k).setCell ⟨P, 8, none⟩ i) P t #[a, b, c, d, e, f, g, k, i] := h7.put 8 i
 exact h8
theorem rows_rd {w : World} {g : Nat} {rd : Nat → FuncId × Array Value} (h : Blk w g 106 (rowCells rd)) {k : Nat} (hk : k < 8) : w.cell? ⟨g, k * 5 + 1, none⟩ = some (.func (.func (rd k).1) #[] (rd k).2) := by
 have hc := fun i => h.cell i
 unfold rowCells at hc
 rcases below8 hk with rfl | rfl | rfl | rfl | rfl | rfl | rfl | rfl
 ·exact hc 1
 ·exact hc 6
 ·exact hc 11
 ·exact hc 16
 ·exact hc 21
 ·exact hc 26
 ·exact hc 31
 ·exact hc 36
theorem key_fine {k : Nat} (hk : k < 8) : rightB (key k) = true ∧ (key k).length ≤ 10 := by
 rcases below8 hk with rfl | rfl | rfl | rfl | rfl | rfl | rfl | rfl <;> decide
theorem path_cat (K : Txt) : (⟨#[47]⟩ : ByteArray) ++ ⟨K.toArray⟩ = ⟨(47 :: K).toArray⟩ := by
 apply ByteArray.ext
 simp
theorem info_err : (Tryz.prog.info? 28).map (fun i => (i.zero, i.size, i.bytes)) = some (some .nilIface, 1, 16) := by kernel_rfl
theorem readAt_none {t : Tr} {k : Nat} (h : onT (key k) t = none) : readAt t (k + 1) = readAt t k := by
 rw [readAt, readK, h]
theorem readAt_ok {t u : Tr} {k : Nat} {d : C} (h : onT (key k) t = some u) (hs : setK (withHas (readAt t k).1 k) k u = .inr d) : readAt t (k + 1) = (d, (readAt t k).2) := by
 rw [readAt, readK, h]
 dsimp only
 rw [hs]
theorem readAt_err {t u : Tr} {k : Nat} {e : Trl} (h : onT (key k) t = some u) (hs : setK (withHas (readAt t k).1 k) k u = .inl e) : readAt t (k + 1) = (withHas (readAt t k).1 k, (readAt t k).2 ++ [e]) := by
 rw [readAt, readK, h]
 dsimp only
 rw [hs]
theorem readt_nil (w : World) : Calls Tryz.prog 6 #[.pointer none] w fun e w' => e = .returned (.tuple #[.agg zClaims, .iface 49 (.int .i64 1)]) ∧ Below w.heap.size w w' := by
 have hb : Below w.heap.size w (w.alloc (.cells #[.slice none 0 0, .string ⟨#[]⟩, .int .i64 0, .string ⟨#[]⟩, .slice none 0 0, .int .i64 0, .string ⟨#[]⟩, .slice none 0 0, .int .i64 0] 38)) := (Below.refl _ _).alloc (Nat.le_refl _) _
 go_enter Tryz.func6, Tryz.ntmps6
 go_wp2
 refine bodyPost_ret (v := .tuple #[.agg #[.slice none 0 0, .string ⟨#[]⟩, .int .i64 0, .string ⟨#[]⟩, .slice none 0 0, .int .i64 0, .string ⟨#[]⟩, .slice none 0 0, .int .i64 0], .iface 49 (.int .i64 1)]) ?_ rfl ⟨rfl, ?_⟩
 ·simp [results, Tryz.results6, go_sem]
 ·exact hb
def ReadOP (t : Tr) (w : World) (e : Ending) (w' : World) : Prop :=
 (if (readC t).2 = [] then ∃ v0 v4 v7, e = .returned (.tuple #[.agg (clCells (readC t).1 v0 v4 v7), .nilIface]) ∧ OwnT w.heap.size w' v0 (readC t).1.has ∧ OwnT w.heap.size w' v4 (readC t).1.for_ ∧ OwnT w.heap.size w' v7 (readC t).1.may_
 else ∃ va, e = .returned (.tuple #[.agg zClaims, .iface 98 va]) ∧ OwnE w.heap.size w' va (readC t).2) ∧ Below w.heap.size w w'
theorem readt_sort (g : Nat) (t : Tr) (v : Value) (w0 w : World) (hB : Blk w0 g 87 #[v]) (h : RdA w0 t v) (hb0 : Below w0.heap.size w0 w) (hs : ¬ (t.srt : Int) = 6) : Calls Tryz.prog 6 #[.pointer (some ⟨g, 0, none⟩)] w fun e w' => e = .returned (.tuple #[.agg zClaims, tlV (5, [])]) ∧ Below w.heap.size w w' := by
 have hs6 : ((t.srt : Int) != 6) = true := by simpa using hs
 clear hs
 have hb1 : Below w.heap.size w (w.alloc (.cells #[.slice none 0 0, .string ⟨#[]⟩, .int .i64 0, .string ⟨#[]⟩, .slice none 0 0, .int .i64 0, .string ⟨#[]⟩, .slice none 0 0, .int .i64 0] 38)) := (Below.refl _ _).alloc (Nat.le_refl _) _
 have HBR := Lib.hid (Blk.new w 38 #[.slice none 0 0, .string ⟨#[]⟩, .int .i64 0, .string ⟨#[]⟩, .slice none 0 0, .int .i64 0, .string ⟨#[]⟩, .slice none 0 0, .int .i64 0])
 obtain ⟨tx, ux, rfl⟩ := h.iface
 have HR := Lib.hid h
 have HB0 := Lib.hid hb0
 have HTB := Lib.hid (hB.below (hb0.trans (hb1.mono hb0.size)) hB.lt)
 have HB1 := Lib.hid hb1
 clear hB h hb0 hb1
 go_enter Tryz.func6, Tryz.ntmps6
 go_wp2_with fail
 ((with_reducible refine (root_any g _ tx ux _ HTB.out).mono ?_); rintro e w1 ⟨rfl, hb2⟩)
 have HB2 := Lib.hid (HB1.out.trans (hb2.mono HB1.out.size))
 have HBR1 := Lib.hid (HBR.out.below hb2 HBR.out.lt)
 have hbr : Below w1.heap.size w1 (w1.alloc (.cells #[.iface tx ux] 93)) := (Below.refl _ _).alloc (Nat.le_refl _) _
 have HBX := Lib.hid (Blk.new w1 93 #[.iface tx ux])
 have HB3 := Lib.hid (HB2.out.trans (hbr.mono HB2.out.size))
 have HBR2 := Lib.hid (HBR1.out.below hbr HBR1.out.lt)
 have cx := HBX.out.cell 0
 simp at cx
 clear hb2 hbr HBR HBR1 HTB
 go_wp2_with fail
 ((with_reducible refine (sort_any (fun _ => True) t (.iface tx ux) _ (rda_below HR.out (HB0.out.trans (HB3.out.mono HB0.out.size)))).mono ?_); rintro e w2 ⟨rfl, hb4⟩)
 have HB4 := Lib.hid (HB3.out.trans (hb4.mono HB3.out.size))
 have HBX4 := Lib.hid (HBX.out.below hb4 HBX.out.lt)
 have HBR4 := Lib.hid (HBR2.out.below hb4 HBR2.out.lt)
 clear hb4 cx HBX HBR2
 have z0 := HBR4.out.cell 0
 have z1 := HBR4.out.cell 1
 have z2 := HBR4.out.cell 2
 have z3 := HBR4.out.cell 3
 have z4 := HBR4.out.cell 4
 have z5 := HBR4.out.cell 5
 have z6 := HBR4.out.cell 6
 have z7 := HBR4.out.cell 7
 have z8 := HBR4.out.cell 8
 have y0 := HBR4.out.frozen 0
 have y1 := HBR4.out.frozen 1
 have y2 := HBR4.out.frozen 2
 have y3 := HBR4.out.frozen 3
 have y4 := HBR4.out.frozen 4
 have y5 := HBR4.out.frozen 5
 have y6 := HBR4.out.frozen 6
 have y7 := HBR4.out.frozen 7
 have y8 := HBR4.out.frozen 8
 simp at z0 z1 z2 z3 z4 z5 z6 z7 z8
 go_wp2_with fail
 ((with_reducible refine (ctrail_any 5 [] _).mono ?_); rintro e w3 ⟨rfl, rfl⟩)
 go_wp2
 have hf := nine_blk HBR4.out (.slice none 0 0) (.string ⟨#[]⟩) (.int .i64 0) (.string ⟨#[]⟩) (.slice none 0 0) (.int .i64 0) (.string ⟨#[]⟩) (.slice none 0 0) (.int .i64 0)
 have hg := nine_grown w2 w.heap.size (.slice none 0 0) (.string ⟨#[]⟩) (.int .i64 0) (.string ⟨#[]⟩) (.slice none 0 0) (.int .i64 0) (.string ⟨#[]⟩) (.slice none 0 0) (.int .i64 0)
 unfold nineW at hf hg
 generalize (((((((((w2.setCell ⟨w.heap.size, 0, none⟩ (.slice none 0 0)).setCell ⟨w.heap.size, 1, none⟩ (.string ⟨#[]⟩)).setCell ⟨w.heap.size, 2, none⟩ (.int .i64 0)).setCell ⟨w.heap.size, 3, none⟩ (.string ⟨#[]⟩)).setCell ⟨w.heap.size, 4, none⟩ (.slice none 0 0)).setCell ⟨w.heap.size, 5, none⟩ (.int .i64 0)).setCell ⟨w.heap.size, 6, none⟩ (.string ⟨#[]⟩)).setCell ⟨w.heap.size, 7, none⟩ (.slice none 0 0)).setCell ⟨w.heap.size, 8, none⟩ (.int .i64 0)) = wf at *
 have e0 := hf.cell 0
 have e1 := hf.cell 1
 have e2 := hf.cell 2
 have e3 := hf.cell 3
 have e4 := hf.cell 4
 have e5 := hf.cell 5
 have e6 := hf.cell 6
 have e7 := hf.cell 7
 have e8 := hf.cell 8
 simp at e0 e1 e2 e3 e4 e5 e6 e7 e8
 refine bodyPost_ret (v := .tuple #[.agg #[.slice none 0 0, .string ⟨#[]⟩, .int .i64 0, .string ⟨#[]⟩, .slice none 0 0, .int .i64 0, .string ⟨#[]⟩, .slice none 0 0, .int .i64 0], tlV (5, [])]) ?_ rfl ⟨rfl, HB4.out.trans (below_of_grown hg (Nat.le_refl _) HB4.out.size)⟩
 simp [results, Tryz.results6, go_sem, e0, e1, e2, e3, e4, e5, e6, e7, e8, tlV]
end Nd
end Go.Proofs.YtobaldkipnhlpaaGreatDoor
