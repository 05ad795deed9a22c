/-
  The walk of package pointer's All: all values of a tree, each with its pointer.
-/
import Derived.Test.YtlailcmhpnnidaaGreatDoorX32
import Derived.Test.YtlailcmhpnnidaaGreatDoorX19
set_option linter.unusedVariables false
set_option linter.unusedSimpArgs false
set_option maxRecDepth 100000
set_option maxHeartbeats 16000000
namespace Go.Proofs.YtlailcmhpnnidaaGreatDoor
open Go.RowKit Go.Shelf Mem Rg Tok
namespace Nd
attribute [local go_sem] Oper.semAt_some
def ElOk (w0 : World) (x : Tx × Tr × Value) : Prop := RdT (fun k => k < w0.heap.size) w0 x.2.1 x.2.2 ∧ x.2.1.Ok ∧ x.2.1.fit = true
abbrev ElT (w0 : World) : Type := { x : Tx × Tr × Value // ElOk w0 x }
abbrev encE {w0 : World} (x : ElT w0) : Array Value := #[.string ⟨x.1.1.toArray⟩, .agg #[x.1.2.2]]
def prE {w0 : World} (x : ElT w0) : Tx × Tr := (x.1.1, x.1.2.1)
def WkP {w0 : World} (J Jx : (Nat → Prop) → List (ElT w0) → World → Prop) (C : Nat → Prop) (pre : List (ElT w0)) (s : Tx) (t : Tr) (W : World) (e : Ending) (W' : World) : Prop :=
 (e = .returned (.bool true) ∧ ∃ C' ys, ys.map prE = allT s t ∧ J C' (pre ++ ys) W' ∧ Fr C W W' ∧ Nw C C' W) ∨ (e = .returned (.bool false) ∧ ∃ C' ys, Jx C' (pre ++ ys) W' ∧ Fr C W W' ∧ Nw C C' W)
structure WkEnv (w0 : World) (l by_ bw : Nat) (C : Nat → Prop) (W : World) : Prop where
 below : Below w0.heap.size w0 W
 yb : Boxed W by_ 156 (.func (.yield l) #[] #[])
 wb : Boxed W bw 156 (.func (.func 59) #[] #[.pointer (some ⟨by_, 0, none⟩), .pointer (some ⟨bw, 0, none⟩)])
 cs : ∀ k, C k → w0.heap.size ≤ k ∧ k ≠ by_ ∧ k ≠ bw
 ge : w0.heap.size ≤ by_ ∧ w0.heap.size ≤ bw
theorem boxed_fr {C : Nat → Prop} {W W' : World} {b : Nat} {t : TypeId} {v : Value} (h : Boxed W b t v) (hF : Fr C W W') (hc : ¬ C b) : Boxed W' b t v := (hF.block b h.lt hc).trans h
theorem boxed_new {W W' : World} {b : Nat} {t : TypeId} {v : Value} (h : Boxed W b t v) (hb : Below W.heap.size W W') : Boxed W' b t v := (hb.block b h.lt).trans h
theorem WkEnv.step {w0 : World} {l by_ bw : Nat} {C C' : Nat → Prop} {W W' : World} (h : WkEnv w0 l by_ bw C W) (hF : Fr C W W') (hN : Nw C C' W) : WkEnv w0 l by_ bw C' W' :=
 ⟨h.below.trans (hF.below h.below.size fun k _ hk => (h.cs k hk).1), boxed_fr h.yb hF fun hc => (h.cs _ hc).2.1 rfl, boxed_fr h.wb hF fun hc => (h.cs _ hc).2.2 rfl, fun k hk => by
  rcases hN k hk with h1 | h1
  ·exact h.cs k h1
  ·have h2 := h.yb.lt
   have h3 := h.wb.lt
   have h4 := h.below.size
   exact ⟨by omega, by omega, by omega⟩, h.ge⟩
theorem WkEnv.new {w0 : World} {l by_ bw : Nat} {C : Nat → Prop} {W W' : World} (h : WkEnv w0 l by_ bw C W) (hb : Below W.heap.size W W') : WkEnv w0 l by_ bw C W' := h.step (Fr.of_below hb) (Nw.refl _ _)
theorem fr_set (E : Nat → Prop) (W : World) (b : Nat) (v : Value) (h : E b) : Fr E W (W.setCell ⟨b, 0, none⟩ v) := by
 have hg := grownBy_setCell' W b v
 exact ⟨hg.os, hg.tape, hg.output, hg.size, fun k hk hc => hg.block k hk fun e => by injection e with e; exact hc (e ▸ h)⟩
theorem fr_new (E : Nat → Prop) {W W' : World} (hb : Below W.heap.size W W') : Fr E W W' := Fr.of_below hb
theorem en_walk (args : Array Value) (w : World) : (callFunc 59 args).run Tryz.prog w = .ok (.enter 59 args) w := by kernel_rfl
theorem allK_pre : ∀ (l : List Tr) (s : Tx) (ks : List Tx) (k : Nat), allK s ks (l.take k) <+: allK s ks l
 | [], s, ks, k => by simp
 | t :: l, s, ks, 0 => by rw [List.take_zero, allK_nil]; exact List.nil_prefix
 | t :: l, s, ks, k + 1 => by
  rw [List.take_succ_cons, allK_cons, allK_cons]
  exact (List.prefix_append_right_inj _).2 (allK_pre l s ks.tail k)
def WkAll (w0 : World) (l by_ bw B : Nat) (L0 : List (Tx × Tr)) (J Jx : (Nat → Prop) → List (ElT w0) → World → Prop) (t : Tr) : Prop :=
 ∀ (m : Nat) (s : Tx) (v : Value) (C : Nat → Prop) (pre : List (ElT w0)) (W : World), RdT (fun k => k < w0.heap.size) w0 t v → WkEnv w0 l by_ bw C W → B ≤ W.heap.size → J C pre W → (pre.map prE ++ allT s t) <+: L0 → s.length + ptrRoom t ≤ 8388608 →
  CallsIn Fence.wide m Tryz.prog 59 #[.string ⟨s.toArray⟩, .agg #[v], .pointer (some ⟨by_, 0, none⟩), .pointer (some ⟨bw, 0, none⟩)] W (WkP J Jx C pre s t W)
def WkI {w0 : World} (J : (Nat → Prop) → List (ElT w0) → World → Prop) (pre : List (ElT w0)) (s : Tx) (t : Tr) (bi bres : Nat) (C : Nat → Prop) (pre1 : List (Fin t.kids.length)) (W : World) : Prop :=
 ∃ (C1 X : Nat → Prop) (ys : List (ElT w0)), (∀ k, C k ↔ C1 k ∨ X k) ∧ X bi ∧ X bres ∧ (∀ k, X k → ¬ C1 k ∧ k < W.heap.size) ∧ Boxed W bi 3 (.int .i64 (pre1.length : Nat)) ∧ Boxed W bres 4 (.bool false) ∧ J C1 (pre ++ ys) W ∧ ys.map prE = (s, t) :: allK s (kidToks t) (t.kids.take pre1.length)
def WkX {w0 : World} (Jx : (Nat → Prop) → List (ElT w0) → World → Prop) (pre : List (ElT w0)) (t : Tr) (bres : Nat) (c : Code) (C : Nat → Prop) (pre1 : List (Fin t.kids.length)) (W : World) : Prop :=
 c = .ret ∧ ∃ (C1 X : Nat → Prop) (ys : List (ElT w0)), (∀ k, C k ↔ C1 k ∨ X k) ∧ X bres ∧ (∀ k, X k → ¬ C1 k ∧ k < W.heap.size) ∧ Boxed W bres 4 (.bool false) ∧ Jx C1 (pre ++ ys) W
theorem wkI_abd {w0 : World} {J : (Nat → Prop) → List (ElT w0) → World → Prop} {pre : List (ElT w0)} {s : Tx} {t : Tr} {bi bres B B' : Nat} (aJ : Abd B J) (hB : B ≤ B') : Abd B' (WkI J pre s t bi bres) := by
 rintro C pre1 W W' ⟨C1, X, ys, hC, h1, h2, h3, h4, h5, h6, h7⟩ hF
 exact ⟨C1, X, ys, hC, h1, h2, fun k hk => ⟨(h3 k hk).1, Nat.lt_of_lt_of_le (h3 k hk).2 hF.size⟩, boxed_fr h4 hF fun hc => hc.2 ((hC _).2 (.inr h1)), boxed_fr h5 hF fun hc => hc.2 ((hC _).2 (.inr h2)), aJ _ _ _ _ h6 (hF.mono fun k _ hk => ⟨by omega, fun hc => hk.2 ((hC k).2 (.inl hc))⟩), h7⟩
theorem wkX_abd {w0 : World} {Jx : (Nat → Prop) → List (ElT w0) → World → Prop} {pre : List (ElT w0)} {t : Tr} {bres B B' : Nat} (aJ : Abd B Jx) (hB : B ≤ B') (c : Code) : Abd B' (WkX Jx pre t bres c) := by
 rintro C pre1 W W' ⟨hc, C1, X, ys, hC, h2, h3, h5, h6⟩ hF
 exact ⟨hc, C1, X, ys, hC, h2, fun k hk => ⟨(h3 k hk).1, Nat.lt_of_lt_of_le (h3 k hk).2 hF.size⟩, boxed_fr h5 hF fun hc => hc.2 ((hC _).2 (.inr h2)), aJ _ _ _ _ h6 (hF.mono fun k _ hk => ⟨by omega, fun hc => hk.2 ((hC k).2 (.inl hc))⟩)⟩
theorem wkI_bdd {w0 : World} {J : (Nat → Prop) → List (ElT w0) → World → Prop} {pre : List (ElT w0)} {s : Tx} {t : Tr} {bi bres : Nat} (bJ : Bdd J) : Bdd (WkI J pre s t bi bres) := by
 rintro C pre1 W ⟨C1, X, ys, hC, h1, h2, h3, h4, h5, h6, h7⟩ k hk
 rcases (hC k).1 hk with h | h
 ·exact bJ _ _ _ h6 k h
 ·exact (h3 k h).2
theorem wkX_bdd {w0 : World} {Jx : (Nat → Prop) → List (ElT w0) → World → Prop} {pre : List (ElT w0)} {t : Tr} {bres : Nat} (bJ : Bdd Jx) (c : Code) : Bdd (WkX Jx pre t bres c) := by
 rintro C pre1 W ⟨hc, C1, X, ys, hC, h2, h3, h5, h6⟩ k hk
 rcases (hC k).1 hk with h | h
 ·exact bJ _ _ _ h6 k h
 ·exact (h3 k h).2
theorem kid_tok6 {t : Tr} (h : t.srt = 6) (j : Nat) : (kidToks t)[j]?.getD [] = t.kn[j]?.getD [] := by
 cases t with
 | obj ks l => rfl
 | _ => simp [Tr.srt] at h
theorem kid_tok5 {t : Tr} (h : ¬ t.srt = 6) (j : Nat) (hj : j < t.kids.length) : (kidToks t)[j]?.getD [] = Lib.itoa (j : Int) := by
 cases t with
 | obj ks l => exact absurd rfl h
 | list l => exact idxTok_at l.length j hj
 | _ => simp [Tr.kids] at hj
theorem wrap_one (j : Nat) (h : j ≤ 1048576) : wrap64 ((j : Int) + 1) = ((j + 1 : Nat) : Int) := by
 unfold wrap64
 omega
theorem kn_room {t : Tr} (hf : t.fit = true) (ho : t.Ok) (j : Nat) : (t.kn[j]?.getD []).length ≤ 2097152 := by
 have hb := (fit_le hf).2.1
 cases t with
 | obj ks l =>
  unfold Tr.bytes at hb
  simp only [Tr.kn]
  rcases Nat.lt_or_ge j ks.length with h1 | h1
  ·rw [List.getElem?_eq_getElem h1]
   have := lens_at ks j h1
   simp only [Option.getD_some]
   omega
  ·rw [List.getElem?_eq_none h1]
   simp
 | _ => simp [Tr.kn]
theorem wk_next {w0 : World} {J : (Nat → Prop) → List (ElT w0) → World → Prop} {B bi br : Nat} (aJ : Abd B J) {t : Tr} {x : Fin t.kids.length} {s : Tx} {C C1 C2 X : Nat → Prop} {pre ys zs : List (ElT w0)} {pre1 : List (Fin t.kids.length)} {W7 W9 W11 : World} (hBi : B ≤ bi) (hne : bi ≠ br)
  (hC : ∀ k, C k ↔ C1 k ∨ X k) (h1 : X bi) (h2 : X br) (h3 : ∀ k, X k → ¬ C1 k ∧ k < W7.heap.size) (hb : Below W7.heap.size W7 W9) (hz : zs.map prE = allT (s ++ piece ((kidToks t)[x.1]?.getD [])) t.kids[x]) (hJ : J C2 (pre ++ ys ++ zs) W11) (hF : Fr C1 W9 W11) (hN : Nw C1 C2 W9)
  (b1 : Boxed W11 bi 3 (.int .i64 (x.1 : Nat))) (b2 : Boxed W11 br 4 (.bool false)) (h7 : ys.map prE = (s, t) :: allK s (kidToks t) (t.kids.take x.1)) (hx : pre1.length = x.1) :
  ∃ C', WkI J pre s t bi br C' (pre1 ++ [x]) (W11.setCell ⟨bi, 0, none⟩ (.int .i64 ((x.1 + 1 : Nat) : Int))) ∧ Fr C W7 (W11.setCell ⟨bi, 0, none⟩ (.int .i64 ((x.1 + 1 : Nat) : Int))) ∧ Nw C C' W7 := by
 have hX2 : ∀ k, X k → ¬ C2 k := fun k hk hc => by
  rcases hN k hc with h | h
  ·exact (h3 k hk).1 h
  ·have := (h3 k hk).2; have := hb.size; omega
 have hs9 := hb.size
 have hs11 := hF.size
 refine ⟨fun k => C2 k ∨ X k, ⟨C2, X, ys ++ zs, fun k => Iff.rfl, h1, h2, fun k hk => ⟨hX2 k hk, by have := (h3 k hk).2; simp; omega⟩, ?_, b2.other (Ne.symm hne) _, ?_, ?_⟩, ?_, ?_⟩
 ·rw [List.length_append, hx]
  exact b1.set _
 ·rw [← List.append_assoc]
  exact aJ _ _ _ _ hJ (fr_set _ W11 _ _ ⟨hBi, hX2 _ h1⟩)
 ·rw [List.map_append, h7, hz, List.length_append, hx, List.length_singleton, allK_take t.kids s (kidToks t) x.1 x.2]
  rfl
 ·exact ((fr_new C hb).trans hF fun k _ hk => (hC k).2 (.inl hk)).trans (fr_set (fun k => k = bi) W11 _ _ rfl) fun k _ hk => (hC k).2 (.inr (by rw [hk]; exact h1))
 ·intro k hk
  rcases hk with hk | hk
  ·rcases hN k hk with h | h
   ·exact .inl ((hC k).2 (.inl h))
   ·exact .inr (by omega)
  ·exact .inl ((hC k).2 (.inr hk))
theorem wk_left {w0 : World} {Jx : (Nat → Prop) → List (ElT w0) → World → Prop} {B br : Nat} (aJ : Abd B Jx) {t : Tr} {x : Fin t.kids.length} {C C1 C2 X : Nat → Prop} {pre ys zs : List (ElT w0)} {pre1 : List (Fin t.kids.length)} {W7 W9 W11 : World} (hBi : B ≤ br)
  (hC : ∀ k, C k ↔ C1 k ∨ X k) (h2 : X br) (h3 : ∀ k, X k → ¬ C1 k ∧ k < W7.heap.size) (hb : Below W7.heap.size W7 W9) (hJ : Jx C2 (pre ++ ys ++ zs) W11) (hF : Fr C1 W9 W11) (hN : Nw C1 C2 W9) (b2 : Boxed W11 br 4 (.bool false)) :
  ∃ C', WkX Jx pre t br .ret C' (pre1 ++ [x]) (W11.setCell ⟨br, 0, none⟩ (.bool false)) ∧ Fr C W7 (W11.setCell ⟨br, 0, none⟩ (.bool false)) ∧ Nw C C' W7 := by
 have hX2 : ∀ k, X k → ¬ C2 k := fun k hk hc => by
  rcases hN k hc with h | h
  ·exact (h3 k hk).1 h
  ·have := (h3 k hk).2; have := hb.size; omega
 have hs9 := hb.size
 have hs11 := hF.size
 refine ⟨fun k => C2 k ∨ X k, ⟨rfl, C2, X, ys ++ zs, fun k => Iff.rfl, h2, fun k hk => ⟨hX2 k hk, by have := (h3 k hk).2; simp; omega⟩, b2.set _, ?_⟩, ?_, ?_⟩
 ·rw [← List.append_assoc]
  exact aJ _ _ _ _ hJ (fr_set _ W11 _ _ ⟨hBi, hX2 _ h2⟩)
 ·exact ((fr_new C hb).trans hF fun k _ hk => (hC k).2 (.inl hk)).trans (fr_set (fun k => k = br) W11 _ _ rfl) fun k _ hk => (hC k).2 (.inr (by rw [hk]; exact h2))
 ·intro k hk
  rcases hk with hk | hk
  ·rcases hN k hk with h | h
   ·exact .inl ((hC k).2 (.inl h))
   ·exact .inr (by omega)
  ·exact .inl ((hC k).2 (.inr hk))
theorem wk_frs {C C4 : Nat → Prop} {W W4 W6 W7 W9 : World} {bi br D : Nat} (h4 : Fr C W W4) (hn : Nw C C4 W) (h46 : Below W4.heap.size W4 W6) (hs : W6.heap.size = W4.heap.size + 2) (h7 : Fr (fun k => C4 k ∨ (k = bi ∨ k = br)) W6 W7) (h9 : Fr (fun k => k = br ∨ k = D) W7 W9) (hbi : W.heap.size ≤ bi) (hbr : W.heap.size ≤ br) (hD : W.heap.size ≤ D) (_ : W.heap.size ≤ W4.heap.size) : Fr C W W9 := by
 have h6 : Fr C W W6 := h4.trans (Fr.of_below (C := fun _ => False) h46) fun k _ h => h.elim
 have h7' : Fr C W W7 := h6.trans h7 fun k hk hc => by
  rcases hc with h | h | h
  ·rcases hn k h with h1 | h1
   ·exact h1
   ·omega
  ·omega
  ·omega
 exact h7'.trans h9 fun k hk hc => by omega
theorem wk_nws {C C4 C1 Cd : Nat → Prop} {W W6 : World} {bi br : Nat} (hn : Nw C C4 W) (hw : Nw (fun k => C4 k ∨ (k = bi ∨ k = br)) Cd W6) (h1 : ∀ k, C1 k → Cd k) (hbi : W.heap.size ≤ bi) (hbr : W.heap.size ≤ br) (hs : W.heap.size ≤ W6.heap.size) : Nw C C1 W := fun k hk => by
 rcases hw k (h1 k hk) with (h | h | h) | h
 ·exact hn k h
 ·exact .inr (by omega)
 ·exact .inr (by omega)
 ·exact .inr (by omega)
theorem wk_step (w0 : World) (l by_ bw B : Nat) (L0 : List (Tx × Tr)) (J Jx : (Nat → Prop) → List (ElT w0) → World → Prop) (hG : Glob w0) (hT : Tab w0) (aJ : Abd B J) (aJx : Abd B Jx) (bJ : Bdd J) (bJx : Bdd Jx)
  (hY : ∀ m C (pre : List (ElT w0)) (x : ElT w0) (W1 : World), B ≤ W1.heap.size → J C pre W1 → (pre.map prE ++ [prE x]) <+: L0 → YieldAt Fence.wide m Tryz.prog l (encE x) W1 (YldC J Jx C (pre ++ [x]) W1))
  (t : Tr) (ho : t.Ok) (hf : t.fit = true) (ih : ∀ x, x ∈ t.kids → WkAll w0 l by_ bw B L0 J Jx x) : WkAll w0 l by_ bw B L0 J Jx t := by
 intro m s v C pre W hrd henv hBW hJ hpre hroom
 refine (callsIn_wide (n := m)).2 ((callsIn_wide (n := 9)).1 ?_)
 have hen := en_walk
 have hx0 : ElOk w0 (s, t, v) := ⟨hrd, ho, hf⟩
 obtain ⟨w3, hw3⟩ : ∃ w3, (((W.alloc (.cells #[.string ⟨s.toArray⟩] 9)).alloc (.cells #[v] 68)).alloc (.cells #[.bool false] 4)) = w3 := ⟨_, rfl⟩
 have hb3 : Below W.heap.size W w3 := by rw [← hw3]; exact (((Below.refl _ W).alloc (Nat.le_refl _) _).alloc (by simp) _).alloc (by simp; omega) _
 have hs3 : w3.heap.size = W.heap.size + 3 := by rw [← hw3]; simp
 have bp : Boxed w3 W.heap.size 9 (.string ⟨s.toArray⟩) := by rw [← hw3]; exact ((Boxed.new W 9 (.string ⟨s.toArray⟩)).alloc _).alloc _
 have br : Boxed w3 (W.heap.size + 1) 68 v := by
  have := (Boxed.new (W.alloc (.cells #[.string ⟨s.toArray⟩] 9)) 68 v).alloc (.cells #[.bool false] 4)
  rw [World.size_alloc, hw3] at this
  exact this
 have bres : Boxed w3 (W.heap.size + 1 + 1) 4 (.bool false) := by
  have := Boxed.new ((W.alloc (.cells #[.string ⟨s.toArray⟩] 9)).alloc (.cells #[v] 68)) 4 (.bool false)
  rw [World.size_alloc, World.size_alloc, hw3] at this
  exact this
 have henv3 := henv.new hb3
 have hJ3 : J C pre w3 := aJ.up hBW _ _ _ _ hJ (Fr.of_below hb3)
 have hpre1 : (pre.map prE ++ [prE (⟨(s, t, v), hx0⟩ : ElT w0)]) <+: L0 := by
  refine List.IsPrefix.trans ?_ hpre
  rw [allT_kids]
  exact (List.prefix_append_right_inj _).2 ⟨_, rfl⟩
 have hCW := bJ _ _ _ hJ
 obtain ⟨fn, tmps, assign, body, hy, hR⟩ := hY 8 C pre ⟨(s, t, v), hx0⟩ w3 (by omega) hJ3 hpre1
 dsimp only [encE] at hy
 have HR := Lib.hid hR
 have HIH := Lib.hid ih
 have HY := Lib.hid hY
 have HE3 := Lib.hid henv3
 have HEN := Lib.hid henv
 have HB3 := Lib.hid hb3
 have HRD := Lib.hid hrd
 have BP := Lib.hid bp
 have BR := Lib.hid br
 have BS := Lib.hid bres
 have HPRE := Lib.hid hpre
 have HROOM := Lib.hid hroom
 have HCW := Lib.hid hCW
 have HJJ := Lib.hid hJ
 have c2 := henv3.yb.cell
 have c4 := bp.cell
 have c5 := br.cell
 clear hR ih hY henv3 henv hb3 hrd bp br bres hpre hroom hJ3 hpre1 hCW hJ
 refine callsIn_of_wp_marks Tryz.func59 rfl trivial ?_ rfl
 simp only [Tryz.ntmps59, List.size_toArray, List.length_cons, List.length_nil, Nat.reduceAdd, Nat.reduceSub, Array.replicate_succ, Array.replicate_zero, List.push_toArray, List.append_toArray, List.nil_append, List.cons_append]
 gi_wp2_with fail
 clear hw3
 refine HR.out.mono ?_
 clear HR hy
 rintro e W4 (⟨rfl, C4, hJ4, hF4, hN4⟩ | ⟨rfl, C4, hJ4, hF4, hN4⟩)
 rotate_left
 ·have BS4 := boxed_fr BS.out hF4 fun hc => by have := HCW.out _ hc; omega
  have d6 := BS4.cell
  have f6 := BS4.frozen
  have HN := Lib.hid hN4
  have HFW := Lib.hid ((fr_new C HB3.out).step (Nw.refl C W) hF4)
  have HNW : Hid (Nw C C4 W) := Lib.hid fun k hk => by
   rcases hN4 k hk with h | h
   ·exact .inl h
   ·exact .inr (by omega)
  have HJ4 := Lib.hid hJ4
  have HS4 : Hid (W.heap.size + 1 + 1 < W4.heap.size ∧ ¬ C4 (W.heap.size + 1 + 1)) := Lib.hid ⟨BS4.lt, fun hc => by
   rcases hN4 _ hc with h | h
   ·have := HCW.out _ h; omega
   ·omega⟩
  have d7 := (BS4.set (.bool false)).cell
  clear hN4 hJ4 hF4 BS4
  gi_wp2_with fail
  refine ⟨.bool false, ?_, .inr ⟨rfl, C4, [⟨(s, t, v), hx0⟩], aJx _ _ _ _ HJ4.out (fr_set _ W4 _ _ ⟨by omega, HS4.out.2⟩), HFW.out.trans (fr_set (fun k => k = W.heap.size + 1 + 1) W4 _ _ rfl) (fun k hk hc => by omega), HNW.out⟩⟩
  simp [results, Tryz.results59, go_sem, d7]
 ·have hnlt : ∀ k, W.heap.size ≤ k → k < w3.heap.size → ¬ C4 k := fun k h1 h2 hc => by
   rcases hN4 k hc with h | h
   ·have := HCW.out k h; omega
   ·omega
  have henv4 := HE3.out.step hF4 hN4
  have BP4 := boxed_fr BP.out hF4 fun hc => by have := HCW.out _ hc; omega
  have BR4 := boxed_fr BR.out hF4 fun hc => by have := HCW.out _ hc; omega
  have BS4 := boxed_fr BS.out hF4 fun hc => by have := HCW.out _ hc; omega
  obtain ⟨tx, ux, hv⟩ := HRD.out.iface
  subst hv
  have hs34 := hF4.size
  have hcl4 := bJ _ _ _ hJ4
  have d5 := (BR4.alloc (.cells #[.int .i64 0] 3)).cell
  clear c2 c4 c5
  gi_wp2_with (refine ⟨trivial, ?_⟩; gi_at_call 60; refine (callsIn_wide.2 (all_any _ _)).mono ?_; rintro e w5 ⟨rfl, rfl⟩)
  obtain ⟨A, cc, vs, hitv, hrow, hl⟩ := HRD.out.itv
  obtain ⟨W6, hW6⟩ : ∃ W6, (W4.alloc (.cells #[.int .i64 0] 3)).alloc (.cells #[.iface tx ux] 68) = W6 := ⟨_, rfl⟩
  have hs6 : W6.heap.size = W4.heap.size + 2 := by rw [← hW6]; simp
  have hb46 : Below W4.heap.size W4 W6 := by rw [← hW6]; exact ((Below.refl _ _).alloc (Nat.le_refl _) _).alloc (by simp) _
  have bi6 : Boxed W6 W4.heap.size 3 (.int .i64 0) := by rw [← hW6]; exact (Boxed.new W4 3 (.int .i64 0)).alloc _
  have bA6 : Boxed W6 (W4.heap.size + 1) 68 (.iface tx ux) := by
   have := Boxed.new (W4.alloc (.cells #[.int .i64 0] 3)) 68 (.iface tx ux)
   rw [World.size_alloc, hW6] at this
   exact this
  rw [hW6]
  clear hW6 d5
  have BP6 := boxed_new BP4 hb46
  have BR6 := boxed_new BR4 hb46
  have BS6 := boxed_new BS4 hb46
  have henv6 := henv4.new hb46
  have hJ6 : J C4 (pre ++ [⟨(s, t, .iface tx ux), hx0⟩]) W6 := aJ.up (B' := W4.heap.size) (by omega) _ _ _ _ hJ4 (Fr.of_below hb46)
  have hkl : t.kids.length ≤ 65536 := by
   have h0 := (fit_le hf).1
   have h1 := nodes_len t.kids
   have h2 : nodesL t.kids ≤ t.nodes := by cases t <;> simp [Tr.kids, Tr.nodes, nodesL]
   omega
  have hmv : ∀ j, j < w0.heap.size → j < w0.heap.size → j < w0.heap.size ∧ W6.heap[j]? = w0.heap[j]? := fun j hj hs => ⟨hs, henv6.below.block j hj⟩
  have hgd : ∀ x : Fin t.kids.length, ∃ tx ux, vs.getD x.1 .nilIface = .iface tx ux ∧ RdT (fun k => k < w0.heap.size) w0 t.kids[x] (.iface tx ux) := fun x => by
   have hvl := hl.len
   have hx := x.2
   have hvk : vs[x.1]? = some (vs[x.1]'(by omega)) := List.getElem?_eq_getElem (by omega)
   have hrd := hl.at (List.getElem?_eq_getElem hx) hvk
   obtain ⟨tx, ux, he⟩ := hrd.iface
   rw [he] at hrd
   exact ⟨tx, ux, by rw [List.getD_eq_getElem?_getD, hvk, he]; rfl, hrd⟩
  have hys := henv6.yb.lt
  have hyw := henv6.wb.lt
  have hge := henv6.ge
  have hyb0 := HEN.out.yb.lt
  have hyw0 := HEN.out.wb.lt
  have hcs0 : ∀ k, (C4 k ∨ (k = W4.heap.size ∨ k = W.heap.size + 1 + 1)) → w0.heap.size ≤ k ∧ k ≠ by_ ∧ k ≠ bw := fun k hk => by
   rcases hk with hk | rfl | rfl
   ·exact henv6.cs k hk
   ·have := henv4.below.size; exact ⟨by omega, by omega, by omega⟩
   ·have := HEN.out.below.size; exact ⟨by omega, by omega, by omega⟩
  have henvC : WkEnv w0 l by_ bw (fun k => C4 k ∨ (k = W4.heap.size ∨ k = W.heap.size + 1 + 1)) W6 := ⟨henv6.below, henv6.yb, henv6.wb, hcs0, henv6.ge⟩
  have nP : ¬ (C4 W.heap.size ∨ (W.heap.size = W4.heap.size ∨ W.heap.size = W.heap.size + 1 + 1)) := by
   rintro (h | h | h)
   ·exact hnlt _ (by omega) (by omega) h
   ·omega
   ·omega
  have nR : ¬ (C4 (W.heap.size + 1) ∨ (W.heap.size + 1 = W4.heap.size ∨ W.heap.size + 1 = W.heap.size + 1 + 1)) := by
   rintro (h | h | h)
   ·exact hnlt _ (by omega) (by omega) h
   ·omega
   ·omega
  have HNC := Lib.hid henvC
  have HGD := Lib.hid hgd
  have HP6 := Lib.hid (And.intro BP6 (And.intro nP (And.intro BR6 nR)))
  have HFr4 : Hid (Fr C W W4 ∧ Nw C C4 W) := Lib.hid ⟨(fr_new C HB3.out).step (Nw.refl C W) hF4, fun k hk => by
   rcases hN4 k hk with h | h
   ·exact .inl h
   ·exact .inr (by omega)⟩
  have hseq := all_stopsC 8 (W4.heap.size + 1) w0.heap.size t (.iface tx ux) A cc vs (by omega) (by omega) W6 (Nat.le_trans henv4.below.size (by omega)) bA6.cell (hitv.move hmv) (hrow.move hmv) (hl.move hmv) (RdT.move hmv _ _ HRD.out)
  have h0 : WkI J pre s t W4.heap.size (W.heap.size + 1 + 1) (fun k => C4 k ∨ (k = W4.heap.size ∨ k = W.heap.size + 1 + 1)) [] W6 :=
   ⟨C4, fun k => k = W4.heap.size ∨ k = W.heap.size + 1 + 1, [⟨(s, t, .iface tx ux), hx0⟩], fun k => Iff.rfl, .inl rfl, .inr rfl, fun k hk => by
    rcases hk with rfl | rfl
    ·exact ⟨fun h => by have := hcl4 _ h; omega, by omega⟩
    ·exact ⟨hnlt _ (by omega) (by omega), by omega⟩, bi6, BS6, hJ6, by
    simp only [List.length_nil, List.take_zero, allK_nil, List.map_cons, List.map_nil]
    rfl⟩
  have H0 := Lib.hid h0
  have HSQ := Lib.hid hseq
  have hlow : w0.heap.size ≤ W4.heap.size := henv4.below.size
  clear h0 hseq hJ6 henvC hgd BP6 BR6 BS6 nP nR bi6 bA6 hmv hitv hrow hl henv6 henv4 BP4 BR4 BS4 hJ4 hF4 hN4 HE3 HB3 BP BR BS HJJ
  refine wpIn_rangeC rfl (by omega) (gf := 110) (lb := #[.pointer (some ⟨W4.heap.size + 1, 0, none⟩)]) rfl trivial (enters_of Tryz.func110 (by kernel_rfl) rfl) HSQ.out (Fr.refl _ _)
   (fun k hk => by
    rcases hk with h | h
    ·have := hlow; omega
    ·omega) (fun _ => rfl)
   (WkI J pre s t W4.heap.size (W.heap.size + 1 + 1)) (WkX Jx pre t (W.heap.size + 1 + 1)) (wkI_abd aJ (by omega)) (fun c => wkX_abd aJx (by omega) c) (wkI_bdd bJ) (fun c => wkX_bdd bJx c) (fun k => C4 k ∨ (k = W4.heap.size ∨ k = W.heap.size + 1 + 1)) H0.out
   (fun k hk hr => by
    have hk2 := hcs0 k hk
    rcases hr with h | h
    ·omega
    ·rcases hk with h3 | h3 | h3
     ·have := hcl4 _ h3; omega
     ·omega
     ·omega)
   (fun x a' C W9 => ∃ Bx, C Bx ∧ Boxed W9 Bx 68 (vs.getD x.1 .nilIface) ∧ a' = { tmps := (.string ⟨s.toArray⟩ :: .agg #[.iface tx ux] :: .pointer (some ⟨by_, 0, none⟩) :: .pointer (some ⟨bw, 0, none⟩) :: .pointer (some ⟨W.heap.size, 0, none⟩) :: .pointer (some ⟨W.heap.size + 1, 0, none⟩) :: .pointer (some ⟨W.heap.size + 1 + 1, 0, none⟩) :: .pointer (some ⟨W4.heap.size, 0, none⟩) :: .string ⟨(t.kn[x.1]?.getD []).toArray⟩ :: .pointer (some ⟨Bx, 0, none⟩) :: undef :: .func (.yield l) #[] #[] :: .string ⟨s.toArray⟩ :: .agg #[.iface tx ux] :: .bool true :: .bool false :: .agg #[.iface tx ux] :: .func (.func 110) #[] #[.pointer (some ⟨W4.heap.size + 1, 0, none⟩)] :: .string ⟨(t.kn[x.1]?.getD []).toArray⟩ :: .agg #[vs.getD x.1 .nilIface] :: undef :: undef :: undef :: undef :: undef :: undef :: undef :: undef :: undef :: undef :: undef :: undef :: undef :: undef :: undef :: undef :: undef :: undef :: undef :: []).toArray, defers := [] })
   (fun x a' C u W W' h hF => by
    obtain ⟨Bx, h1, h2, h3⟩ := h
    exact ⟨Bx, h1, boxed_fr h2 hF (fun hc => hc.2 h1), h3⟩)
   ?assign ?body ?done ?stop
  case assign =>
   rintro l1 C pre1 x W7 K hfr hnw ⟨C1, X, ys, hC, h1, h2, h3, h4, h5, h6, h7⟩ hnx hK
   obtain ⟨tx', ux', he, _⟩ := HGD.out x
   have hb7 : Below W7.heap.size W7 (W7.alloc (.cells #[vs.getD x.1 .nilIface] 68)) := (Below.refl _ _).alloc (Nat.le_refl _) _
   have hK2 := hK _ (W7.alloc (.cells #[vs.getD x.1 .nilIface] 68)) (fun k => C k ∨ k = W7.heap.size) (fr_new _ hb7) (fun k hk => hk.imp id fun h => by omega)
    ⟨C1, fun k => X k ∨ k = W7.heap.size, ys, fun k => by show (C k ∨ k = W7.heap.size) ↔ (C1 k ∨ (X k ∨ k = W7.heap.size)); rw [hC k, or_assoc], .inl h1, .inl h2, fun k hk => by
     rcases hk with h | rfl
     ·exact ⟨(h3 k h).1, by have := (h3 k h).2; simp; omega⟩
     ·exact ⟨fun hc => by have := bJ _ _ _ h6 _ hc; omega, by simp⟩, boxed_new h4 hb7, boxed_new h5 hb7, aJ.up (B' := W7.heap.size) (by have := hfr.size; omega) _ _ _ _ h6 (Fr.of_below hb7), h7⟩
    ⟨W7.heap.size, .inr rfl, Boxed.new W7 68 _, rfl⟩
   clear hK
   simp only [encR, he] at hK2 ⊢
   gi_wp2
   exact hK2
  case body =>
   rintro l1 Cd pre1 x a' W7 hfr hnw ⟨C1, X, ys, hC, h1, h2, h3, h4, h5, h6, h7⟩ ⟨Bx, hCx, bX, rfl⟩ hnx
   obtain ⟨tx', ux', he, hrx⟩ := HGD.out x
   have hx2 := x.2
   have hxl : pre1.length = x.1 := by rw [hnx, upF_len _ _ (by omega)]
   rw [hxl] at h4 h7
   rw [he] at bX
   have envd := HNC.out.step hfr hnw
   have env7 : WkEnv w0 l by_ bw C1 W7 := ⟨envd.below, envd.yb, envd.wb, fun k hk => envd.cs k ((hC k).2 (.inl hk)), envd.ge⟩
   have bp7 := boxed_fr HP6.out.1 hfr HP6.out.2.1
   have br7 := boxed_fr HP6.out.2.2.1 hfr HP6.out.2.2.2
   have hs7 := hfr.size
   have cp := bp7.cell
   have ci := h4.cell
   have HC := Lib.hid hC
   have HX := Lib.hid (And.intro h1 (And.intro h2 h3))
   have H6 := Lib.hid h6
   have H7 := Lib.hid h7
   have HPX : Hid (((pre ++ ys).map prE ++ allT (s ++ piece ((kidToks t)[x.1]?.getD [])) t.kids[x]) <+: L0) := Lib.hid (by
    refine List.IsPrefix.trans ?_ HPRE.out
    have e1 : (pre ++ ys).map prE ++ allT (s ++ piece ((kidToks t)[x.1]?.getD [])) t.kids[x] = pre.map prE ++ ((s, t) :: allK s (kidToks t) (t.kids.take (x.1 + 1))) := by
     rw [List.map_append, h7, allK_take t.kids s (kidToks t) x.1 hx2, List.append_assoc, List.cons_append]
     rfl
    rw [e1, allT_kids]
    refine (List.prefix_append_right_inj _).2 ?_
    exact List.cons_prefix_cons.2 ⟨rfl, allK_pre _ _ _ _⟩)
   have HRX : Hid ((s ++ piece ((kidToks t)[x.1]?.getD [])).length + ptrRoom t.kids[x] ≤ 8388608) := Lib.hid (by
    have h8 := room_kid t x.1 hx2 hkl
    have h9 := HROOM.out
    rw [List.length_append]
    have e2 : t.kids[x] = t.kids[x.1] := rfl
    rw [e2]
    omega)
   have HKL : Hid (∀ j : Nat, (t.kn[j]?.getD []).length ≤ 2097152) := Lib.hid fun j => kn_room hf ho j
   have hsl : s.length ≤ 8388608 := by have := HROOM.out; omega
   have hnx' := hnx
   clear hfr hnw h1 h2 h3 h6 h7 hC hnx hCx envd HPRE HROOM H0 HSQ
   gi_wp2_with fail
   refine wk_r7 l1 s x.1 W.heap.size W4.heap.size W7 hsl (by omega) (hT.next env7.below) cp ci _ rfl _ _ _ _ _ _ _ _ _ _ _ _ _ _ _ _ _ _ _ _ _ _ _ _ _ _ _ _ _ _ _ _ _ _ _ _ _ (fun w8 hb8 => ?_)
   have br8 := boxed_new br7 hb8
   have d5 := br8.cell
   have hrd8 : RdT (fun k => k < w0.heap.size) w8 t (.iface tx ux) := RdT.move (fun j hj hs => ⟨hs, (env7.below.trans (hb8.mono env7.below.size)).block j hs⟩) _ _ HRD.out
   have HSO := Lib.hid (sort_any _ t (.iface tx ux) w8 hrd8)
   have HB8 := Lib.hid hb8
   have cp8 := (boxed_new bp7 hb8)
   clear hrd8 hb8 cp ci br8
   by_cases h6 : t.srt = 6
   ·have e6 : ((t.srt : Int) == 6) = true := by rw [h6]; rfl
    have hq : s ++ piece ((kidToks t)[x.1]?.getD []) = s ++ piece (t.kn[x.1]?.getD []) := by rw [kid_tok6 h6 x.1]
    gi_wp2_with (refine ⟨trivial, ?_⟩; gi_at_call 49; refine (CallsIn.inRound l1 (callsIn_wide.2 HSO.out)).mono ?_; rintro e w9 ⟨rfl, hb9⟩; have cp9 := (boxed_new cp8 hb9).cell)
    refine wk_r9 l1 s (t.kn[x.1]?.getD []) W.heap.size w9 hsl (HKL.out x.1) (hG.next (env7.below.trans ((HB8.out.trans (hb9.mono HB8.out.size)).mono env7.below.size))) cp9 _ _ _ _ _ _ _ _ _ _ _ _ _ _ _ _ _ _ _ _ _ _ _ _ _ _ _ _ _ _ _ _ _ _ _ _ _ (fun w10 hb10 => ?_)
    have hbw : Below W7.heap.size W7 w10 := HB8.out.trans ((hb9.trans (hb10.mono hb9.size)).mono HB8.out.size)
    have HW9 := Lib.hid hbw
    have env9 := env7.new hbw
    have c3 := env9.wb.cell
    have cX := (boxed_new bX hbw).cell
    have hJ9 : J C1 (pre ++ ys) w10 := aJ.up (B' := W7.heap.size) (by omega) _ _ _ _ H6.out (Fr.of_below hbw)
    have hih := HIH.out _ (List.getElem_mem x.2) 6 _ _ C1 (pre ++ ys) w10 hrx ⟨env9.below, env9.yb, env9.wb, fun k hk => env9.cs k hk, env9.ge⟩ (by have := hbw.size; omega) hJ9 HPX.out HRX.out
    rw [hq] at hih
    have HIH2 := Lib.hid hih
    have ci9 := (boxed_new h4 hbw)
    have cs9 := (boxed_new h5 hbw)
    clear hih hJ9 hbw
    gi_wp2_with (refine ⟨trivial, ?_⟩; gi_at_call 59; refine (CallsIn.inRound l1 HIH2.out).mono ?_; clear HIH2; rintro e W11 (h11 | h11); all_goals (first | (obtain ⟨rfl, C2, zs, hz, hJ11, hF11, hN11⟩ := h11; rw [← hq] at hz; have b11 := boxed_fr ci9 hF11 (HX.out.2.2 _ HX.out.1).1; have s11 := boxed_fr cs9 hF11 (HX.out.2.2 _ HX.out.2.1).1; have d11 := b11.cell; have f11 := b11.frozen; have HEND := Lib.hid (wk_next (bi := W4.heap.size) (br := W.heap.size + 1 + 1) (x := x) aJ (by omega) (by omega) HC.out HX.out.1 HX.out.2.1 HX.out.2.2 HW9.out hz hJ11 hF11 hN11 b11 s11 H7.out hxl); have wr1 : wrap64 ((x.1 : Int) + 1) = ((x.1 + 1 : Nat) : Int) := wrap_one _ (by omega); clear hz hJ11 hF11 hN11 b11 s11) | (obtain ⟨rfl, C2, zs, hJ11, hF11, hN11⟩ := h11; have s11 := boxed_fr cs9 hF11 (HX.out.2.2 _ HX.out.2.1).1; have d11 := s11.cell; have f11 := s11.frozen; have HEND := Lib.hid (wk_left (br := W.heap.size + 1 + 1) (x := x) (pre1 := pre1) aJx (by omega) HC.out HX.out.2.1 HX.out.2.2 HW9.out hJ11 hF11 hN11 s11); clear hJ11 hF11 hN11 s11)))
    ·exact HEND.out
    ·exact HEND.out
   ·have e6 : ((t.srt : Int) == 6) = false := by rw [beq_eq_false_iff_ne]; omega
    have hq : s ++ piece ((kidToks t)[x.1]?.getD []) = s ++ 47 :: Lib.itoa (x.1 : Int) := by rw [kid_tok5 h6 x.1 hx2, piece_itoa]
    gi_wp2_with (first | (refine ⟨trivial, ?_⟩; gi_at_call 49; refine (CallsIn.inRound l1 (callsIn_wide.2 HSO.out)).mono ?_; rintro e w9 ⟨rfl, hb9⟩; have hbw : Below W7.heap.size W7 w9 := HB8.out.trans (hb9.mono HB8.out.size); have HW9 := Lib.hid hbw; have env9 := env7.new hbw; have c3 := env9.wb.cell; have cX := (boxed_new bX hbw).cell; have hJ9 : J C1 (pre ++ ys) w9 := aJ.up (B' := W7.heap.size) (by omega) _ _ _ _ H6.out (Fr.of_below hbw); have hih := HIH.out _ (List.getElem_mem x.2) 6 _ _ C1 (pre ++ ys) w9 hrx ⟨env9.below, env9.yb, env9.wb, fun k hk => env9.cs k hk, env9.ge⟩ (by have := hbw.size; omega) hJ9 HPX.out HRX.out; rw [hq] at hih; have HIH2 := Lib.hid hih; have ci9 := (boxed_new h4 hbw); have cs9 := (boxed_new h5 hbw); clear hih hJ9 hbw) | (refine ⟨trivial, ?_⟩; gi_at_call 59; refine (CallsIn.inRound l1 HIH2.out).mono ?_; clear HIH2; rintro e W11 (h11 | h11); all_goals (first | (obtain ⟨rfl, C2, zs, hz, hJ11, hF11, hN11⟩ := h11; rw [← hq] at hz; have b11 := boxed_fr ci9 hF11 (HX.out.2.2 _ HX.out.1).1; have s11 := boxed_fr cs9 hF11 (HX.out.2.2 _ HX.out.2.1).1; have d11 := b11.cell; have f11 := b11.frozen; have HEND := Lib.hid (wk_next (bi := W4.heap.size) (br := W.heap.size + 1 + 1) (x := x) aJ (by omega) (by omega) HC.out HX.out.1 HX.out.2.1 HX.out.2.2 HW9.out hz hJ11 hF11 hN11 b11 s11 H7.out hxl); have wr1 : wrap64 ((x.1 : Int) + 1) = ((x.1 + 1 : Nat) : Int) := wrap_one _ (by omega); clear hz hJ11 hF11 hN11 b11 s11) | (obtain ⟨rfl, C2, zs, hJ11, hF11, hN11⟩ := h11; have s11 := boxed_fr cs9 hF11 (HX.out.2.2 _ HX.out.2.1).1; have d11 := s11.cell; have f11 := s11.frozen; have HEND := Lib.hid (wk_left (br := W.heap.size + 1 + 1) (x := x) (pre1 := pre1) aJx (by omega) HC.out HX.out.2.1 HX.out.2.2 HW9.out hJ11 hF11 hN11 s11); clear hJ11 hF11 hN11 s11))))
    ·exact HEND.out
    ·exact HEND.out
  case done =>
   rintro D Cd xs W7 W8 hD hDC rfl _ ⟨C1, X, ys, hC, h1, h2, h3, h4, h5, h6, h7⟩ hfr hnw hKD
   rw [upF_len _ _ (Nat.le_refl _), List.take_of_length_le (Nat.le_refl _)] at h7
   have d6 := h5.cell
   have f6 := h5.frozen
   have hK8 : (W7.setCell ⟨W.heap.size + 1 + 1, 0, none⟩ (.bool true)).heap[D]? = some (.deferred (some [])) := (Below.heap_setCell W7 _ _ D (by show D ≠ W.heap.size + 1 + 1; omega)).trans hKD
   have b9 : Boxed ((W7.setCell ⟨W.heap.size + 1 + 1, 0, none⟩ (.bool true)).putObj D (.deferred none)) (W.heap.size + 1 + 1) 4 (.bool true) := (World.putObj_heap_other (by omega)).trans (h5.set (.bool true))
   have d9 := b9.cell
   have nb : ¬ C1 (W.heap.size + 1 + 1) := (h3 _ h2).1
   have nD : ¬ C1 D := fun h => hDC ((hC D).2 (.inl h))
   have hF9 : Fr (fun k => k = W.heap.size + 1 + 1 ∨ k = D) W7 ((W7.setCell ⟨W.heap.size + 1 + 1, 0, none⟩ (.bool true)).putObj D (.deferred none)) := (fr_set _ W7 _ _ (.inl rfl)).trans (Fr.putObj (fun k => k = W.heap.size + 1 + 1 ∨ k = D) _ D _ fun _ => .inr rfl) fun k _ h => h
   have HEND : Hid (J C1 (pre ++ ys) ((W7.setCell ⟨W.heap.size + 1 + 1, 0, none⟩ (.bool true)).putObj D (.deferred none)) ∧ Fr C W ((W7.setCell ⟨W.heap.size + 1 + 1, 0, none⟩ (.bool true)).putObj D (.deferred none)) ∧ Nw C C1 W) := Lib.hid ⟨aJ _ _ _ _ h6 (hF9.mono fun k _ hk => by
     rcases hk with rfl | rfl
     ·exact ⟨by omega, nb⟩
     ·exact ⟨by omega, nD⟩), wk_frs HFr4.out.1 HFr4.out.2 hb46 hs6 hfr hF9 (by omega) (by omega) (by omega) (by omega), wk_nws HFr4.out.2 hnw (fun k hk => (hC k).2 (.inl hk)) (by omega) (by omega) (by omega)⟩
   have H7 := Lib.hid h7
   clear hfr hnw h3 h4 h5 h6 h7 b9 hF9 nb nD hC h1 h2
   gi_wp2_with fail
   refine ⟨by simp, .inl ⟨_, _, rfl, run_takeDeferred hK8, ?_⟩⟩
   refine ⟨.bool true, ?_, .inl ⟨rfl, C1, ys, by rw [H7.out, allT_kids], HEND.out.1, HEND.out.2.1, HEND.out.2.2⟩⟩
   simp [results, Tryz.results59, go_sem, d9]
  case stop =>
   rintro D c Cd pre1 W7 hD hDC hsp ⟨rfl, C1, X, ys, hC, h2, h3, h5, h6⟩ hfr hnw hKD
   have b9 : Boxed (W7.putObj D (.deferred none)) (W.heap.size + 1 + 1) 4 (.bool false) := (World.putObj_heap_other (by omega)).trans h5
   have d9 := b9.cell
   have nD : ¬ C1 D := fun h => hDC ((hC D).2 (.inl h))
   have hF9 : Fr (fun k => k = W.heap.size + 1 + 1 ∨ k = D) W7 (W7.putObj D (.deferred none)) := Fr.putObj (fun k => k = W.heap.size + 1 + 1 ∨ k = D) _ D _ fun _ => .inr rfl
   have HEND : Hid (Jx C1 (pre ++ ys) (W7.putObj D (.deferred none)) ∧ Fr C W (W7.putObj D (.deferred none)) ∧ Nw C C1 W) := Lib.hid ⟨aJx _ _ _ _ h6 ((Fr.putObj (fun k => k = D) W7 D _ fun _ => rfl).mono fun k _ hk => by
     rw [hk]
     exact ⟨by omega, nD⟩), wk_frs HFr4.out.1 HFr4.out.2 hb46 hs6 hfr hF9 (by omega) (by omega) (by omega) (by omega), wk_nws HFr4.out.2 hnw (fun k hk => (hC k).2 (.inl hk)) (by omega) (by omega) (by omega)⟩
   clear hfr hnw h3 h5 h6 b9 hF9 nD hC h2
   gi_wp2_with fail
   refine ⟨by simp, .inl ⟨_, _, rfl, run_takeDeferred hKD, ?_⟩⟩
   refine ⟨.bool false, ?_, .inr ⟨rfl, C1, ys, HEND.out.1, HEND.out.2.1, HEND.out.2.2⟩⟩
   simp [results, Tryz.results59, go_sem, d9]
theorem wk_any (w0 : World) (l by_ bw B : Nat) (L0 : List (Tx × Tr)) (J Jx : (Nat → Prop) → List (ElT w0) → World → Prop) (hG : Glob w0) (hT : Tab w0) (aJ : Abd B J) (aJx : Abd B Jx) (bJ : Bdd J) (bJx : Bdd Jx)
  (hY : ∀ m C (pre : List (ElT w0)) (x : ElT w0) (W1 : World), B ≤ W1.heap.size → J C pre W1 → (pre.map prE ++ [prE x]) <+: L0 → YieldAt Fence.wide m Tryz.prog l (encE x) W1 (YldC J Jx C (pre ++ [x]) W1)) :
  ∀ t : Tr, t.Ok → t.fit = true → WkAll w0 l by_ bw B L0 J Jx t := by
 intro t
 induction t using Tr.ind with
 | h0 => exact fun ho hf => wk_step w0 l by_ bw B L0 J Jx hG hT aJ aJx bJ bJx hY _ ho hf fun x hx => by cases hx
 | h1 b => exact fun ho hf => wk_step w0 l by_ bw B L0 J Jx hG hT aJ aJx bJ bJx hY _ ho hf fun x hx => by cases hx
 | h2 x => exact fun ho hf => wk_step w0 l by_ bw B L0 J Jx hG hT aJ aJx bJ bJx hY _ ho hf fun x hx => by cases hx
 | h3 s => exact fun ho hf => wk_step w0 l by_ bw B L0 J Jx hG hT aJ aJx bJ bJx hY _ ho hf fun x hx => by cases hx
 | h4 k ih =>
  intro ho hf
  refine wk_step w0 l by_ bw B L0 J Jx hG hT aJ aJx bJ bJx hY _ ho hf fun x hx => ?_
  unfold Tr.Ok at ho
  have := (okl_iff k).1 ho x hx
  exact ih x hx this.1 this.2
 | h5 ks k ih =>
  intro ho hf
  refine wk_step w0 l by_ bw B L0 J Jx hG hT aJ aJx bJ bJx hY _ ho hf fun x hx => ?_
  unfold Tr.Ok at ho
  have := (okl_iff k).1 ho.2.2.2 x hx
  exact ih x hx this.1 this.2
end Nd
end Go.Proofs.YtlailcmhpnnidaaGreatDoor
