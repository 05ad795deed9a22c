/-
  A range over a function whose iterator keeps cells and loops of its own: the caller's blocks are named.
-/
import Derived.Test.YtlailcmhpnnidaaGreatDoorX1
import Derived.RangeFuncNested
import Derived.RangeFuncBound
import Derived.RangeFuncCalls
import Derived.RangeFuncLeaves
import Derived.Shelf.Abstract
import Derived.Shelf.RegionOpen
import Derived.WalkKit
set_option linter.unusedVariables false
set_option linter.unusedSimpArgs false
set_option maxRecDepth 100000
set_option maxHeartbeats 16000000
namespace Go.Proofs.YtlailcmhpnnidaaGreatDoor
open Go.RowKit Go.Shelf
namespace Rg

structure Fr (C : Nat → Prop) (W W' : World) : Prop where
 os : W'.os = W.os
 tape : W'.tape = W.tape
 output : W'.output = W.output
 size : W.heap.size ≤ W'.heap.size
 block : ∀ k, k < W.heap.size → ¬ C k → W'.heap[k]? = W.heap[k]?
theorem Fr.refl (C : Nat → Prop) (W : World) : Fr C W W := ⟨rfl, rfl, rfl, Nat.le_refl _, fun _ _ _ => rfl⟩
theorem Fr.of_below {C : Nat → Prop} {W W' : World} (h : Below W.heap.size W W') : Fr C W W' := ⟨h.os, h.tape, h.output, h.size, fun k hk _ => h.block k hk⟩
theorem Fr.mono {C D : Nat → Prop} {W W' : World} (h : Fr C W W') (hC : ∀ k, k < W.heap.size → C k → D k) : Fr D W W' := ⟨h.os, h.tape, h.output, h.size, fun k hk hD => h.block k hk fun hc => hD (hC k hk hc)⟩
theorem Fr.trans {C D : Nat → Prop} {W W' W'' : World} (h : Fr C W W') (h' : Fr D W' W'') (hD : ∀ k, k < W.heap.size → D k → C k) : Fr C W W'' :=
 ⟨h'.os.trans h.os, h'.tape.trans h.tape, h'.output.trans h.output, Nat.le_trans h.size h'.size, fun k hk hc => (h'.block k (Nat.lt_of_lt_of_le hk h.size) fun hd => hc (hD k hk hd)).trans (h.block k hk hc)⟩
theorem Fr.putObj (C : Nat → Prop) (W : World) (l : Nat) (o : Obj) (hl : l < W.heap.size → C l) : Fr C W (W.putObj l o) :=
 ⟨rfl, rfl, rfl, by simp, fun k hk hc => World.putObj_heap_other fun e => hc (e ▸ hl (e ▸ hk))⟩
theorem Fr.alloc (C : Nat → Prop) (W : World) (o : Obj) : Fr C W (W.alloc o) := Fr.of_below ((Below.refl _ _).alloc (Nat.le_refl _) _)
theorem Fr.below {C : Nat → Prop} {W W' : World} {n : Nat} (h : Fr C W W') (hn : n ≤ W.heap.size) (hC : ∀ k, k < W.heap.size → C k → n ≤ k) : Below n W W' :=
 ⟨h.os, h.tape, h.output, h.size, fun k hk => h.block k (by omega) fun hc => by have := hC k (by omega) hc; omega⟩
theorem Fr.same {C : Nat → Prop} {W W' : World} {k : Nat} {o : Obj} (h : Fr C W W') (hk : W.heap[k]? = some o) (hc : ¬ C k) : W'.heap[k]? = some o := (h.block k (Array.getElem?_eq_some_iff.1 hk).1 hc).trans hk

def Nw (C C' : Nat → Prop) (W : World) : Prop := ∀ k, C' k → C k ∨ W.heap.size ≤ k
theorem Nw.refl (C : Nat → Prop) (W : World) : Nw C C W := fun _ h => .inl h
theorem Nw.trans {C D E : Nat → Prop} {W W' : World} (h : Nw C D W) (h' : Nw D E W') (hs : W.heap.size ≤ W'.heap.size) : Nw C E W := fun k hk => by
 rcases h' k hk with h1 | h1
 ·exact h k h1
 ·exact .inr (Nat.le_trans hs h1)
theorem Fr.step {C C' : Nat → Prop} {W W' W'' : World} (h : Fr C W W') (hn : Nw C C' W) (h' : Fr C' W' W'') : Fr C W W'' :=
 h.trans h' fun k hk hc => by
  rcases hn k hc with h1 | h1
  ·exact h1
  ·omega

def Abd {β : Type} (B : Nat) (J : (Nat → Prop) → β → World → Prop) : Prop := ∀ C s W W', J C s W → Fr (fun k => B ≤ k ∧ ¬ C k) W W' → J C s W'
def Bdd {β : Type} (J : (Nat → Prop) → β → World → Prop) : Prop := ∀ C s W, J C s W → ∀ k, C k → k < W.heap.size
theorem Abd.up {β : Type} {B B' : Nat} {J : (Nat → Prop) → β → World → Prop} (h : Abd B J) (hb : B ≤ B') : Abd B' J := fun C s W W' hJ hF => h C s W W' hJ (hF.mono fun k _ hk => ⟨Nat.le_trans hb hk.1, hk.2⟩)
theorem Abd.new {β : Type} {B : Nat} {J : (Nat → Prop) → β → World → Prop} (h : Abd B J) {C : Nat → Prop} {s : β} {W W' : World} (hJ : J C s W) (hb : Below W.heap.size W W') : J C s W' := h C s W W' hJ (Fr.of_below hb)

section
variable {α : Type} {F : Fence} {n : Nat} {P : Program}
def YldC (J Jx : (Nat → Prop) → List α → World → Prop) (C : Nat → Prop) (xs : List α) (W : World) (e : Ending) (W' : World) : Prop :=
 (e = .returned (.bool true) ∧ ∃ C', J C' xs W' ∧ Fr C W W' ∧ Nw C C' W) ∨ (e = .returned (.bool false) ∧ ∃ C', Jx C' xs W' ∧ Fr C W W' ∧ Nw C C' W)
def SeqC (F : Fence) (n : Nat) (P : Program) (g : Nat) (lb : Array Value) (encs : α → Array Value) (R : Nat → Prop) (S : Nat → List α → World → Prop) (Sp : List α → Prop) (Nx : List α → α → Prop) (w : World) : Prop :=
 ∀ (l : Nat) (J Jx : (Nat → Prop) → List α → World → Prop) (C : Nat → Prop) (W : World), Fr (fun k => ¬ R k) w W → (∀ k, C k → ¬ R k) → Abd W.heap.size J → Abd W.heap.size Jx → Bdd J → Bdd Jx →
  (∀ C pre x W1, W.heap.size ≤ W1.heap.size → J C pre W1 → Nx pre x → YieldAt F (n - 1) P l (encs x) W1 (YldC J Jx C (pre ++ [x]) W1)) →
  J C [] W →
  CallsIn F n P g (#[.func (.yield l) #[] #[]] ++ lb) W fun e W' => (∃ v, e = .returned v) ∧ ∃ C', Fr C W W' ∧ Nw C C' W ∧ ((∃ xs, S W.heap.size xs W' ∧ J C' xs W') ∨ (∃ pre, Sp pre ∧ Jx C' pre W'))

def postC (I : (Nat → Prop) → List α → World → Prop) (Ix : Code → (Nat → Prop) → List α → World → Prop) (C : Nat → Prop) (xs : List α) (W : World) : Exit → Act → World → Prop
 | .normal, _, W' => ∃ C', I C' xs W' ∧ Fr C W W' ∧ Nw C C' W
 | .ret, _, W' => ∃ C', Ix .ret C' xs W' ∧ Fr C W W' ∧ Nw C C' W
 | .exit id, _, W' => ∃ C', Ix (.exit id) C' xs W' ∧ Fr C W W' ∧ Nw C C' W
 | .goto t, _, W' => ∃ C', Ix (.goto t) C' xs W' ∧ Fr C W W' ∧ Nw C C' W
 | .panic _, _, _ => False
 | .outgrown, _, _ => False

theorem wpIn_rangeC {g : Operand} {ps : Array Tmp} {assign body : Code} {Q : Exit → Act → World → Prop} {a : Act} {w w0 : World}
  (hro : F.round = none) (h1 : 1 ≤ n) {gf : Nat} {lb : Array Value} (hg : a.eval g = .func (.func gf) #[] lb) (hFg : F.fn gf) (eg : ∀ args w, (callFunc gf args).run P w = .ok (.enter gf args) w)
  {encs : α → Array Value} {R : Nat → Prop} {S : Nat → List α → World → Prop} {Sp : List α → Prop} {Nx : List α → α → Prop} (hseq : SeqC F (n - 1) P gf lb encs R S Sp Nx w0) (hfr : Fr (fun k => ¬ R k) w0 w) (hR : ∀ k, R k → k < w0.heap.size) (hps : ∀ x, (encs x).size = ps.size)
  (I : (Nat → Prop) → List α → World → Prop) (Ix : Code → (Nat → Prop) → List α → World → Prop) (hI : Abd w.heap.size I) (hIx : ∀ c, Abd w.heap.size (Ix c)) (bI : Bdd I) (bIx : ∀ c, Bdd (Ix c)) (C0 : Nat → Prop) (h0 : I C0 [] w) (hC0 : ∀ k, C0 k → ¬ R k)
  (Ax : α → Act → (Nat → Prop) → World → Prop) (hAx : ∀ x a', Abd w.heap.size (fun C (_ : Unit) W => Ax x a' C W))
  (hassign : ∀ (l : Nat) (C : Nat → Prop) (pre : List α) (x : α) (W : World) (K : Act → World → Prop), Fr C0 w W → Nw C0 C w → I C pre W → Nx pre x → (∀ a' W' C', Fr C W W' → Nw C C' W → I C' pre W' → Ax x a' C' W' → K a' W') →
   assign.wpIn (F.inRound l) (n - 1 - 1) P (Exit.then K (fun _ _ _ => False)) { tmps := (ps.zip (encs x)).foldl (fun t (p, v) => t.setIfInBounds p v) a.tmps, defers := [] } W)
  (hbody : ∀ (l : Nat) (C : Nat → Prop) (pre : List α) (x : α) (a' : Act) (W : World), Fr C0 w W → Nw C0 C w → I C pre W → Ax x a' C W → Nx pre x → body.wpIn (F.inRound l) (n - 1 - 1) P (postC I Ix C (pre ++ [x]) W) a' W)
  (hdone : ∀ (D : Nat) (C : Nat → Prop) (xs : List α) (W W2 : World), D = w.heap.size → ¬ C D → S (w.heap.size + 2) xs W2 → Fr (fun k => k = D + 1) W2 W → I C xs W → Fr C0 w W → Nw C0 C w → W.heap[D]? = some (.deferred (some [])) → Q .normal { a with defers := { target := .collected D, args := #[] } :: a.defers } W)
  (hstop : ∀ (D : Nat) (c : Code) (C : Nat → Prop) (pre : List α) (W : World), D = w.heap.size → ¬ C D → Sp pre → Ix c C pre W → Fr C0 w W → Nw C0 C w → W.heap[D]? = some (.deferred (some [])) → c.wpIn F n P Q { a with defers := { target := .collected D, args := #[] } :: a.defers } W) :
  (Code.rangeFunc g ps assign body).wpIn F n P Q a w := by
 refine wpIn_rangeFunc ?_
 intro fn hfn
 rw [hro]
 obtain ⟨D, hD⟩ : ∃ D, D = w.heap.size := ⟨_, rfl⟩
 obtain ⟨rec, hrec⟩ : ∃ rec : LoopState → Option Code → Loop, rec = fun st pe => { state := st, pending := pe, fn, tmps := a.tmps, params := ps, assign, body, defers := D } := ⟨_, rfl⟩
 obtain ⟨W1, hW1⟩ : ∃ W1, (w.alloc (.deferred (some []))).alloc (.loop (rec .ready none)) = W1 := ⟨_, rfl⟩
 have hs1 : W1.heap.size = D + 2 := by rw [← hW1]; simp [hD]
 have hL1 : W1.heap[D + 1]? = some (.loop (rec .ready none)) := by
  have := World.alloc_heap_new (w.alloc (.deferred (some []))) (.loop (rec .ready none))
  rw [World.size_alloc, hW1, ← hD] at this
  exact this
 have hK1 : W1.heap[D]? = some (.deferred (some [])) := by
  rw [← hW1, hD]
  exact (Below.heap_alloc _ _ _ (by simp)).trans (World.alloc_heap_new w _)
 have hbw : Below w.heap.size w W1 := by
  rw [← hW1]
  exact ((Below.refl _ w).alloc (Nat.le_refl _) _).alloc (by simp) _
 have hI1 : I C0 [] W1 := hI.new h0 hbw
 have hgo : (Instr.enterLoop fn a.tmps ps assign body none).run P w = .ok (D + 1, [{ target := .collected D, args := #[] }]) W1 := by
  rw [← hW1, hrec, hD]
  exact run_enterLoop_outer _ _ _ _ _
 rw [← hD] at hdone hstop hI hIx hAx
 have hD' : D = D := rfl
 refine ⟨D + 1, [{ target := .collected D, args := #[] }], W1, { target := .fn (.func gf) lb, args := #[.func (.yield (D + 1)) #[] #[]] }, W1, gf,
  #[.func (.yield (D + 1)) #[] #[]] ++ lb, W1, hgo, ?_, ?_, ?_, fun _ => h1, ?_⟩
 ·simp only [resolve, hg]
  simp [go_sem]
 ·intro f' hf'; simp [Target.leads] at hf'; subst hf'; exact hFg
 ·simp [invoke, go_sem, eg]
 ·have low0 : ∀ k, C0 k → k < D := fun k h => by have := bI _ _ _ h0 _ h; omega
  obtain ⟨U, hU⟩ : ∃ U : (Nat → Prop) → Nat → Prop, U = fun C k => C k ∨ k = D ∨ k = D + 1 := ⟨_, rfl⟩
  have uI : ∀ {C : Nat → Prop} {k : Nat}, C k → U C k := fun h => by rw [hU]; exact .inl h
  have uD : ∀ {C : Nat → Prop}, U C D := by rw [hU]; exact .inr (.inl rfl)
  have uL : ∀ {C : Nat → Prop}, U C (D + 1) := by rw [hU]; exact .inr (.inr rfl)
  have uE : ∀ {C : Nat → Prop} {k : Nat}, U C k → C k ∨ k = D ∨ k = D + 1 := fun h => by rw [hU] at h; exact h
  obtain ⟨J, hJ⟩ : ∃ J : (Nat → Prop) → List α → World → Prop, J = fun C pre W => ∃ C1, C = U C1 ∧ ¬ C1 D ∧ ¬ C1 (D + 1) ∧ I C1 pre W ∧ Fr C0 w W ∧ Nw C0 C1 w ∧ W.heap[D + 1]? = some (.loop (rec .ready none)) ∧ W.heap[D]? = some (.deferred (some [])) := ⟨_, rfl⟩
  obtain ⟨Jx, hJx⟩ : ∃ Jx : (Nat → Prop) → List α → World → Prop, Jx = fun C pre W => ∃ C1 c, C = U C1 ∧ ¬ C1 D ∧ ¬ C1 (D + 1) ∧ Ix c C1 pre W ∧ Fr C0 w W ∧ Nw C0 C1 w ∧ W.heap[D + 1]? = some (.loop (rec .done (some c))) ∧ W.heap[D]? = some (.deferred (some [])) := ⟨_, rfl⟩
  have fr0 : ∀ {C1 : Nat → Prop} {W W' : World}, Fr C0 w W → Fr (fun k => D + 2 ≤ k ∧ ¬ U C1 k) W W' → Fr C0 w W' := fun h h' => h.trans h' fun k hk hc => by omega
  have keepD : ∀ {C1 : Nat → Prop} {W W' : World} {o : Obj}, Fr (fun k => D + 2 ≤ k ∧ ¬ U C1 k) W W' → W.heap[D]? = some o → W'.heap[D]? = some o := fun h hk => h.same hk fun hc => by omega
  have keepL : ∀ {C1 : Nat → Prop} {W W' : World} {o : Obj}, Fr (fun k => D + 2 ≤ k ∧ ¬ U C1 k) W W' → W.heap[D + 1]? = some o → W'.heap[D + 1]? = some o := fun h hk => h.same hk fun hc => by omega
  have frI : ∀ {C1 : Nat → Prop} {W W' : World}, Fr (fun k => D + 2 ≤ k ∧ ¬ U C1 k) W W' → Fr (fun k => D ≤ k ∧ ¬ C1 k) W W' := fun h => h.mono fun k _ hk => ⟨by omega, fun hc => hk.2 (uI hc)⟩
  have aJ : Abd (D + 2) J := by
   intro C s W W' h hF
   rw [hJ] at h ⊢
   obtain ⟨C1, rfl, n1, n2, hi, hf, hw, hl, hk⟩ := h
   exact ⟨C1, rfl, n1, n2, hI _ _ _ _ hi (frI hF), fr0 hf hF, hw, keepL hF hl, keepD hF hk⟩
  have aJx : Abd (D + 2) Jx := by
   intro C s W W' h hF
   rw [hJx] at h ⊢
   obtain ⟨C1, c, rfl, n1, n2, hi, hf, hw, hl, hk⟩ := h
   exact ⟨C1, c, rfl, n1, n2, hIx _ _ _ _ _ hi (frI hF), fr0 hf hF, hw, keepL hF hl, keepD hF hk⟩
  have lt : ∀ {W : World} {k : Nat} {o : Obj}, W.heap[k]? = some o → k < W.heap.size := fun h => (Array.getElem?_eq_some_iff.1 h).1
  have bJ : Bdd J := by
   intro C s W h k hk
   rw [hJ] at h
   obtain ⟨C1, rfl, n1, n2, hi, hf, hw, hl, hkk⟩ := h
   rcases uE hk with h2 | rfl | rfl
   ·exact bI _ _ _ hi k h2
   ·exact lt hkk
   ·exact lt hl
  have bJx : Bdd Jx := by
   intro C s W h k hk
   rw [hJx] at h
   obtain ⟨C1, c, rfl, n1, n2, hi, hf, hw, hl, hkk⟩ := h
   rcases uE hk with h2 | rfl | rfl
   ·exact bIx _ _ _ _ hi k h2
   ·exact lt hkk
   ·exact lt hl
  refine (hseq (D + 1) J Jx (U C0) W1 (hfr.trans (Fr.of_below (C := fun _ => False) hbw) fun k _ h => h.elim) (fun k hk hr => ?_) (by rw [hs1]; exact aJ) (by rw [hs1]; exact aJx) bJ bJx ?_ ?_).mono ?_
  ·have hlt := Nat.lt_of_lt_of_le (hR k hr) hfr.size
   rcases uE hk with h2 | rfl | rfl
   ·exact hC0 k h2 hr
   ·omega
   ·omega
  · -- one round
   intro C pre x W hsW h hlen
   rw [hJ] at h
   obtain ⟨C1, rfl, n1, n2, hi, hf, hw, hl, hk⟩ := h
   have hy := run_yield (P := P) (args := encs x) hl (by rw [hrec]; exact hps x)
   rw [hrec] at hy
   refine ⟨fn, _, assign, body, hy, roundIn_of_wpIn hfn (hassign _ C1 pre x W _ hf hw hi hlen ?_)⟩
   clear hy
   intro a' Wa Ca hFa hNa hia hax
   have nDa : ¬ Ca D := fun h => by
    rcases hNa _ h with h2 | h2
    ·exact n1 h2
    ·have := lt hk; omega
   have nLa : ¬ Ca (D + 1) := fun h => by
    rcases hNa _ h with h2 | h2
    ·exact n2 h2
    ·have := lt hl; omega
   have hla := hFa.same hl n2
   have hka := hFa.same hk n1
   refine ⟨_, run_beginRound hla (by rw [hrec]), ?_⟩
   obtain ⟨Wb, hWb⟩ : ∃ Wb, Wa.putObj (D + 1) (.loop { rec .ready none with state := .busy }) = Wb := ⟨_, rfl⟩
   rw [hWb]
   have hFb : ∀ E : Nat → Prop, E (D + 1) → Fr E Wa Wb := fun E hE => by rw [← hWb]; exact Fr.putObj E Wa _ _ fun _ => hE
   have hlb : Wb.heap[D + 1]? = some (.loop { rec .ready none with state := .busy }) := by rw [← hWb]; exact World.putObj_heap_same (lt hla)
   have hkb : Wb.heap[D]? = some (.deferred (some [])) := by rw [← hWb]; exact (World.putObj_heap_other (by omega)).trans hka
   have hib : I Ca pre Wb := hI _ _ _ _ hia (hFb _ ⟨by omega, nLa⟩)
   have hfa : Fr C0 w Wa := hf.step hw hFa
   have hfb : Fr C0 w Wb := hfa.trans (hFb (fun k => k = D + 1) rfl) fun k hk hc => by omega
   have hwa : Nw C0 Ca w := hw.trans hNa hf.size
   have hFUb : Fr (U C1) W Wb := (hFa.mono (D := U C1) fun k _ h => uI h).trans (hFb (fun k => k = D + 1) rfl) fun k _ hc => by rw [hc]; exact uL
   refine wpIn_mono (hbody _ Ca pre x a' Wb hfb hwa hib (hAx x a' Ca () Wa Wb hax (hFb _ ⟨by omega, nLa⟩)) hlen) ?_
   have fin : ∀ (jump : Option Code) (C3 : Nat → Prop) (W3 : World), Fr Ca Wb W3 → Nw Ca C3 Wb →
     (Instr.endRound (D + 1) jump).run P W3 = .ok (.bool jump.isNone) (W3.putObj (D + 1) (.loop (rec (if jump.isNone then .ready else .done) jump))) ∧
     (W3.putObj (D + 1) (.loop (rec (if jump.isNone then .ready else .done) jump))).heap[D + 1]? = some (.loop (rec (if jump.isNone then .ready else .done) jump)) ∧
     (W3.putObj (D + 1) (.loop (rec (if jump.isNone then .ready else .done) jump))).heap[D]? = some (.deferred (some [])) ∧ ¬ C3 D ∧ ¬ C3 (D + 1) ∧ Nw C0 C3 w ∧ Fr (fun k => D ≤ k ∧ ¬ C3 k) W3 (W3.putObj (D + 1) (.loop (rec (if jump.isNone then .ready else .done) jump))) ∧
     Fr C0 w (W3.putObj (D + 1) (.loop (rec (if jump.isNone then .ready else .done) jump))) ∧ Fr (U C1) W (W3.putObj (D + 1) (.loop (rec (if jump.isNone then .ready else .done) jump))) ∧ Nw (U C1) (U C3) W := fun jump C3 W3 hF3 hN3 => by
    have hl3 := hF3.same hlb nLa
    have hk3 := hF3.same hkb nDa
    have n3 : ¬ C3 D := fun h => by
     rcases hN3 _ h with h2 | h2
     ·exact nDa h2
     ·have := lt hkb; omega
    have n4 : ¬ C3 (D + 1) := fun h => by
     rcases hN3 _ h with h2 | h2
     ·exact nLa h2
     ·have := lt hlb; omega
    have hN1 : Nw C1 C3 W := hNa.trans (fun k hk => by
     rcases hN3 k hk with h2 | h2
     ·exact .inl h2
     ·exact .inr (by rw [← hWb] at h2; simpa using h2)) hFa.size
    have hrun := run_endRound (P := P) jump hl3
    rw [hrec] at hrun ⊢
    refine ⟨hrun, World.putObj_heap_same (lt hl3), (World.putObj_heap_other (by omega)).trans hk3, n3, n4, hw.trans hN1 hf.size, Fr.putObj _ _ _ _ fun _ => ⟨by omega, n4⟩, ?_, ?_, ?_⟩
    ·refine ((hfb.step hwa hF3)).trans (Fr.putObj (fun k => k = D + 1) _ _ _ fun _ => rfl) fun k hk hc => by omega
    ·refine (hFUb.trans hF3 fun k hk hc => ?_).trans (Fr.putObj (fun k => k = D + 1) _ _ _ fun _ => rfl) fun k _ hc => by rw [hc]; exact uL
     rcases hNa k hc with h2 | h2
     ·exact uI h2
     ·omega
    ·intro k hk
     rcases uE hk with h2 | rfl | rfl
     ·rcases hN1 k h2 with h3 | h3
      ·exact .inl (uI h3)
      ·exact .inr h3
     ·exact .inl uD
     ·exact .inl uL
   rintro e a3 W3 hp
   cases e with
   | normal =>
    obtain ⟨C3, hi3, hF3, hN3⟩ := hp
    obtain ⟨hr, hl4, hk4, n3, n4, hw4, hI4, hf4, hF4, hN4⟩ := fin none C3 W3 hF3 hN3
    refine ⟨_, _, hr, .inl ⟨rfl, U C3, ?_, hF4, hN4⟩⟩
    rw [hJ]
    exact ⟨C3, rfl, n3, n4, hI _ _ _ _ hi3 hI4, hf4, hw4, hl4, hk4⟩
   | ret =>
    obtain ⟨C3, hi3, hF3, hN3⟩ := hp
    obtain ⟨hr, hl4, hk4, n3, n4, hw4, hI4, hf4, hF4, hN4⟩ := fin (some .ret) C3 W3 hF3 hN3
    refine ⟨_, _, hr, .inr ⟨rfl, U C3, ?_, hF4, hN4⟩⟩
    rw [hJx]
    exact ⟨C3, _, rfl, n3, n4, hIx _ _ _ _ _ hi3 hI4, hf4, hw4, hl4, hk4⟩
   | exit id =>
    obtain ⟨C3, hi3, hF3, hN3⟩ := hp
    obtain ⟨hr, hl4, hk4, n3, n4, hw4, hI4, hf4, hF4, hN4⟩ := fin (some (.exit id)) C3 W3 hF3 hN3
    refine ⟨_, _, hr, .inr ⟨rfl, U C3, ?_, hF4, hN4⟩⟩
    rw [hJx]
    exact ⟨C3, _, rfl, n3, n4, hIx _ _ _ _ _ hi3 hI4, hf4, hw4, hl4, hk4⟩
   | goto t =>
    obtain ⟨C3, hi3, hF3, hN3⟩ := hp
    obtain ⟨hr, hl4, hk4, n3, n4, hw4, hI4, hf4, hF4, hN4⟩ := fin (some (.goto t)) C3 W3 hF3 hN3
    refine ⟨_, _, hr, .inr ⟨rfl, U C3, ?_, hF4, hN4⟩⟩
    rw [hJx]
    exact ⟨C3, _, rfl, n3, n4, hIx _ _ _ _ _ hi3 hI4, hf4, hw4, hl4, hk4⟩
   | panic ch => exact hp.elim
   | outgrown => exact hp.elim
  ·rw [hJ]
   exact ⟨C0, rfl, fun h => by have := low0 _ h; omega, fun h => by have := low0 _ h; omega, hI1, Fr.of_below hbw, Nw.refl _ _, hL1, hK1⟩
  · -- behind the iterator
   rintro e W2 ⟨⟨v, rfl⟩, C', _, _, (⟨xs, hS, h⟩ | ⟨pre, hSp, h⟩)⟩
   ·rw [hJ] at h
    obtain ⟨C1, rfl, n1, n2, hi, hf, hw, hl, hk⟩ := h
    have hrun := run_endLoop (P := P) hl (by rw [hrec]; simp)
    rw [hrec] at hrun
    refine ⟨none, _, hrun, hdone D C1 xs _ W2 hD' n1 (by rw [hs1] at hS; exact hS) (Fr.putObj (fun k => k = D + 1) _ _ _ fun _ => rfl) (hI _ _ _ _ hi (Fr.putObj _ _ _ _ fun _ => ⟨by omega, n2⟩)) (hf.trans (Fr.putObj (fun k => k = D + 1) _ _ _ fun _ => rfl) fun k hk hc => by omega) hw ((World.putObj_heap_other (by omega)).trans hk)⟩
   ·rw [hJx] at h
    obtain ⟨C1, c, rfl, n1, n2, hi, hf, hw, hl, hk⟩ := h
    have hrun := run_endLoop (P := P) hl (by rw [hrec]; simp)
    rw [hrec] at hrun
    refine ⟨some c, _, hrun, hstop D c C1 pre _ hD' n1 hSp (hIx _ _ _ _ _ hi (Fr.putObj _ _ _ _ fun _ => ⟨by omega, n2⟩)) (hf.trans (Fr.putObj (fun k => k = D + 1) _ _ _ fun _ => rfl) fun k hk hc => by omega) hw ((World.putObj_heap_other (by omega)).trans hk)⟩
end
end Rg
end Go.Proofs.YtlailcmhpnnidaaGreatDoor
