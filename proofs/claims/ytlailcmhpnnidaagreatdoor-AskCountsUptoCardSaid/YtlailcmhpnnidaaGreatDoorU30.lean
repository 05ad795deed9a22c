/-
  Walk of the statement PointerIndexes. Walks of the reference of layer 13: Piece, Print. The reference of layer 13: On, and layer 10's Find of a key. The reference of layer 13: Lead. The law's value: what steps make, by the reference.
  Walks of package ask: Tell, Size.
  Package ask's All: the contract of its iterator.
-/
import Derived.Test.YtlailcmhpnnidaaGreatDoorU14
import Derived.Test.YtlailcmhpnnidaaGreatDoorU17
import Derived.Test.YtlailcmhpnnidaaGreatDoorU27
import Derived.Test.YtlailcmhpnnidaaGreatDoorU29
import Derived.Test.YtlailcmhpnnidaaGreatDoorU22
import Derived.Test.YtlailcmhpnnidaaGreatDoorU23
import Derived.Lib.AppendStr
import Derived.Deep.RegionHeldLaw
set_option linter.unusedVariables false
set_option linter.unusedSimpArgs false
set_option maxRecDepth 100000
set_option maxHeartbeats 16000000
namespace Go.Proofs.YtlailcmhpnnidaaGreatDoor
open Go.RowKit Mem Utf Ref3 Tok Idx

end Go.Proofs.YtlailcmhpnnidaaGreatDoor
namespace Go.Proofs.YtlailcmhpnnidaaGreatDoor
open Go.RowKit Mem Utf Ref3 Tok

end Go.Proofs.YtlailcmhpnnidaaGreatDoor
namespace Go.Proofs.YtlailcmhpnnidaaGreatDoor
open Go.RowKit Mem Idx
namespace Nd
end Nd
end Go.Proofs.YtlailcmhpnnidaaGreatDoor
namespace Go.Proofs.YtlailcmhpnnidaaGreatDoor
open Go.RowKit Mem Idx Tok
namespace Nd
theorem six_below {w w' : World} {P : Nat} (h : Below w.heap.size w w') (hP : w.heap.size ≤ P) (a b c d e f : Value) : Below w.heap.size w (six w' P a b c d e f) :=
 below_put (below_put (below_put (below_put (below_put (below_put h hP) hP) hP) hP) hP) hP
end Nd
end Go.Proofs.YtlailcmhpnnidaaGreatDoor
namespace Go.Proofs.YtlailcmhpnnidaaGreatDoor
open Go.RowKit Mem
namespace Nd
theorem runT_ne : ∀ (ss : List Stp) (l : List Tr) (i n j : Nat) (m : Int), runT l ss i = .inl (m, n) → m ≠ 0
 | [], l, i, n, j, m, h => by rw [runT] at h; cases h
 | s :: ss, l, i, n, j, m, h => by
  rw [runT] at h
  by_cases h0 : (doT l s).1 = 0
  ·rw [if_pos h0] at h
   exact runT_ne ss _ _ _ j _ h
  ·rw [if_neg h0] at h
   injection h with h
   injection h with h1 h2
   rw [← h1]
   exact h0
theorem buildT_ne {ss : List Stp} {n i : Int} (h : buildT ss = .inl (n, i)) : n ≠ 0 := by
 unfold buildT at h
 by_cases hl : 65536 < ss.length
 ·rw [if_pos hl] at h
  injection h with h
  injection h with h1 h2
  omega
 ·rw [if_neg hl] at h
  cases hr : runT [] ss 0 with
  | inl x =>
   rw [hr] at h
   injection h with h
   injection h with h1 h2
   have := runT_ne ss [] 0 x.2 0 x.1 hr
   rw [← h1]
   exact this
  | inr l =>
   rw [hr] at h
   match l, h with
   | [], h => injection h with h; injection h with h1 h2; omega
   | [t], h => cases h
   | _ :: _ :: _, h => injection h with h; injection h with h1 h2; omega
theorem refBuild_all (v : Value) (ss : List Stp) (w : World) (hS : RdS w v ss) (hF : ∀ s ∈ ss, s.Fine) (hC : ∀ s ∈ ss, s.Cnt) : Calls Tryz.prog 25 #[v] w (RBuildP ss w) := by
 by_cases hn : ss.length ≤ 65536
 ·exact refBuild_any v ss w hS hF hC hn
 ·exact refBuild_long v ss w hS (by omega)
end Nd
end Go.Proofs.YtlailcmhpnnidaaGreatDoor
namespace Go.Proofs.YtlailcmhpnnidaaGreatDoor
open Go.RowKit Mem Utf Ref3 Idx Tok TokC
namespace Nd
theorem two_out_0 (n : Int) (hn : n < 1 ∨ 11 < n) (w : World) : Calls Tryz.prog 30 #[.nilIface, .int .i64 n] w (BoolR false w) := by
 have e1 : (n == 1) = false := by rw [beq_eq_false_iff_ne]; omega
 have e2 : (n == 2) = false := by rw [beq_eq_false_iff_ne]; omega
 have e3 : (n == 3) = false := by rw [beq_eq_false_iff_ne]; omega
 have e4 : (n == 4) = false := by rw [beq_eq_false_iff_ne]; omega
 have e5 : (n == 5) = false := by rw [beq_eq_false_iff_ne]; omega
 have e6 : (n == 6) = false := by rw [beq_eq_false_iff_ne]; omega
 have e7 : (n == 7) = false := by rw [beq_eq_false_iff_ne]; omega
 have e8 : (n == 8) = false := by rw [beq_eq_false_iff_ne]; omega
 have e9 : (n == 9) = false := by rw [beq_eq_false_iff_ne]; omega
 have e10 : (n == 10) = false := by rw [beq_eq_false_iff_ne]; omega
 have e11 : (n == 11) = false := by rw [beq_eq_false_iff_ne]; omega
 clear hn
 go_enter Tryz.func30, Tryz.ntmps30
 go_wp2
 go_ret
 exact ⟨rfl, rfl⟩
theorem two_out_1 (x : Value) (n : Int) (hn : n < 1 ∨ 11 < n) (w : World) : Calls Tryz.prog 30 #[(.iface 103 x), .int .i64 n] w (BoolR false w) := by
 have e1 : (n == 1) = false := by rw [beq_eq_false_iff_ne]; omega
 have e2 : (n == 2) = false := by rw [beq_eq_false_iff_ne]; omega
 have e3 : (n == 3) = false := by rw [beq_eq_false_iff_ne]; omega
 have e4 : (n == 4) = false := by rw [beq_eq_false_iff_ne]; omega
 have e5 : (n == 5) = false := by rw [beq_eq_false_iff_ne]; omega
 have e6 : (n == 6) = false := by rw [beq_eq_false_iff_ne]; omega
 have e7 : (n == 7) = false := by rw [beq_eq_false_iff_ne]; omega
 have e8 : (n == 8) = false := by rw [beq_eq_false_iff_ne]; omega
 have e9 : (n == 9) = false := by rw [beq_eq_false_iff_ne]; omega
 have e10 : (n == 10) = false := by rw [beq_eq_false_iff_ne]; omega
 have e11 : (n == 11) = false := by rw [beq_eq_false_iff_ne]; omega
 clear hn
 go_enter Tryz.func30, Tryz.ntmps30
 go_wp2
 go_ret
 exact ⟨rfl, rfl⟩
theorem two_out_2 (x : Value) (n : Int) (hn : n < 1 ∨ 11 < n) (w : World) : Calls Tryz.prog 30 #[(.iface 104 x), .int .i64 n] w (BoolR false w) := by
 have e1 : (n == 1) = false := by rw [beq_eq_false_iff_ne]; omega
 have e2 : (n == 2) = false := by rw [beq_eq_false_iff_ne]; omega
 have e3 : (n == 3) = false := by rw [beq_eq_false_iff_ne]; omega
 have e4 : (n == 4) = false := by rw [beq_eq_false_iff_ne]; omega
 have e5 : (n == 5) = false := by rw [beq_eq_false_iff_ne]; omega
 have e6 : (n == 6) = false := by rw [beq_eq_false_iff_ne]; omega
 have e7 : (n == 7) = false := by rw [beq_eq_false_iff_ne]; omega
 have e8 : (n == 8) = false := by rw [beq_eq_false_iff_ne]; omega
 have e9 : (n == 9) = false := by rw [beq_eq_false_iff_ne]; omega
 have e10 : (n == 10) = false := by rw [beq_eq_false_iff_ne]; omega
 have e11 : (n == 11) = false := by rw [beq_eq_false_iff_ne]; omega
 clear hn
 go_enter Tryz.func30, Tryz.ntmps30
 go_wp2
 go_ret
 exact ⟨rfl, rfl⟩
theorem two_out_3 (x : Value) (n : Int) (hn : n < 1 ∨ 11 < n) (w : World) : Calls Tryz.prog 30 #[(.iface 106 x), .int .i64 n] w (BoolR false w) := by
 have e1 : (n == 1) = false := by rw [beq_eq_false_iff_ne]; omega
 have e2 : (n == 2) = false := by rw [beq_eq_false_iff_ne]; omega
 have e3 : (n == 3) = false := by rw [beq_eq_false_iff_ne]; omega
 have e4 : (n == 4) = false := by rw [beq_eq_false_iff_ne]; omega
 have e5 : (n == 5) = false := by rw [beq_eq_false_iff_ne]; omega
 have e6 : (n == 6) = false := by rw [beq_eq_false_iff_ne]; omega
 have e7 : (n == 7) = false := by rw [beq_eq_false_iff_ne]; omega
 have e8 : (n == 8) = false := by rw [beq_eq_false_iff_ne]; omega
 have e9 : (n == 9) = false := by rw [beq_eq_false_iff_ne]; omega
 have e10 : (n == 10) = false := by rw [beq_eq_false_iff_ne]; omega
 have e11 : (n == 11) = false := by rw [beq_eq_false_iff_ne]; omega
 clear hn
 go_enter Tryz.func30, Tryz.ntmps30
 go_wp2
 go_ret
 exact ⟨rfl, rfl⟩
theorem two_out_4 (x : Value) (n : Int) (hn : n < 1 ∨ 11 < n) (w : World) : Calls Tryz.prog 30 #[(.iface 108 x), .int .i64 n] w (BoolR false w) := by
 have e1 : (n == 1) = false := by rw [beq_eq_false_iff_ne]; omega
 have e2 : (n == 2) = false := by rw [beq_eq_false_iff_ne]; omega
 have e3 : (n == 3) = false := by rw [beq_eq_false_iff_ne]; omega
 have e4 : (n == 4) = false := by rw [beq_eq_false_iff_ne]; omega
 have e5 : (n == 5) = false := by rw [beq_eq_false_iff_ne]; omega
 have e6 : (n == 6) = false := by rw [beq_eq_false_iff_ne]; omega
 have e7 : (n == 7) = false := by rw [beq_eq_false_iff_ne]; omega
 have e8 : (n == 8) = false := by rw [beq_eq_false_iff_ne]; omega
 have e9 : (n == 9) = false := by rw [beq_eq_false_iff_ne]; omega
 have e10 : (n == 10) = false := by rw [beq_eq_false_iff_ne]; omega
 have e11 : (n == 11) = false := by rw [beq_eq_false_iff_ne]; omega
 clear hn
 go_enter Tryz.func30, Tryz.ntmps30
 go_wp2
 go_ret
 exact ⟨rfl, rfl⟩
theorem two_out_5 (x : Value) (n : Int) (hn : n < 1 ∨ 11 < n) (w : World) : Calls Tryz.prog 30 #[(.iface 109 x), .int .i64 n] w (BoolR false w) := by
 have e1 : (n == 1) = false := by rw [beq_eq_false_iff_ne]; omega
 have e2 : (n == 2) = false := by rw [beq_eq_false_iff_ne]; omega
 have e3 : (n == 3) = false := by rw [beq_eq_false_iff_ne]; omega
 have e4 : (n == 4) = false := by rw [beq_eq_false_iff_ne]; omega
 have e5 : (n == 5) = false := by rw [beq_eq_false_iff_ne]; omega
 have e6 : (n == 6) = false := by rw [beq_eq_false_iff_ne]; omega
 have e7 : (n == 7) = false := by rw [beq_eq_false_iff_ne]; omega
 have e8 : (n == 8) = false := by rw [beq_eq_false_iff_ne]; omega
 have e9 : (n == 9) = false := by rw [beq_eq_false_iff_ne]; omega
 have e10 : (n == 10) = false := by rw [beq_eq_false_iff_ne]; omega
 have e11 : (n == 11) = false := by rw [beq_eq_false_iff_ne]; omega
 clear hn
 go_enter Tryz.func30, Tryz.ntmps30
 go_wp2
 go_ret
 exact ⟨rfl, rfl⟩
theorem two_out_6 (x : Value) (n : Int) (hn : n < 1 ∨ 11 < n) (w : World) : Calls Tryz.prog 30 #[(.iface 112 x), .int .i64 n] w (BoolR false w) := by
 have e1 : (n == 1) = false := by rw [beq_eq_false_iff_ne]; omega
 have e2 : (n == 2) = false := by rw [beq_eq_false_iff_ne]; omega
 have e3 : (n == 3) = false := by rw [beq_eq_false_iff_ne]; omega
 have e4 : (n == 4) = false := by rw [beq_eq_false_iff_ne]; omega
 have e5 : (n == 5) = false := by rw [beq_eq_false_iff_ne]; omega
 have e6 : (n == 6) = false := by rw [beq_eq_false_iff_ne]; omega
 have e7 : (n == 7) = false := by rw [beq_eq_false_iff_ne]; omega
 have e8 : (n == 8) = false := by rw [beq_eq_false_iff_ne]; omega
 have e9 : (n == 9) = false := by rw [beq_eq_false_iff_ne]; omega
 have e10 : (n == 10) = false := by rw [beq_eq_false_iff_ne]; omega
 have e11 : (n == 11) = false := by rw [beq_eq_false_iff_ne]; omega
 clear hn
 go_enter Tryz.func30, Tryz.ntmps30
 go_wp2
 go_ret
 exact ⟨rfl, rfl⟩
theorem two_out_7 (x : Value) (n : Int) (hn : n < 1 ∨ 11 < n) (w : World) : Calls Tryz.prog 30 #[(.iface 53 x), .int .i64 n] w (BoolR false w) := by
 have e1 : (n == 1) = false := by rw [beq_eq_false_iff_ne]; omega
 have e2 : (n == 2) = false := by rw [beq_eq_false_iff_ne]; omega
 have e3 : (n == 3) = false := by rw [beq_eq_false_iff_ne]; omega
 have e4 : (n == 4) = false := by rw [beq_eq_false_iff_ne]; omega
 have e5 : (n == 5) = false := by rw [beq_eq_false_iff_ne]; omega
 have e6 : (n == 6) = false := by rw [beq_eq_false_iff_ne]; omega
 have e7 : (n == 7) = false := by rw [beq_eq_false_iff_ne]; omega
 have e8 : (n == 8) = false := by rw [beq_eq_false_iff_ne]; omega
 have e9 : (n == 9) = false := by rw [beq_eq_false_iff_ne]; omega
 have e10 : (n == 10) = false := by rw [beq_eq_false_iff_ne]; omega
 have e11 : (n == 11) = false := by rw [beq_eq_false_iff_ne]; omega
 clear hn
 go_enter Tryz.func30, Tryz.ntmps30
 go_wp2
 go_ret
 exact ⟨rfl, rfl⟩
theorem two_out {k : Nat} {v : Value} (h : IsK k v) (n : Int) (hn : n < 1 ∨ 11 < n) (w : World) : Calls Tryz.prog 30 #[v, .int .i64 n] w (BoolR false w) := by
 rcases h with ⟨_, rfl⟩ | ⟨_, rfl⟩ | ⟨_, x, rfl⟩ | ⟨_, x, rfl⟩ | ⟨_, x, rfl⟩ | ⟨_, x, rfl⟩ | ⟨_, x, rfl⟩ | ⟨_, x, rfl⟩ | ⟨_, rfl⟩
 ·exact two_out_0 n hn w
 ·exact two_out_1 _ n hn w
 ·exact two_out_2 _ n hn w
 ·exact two_out_3 _ n hn w
 ·exact two_out_4 _ n hn w
 ·exact two_out_5 _ n hn w
 ·exact two_out_6 _ n hn w
 ·exact two_out_7 _ n hn w
 ·exact two_out_7 _ n hn w
def wantB (k : Nat) (n : Int) : Bool := decide (1 ≤ n ∧ n ≤ 11) && holdB k n.toNat
theorem two_any {k : Nat} {v : Value} (h : IsK k v) (n : Int) (w : World) : Calls Tryz.prog 30 #[v, .int .i64 n] w (BoolR (wantB k n) w) := by
 unfold wantB
 by_cases hn : 1 ≤ n ∧ n ≤ 11
 ·obtain ⟨m, rfl⟩ : ∃ m : Nat, n = (m : Int) := ⟨n.toNat, by omega⟩
  rw [decide_eq_true hn, Bool.true_and, Int.toNat_natCast]
  exact two_k h (by omega) w
 ·rw [decide_eq_false hn, Bool.false_and]
  exact two_out h n (by omega) w
end Nd
end Go.Proofs.YtlailcmhpnnidaaGreatDoor
namespace Go.Proofs.YtlailcmhpnnidaaGreatDoor
open Go.RowKit Go.Shelf Mem Rg Tok
namespace Nd
attribute [local go_sem] Oper.semAt_some
def TvOk (x : Tx × Tr × Value) : Prop := x.2.1.Ok ∧ x.2.1.fit = true ∧ ∃ T U, x.2.2 = .iface T U
abbrev TvT : Type := { x : Tx × Tr × Value // TvOk x }
abbrev encT (x : TvT) : Array Value := #[.string ⟨x.1.1.toArray⟩, x.1.2.2]
def prT (x : TvT) : Tx × Tr := (x.1.1, x.1.2.1)
def wantL (n : Int) (l : List (Tx × Tr)) : List (Tx × Tr) := l.filter fun x => wantB x.2.srt n
theorem pall_any (tp : Value) (h1 : tp = .pointer none ∨ ∃ a, tp = .pointer (some a)) (w : World) : Calls Tryz.prog 28 #[tp] w fun e w' => e = .returned (.func (.func 58) #[] #[.pointer (some ⟨w.heap.size, 0, none⟩)]) ∧ w.alloc (.cells #[tp] 23) = w' := by
 rcases h1 with rfl | ⟨a, rfl⟩
 ·go_enter Tryz.func28, Tryz.ntmps28
  go_wp2
  go_ret
  exact ⟨rfl, rfl⟩
 ·go_enter Tryz.func28, Tryz.ntmps28
  go_wp2
  go_ret
  exact ⟨rfl, rfl⟩
theorem aall_any (tp : Value) (h1 : tp = .pointer none ∨ ∃ a, tp = .pointer (some a)) (n : Int) (w : World) : Calls Tryz.prog 7 #[tp, .int .i64 n] w fun e w' => e = .returned (.func (.func 27) #[] #[.pointer (some ⟨w.heap.size, 0, none⟩), .pointer (some ⟨w.heap.size + 1, 0, none⟩)]) ∧ (w.alloc (.cells #[tp] 23)).alloc (.cells #[.int .i64 n] 3) = w' := by
 rcases h1 with rfl | ⟨a, rfl⟩
 ·go_enter Tryz.func7, Tryz.ntmps7
  go_wp2
  go_ret
  exact ⟨rfl, rfl⟩
 ·go_enter Tryz.func7, Tryz.ntmps7
  go_wp2
  go_ret
  exact ⟨rfl, rfl⟩
def AlI {w0 : World} (J : (Nat → Prop) → List TvT → World → Prop) (n : Int) (B : Nat) (C : Nat → Prop) (pre : List (ElT w0)) (W : World) : Prop :=
 ∃ (C1 X : Nat → Prop) (ys : List TvT), (∀ k, C k ↔ C1 k ∨ X k) ∧ (∀ k, X k → ¬ C1 k ∧ k < W.heap.size ∧ B ≤ k) ∧ J C1 ys W ∧ ys.map prT = wantL n (pre.map prE) ∧ ∀ y ∈ ys, TdT X W y.1.2.1 y.1.2.2
def AlX {w0 : World} (Jx : (Nat → Prop) → List TvT → World → Prop) (B : Nat) (c : Code) (C : Nat → Prop) (pre : List (ElT w0)) (W : World) : Prop :=
 c = .ret ∧ ∃ (C1 X : Nat → Prop) (ys : List TvT), (∀ k, C k ↔ C1 k ∨ X k) ∧ (∀ k, X k → ¬ C1 k ∧ k < W.heap.size ∧ B ≤ k) ∧ Jx C1 ys W
theorem tdt_fr {D X : Nat → Prop} {W W' : World} {t : Tr} {v : Value} (h : TdT X W t v) (hF : Fr D W W') (hd : ∀ k, X k → ¬ D k) : TdT X W' t v := TdT.move (fun k hk hx => ⟨hx, hF.block k hk (hd k hx)⟩) _ _ h
theorem alI_abd {w0 : World} {J : (Nat → Prop) → List TvT → World → Prop} {n : Int} {B B' : Nat} (aJ : Abd B J) (hB : B ≤ B') : Abd B' (AlI (w0 := w0) J n B) := by
 rintro C pre W W' ⟨C1, X, ys, hC, h3, h6, h7, h8⟩ hF
 exact ⟨C1, X, ys, hC, fun k hk => ⟨(h3 k hk).1, Nat.lt_of_lt_of_le (h3 k hk).2.1 hF.size, (h3 k hk).2.2⟩, aJ _ _ _ _ h6 (hF.mono fun k _ hk => ⟨by omega, fun hc => hk.2 ((hC k).2 (.inl hc))⟩), h7, fun y hy => tdt_fr (h8 y hy) hF fun k hk hc => hc.2 ((hC k).2 (.inr hk))⟩
theorem alX_abd {w0 : World} {Jx : (Nat → Prop) → List TvT → World → Prop} {B B' : Nat} (aJ : Abd B Jx) (hB : B ≤ B') (c : Code) : Abd B' (AlX (w0 := w0) Jx B c) := by
 rintro C pre W W' ⟨hc, C1, X, ys, hC, h3, h6⟩ hF
 exact ⟨hc, C1, X, ys, hC, fun k hk => ⟨(h3 k hk).1, Nat.lt_of_lt_of_le (h3 k hk).2.1 hF.size, (h3 k hk).2.2⟩, aJ _ _ _ _ h6 (hF.mono fun k _ hk => ⟨by omega, fun hc => hk.2 ((hC k).2 (.inl hc))⟩)⟩
theorem alI_bdd {w0 : World} {J : (Nat → Prop) → List TvT → World → Prop} {n : Int} {B : Nat} (bJ : Bdd J) : Bdd (AlI (w0 := w0) J n B) := by
 rintro C pre W ⟨C1, X, ys, hC, h3, h6, h7, h8⟩ k hk
 rcases (hC k).1 hk with h | h
 ·exact bJ _ _ _ h6 k h
 ·exact (h3 k h).2.1
theorem alX_bdd {w0 : World} {Jx : (Nat → Prop) → List TvT → World → Prop} {B : Nat} (bJ : Bdd Jx) (c : Code) : Bdd (AlX (w0 := w0) Jx B c) := by
 rintro C pre W ⟨hc, C1, X, ys, hC, h3, h6⟩ k hk
 rcases (hC k).1 hk with h | h
 ·exact bJ _ _ _ h6 k h
 ·exact (h3 k h).2.1
theorem wantL_snoc (n : Int) (l : List (Tx × Tr)) (x : Tx × Tr) : wantL n (l ++ [x]) = wantL n l ++ if wantB x.2.srt n = true then [x] else [] := by
 unfold wantL
 rw [List.filter_append]
 congr 1
 by_cases h : wantB x.2.srt n = true
 ·rw [if_pos h]
  simp [h]
 ·rw [if_neg h]
  simp [h]
theorem al_next {w0 : World} {J : (Nat → Prop) → List TvT → World → Prop} {n : Int} {B : Nat} {x : ElT w0} {y : TvT} {C C1 C2 X : Nat → Prop} {pre : List (ElT w0)} {ys : List TvT} {W7 W8 W9 : World} (hC : ∀ k, C k ↔ C1 k ∨ X k) (h3 : ∀ k, X k → ¬ C1 k ∧ k < W7.heap.size ∧ B ≤ k) (hBW : B ≤ W7.heap.size) (hb : Below W7.heap.size W7 W8)
  (hy : prT y = prE x) (hw : wantB x.1.2.1.srt n = true) (htd : TdT (fun k => W7.heap.size ≤ k) W8 y.1.2.1 y.1.2.2) (hJ : J C2 (ys ++ [y]) W9) (hF : Fr C1 W8 W9) (hN : Nw C1 C2 W8) (h7 : ys.map prT = wantL n (pre.map prE)) (h8 : ∀ y ∈ ys, TdT X W7 y.1.2.1 y.1.2.2) (hc1 : ∀ k, C1 k → k < W7.heap.size) :
  ∃ C', AlI J n B C' (pre ++ [x]) W9 ∧ Fr C W7 W9 ∧ Nw C C' W7 := by
 have hs8 := hb.size
 have hs9 := hF.size
 have hX2 : ∀ k, (X k ∨ (W7.heap.size ≤ k ∧ k < W8.heap.size)) → ¬ C2 k := fun k hk hc => by
  rcases hN k hc with h | h
  ·rcases hk with hk | hk
   ·exact (h3 k hk).1 h
   ·have := hc1 k h; omega
  ·rcases hk with hk | hk
   ·have := (h3 k hk).2.1; omega
   ·omega
 refine ⟨fun k => C2 k ∨ (X k ∨ (W7.heap.size ≤ k ∧ k < W8.heap.size)), ⟨C2, fun k => X k ∨ (W7.heap.size ≤ k ∧ k < W8.heap.size), ys ++ [y], fun k => Iff.rfl, fun k hk => ⟨hX2 k hk, ?_, ?_⟩, hJ, ?_, fun z hz => ?_⟩, ?_, ?_⟩
 ·rcases hk with hk | hk
  ·have := (h3 k hk).2.1; omega
  ·omega
 ·rcases hk with hk | hk
  ·exact (h3 k hk).2.2
  ·omega
 ·rw [List.map_append, h7, List.map_append, List.map_singleton, List.map_singleton, wantL_snoc, hy, if_pos (show wantB (prE x).2.srt n = true from hw)]
 ·rw [List.mem_append, List.mem_singleton] at hz
  rcases hz with hz | rfl
  ·exact TdT.move (fun k hk hx => ⟨.inl hx, (hF.block k (by omega) (h3 k hx).1).trans (hb.block k hk)⟩) _ _ (h8 z hz)
  ·exact TdT.move (fun k hk hx => ⟨.inr ⟨hx, hk⟩, hF.block k hk fun hc => by have := hc1 k hc; omega⟩) _ _ htd
 ·exact (fr_new C hb).trans hF fun k _ hk => (hC k).2 (.inl hk)
 ·intro k hk
  rcases hk with hk | hk | hk
  ·rcases hN k hk with h | h
   ·exact .inl ((hC k).2 (.inl h))
   ·exact .inr (by omega)
  ·exact .inl ((hC k).2 (.inr hk))
  ·exact .inr hk.1
theorem al_pass {w0 : World} {J : (Nat → Prop) → List TvT → World → Prop} {n : Int} {B B0 : Nat} (aJ : Abd B0 J) {x : ElT w0} {C C1 X : Nat → Prop} {pre : List (ElT w0)} {ys : List TvT} {W7 W8 : World} (hC : ∀ k, C k ↔ C1 k ∨ X k) (h3 : ∀ k, X k → ¬ C1 k ∧ k < W7.heap.size ∧ B ≤ k) (hb : Below W7.heap.size W7 W8)
  (hw : wantB x.1.2.1.srt n = false) (hJ : J C1 ys W7) (h7 : ys.map prT = wantL n (pre.map prE)) (h8 : ∀ y ∈ ys, TdT X W7 y.1.2.1 y.1.2.2) :
  ∃ C', AlI J n B C' (pre ++ [x]) W8 ∧ Fr C W7 W8 ∧ Nw C C' W7 := by
 have hs8 := hb.size
 refine ⟨C, ⟨C1, X, ys, hC, fun k hk => ⟨(h3 k hk).1, by have := (h3 k hk).2.1; omega, (h3 k hk).2.2⟩, aJ _ _ _ _ hJ (fr_new _ hb), ?_, fun z hz => TdT.move (fun k hk hx => ⟨hx, hb.block k hk⟩) _ _ (h8 z hz)⟩, fr_new C hb, Nw.refl _ _⟩
 rw [List.map_append, List.map_singleton, wantL_snoc, if_neg (by show ¬ wantB x.1.2.1.srt n = true; rw [hw]; decide), List.append_nil, h7]
theorem al_left {w0 : World} {Jx : (Nat → Prop) → List TvT → World → Prop} {B : Nat} {x : ElT w0} {y : TvT} {C C1 C2 X : Nat → Prop} {pre : List (ElT w0)} {ys : List TvT} {W7 W8 W9 : World} (hC : ∀ k, C k ↔ C1 k ∨ X k) (h3 : ∀ k, X k → ¬ C1 k ∧ k < W7.heap.size ∧ B ≤ k) (hb : Below W7.heap.size W7 W8)
  (hJ : Jx C2 (ys ++ [y]) W9) (hF : Fr C1 W8 W9) (hN : Nw C1 C2 W8) :
  ∃ C', AlX (w0 := w0) Jx B .ret C' (pre ++ [x]) W9 ∧ Fr C W7 W9 ∧ Nw C C' W7 := by
 have hs8 := hb.size
 have hs9 := hF.size
 have hX2 : ∀ k, X k → ¬ C2 k := fun k hk hc => by
  rcases hN k hc with h | h
  ·exact (h3 k hk).1 h
  ·have := (h3 k hk).2.1; omega
 refine ⟨fun k => C2 k ∨ X k, ⟨rfl, C2, X, ys ++ [y], fun k => Iff.rfl, fun k hk => ⟨hX2 k hk, by have := (h3 k hk).2.1; omega, (h3 k hk).2.2⟩, hJ⟩, (fr_new C hb).trans hF fun k _ hk => (hC k).2 (.inl hk), fun k hk => ?_⟩
 rcases hk with hk | hk
 ·rcases hN k hk with h | h
  ·exact .inl ((hC k).2 (.inl h))
  ·exact .inr (by omega)
 ·exact .inl ((hC k).2 (.inr hk))
theorem aall1_stops (m bt bw : Nat) (n : Int) (w0 w : World) (o : Option Tr) (tp : Value) (hT0 : HasT w0 o tp) (hG : Glob w0) (hA : Tab w0) (hb : Below w0.heap.size w0 w) (hbt : Boxed w bt 23 tp) (hbw : Boxed w bw 3 (.int .i64 n)) (hge : w0.heap.size ≤ bt ∧ w0.heap.size ≤ bw) :
  SeqC Fence.wide m Tryz.prog 27 #[.pointer (some ⟨bt, 0, none⟩), .pointer (some ⟨bw, 0, none⟩)] encT (fun k => k < w0.heap.size ∨ k = bt ∨ k = bw) (fun B ys W => ys.map prT = wantL n (allO o) ∧ ∀ y ∈ ys, TdT (fun k => B ≤ k) W y.1.2.1 y.1.2.2) (fun _ => True) (fun pre y => (pre.map prT ++ [prT y]) <+: wantL n (allO o)) w := by
 intro l J Jx C W hf hC aJ aJx bJ bJx hY h0
 have hbW : Below w0.heap.size w0 W := hb.trans (hf.below hb.size fun k _ hk => by
  rcases Nat.lt_or_ge k w0.heap.size with h | h
  ·exact absurd (.inl h) hk
  ·exact h)
 have btW : Boxed W bt 23 tp := boxed_fr hbt hf fun h => h (.inr (.inl rfl))
 have bwW : Boxed W bw 3 (.int .i64 n) := boxed_fr hbw hf fun h => h (.inr (.inr rfl))
 have hCb := bJ _ _ _ h0
 have hbtl := btW.lt
 have hbwl := bwW.lt
 have htp : tp = .pointer none ∨ ∃ a, tp = .pointer (some a) := by
  rcases hT0 with ⟨_, rfl⟩ | ⟨t, g, v, _, rfl, _⟩
  ·exact .inl rfl
  ·exact .inr ⟨_, rfl⟩
 refine (callsIn_wide (n := m)).2 ((callsIn_wide (n := 9)).1 ?_)
 refine callsIn_of_wp_marks Tryz.func27 rfl trivial ?_ rfl
 simp only [Tryz.ntmps27, List.size_toArray, List.length_cons, List.length_nil, Nat.reduceAdd, Nat.reduceSub, Array.replicate_succ, Array.replicate_zero, List.push_toArray, List.append_toArray, List.nil_append, List.cons_append]
 have c1 := (btW.alloc (.cells #[.func (.yield l) #[] #[]] 86)).cell
 obtain ⟨W5, hW5⟩ : ∃ W5, (W.alloc (.cells #[.func (.yield l) #[] #[]] 86)).alloc (.cells #[tp] 23) = W5 := ⟨_, rfl⟩
 have hb5 : Below W.heap.size W W5 := by rw [← hW5]; exact ((Below.refl _ _).alloc (Nat.le_refl _) _).alloc (by simp) _
 have hs5 : W5.heap.size = W.heap.size + 2 := by rw [← hW5]; simp
 have yb5 : Boxed W5 W.heap.size 86 (.func (.yield l) #[] #[]) := by rw [← hW5]; exact (Boxed.new W 86 (.func (.yield l) #[] #[])).alloc _
 have bp5 : Boxed W5 (W.heap.size + 1) 23 tp := by
  have := Boxed.new (W.alloc (.cells #[.func (.yield l) #[] #[]] 86)) 23 tp
  rw [World.size_alloc, hW5] at this
  exact this
 have bw5 := boxed_new bwW hb5
 have hsz := hbW.size
 have hseq := pall1_stops 8 (W.heap.size + 1) w0 W5 o tp hT0 hG hA (hbW.trans (hb5.mono hsz)) bp5 (by omega)
 have hJ5 : J C [] W5 := aJ.new h0 hb5
 have hn0 : ∀ k, C k → w0.heap.size ≤ k := fun k hk => by
  rcases Nat.lt_or_ge k w0.heap.size with h | h
  ·exact absurd (.inl h) (hC k hk)
  ·exact h
 have hbt' : ¬ C bt := fun h => hC bt h (.inr (.inl rfl))
 have hbw' : ¬ C bw := fun h => hC bw h (.inr (.inr rfl))
 have H0 : Hid (AlI (w0 := w0) J n W.heap.size C [] W5) := Lib.hid ⟨C, fun _ => False, [], fun k => by simp, fun k h => h.elim, hJ5, rfl, fun y hy => by cases hy⟩
 have HSQ := Lib.hid hseq
 have HY := Lib.hid hY
 have HB5 := Lib.hid (And.intro hb5 (And.intro yb5 bw5))
 have HCb := Lib.hid hCb
 have HBW := Lib.hid (hbW.trans (hb5.mono hsz))
 clear h0 hf hC hb hbt hbw hseq hJ5 hY hb5 yb5 bw5 bp5 btW bwW hCb hbW
 gi_wp2_with (refine ⟨trivial, ?_⟩; gi_at_call 28; refine (callsIn_wide.2 (pall_any tp htp _)).mono ?_; rintro e w6 ⟨rfl, rfl⟩)
 clear hW5 c1
 refine wpIn_rangeC rfl (by omega) (gf := 58) (lb := #[.pointer (some ⟨W.heap.size + 1, 0, none⟩)]) rfl trivial (enters_of Tryz.func58 (by kernel_rfl) rfl) HSQ.out (Fr.refl _ _)
  (fun k hk => by rcases hk with h | h <;> omega) (fun _ => rfl)
  (AlI J n W.heap.size) (AlX Jx W.heap.size) (alI_abd aJ (by omega)) (fun c => alX_abd aJx (by omega) c) (alI_bdd bJ) (fun c => alX_bdd bJx c) C H0.out
  (fun k hk hr => by
   have h1 := hn0 k hk
   have h2 := HCb.out k hk
   rcases hr with h | h <;> omega)
  (fun x a' C W9 => ∃ Bx, C Bx ∧ Boxed W9 Bx 68 x.1.2.2 ∧ a' = { tmps := (.func (.yield l) #[] #[] :: .pointer (some ⟨bt, 0, none⟩) :: .pointer (some ⟨bw, 0, none⟩) :: .pointer (some ⟨W.heap.size, 0, none⟩) :: .string ⟨x.1.1.toArray⟩ :: .pointer (some ⟨Bx, 0, none⟩) :: undef :: tp :: .func (.func 58) #[] #[.pointer (some ⟨W.heap.size + 1, 0, none⟩)] :: .string ⟨x.1.1.toArray⟩ :: .agg #[x.1.2.2] :: undef :: undef :: undef :: undef :: undef :: undef :: undef :: undef :: undef :: undef :: undef :: undef :: []).toArray, defers := [] })
  (fun x a' C u W9 W' h hF => by
   obtain ⟨Bx, h1, h2, h3⟩ := h
   exact ⟨Bx, h1, boxed_fr h2 hF (fun hc => hc.2 h1), h3⟩)
  ?assign ?body ?done ?stop
 case assign =>
  rintro l1 Cd pre1 x W7 K hfr hnw ⟨C1, X, ys, hC, h3, h6, h7, h8⟩ hnx hK
  obtain ⟨tx', ux', he⟩ := x.2.1.iface
  have hb7 : Below W7.heap.size W7 (W7.alloc (.cells #[x.1.2.2] 68)) := (Below.refl _ _).alloc (Nat.le_refl _) _
  have hK2 := hK _ (W7.alloc (.cells #[x.1.2.2] 68)) (fun k => Cd k ∨ k = W7.heap.size) (fr_new _ hb7) (fun k hk => hk.imp id fun h => by omega)
   ⟨C1, fun k => X k ∨ k = W7.heap.size, ys, fun k => by show (Cd k ∨ k = W7.heap.size) ↔ (C1 k ∨ (X k ∨ k = W7.heap.size)); rw [hC k, or_assoc], fun k hk => by
    rcases hk with h | rfl
    ·exact ⟨(h3 k h).1, by have := (h3 k h).2.1; simp; omega, (h3 k h).2.2⟩
    ·exact ⟨fun hc => by have := bJ _ _ _ h6 _ hc; omega, by simp, by have := hfr.size; omega⟩, aJ.up (B' := W7.heap.size) (by have := hfr.size; omega) _ _ _ _ h6 (Fr.of_below hb7), h7, fun y hy => TdT.move (fun k hk hx => ⟨.inl hx, hb7.block k hk⟩) _ _ (h8 y hy)⟩
   ⟨W7.heap.size, .inr rfl, Boxed.new W7 68 _, rfl⟩
  clear hK
  simp only [encE, he] at hK2 ⊢
  gi_wp2
  exact hK2
 case body =>
  rintro l1 Cd pre1 x a' W7 hfr hnw ⟨C1, X, ys, hC, h3, h6, h7, h8⟩ ⟨Bx, hCx, bX, rfl⟩ hnx
  obtain ⟨tx', ux', he⟩ := x.2.1.iface
  rw [he] at bX
  have hs7 := hfr.size
  have hcx := bX.cell
  have bw7 := boxed_fr HB5.out.2.2 hfr hbw'
  have yb7 := boxed_fr HB5.out.2.1 hfr fun hc => by have := HCb.out _ hc; omega
  have hbW7 : Below w0.heap.size w0 W7 := HBW.out.trans (hfr.below HBW.out.size fun k _ hk => hn0 k hk)
  have hrd : RdT (fun k => k < w0.heap.size) W7 x.1.2.1 (.iface tx' ux') := by
   have := RdT.move (S' := fun k => k < w0.heap.size) (fun k hk hx => ⟨hx, hbW7.block k hx⟩) _ _ x.2.1
   rw [he] at this
   exact this
  have HV := Lib.hid (value_any _ x.1.2.1 x.2.2.1 (fit_le x.2.2.2).1 (.iface tx' ux') W7 hrd)
  have HC := Lib.hid hC
  have H3 := Lib.hid h3
  have H6 := Lib.hid h6
  have H7 := Lib.hid h7
  have H8 := Lib.hid h8
  have hc1 := bJ _ _ _ h6
  have HC1 := Lib.hid hc1
  have HNX : Hid (wantB x.1.2.1.srt n = true → (ys.map prT ++ [prE x]) <+: wantL n (allO o)) := Lib.hid fun hw => by
   have h9 := hnx.filter (fun x => wantB x.2.srt n)
   have e9 : wantL n (pre1.map prE ++ [prE x]) = ys.map prT ++ [prE x] := by rw [wantL_snoc, h7, if_pos (show wantB (prE x).2.srt n = true from hw)]
   unfold wantL at e9
   rw [e9] at h9
   exact h9
  clear hfr hnw hC h3 h6 h7 h8 hnx hCx hbW7 hrd hc1 HSQ H0
  cases hw : wantB x.1.2.1.srt n with
  | false =>
   gi_wp2_with (first
    | (refine ⟨trivial, ?_⟩; gi_at_call 29; refine (CallsIn.inRound l1 (callsIn_wide.2 HV.out)).mono ?_; rintro e w8 ⟨u8, rfl, htd, hb8⟩; have hk8 := isK_told htd; have cw := (boxed_new bw7 hb8).cell; have HTW := Lib.hid (two_any hk8 n w8); have HEND := Lib.hid (al_pass aJ HC.out H3.out hb8 hw H6.out H7.out H8.out); clear hk8 htd hb8)
    | (refine ⟨trivial, ?_⟩; gi_at_call 30; refine (CallsIn.inRound l1 (callsIn_wide.2 HTW.out)).mono ?_; clear HTW; rintro e w9 ⟨rfl, rfl⟩; rw [hw]))
   refine ⟨(fun _ h => by cases h), ?_⟩
   gi_wp2_with fail
   exact HEND.out
  | true =>
   gi_wp2_with (first
    | (refine ⟨trivial, ?_⟩; gi_at_call 29; refine (CallsIn.inRound l1 (callsIn_wide.2 HV.out)).mono ?_; rintro e w8 ⟨u8, rfl, htd, hb8⟩; have hk8 := isK_told htd; have cw := (boxed_new bw7 hb8).cell; have cy := (boxed_new yb7 hb8).cell; have HTW := Lib.hid (two_any hk8 n w8); obtain ⟨T8, U8, rfl⟩ := TdT.iface htd; have hJ8 := aJ _ _ _ _ H6.out (fr_new _ hb8); obtain ⟨fn, tmps, assign, body, hy, hR⟩ := HY.out C1 ys ⟨(x.1.1, x.1.2.1, .iface T8 U8), x.2.2.1, x.2.2.2, T8, U8, rfl⟩ w8 (by have := hb8.size; omega) hJ8 (HNX.out hw); dsimp only [encT] at hy; have HR := Lib.hid hR; have HTD := Lib.hid htd; have HB8 := Lib.hid hb8; clear hk8 htd hb8 hR hJ8)
    | (refine ⟨trivial, ?_⟩; gi_at_call 30; refine (CallsIn.inRound l1 (callsIn_wide.2 HTW.out)).mono ?_; clear HTW; rintro e w9 ⟨rfl, rfl⟩; rw [hw]))
   refine RoundIn.mono (show RoundIn (Fence.wide.inRound l1) 6 Tryz.prog l fn tmps assign body w8 _ from round_any HR.out) ?_
   rintro e W9 (⟨rfl, C2, hJ9, hF9, hN9⟩ | ⟨rfl, C2, hJ9, hF9, hN9⟩)
   ·have HEND := Lib.hid (al_next (y := ⟨(x.1.1, x.1.2.1, .iface T8 U8), x.2.2.1, x.2.2.2, T8, U8, rfl⟩) HC.out H3.out (by omega) HB8.out rfl hw HTD.out hJ9 hF9 hN9 H7.out H8.out HC1.out)
    clear hJ9 hF9 hN9
    gi_wp2_with fail
    exact HEND.out
   ·have HEND := Lib.hid (al_left (x := x) (pre := pre1) HC.out H3.out HB8.out hJ9 hF9 hN9)
    clear hJ9 hF9 hN9
    gi_wp2_with fail
    exact HEND.out
 case done =>
  rintro D Cd xs W7 W8 hD hDC hxs hF8 ⟨C1, X, ys, hC, h3, h6, h7, h8⟩ hfr hnw hKD
  have nD : ¬ C1 D := fun h => hDC ((hC D).2 (.inl h))
  have hF9 : Fr (fun k => k = D) W7 (W7.putObj D (.deferred none)) := Fr.putObj (fun k => k = D) _ D _ fun _ => rfl
  have HEND : Hid (Fr C W (W7.putObj D (.deferred none)) ∧ Nw C C1 W ∧ (ys.map prT = wantL n (allO o) ∧ ∀ y ∈ ys, TdT (fun k => W.heap.size ≤ k) (W7.putObj D (.deferred none)) y.1.2.1 y.1.2.2) ∧ J C1 ys (W7.putObj D (.deferred none))) := Lib.hid ⟨((fr_new C HB5.out.1).trans hfr fun k _ h => h).trans hF9 fun k hk h => by omega, fun k hk => (hnw k ((hC k).2 (.inl hk))).imp id fun h => by omega,
   ⟨by rw [h7, hxs], fun y hy => TdT.move (fun k hk hx => ⟨(h3 k hx).2.2, hF9.block k hk fun h => by
    rw [h] at hx
    exact hDC ((hC D).2 (.inr hx))⟩) _ _ (h8 y hy)⟩, aJ _ _ _ _ h6 (hF9.mono fun k _ hk => by
     rw [hk]
     exact ⟨by omega, nD⟩)⟩
  clear hfr hnw h3 h6 h7 h8 hF9 nD hC
  gi_wp2_with fail
  refine ⟨by simp, .inl ⟨_, _, rfl, run_takeDeferred hKD, ?_⟩⟩
  exact ⟨_, results_none rfl _ _ _, ⟨_, rfl⟩, C1, HEND.out.1, HEND.out.2.1, .inl ⟨ys, HEND.out.2.2.1, HEND.out.2.2.2⟩⟩
 case stop =>
  rintro D c Cd pre1 W7 hD hDC hsp ⟨rfl, C1, X, ys, hC, h3, h6⟩ hfr hnw hKD
  have nD : ¬ C1 D := fun h => hDC ((hC D).2 (.inl h))
  have hF9 : Fr (fun k => k = D) W7 (W7.putObj D (.deferred none)) := Fr.putObj (fun k => k = D) _ D _ fun _ => rfl
  have HEND : Hid (Fr C W (W7.putObj D (.deferred none)) ∧ Nw C C1 W ∧ Jx C1 ys (W7.putObj D (.deferred none))) := Lib.hid ⟨((fr_new C HB5.out.1).trans hfr fun k _ h => h).trans hF9 fun k hk h => by omega, fun k hk => (hnw k ((hC k).2 (.inl hk))).imp id fun h => by omega, aJx _ _ _ _ h6 (hF9.mono fun k _ hk => by
     rw [hk]
     exact ⟨by omega, nD⟩)⟩
  clear hfr hnw h3 h6 hF9 nD hC
  gi_wp2_with fail
  refine ⟨by simp, .inl ⟨_, _, rfl, run_takeDeferred hKD, ?_⟩⟩
  exact ⟨_, results_none rfl _ _ _, ⟨_, rfl⟩, C1, HEND.out.1, HEND.out.2.1, .inr ⟨ys, trivial, HEND.out.2.2⟩⟩
end Nd
end Go.Proofs.YtlailcmhpnnidaaGreatDoor
