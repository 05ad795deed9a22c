/-
  Words for memory that the walks of this family share: a block that is known whole; what is as it was but for one block.
  Values as trees, in plain terms: their sizes, the order of keys, and what a step does to a row.
  Walks of package node: refuse, within, used; the closure of row.do that recovers. Walks of package node: used. Walks of package node: put of a null. Walks of package node: the step that puts a null. Walks of package node: Maker.step and Maker.Null. Walks of package node: a row that is full takes no further value. Walks of package node: New, Len; numbers at a full row; a copy at a full row. Walks of package node: a number at a full row.
  Floats in plain terms: which are numbers, which are finite, which are nought. Plain laws of sizes: bounds, what a prefix has. Plain laws of steps: sorted keys, objects, what a step does to a row.
-/
import Derived.Test.YtbajkglacfheiaaGreatDoorProg
import Derived.Below
import Derived.Laws.OwnMore
import Derived.Laws.Rows
import Derived.Deep.Draws
import Derived.Lib.SmallJoins
import Derived.Sort.Statements
import Derived.WalkKit
import Derived.LoopTactic
import Derived.Deep.QuietTactic
import Derived.BigQuiet
import Derived.Lib.Hide
import Derived.Outline
import Derived.Tactics2
import Derived.Defers
import Derived.Recover
import Derived.Deep.DeepCutAuto
import Derived.WalkLawsBesides
import Derived.WalkSpells
import Derived.Laws.AppendOwn
import Derived.OwnWalk
import Derived.StillTailTactics
import Derived.Laws.FloatBits
import GoSem.Core.Float
set_option linter.unusedVariables false
set_option linter.unusedSimpArgs false
set_option maxRecDepth 100000
set_option maxHeartbeats 16000000
namespace Go.Proofs.YtbajkglacfheiaaGreatDoor
open Go.RowKit
namespace Mem

def Blk (w : World) (g : Nat) (t : TypeId) (cs : Array Value) : Prop := w.heap[g]? = some (.cells cs t (0, 0))

section
variable {w w' : World} {g : Nat} {t : TypeId} {cs : Array Value}
theorem Blk.lt (h : Blk w g t cs) : g < w.heap.size := by
 unfold Blk at h
 exact (Array.getElem?_eq_some_iff.1 h).1
theorem Blk.cell (h : Blk w g t cs) (i : Nat) : w.cell? ⟨g, i, none⟩ = cs[i]? := cell_of_row w g i cs t (0, 0) h
theorem Blk.frozen (h : Blk w g t cs) (i : Nat) : w.frozen? ⟨g, i, none⟩ = false := frozen_of_row w g i cs t h
theorem Blk.new (w : World) (t : TypeId) (cs : Array Value) : Blk (w.alloc (.cells cs t)) w.heap.size t cs := heap_alloc_new w _
theorem Blk.drew (h : Blk w g t cs) : Blk w.drew g t cs := h
theorem Blk.alloc (h : Blk w g t cs) (o : Obj) : Blk (w.alloc o) g t cs := (Below.heap_alloc w o g h.lt).trans h
theorem Blk.put (h : Blk w g t cs) (i : Nat) (u : Value) : Blk (w.setCell ⟨g, i, none⟩ u) g t (cs.setIfInBounds i u) := by
 unfold Blk at h ⊢
 simp [World.setCell, Array.getElem?_modify, h]
theorem Blk.far (h : Blk w g t cs) {p : Addr} (hp : g ≠ p.block) (u : Value) : Blk (w.setCell p u) g t cs := (heap_setCell_other w p g u hp).trans h
theorem Blk.below {B : Nat} (h : Blk w g t cs) (hb : Below B w w') (hg : g < B) : Blk w' g t cs := (hb.block g hg).trans h
theorem Blk.only (h : Blk w g t cs) {row : Option Nat} (hb : w.grownBy w' row) (hg : some g ≠ row) : Blk w' g t cs := (hb.block g h.lt hg).trans h

theorem grown_refl (w : World) (row : Option Nat) : w.grownBy w row := ⟨rfl, rfl, rfl, Nat.le_refl _, fun _ _ _ => rfl⟩
theorem grown_trans {a b c : World} {row : Option Nat} (h : a.grownBy b row) (k : b.grownBy c row) : a.grownBy c row :=
 ⟨k.os.trans h.os, k.tape.trans h.tape, k.output.trans h.output, Nat.le_trans h.size k.size,
  fun i hi hn => (k.block i (Nat.lt_of_lt_of_le hi h.size) hn).trans (h.block i hi hn)⟩
theorem grown_drew {a b : World} {row : Option Nat} (h : a.grownBy b row) : a.grownBy b.drew row := ⟨h.os, h.tape, h.output, h.size, h.block⟩
theorem grown_drewN {a b : World} {row : Option Nat} (h : a.grownBy b row) (n : Nat) : a.grownBy (b.drewN n) row := ⟨h.os, h.tape, h.output, h.size, h.block⟩
theorem grown_alloc {a b : World} {row : Option Nat} (h : a.grownBy b row) (o : Obj) : a.grownBy (b.alloc o) row :=
 ⟨h.os, h.tape, h.output, Nat.le_trans h.size (by simp), fun i hi hn => (Below.heap_alloc b o i (Nat.lt_of_lt_of_le hi h.size)).trans (h.block i hi hn)⟩
theorem grown_put {a b : World} {g : Nat} (h : a.grownBy b (some g)) (i : Nat) (u : Value) : a.grownBy (b.setCell ⟨g, i, none⟩ u) (some g) :=
 ⟨h.os, h.tape, h.output, by simpa [World.setCell] using h.size,
  fun i hi hn => (heap_setCell_other b _ i u (fun e => hn (by rw [e]))).trans (h.block i hi hn)⟩
theorem grown_join {a b c : World} {row row' : Option Nat} (h : a.grownBy b row) (k : b.grownBy c row') (hr : row' = row ∨ ∀ g, row' = some g → a.heap.size ≤ g) : a.grownBy c row := by
 refine ⟨k.os.trans h.os, k.tape.trans h.tape, k.output.trans h.output, Nat.le_trans h.size k.size, fun i hi hn => (k.block i (Nat.lt_of_lt_of_le hi h.size) ?_).trans (h.block i hi hn)⟩
 rcases hr with rfl | hr
 ·exact hn
 ·intro e
  have := hr i e.symm
  omega
theorem grown_of_below {a b : World} (h : Below a.heap.size a b) (row : Option Nat) : a.grownBy b row := ⟨h.os, h.tape, h.output, h.size, fun i hi _ => h.block i hi⟩
theorem below_of_grown {a b : World} {B g : Nat} (h : a.grownBy b (some g)) (hg : B ≤ g) (hB : B ≤ a.heap.size) : Below B a b :=
 ⟨h.os, h.tape, h.output, h.size, fun i hi => h.block i (by omega) (fun e => by injection e; omega)⟩
theorem grown_below {a b c : World} {row : Option Nat} (h : a.grownBy b row) (k : Below b.heap.size b c) : a.grownBy c row := grown_trans h (grown_of_below k row)
theorem own_below {base size n : Nat} {e : TypeId} {v : Value} {xs : List Value} (h : w.ownsRow base e size v n xs) (hb : Below w.heap.size w w') : w'.ownsRow base e size v n xs :=
 h.kept (grown_of_below hb none) (Classical.em _)
theorem below_chain {B : Nat} {a b c : World} (h : Below B a b) (hB : B ≤ b.heap.size) (k : Below b.heap.size b c) : Below B a c := h.trans (k.mono hB)
theorem drewN_below {B : Nat} (w : World) (n : Nat) : Below B w (w.drewN n) := ⟨rfl, rfl, rfl, Nat.le_refl _, fun _ _ => rfl⟩
theorem old {W W1 : World} (hb : Below W.heap.size W W1) : (∀ b o, b < W.heap.size → W1.cell? ⟨b, o, none⟩ = W.cell? ⟨b, o, none⟩) ∧ (∀ b o, b < W.heap.size → W1.frozen? ⟨b, o, none⟩ = W.frozen? ⟨b, o, none⟩) :=
 ⟨fun b o h => hb.cell (p := ⟨b, o, none⟩) h, fun b o h => hb.frozen (p := ⟨b, o, none⟩) h⟩
end
end Mem
end Go.Proofs.YtbajkglacfheiaaGreatDoor
namespace Go.Proofs.YtbajkglacfheiaaGreatDoor
namespace Nd
abbrev Tx := List UInt8

inductive Tr where
 | null
 | flag (b : Bool)
 | num (x : Nat)
 | text (t : Tx)
 | list (l : List Tr)
 | obj (ks : List Tx) (l : List Tr)

theorem Tr.ind {P : Tr → Prop} (h0 : P .null) (h1 : ∀ b, P (.flag b)) (h2 : ∀ x, P (.num x)) (h3 : ∀ t, P (.text t)) (h4 : ∀ l, (∀ x, x ∈ l → P x) → P (.list l)) (h5 : ∀ ks l, (∀ x, x ∈ l → P x) → P (.obj ks l)) : ∀ t, P t
 | .null => h0
 | .flag b => h1 b
 | .num x => h2 x
 | .text t => h3 t
 | .list l => h4 l fun x hx => Tr.ind h0 h1 h2 h3 h4 h5 x
 | .obj ks l => h5 ks l fun x hx => Tr.ind h0 h1 h2 h3 h4 h5 x
termination_by t => SizeOf.sizeOf t
decreasing_by
 ·have := List.sizeOf_lt_of_mem hx; simp; omega
 ·have := List.sizeOf_lt_of_mem hx; simp; omega

def lens : List Tx → Nat
 | [] => 0
 | k :: ks => k.length + lens ks
mutual
def Tr.nodes : Tr → Nat
 | .list l => 1 + nodesL l
 | .obj _ l => 1 + nodesL l
 | _ => 1
def nodesL : List Tr → Nat
 | [] => 0
 | t :: l => t.nodes + nodesL l
end
mutual
def Tr.bytes : Tr → Nat
 | .text t => t.length
 | .list l => bytesL l
 | .obj ks l => lens ks + bytesL l
 | _ => 0
def bytesL : List Tr → Nat
 | [] => 0
 | t :: l => t.bytes + bytesL l
end
mutual
def Tr.depth : Tr → Nat
 | .list l => depthL l + 1
 | .obj _ l => depthL l + 1
 | _ => 1
def depthL : List Tr → Nat
 | [] => 0
 | t :: l => max t.depth (depthL l)
end
def Tr.fit (t : Tr) : Bool := decide (t.nodes ≤ 65536) && decide (t.bytes ≤ 2097152) && decide (t.depth ≤ 512)

def ord (x : UInt8) : Nat := if 238 ≤ x.toNat ∧ x.toNat < 240 then x.toNat + 256 else x.toNat
def cmpL : Tx → Tx → Int
 | [], [] => 0
 | [], _ :: _ => -1
 | _ :: _, [] => 1
 | x :: a, y :: b => if x = y then cmpL a b else if ord x < ord y then -1 else 1
theorem ord_inj {x y : UInt8} (h : ord x = ord y) : x = y := by
 have hx := x.toNat_lt
 have hy := y.toNat_lt
 unfold ord at h
 apply UInt8.toNat_inj.1
 split at h <;> split at h <;> omega
def ltL (a b : Tx) : Bool := decide (cmpL a b < 0)
theorem cmp_self : ∀ a, cmpL a a = 0
 | [] => rfl
 | x :: a => by simp [cmpL, cmp_self a]
theorem cmp_zero : ∀ a b, cmpL a b = 0 → a = b
 | [], [], _ => rfl
 | [], _ :: _, h => by simp [cmpL] at h
 | _ :: _, [], h => by simp [cmpL] at h
 | x :: a, y :: b, h => by
  unfold cmpL at h
  split at h
  ·rename_i e
   rw [e, cmp_zero a b h]
  ·split at h <;> cases h
theorem cmp_turn : ∀ a b, cmpL b a = - cmpL a b
 | [], [] => rfl
 | [], _ :: _ => rfl
 | _ :: _, [] => rfl
 | x :: a, y :: b => by
  unfold cmpL
  by_cases e : x = y
  ·subst e
   simp [cmp_turn a b]
  ·have e' : ¬ y = x := fun h => e h.symm
   have hne : ord x ≠ ord y := fun h => e (ord_inj h)
   rw [if_neg e, if_neg e']
   split <;> split <;> first | rfl | omega
theorem cmp_form : ∀ a b, cmpL a b = -1 ∨ cmpL a b = 0 ∨ cmpL a b = 1
 | [], [] => .inr (.inl rfl)
 | [], _ :: _ => .inl rfl
 | _ :: _, [] => .inr (.inr rfl)
 | x :: a, y :: b => by
  unfold cmpL
  split
  ·exact cmp_form a b
  ·split
   ·exact .inl rfl
   ·exact .inr (.inr rfl)
theorem lt_trans : ∀ a b c, cmpL a b < 0 → cmpL b c < 0 → cmpL a c < 0
 | [], [], _, h, _ => by simp [cmpL] at h
 | [], _ :: _, [], _, h => by simp [cmpL] at h
 | [], _ :: _, _ :: _, _, _ => by simp [cmpL]
 | _ :: _, [], _, h, _ => by simp [cmpL] at h
 | _ :: _, _ :: _, [], _, h => by simp [cmpL] at h
 | x :: a, y :: b, z :: c, h1, h2 => by
  unfold cmpL at h1 h2 ⊢
  by_cases e1 : x = y
  ·subst e1
   by_cases e2 : x = z
   ·subst e2
    simp only [if_true] at h1 h2 ⊢
    exact lt_trans a b c h1 h2
   ·rw [if_neg e2] at h2 ⊢
    exact h2
  ·rw [if_neg e1] at h1
   by_cases e2 : y = z
   ·subst e2
    rw [if_neg e1]
    exact h1
   ·rw [if_neg e2] at h2
    have h3 : ord x < ord y := by
     apply Classical.byContradiction
     intro h
     rw [if_neg h] at h1
     omega
    have h4 : ord y < ord z := by
     apply Classical.byContradiction
     intro h
     rw [if_neg h] at h2
     omega
    have e3 : ¬ x = z := fun h => by subst h; omega
    rw [if_neg e3, if_pos (by omega)]
    decide
theorem lt_total (a b : Tx) : cmpL a b < 0 ∨ a = b ∨ cmpL b a < 0 := by
 rcases cmp_form a b with h | h | h
 ·exact .inl (by omega)
 ·exact .inr (.inl (cmp_zero a b h))
 ·exact .inr (.inr (by rw [cmp_turn]; omega))
theorem swoL : Go.Sort.SWO ltL where
 irrefl x := by simp [ltL, cmp_self]
 trans x y z h1 h2 := by
  simp only [ltL, decide_eq_true_eq] at *
  exact lt_trans x y z h1 h2
 ntrans x y z h1 h2 := by
  simp only [ltL, decide_eq_false_iff_not] at *
  intro h
  rcases lt_total x y with a | rfl | a
  ·exact h1 a
  ·exact h2 h
  ·exact h2 (lt_trans y x z a h)
theorem ltL_one (x y : Tx) (h1 : ltL x y = false) (h2 : ltL y x = false) : x = y := by
 simp only [ltL, decide_eq_false_iff_not] at *
 rcases lt_total x y with a | a | a
 ·exact absurd a h1
 ·exact a
 ·exact absurd a h2
end Nd
end Go.Proofs.YtbajkglacfheiaaGreatDoor
namespace Go.Proofs.YtbajkglacfheiaaGreatDoor
open Go.RowKit Mem

theorem refuse_yes (n : Int) (w : World) : Calls Tryz.prog 71 #[.bool true, .int .i64 n] w fun e w' => e = .returned (.tuple #[]) ∧ w = w' := by
 go_enter Tryz.func71, Tryz.ntmps71
 go_wp2
 go_end0
 exact ⟨rfl, rfl⟩
theorem refuse_no (n : Int) (w : World) : Calls Tryz.prog 71 #[.bool false, .int .i64 n] w fun e w' => e = .panicked [{ v := .iface 113 (.int .i64 n), recovered := false }] ∧ w = w' := by
 go_enter Tryz.func71, Tryz.ntmps71
 go_wp2
 exact ⟨rfl, rfl, rfl⟩
def withinB (n b d : Int) : Bool := decide (n ≤ 65536) && decide (b ≤ 2097152) && decide (d ≤ 512)
theorem within_any (n b d : Int) (w : World) : Calls Tryz.prog 116 #[.agg #[.int .i64 n, .int .i64 b, .int .i64 d]] w fun e w' => e = .returned (.bool (withinB n b d)) ∧ Below w.heap.size w w' := by
 have hb : ∀ o, Below w.heap.size w (w.alloc o) := fun o => (Below.refl _ _).alloc (Nat.le_refl _) _
 have HW : Hid (withinB n b d = (decide (n ≤ 65536) && decide (b ≤ 2097152) && decide (d ≤ 512))) := Lib.hid rfl
 obtain ⟨p, hp⟩ : ∃ p, decide (n ≤ 65536) = p := ⟨_, rfl⟩
 obtain ⟨q, hq⟩ : ∃ p, decide (b ≤ 2097152) = p := ⟨_, rfl⟩
 obtain ⟨r, hr⟩ : ∃ p, decide (d ≤ 512) = p := ⟨_, rfl⟩
 rw [hp, hq, hr] at HW
 go_enter Tryz.func116, Tryz.ntmps116
 cases p with
 | false =>
  go_wp2
  go_ret
  exact ⟨by rw [HW.out]; rfl, hb _⟩
 | true =>
  cases q with
  | false =>
   go_wp2
   go_ret
   exact ⟨by rw [HW.out]; rfl, hb _⟩
  | true =>
   cases r with
   | false =>
    go_wp2
    go_ret
    exact ⟨by rw [HW.out]; rfl, hb _⟩
   | true =>
    go_wp2
    go_ret
    exact ⟨by rw [HW.out]; rfl, hb _⟩
theorem catch_panicking (p : Addr) (x : Value) (n : Int) (older : List PanicEntry) (w : World) (hc : w.cell? p = some x) (hz : w.frozen? p = false) :
  CallsD Tryz.prog 70 #[.pointer (some p)] (.panicking ({ v := .iface 113 (.int .i64 n), recovered := false } :: older)) w fun e u' w' =>
   e = .returned (.tuple #[]) ∧ u' = .panicking ({ v := .iface 113 (.int .i64 n), recovered := true } :: older) ∧ w' = w.setCell p (.iface 113 (.int .i64 n)) := by
 have hta : ∀ W, (Instr.typeAssert (.iface 113 (.int .i64 n)) 20 113 false).run Tryz.prog W = .ok (.int .i64 n) W := fun W => by kernel_rfl
 refine callsD_of_wpS Tryz.func70 rfl fun c₀ cs hu => ?_
 apply wpS_seq
 apply wpS_region
 simp [wpOpsS, go_sem, recoverD, hu, Tryz.ntmps70, Exit.thenS]
 apply wpS_seq
 apply wpS_region
 simp [wpOpsS, go_sem, Exit.thenS]
 refine wpS_cond (t := true) (by simp [Act.eval]) ?_
 simp only [if_true]
 apply wpS_region
 simp [wpOpsS, go_sem, hta, hc, hz, bodyPostS, results, Tryz.results70]
theorem catch_idle (p : Addr) (w : World) :
  CallsD Tryz.prog 70 #[.pointer (some p)] .returning w fun e u' w' => e = .returned (.tuple #[]) ∧ u' = .returning ∧ w' = w := by
 refine callsD_of_wpS Tryz.func70 rfl fun c₀ cs hu => ?_
 apply wpS_seq
 apply wpS_region
 simp [wpOpsS, go_sem, recoverD, hu, Tryz.ntmps70, Exit.thenS]
 apply wpS_seq
 apply wpS_region
 simp [wpOpsS, go_sem, Exit.thenS]
 refine wpS_cond (t := false) (by simp [Act.eval]) ?_
 simp only [Bool.false_eq_true, if_false]
 refine wpS_of_wp (wp_skip ?_)
 cases c₀
 simp_all [bodyPostS, results, Tryz.results70]
end Go.Proofs.YtbajkglacfheiaaGreatDoor
namespace Go.Proofs.YtbajkglacfheiaaGreatDoor
open Go.RowKit Mem

def usedB (s : Int) (f : Bool) (b : Int) (t : List UInt8) (c : Int) (n : Nat) : Bool :=
 (decide (1 ≤ s) && decide (s ≤ 6) && decide (0 ≤ c)) && (!f || s == 2) && (b == 0 || s == 3) && (t.isEmpty || s == 4) && (c == 0 || s == 5) && ((n : Int) == 0 || s == 6)
theorem used_any (s : Int) (f : Bool) (b : Int) (t : List UInt8) (c : Int) (A : Option Addr) (n q : Nat) (w : World) :
  Calls Tryz.prog 72 #[.agg #[.int .i64 s, .bool f, .int .u64 b, .string ⟨t.toArray⟩, .int .i64 c, .slice A n q]] w fun e w' => e = .returned (.bool (usedB s f b t c n)) ∧ Below w.heap.size w w' := by
 have hb : ∀ o, Below w.heap.size w (w.alloc o) := fun o => (Below.refl _ _).alloc (Nat.le_refl _) _
 have HU : Hid (usedB s f b t c n = ((decide (1 ≤ s) && decide (s ≤ 6) && decide (0 ≤ c)) && (!f || s == 2) && (b == 0 || s == 3) && (t.isEmpty || s == 4) && (c == 0 || s == 5) && ((n : Int) == 0 || s == 6))) := Lib.hid rfl
 obtain ⟨p1, h1⟩ : ∃ p, decide (1 ≤ s) = p := ⟨_, rfl⟩
 obtain ⟨p2, h2⟩ : ∃ p, decide (s ≤ 6) = p := ⟨_, rfl⟩
 obtain ⟨p3, h3⟩ : ∃ p, decide (0 ≤ c) = p := ⟨_, rfl⟩
 obtain ⟨q2, g2⟩ : ∃ p, (s == 2) = p := ⟨_, rfl⟩
 obtain ⟨q3, g3⟩ : ∃ p, (s == 3) = p := ⟨_, rfl⟩
 obtain ⟨q4, g4⟩ : ∃ p, (s == 4) = p := ⟨_, rfl⟩
 obtain ⟨q5, g5⟩ : ∃ p, (s == 5) = p := ⟨_, rfl⟩
 obtain ⟨q6, g6⟩ : ∃ p, (s == 6) = p := ⟨_, rfl⟩
 obtain ⟨zb, k1⟩ : ∃ p, (b == 0) = p := ⟨_, rfl⟩
 obtain ⟨zt, k2⟩ : ∃ p, t.isEmpty = p := ⟨_, rfl⟩
 obtain ⟨zc, k3⟩ : ∃ p, (c == 0) = p := ⟨_, rfl⟩
 obtain ⟨zn, k4⟩ : ∃ p, ((n : Int) == 0) = p := ⟨_, rfl⟩
 rw [h1, h2, h3, g2, g3, g4, g5, g6, k1, k2, k3, k4] at HU
 go_enter Tryz.func72, Tryz.ntmps72
 go_upto_region 1 with fail
 have hB := Blk.new w 119 #[.int .i64 s, .bool f, .int .u64 b, .string ⟨t.toArray⟩, .int .i64 c, .slice A n q]
 have hb1 := hb (.cells #[.int .i64 s, .bool f, .int .u64 b, .string ⟨t.toArray⟩, .int .i64 c, .slice A n q] 119)
 generalize w.alloc (.cells #[.int .i64 s, .bool f, .int .u64 b, .string ⟨t.toArray⟩, .int .i64 c, .slice A n q] 119) = w1 at *
 have c0 : w1.cell? ⟨w.heap.size, 0, none⟩ = some (.int .i64 s) := hB.cell 0
 have c1 : w1.cell? ⟨w.heap.size, 1, none⟩ = some (.bool f) := hB.cell 1
 have c2 : w1.cell? ⟨w.heap.size, 2, none⟩ = some (.int .u64 b) := hB.cell 2
 have c3 : w1.cell? ⟨w.heap.size, 3, none⟩ = some (.string ⟨t.toArray⟩) := hB.cell 3
 have c4 : w1.cell? ⟨w.heap.size, 4, none⟩ = some (.int .i64 c) := hB.cell 4
 have c5 : w1.cell? ⟨w.heap.size, 5, none⟩ = some (.slice A n q) := hB.cell 5
 clear hB hb
 go_cut [3] (fun c3 wx => c3 = .bool (p1 && p2 && p3) ∧ wx = w1)
 case first =>
  cases p1 with
  | false => go_wp2_with fail; go_meet; exact ⟨rfl, rfl⟩
  | true =>
   cases p2 with
   | false => go_wp2_with fail; go_meet; exact ⟨rfl, rfl⟩
   | true =>
    cases p3 with
    | false => go_wp2_with fail; go_meet; exact ⟨rfl, rfl⟩
    | true => go_wp2_with fail; go_meet; exact ⟨rfl, rfl⟩
 case rest =>
  obtain ⟨rfl, rfl⟩ := hcut
  generalize (p1 && p2 && p3) = b1 at *
  go_upto_region 2 with fail
  go_cut [3] (fun c3 wx => c3 = .bool (b1 && (!f || q2) && (zb || q3) && (zt || q4)) ∧ wx = wc)
  case first =>
   cases b1 with
   | false =>
    go_wp2_with fail; go_meet; exact ⟨by simp, rfl⟩
   | true =>
    cases f with
    | false =>
     cases zb with
     | false =>
      cases q3 with
      | false =>
       go_wp2_with fail; go_meet; exact ⟨by simp, rfl⟩
      | true =>
       cases zt with
       | false =>
        have k5 : ¬ t = [] := by simpa using k2
        cases q4 with
        | false =>
         go_wp2_with fail; go_meet; exact ⟨by simp, rfl⟩
        | true =>
         go_wp2_with fail; go_meet; exact ⟨by simp, rfl⟩
       | true =>
        go_wp2_with fail; go_meet; exact ⟨by simp, rfl⟩
     | true =>
      cases zt with
      | false =>
       have k5 : ¬ t = [] := by simpa using k2
       cases q4 with
       | false =>
        go_wp2_with fail; go_meet; exact ⟨by simp, rfl⟩
       | true =>
        go_wp2_with fail; go_meet; exact ⟨by simp, rfl⟩
      | true =>
       go_wp2_with fail; go_meet; exact ⟨by simp, rfl⟩
    | true =>
     cases q2 with
     | false =>
      go_wp2_with fail; go_meet; exact ⟨by simp, rfl⟩
     | true =>
      cases zb with
      | false =>
       cases q3 with
       | false =>
        go_wp2_with fail; go_meet; exact ⟨by simp, rfl⟩
       | true =>
        cases zt with
        | false =>
         have k5 : ¬ t = [] := by simpa using k2
         cases q4 with
         | false =>
          go_wp2_with fail; go_meet; exact ⟨by simp, rfl⟩
         | true =>
          go_wp2_with fail; go_meet; exact ⟨by simp, rfl⟩
        | true =>
         go_wp2_with fail; go_meet; exact ⟨by simp, rfl⟩
      | true =>
       cases zt with
       | false =>
        have k5 : ¬ t = [] := by simpa using k2
        cases q4 with
        | false =>
         go_wp2_with fail; go_meet; exact ⟨by simp, rfl⟩
        | true =>
         go_wp2_with fail; go_meet; exact ⟨by simp, rfl⟩
       | true =>
        go_wp2_with fail; go_meet; exact ⟨by simp, rfl⟩
  case rest =>
   obtain ⟨rfl, rfl⟩ := hcut
   generalize (b1 && (!f || q2) && (zb || q3) && (zt || q4)) = b2 at *
   cases b2 with
   | false =>
    go_wp2; go_ret; exact ⟨by rw [HU.out]; simp, hb1⟩
   | true =>
    cases zc with
    | false =>
     cases q5 with
     | false =>
      go_wp2; go_ret; exact ⟨by rw [HU.out]; simp, hb1⟩
     | true =>
      cases zn with
      | false =>
       cases q6 with
       | false =>
        go_wp2; go_ret; exact ⟨by rw [HU.out]; simp, hb1⟩
       | true =>
        go_wp2; go_ret; exact ⟨by rw [HU.out]; simp, hb1⟩
      | true =>
       go_wp2; go_ret; exact ⟨by rw [HU.out]; simp, hb1⟩
    | true =>
     cases zn with
     | false =>
      cases q6 with
      | false =>
       go_wp2; go_ret; exact ⟨by rw [HU.out]; simp, hb1⟩
      | true =>
       go_wp2; go_ret; exact ⟨by rw [HU.out]; simp, hb1⟩
     | true =>
      go_wp2; go_ret; exact ⟨by rw [HU.out]; simp, hb1⟩
end Go.Proofs.YtbajkglacfheiaaGreatDoor
namespace Go.Proofs.YtbajkglacfheiaaGreatDoor
open Go.RowKit Mem

theorem info_item : (Tryz.prog.info? 56).map (fun i => (i.zero, i.size, i.bytes)) = some (some .nilIface, 1, 16) := by kernel_rfl
theorem one_new (w : World) (t : TypeId) (v : Value) : ∀ j u, [v][j]? = some u → (w.alloc (.cells #[v] t)).cell? ((⟨w.heap.size, 0, none⟩ : Addr).add j) = some u := by
 intro j u hj
 match j, hj with
 | 0, hj =>
  injection hj with hj
  subst hj
  exact Blk.cell (Blk.new w t #[v]) 0
 | j + 1, hj => cases hj
theorem one_cell (v : Value) (h : v.oneCell' = true) : ∀ u ∈ [v], u.oneCell' = true := by
 intro u hu
 rw [List.mem_singleton] at hu
 rw [hu]
 exact h
theorem own_slice {w : World} {base size n : Nat} {e : TypeId} {v : Value} {xs : List Value} (h : w.ownsRow base e size v n xs) : ∃ A c, v = .slice A n c := by
 rcases Joins.ownsRow_forms h with ⟨rfl, rfl⟩ | ⟨g, cap, rfl, _⟩
 ·exact ⟨none, 0, rfl⟩
 ·exact ⟨_, _, rfl⟩
theorem sized_null (w : World) : Calls Tryz.prog 281 #[.agg #[]] w fun e w' => e = .returned (.agg #[.int .i64 1, .int .i64 0, .int .i64 1]) ∧ Below w.heap.size w w' := by
 go_enter Tryz.func281, Tryz.ntmps281
 go_wp2
 refine bodyPost_ret (v := .agg #[.int .i64 1, .int .i64 0, .int .i64 1]) ?_ rfl ⟨rfl, ((Below.refl _ _).alloc (Nat.le_refl _) _).alloc (by simp) _⟩
 simp [results, Tryz.results281, go_sem]
theorem sized_text (t : List UInt8) (w : World) : Calls Tryz.prog 285 #[.string ⟨t.toArray⟩] w fun e w' => e = .returned (.agg #[.int .i64 1, .int .i64 t.length, .int .i64 1]) ∧ Below w.heap.size w w' := by
 go_enter Tryz.func285, Tryz.ntmps285
 go_wp2
 refine bodyPost_ret (v := .agg #[.int .i64 1, .int .i64 t.length, .int .i64 1]) ?_ rfl ⟨rfl, (Below.refl _ _).alloc (Nat.le_refl _) _⟩
 simp [results, Tryz.results285, go_sem]
end Go.Proofs.YtbajkglacfheiaaGreatDoor
namespace Go.Proofs.YtbajkglacfheiaaGreatDoor
open Go.RowKit Mem

end Go.Proofs.YtbajkglacfheiaaGreatDoor
namespace Go.Proofs.YtbajkglacfheiaaGreatDoor
open Go.RowKit Mem

end Go.Proofs.YtbajkglacfheiaaGreatDoor
namespace Go.Proofs.YtbajkglacfheiaaGreatDoor
open Go.RowKit Mem

def errN (n : Int) : Value := .iface 113 (.int .i64 n)
end Go.Proofs.YtbajkglacfheiaaGreatDoor
namespace Go.Proofs.YtbajkglacfheiaaGreatDoor
open Go.RowKit Mem

end Go.Proofs.YtbajkglacfheiaaGreatDoor
namespace Go.Proofs.YtbajkglacfheiaaGreatDoor
open Go.RowKit Mem

theorem f64bits (x : Nat) (W : World) : (callFunc 15 #[.float .f64 x]).run Tryz.prog W = .ok (.value (.int .u64 (x : Int))) W := by kernel_rfl
end Go.Proofs.YtbajkglacfheiaaGreatDoor
namespace Go.Proofs.YtbajkglacfheiaaGreatDoor
namespace Nd
open Ieee

def finB (b : Nat) : Bool := decide (b % 9223372036854775808 < 9218868437227405312)
def normB (b : Nat) : Nat := if b % 9223372036854775808 = 0 then 0 else b

theorem sw : Format.signWeight double = 9223372036854775808 := by decide
theorem ir : Format.infRung double = 9218868437227405312 := by decide
theorem bn : Format.binade double = 4503599627370496 := by decide
theorem lp : Format.leastPlace double = -1074 := by decide

theorem read_fin {b : Nat} (h : b % 9223372036854775808 < 9218868437227405312) : ∃ m p, double.read b = .number (b / 9223372036854775808 % 2 == 1) m p ∧ (m = 0 ↔ b % 9223372036854775808 = 0) ∧ -1074 ≤ p ∧ ((b % 9223372036854775808 < 4503599627370496 ∧ m < 4503599627370496 ∧ p = -1074) ∨ (m < 9007199254740992 ∧ p ≤ 971)) := by
 unfold Format.read
 simp only [sw, ir, bn, lp]
 by_cases h1 : b % 9223372036854775808 < 4503599627370496
 ·rw [if_pos h1]
  exact ⟨_, _, rfl, Iff.rfl, by omega, .inl ⟨h1, h1, rfl⟩⟩
 ·rw [if_neg h1, if_pos h]
  refine ⟨_, _, rfl, by omega, by omega, .inr ⟨by omega, by omega⟩⟩
theorem read_inf {b : Nat} (h : b % 9223372036854775808 = 9218868437227405312) : double.read b = .infinity (b / 9223372036854775808 % 2 == 1) := by
 unfold Format.read
 simp only [sw, ir, bn, lp, h]
 rw [if_neg (by omega), if_neg (by omega), if_pos trivial]
theorem read_nan {b : Nat} (h : 9218868437227405312 < b % 9223372036854775808) : ∃ s t, double.read b = .nan s t := by
 unfold Format.read
 simp only [sw, ir, bn, lp]
 rw [if_neg (by omega), if_neg (by omega), if_neg (by omega)]
 exact ⟨_, _, rfl⟩
theorem order_self {b : Nat} (h : b % 9223372036854775808 ≤ 9218868437227405312) : double.order b b = some .eq := by
 unfold Format.order
 rcases Nat.lt_or_ge (b % 9223372036854775808) 9218868437227405312 with h1 | h1
 ·obtain ⟨m, p, e, _⟩ := read_fin h1
  rw [e]
  simp [Datum.order]
 ·rw [read_inf (by omega)]
  simp [Datum.order]
theorem order_nan {b : Nat} (h : 9218868437227405312 < b % 9223372036854775808) (c : Nat) : double.order b c = none := by
 unfold Format.order
 obtain ⟨s, t, e⟩ := read_nan h
 rw [e]
 cases double.read c <;> rfl
theorem order_zero {b : Nat} (h : b % 9223372036854775808 < 9218868437227405312) : (double.order b 0 == some .eq) = decide (b % 9223372036854775808 = 0) := by
 obtain ⟨m, p, e, hm, hp, _⟩ := read_fin h
 have h0 : double.read 0 = .number false 0 (-1074) := by decide
 unfold Format.order
 rw [e, h0]
 simp only [Datum.order]
 by_cases hz : b % 9223372036854775808 = 0
 ·have := hm.2 hz
  subst this
  simp [signed, hz]
 ·have hm0 : m ≠ 0 := fun e => hz (hm.1 e)
  have hs : m <<< (p - min p (-1074)).toNat ≠ 0 := by
   rw [Nat.shiftLeft_eq]
   exact Nat.mul_ne_zero hm0 (Nat.pos_iff_ne_zero.1 (Nat.two_pow_pos _))
  generalize m <<< (p - min p (-1074)).toNat = k at hs
  simp only [hz, decide_false]
  cases (b / 9223372036854775808 % 2 == 1) <;> simp [signed, compare, compareOfLessAndEq] <;> (try split) <;> (try simp) <;> (try omega)
theorem max_read : double.read 9218868437227405311 = .number false 9007199254740991 971 := by decide
theorem order_max {b : Nat} (hb : b < 9223372036854775808) (h : b ≤ 9218868437227405312) : (double.order b 9218868437227405311 == some .gt) = decide (b = 9218868437227405312) := by
 unfold Format.order
 rw [max_read]
 rcases Nat.lt_or_ge b 9218868437227405312 with h1 | h1
 ·obtain ⟨m, p, e, _, hp, hc⟩ := read_fin (b := b) (by rw [Nat.mod_eq_of_lt hb]; exact h1)
  have hs : (b / 9223372036854775808 % 2 == 1) = false := by rw [Nat.div_eq_of_lt hb]; rfl
  rw [e, hs]
  simp only [Datum.order]
  have hp9 : p ≤ 971 := by omega
  have hm9 : m ≤ 9007199254740991 := by omega
  have e1 : min p 971 = p := by omega
  rw [e1]
  have hd : decide (b = 9218868437227405312) = false := decide_eq_false (by omega)
  rw [hd]
  have e2 : (p - p).toNat = 0 := by omega
  rw [e2]
  have hle : m <<< 0 ≤ 9007199254740991 <<< (971 - p).toNat := by
   rw [Nat.shiftLeft_eq, Nat.shiftLeft_eq, Nat.pow_zero, Nat.mul_one]
   exact Nat.le_trans hm9 (Nat.le_mul_of_pos_right _ (Nat.two_pow_pos _))
  simp only [signed, Bool.false_eq_true, if_false]
  generalize (9007199254740991 : Nat) <<< (971 - p).toNat = q at hle ⊢
  generalize m <<< 0 = r at hle ⊢
  rcases Nat.lt_or_eq_of_le hle with h | h
  ·have hc : compare (r : Int) (q : Int) = .lt := by
    unfold compare instOrdInt compareOfLessAndEq
    simp only
    rw [if_pos (by omega)]
   rw [hc]
   rfl
  ·have hc : compare (r : Int) (q : Int) = .eq := by
    rw [h]
    simp
   rw [hc]
   rfl
 ·have hb2 : b = 9218868437227405312 := by omega
  rw [read_inf (by rw [hb2])]
  subst hb2
  rfl
end Nd
end Go.Proofs.YtbajkglacfheiaaGreatDoor
namespace Go.Proofs.YtbajkglacfheiaaGreatDoor
namespace Nd

theorem nodesL_app : ∀ a b, nodesL (a ++ b) = nodesL a + nodesL b
 | [], b => by simp [nodesL]
 | t :: a, b => by simp [nodesL, nodesL_app a b, Nat.add_assoc]
theorem bytesL_app : ∀ a b, bytesL (a ++ b) = bytesL a + bytesL b
 | [], b => by simp [bytesL]
 | t :: a, b => by simp [bytesL, bytesL_app a b, Nat.add_assoc]
theorem depthL_app : ∀ a b, depthL (a ++ b) = max (depthL a) (depthL b)
 | [], b => by simp [depthL]
 | t :: a, b => by simp [depthL, depthL_app a b, Nat.max_assoc]
theorem fit_le {t : Tr} (h : t.fit = true) : t.nodes ≤ 65536 ∧ t.bytes ≤ 2097152 ∧ t.depth ≤ 512 := by
 simp [Tr.fit] at h
 omega
theorem sums_le : ∀ l : List Tr, (∀ t ∈ l, t.fit = true) → nodesL l ≤ 65536 * l.length ∧ bytesL l ≤ 2097152 * l.length ∧ depthL l ≤ 512
 | [], _ => by simp [nodesL, bytesL, depthL]
 | t :: l, h => by
  have h1 := fit_le (h t (by simp))
  have h2 := sums_le l fun u hu => h u (by simp [hu])
  simp only [nodesL, bytesL, depthL, List.length_cons]
  omega
theorem take_snoc (l : List Tr) (k : Nat) (h : k < l.length) : l.take (k + 1) = l.take k ++ [l[k]] := by
 rw [List.take_succ_eq_append_getElem h]
theorem nodesL_snoc (l : List Tr) (k : Nat) (h : k < l.length) : nodesL (l.take (k + 1)) = nodesL (l.take k) + l[k].nodes := by
 rw [take_snoc l k h, nodesL_app]
 simp [nodesL]
theorem bytesL_snoc (l : List Tr) (k : Nat) (h : k < l.length) : bytesL (l.take (k + 1)) = bytesL (l.take k) + l[k].bytes := by
 rw [take_snoc l k h, bytesL_app]
 simp [bytesL]
theorem depthL_snoc (l : List Tr) (k : Nat) (h : k < l.length) : depthL (l.take (k + 1)) = max (depthL (l.take k)) l[k].depth := by
 rw [take_snoc l k h, depthL_app]
 simp [depthL]
theorem sums_at (l : List Tr) (k : Nat) (h : ∀ t ∈ l, t.fit = true) (hl : l.length ≤ 65536) : nodesL (l.take k) ≤ 4294967296 ∧ bytesL (l.take k) ≤ 137438953472 ∧ depthL (l.take k) ≤ 512 := by
 have := sums_le (l.take k) fun t ht => h t (List.mem_of_mem_take ht)
 have h2 : (l.take k).length ≤ 65536 := by
  have := List.length_take_le k l
  rw [List.length_take]
  omega
 omega
end Nd
end Go.Proofs.YtbajkglacfheiaaGreatDoor
namespace Go.Proofs.YtbajkglacfheiaaGreatDoor
namespace Nd

def sortK (ks : List Tx) : List Tx := ks.mergeSort fun x y => !ltL y x
theorem sortK_perm (ks : List Tx) : (sortK ks).Perm ks := List.mergeSort_perm _ _
theorem sortK_len (ks : List Tx) : (sortK ks).length = ks.length := (sortK_perm ks).length_eq
def mkObj (ks : List Tx) (I : List Tr) : Tr := .obj (sortK ks) ((sortK ks).map fun k => I.getD (ks.idxOf k) .null)
theorem nodesL_perm {a b : List Tr} (h : a.Perm b) : nodesL a = nodesL b := by
 induction h with
 | nil => rfl
 | cons x _ ih => simp [nodesL, ih]
 | swap x y l => simp [nodesL]; omega
 | trans _ _ h1 h2 => exact h1.trans h2
theorem bytesL_perm {a b : List Tr} (h : a.Perm b) : bytesL a = bytesL b := by
 induction h with
 | nil => rfl
 | cons x _ ih => simp [bytesL, ih]
 | swap x y l => simp [bytesL]; omega
 | trans _ _ h1 h2 => exact h1.trans h2
theorem depthL_perm {a b : List Tr} (h : a.Perm b) : depthL a = depthL b := by
 induction h with
 | nil => rfl
 | cons x _ ih => simp [depthL, ih]
 | swap x y l => simp [depthL]; omega
 | trans _ _ h1 h2 => exact h1.trans h2
theorem lens_perm {a b : List Tx} (h : a.Perm b) : lens a = lens b := by
 induction h with
 | nil => rfl
 | cons x _ ih => simp [lens, ih]
 | swap x y l => simp [lens]; omega
 | trans _ _ h1 h2 => exact h1.trans h2
theorem idxOf_at : ∀ (ks : List Tx), ks.Nodup → ∀ (i : Nat) (h : i < ks.length), ks.idxOf ks[i] = i
 | x :: ks, hn, 0, h => by simp
 | x :: ks, hn, i + 1, h => by
  rw [List.nodup_cons] at hn
  have h' : i < ks.length := by simpa using h
  have hne : (x == ks[i]) = false := by
   simp only [beq_eq_false_iff_ne]
   intro e
   exact hn.1 (e ▸ List.getElem_mem h')
  rw [List.getElem_cons_succ, List.idxOf_cons, hne]
  simp [idxOf_at ks hn.2 i h']
theorem map_idx {α : Type} (d : α) (ks : List Tx) (hn : ks.Nodup) (I : List α) (hl : I.length = ks.length) : (ks.map fun k => I.getD (ks.idxOf k) d) = I := by
 apply List.ext_getElem (by simp [hl])
 intro i h1 h2
 simp only [List.getElem_map]
 have hi : i < ks.length := by omega
 have : ks.idxOf ks[i] = i := idxOf_at ks hn i hi
 rw [this, List.getD_eq_getElem?_getD, List.getElem?_eq_getElem h2]
 rfl
theorem items_perm {α : Type} (d : α) (ks : List Tx) (hn : ks.Nodup) (I : List α) (hl : I.length = ks.length) : ((sortK ks).map fun k => I.getD (ks.idxOf k) d).Perm I := by
 have h := (sortK_perm ks).map fun k => I.getD (ks.idxOf k) d
 rw [map_idx d ks hn I hl] at h
 exact h
theorem mkObj_nodes (ks : List Tx) (hn : ks.Nodup) (I : List Tr) (hl : I.length = ks.length) : (mkObj ks I).nodes = 1 + nodesL I := by
 unfold mkObj Tr.nodes
 rw [nodesL_perm (items_perm .null ks hn I hl)]
theorem mkObj_bytes (ks : List Tx) (hn : ks.Nodup) (I : List Tr) (hl : I.length = ks.length) : (mkObj ks I).bytes = lens ks + bytesL I := by
 unfold mkObj Tr.bytes
 rw [bytesL_perm (items_perm .null ks hn I hl), lens_perm (sortK_perm ks)]
theorem mkObj_depth (ks : List Tx) (hn : ks.Nodup) (I : List Tr) (hl : I.length = ks.length) : (mkObj ks I).depth = depthL I + 1 := by
 unfold mkObj Tr.depth
 rw [depthL_perm (items_perm .null ks hn I hl)]
theorem lens_snoc (ks : List Tx) (k : Nat) (h : k < ks.length) : lens (ks.take (k + 1)) = lens (ks.take k) + ks[k].length := by
 have app : ∀ a b : List Tx, lens (a ++ b) = lens a + lens b := by
  intro a b
  induction a with
  | nil => simp [lens]
  | cons x a ih => simp [lens, ih, Nat.add_assoc]
 rw [List.take_succ_eq_append_getElem h, app]
 simp [lens]
theorem lens_le (ks : List Tx) (k : Nat) : lens (ks.take k) ≤ lens ks := by
 induction ks generalizing k with
 | nil => simp [lens]
 | cons x ks ih =>
  cases k with
  | zero => simp [lens]
  | succ k =>
   have := ih k
   simp only [List.take_succ_cons, lens]
   omega
theorem lens_at (ks : List Tx) (k : Nat) (h : k < ks.length) : ks[k].length ≤ lens ks := by
 have h1 := lens_snoc ks k h
 have h2 := lens_le ks (k + 1)
 omega

def objT (R : Tx → Bool) (ks : List Tx) (l : List Tr) : Int × List Tr :=
 if ks.all R = false then (100, l)
 else if ¬ ks.Nodup then (101, l)
 else if l.length < ks.length then (102, l)
 else if (mkObj ks (l.drop (l.length - ks.length))).fit = true then (0, l.take (l.length - ks.length) ++ [mkObj ks (l.drop (l.length - ks.length))])
 else (3, l)
theorem objT_100 {R : Tx → Bool} {ks : List Tx} {l : List Tr} (k : Nat) (h : k < ks.length) (hr : R ks[k] = false) : objT R ks l = (100, l) := by
 unfold objT
 rw [if_pos]
 rw [List.all_eq_false]
 exact ⟨ks[k], List.getElem_mem h, by simp [hr]⟩
theorem objT_101 {R : Tx → Bool} {ks : List Tx} {l : List Tr} (ha : ks.all R = true) (k : Nat) (h : k < ks.length) (hr : ks[k] ∈ ks.take k) : objT R ks l = (101, l) := by
 unfold objT
 rw [if_neg (by simp [ha]), if_pos]
 intro hn
 obtain ⟨j, hj, e⟩ := List.getElem_of_mem hr
 have hj2 : j < k := by rw [List.length_take] at hj; omega
 rw [List.getElem_take] at e
 have h2 := List.pairwise_iff_getElem.1 hn j k (by omega) h hj2
 exact h2 e
theorem objT_102 {R : Tx → Bool} {ks : List Tx} {l : List Tr} (ha : ks.all R = true) (hn : ks.Nodup) (hl : l.length < ks.length) : objT R ks l = (102, l) := by
 unfold objT
 rw [if_neg (by simp [ha]), if_neg (by simpa using hn), if_pos hl]
theorem objT_3 {R : Tx → Bool} {ks : List Tx} {l : List Tr} (ha : ks.all R = true) (hn : ks.Nodup) (hl : ks.length ≤ l.length) (hf : (mkObj ks (l.drop (l.length - ks.length))).fit = false) : objT R ks l = (3, l) := by
 unfold objT
 rw [if_neg (by simp [ha]), if_neg (by simpa using hn), if_neg (by omega), if_neg (by simp [hf])]
theorem objT_0 {R : Tx → Bool} {ks : List Tx} {l : List Tr} (ha : ks.all R = true) (hn : ks.Nodup) (hl : ks.length ≤ l.length) (hf : (mkObj ks (l.drop (l.length - ks.length))).fit = true) : objT R ks l = (0, l.take (l.length - ks.length) ++ [mkObj ks (l.drop (l.length - ks.length))]) := by
 unfold objT
 rw [if_neg (by simp [ha]), if_neg (by simpa using hn), if_neg (by omega), if_pos hf]
theorem nodup_snoc {ks : List Tx} {k : Nat} (h : k < ks.length) (hn : (ks.take k).Nodup) (hm : ks[k] ∉ ks.take k) : (ks.take (k + 1)).Nodup := by
 rw [List.take_succ_eq_append_getElem h, List.nodup_append]
 refine ⟨hn, by simp, ?_⟩
 intro a ha b hb e
 simp at hb
 subst hb
 subst e
 exact hm ha
theorem all_snoc {R : Tx → Bool} {ks : List Tx} {k : Nat} (h : k < ks.length) (hn : (ks.take k).all R = true) (hm : R ks[k] = true) : (ks.take (k + 1)).all R = true := by
 rw [List.take_succ_eq_append_getElem h, List.all_append, hn]
 simp [hm]
end Nd
end Go.Proofs.YtbajkglacfheiaaGreatDoor
