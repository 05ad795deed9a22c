/-
  Words for memory that the walks of this family share: a block that is known whole; what is as it was but for one block.
  Values as trees, in plain terms: their sizes, the order of keys, and what a step does to a row.
  Walks of package node: refuse, within, used; the closure of row.do that recovers. Walks of package node: used. Walks of package node: put of a null. Walks of package node: the step that puts a null. Walks of package node: Maker.step and Maker.Null. Walks of package node: a row that is full takes no further value. Walks of package node: New, Len; numbers at a full row; a copy at a full row. Walks of package node: a number at a full row.
-/
import Derived.Test.YtbajkglacfheiaaGreatDoorProg
import Derived.Below
import Derived.Laws.OwnMore
import Derived.Laws.Rows
import Derived.Deep.Draws
import Derived.Lib.SmallJoins
import Derived.Sort.Statements
import Derived.WalkKit
import Derived.LoopTactic
import Derived.Deep.QuietTactic
import Derived.BigQuiet
import Derived.Lib.Hide
import Derived.Outline
import Derived.Tactics2
import Derived.Defers
import Derived.Recover
import Derived.Deep.DeepCutAuto
import Derived.WalkLawsBesides
import Derived.WalkSpells
import Derived.Laws.AppendOwn
import Derived.OwnWalk
import Derived.StillTailTactics
set_option linter.unusedVariables false
set_option linter.unusedSimpArgs false
set_option maxRecDepth 100000
set_option maxHeartbeats 16000000
namespace Go.Proofs.YtbajkglacfheiaaGreatDoor
open Go.RowKit
namespace Mem

def Blk (w : World) (g : Nat) (t : TypeId) (cs : Array Value) : Prop := w.heap[g]? = some (.cells cs t (0, 0))

section
variable {w w' : World} {g : Nat} {t : TypeId} {cs : Array Value}
theorem Blk.lt (h : Blk w g t cs) : g < w.heap.size := by
 unfold Blk at h
 exact (Array.getElem?_eq_some_iff.1 h).1
theorem Blk.cell (h : Blk w g t cs) (i : Nat) : w.cell? ⟨g, i, none⟩ = cs[i]? := cell_of_row w g i cs t (0, 0) h
theorem Blk.frozen (h : Blk w g t cs) (i : Nat) : w.frozen? ⟨g, i, none⟩ = false := frozen_of_row w g i cs t h
theorem Blk.new (w : World) (t : TypeId) (cs : Array Value) : Blk (w.alloc (.cells cs t)) w.heap.size t cs := heap_alloc_new w _
theorem Blk.drew (h : Blk w g t cs) : Blk w.drew g t cs := h
theorem Blk.alloc (h : Blk w g t cs) (o : Obj) : Blk (w.alloc o) g t cs := (Below.heap_alloc w o g h.lt).trans h
theorem Blk.put (h : Blk w g t cs) (i : Nat) (u : Value) : Blk (w.setCell ⟨g, i, none⟩ u) g t (cs.setIfInBounds i u) := by
 unfold Blk at h ⊢
 simp [World.setCell, Array.getElem?_modify, h]
theorem Blk.far (h : Blk w g t cs) {p : Addr} (hp : g ≠ p.block) (u : Value) : Blk (w.setCell p u) g t cs := (heap_setCell_other w p g u hp).trans h
theorem Blk.below {B : Nat} (h : Blk w g t cs) (hb : Below B w w') (hg : g < B) : Blk w' g t cs := (hb.block g hg).trans h
theorem Blk.only (h : Blk w g t cs) {row : Option Nat} (hb : w.grownBy w' row) (hg : some g ≠ row) : Blk w' g t cs := (hb.block g h.lt hg).trans h

theorem grown_refl (w : World) (row : Option Nat) : w.grownBy w row := ⟨rfl, rfl, rfl, Nat.le_refl _, fun _ _ _ => rfl⟩
theorem grown_trans {a b c : World} {row : Option Nat} (h : a.grownBy b row) (k : b.grownBy c row) : a.grownBy c row :=
 ⟨k.os.trans h.os, k.tape.trans h.tape, k.output.trans h.output, Nat.le_trans h.size k.size,
  fun i hi hn => (k.block i (Nat.lt_of_lt_of_le hi h.size) hn).trans (h.block i hi hn)⟩
theorem grown_drew {a b : World} {row : Option Nat} (h : a.grownBy b row) : a.grownBy b.drew row := ⟨h.os, h.tape, h.output, h.size, h.block⟩
theorem grown_drewN {a b : World} {row : Option Nat} (h : a.grownBy b row) (n : Nat) : a.grownBy (b.drewN n) row := ⟨h.os, h.tape, h.output, h.size, h.block⟩
theorem grown_alloc {a b : World} {row : Option Nat} (h : a.grownBy b row) (o : Obj) : a.grownBy (b.alloc o) row :=
 ⟨h.os, h.tape, h.output, Nat.le_trans h.size (by simp), fun i hi hn => (Below.heap_alloc b o i (Nat.lt_of_lt_of_le hi h.size)).trans (h.block i hi hn)⟩
theorem grown_put {a b : World} {g : Nat} (h : a.grownBy b (some g)) (i : Nat) (u : Value) : a.grownBy (b.setCell ⟨g, i, none⟩ u) (some g) :=
 ⟨h.os, h.tape, h.output, by simpa [World.setCell] using h.size,
  fun i hi hn => (heap_setCell_other b _ i u (fun e => hn (by rw [e]))).trans (h.block i hi hn)⟩
theorem grown_join {a b c : World} {row row' : Option Nat} (h : a.grownBy b row) (k : b.grownBy c row') (hr : row' = row ∨ ∀ g, row' = some g → a.heap.size ≤ g) : a.grownBy c row := by
 refine ⟨k.os.trans h.os, k.tape.trans h.tape, k.output.trans h.output, Nat.le_trans h.size k.size, fun i hi hn => (k.block i (Nat.lt_of_lt_of_le hi h.size) ?_).trans (h.block i hi hn)⟩
 rcases hr with rfl | hr
 ·exact hn
 ·intro e
  have := hr i e.symm
  omega
theorem grown_of_below {a b : World} (h : Below a.heap.size a b) (row : Option Nat) : a.grownBy b row := ⟨h.os, h.tape, h.output, h.size, fun i hi _ => h.block i hi⟩
theorem below_of_grown {a b : World} {B g : Nat} (h : a.grownBy b (some g)) (hg : B ≤ g) (hB : B ≤ a.heap.size) : Below B a b :=
 ⟨h.os, h.tape, h.output, h.size, fun i hi => h.block i (by omega) (fun e => by injection e; omega)⟩
theorem grown_below {a b c : World} {row : Option Nat} (h : a.grownBy b row) (k : Below b.heap.size b c) : a.grownBy c row := grown_trans h (grown_of_below k row)
theorem own_below {base size n : Nat} {e : TypeId} {v : Value} {xs : List Value} (h : w.ownsRow base e size v n xs) (hb : Below w.heap.size w w') : w'.ownsRow base e size v n xs :=
 h.kept (grown_of_below hb none) (Classical.em _)
theorem below_chain {B : Nat} {a b c : World} (h : Below B a b) (hB : B ≤ b.heap.size) (k : Below b.heap.size b c) : Below B a c := h.trans (k.mono hB)
theorem drewN_below {B : Nat} (w : World) (n : Nat) : Below B w (w.drewN n) := ⟨rfl, rfl, rfl, Nat.le_refl _, fun _ _ => rfl⟩
theorem old {W W1 : World} (hb : Below W.heap.size W W1) : (∀ b o, b < W.heap.size → W1.cell? ⟨b, o, none⟩ = W.cell? ⟨b, o, none⟩) ∧ (∀ b o, b < W.heap.size → W1.frozen? ⟨b, o, none⟩ = W.frozen? ⟨b, o, none⟩) :=
 ⟨fun b o h => hb.cell (p := ⟨b, o, none⟩) h, fun b o h => hb.frozen (p := ⟨b, o, none⟩) h⟩
end
end Mem
end Go.Proofs.YtbajkglacfheiaaGreatDoor
namespace Go.Proofs.YtbajkglacfheiaaGreatDoor
namespace Nd
abbrev Tx := List UInt8

inductive Tr where
 | null
 | flag (b : Bool)
 | num (x : Nat)
 | text (t : Tx)
 | list (l : List Tr)
 | obj (ks : List Tx) (l : List Tr)

theorem Tr.ind {P : Tr → Prop} (h0 : P .null) (h1 : ∀ b, P (.flag b)) (h2 : ∀ x, P (.num x)) (h3 : ∀ t, P (.text t)) (h4 : ∀ l, (∀ x, x ∈ l → P x) → P (.list l)) (h5 : ∀ ks l, (∀ x, x ∈ l → P x) → P (.obj ks l)) : ∀ t, P t
 | .null => h0
 | .flag b => h1 b
 | .num x => h2 x
 | .text t => h3 t
 | .list l => h4 l fun x hx => Tr.ind h0 h1 h2 h3 h4 h5 x
 | .obj ks l => h5 ks l fun x hx => Tr.ind h0 h1 h2 h3 h4 h5 x
termination_by t => SizeOf.sizeOf t
decreasing_by
 ·have := List.sizeOf_lt_of_mem hx; simp; omega
 ·have := List.sizeOf_lt_of_mem hx; simp; omega

def lens : List Tx → Nat
 | [] => 0
 | k :: ks => k.length + lens ks
mutual
def Tr.nodes : Tr → Nat
 | .list l => 1 + nodesL l
 | .obj _ l => 1 + nodesL l
 | _ => 1
def nodesL : List Tr → Nat
 | [] => 0
 | t :: l => t.nodes + nodesL l
end
mutual
def Tr.bytes : Tr → Nat
 | .text t => t.length
 | .list l => bytesL l
 | .obj ks l => lens ks + bytesL l
 | _ => 0
def bytesL : List Tr → Nat
 | [] => 0
 | t :: l => t.bytes + bytesL l
end
mutual
def Tr.depth : Tr → Nat
 | .list l => depthL l + 1
 | .obj _ l => depthL l + 1
 | _ => 1
def depthL : List Tr → Nat
 | [] => 0
 | t :: l => max t.depth (depthL l)
end
def Tr.fit (t : Tr) : Bool := decide (t.nodes ≤ 65536) && decide (t.bytes ≤ 2097152) && decide (t.depth ≤ 512)

def ord (x : UInt8) : Nat := if 238 ≤ x.toNat ∧ x.toNat < 240 then x.toNat + 256 else x.toNat
def cmpL : Tx → Tx → Int
 | [], [] => 0
 | [], _ :: _ => -1
 | _ :: _, [] => 1
 | x :: a, y :: b => if x = y then cmpL a b else if ord x < ord y then -1 else 1
theorem ord_inj {x y : UInt8} (h : ord x = ord y) : x = y := by
 have hx := x.toNat_lt
 have hy := y.toNat_lt
 unfold ord at h
 apply UInt8.toNat_inj.1
 split at h <;> split at h <;> omega
def ltL (a b : Tx) : Bool := decide (cmpL a b < 0)
theorem cmp_self : ∀ a, cmpL a a = 0
 | [] => rfl
 | x :: a => by simp [cmpL, cmp_self a]
theorem cmp_zero : ∀ a b, cmpL a b = 0 → a = b
 | [], [], _ => rfl
 | [], _ :: _, h => by simp [cmpL] at h
 | _ :: _, [], h => by simp [cmpL] at h
 | x :: a, y :: b, h => by
  unfold cmpL at h
  split at h
  ·rename_i e
   rw [e, cmp_zero a b h]
  ·split at h <;> cases h
theorem cmp_turn : ∀ a b, cmpL b a = - cmpL a b
 | [], [] => rfl
 | [], _ :: _ => rfl
 | _ :: _, [] => rfl
 | x :: a, y :: b => by
  unfold cmpL
  by_cases e : x = y
  ·subst e
   simp [cmp_turn a b]
  ·have e' : ¬ y = x := fun h => e h.symm
   have hne : ord x ≠ ord y := fun h => e (ord_inj h)
   rw [if_neg e, if_neg e']
   split <;> split <;> first | rfl | omega
theorem cmp_form : ∀ a b, cmpL a b = -1 ∨ cmpL a b = 0 ∨ cmpL a b = 1
 | [], [] => .inr (.inl rfl)
 | [], _ :: _ => .inl rfl
 | _ :: _, [] => .inr (.inr rfl)
 | x :: a, y :: b => by
  unfold cmpL
  split
  ·exact cmp_form a b
  ·split
   ·exact .inl rfl
   ·exact .inr (.inr rfl)
theorem lt_trans : ∀ a b c, cmpL a b < 0 → cmpL b c < 0 → cmpL a c < 0
 | [], [], _, h, _ => by simp [cmpL] at h
 | [], _ :: _, [], _, h => by simp [cmpL] at h
 | [], _ :: _, _ :: _, _, _ => by simp [cmpL]
 | _ :: _, [], _, h, _ => by simp [cmpL] at h
 | _ :: _, _ :: _, [], _, h => by simp [cmpL] at h
 | x :: a, y :: b, z :: c, h1, h2 => by
  unfold cmpL at h1 h2 ⊢
  by_cases e1 : x = y
  ·subst e1
   by_cases e2 : x = z
   ·subst e2
    simp only [if_true] at h1 h2 ⊢
    exact lt_trans a b c h1 h2
   ·rw [if_neg e2] at h2 ⊢
    exact h2
  ·rw [if_neg e1] at h1
   by_cases e2 : y = z
   ·subst e2
    rw [if_neg e1]
    exact h1
   ·rw [if_neg e2] at h2
    have h3 : ord x < ord y := by
     apply Classical.byContradiction
     intro h
     rw [if_neg h] at h1
     omega
    have h4 : ord y < ord z := by
     apply Classical.byContradiction
     intro h
     rw [if_neg h] at h2
     omega
    have e3 : ¬ x = z := fun h => by subst h; omega
    rw [if_neg e3, if_pos (by omega)]
    decide
theorem lt_total (a b : Tx) : cmpL a b < 0 ∨ a = b ∨ cmpL b a < 0 := by
 rcases cmp_form a b with h | h | h
 ·exact .inl (by omega)
 ·exact .inr (.inl (cmp_zero a b h))
 ·exact .inr (.inr (by rw [cmp_turn]; omega))
theorem swoL : Go.Sort.SWO ltL where
 irrefl x := by simp [ltL, cmp_self]
 trans x y z h1 h2 := by
  simp only [ltL, decide_eq_true_eq] at *
  exact lt_trans x y z h1 h2
 ntrans x y z h1 h2 := by
  simp only [ltL, decide_eq_false_iff_not] at *
  intro h
  rcases lt_total x y with a | rfl | a
  ·exact h1 a
  ·exact h2 h
  ·exact h2 (lt_trans y x z a h)
theorem ltL_one (x y : Tx) (h1 : ltL x y = false) (h2 : ltL y x = false) : x = y := by
 simp only [ltL, decide_eq_false_iff_not] at *
 rcases lt_total x y with a | a | a
 ·exact absurd a h1
 ·exact a
 ·exact absurd a h2
end Nd
end Go.Proofs.YtbajkglacfheiaaGreatDoor
namespace Go.Proofs.YtbajkglacfheiaaGreatDoor
open Go.RowKit Mem

theorem refuse_yes (n : Int) (w : World) : Calls Tryz.prog 71 #[.bool true, .int .i64 n] w fun e w' => e = .returned (.tuple #[]) ∧ w = w' := by
 go_enter Tryz.func71, Tryz.ntmps71
 go_wp2
 go_end0
 exact ⟨rfl, rfl⟩
theorem refuse_no (n : Int) (w : World) : Calls Tryz.prog 71 #[.bool false, .int .i64 n] w fun e w' => e = .panicked [{ v := .iface 113 (.int .i64 n), recovered := false }] ∧ w = w' := by
 go_enter Tryz.func71, Tryz.ntmps71
 go_wp2
 exact ⟨rfl, rfl, rfl⟩
def withinB (n b d : Int) : Bool := decide (n ≤ 65536) && decide (b ≤ 2097152) && decide (d ≤ 512)
theorem within_any (n b d : Int) (w : World) : Calls Tryz.prog 116 #[.agg #[.int .i64 n, .int .i64 b, .int .i64 d]] w fun e w' => e = .returned (.bool (withinB n b d)) ∧ Below w.heap.size w w' := by
 have hb : ∀ o, Below w.heap.size w (w.alloc o) := fun o => (Below.refl _ _).alloc (Nat.le_refl _) _
 have HW : Hid (withinB n b d = (decide (n ≤ 65536) && decide (b ≤ 2097152) && decide (d ≤ 512))) := Lib.hid rfl
 obtain ⟨p, hp⟩ : ∃ p, decide (n ≤ 65536) = p := ⟨_, rfl⟩
 obtain ⟨q, hq⟩ : ∃ p, decide (b ≤ 2097152) = p := ⟨_, rfl⟩
 obtain ⟨r, hr⟩ : ∃ p, decide (d ≤ 512) = p := ⟨_, rfl⟩
 rw [hp, hq, hr] at HW
 go_enter Tryz.func116, Tryz.ntmps116
 cases p with
 | false =>
  go_wp2
  go_ret
  exact ⟨by rw [HW.out]; rfl, hb _⟩
 | true =>
  cases q with
  | false =>
   go_wp2
   go_ret
   exact ⟨by rw [HW.out]; rfl, hb _⟩
  | true =>
   cases r with
   | false =>
    go_wp2
    go_ret
    exact ⟨by rw [HW.out]; rfl, hb _⟩
   | true =>
    go_wp2
    go_ret
    exact ⟨by rw [HW.out]; rfl, hb _⟩
theorem catch_panicking (p : Addr) (x : Value) (n : Int) (older : List PanicEntry) (w : World) (hc : w.cell? p = some x) (hz : w.frozen? p = false) :
  CallsD Tryz.prog 70 #[.pointer (some p)] (.panicking ({ v := .iface 113 (.int .i64 n), recovered := false } :: older)) w fun e u' w' =>
   e = .returned (.tuple #[]) ∧ u' = .panicking ({ v := .iface 113 (.int .i64 n), recovered := true } :: older) ∧ w' = w.setCell p (.iface 113 (.int .i64 n)) := by
 have hta : ∀ W, (Instr.typeAssert (.iface 113 (.int .i64 n)) 20 113 false).run Tryz.prog W = .ok (.int .i64 n) W := fun W => by kernel_rfl
 refine callsD_of_wpS Tryz.func70 rfl fun c₀ cs hu => ?_
 apply wpS_seq
 apply wpS_region
 simp [wpOpsS, go_sem, recoverD, hu, Tryz.ntmps70, Exit.thenS]
 apply wpS_seq
 apply wpS_region
 simp [wpOpsS, go_sem, Exit.thenS]
 refine wpS_cond (t := true) (by simp [Act.eval]) ?_
 simp only [if_true]
 apply wpS_region
 simp [wpOpsS, go_sem, hta, hc, hz, bodyPostS, results, Tryz.results70]
theorem catch_idle (p : Addr) (w : World) :
  CallsD Tryz.prog 70 #[.pointer (some p)] .returning w fun e u' w' => e = .returned (.tuple #[]) ∧ u' = .returning ∧ w' = w := by
 refine callsD_of_wpS Tryz.func70 rfl fun c₀ cs hu => ?_
 apply wpS_seq
 apply wpS_region
 simp [wpOpsS, go_sem, recoverD, hu, Tryz.ntmps70, Exit.thenS]
 apply wpS_seq
 apply wpS_region
 simp [wpOpsS, go_sem, Exit.thenS]
 refine wpS_cond (t := false) (by simp [Act.eval]) ?_
 simp only [Bool.false_eq_true, if_false]
 refine wpS_of_wp (wp_skip ?_)
 cases c₀
 simp_all [bodyPostS, results, Tryz.results70]
end Go.Proofs.YtbajkglacfheiaaGreatDoor
namespace Go.Proofs.YtbajkglacfheiaaGreatDoor
open Go.RowKit Mem

def usedB (s : Int) (f : Bool) (b : Int) (t : List UInt8) (c : Int) (n : Nat) : Bool :=
 (decide (1 ≤ s) && decide (s ≤ 6) && decide (0 ≤ c)) && (!f || s == 2) && (b == 0 || s == 3) && (t.isEmpty || s == 4) && (c == 0 || s == 5) && ((n : Int) == 0 || s == 6)
theorem used_any (s : Int) (f : Bool) (b : Int) (t : List UInt8) (c : Int) (A : Option Addr) (n q : Nat) (w : World) :
  Calls Tryz.prog 72 #[.agg #[.int .i64 s, .bool f, .int .u64 b, .string ⟨t.toArray⟩, .int .i64 c, .slice A n q]] w fun e w' => e = .returned (.bool (usedB s f b t c n)) ∧ Below w.heap.size w w' := by
 have hb : ∀ o, Below w.heap.size w (w.alloc o) := fun o => (Below.refl _ _).alloc (Nat.le_refl _) _
 have HU : Hid (usedB s f b t c n = ((decide (1 ≤ s) && decide (s ≤ 6) && decide (0 ≤ c)) && (!f || s == 2) && (b == 0 || s == 3) && (t.isEmpty || s == 4) && (c == 0 || s == 5) && ((n : Int) == 0 || s == 6))) := Lib.hid rfl
 obtain ⟨p1, h1⟩ : ∃ p, decide (1 ≤ s) = p := ⟨_, rfl⟩
 obtain ⟨p2, h2⟩ : ∃ p, decide (s ≤ 6) = p := ⟨_, rfl⟩
 obtain ⟨p3, h3⟩ : ∃ p, decide (0 ≤ c) = p := ⟨_, rfl⟩
 obtain ⟨q2, g2⟩ : ∃ p, (s == 2) = p := ⟨_, rfl⟩
 obtain ⟨q3, g3⟩ : ∃ p, (s == 3) = p := ⟨_, rfl⟩
 obtain ⟨q4, g4⟩ : ∃ p, (s == 4) = p := ⟨_, rfl⟩
 obtain ⟨q5, g5⟩ : ∃ p, (s == 5) = p := ⟨_, rfl⟩
 obtain ⟨q6, g6⟩ : ∃ p, (s == 6) = p := ⟨_, rfl⟩
 obtain ⟨zb, k1⟩ : ∃ p, (b == 0) = p := ⟨_, rfl⟩
 obtain ⟨zt, k2⟩ : ∃ p, t.isEmpty = p := ⟨_, rfl⟩
 obtain ⟨zc, k3⟩ : ∃ p, (c == 0) = p := ⟨_, rfl⟩
 obtain ⟨zn, k4⟩ : ∃ p, ((n : Int) == 0) = p := ⟨_, rfl⟩
 rw [h1, h2, h3, g2, g3, g4, g5, g6, k1, k2, k3, k4] at HU
 go_enter Tryz.func72, Tryz.ntmps72
 go_upto_region 1 with fail
 have hB := Blk.new w 119 #[.int .i64 s, .bool f, .int .u64 b, .string ⟨t.toArray⟩, .int .i64 c, .slice A n q]
 have hb1 := hb (.cells #[.int .i64 s, .bool f, .int .u64 b, .string ⟨t.toArray⟩, .int .i64 c, .slice A n q] 119)
 generalize w.alloc (.cells #[.int .i64 s, .bool f, .int .u64 b, .string ⟨t.toArray⟩, .int .i64 c, .slice A n q] 119) = w1 at *
 have c0 : w1.cell? ⟨w.heap.size, 0, none⟩ = some (.int .i64 s) := hB.cell 0
 have c1 : w1.cell? ⟨w.heap.size, 1, none⟩ = some (.bool f) := hB.cell 1
 have c2 : w1.cell? ⟨w.heap.size, 2, none⟩ = some (.int .u64 b) := hB.cell 2
 have c3 : w1.cell? ⟨w.heap.size, 3, none⟩ = some (.string ⟨t.toArray⟩) := hB.cell 3
 have c4 : w1.cell? ⟨w.heap.size, 4, none⟩ = some (.int .i64 c) := hB.cell 4
 have c5 : w1.cell? ⟨w.heap.size, 5, none⟩ = some (.slice A n q) := hB.cell 5
 clear hB hb
 go_cut [3] (fun c3 wx => c3 = .bool (p1 && p2 && p3) ∧ wx = w1)
 case first =>
  cases p1 with
  | false => go_wp2_with fail; go_meet; exact ⟨rfl, rfl⟩
  | true =>
   cases p2 with
   | false => go_wp2_with fail; go_meet; exact ⟨rfl, rfl⟩
   | true =>
    cases p3 with
    | false => go_wp2_with fail; go_meet; exact ⟨rfl, rfl⟩
    | true => go_wp2_with fail; go_meet; exact ⟨rfl, rfl⟩
 case rest =>
  obtain ⟨rfl, rfl⟩ := hcut
  generalize (p1 && p2 && p3) = b1 at *
  go_upto_region 2 with fail
  go_cut [3] (fun c3 wx => c3 = .bool (b1 && (!f || q2) && (zb || q3) && (zt || q4)) ∧ wx = wc)
  case first =>
   cases b1 with
   | false =>
    go_wp2_with fail; go_meet; exact ⟨by simp, rfl⟩
   | true =>
    cases f with
    | false =>
     cases zb with
     | false =>
      cases q3 with
      | false =>
       go_wp2_with fail; go_meet; exact ⟨by simp, rfl⟩
      | true =>
       cases zt with
       | false =>
        have k5 : ¬ t = [] := by simpa using k2
        cases q4 with
        | false =>
         go_wp2_with fail; go_meet; exact ⟨by simp, rfl⟩
        | true =>
         go_wp2_with fail; go_meet; exact ⟨by simp, rfl⟩
       | true =>
        go_wp2_with fail; go_meet; exact ⟨by simp, rfl⟩
     | true =>
      cases zt with
      | false =>
       have k5 : ¬ t = [] := by simpa using k2
       cases q4 with
       | false =>
        go_wp2_with fail; go_meet; exact ⟨by simp, rfl⟩
       | true =>
        go_wp2_with fail; go_meet; exact ⟨by simp, rfl⟩
      | true =>
       go_wp2_with fail; go_meet; exact ⟨by simp, rfl⟩
    | true =>
     cases q2 with
     | false =>
      go_wp2_with fail; go_meet; exact ⟨by simp, rfl⟩
     | true =>
      cases zb with
      | false =>
       cases q3 with
       | false =>
        go_wp2_with fail; go_meet; exact ⟨by simp, rfl⟩
       | true =>
        cases zt with
        | false =>
         have k5 : ¬ t = [] := by simpa using k2
         cases q4 with
         | false =>
          go_wp2_with fail; go_meet; exact ⟨by simp, rfl⟩
         | true =>
          go_wp2_with fail; go_meet; exact ⟨by simp, rfl⟩
        | true =>
         go_wp2_with fail; go_meet; exact ⟨by simp, rfl⟩
      | true =>
       cases zt with
       | false =>
        have k5 : ¬ t = [] := by simpa using k2
        cases q4 with
        | false =>
         go_wp2_with fail; go_meet; exact ⟨by simp, rfl⟩
        | true =>
         go_wp2_with fail; go_meet; exact ⟨by simp, rfl⟩
       | true =>
        go_wp2_with fail; go_meet; exact ⟨by simp, rfl⟩
  case rest =>
   obtain ⟨rfl, rfl⟩ := hcut
   generalize (b1 && (!f || q2) && (zb || q3) && (zt || q4)) = b2 at *
   cases b2 with
   | false =>
    go_wp2; go_ret; exact ⟨by rw [HU.out]; simp, hb1⟩
   | true =>
    cases zc with
    | false =>
     cases q5 with
     | false =>
      go_wp2; go_ret; exact ⟨by rw [HU.out]; simp, hb1⟩
     | true =>
      cases zn with
      | false =>
       cases q6 with
       | false =>
        go_wp2; go_ret; exact ⟨by rw [HU.out]; simp, hb1⟩
       | true =>
        go_wp2; go_ret; exact ⟨by rw [HU.out]; simp, hb1⟩
      | true =>
       go_wp2; go_ret; exact ⟨by rw [HU.out]; simp, hb1⟩
    | true =>
     cases zn with
     | false =>
      cases q6 with
      | false =>
       go_wp2; go_ret; exact ⟨by rw [HU.out]; simp, hb1⟩
      | true =>
       go_wp2; go_ret; exact ⟨by rw [HU.out]; simp, hb1⟩
     | true =>
      go_wp2; go_ret; exact ⟨by rw [HU.out]; simp, hb1⟩
end Go.Proofs.YtbajkglacfheiaaGreatDoor
namespace Go.Proofs.YtbajkglacfheiaaGreatDoor
open Go.RowKit Mem

theorem info_item : (Tryz.prog.info? 56).map (fun i => (i.zero, i.size, i.bytes)) = some (some .nilIface, 1, 16) := by kernel_rfl
theorem one_new (w : World) (t : TypeId) (v : Value) : ∀ j u, [v][j]? = some u → (w.alloc (.cells #[v] t)).cell? ((⟨w.heap.size, 0, none⟩ : Addr).add j) = some u := by
 intro j u hj
 match j, hj with
 | 0, hj =>
  injection hj with hj
  subst hj
  exact Blk.cell (Blk.new w t #[v]) 0
 | j + 1, hj => cases hj
theorem one_cell (v : Value) (h : v.oneCell' = true) : ∀ u ∈ [v], u.oneCell' = true := by
 intro u hu
 rw [List.mem_singleton] at hu
 rw [hu]
 exact h
theorem own_slice {w : World} {base size n : Nat} {e : TypeId} {v : Value} {xs : List Value} (h : w.ownsRow base e size v n xs) : ∃ A c, v = .slice A n c := by
 rcases Joins.ownsRow_forms h with ⟨rfl, rfl⟩ | ⟨g, cap, rfl, _⟩
 ·exact ⟨none, 0, rfl⟩
 ·exact ⟨_, _, rfl⟩
theorem sized_null (w : World) : Calls Tryz.prog 281 #[.agg #[]] w fun e w' => e = .returned (.agg #[.int .i64 1, .int .i64 0, .int .i64 1]) ∧ Below w.heap.size w w' := by
 go_enter Tryz.func281, Tryz.ntmps281
 go_wp2
 refine bodyPost_ret (v := .agg #[.int .i64 1, .int .i64 0, .int .i64 1]) ?_ rfl ⟨rfl, ((Below.refl _ _).alloc (Nat.le_refl _) _).alloc (by simp) _⟩
 simp [results, Tryz.results281, go_sem]
theorem sized_text (t : List UInt8) (w : World) : Calls Tryz.prog 285 #[.string ⟨t.toArray⟩] w fun e w' => e = .returned (.agg #[.int .i64 1, .int .i64 t.length, .int .i64 1]) ∧ Below w.heap.size w w' := by
 go_enter Tryz.func285, Tryz.ntmps285
 go_wp2
 refine bodyPost_ret (v := .agg #[.int .i64 1, .int .i64 t.length, .int .i64 1]) ?_ rfl ⟨rfl, (Below.refl _ _).alloc (Nat.le_refl _) _⟩
 simp [results, Tryz.results285, go_sem]
end Go.Proofs.YtbajkglacfheiaaGreatDoor
namespace Go.Proofs.YtbajkglacfheiaaGreatDoor
open Go.RowKit Mem

end Go.Proofs.YtbajkglacfheiaaGreatDoor
namespace Go.Proofs.YtbajkglacfheiaaGreatDoor
open Go.RowKit Mem

end Go.Proofs.YtbajkglacfheiaaGreatDoor
namespace Go.Proofs.YtbajkglacfheiaaGreatDoor
open Go.RowKit Mem

def errN (n : Int) : Value := .iface 113 (.int .i64 n)
theorem step_full (s : Int) (f : Bool) (b : Int) (t : List UInt8) (c : Int) (A9 : Option Addr) (n9 q9 : Nat) (p : Nat) (ty : TypeId) (A : Option Addr) (n q : Nat) (w : World) (hB : Blk w p ty #[.slice A n q]) (hs : s < 5) (hn : 65536 ≤ n) :
  Calls Tryz.prog 57 #[.pointer (some ⟨p, 0, none⟩), .agg #[.int .i64 s, .bool f, .int .u64 b, .string ⟨t.toArray⟩, .int .i64 c, .slice A9 n9 q9]] w fun e w' => e = .returned (errN 3) ∧ Below w.heap.size w w' := by
 have d1 : decide (65536 ≤ (n : Int)) = true := decide_eq_true (by omega)
 have d2 : decide (s < 5) = true := decide_eq_true hs
 have hb0 : ∀ o1, Below w.heap.size w (w.alloc o1) := fun o1 => (Below.refl _ _).alloc (Nat.le_refl _) _
 have hB1 := hB.alloc (.cells #[.int .i64 s, .bool f, .int .u64 b, .string ⟨t.toArray⟩, .int .i64 c, .slice A9 n9 q9] 119)
 have a0 := hB1.cell 0
 have a1 : w.cell? ⟨p, 0, none⟩ = some (.slice A n q) := hB.cell 0
 have hlt := hB.lt
 have a2 : (w.alloc (.cells #[.int .i64 s, .bool f, .int .u64 b, .string ⟨t.toArray⟩, .int .i64 c, .slice A9 n9 q9] 119)).cell? ⟨p, 0, none⟩ = some (.slice A n q) := hB1.cell 0
 clear hB hB1 a0 hs hn
 go_enter Tryz.func57, Tryz.ntmps57
 go_wp2
 go_ret
 exact ⟨rfl, hb0 _⟩
end Go.Proofs.YtbajkglacfheiaaGreatDoor
namespace Go.Proofs.YtbajkglacfheiaaGreatDoor
open Go.RowKit Mem

theorem mnew_any (w : World) : Calls Tryz.prog 22 #[] w fun e w' => e = .returned (.pointer (some ⟨w.heap.size, 0, none⟩)) ∧ w.alloc (.cells #[.slice none 0 0] 168) = w' := by
 go_enter Tryz.func22, Tryz.ntmps22
 go_wp2
 go_ret
 exact ⟨rfl, rfl⟩
end Go.Proofs.YtbajkglacfheiaaGreatDoor
namespace Go.Proofs.YtbajkglacfheiaaGreatDoor
open Go.RowKit Mem

theorem f64bits (x : Nat) (W : World) : (callFunc 15 #[.float .f64 x]).run Tryz.prog W = .ok (.value (.int .u64 (x : Int))) W := by kernel_rfl
end Go.Proofs.YtbajkglacfheiaaGreatDoor
