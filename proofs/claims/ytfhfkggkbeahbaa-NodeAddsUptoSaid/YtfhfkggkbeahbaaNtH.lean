/-
  Walks of package node: the steps that put one value.
-/
import Derived.Test.YtfhfkggkbeahbaaNtG
import Derived.Test.YtfhfkggkbeahbaaNdH
namespace Go.Proofs.Ytfhfkggkbeahbaa
open Go.RowKit Mem
set_option linter.unusedVariables false
namespace Nd

theorem fin_ok {p : Nat} {ty : TypeId} {B E : Nat} {l l' : List Tr} {v v' : Value} {xs xs' : List Value} {w w1 w2 : World} (hR : Rw p ty B (fun _ => False) l v xs w) (hb1 : Below w.heap.size w w1) (hE0 : w.heap.size ≤ E) (hE1 : E < w1.heap.size) (hE : Blk w1 E 27 #[.nilIface])
    (hR2 : Rw p ty B (fun k => k = E) l' v' xs' w2) (hob : v'.ownBlock = v.ownBlock ∨ ∀ g, v'.ownBlock = some g → w1.heap.size ≤ g) (hb2 : Below p w1 w2) (hk : KeepV p v w1 w2) :
    (w2.cell? ⟨E, 0, none⟩ = some .nilIface ∧ w2.frozen? ⟨E, 0, none⟩ = false) ∧ (w2.setCell ⟨E, 0, none⟩ .nilIface).cell? ⟨E, 0, none⟩ = some .nilIface ∧ RwX p ty B l' (w2.setCell ⟨E, 0, none⟩ .nilIface) ∧ Below p w (w2.setCell ⟨E, 0, none⟩ .nilIface) := by
  have hlt := hR.lt
  have hle := hR.le
  have hv := hR.vlt
  have hE2 : Blk w2 E 27 #[.nilIface] := (hk E hE1 (by omega) (by intro e; have := (hv E e.symm).2; omega)).trans hE
  refine ⟨⟨hE2.cell 0, hE2.frozen 0⟩, (hE2.put 0 .nilIface).cell 0, ?_, ?_⟩
  · refine (hR2.far (q := ⟨E, 0, none⟩) rfl (by show p ≠ E; omega) ?_ _).all
    intro e
    rcases hob with h | h
    · rw [h] at e
      have := (hv E e).2
      omega
    · have := h E e
      omega
  · exact ((hb1.mono (by omega)).trans hb2).setCell (by show p ≤ E; omega) _
theorem fin_err {p : Nat} {ty : TypeId} {B E : Nat} {l : List Tr} {v : Value} {xs : List Value} {w w1 w2 : World} (n : Int) (hR : Rw p ty B (fun _ => False) l v xs w) (hb1 : Below w.heap.size w w1) (hE0 : w.heap.size ≤ E) (hE1 : E < w1.heap.size) (hE : Blk w1 E 27 #[.nilIface])
    (hb2 : Below w1.heap.size w1 w2) :
    (w2.cell? ⟨E, 0, none⟩ = some .nilIface ∧ w2.frozen? ⟨E, 0, none⟩ = false) ∧ (w2.setCell ⟨E, 0, none⟩ (errN n)).cell? ⟨E, 0, none⟩ = some (errN n) ∧ RwX p ty B l (w2.setCell ⟨E, 0, none⟩ (errN n)) ∧ Below p w (w2.setCell ⟨E, 0, none⟩ (errN n)) := by
  have hlt := hR.lt
  have hle := hR.le
  have hv := hR.vlt
  have hE2 : Blk w2 E 27 #[.nilIface] := (hb2.block E hE1).trans hE
  have hR1 : Rw p ty B (fun k => k = E) l v xs w1 := (hR.avoid (X' := fun k => k = E) fun k hk => .inr (by omega)).below hb1
  refine ⟨⟨hE2.cell 0, hE2.frozen 0⟩, (hE2.put 0 _).cell 0, ?_, ?_⟩
  · exact ((hR1.below hb2).far (q := ⟨E, 0, none⟩) rfl (by show p ≠ E; omega) (by intro e; have := (hv E e).2; omega) _).all
  · exact ((hb1.mono (by omega)).trans (hb2.mono (by have := hb1.size; omega))).setCell (by show p ≤ E; omega) _
/-- the world behind the head of a step -/
theorem head_blocks (w : World) (cs : Array Value) {w1 : World} (hb : Below ((w.alloc (.cells cs 42)).alloc (.cells #[.nilIface] 27)).heap.size ((w.alloc (.cells cs 42)).alloc (.cells #[.nilIface] 27)) w1) :
    Below w.heap.size w w1 ∧ Blk w1 w.heap.size 42 cs ∧ Blk w1 (w.heap.size + 1) 27 #[.nilIface] ∧ w.heap.size + 1 < w1.heap.size := by
  have hs := hb.size
  simp at hs
  refine ⟨below_chain (((Below.refl _ _).alloc (Nat.le_refl _) _).alloc (by simp) _) (by simp; omega) hb, ((Blk.new w 42 cs).alloc _).below hb (by simp; omega), ?_, by omega⟩
  have h := (Blk.new (w.alloc (.cells cs 42)) 27 #[.nilIface]).below hb (by simp)
  have e : (w.alloc (.cells cs 42)).heap.size = w.heap.size + 1 := by simp
  rw [e] at h
  exact h
set_option maxRecDepth 100000 in
set_option maxHeartbeats 4000000 in
theorem do_bad (s : Int) (f : Bool) (b : Int) (t : Tx) (c : Int) (A : Option Addr) (n q : Nat) (p : Nat) (ty : TypeId) (B : Nat) (l : List Tr) (v : Value) (xs : List Value) (w : World) (hR : Rw p ty B (fun _ => False) l v xs w) (hus : usedB s f b t c n = false) :
    Calls Try.prog 27 #[.pointer (some ⟨p, 0, none⟩), .agg #[.int .i64 s, .bool f, .int .u64 b, .string ⟨t.toArray⟩, .int .i64 c, .slice A n q]] w fun e w' => e = .returned (errN 2) ∧ RwX p ty B l w' ∧ Below p w w' := by
  have hmf : ∀ (fn : Fn) (first cap : Array Value) (w : World), (Instr.makeFunc fn first cap).run Try.prog w = .ok (.func fn first cap) w := fun _ _ _ _ => rfl
  have HR := Lib.hid hR
  clear hR
  go_enter_defers Try.func27, Try.ntmps27
  go_wp2_with fail
  refine (used_any s f b t c A n q _).mono ?_
  rw [hus]
  rintro e w1 ⟨rfl, hb1⟩
  obtain ⟨hbw, hS1, hE1, hsz⟩ := head_blocks w _ hb1
  clear hb1
  go_wp2_with fail
  refine (refuse_no 2 _).mono ?_
  rintro e w' ⟨rfl, rfl⟩
  obtain ⟨⟨hc, hz⟩, hc2, hrx, hbp⟩ := fin_err 2 HR.out hbw (by omega) hsz hE1 (Below.refl _ _)
  go_wp2
  refine leaves_cons (f := 32) (args := #[.pointer (some ⟨w.heap.size + 1, 0, none⟩)]) (by simp) (by simp [go_sem]) ?_
  refine (catch_panicking ⟨w.heap.size + 1, 0, none⟩ _ 2 [] _ hc hz).mono ?_
  rintro e u' w'' ⟨rfl, rfl, rfl⟩
  have hc2' : (w1.setCell ⟨w.heap.size + 1, 0, none⟩ (.iface 30 (.int .i64 2))).cell? ⟨w.heap.size + 1, 0, none⟩ = some (.iface 30 (.int .i64 2)) := hc2
  simp [Leaves, settle, results, Try.results27, go_sem, hc2']
  exact ⟨rfl, hrx, hbp⟩
set_option maxRecDepth 100000 in
set_option maxHeartbeats 4000000 in
theorem do_nul (A : Option Addr) (n q : Nat) (p : Nat) (ty : TypeId) (B : Nat) (l : List Tr) (v : Value) (xs : List Value) (w : World) (hR : Rw p ty B (fun _ => False) l v xs w) (hus : usedB 1 false 0 [] 0 n = true) (hlen : l.length ≤ 1048576) :
    Calls Try.prog 27 #[.pointer (some ⟨p, 0, none⟩), .agg #[.int .i64 1, .bool false, .int .u64 0, .string ⟨([] : Tx).toArray⟩, .int .i64 0, .slice A n q]] w fun e w' => e = .returned .nilIface ∧ RwX p ty B (l ++ [.null]) w' ∧ Below p w w' := by
  have hmf : ∀ (fn : Fn) (first cap : Array Value) (w : World), (Instr.makeFunc fn first cap).run Try.prog w = .ok (.func fn first cap) w := fun _ _ _ _ => rfl
  have HR := Lib.hid hR
  clear hR
  go_enter_defers Try.func27, Try.ntmps27
  go_wp2_with fail
  refine (used_any 1 false 0 [] 0 A n q _).mono ?_
  rw [hus]
  rintro e w1 ⟨rfl, hb1⟩
  obtain ⟨hbw, hS1, hE1, hsz⟩ := head_blocks w _ hb1
  clear hb1
  have c0 : w1.cell? ⟨w.heap.size, 0, none⟩ = some (.int .i64 1) := hS1.cell 0
  have c1 : w1.cell? ⟨w.heap.size, 1, none⟩ = some (.bool false) := hS1.cell 1
  have c2 : w1.cell? ⟨w.heap.size, 2, none⟩ = some (.int .u64 0) := hS1.cell 2
  have c3 : w1.cell? ⟨w.heap.size, 3, none⟩ = some (.string ⟨([] : Tx).toArray⟩) := hS1.cell 3
  have c4 : w1.cell? ⟨w.heap.size, 4, none⟩ = some (.int .i64 0) := hS1.cell 4
  have c5 : w1.cell? ⟨w.heap.size, 5, none⟩ = some (.slice A n q) := hS1.cell 5
  clear hS1
  go_wp2_with fail
  refine (refuse_yes 2 _).mono ?_
  rintro e w' ⟨rfl, rfl⟩
  go_wp2_with fail
  refine (put_core p ty B v l.length xs _ _ _ _ _ _ _ _ (HR.out.below hbw).bl (HR.out.below hbw).own HR.out.lt (HR.out.below hbw).le hlen (asks_null _) (by decide) rfl).mono ?_
  rintro e w2 ⟨rfl, hP⟩
  obtain ⟨v2, xs2, hR2, hob2, hb2, hk2⟩ := hP.rw0 ((HR.out.avoid (X' := fun k => k = w.heap.size + 1) fun k hk => .inr (by omega)).below hbw) (t := .null) rfl (by decide)
  obtain ⟨⟨hc, hz⟩, hc2, hrx, hbp⟩ := fin_ok HR.out hbw (by omega) hsz hE1 hR2 hob2 hb2 hk2
  go_wp2
  refine leaves_cons (f := 32) (args := #[.pointer (some ⟨w.heap.size + 1, 0, none⟩)]) (by simp) (by simp [go_sem]) ?_
  refine (catch_idle ⟨w.heap.size + 1, 0, none⟩ _).mono ?_
  rintro e u' w'' ⟨rfl, rfl, rfl⟩
  simp [Leaves, settle, results, Try.results27, go_sem, hc2]
  exact ⟨hrx, hbp⟩
set_option maxRecDepth 100000 in
set_option maxHeartbeats 4000000 in
theorem do_flag (b : Bool) (A : Option Addr) (n q : Nat) (p : Nat) (ty : TypeId) (B : Nat) (l : List Tr) (v : Value) (xs : List Value) (w : World) (hR : Rw p ty B (fun _ => False) l v xs w) (hus : usedB 2 b 0 [] 0 n = true) (hlen : l.length ≤ 1048576) :
    Calls Try.prog 27 #[.pointer (some ⟨p, 0, none⟩), .agg #[.int .i64 2, .bool b, .int .u64 0, .string ⟨([] : Tx).toArray⟩, .int .i64 0, .slice A n q]] w fun e w' => e = .returned .nilIface ∧ RwX p ty B (l ++ [.flag b]) w' ∧ Below p w w' := by
  have hmf : ∀ (fn : Fn) (first cap : Array Value) (w : World), (Instr.makeFunc fn first cap).run Try.prog w = .ok (.func fn first cap) w := fun _ _ _ _ => rfl
  have HR := Lib.hid hR
  clear hR
  go_enter_defers Try.func27, Try.ntmps27
  go_wp2_with fail
  refine (used_any 2 b 0 [] 0 A n q _).mono ?_
  rw [hus]
  rintro e w1 ⟨rfl, hb1⟩
  obtain ⟨hbw, hS1, hE1, hsz⟩ := head_blocks w _ hb1
  clear hb1
  have c0 : w1.cell? ⟨w.heap.size, 0, none⟩ = some (.int .i64 2) := hS1.cell 0
  have c1 : w1.cell? ⟨w.heap.size, 1, none⟩ = some (.bool b) := hS1.cell 1
  have c2 : w1.cell? ⟨w.heap.size, 2, none⟩ = some (.int .u64 0) := hS1.cell 2
  have c3 : w1.cell? ⟨w.heap.size, 3, none⟩ = some (.string ⟨([] : Tx).toArray⟩) := hS1.cell 3
  have c4 : w1.cell? ⟨w.heap.size, 4, none⟩ = some (.int .i64 0) := hS1.cell 4
  have c5 : w1.cell? ⟨w.heap.size, 5, none⟩ = some (.slice A n q) := hS1.cell 5
  clear hS1
  go_wp2_with fail
  refine (refuse_yes 2 _).mono ?_
  rintro e w' ⟨rfl, rfl⟩
  go_wp2_with fail
  refine (put_core p ty B v l.length xs _ _ _ _ _ _ _ _ (HR.out.below hbw).bl (HR.out.below hbw).own HR.out.lt (HR.out.below hbw).le hlen (asks_flag b _) (by decide) rfl).mono ?_
  rintro e w2 ⟨rfl, hP⟩
  obtain ⟨v2, xs2, hR2, hob2, hb2, hk2⟩ := hP.rw0 ((HR.out.avoid (X' := fun k => k = w.heap.size + 1) fun k hk => .inr (by omega)).below hbw) (t := .flag b) rfl (by simp [Tr.fit, Tr.nodes, Tr.bytes, Tr.depth])
  obtain ⟨⟨hc, hz⟩, hc2, hrx, hbp⟩ := fin_ok HR.out hbw (by omega) hsz hE1 hR2 hob2 hb2 hk2
  go_wp2
  refine leaves_cons (f := 32) (args := #[.pointer (some ⟨w.heap.size + 1, 0, none⟩)]) (by simp) (by simp [go_sem]) ?_
  refine (catch_idle ⟨w.heap.size + 1, 0, none⟩ _).mono ?_
  rintro e u' w'' ⟨rfl, rfl, rfl⟩
  simp [Leaves, settle, results, Try.results27, go_sem, hc2]
  exact ⟨hrx, hbp⟩
end Nd
end Go.Proofs.Ytfhfkggkbeahbaa
