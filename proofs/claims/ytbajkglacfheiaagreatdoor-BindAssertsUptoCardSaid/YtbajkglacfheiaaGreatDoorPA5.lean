/-
  Walks of package node: the steps that put a number, a text.
-/
import Derived.Test.YtbajkglacfheiaaGreatDoorPA2
import Derived.Test.YtbajkglacfheiaaGreatDoorPA4
set_option linter.unusedVariables false
set_option linter.unusedSimpArgs false
set_option maxRecDepth 100000
set_option maxHeartbeats 16000000
namespace Go.Proofs.YtbajkglacfheiaaGreatDoor
open Go.RowKit Mem
namespace Nd

def rightB (t : Tx) : Bool := Utf.isNil (Utf.chkV t)
theorem right_txD (t : Tx) (w : World) (hs : t.length ≤ 140737488355328) :
  Calls Tryz.prog 76 #[.string ⟨t.toArray⟩] w fun e w' => e = .returned (.bool (rightB t)) ∧ BelowD w.heap.size w w' := right_any ⟨t.toArray⟩ w hs
theorem right_tx (t : Tx) (w : World) (hs : t.length ≤ 140737488355328) :
  Calls Tryz.prog 76 #[.string ⟨t.toArray⟩] w fun e w' => e = .returned (.bool (rightB t)) ∧ Below w.heap.size w w' := (right_txD t w hs).mono fun _ _ h => ⟨h.1, h.2.toBelow⟩
theorem do_num_nan (b : Nat) (A : Option Addr) (n q : Nat) (p : Nat) (ty : TypeId) (B : Nat) (l : List Tr) (v : Value) (xs : List Value) (w : World) (hR : Rw p ty B (fun _ => False) l v xs w) (hus : usedB 3 false b [] 0 n = true) (hb : b < 18446744073709551616) (hlen : l.length ≤ 1048576) (hf : 9218868437227405312 < b % 9223372036854775808) :
  Calls Tryz.prog 32 #[.pointer (some ⟨p, 0, none⟩), .agg #[.int .i64 3, .bool false, .int .u64 (b : Int), .string ⟨([] : Tx).toArray⟩, .int .i64 0, .slice A n q]] w fun e w' => e = .returned (errN 104) ∧ RwX p ty B l w' ∧ Apart p B w w' := by
 have hmf : ∀ (fn : Fn) (first cap : Array Value) (w : World), (Instr.makeFunc fn first cap).run Tryz.prog w = .ok (.func fn first cap) w := fun _ _ _ _ => rfl
 have hfb := fromBits b
 have HNAN := Lib.hid (isnan_yes hf)
 clear hb hf
 have HR := Lib.hid hR
 clear hR
 go_enter_defers Tryz.func32, Tryz.ntmps32
 go_wp2_with fail
 refine (used_any 3 false b [] 0 A n q _).mono ?_
 rw [hus]
 rintro e w1 ⟨rfl, hb1⟩
 obtain ⟨hbw, hS1, hE1, hsz⟩ := head_blocks w _ hb1
 clear hb1
 have c0 : w1.cell? ⟨w.heap.size, 0, none⟩ = some (.int .i64 3) := hS1.cell 0
 have c1 : w1.cell? ⟨w.heap.size, 1, none⟩ = some (.bool false) := hS1.cell 1
 have c2 : w1.cell? ⟨w.heap.size, 2, none⟩ = some (.int .u64 (b : Int)) := hS1.cell 2
 have c3 : w1.cell? ⟨w.heap.size, 3, none⟩ = some (.string ⟨([] : Tx).toArray⟩) := hS1.cell 3
 have c4 : w1.cell? ⟨w.heap.size, 4, none⟩ = some (.int .i64 0) := hS1.cell 4
 have c5 : w1.cell? ⟨w.heap.size, 5, none⟩ = some (.slice A n q) := hS1.cell 5
 clear hS1
 go_wp2_with fail
 refine (refuse_yes 2 _).mono ?_
 rintro e w' ⟨rfl, rfl⟩
 go_wp2_with fail
 ((with_reducible refine (HNAN.out _).mono ?_); rintro e w' ⟨rfl, rfl⟩)
 go_wp2_with fail
 refine (refuse_no 104 _).mono ?_
 rintro e w' ⟨rfl, rfl⟩
 obtain ⟨⟨hc, hz⟩, hc2, hrx, hbp⟩ := fin_err 104 HR.out hbw (by omega) hsz hE1 (Below.refl _ _)
 go_wp2
 refine leaves_cons (f := 70) (args := #[.pointer (some ⟨w.heap.size + 1, 0, none⟩)]) (by simp) (by simp [go_sem]) ?_
 refine (catch_panicking ⟨w.heap.size + 1, 0, none⟩ _ 104 [] _ hc hz).mono ?_
 rintro e u' w'' ⟨rfl, rfl, rfl⟩
 unfold errN at hc2 hrx hbp ⊢
 simp [Leaves, settle, results, Tryz.results32, go_sem, hc2]
 exact ⟨hrx, hbp⟩
theorem do_num_inf (b : Nat) (A : Option Addr) (n q : Nat) (p : Nat) (ty : TypeId) (B : Nat) (l : List Tr) (v : Value) (xs : List Value) (w : World) (hR : Rw p ty B (fun _ => False) l v xs w) (hus : usedB 3 false b [] 0 n = true) (hb : b < 18446744073709551616) (hlen : l.length ≤ 1048576) (hf : b % 9223372036854775808 = 9218868437227405312) :
  Calls Tryz.prog 32 #[.pointer (some ⟨p, 0, none⟩), .agg #[.int .i64 3, .bool false, .int .u64 (b : Int), .string ⟨([] : Tx).toArray⟩, .int .i64 0, .slice A n q]] w fun e w' => e = .returned (errN 104) ∧ RwX p ty B l w' ∧ Apart p B w w' := by
 have hmf : ∀ (fn : Fn) (first cap : Array Value) (w : World), (Instr.makeFunc fn first cap).run Tryz.prog w = .ok (.func fn first cap) w := fun _ _ _ _ => rfl
 have hfb := fromBits b
 have HNAN := Lib.hid (isnan_not (b := b) (by omega))
 have HINF := Lib.hid (isinf_yes hb hf)
 clear hb hf
 have HR := Lib.hid hR
 clear hR
 go_enter_defers Tryz.func32, Tryz.ntmps32
 go_wp2_with fail
 refine (used_any 3 false b [] 0 A n q _).mono ?_
 rw [hus]
 rintro e w1 ⟨rfl, hb1⟩
 obtain ⟨hbw, hS1, hE1, hsz⟩ := head_blocks w _ hb1
 clear hb1
 have c0 : w1.cell? ⟨w.heap.size, 0, none⟩ = some (.int .i64 3) := hS1.cell 0
 have c1 : w1.cell? ⟨w.heap.size, 1, none⟩ = some (.bool false) := hS1.cell 1
 have c2 : w1.cell? ⟨w.heap.size, 2, none⟩ = some (.int .u64 (b : Int)) := hS1.cell 2
 have c3 : w1.cell? ⟨w.heap.size, 3, none⟩ = some (.string ⟨([] : Tx).toArray⟩) := hS1.cell 3
 have c4 : w1.cell? ⟨w.heap.size, 4, none⟩ = some (.int .i64 0) := hS1.cell 4
 have c5 : w1.cell? ⟨w.heap.size, 5, none⟩ = some (.slice A n q) := hS1.cell 5
 clear hS1
 go_wp2_with fail
 refine (refuse_yes 2 _).mono ?_
 rintro e w' ⟨rfl, rfl⟩
 go_wp2_with fail
 ((with_reducible refine (HNAN.out _).mono ?_); rintro e w' ⟨rfl, rfl⟩)
 go_wp2_with fail
 ((with_reducible refine (HINF.out _).mono ?_); rintro e w' ⟨rfl, rfl⟩)
 go_wp2_with fail
 refine (refuse_no 104 _).mono ?_
 rintro e w' ⟨rfl, rfl⟩
 obtain ⟨⟨hc, hz⟩, hc2, hrx, hbp⟩ := fin_err 104 HR.out hbw (by omega) hsz hE1 (Below.refl _ _)
 go_wp2
 refine leaves_cons (f := 70) (args := #[.pointer (some ⟨w.heap.size + 1, 0, none⟩)]) (by simp) (by simp [go_sem]) ?_
 refine (catch_panicking ⟨w.heap.size + 1, 0, none⟩ _ 104 [] _ hc hz).mono ?_
 rintro e u' w'' ⟨rfl, rfl, rfl⟩
 unfold errN at hc2 hrx hbp ⊢
 simp [Leaves, settle, results, Tryz.results32, go_sem, hc2]
 exact ⟨hrx, hbp⟩
theorem do_num_zero (b : Nat) (A : Option Addr) (n q : Nat) (p : Nat) (ty : TypeId) (B : Nat) (l : List Tr) (v : Value) (xs : List Value) (w : World) (hR : Rw p ty B (fun _ => False) l v xs w) (hus : usedB 3 false b [] 0 n = true) (hb : b < 18446744073709551616) (hlen : l.length ≤ 1048576) (hf : b % 9223372036854775808 < 9218868437227405312) (hz : b % 9223372036854775808 = 0) :
  Calls Tryz.prog 32 #[.pointer (some ⟨p, 0, none⟩), .agg #[.int .i64 3, .bool false, .int .u64 (b : Int), .string ⟨([] : Tx).toArray⟩, .int .i64 0, .slice A n q]] w fun e w' => e = .returned .nilIface ∧ RwX p ty B (l ++ [.num 0]) w' ∧ Apart p B w w' := by
 have hmf : ∀ (fn : Fn) (first cap : Array Value) (w : World), (Instr.makeFunc fn first cap).run Tryz.prog w = .ok (.func fn first cap) w := fun _ _ _ _ => rfl
 have hfb := fromBits b
 have HNAN := Lib.hid (isnan_not (b := b) (by omega))
 have HINF := Lib.hid (isinf_not hb hf)
 have hzz : (FloatKind.f64.format.order b 0 == some .eq) = true := (order_zero hf).trans (decide_eq_true hz)
 clear hb hf hz
 have HR := Lib.hid hR
 clear hR
 go_enter_defers Tryz.func32, Tryz.ntmps32
 go_wp2_with fail
 refine (used_any 3 false b [] 0 A n q _).mono ?_
 rw [hus]
 rintro e w1 ⟨rfl, hb1⟩
 obtain ⟨hbw, hS1, hE1, hsz⟩ := head_blocks w _ hb1
 clear hb1
 have c0 : w1.cell? ⟨w.heap.size, 0, none⟩ = some (.int .i64 3) := hS1.cell 0
 have c1 : w1.cell? ⟨w.heap.size, 1, none⟩ = some (.bool false) := hS1.cell 1
 have c2 : w1.cell? ⟨w.heap.size, 2, none⟩ = some (.int .u64 (b : Int)) := hS1.cell 2
 have c3 : w1.cell? ⟨w.heap.size, 3, none⟩ = some (.string ⟨([] : Tx).toArray⟩) := hS1.cell 3
 have c4 : w1.cell? ⟨w.heap.size, 4, none⟩ = some (.int .i64 0) := hS1.cell 4
 have c5 : w1.cell? ⟨w.heap.size, 5, none⟩ = some (.slice A n q) := hS1.cell 5
 clear hS1
 go_wp2_with fail
 refine (refuse_yes 2 _).mono ?_
 rintro e w' ⟨rfl, rfl⟩
 go_wp2_with fail
 ((with_reducible refine (HNAN.out _).mono ?_); rintro e w' ⟨rfl, rfl⟩)
 go_wp2_with fail
 ((with_reducible refine (HINF.out _).mono ?_); rintro e w' ⟨rfl, rfl⟩)
 go_wp2_with fail
 refine (refuse_yes 104 _).mono ?_
 rintro e w' ⟨rfl, rfl⟩
 go_wp2_with fail
 refine (put_core p ty B v l.length xs _ _ _ _ _ _ _ _ (HR.out.below hbw).bl (HR.out.below hbw).own HR.out.lt (HR.out.below hbw).le hlen (asks_num 0 _) (by decide) rfl).mono ?_
 rintro e w2 ⟨rfl, hP⟩
 obtain ⟨v2, xs2, hR2, hob2, hb2, hk2⟩ := hP.rw0 ((HR.out.avoid (X' := fun k => k = w.heap.size + 1) fun k hk => .inr (by omega)).below hbw) (t := .num 0) rfl (by simp [Tr.fit, Tr.nodes, Tr.bytes, Tr.depth])
 obtain ⟨⟨hc, hz⟩, hc2, hrx, hbp⟩ := fin_ok HR.out hbw (by omega) hsz hE1 hR2 hob2 hb2 hk2
 go_wp2
 refine leaves_cons (f := 70) (args := #[.pointer (some ⟨w.heap.size + 1, 0, none⟩)]) (by simp) (by simp [go_sem]) ?_
 refine (catch_idle ⟨w.heap.size + 1, 0, none⟩ _).mono ?_
 rintro e u' w'' ⟨rfl, rfl, rfl⟩
 simp [Leaves, settle, results, Tryz.results32, go_sem, hc2]
 exact ⟨hrx, hbp⟩
theorem do_num_some (b : Nat) (A : Option Addr) (n q : Nat) (p : Nat) (ty : TypeId) (B : Nat) (l : List Tr) (v : Value) (xs : List Value) (w : World) (hR : Rw p ty B (fun _ => False) l v xs w) (hus : usedB 3 false b [] 0 n = true) (hb : b < 18446744073709551616) (hlen : l.length ≤ 1048576) (hf : b % 9223372036854775808 < 9218868437227405312) (hz : ¬ b % 9223372036854775808 = 0) :
  Calls Tryz.prog 32 #[.pointer (some ⟨p, 0, none⟩), .agg #[.int .i64 3, .bool false, .int .u64 (b : Int), .string ⟨([] : Tx).toArray⟩, .int .i64 0, .slice A n q]] w fun e w' => e = .returned .nilIface ∧ RwX p ty B (l ++ [.num b]) w' ∧ Apart p B w w' := by
 have hmf : ∀ (fn : Fn) (first cap : Array Value) (w : World), (Instr.makeFunc fn first cap).run Tryz.prog w = .ok (.func fn first cap) w := fun _ _ _ _ => rfl
 have hfb := fromBits b
 have HNAN := Lib.hid (isnan_not (b := b) (by omega))
 have HINF := Lib.hid (isinf_not hb hf)
 have hzz : (FloatKind.f64.format.order b 0 == some .eq) = false := (order_zero hf).trans (decide_eq_false hz)
 clear hb hf hz
 have HR := Lib.hid hR
 clear hR
 go_enter_defers Tryz.func32, Tryz.ntmps32
 go_wp2_with fail
 refine (used_any 3 false b [] 0 A n q _).mono ?_
 rw [hus]
 rintro e w1 ⟨rfl, hb1⟩
 obtain ⟨hbw, hS1, hE1, hsz⟩ := head_blocks w _ hb1
 clear hb1
 have c0 : w1.cell? ⟨w.heap.size, 0, none⟩ = some (.int .i64 3) := hS1.cell 0
 have c1 : w1.cell? ⟨w.heap.size, 1, none⟩ = some (.bool false) := hS1.cell 1
 have c2 : w1.cell? ⟨w.heap.size, 2, none⟩ = some (.int .u64 (b : Int)) := hS1.cell 2
 have c3 : w1.cell? ⟨w.heap.size, 3, none⟩ = some (.string ⟨([] : Tx).toArray⟩) := hS1.cell 3
 have c4 : w1.cell? ⟨w.heap.size, 4, none⟩ = some (.int .i64 0) := hS1.cell 4
 have c5 : w1.cell? ⟨w.heap.size, 5, none⟩ = some (.slice A n q) := hS1.cell 5
 clear hS1
 go_wp2_with fail
 refine (refuse_yes 2 _).mono ?_
 rintro e w' ⟨rfl, rfl⟩
 go_wp2_with fail
 ((with_reducible refine (HNAN.out _).mono ?_); rintro e w' ⟨rfl, rfl⟩)
 go_wp2_with fail
 ((with_reducible refine (HINF.out _).mono ?_); rintro e w' ⟨rfl, rfl⟩)
 go_wp2_with fail
 refine (refuse_yes 104 _).mono ?_
 rintro e w' ⟨rfl, rfl⟩
 go_wp2_with fail
 refine (put_core p ty B v l.length xs _ _ _ _ _ _ _ _ (HR.out.below hbw).bl (HR.out.below hbw).own HR.out.lt (HR.out.below hbw).le hlen (asks_num b _) (by decide) rfl).mono ?_
 rintro e w2 ⟨rfl, hP⟩
 obtain ⟨v2, xs2, hR2, hob2, hb2, hk2⟩ := hP.rw0 ((HR.out.avoid (X' := fun k => k = w.heap.size + 1) fun k hk => .inr (by omega)).below hbw) (t := .num b) rfl (by simp [Tr.fit, Tr.nodes, Tr.bytes, Tr.depth])
 obtain ⟨⟨hc, hz⟩, hc2, hrx, hbp⟩ := fin_ok HR.out hbw (by omega) hsz hE1 hR2 hob2 hb2 hk2
 go_wp2
 refine leaves_cons (f := 70) (args := #[.pointer (some ⟨w.heap.size + 1, 0, none⟩)]) (by simp) (by simp [go_sem]) ?_
 refine (catch_idle ⟨w.heap.size + 1, 0, none⟩ _).mono ?_
 rintro e u' w'' ⟨rfl, rfl, rfl⟩
 simp [Leaves, settle, results, Tryz.results32, go_sem, hc2]
 exact ⟨hrx, hbp⟩
theorem do_text_bad (t : Tx) (A : Option Addr) (n q : Nat) (p : Nat) (ty : TypeId) (B : Nat) (l : List Tr) (v : Value) (xs : List Value) (w : World) (hR : Rw p ty B (fun _ => False) l v xs w) (hus : usedB 4 false 0 t 0 n = true) (ht : t.length ≤ 1099511627776) (hlen : l.length ≤ 1048576) (hr : rightB t = false) :
  Calls Tryz.prog 32 #[.pointer (some ⟨p, 0, none⟩), .agg #[.int .i64 4, .bool false, .int .u64 0, .string ⟨t.toArray⟩, .int .i64 0, .slice A n q]] w fun e w' => e = .returned (errN 100) ∧ RwX p ty B l w' ∧ Apart p B w w' := by
 have hmf : ∀ (fn : Fn) (first cap : Array Value) (w : World), (Instr.makeFunc fn first cap).run Tryz.prog w = .ok (.func fn first cap) w := fun _ _ _ _ => rfl
 have HR := Lib.hid hR
 clear hR
 go_enter_defers Tryz.func32, Tryz.ntmps32
 go_wp2_with fail
 refine (used_any 4 false 0 t 0 A n q _).mono ?_
 rw [hus]
 rintro e w1 ⟨rfl, hb1⟩
 obtain ⟨hbw, hS1, hE1, hsz⟩ := head_blocks w _ hb1
 clear hb1
 have c0 : w1.cell? ⟨w.heap.size, 0, none⟩ = some (.int .i64 4) := hS1.cell 0
 have c1 : w1.cell? ⟨w.heap.size, 1, none⟩ = some (.bool false) := hS1.cell 1
 have c2 : w1.cell? ⟨w.heap.size, 2, none⟩ = some (.int .u64 0) := hS1.cell 2
 have c3 : w1.cell? ⟨w.heap.size, 3, none⟩ = some (.string ⟨t.toArray⟩) := hS1.cell 3
 have c4 : w1.cell? ⟨w.heap.size, 4, none⟩ = some (.int .i64 0) := hS1.cell 4
 have c5 : w1.cell? ⟨w.heap.size, 5, none⟩ = some (.slice A n q) := hS1.cell 5
 clear hS1
 go_wp2_with fail
 refine (refuse_yes 2 _).mono ?_
 rintro e w' ⟨rfl, rfl⟩
 go_wp2_with fail
 refine (right_tx t _ (by omega)).mono ?_
 rw [hr]
 rintro e w3 ⟨rfl, hb3⟩
 have hs3 := hb3.size
 have c0' : w3.cell? ⟨w.heap.size, 0, none⟩ = some (.int .i64 4) := ((old hb3).1 _ _ (by omega)).trans c0
 have c3' : w3.cell? ⟨w.heap.size, 3, none⟩ = some (.string ⟨t.toArray⟩) := ((old hb3).1 _ _ (by omega)).trans c3
 have hbw3 := below_chain hbw (by omega) hb3
 have hE3 := hE1.below hb3 hsz
 have hsz3 : w.heap.size + 1 < w3.heap.size := by omega
 clear c0 c1 c2 c3 c4 c5 hb3
 go_wp2_with fail
 refine (refuse_no 100 _).mono ?_
 rintro e w' ⟨rfl, rfl⟩
 obtain ⟨⟨hc, hz⟩, hc2, hrx, hbp⟩ := fin_err 100 HR.out hbw3 (by omega) hsz3 hE3 (Below.refl _ _)
 go_wp2
 refine leaves_cons (f := 70) (args := #[.pointer (some ⟨w.heap.size + 1, 0, none⟩)]) (by simp) (by simp [go_sem]) ?_
 refine (catch_panicking ⟨w.heap.size + 1, 0, none⟩ _ 100 [] _ hc hz).mono ?_
 rintro e u' w'' ⟨rfl, rfl, rfl⟩
 unfold errN at hc2 hrx hbp ⊢
 simp [Leaves, settle, results, Tryz.results32, go_sem, hc2]
 exact ⟨hrx, hbp⟩
theorem do_text_long (t : Tx) (A : Option Addr) (n q : Nat) (p : Nat) (ty : TypeId) (B : Nat) (l : List Tr) (v : Value) (xs : List Value) (w : World) (hR : Rw p ty B (fun _ => False) l v xs w) (hus : usedB 4 false 0 t 0 n = true) (ht : t.length ≤ 1099511627776) (hlen : l.length ≤ 1048576) (hr : rightB t = true) (hl : ¬ t.length ≤ 2097152) :
  Calls Tryz.prog 32 #[.pointer (some ⟨p, 0, none⟩), .agg #[.int .i64 4, .bool false, .int .u64 0, .string ⟨t.toArray⟩, .int .i64 0, .slice A n q]] w fun e w' => e = .returned (errN 3) ∧ RwX p ty B l w' ∧ Apart p B w w' := by
 have hmf : ∀ (fn : Fn) (first cap : Array Value) (w : World), (Instr.makeFunc fn first cap).run Tryz.prog w = .ok (.func fn first cap) w := fun _ _ _ _ => rfl
 have HR := Lib.hid hR
 clear hR
 go_enter_defers Tryz.func32, Tryz.ntmps32
 go_wp2_with fail
 refine (used_any 4 false 0 t 0 A n q _).mono ?_
 rw [hus]
 rintro e w1 ⟨rfl, hb1⟩
 obtain ⟨hbw, hS1, hE1, hsz⟩ := head_blocks w _ hb1
 clear hb1
 have c0 : w1.cell? ⟨w.heap.size, 0, none⟩ = some (.int .i64 4) := hS1.cell 0
 have c1 : w1.cell? ⟨w.heap.size, 1, none⟩ = some (.bool false) := hS1.cell 1
 have c2 : w1.cell? ⟨w.heap.size, 2, none⟩ = some (.int .u64 0) := hS1.cell 2
 have c3 : w1.cell? ⟨w.heap.size, 3, none⟩ = some (.string ⟨t.toArray⟩) := hS1.cell 3
 have c4 : w1.cell? ⟨w.heap.size, 4, none⟩ = some (.int .i64 0) := hS1.cell 4
 have c5 : w1.cell? ⟨w.heap.size, 5, none⟩ = some (.slice A n q) := hS1.cell 5
 clear hS1
 go_wp2_with fail
 refine (refuse_yes 2 _).mono ?_
 rintro e w' ⟨rfl, rfl⟩
 go_wp2_with fail
 refine (right_tx t _ (by omega)).mono ?_
 rw [hr]
 rintro e w3 ⟨rfl, hb3⟩
 have hs3 := hb3.size
 have c0' : w3.cell? ⟨w.heap.size, 0, none⟩ = some (.int .i64 4) := ((old hb3).1 _ _ (by omega)).trans c0
 have c3' : w3.cell? ⟨w.heap.size, 3, none⟩ = some (.string ⟨t.toArray⟩) := ((old hb3).1 _ _ (by omega)).trans c3
 have hbw3 := below_chain hbw (by omega) hb3
 have hE3 := hE1.below hb3 hsz
 have hsz3 : w.heap.size + 1 < w3.heap.size := by omega
 clear c0 c1 c2 c3 c4 c5 hb3
 go_wp2_with fail
 refine (refuse_yes 100 _).mono ?_
 rintro e w' ⟨rfl, rfl⟩
 go_wp2_with fail
 refine (put_long _ _ _ _ _ _ _ _ _ (asks_text t _) (by simp [withinB]; omega)).mono ?_
 rintro e w2 ⟨rfl, hb2⟩
 obtain ⟨⟨hc, hz⟩, hc2, hrx, hbp⟩ := fin_err 3 HR.out hbw3 (by omega) hsz3 hE3 hb2
 go_wp2
 refine leaves_cons (f := 70) (args := #[.pointer (some ⟨w.heap.size + 1, 0, none⟩)]) (by simp) (by simp [go_sem]) ?_
 refine (catch_panicking ⟨w.heap.size + 1, 0, none⟩ _ 3 [] _ hc hz).mono ?_
 rintro e u' w'' ⟨rfl, rfl, rfl⟩
 unfold errN at hc2 hrx hbp ⊢
 simp [Leaves, settle, results, Tryz.results32, go_sem, hc2]
 exact ⟨hrx, hbp⟩
theorem do_text_ok (t : Tx) (A : Option Addr) (n q : Nat) (p : Nat) (ty : TypeId) (B : Nat) (l : List Tr) (v : Value) (xs : List Value) (w : World) (hR : Rw p ty B (fun _ => False) l v xs w) (hus : usedB 4 false 0 t 0 n = true) (ht : t.length ≤ 1099511627776) (hlen : l.length ≤ 1048576) (hr : rightB t = true) (hl : t.length ≤ 2097152) :
  Calls Tryz.prog 32 #[.pointer (some ⟨p, 0, none⟩), .agg #[.int .i64 4, .bool false, .int .u64 0, .string ⟨t.toArray⟩, .int .i64 0, .slice A n q]] w fun e w' => e = .returned .nilIface ∧ RwX p ty B (l ++ [.text t]) w' ∧ Apart p B w w' := by
 have hmf : ∀ (fn : Fn) (first cap : Array Value) (w : World), (Instr.makeFunc fn first cap).run Tryz.prog w = .ok (.func fn first cap) w := fun _ _ _ _ => rfl
 have HR := Lib.hid hR
 clear hR
 go_enter_defers Tryz.func32, Tryz.ntmps32
 go_wp2_with fail
 refine (used_any 4 false 0 t 0 A n q _).mono ?_
 rw [hus]
 rintro e w1 ⟨rfl, hb1⟩
 obtain ⟨hbw, hS1, hE1, hsz⟩ := head_blocks w _ hb1
 clear hb1
 have c0 : w1.cell? ⟨w.heap.size, 0, none⟩ = some (.int .i64 4) := hS1.cell 0
 have c1 : w1.cell? ⟨w.heap.size, 1, none⟩ = some (.bool false) := hS1.cell 1
 have c2 : w1.cell? ⟨w.heap.size, 2, none⟩ = some (.int .u64 0) := hS1.cell 2
 have c3 : w1.cell? ⟨w.heap.size, 3, none⟩ = some (.string ⟨t.toArray⟩) := hS1.cell 3
 have c4 : w1.cell? ⟨w.heap.size, 4, none⟩ = some (.int .i64 0) := hS1.cell 4
 have c5 : w1.cell? ⟨w.heap.size, 5, none⟩ = some (.slice A n q) := hS1.cell 5
 clear hS1
 go_wp2_with fail
 refine (refuse_yes 2 _).mono ?_
 rintro e w' ⟨rfl, rfl⟩
 go_wp2_with fail
 refine (right_tx t _ (by omega)).mono ?_
 rw [hr]
 rintro e w3 ⟨rfl, hb3⟩
 have hs3 := hb3.size
 have c0' : w3.cell? ⟨w.heap.size, 0, none⟩ = some (.int .i64 4) := ((old hb3).1 _ _ (by omega)).trans c0
 have c3' : w3.cell? ⟨w.heap.size, 3, none⟩ = some (.string ⟨t.toArray⟩) := ((old hb3).1 _ _ (by omega)).trans c3
 have hbw3 := below_chain hbw (by omega) hb3
 have hE3 := hE1.below hb3 hsz
 have hsz3 : w.heap.size + 1 < w3.heap.size := by omega
 clear c0 c1 c2 c3 c4 c5 hb3
 go_wp2_with fail
 refine (refuse_yes 100 _).mono ?_
 rintro e w' ⟨rfl, rfl⟩
 go_wp2_with fail
 refine (put_core p ty B v l.length xs _ _ _ _ _ _ _ _ (HR.out.below hbw3).bl (HR.out.below hbw3).own HR.out.lt (HR.out.below hbw3).le hlen (asks_text t _) (by simp [withinB]; omega) rfl).mono ?_
 rintro e w2 ⟨rfl, hP⟩
 obtain ⟨v2, xs2, hR2, hob2, hb2, hk2⟩ := hP.rw0 ((HR.out.avoid (X' := fun k => k = w.heap.size + 1) fun k hk => .inr (by omega)).below hbw3) (t := .text t) rfl (by simp [Tr.fit, Tr.nodes, Tr.bytes, Tr.depth, hl])
 obtain ⟨⟨hc, hz⟩, hc2, hrx, hbp⟩ := fin_ok HR.out hbw3 (by omega) hsz3 hE3 hR2 hob2 hb2 hk2
 go_wp2
 refine leaves_cons (f := 70) (args := #[.pointer (some ⟨w.heap.size + 1, 0, none⟩)]) (by simp) (by simp [go_sem]) ?_
 refine (catch_idle ⟨w.heap.size + 1, 0, none⟩ _).mono ?_
 rintro e u' w'' ⟨rfl, rfl, rfl⟩
 simp [Leaves, settle, results, Tryz.results32, go_sem, hc2]
 exact ⟨hrx, hbp⟩
end Nd
end Go.Proofs.YtbajkglacfheiaaGreatDoor
