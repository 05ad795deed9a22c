/-
  Walks of package ask, by the class of what is told: the four forms in which it is asked. Walks of package ask: forms, caught. Walks of package ask: the closure of hear. Walks of package ask: hear, wrong.
-/
import Derived.Test.YtlailcmhpnnidaaGreatDoorX18
import Derived.Test.YtlailcmhpnnidaaGreatDoorX20
import Derived.Test.YtlailcmhpnnidaaGreatDoorX1
import Derived.Test.YtlailcmhpnnidaaGreatDoorX19
import Derived.Defers
import Derived.Recover
import Derived.Laws.EntriesVeiled
import Derived.Deep.RegionHeldLaw
import Derived.IntWalk
set_option linter.unusedVariables false
set_option linter.unusedSimpArgs false
set_option maxRecDepth 100000
set_option maxHeartbeats 16000000
namespace Go.Proofs.YtlailcmhpnnidaaGreatDoor
open Go.RowKit Mem
namespace Nd
def IsK (k : Nat) (v : Value) : Prop :=
 (k = 0 ∧ v = .nilIface) ∨ (k = 1 ∧ v = .iface 103 (.agg #[])) ∨ (k = 2 ∧ ∃ x, v = .iface 104 x) ∨ (k = 3 ∧ ∃ x, v = .iface 106 x) ∨ (k = 4 ∧ ∃ x, v = .iface 108 x) ∨ (k = 5 ∧ ∃ x, v = .iface 109 x) ∨ (k = 6 ∧ ∃ x, v = .iface 112 x) ∨ (k = 7 ∧ ∃ a, v = .iface 53 (.pointer (some a))) ∨ (k = 8 ∧ v = .iface 53 (.pointer none))
theorem isK_le {k : Nat} {v : Value} (h : IsK k v) : k ≤ 8 := by
 rcases h with ⟨h, _⟩ | ⟨h, _⟩ | ⟨h, _⟩ | ⟨h, _⟩ | ⟨h, _⟩ | ⟨h, _⟩ | ⟨h, _⟩ | ⟨h, _⟩ | ⟨h, _⟩ <;> omega
theorem hold_78 {n : Nat} (hn : 1 ≤ n ∧ n ≤ 11) : holdB 8 n = holdB 7 n := by
 rcases wants hn with rfl | rfl | rfl | rfl | rfl | rfl | rfl | rfl | rfl | rfl | rfl <;> rfl
def srtK (k : Nat) : Nat := if k ≤ 6 then k else 0
theorem two_k {k n : Nat} {v : Value} (h : IsK k v) (hn : 1 ≤ n ∧ n ≤ 11) (w : World) : Calls Tryz.prog 30 #[v, .int .i64 (n : Nat)] w (BoolR (holdB k n) w) := by
 rcases h with ⟨rfl, rfl⟩ | ⟨rfl, rfl⟩ | ⟨rfl, x, rfl⟩ | ⟨rfl, x, rfl⟩ | ⟨rfl, x, rfl⟩ | ⟨rfl, x, rfl⟩ | ⟨rfl, x, rfl⟩ | ⟨rfl, x, rfl⟩ | ⟨rfl, rfl⟩
 ·exact two_0 n hn w
 ·exact two_1 _ n hn w
 ·exact two_2 _ n hn w
 ·exact two_3 _ n hn w
 ·exact two_4 _ n hn w
 ·exact two_5 _ n hn w
 ·exact two_6 _ n hn w
 ·exact two_7 _ n hn w
 ·rw [hold_78 hn]; exact two_7 _ n hn w
theorem sw_k {k n : Nat} {v : Value} (h : IsK k v) (hn : 1 ≤ n ∧ n ≤ 11) (w : World) : Calls Tryz.prog 169 #[v, .int .i64 (n : Nat)] w (BoolR (holdB k n) w) := by
 rcases h with ⟨rfl, rfl⟩ | ⟨rfl, rfl⟩ | ⟨rfl, x, rfl⟩ | ⟨rfl, x, rfl⟩ | ⟨rfl, x, rfl⟩ | ⟨rfl, x, rfl⟩ | ⟨rfl, x, rfl⟩ | ⟨rfl, x, rfl⟩ | ⟨rfl, rfl⟩
 ·exact sw_0 n hn w
 ·exact sw_1 _ n hn w
 ·exact sw_2 _ n hn w
 ·exact sw_3 _ n hn w
 ·exact sw_4 _ n hn w
 ·exact sw_5 _ n hn w
 ·exact sw_6 _ n hn w
 ·exact sw_7 _ n hn w
 ·rw [hold_78 hn]; exact sw_7 _ n hn w
theorem one_k_yes {k n : Nat} {v : Value} (h : IsK k v) (hn : 1 ≤ n ∧ n ≤ 11) (hh : holdB k n = true) (w : World) : Calls Tryz.prog 168 #[v, .int .i64 (n : Nat)] w (ValR v w) := by
 rcases h with ⟨rfl, rfl⟩ | ⟨rfl, rfl⟩ | ⟨rfl, x, rfl⟩ | ⟨rfl, x, rfl⟩ | ⟨rfl, x, rfl⟩ | ⟨rfl, x, rfl⟩ | ⟨rfl, x, rfl⟩ | ⟨rfl, x, rfl⟩ | ⟨rfl, rfl⟩
 ·exact absurd hh (by simp [holdB])
 ·exact one_yes_1 _ n hn hh w
 ·exact one_yes_2 _ n hn hh w
 ·exact one_yes_3 _ n hn hh w
 ·exact one_yes_4 _ n hn hh w
 ·exact one_yes_5 _ n hn hh w
 ·exact one_yes_6 _ n hn hh w
 ·exact one_yes_7 _ n hn hh w
 ·rw [hold_78 hn] at hh; exact one_yes_7 _ n hn hh w
theorem one_k_no {k n : Nat} {v : Value} (h : IsK k v) (hn : 1 ≤ n ∧ n ≤ 11) (hh : holdB k n = false) (w : World) : Calls Tryz.prog 168 #[v, .int .i64 (n : Nat)] w (PanR w) := by
 rcases h with ⟨rfl, rfl⟩ | ⟨rfl, rfl⟩ | ⟨rfl, x, rfl⟩ | ⟨rfl, x, rfl⟩ | ⟨rfl, x, rfl⟩ | ⟨rfl, x, rfl⟩ | ⟨rfl, x, rfl⟩ | ⟨rfl, x, rfl⟩ | ⟨rfl, rfl⟩
 ·exact one_no_0 n hn hh w
 ·exact one_no_1 _ n hn hh w
 ·exact one_no_2 _ n hn hh w
 ·exact one_no_3 _ n hn hh w
 ·exact one_no_4 _ n hn hh w
 ·exact one_no_5 _ n hn hh w
 ·exact one_no_6 _ n hn hh w
 ·exact one_no_7 _ n hn hh w
 ·rw [hold_78 hn] at hh; exact one_no_7 _ n hn hh w
def SortF (k : Nat) (v : Value) : Prop := ∃ T u f, v = .iface T u ∧ (∀ W, (method (449 + 1) T u "Sort").run Tryz.prog W = .ok (f, u) W) ∧ (∀ args W, (callFunc f args).run Tryz.prog W = .ok (.enter f args) W) ∧ ∀ W, Calls Tryz.prog f #[u] W (IntP (srtK k : Nat) W)
theorem sort_k {k : Nat} {v : Value} (h : IsK k v) (hk : k ≠ 0) : SortF k v := by
 rcases h with ⟨rfl, rfl⟩ | ⟨rfl, rfl⟩ | ⟨rfl, x, rfl⟩ | ⟨rfl, x, rfl⟩ | ⟨rfl, x, rfl⟩ | ⟨rfl, x, rfl⟩ | ⟨rfl, x, rfl⟩ | ⟨rfl, x, rfl⟩ | ⟨rfl, rfl⟩
 ·exact absurd rfl hk
 ·exact ⟨_, _, _, rfl, fun W => mt_null _ _ W, mc_null, fun W => mf_null W⟩
 ·exact ⟨_, _, _, rfl, fun W => mt_flag _ _ W, mc_flag, fun W => mf_flag _ W⟩
 ·exact ⟨_, _, _, rfl, fun W => mt_num _ _ W, mc_num, fun W => mf_num _ W⟩
 ·exact ⟨_, _, _, rfl, fun W => mt_text _ _ W, mc_text, fun W => mf_text _ W⟩
 ·exact ⟨_, _, _, rfl, fun W => mt_list _ _ W, mc_list, fun W => mf_list _ W⟩
 ·exact ⟨_, _, _, rfl, fun W => mt_obj _ _ W, mc_obj, fun W => mf_obj _ W⟩
 ·exact ⟨_, _, _, rfl, fun W => mt_lost _ _ W, mc_lost, fun W => mf_lost _ W⟩
 ·exact ⟨_, _, _, rfl, fun W => mt_lost _ _ W, mc_lost, fun W => mf_lost _ W⟩
theorem lost_k {k : Nat} {v : Value} (h : IsK k v) (hk : k ≠ 0) : ∃ p, (k = 7 ↔ p ≠ none) ∧ ∀ W, (Instr.typeAssert v 35 53 true).run Tryz.prog W = .ok (.tuple #[.pointer p, .bool (decide (7 ≤ k))]) W := by
 rcases h with ⟨rfl, rfl⟩ | ⟨rfl, rfl⟩ | ⟨rfl, x, rfl⟩ | ⟨rfl, x, rfl⟩ | ⟨rfl, x, rfl⟩ | ⟨rfl, x, rfl⟩ | ⟨rfl, x, rfl⟩ | ⟨rfl, x, rfl⟩ | ⟨rfl, rfl⟩
 ·exact absurd rfl hk
 ·exact ⟨_, by simp, fun W => ml_null _ W⟩
 ·exact ⟨_, by simp, fun W => ml_flag _ W⟩
 ·exact ⟨_, by simp, fun W => ml_num _ W⟩
 ·exact ⟨_, by simp, fun W => ml_text _ W⟩
 ·exact ⟨_, by simp, fun W => ml_list _ W⟩
 ·exact ⟨_, by simp, fun W => ml_obj _ W⟩
 ·exact ⟨_, by simp, fun W => ml_lost _ W⟩
 ·exact ⟨_, by simp, fun W => ml_lost _ W⟩
theorem val_ne_nil (T : TypeId) (v : Value) (w : World) : (binOp .neq 35 (.iface T v) .nilIface).run Tryz.prog w = .ok (.bool true) w := by kernel_rfl
def BoolB (b : Bool) (w : World) (e : Ending) (w' : World) : Prop := e = .returned (.bool b) ∧ Below w.heap.size w w'
theorem f1_yes {k n : Nat} {v : Value} (h : IsK k v) (hn : 1 ≤ n ∧ n ≤ 11) (hh : holdB k n = true) (w : World) : Calls Tryz.prog 167 #[v, .int .i64 (n : Nat)] w (BoolB true w) := by
 have hk : k ≠ 0 := by rintro rfl; simp [holdB] at hh
 have H := one_k_yes h hn hh w
 obtain ⟨T, u, f, rfl, _⟩ := sort_k h hk
 have q1 := val_ne_nil T u
 have H := Lib.hid H
 clear h hn hh hk
 go_enter Tryz.func167, Tryz.ntmps167
 go_wp2_with fail
 ((with_reducible refine H.out.mono ?_); rintro e w1 ⟨rfl, rfl⟩)
 go_wp2
 go_ret
 exact ⟨rfl, Below.refl _ _⟩
theorem f1_no {k n : Nat} {v : Value} (h : IsK k v) (hn : 1 ≤ n ∧ n ≤ 11) (hh : holdB k n = false) (w : World) : Calls Tryz.prog 167 #[v, .int .i64 (n : Nat)] w (PanR w) := by
 have H := Lib.hid (one_k_no h hn hh w)
 clear h hn hh
 go_enter Tryz.func167, Tryz.ntmps167
 go_wp2_with fail
 ((with_reducible refine H.out.mono ?_); rintro e w1 ⟨pv, rfl, hb⟩)
 go_wp2
 exact ⟨rfl, pv, rfl, hb⟩
theorem f2_yes {k n : Nat} {v : Value} (h : IsK k v) (hn : 1 ≤ n ∧ n ≤ 11) (hh : holdB k n = true) (w : World) : Calls Tryz.prog 170 #[v, .int .i64 (n : Nat)] w (BoolB true w) := by
 have hk : k ≠ 0 := by rintro rfl; simp [holdB] at hh
 have H := one_k_yes h hn hh w
 obtain ⟨T, u, f, rfl, m1, m2, m3⟩ := sort_k h hk
 have H := Lib.hid H
 have HM := Lib.hid m3
 have hge : ((srtK k : Nat) : Int) ≥ 0 := Int.natCast_nonneg _
 generalize ((srtK k : Nat) : Int) = s at *
 clear h hn hh hk m3
 go_enter Tryz.func170, Tryz.ntmps170
 go_wp2_with fail
 ((with_reducible refine H.out.mono ?_); rintro e w1 ⟨rfl, rfl⟩)
 go_wp2_with fail
 ((with_reducible refine (HM.out _).mono ?_); rintro e w1 ⟨rfl, hb⟩)
 go_wp2
 go_ret
 exact ⟨rfl, hb⟩
theorem f2_no {k n : Nat} {v : Value} (h : IsK k v) (hn : 1 ≤ n ∧ n ≤ 11) (hh : holdB k n = false) (w : World) : Calls Tryz.prog 170 #[v, .int .i64 (n : Nat)] w (PanR w) := by
 have H := Lib.hid (one_k_no h hn hh w)
 clear h hn hh
 go_enter Tryz.func170, Tryz.ntmps170
 go_wp2_with fail
 ((with_reducible refine H.out.mono ?_); rintro e w1 ⟨pv, rfl, hb⟩)
 go_wp2
 exact ⟨rfl, pv, rfl, hb⟩
def formF : Nat → FuncId
 | 0 => 30
 | 1 => 167
 | 2 => 169
 | _ => 170
theorem form_yes {k n i : Nat} {v : Value} (h : IsK k v) (hn : 1 ≤ n ∧ n ≤ 11) (hi : i < 4) (hh : holdB k n = true) (w : World) : Calls Tryz.prog (formF i) #[v, .int .i64 (n : Nat)] w (BoolB true w) := by
 have e : i = 0 ∨ i = 1 ∨ i = 2 ∨ i = 3 := by omega
 rcases e with rfl | rfl | rfl | rfl
 ·exact (two_k h hn w).mono fun e w' hr => by obtain ⟨rfl, rfl⟩ := hr; rw [hh]; exact ⟨rfl, Below.refl _ _⟩
 ·exact f1_yes h hn hh w
 ·exact (sw_k h hn w).mono fun e w' hr => by obtain ⟨rfl, rfl⟩ := hr; rw [hh]; exact ⟨rfl, Below.refl _ _⟩
 ·exact f2_yes h hn hh w
theorem form_not {k n i : Nat} {v : Value} (h : IsK k v) (hn : 1 ≤ n ∧ n ≤ 11) (hi : i = 0 ∨ i = 2) (hh : holdB k n = false) (w : World) : Calls Tryz.prog (formF i) #[v, .int .i64 (n : Nat)] w (BoolB false w) := by
 rcases hi with rfl | rfl
 ·exact (two_k h hn w).mono fun e w' hr => by obtain ⟨rfl, rfl⟩ := hr; rw [hh]; exact ⟨rfl, Below.refl _ _⟩
 ·exact (sw_k h hn w).mono fun e w' hr => by obtain ⟨rfl, rfl⟩ := hr; rw [hh]; exact ⟨rfl, Below.refl _ _⟩
theorem form_pan {k n i : Nat} {v : Value} (h : IsK k v) (hn : 1 ≤ n ∧ n ≤ 11) (hi : i = 1 ∨ i = 3) (hh : holdB k n = false) (w : World) : Calls Tryz.prog (formF i) #[v, .int .i64 (n : Nat)] w (PanR w) := by
 rcases hi with rfl | rfl
 ·exact f1_no h hn hh w
 ·exact f2_no h hn hh w
theorem en_0 (args : Array Value) (w : World) : (callFunc 30 args).run Tryz.prog w = .ok (.enter 30 args) w := by kernel_rfl
theorem en_1 (args : Array Value) (w : World) : (callFunc 167 args).run Tryz.prog w = .ok (.enter 167 args) w := by kernel_rfl
theorem en_2 (args : Array Value) (w : World) : (callFunc 169 args).run Tryz.prog w = .ok (.enter 169 args) w := by kernel_rfl
theorem en_3 (args : Array Value) (w : World) : (callFunc 170 args).run Tryz.prog w = .ok (.enter 170 args) w := by kernel_rfl
theorem form_enter {i : Nat} (hi : i < 4) (args : Array Value) (w : World) : (callFunc (formF i) args).run Tryz.prog w = .ok (.enter (formF i) args) w := by
 have e : i = 0 ∨ i = 1 ∨ i = 2 ∨ i = 3 := by omega
 rcases e with rfl | rfl | rfl | rfl
 ·exact en_0 args w
 ·exact en_1 args w
 ·exact en_2 args w
 ·exact en_3 args w
end Nd
end Go.Proofs.YtlailcmhpnnidaaGreatDoor
namespace Go.Proofs.YtlailcmhpnnidaaGreatDoor
open Go.RowKit Mem
namespace Nd
def formsA : Array Value := #[.func (.func 30) #[] #[], .func (.func 167) #[] #[], .func (.func 169) #[] #[], .func (.func 170) #[] #[]]
theorem forms_at {i : Nat} (hi : i < 4) : formsA[i]? = some (.func (.func (formF i)) #[] #[]) := by
 have e : i = 0 ∨ i = 1 ∨ i = 2 ∨ i = 3 := by omega
 rcases e with rfl | rfl | rfl | rfl <;> rfl
theorem forms_any (w : World) : Calls Tryz.prog 148 #[] w fun e w' => e = .returned (.slice (some ⟨w.heap.size, 0, none⟩) 4 4) ∧ Blk w' w.heap.size 91 formsA ∧ Below w.heap.size w w' := by
 go_enter Tryz.func148, Tryz.ntmps148
 go_wp2
 go_ret
 exact ⟨rfl, Blk.new _ _ _, (Below.refl _ _).alloc (Nat.le_refl _) _⟩
theorem rec_ne (v : Value) (W : World) : (binOp .neq 20 (.iface 15 v) .nilIface).run Tryz.prog W = .ok (.bool true) W := by kernel_rfl
theorem rec_nil (W : World) : (binOp .neq 20 .nilIface .nilIface).run Tryz.prog W = .ok (.bool false) W := by kernel_rfl
theorem cgt_pan (g : Nat) (x pv : Value) (older : List PanicEntry) (w : World) (hc : w.cell? ⟨g, 0, none⟩ = some x) (hz : w.frozen? ⟨g, 0, none⟩ = false) :
  CallsD Tryz.prog 166 #[.pointer (some ⟨g, 0, none⟩)] (.panicking ({ v := .iface 15 pv, recovered := false } :: older)) w fun e u' w' =>
   e = .returned (.tuple #[]) ∧ u' = .panicking ({ v := .iface 15 pv, recovered := true } :: older) ∧ w' = w.setCell ⟨g, 0, none⟩ (.bool true) := by
 have hne := rec_ne pv
 refine callsD_of_wpS Tryz.func166 rfl fun c₀ cs hu => ?_
 apply wpS_region
 simp [wpOpsS, go_sem, recoverD, hu, Tryz.ntmps166, Exit.thenS, hne, hc, hz, bodyPostS, results, Tryz.results166]
theorem cgt_idle (g : Nat) (x : Value) (w : World) (hc : w.cell? ⟨g, 0, none⟩ = some x) (hz : w.frozen? ⟨g, 0, none⟩ = false) :
  CallsD Tryz.prog 166 #[.pointer (some ⟨g, 0, none⟩)] .returning w fun e u' w' => e = .returned (.tuple #[]) ∧ u' = .returning ∧ w' = w.setCell ⟨g, 0, none⟩ (.bool false) := by
 have hne := rec_nil
 refine callsD_of_wpS Tryz.func166 rfl fun c₀ cs hu => ?_
 apply wpS_region
 simp [wpOpsS, go_sem, recoverD, hu, Tryz.ntmps166, Exit.thenS, hne, hc, hz, bodyPostS, results, Tryz.results166]
 cases c₀
 simp_all
theorem enter_hear1 (args : Array Value) (W : World) : (callFunc 147 args).run Tryz.prog W = .ok (.enter 147 args) W := by kernel_rfl
abbrev caughtW (w : World) : World := w.alloc (.cells #[.bool false] 4)
theorem caught_ret (cap : Array Value) (c3 : Nat) (B : Array Value) (w : World) (hc3 : c3 < w.heap.size)
  (hJ : Calls Tryz.prog 147 cap (w.alloc (.cells #[.bool false] 4)) fun e w' => e = .returned (.tuple #[]) ∧ (caughtW w).grownBy w' (some c3) ∧ Blk w' c3 99 B) :
  Calls Tryz.prog 146 #[.func (.func 147) #[] cap] w fun e w' => e = .returned (.bool false) ∧ w.grownBy w' (some c3) ∧ Blk w' c3 99 B := by
 have hmf : ∀ (fn : Fn) (first cap : Array Value) (w : World), (Instr.makeFunc fn first cap).run Tryz.prog w = .ok (.func fn first cap) w := fun _ _ _ _ => rfl
 have hcf := enter_hear1
 have HJ := Lib.hid hJ
 have HC := Lib.hid hc3
 clear hJ hc3
 go_enter_defers Tryz.func146, Tryz.ntmps146
 go_wp2_with fail
 (refine HJ.out.mono ?_; rintro e w1 ⟨rfl, hg, hB⟩)
 have hP : Blk w1 w.heap.size 4 #[.bool false] := (Blk.new w _ _).only hg (by have := HC.out; intro h; injection h with h; omega)
 have hgw : w.grownBy w1 (some c3) := grown_trans (World.grownBy_alloc w _ _) hg
 have cP := hP.cell 0
 have fP := hP.frozen 0
 have hB2 := hB.far (p := ⟨w.heap.size, 0, none⟩) (by have := HC.out; show c3 ≠ w.heap.size; omega) (.bool false)
 have hg2 := grown_new hgw (p := ⟨w.heap.size, 0, none⟩) (Nat.le_refl _) (.bool false)
 have hP2 := hP.put 0 (.bool false)
 have HB2 := Lib.hid hB2
 have HG2 := Lib.hid hg2
 have HP2 := Lib.hid hP2
 clear hB hg hP hgw hB2 hg2 hP2
 go_wp2
 refine leaves_cons (f := 166) (args := #[.pointer (some ⟨w.heap.size, 0, none⟩)]) (by simp) (by simp [go_sem]) ?_
 refine (cgt_idle w.heap.size _ _ (HP2.out.cell 0) (HP2.out.frozen 0)).mono ?_
 rintro e u' w'' ⟨rfl, rfl, rfl⟩
 have c3' := (HP2.out.put 0 (.bool false)).cell 0
 have hB3 := HB2.out.far (p := ⟨w.heap.size, 0, none⟩) (by have := HC.out; show c3 ≠ w.heap.size; omega) (.bool false)
 have hg3 := grown_new HG2.out (p := ⟨w.heap.size, 0, none⟩) (Nat.le_refl _) (.bool false)
 simp at c3'
 simp [Leaves, settle, results, Tryz.results146, go_sem, c3']
 exact ⟨hg3, hB3⟩
theorem caught_pan (cap : Array Value) (c3 : Nat) (B : Array Value) (w : World) (hc3 : c3 < w.heap.size)
  (hJ : Calls Tryz.prog 147 cap (w.alloc (.cells #[.bool false] 4)) fun e w' => ∃ pv, e = .panicked [{ v := .iface 15 pv, recovered := false }] ∧ (caughtW w).grownBy w' (some c3) ∧ Blk w' c3 99 B) :
  Calls Tryz.prog 146 #[.func (.func 147) #[] cap] w fun e w' => e = .returned (.bool true) ∧ w.grownBy w' (some c3) ∧ Blk w' c3 99 B := by
 have hmf : ∀ (fn : Fn) (first cap : Array Value) (w : World), (Instr.makeFunc fn first cap).run Tryz.prog w = .ok (.func fn first cap) w := fun _ _ _ _ => rfl
 have hcf := enter_hear1
 have HJ := Lib.hid hJ
 have HC := Lib.hid hc3
 clear hJ hc3
 go_enter_defers Tryz.func146, Tryz.ntmps146
 go_wp2_with fail
 (refine HJ.out.mono ?_; rintro e w1 ⟨pv, rfl, hg, hB⟩)
 have hP : Blk w1 w.heap.size 4 #[.bool false] := (Blk.new w _ _).only hg (by have := HC.out; intro h; injection h with h; omega)
 have hgw : w.grownBy w1 (some c3) := grown_trans (World.grownBy_alloc w _ _) hg
 refine leaves_cons (f := 166) (args := #[.pointer (some ⟨w.heap.size, 0, none⟩)]) (by simp) (by simp [go_sem]) ?_
 refine (cgt_pan w.heap.size _ pv [] _ (hP.cell 0) (hP.frozen 0)).mono ?_
 rintro e u' w'' ⟨rfl, rfl, rfl⟩
 have c3' := (hP.put 0 (.bool true)).cell 0
 have hB3 := hB.far (p := ⟨w.heap.size, 0, none⟩) (by have := HC.out; show c3 ≠ w.heap.size; omega) (.bool true)
 have hg3 := grown_new hgw (p := ⟨w.heap.size, 0, none⟩) (Nat.le_refl _) (.bool true)
 simp at c3'
 simp [Leaves, settle, results, Tryz.results146, go_sem, c3']
 exact ⟨hg3, hB3⟩
end Nd
end Go.Proofs.YtlailcmhpnnidaaGreatDoor
namespace Go.Proofs.YtlailcmhpnnidaaGreatDoor
open Go.RowKit Mem
namespace Nd
def HrK (W : World) (c3 : Nat) (b : Bool) (s : Int) (d : Bool) (w : World) : Prop := (∃ x, Blk w c3 99 #[x, .bool b, .int .i64 s, .bool d]) ∧ W.grownBy w (some c3)
theorem hrk_below {W w w' : World} {c3 : Nat} {b : Bool} {s : Int} {d : Bool} (h : HrK W c3 b s d w) (hb : Below w.heap.size w w') : HrK W c3 b s d w' :=
 ⟨let ⟨x, hB⟩ := h.1; ⟨x, hB.below hb hB.lt⟩, grown_below h.2 hb⟩
theorem held_hr {c0 c1 c2 : Nat} {x0 x1 x2 : Value} {W w w' : World} {c3 : Nat} {b : Bool} {s : Int} {d : Bool} (h : w.cell? ⟨c0, 0, none⟩ = some x0 ∧ w.cell? ⟨c1, 0, none⟩ = some x1 ∧ w.cell? ⟨c2, 0, none⟩ = some x2 ∧ HrK W c3 b s d w) (hb : Below w.heap.size w w') : w'.cell? ⟨c0, 0, none⟩ = some x0 ∧ w'.cell? ⟨c1, 0, none⟩ = some x1 ∧ w'.cell? ⟨c2, 0, none⟩ = some x2 ∧ HrK W c3 b s d w' := by
 have g : ∀ {k : Nat} {y : Value}, w.cell? ⟨k, 0, none⟩ = some y → w'.cell? ⟨k, 0, none⟩ = some y := fun h => ((old hb).1 _ _ (World.block_lt_of_cell? _ _ h)).trans h
 exact ⟨g h.1, g h.2.1, g h.2.2.1, hrk_below h.2.2.2 hb⟩
theorem put_hr {c0 c1 c2 : Nat} {x0 x1 x2 : Value} {W w : World} {c3 : Nat} {b : Bool} {s : Int} {d : Bool} (h : w.cell? ⟨c0, 0, none⟩ = some x0 ∧ w.cell? ⟨c1, 0, none⟩ = some x1 ∧ w.cell? ⟨c2, 0, none⟩ = some x2 ∧ HrK W c3 b s d w) (hc : c0 < c3 ∧ c1 < c3 ∧ c2 < c3) (r : Bool) : (w.setCell ⟨c3, 0, none⟩ (.bool r)).cell? ⟨c0, 0, none⟩ = some x0 ∧ (w.setCell ⟨c3, 0, none⟩ (.bool r)).cell? ⟨c1, 0, none⟩ = some x1 ∧ (w.setCell ⟨c3, 0, none⟩ (.bool r)).cell? ⟨c2, 0, none⟩ = some x2 ∧ HrK W c3 b s d (w.setCell ⟨c3, 0, none⟩ (.bool r)) := by
 have g : ∀ {k : Nat} {y : Value}, k < c3 → w.cell? ⟨k, 0, none⟩ = some y → (w.setCell ⟨c3, 0, none⟩ (.bool r)).cell? ⟨k, 0, none⟩ = some y := fun hk h => by
  rw [World.cell?_setCell_other _ _ _ _ (fun e => by injection e with e; omega)]
  exact h
 refine ⟨g hc.1 h.1, g hc.2.1 h.2.1, g hc.2.2 h.2.2.1, ?_, grown_put h.2.2.2.2 0 _⟩
 obtain ⟨x, hB⟩ := h.2.2.2.1
 exact ⟨_, hB.put 0 (.bool r)⟩
theorem hear1_ret {k n i : Nat} {v : Value} (f : Int) (c0 c1 c2 c3 : Nat) (a b : Bool) (s : Int) (d : Bool) (r : Bool) (W : World) (h : IsK k v) (hn : 1 ≤ n ∧ n ≤ 11) (hi : i < 4) (hf : IntKind.i64.wrap (f - 1) = (i : Int)) (hform : ∀ w, Calls Tryz.prog (formF i) #[v, .int .i64 (n : Nat)] w (BoolB r w)) (hc : c0 < c3 ∧ c1 < c3 ∧ c2 < c3)
  (f0 : W.cell? ⟨c0, 0, none⟩ = some (.int .i64 f)) (f1 : W.cell? ⟨c1, 0, none⟩ = some v) (f2 : W.cell? ⟨c2, 0, none⟩ = some (.int .i64 (n : Nat))) (hB : Blk W c3 99 #[.bool a, .bool b, .int .i64 s, .bool d]) :
  Calls Tryz.prog 147 #[.pointer (some ⟨c0, 0, none⟩), .pointer (some ⟨c1, 0, none⟩), .pointer (some ⟨c2, 0, none⟩), .pointer (some ⟨c3, 0, none⟩)] W fun e w' => e = .returned (.tuple #[]) ∧ W.grownBy w' (some c3) ∧ Blk w' c3 99 #[.bool r, .bool b, .int .i64 s, .bool d] := by
 have HK : HrK W c3 b s d W.drew := ⟨⟨_, hB.drew⟩, grown_drew (grown_refl _ _)⟩
 have hcf := fun args W => form_enter (i := i) hi args W
 obtain ⟨FF, hFF⟩ : ∃ FF, formF i = FF := ⟨_, rfl⟩
 rw [hFF] at hcf
 have HFF := Lib.hid hFF
 have g0 : (0 : Int) ≤ (i : Int) := Int.natCast_nonneg _
 have g1 : (i : Int) < 4 := by omega
 have HI := Lib.hid hi
 have HC := Lib.hid hc
 have HB := Lib.hid hB
 have HF := Lib.hid (hFF ▸ hform)
 clear h hn hi hc hB hFF hform
 go_enter Tryz.func147, Tryz.ntmps147
 refine wp_region_held_drew (S := (fun w' => w'.cell? ⟨c0, 0, none⟩ = some (.int .i64 f) ∧ w'.cell? ⟨c1, 0, none⟩ = some v ∧ w'.cell? ⟨c2, 0, none⟩ = some (.int .i64 (n : Nat)) ∧ HrK W c3 b s d w')) (by kernel_rfl) ⟨f0, f1, f2, HK⟩ (fun hHeld => ?_)
 refine held_take (i := 1) (v := ?_) (some 5) rfl rfl (by kernel_rfl) (by kernel_rfl) (by kernel_rfl) (fun _ _ _ h => h) (Or.inl ⟨by rfl, ?_⟩) hHeld ?_
 rotate_left
 ·intro w hSw
  try dsimp only at hSw
  go_simp
  try with_reducible rfl
 simp only [Act.put, List.setIfInBounds_toArray, List.set_cons_zero, List.set_cons_succ]
 refine held_take (i := 2) (v := ?_) (some 6) rfl rfl (by kernel_rfl) (by kernel_rfl) (by kernel_rfl) (fun _ _ _ h => h) (Or.inl ⟨by rfl, ?_⟩) hHeld ?_
 rotate_left
 ·intro w hSw
  try dsimp only at hSw
  go_simp
  try with_reducible rfl
 simp only [Act.put, List.setIfInBounds_toArray, List.set_cons_zero, List.set_cons_succ]
 refine held_take (i := 5) (v := ?_) (some 9) rfl rfl (by kernel_rfl) (by kernel_rfl) (by kernel_rfl) (fun _ _ _ h => h) (Or.inl ⟨by rfl, ?_⟩) hHeld ?_
 rotate_left
 ·intro w hSw
  try dsimp only at hSw
  go_simp
  try with_reducible rfl
 simp only [Act.put, List.setIfInBounds_toArray, List.set_cons_zero, List.set_cons_succ]
 refine held_take (i := 6) (v := ?_) (some 10) rfl rfl (by kernel_rfl) (by kernel_rfl) (by kernel_rfl) (fun _ _ _ h => h) (Or.inl ⟨by rfl, ?_⟩) hHeld ?_
 rotate_left
 ·intro w hSw
  try dsimp only at hSw
  go_simp
  try with_reducible rfl
 simp only [Act.put, List.setIfInBounds_toArray, List.set_cons_zero, List.set_cons_succ]
 refine wpAnyH_ready (rs := [0]) (by kernel_rfl) (by simp) ?_
 refine AllReadyH.cons rfl (fun K hK => ?_) AllReadyH.nil
 go_simp
 ((with_reducible refine (forms_any _).mono ?_); rintro e w2 ⟨rfl, hBf, hb2⟩; dsimp only)
 have hcf0 : w2.cell? ⟨W.heap.size, i, none⟩ = some (.func (.func FF) #[] #[]) := by
  have := hBf.cell i
  rw [forms_at HI.out, HFF.out] at this
  exact this
 clear hBf
 replace hHeld := held_hr hHeld hb2
 refine hK.out _ _ hHeld (fun _ => ?_)
 clear hK K
 refine wpAnyH_ready (rs := [3]) (by kernel_rfl) (by simp) ?_
 refine AllReadyH.cons rfl (fun K hK => ?_) AllReadyH.nil
 go_simp
 replace hHeld := hHeld
 refine hK.out _ _ hHeld (fun _ => ?_)
 clear hK K
 refine wpAnyH_ready (rs := [4]) (by kernel_rfl) (by simp) ?_
 refine AllReadyH.cons rfl (fun K hK => ?_) AllReadyH.nil
 go_simp
 replace hHeld := hHeld
 refine hK.out _ _ hHeld (fun _ => ?_)
 clear hK K
 refine wpAnyH_ready (rs := [7]) (by kernel_rfl) (by simp) ?_
 refine AllReadyH.cons rfl (fun K hK => ?_) AllReadyH.nil
 go_simp
 ((with_reducible refine (HF.out _).mono ?_); rintro e w3 ⟨rfl, hb3⟩; dsimp only)
 replace hHeld := held_hr hHeld hb3
 refine hK.out _ _ hHeld (fun _ => ?_)
 clear hK K
 refine wpAnyH_ready (rs := [8]) (by kernel_rfl) (by simp) ?_
 refine AllReadyH.cons rfl (fun K hK => ?_) AllReadyH.nil
 go_simp
 replace hHeld := hHeld
 refine hK.out _ _ hHeld (fun _ => ?_)
 clear hK K
 refine wpAnyH_ready (rs := [9]) (by kernel_rfl) (by simp) ?_
 refine AllReadyH.cons rfl (fun K hK => ?_) AllReadyH.nil
 obtain ⟨⟨x9, hB9⟩, hg9⟩ := hHeld.2.2.2
 have HEND := Lib.hid (And.intro (grown_put hg9 0 (.bool r)) (hB9.put 0 (.bool r)))
 have cB9 := hB9.cell 0
 have fB9 := hB9.frozen 0
 simp at cB9
 go_simp
 replace hHeld := put_hr hHeld HC.out r
 refine hK.out _ _ hHeld (fun _ => ?_)
 clear hK K
 refine wpAnyH_done (by kernel_rfl) ?_ _
 clear hHeld
 go_wp2
 go_end0
 exact ⟨rfl, HEND.out.1, HEND.out.2⟩
theorem hear1_pan {k n i : Nat} {v : Value} (f : Int) (c0 c1 c2 c3 : Nat) (a b : Bool) (s : Int) (d : Bool) (W : World) (h : IsK k v) (hn : 1 ≤ n ∧ n ≤ 11) (hi : i < 4) (hf : IntKind.i64.wrap (f - 1) = (i : Int)) (hform : ∀ w, Calls Tryz.prog (formF i) #[v, .int .i64 (n : Nat)] w (PanR w)) (hc : c0 < c3 ∧ c1 < c3 ∧ c2 < c3)
  (f0 : W.cell? ⟨c0, 0, none⟩ = some (.int .i64 f)) (f1 : W.cell? ⟨c1, 0, none⟩ = some v) (f2 : W.cell? ⟨c2, 0, none⟩ = some (.int .i64 (n : Nat))) (hB : Blk W c3 99 #[.bool a, .bool b, .int .i64 s, .bool d]) :
  Calls Tryz.prog 147 #[.pointer (some ⟨c0, 0, none⟩), .pointer (some ⟨c1, 0, none⟩), .pointer (some ⟨c2, 0, none⟩), .pointer (some ⟨c3, 0, none⟩)] W fun e w' => ∃ pv, e = .panicked [{ v := .iface 15 pv, recovered := false }] ∧ W.grownBy w' (some c3) ∧ Blk w' c3 99 #[.bool a, .bool b, .int .i64 s, .bool d] := by
 have HK : HrK W c3 b s d W.drew := ⟨⟨_, hB.drew⟩, grown_drew (grown_refl _ _)⟩
 have hcf := fun args W => form_enter (i := i) hi args W
 obtain ⟨FF, hFF⟩ : ∃ FF, formF i = FF := ⟨_, rfl⟩
 rw [hFF] at hcf
 have HFF := Lib.hid hFF
 have g0 : (0 : Int) ≤ (i : Int) := Int.natCast_nonneg _
 have g1 : (i : Int) < 4 := by omega
 have HI := Lib.hid hi
 have HC := Lib.hid hc
 have HB := Lib.hid hB
 have HF := Lib.hid (hFF ▸ hform)
 clear h hn hi hc hB hFF hform
 go_enter Tryz.func147, Tryz.ntmps147
 refine wp_region_held_drew (S := (fun w' => w'.cell? ⟨c0, 0, none⟩ = some (.int .i64 f) ∧ w'.cell? ⟨c1, 0, none⟩ = some v ∧ w'.cell? ⟨c2, 0, none⟩ = some (.int .i64 (n : Nat)) ∧ HrK W c3 b s d w')) (by kernel_rfl) ⟨f0, f1, f2, HK⟩ (fun hHeld => ?_)
 refine held_take (i := 1) (v := ?_) (some 5) rfl rfl (by kernel_rfl) (by kernel_rfl) (by kernel_rfl) (fun _ _ _ h => h) (Or.inl ⟨by rfl, ?_⟩) hHeld ?_
 rotate_left
 ·intro w hSw
  try dsimp only at hSw
  go_simp
  try with_reducible rfl
 simp only [Act.put, List.setIfInBounds_toArray, List.set_cons_zero, List.set_cons_succ]
 refine held_take (i := 2) (v := ?_) (some 6) rfl rfl (by kernel_rfl) (by kernel_rfl) (by kernel_rfl) (fun _ _ _ h => h) (Or.inl ⟨by rfl, ?_⟩) hHeld ?_
 rotate_left
 ·intro w hSw
  try dsimp only at hSw
  go_simp
  try with_reducible rfl
 simp only [Act.put, List.setIfInBounds_toArray, List.set_cons_zero, List.set_cons_succ]
 refine held_take (i := 5) (v := ?_) (some 9) rfl rfl (by kernel_rfl) (by kernel_rfl) (by kernel_rfl) (fun _ _ _ h => h) (Or.inl ⟨by rfl, ?_⟩) hHeld ?_
 rotate_left
 ·intro w hSw
  try dsimp only at hSw
  go_simp
  try with_reducible rfl
 simp only [Act.put, List.setIfInBounds_toArray, List.set_cons_zero, List.set_cons_succ]
 refine held_take (i := 6) (v := ?_) (some 10) rfl rfl (by kernel_rfl) (by kernel_rfl) (by kernel_rfl) (fun _ _ _ h => h) (Or.inl ⟨by rfl, ?_⟩) hHeld ?_
 rotate_left
 ·intro w hSw
  try dsimp only at hSw
  go_simp
  try with_reducible rfl
 simp only [Act.put, List.setIfInBounds_toArray, List.set_cons_zero, List.set_cons_succ]
 refine wpAnyH_ready (rs := [0]) (by kernel_rfl) (by simp) ?_
 refine AllReadyH.cons rfl (fun K hK => ?_) AllReadyH.nil
 go_simp
 ((with_reducible refine (forms_any _).mono ?_); rintro e w2 ⟨rfl, hBf, hb2⟩; dsimp only)
 have hcf0 : w2.cell? ⟨W.heap.size, i, none⟩ = some (.func (.func FF) #[] #[]) := by
  have := hBf.cell i
  rw [forms_at HI.out, HFF.out] at this
  exact this
 clear hBf
 replace hHeld := held_hr hHeld hb2
 refine hK.out _ _ hHeld (fun _ => ?_)
 clear hK K
 refine wpAnyH_ready (rs := [3]) (by kernel_rfl) (by simp) ?_
 refine AllReadyH.cons rfl (fun K hK => ?_) AllReadyH.nil
 go_simp
 replace hHeld := hHeld
 refine hK.out _ _ hHeld (fun _ => ?_)
 clear hK K
 refine wpAnyH_ready (rs := [4]) (by kernel_rfl) (by simp) ?_
 refine AllReadyH.cons rfl (fun K hK => ?_) AllReadyH.nil
 go_simp
 replace hHeld := hHeld
 refine hK.out _ _ hHeld (fun _ => ?_)
 clear hK K
 refine wpAnyH_ready (rs := [7]) (by kernel_rfl) (by simp) ?_
 refine AllReadyH.cons rfl (fun K hK => ?_) AllReadyH.nil
 go_simp
 ((with_reducible refine (HF.out _).mono ?_); rintro e w3 ⟨pv, rfl, hb3⟩; dsimp only)
 have hbW := ((drewN_below W 1).trans hb2).trans (hb3.mono hb2.size)
 exact ⟨rfl, ⟨pv, rfl⟩, grown_of_below hbW _, HB.out.below hbW HB.out.lt⟩
end Nd
end Go.Proofs.YtlailcmhpnnidaaGreatDoor
namespace Go.Proofs.YtlailcmhpnnidaaGreatDoor
open Go.RowKit Mem
namespace Nd
abbrev hearW (w : World) (v : Value) (n : Nat) (f : Int) : World := ((((w.alloc (.cells #[v] 35)).alloc (.cells #[.int .i64 (n : Nat)] 3)).alloc (.cells #[.int .i64 f] 3)).alloc (.cells #[.bool false, .bool false, .int .i64 0, .bool false] 99)).alloc (.cells #[.bool false, .bool false, .int .i64 0, .bool false] 99)
def HearB (w : World) (v : Value) (r : Bool) (w' : World) : Prop := Below w.heap.size w w' ∧ Blk w' (w.heap.size + 4) 99 #[.bool r, .bool false, .int .i64 0, .bool false] ∧ Blk w' w.heap.size 35 #[v] ∧ Blk w' (w.heap.size + 3) 99 #[.bool false, .bool false, .int .i64 0, .bool false]
theorem hearW_facts (w : World) (v : Value) (n : Nat) (f : Int) : Below w.heap.size w (hearW w v n f) ∧ (hearW w v n f).heap.size = w.heap.size + 5 ∧ Blk (hearW w v n f) w.heap.size 35 #[v] ∧ Blk (hearW w v n f) (w.heap.size + 1) 3 #[.int .i64 (n : Nat)] ∧ Blk (hearW w v n f) (w.heap.size + 2) 3 #[.int .i64 f] ∧ Blk (hearW w v n f) (w.heap.size + 3) 99 #[.bool false, .bool false, .int .i64 0, .bool false] ∧ Blk (hearW w v n f) (w.heap.size + 4) 99 #[.bool false, .bool false, .int .i64 0, .bool false] := by
 have b0 := Blk.new w 35 #[v]
 have b1 := Blk.new (w.alloc (.cells #[v] 35)) 3 #[.int .i64 (n : Nat)]
 have b2 := Blk.new ((w.alloc (.cells #[v] 35)).alloc (.cells #[.int .i64 (n : Nat)] 3)) 3 #[.int .i64 f]
 have b3 := Blk.new (((w.alloc (.cells #[v] 35)).alloc (.cells #[.int .i64 (n : Nat)] 3)).alloc (.cells #[.int .i64 f] 3)) 99 #[.bool false, .bool false, .int .i64 0, .bool false]
 have b4 := Blk.new ((((w.alloc (.cells #[v] 35)).alloc (.cells #[.int .i64 (n : Nat)] 3)).alloc (.cells #[.int .i64 f] 3)).alloc (.cells #[.bool false, .bool false, .int .i64 0, .bool false] 99)) 99 #[.bool false, .bool false, .int .i64 0, .bool false]
 simp only [World.size_alloc] at b1 b2 b3 b4
 refine ⟨?_, by simp [hearW, World.size_alloc], (((b0.alloc _).alloc _).alloc _).alloc _, ((b1.alloc _).alloc _).alloc _, (b2.alloc _).alloc _, b3.alloc _, b4⟩
 exact (((((Below.refl _ _).alloc (Nat.le_refl _) _).alloc (by simp [World.size_alloc]) _).alloc (by simp [World.size_alloc]; omega) _).alloc (by simp [World.size_alloc]; omega) _).alloc (by simp [World.size_alloc]; omega) _
theorem hearB_of {w : World} {v : Value} {n : Nat} {f : Int} {r : Bool} {w' : World} (hg : (hearW w v n f).grownBy w' (some (w.heap.size + 4))) (hB : Blk w' (w.heap.size + 4) 99 #[.bool r, .bool false, .int .i64 0, .bool false]) : HearB w v r w' := by
 obtain ⟨h0, hs, b0, b1, b2, b3, b4⟩ := hearW_facts w v n f
 exact ⟨h0.trans (below_of_grown hg (by omega) (by omega)), hB, b0.only hg (by intro e; injection e with e; omega), b3.only hg (by intro e; injection e with e; omega)⟩
theorem hearc_ret {k n i : Nat} {v : Value} (r : Bool) (w : World) (h : IsK k v) (hn : 1 ≤ n ∧ n ≤ 11) (hi : i < 4) (f : Int) (hw : IntKind.i64.wrap (f - 1) = (i : Int)) (hform : ∀ w, Calls Tryz.prog (formF i) #[v, .int .i64 (n : Nat)] w (BoolB r w)) :
  Calls Tryz.prog 146 #[.func (.func 147) #[] #[.pointer (some ⟨w.heap.size + 2, 0, none⟩), .pointer (some ⟨w.heap.size, 0, none⟩), .pointer (some ⟨w.heap.size + 1, 0, none⟩), .pointer (some ⟨w.heap.size + 4, 0, none⟩)]] (hearW w v n f) fun e w' => e = .returned (.bool false) ∧ HearB w v r w' := by
 obtain ⟨h0, hs, b0, b1, b2, b3, b4⟩ := hearW_facts w v n f
 refine (caught_ret _ (w.heap.size + 4) _ (hearW w v n f) (by rw [hs]; omega) (hear1_ret f _ _ _ _ false false 0 false r _ h hn hi hw hform (by omega) ((b2.alloc _).cell 0) ((b0.alloc _).cell 0) ((b1.alloc _).cell 0) (b4.alloc _))).mono ?_
 rintro e w' ⟨rfl, hg, hB⟩
 exact ⟨rfl, hearB_of hg hB⟩
theorem hearc_pan {k n i : Nat} {v : Value} (w : World) (h : IsK k v) (hn : 1 ≤ n ∧ n ≤ 11) (hi : i < 4) (f : Int) (hw : IntKind.i64.wrap (f - 1) = (i : Int)) (hform : ∀ w, Calls Tryz.prog (formF i) #[v, .int .i64 (n : Nat)] w (PanR w)) :
  Calls Tryz.prog 146 #[.func (.func 147) #[] #[.pointer (some ⟨w.heap.size + 2, 0, none⟩), .pointer (some ⟨w.heap.size, 0, none⟩), .pointer (some ⟨w.heap.size + 1, 0, none⟩), .pointer (some ⟨w.heap.size + 4, 0, none⟩)]] (hearW w v n f) fun e w' => e = .returned (.bool true) ∧ HearB w v false w' := by
 obtain ⟨h0, hs, b0, b1, b2, b3, b4⟩ := hearW_facts w v n f
 refine (caught_pan _ (w.heap.size + 4) _ (hearW w v n f) (by rw [hs]; omega) (hear1_pan f _ _ _ _ false false 0 false _ h hn hi hw hform (by omega) ((b2.alloc _).cell 0) ((b0.alloc _).cell 0) ((b1.alloc _).cell 0) (b4.alloc _))).mono ?_
 rintro e w' ⟨rfl, hg, hB⟩
 exact ⟨rfl, hearB_of hg hB⟩
theorem lost_eql (p : Option Addr) (W : World) : (binOp .eql 53 (.pointer p) (.pointer none)).run Tryz.prog W = .ok (.bool (decide (p = none))) W := by
 cases p with
 | none => kernel_rfl
 | some p => kernel_rfl
theorem hear_walk_no (q : Bool) (n : Nat) (f : Int) (v : Value) (w : World) (hv : v = .nilIface ∨ ∃ T u, v = .iface T u)
  (HJ : Hid (Calls Tryz.prog 146 #[.func (.func 147) #[] #[.pointer (some ⟨w.heap.size + 1 + 1, 0, none⟩), .pointer (some ⟨w.heap.size, 0, none⟩), .pointer (some ⟨w.heap.size + 1, 0, none⟩), .pointer (some ⟨w.heap.size + 1 + 1 + 1 + 1, 0, none⟩)]] (hearW w v n f) fun e w' => e = .returned (.bool q) ∧ HearB w v false w')) :
  Calls Tryz.prog 120 #[v, .int .i64 (n : Nat), .int .i64 f] w fun e w' => e = .returned (.agg #[.bool false, .bool q, .int .i64 0, .bool false]) ∧ Below w.heap.size w w' := by
 have hmf : ∀ (fn : Fn) (first cap : Array Value) (w : World), (Instr.makeFunc fn first cap).run Tryz.prog w = .ok (.func fn first cap) w := fun _ _ _ _ => rfl
 rcases hv with rfl | ⟨T, u, rfl⟩
 all_goals
  go_enter Tryz.func120, Tryz.ntmps120
  go_wp2_with fail
  (refine HJ.out.mono ?_; rintro e w1 ⟨rfl, hb1, hB4, hB0, hB3⟩)
  have hB4' := hB4.put 1 (.bool q)
  have hB3' := hB3.far (p := ⟨w.heap.size + 4, 1, none⟩) (by show w.heap.size + 3 ≠ w.heap.size + 4; omega) (.bool q)
  have hb1' := hb1.setCell (p := ⟨w.heap.size + 4, 1, none⟩) (by show w.heap.size ≤ w.heap.size + 4; omega) (.bool q)
  have c40 := hB4.cell 0
  have c41 := hB4.cell 1
  have c42 := hB4.cell 2
  have c43 := hB4.cell 3
  have f41 := hB4.frozen 1
  have HB3 := Lib.hid hB3'
  have HB1 := Lib.hid hb1'
  simp at c40 c41 c42 c43
  have d0 := hB3.cell 0
  have d1 := hB3.cell 1
  have d2 := hB3.cell 2
  have d3 := hB3.cell 3
  have g0 := hB3.frozen 0
  have g1 := hB3.frozen 1
  have g2 := hB3.frozen 2
  have g3 := hB3.frozen 3
  simp at d0 d1 d2 d3
  have hlt := hB4.lt
  clear hB4 hB0 hB3 hb1 hB4' hB3' hb1' HJ
  go_wp2
  refine bodyPost_ret (v := .agg #[.bool false, .bool q, .int .i64 0, .bool false]) ?_ rfl ⟨rfl, ?_⟩
  ·simp [results, Tryz.results120, go_sem, d0, d1, d2, d3]
  ·exact (((HB1.out.setCell (by show w.heap.size ≤ w.heap.size + 3; omega) _).setCell (by show w.heap.size ≤ w.heap.size + 3; omega) _).setCell (by show w.heap.size ≤ w.heap.size + 3; omega) _).setCell (by show w.heap.size ≤ w.heap.size + 3; omega) _
theorem hear_walk_yes (s : Int) (b7 : Bool) (p : Option Addr) (n : Nat) (f : Int) (T : TypeId) (u : Value) (F : FuncId) (w : World)
  (HJ : Hid (Calls Tryz.prog 146 #[.func (.func 147) #[] #[.pointer (some ⟨w.heap.size + 1 + 1, 0, none⟩), .pointer (some ⟨w.heap.size, 0, none⟩), .pointer (some ⟨w.heap.size + 1, 0, none⟩), .pointer (some ⟨w.heap.size + 1 + 1 + 1 + 1, 0, none⟩)]] (hearW w (.iface T u) n f) fun e w' => e = .returned (.bool false) ∧ HearB w (.iface T u) true w'))
  (m1 : ∀ W, (method (449 + 1) T u "Sort").run Tryz.prog W = .ok (F, u) W) (m2 : ∀ args W, (callFunc F args).run Tryz.prog W = .ok (.enter F args) W) (m3 : ∀ W, Calls Tryz.prog F #[u] W (IntP s W))
  (ha : ∀ W, (Instr.typeAssert (.iface T u) 35 53 true).run Tryz.prog W = .ok (.tuple #[.pointer p, .bool b7]) W) :
  Calls Tryz.prog 120 #[.iface T u, .int .i64 (n : Nat), .int .i64 f] w fun e w' => e = .returned (.agg #[.bool true, .bool false, .int .i64 s, .bool (b7 && decide (p = none))]) ∧ Below w.heap.size w w' := by
 have hmf : ∀ (fn : Fn) (first cap : Array Value) (w : World), (Instr.makeFunc fn first cap).run Tryz.prog w = .ok (.func fn first cap) w := fun _ _ _ _ => rfl
 have hle := lost_eql p
 have HM := Lib.hid m3
 clear m3
 generalize decide (p = none) = dn at *
 go_enter Tryz.func120, Tryz.ntmps120
 go_wp2_with fail
 (refine HJ.out.mono ?_; rintro e w1 ⟨rfl, hb1, hB4, hB0, hB3⟩)
 have hs1 := hB4.lt
 have hB4' := hB4.put 1 (.bool false)
 have hB0' := hB0.far (p := ⟨w.heap.size + 4, 1, none⟩) (by show w.heap.size ≠ w.heap.size + 4; omega) (.bool false)
 have hB3' := hB3.far (p := ⟨w.heap.size + 4, 1, none⟩) (by show w.heap.size + 3 ≠ w.heap.size + 4; omega) (.bool false)
 have hb1' := hb1.setCell (p := ⟨w.heap.size + 4, 1, none⟩) (by show w.heap.size ≤ w.heap.size + 4; omega) (.bool false)
 have c40 := hB4.cell 0
 have c41 := hB4.cell 1
 have f41 := hB4.frozen 1
 have c0 := hB0.cell 0
 simp at c40 c41 c0
 have HB4 := Lib.hid hB4'
 have HB0 := Lib.hid hB0'
 have HB3 := Lib.hid hB3'
 have HB1 := Lib.hid hb1'
 clear hB4 hB0 hB3 hb1 hB4' hB0' hB3' hb1' HJ
 go_wp2_with fail
 ((with_reducible refine (HM.out _).mono ?_); rintro e w2 ⟨rfl, hb2⟩)
 have hB4 := HB4.out.below hb2 HB4.out.lt
 have hB3 := HB3.out.below hb2 HB3.out.lt
 have hB0 := HB0.out.below hb2 HB0.out.lt
 have hbz := HB1.out.trans (hb2.mono HB1.out.size)
 clear hb2 c40 c41 f41 c0 HB4 HB0 HB3 HB1
 have c40 := hB4.cell 0
 have c41 := hB4.cell 1
 have c42 := hB4.cell 2
 have c43 := hB4.cell 3
 have f42 := hB4.frozen 2
 have f43 := hB4.frozen 3
 have c0 := hB0.cell 0
 have d0 := hB3.cell 0
 have d1 := hB3.cell 1
 have d2 := hB3.cell 2
 have d3 := hB3.cell 3
 have g0 := hB3.frozen 0
 have g1 := hB3.frozen 1
 have g2 := hB3.frozen 2
 have g3 := hB3.frozen 3
 simp at c40 c41 c42 c43 c0 d0 d1 d2 d3
 have HB1 := Lib.hid hbz
 have hlt := hB4.lt
 clear hB4 hB3 hB0 hbz
 cases b7
 all_goals
  go_wp2
  refine bodyPost_ret (v := .agg #[.bool true, .bool false, .int .i64 s, .bool _]) ?_ rfl ⟨rfl, ?_⟩
  ·simp [results, Tryz.results120, go_sem, d0, d1, d2, d3]
  ·refine Below.setCell ?_ (by show w.heap.size ≤ w.heap.size + 3; omega) _
   refine Below.setCell ?_ (by show w.heap.size ≤ w.heap.size + 3; omega) _
   refine Below.setCell ?_ (by show w.heap.size ≤ w.heap.size + 3; omega) _
   refine Below.setCell ?_ (by show w.heap.size ≤ w.heap.size + 3; omega) _
   refine Below.setCell ?_ (by show w.heap.size ≤ w.heap.size + 4; omega) _
   refine Below.setCell ?_ (by show w.heap.size ≤ w.heap.size + 4; omega) _
   exact HB1.out
def hearV (k n i : Nat) : Value := if holdB k n = true then .agg #[.bool true, .bool false, .int .i64 (srtK k : Nat), .bool (decide (k = 8))] else .agg #[.bool false, .bool (decide (i = 1 ∨ i = 3)), .int .i64 0, .bool false]
theorem isK_shape {k : Nat} {v : Value} (h : IsK k v) : v = .nilIface ∨ ∃ T u, v = .iface T u := by
 rcases h with ⟨_, rfl⟩ | ⟨_, rfl⟩ | ⟨_, x, rfl⟩ | ⟨_, x, rfl⟩ | ⟨_, x, rfl⟩ | ⟨_, x, rfl⟩ | ⟨_, x, rfl⟩ | ⟨_, x, rfl⟩ | ⟨_, rfl⟩
 ·exact .inl rfl
 all_goals exact .inr ⟨_, _, rfl⟩
theorem hear_any {k n i : Nat} {v : Value} (f : Int) (w : World) (h : IsK k v) (hn : 1 ≤ n ∧ n ≤ 11) (hi : i < 4) (hw : IntKind.i64.wrap (f - 1) = (i : Int)) :
  Calls Tryz.prog 120 #[v, .int .i64 (n : Nat), .int .i64 f] w fun e w' => e = .returned (hearV k n i) ∧ Below w.heap.size w w' := by
 unfold hearV
 by_cases hh : holdB k n = true
 ·rw [if_pos hh]
  have hk : k ≠ 0 := by rintro rfl; simp [holdB] at hh
  obtain ⟨p, hp, ha⟩ := lost_k h hk
  have hk8 := isK_le h
  have hj := hearc_ret true w h hn hi f hw (fun w => form_yes h hn hi hh w)
  obtain ⟨T, u, F, rfl, m1, m2, m3⟩ := sort_k h hk
  have e8 : decide (k = 8) = (decide (7 ≤ k) && decide (p = none)) := by
   by_cases h7 : k = 7
   ·have := hp.1 h7
    subst h7
    simp [this]
   ·have hpn : p = none := by
     cases p with
     | none => rfl
     | some a => exact absurd (hp.2 (by simp)) h7
    rw [hpn, Bool.eq_iff_iff]
    simp
    omega
  rw [e8]
  exact hear_walk_yes _ _ p n f T u F w (Lib.hid hj) m1 m2 m3 ha
 ·rw [if_neg hh]
  rw [Bool.not_eq_true] at hh
  refine hear_walk_no (decide (i = 1 ∨ i = 3)) n f v w (isK_shape h) (Lib.hid ?_)
  by_cases hp : i = 1 ∨ i = 3
  ·rw [decide_eq_true hp]
   exact hearc_pan w h hn hi f hw (fun w => form_pan h hn hp hh w)
  ·rw [decide_eq_false hp]
   exact hearc_ret false w h hn hi f hw (fun w => form_not h hn (by omega) hh w)
end Nd
end Go.Proofs.YtlailcmhpnnidaaGreatDoor
