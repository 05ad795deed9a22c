/-
  Walks of package claims: rows, lacking (printed by wip/gen_clb.py).
  Walk of package claims: may (printed by wip/gen_clc.py).
-/
import Derived.Test.YtobaldkipnhlpaaGreatDoorS10
import Derived.Laws.EntriesVeiled
import Derived.Laws.AppendOwnNone
import Derived.Deep.QuietTactic
import Derived.BigQuiet
set_option linter.unusedVariables false
set_option linter.unusedSimpArgs false
set_option maxRecDepth 100000
set_option maxHeartbeats 16000000
namespace Go.Proofs.YtobaldkipnhlpaaGreatDoor
open Go.RowKit Mem Utf Ref3 Tok Cl

theorem row1_any (k : ByteArray) (j : FuncId) (w : World) :
  Calls Tryz.prog 48 #[.string k, .func (.func j) #[] #[]] w fun e w' => (∃ q cap, e = .returned (.agg #[.string k, .func (.func q) #[] cap, .func (.func j) #[] #[], .nilFunc, .nilFunc])) ∧ Below w.heap.size w w' := by
 have hmf : ∀ (fn : Fn) (first cap : Array Value) (w : World), (Instr.makeFunc fn first cap).run Tryz.prog w = .ok (.func fn first cap) w := fun _ _ _ _ => rfl
 go_enter Tryz.func48, Tryz.ntmps48
 go_wp2
 refine bodyPost_ret (v := .agg #[.string k, .func (.func 49) #[] #[.pointer (some ⟨w.heap.size, 0, none⟩)], .func (.func j) #[] #[], .nilFunc, .nilFunc]) (by simp [results, Tryz.results48, go_sem]) rfl ⟨⟨_, _, rfl⟩, ?_⟩
 exact ((Below.refl _ _).alloc (Nat.le_refl _) _).alloc (by simp) _

theorem row2_any (k : ByteArray) (j : FuncId) (w : World) :
  Calls Tryz.prog 51 #[.string k, .func (.func j) #[] #[]] w fun e w' => (∃ q cap, e = .returned (.agg #[.string k, .func (.func q) #[] cap, .nilFunc, .func (.func j) #[] #[], .nilFunc])) ∧ Below w.heap.size w w' := by
 have hmf : ∀ (fn : Fn) (first cap : Array Value) (w : World), (Instr.makeFunc fn first cap).run Tryz.prog w = .ok (.func fn first cap) w := fun _ _ _ _ => rfl
 go_enter Tryz.func51, Tryz.ntmps51
 go_wp2
 refine bodyPost_ret (v := .agg #[.string k, .func (.func 52) #[] #[.pointer (some ⟨w.heap.size, 0, none⟩)], .nilFunc, .func (.func j) #[] #[], .nilFunc]) (by simp [results, Tryz.results51, go_sem]) rfl ⟨⟨_, _, rfl⟩, ?_⟩
 exact ((Below.refl _ _).alloc (Nat.le_refl _) _).alloc (by simp) _

theorem row3_any (k : ByteArray) (b : Bool) (j : FuncId) (w : World) :
  Calls Tryz.prog 54 #[.string k, .bool b, .func (.func j) #[] #[]] w fun e w' => (∃ q cap, e = .returned (.agg #[.string k, .func (.func q) #[] cap, .nilFunc, .nilFunc, .func (.func j) #[] #[]])) ∧ Below w.heap.size w w' := by
 have hmf : ∀ (fn : Fn) (first cap : Array Value) (w : World), (Instr.makeFunc fn first cap).run Tryz.prog w = .ok (.func fn first cap) w := fun _ _ _ _ => rfl
 go_enter Tryz.func54, Tryz.ntmps54
 go_wp2
 refine bodyPost_ret (v := .agg #[.string k, .func (.func 55) #[] #[.pointer (some ⟨w.heap.size + 1, 0, none⟩), .pointer (some ⟨w.heap.size, 0, none⟩)], .nilFunc, .nilFunc, .func (.func j) #[] #[]]) (by simp [results, Tryz.results54, go_sem]) rfl ⟨⟨_, _, rfl⟩, ?_⟩
 exact (((Below.refl _ _).alloc (Nat.le_refl _) _).alloc (by simp) _).alloc (by simp; omega) _

def rdV (x : FuncId × Array Value) : Value := .func (.func x.1) #[] x.2
def rowCells (rd : Nat → FuncId × Array Value) : Array Value := #[.string ⟨(key 0).toArray⟩, rdV (rd 0), .func (.func 57) #[] #[], .nilFunc, .nilFunc,
 .string ⟨(key 1).toArray⟩, rdV (rd 1), .nilFunc, .func (.func 58) #[] #[], .nilFunc,
 .string ⟨(key 2).toArray⟩, rdV (rd 2), .func (.func 59) #[] #[], .nilFunc, .nilFunc,
 .string ⟨(key 3).toArray⟩, rdV (rd 3), .nilFunc, .nilFunc, .func (.func 60) #[] #[],
 .string ⟨(key 4).toArray⟩, rdV (rd 4), .nilFunc, .func (.func 61) #[] #[], .nilFunc,
 .string ⟨(key 5).toArray⟩, rdV (rd 5), .func (.func 62) #[] #[], .nilFunc, .nilFunc,
 .string ⟨(key 6).toArray⟩, rdV (rd 6), .nilFunc, .nilFunc, .func (.func 63) #[] #[],
 .string ⟨(key 7).toArray⟩, rdV (rd 7), .nilFunc, .func (.func 64) #[] #[], .nilFunc]

theorem rows_any (w : World) : Calls Tryz.prog 24 #[] w fun e w' => ∃ g rd, e = .returned (.slice (some ⟨g, 0, none⟩) 8 8) ∧ Blk w' g 106 (rowCells rd) ∧ w.heap.size ≤ g ∧ Below w.heap.size w w' := by
 have hbw : Below w.heap.size w w := Below.refl _ _
 go_enter Tryz.func24, Tryz.ntmps24
 go_wp2_with fail
 refine (row1_any ⟨#[97, 98, 111, 117, 116]⟩ 57 _).mono ?_
 rintro e w' ⟨⟨q0, d0, rfl⟩, hb⟩
 replace hbw := below_chain hbw hbw.size hb
 clear hb
 go_wp2_with fail
 refine (row2_any ⟨#[97, 116]⟩ 58 _).mono ?_
 rintro e w' ⟨⟨q1, d1, rfl⟩, hb⟩
 replace hbw := below_chain hbw hbw.size hb
 clear hb
 go_wp2_with fail
 refine (row1_any ⟨#[98, 121]⟩ 59 _).mono ?_
 rintro e w' ⟨⟨q2, d2, rfl⟩, hb⟩
 replace hbw := below_chain hbw hbw.size hb
 clear hb
 go_wp2_with fail
 refine (row3_any ⟨#[102, 111, 114]⟩ true 60 _).mono ?_
 rintro e w' ⟨⟨q3, d3, rfl⟩, hb⟩
 replace hbw := below_chain hbw hbw.size hb
 clear hb
 go_wp2_with fail
 refine (row2_any ⟨#[102, 114, 111, 109]⟩ 61 _).mono ?_
 rintro e w' ⟨⟨q4, d4, rfl⟩, hb⟩
 replace hbw := below_chain hbw hbw.size hb
 clear hb
 go_wp2_with fail
 refine (row1_any ⟨#[105, 100]⟩ 62 _).mono ?_
 rintro e w' ⟨⟨q5, d5, rfl⟩, hb⟩
 replace hbw := below_chain hbw hbw.size hb
 clear hb
 go_wp2_with fail
 refine (row3_any ⟨#[109, 97, 121]⟩ false 63 _).mono ?_
 rintro e w' ⟨⟨q6, d6, rfl⟩, hb⟩
 replace hbw := below_chain hbw hbw.size hb
 clear hb
 go_wp2_with fail
 refine (row2_any ⟨#[117, 110, 116, 105, 108]⟩ 64 _).mono ?_
 rintro e w' ⟨⟨q7, d7, rfl⟩, hb⟩
 replace hbw := below_chain hbw hbw.size hb
 clear hb
 go_wp2
 go_ret
 refine ⟨_, fun k => match k with | 0 => (q0, d0) | 1 => (q1, d1) | 2 => (q2, d2) | 3 => (q3, d3) | 4 => (q4, d4) | 5 => (q5, d5) | 6 => (q6, d6) | _ => (q7, d7), rfl, Blk.new _ _ _, hbw.size, hbw.alloc hbw.size _⟩

theorem lacking_any (v1 v2 : Value) (l among : List Txt) (w : World) (h1 : Rd w v1 l) (h2 : Rd w v2 among) (hl : l.length ≤ 1099511627776) (hm : among.length ≤ 1099511627776) :
  Calls Tryz.prog 75 #[v1, v2] w fun e w' => (∃ v, e = .returned v ∧ w'.ownsRow w.heap.size 9 1 v (lackF among [] l).length ((lackF among [] l).map strV)) ∧ Below w.heap.size w w' := by
 obtain ⟨i0, hi0, hz0, hz1, hz2⟩ := info_parts info_str
 obtain ⟨A, c, rfl, hA⟩ := h1
 have h1 : Rd w (.slice A l.length c) l := ⟨A, c, rfl, hA⟩
 clear hA
 go_enter Tryz.func75, Tryz.ntmps75
 go_wp2
 go_loopw [5, 10] (fun c5 c10 wr => ∃ k : Nat, k ≤ l.length ∧ c10 = .int .i64 k ∧ wr.ownsRow w.heap.size 9 1 c5 (lackF among [] (l.take k)).length ((lackF among [] (l.take k)).map strV) ∧ Below w.heap.size w wr) (fun _ c10 _ => l.length - (intOf c10).toNat)
 case atStart => exact ⟨0, by omega, rfl, World.ownsRow_nil _ _ _ _, Below.refl _ _⟩
 case round =>
  obtain ⟨k, hk, rfl, hown, hbw⟩ := hrel
  have hll : (lackF among [] (l.take k)).length ≤ 1099511627776 := by
   have := lackF_len among (l.take k) []
   rw [List.length_take, List.length_nil] at this
   omega
  by_cases hlt : k < l.length
  ·have hst := lackF_take among l k hlt
   obtain ⟨A', c', hAc, hcell⟩ := h1.below hbw
   injection hAc with hA1 _ hc1
   subst hA1; subst hc1
   obtain ⟨g, o, rfl, hgl, hcell⟩ := hcell k hlt
   have hc2 : wr.cell? ⟨g, o + k, none⟩ = some (.string ⟨l[k].toArray⟩) := hcell
   have hi0' : (0 : Int) ≤ (k : Int) := by omega
   have hi1 : (k : Int) < (l.length : Int) := by omega
   have hr5 := Rd.of_own hown
   have hr2 := h2.below hbw
   have hbs := hbw.size
   have Hst := Lib.hid hst
   clear hcell hst
   generalize l[k] = t at *
   go_wp2_with fail
   refine (contains_any v2 among t _ hr2 hm).mono ?_
   rintro e w' ⟨rfl, rfl⟩
   by_cases ha : inB among t = true
   ·have HT : Hid (lackF among [] (l.take (k + 1)) = lackF among [] (l.take k)) := Lib.hid (by
     rw [Hst.out, show among.contains t = true from ha]
     simp)
    rw [ha]
    clear ha
    go_wp2
    go_roundw
    case rel => exact ⟨k + 1, by omega, by go_num, by rw [HT.out]; exact hown, hbw⟩
    case measure => simp [intOf]; omega
   ·rw [Bool.not_eq_true] at ha
    rw [ha]
    go_wp2_with fail
    refine (contains_any u5 _ t _ hr5 (by omega)).mono ?_
    rintro e w' ⟨rfl, rfl⟩
    by_cases hb : inB (lackF among [] (l.take k)) t = true
    ·have HT : Hid (lackF among [] (l.take (k + 1)) = lackF among [] (l.take k)) := Lib.hid (by
      rw [Hst.out, show (lackF among [] (l.take k)).contains t = true from hb]
      simp)
     rw [hb]
     clear hb ha
     go_wp2
     go_roundw
     case rel => exact ⟨k + 1, by omega, by go_num, by rw [HT.out]; exact hown, hbw⟩
     case measure => simp [intOf]; omega
    ·rw [Bool.not_eq_true] at hb
     have HT : Hid (lackF among [] (l.take (k + 1)) = lackF among [] (l.take k) ++ [t]) := Lib.hid (by
      rw [Hst.out, show (lackF among [] (l.take k)).contains t = false from hb, show among.contains t = false from ha]
      simp)
     rw [hb]
     clear hb ha hr5
     generalize lackF among [] (l.take k) = q at *
     go_wp2_with (at_builtin; refine wpList_append_own _ rfl (.tmp 24) (.tmp 26) _ rfl w.heap.size 9 i0 _ 1 16 Tryz.underlying23 hi0 hz0 hz1 hz2 rfl (by omega) u5 q.length (q.map strV) rfl (hown.alloc _) ⟨wr.heap.size, 0, none⟩ 1 1 [.string ⟨t.toArray⟩] rfl rfl (one_newP _ _ _) (one_cellP _ rfl) (by unfold maxLen; omega) (by omega) (by simp; omega) ?_; intro v9 w9 hown9 hgr9 hnil9)
     go_wp2
     go_roundw
     case rel => exact ⟨k + 1, by omega, by go_num, by rw [HT.out, List.length_append, List.map_append]; exact hown9, (hbw.alloc hbs _).grown hgr9 (by simp; omega) (fun q hq => (hown.lt q hq).1)⟩
     case measure => simp [intOf]; omega
  ·obtain rfl : k = l.length := by omega
   have HT : Hid (lackF among [] (l.take l.length) = lackF among [] l) := Lib.hid (by rw [List.take_length])
   rw [HT.out] at hown
   go_wp2
   go_ret
   exact ⟨⟨_, rfl, hown⟩, hbw⟩
end Go.Proofs.YtobaldkipnhlpaaGreatDoor
namespace Go.Proofs.YtobaldkipnhlpaaGreatDoor
open Go.RowKit Mem Utf Ref3 Tok Cl

def fnK : Nat → FuncId
 | 0 => 57
 | 1 => 58
 | 2 => 59
 | 3 => 60
 | 4 => 61
 | 5 => 62
 | 6 => 63
 | _ => 64
def offK : Nat → Nat
 | 0 => 1
 | 1 => 2
 | 2 => 3
 | 3 => 4
 | 4 => 5
 | 5 => 6
 | 6 => 7
 | _ => 8
theorem below8 {k : Nat} (h : k < 8) : k = 0 ∨ k = 1 ∨ k = 2 ∨ k = 3 ∨ k = 4 ∨ k = 5 ∨ k = 6 ∨ k = 7 := by omega
theorem fld0_any (b : Nat) (w : World) : Calls Tryz.prog 57 #[.pointer (some ⟨b, 0, none⟩)] w fun e w' => e = .returned (.pointer (some ⟨b, 1, none⟩)) ∧ w = w' := by
 go_enter Tryz.func57, Tryz.ntmps57
 go_wp2
 go_ret
 exact ⟨rfl, rfl⟩
theorem enter0 (args : Array Value) (w : World) : (callFunc 57 args).run Tryz.prog w = .ok (.enter 57 args) w := by kernel_rfl
theorem fld1_any (b : Nat) (w : World) : Calls Tryz.prog 58 #[.pointer (some ⟨b, 0, none⟩)] w fun e w' => e = .returned (.pointer (some ⟨b, 2, none⟩)) ∧ w = w' := by
 go_enter Tryz.func58, Tryz.ntmps58
 go_wp2
 go_ret
 exact ⟨rfl, rfl⟩
theorem enter1 (args : Array Value) (w : World) : (callFunc 58 args).run Tryz.prog w = .ok (.enter 58 args) w := by kernel_rfl
theorem fld2_any (b : Nat) (w : World) : Calls Tryz.prog 59 #[.pointer (some ⟨b, 0, none⟩)] w fun e w' => e = .returned (.pointer (some ⟨b, 3, none⟩)) ∧ w = w' := by
 go_enter Tryz.func59, Tryz.ntmps59
 go_wp2
 go_ret
 exact ⟨rfl, rfl⟩
theorem enter2 (args : Array Value) (w : World) : (callFunc 59 args).run Tryz.prog w = .ok (.enter 59 args) w := by kernel_rfl
theorem fld3_any (b : Nat) (w : World) : Calls Tryz.prog 60 #[.pointer (some ⟨b, 0, none⟩)] w fun e w' => e = .returned (.pointer (some ⟨b, 4, none⟩)) ∧ w = w' := by
 go_enter Tryz.func60, Tryz.ntmps60
 go_wp2
 go_ret
 exact ⟨rfl, rfl⟩
theorem enter3 (args : Array Value) (w : World) : (callFunc 60 args).run Tryz.prog w = .ok (.enter 60 args) w := by kernel_rfl
theorem fld4_any (b : Nat) (w : World) : Calls Tryz.prog 61 #[.pointer (some ⟨b, 0, none⟩)] w fun e w' => e = .returned (.pointer (some ⟨b, 5, none⟩)) ∧ w = w' := by
 go_enter Tryz.func61, Tryz.ntmps61
 go_wp2
 go_ret
 exact ⟨rfl, rfl⟩
theorem enter4 (args : Array Value) (w : World) : (callFunc 61 args).run Tryz.prog w = .ok (.enter 61 args) w := by kernel_rfl
theorem fld5_any (b : Nat) (w : World) : Calls Tryz.prog 62 #[.pointer (some ⟨b, 0, none⟩)] w fun e w' => e = .returned (.pointer (some ⟨b, 6, none⟩)) ∧ w = w' := by
 go_enter Tryz.func62, Tryz.ntmps62
 go_wp2
 go_ret
 exact ⟨rfl, rfl⟩
theorem enter5 (args : Array Value) (w : World) : (callFunc 62 args).run Tryz.prog w = .ok (.enter 62 args) w := by kernel_rfl
theorem fld6_any (b : Nat) (w : World) : Calls Tryz.prog 63 #[.pointer (some ⟨b, 0, none⟩)] w fun e w' => e = .returned (.pointer (some ⟨b, 7, none⟩)) ∧ w = w' := by
 go_enter Tryz.func63, Tryz.ntmps63
 go_wp2
 go_ret
 exact ⟨rfl, rfl⟩
theorem enter6 (args : Array Value) (w : World) : (callFunc 63 args).run Tryz.prog w = .ok (.enter 63 args) w := by kernel_rfl
theorem fld7_any (b : Nat) (w : World) : Calls Tryz.prog 64 #[.pointer (some ⟨b, 0, none⟩)] w fun e w' => e = .returned (.pointer (some ⟨b, 8, none⟩)) ∧ w = w' := by
 go_enter Tryz.func64, Tryz.ntmps64
 go_wp2
 go_ret
 exact ⟨rfl, rfl⟩
theorem enter7 (args : Array Value) (w : World) : (callFunc 64 args).run Tryz.prog w = .ok (.enter 64 args) w := by kernel_rfl
theorem fld_any {k : Nat} (hk : k < 8) (b : Nat) (w : World) : Calls Tryz.prog (fnK k) #[.pointer (some ⟨b, 0, none⟩)] w fun e w' => e = .returned (.pointer (some ⟨b, offK k, none⟩)) ∧ w = w' := by
 rcases below8 hk with rfl | rfl | rfl | rfl | rfl | rfl | rfl | rfl
 ·exact fld0_any b w
 ·exact fld1_any b w
 ·exact fld2_any b w
 ·exact fld3_any b w
 ·exact fld4_any b w
 ·exact fld5_any b w
 ·exact fld6_any b w
 ·exact fld7_any b w
theorem enter_any {k : Nat} (hk : k < 8) (args : Array Value) (w : World) : (callFunc (fnK k) args).run Tryz.prog w = .ok (.enter (fnK k) args) w := by
 rcases below8 hk with rfl | rfl | rfl | rfl | rfl | rfl | rfl | rfl
 ·exact enter0 args w
 ·exact enter1 args w
 ·exact enter2 args w
 ·exact enter3 args w
 ·exact enter4 args w
 ·exact enter5 args w
 ·exact enter6 args w
 ·exact enter7 args w

structure RowAt (w : World) (g k : Nat) (a2 a3 a4 : Value) : Prop where
 c0 : w.cell? ⟨g, k * 5, none⟩ = some (.string ⟨(key k).toArray⟩)
 c1 : ∃ q cap, w.cell? ⟨g, k * 5 + 1, none⟩ = some (.func (.func q) #[] cap)
 c2 : w.cell? ⟨g, k * 5 + 2, none⟩ = some a2
 c3 : w.cell? ⟨g, k * 5 + 3, none⟩ = some a3
 c4 : w.cell? ⟨g, k * 5 + 4, none⟩ = some a4
abbrev fnV (k : Nat) : Value := .func (.func (fnK k)) #[] #[]
theorem rows_at {w : World} {g : Nat} {rd : Nat → FuncId × Array Value} (h : Blk w g 106 (rowCells rd)) {k : Nat} (hk : k < 8) :
  ((k = 0 ∨ k = 2 ∨ k = 5) ∧ RowAt w g k (fnV k) .nilFunc .nilFunc) ∨ ((k = 1 ∨ k = 4 ∨ k = 7) ∧ RowAt w g k .nilFunc (fnV k) .nilFunc) ∨ ((k = 3 ∨ k = 6) ∧ RowAt w g k .nilFunc .nilFunc (fnV k)) := by
 have hc := fun i => h.cell i
 unfold rowCells at hc
 rcases below8 hk with rfl | rfl | rfl | rfl | rfl | rfl | rfl | rfl
 ·exact .inl ⟨by decide, ⟨hc 0, ⟨_, _, hc 1⟩, hc 2, hc 3, hc 4⟩⟩
 ·exact .inr (.inl ⟨by decide, ⟨hc 5, ⟨_, _, hc 6⟩, hc 7, hc 8, hc 9⟩⟩)
 ·exact .inl ⟨by decide, ⟨hc 10, ⟨_, _, hc 11⟩, hc 12, hc 13, hc 14⟩⟩
 ·exact .inr (.inr ⟨by decide, ⟨hc 15, ⟨_, _, hc 16⟩, hc 17, hc 18, hc 19⟩⟩)
 ·exact .inr (.inl ⟨by decide, ⟨hc 20, ⟨_, _, hc 21⟩, hc 22, hc 23, hc 24⟩⟩)
 ·exact .inl ⟨by decide, ⟨hc 25, ⟨_, _, hc 26⟩, hc 27, hc 28, hc 29⟩⟩
 ·exact .inr (.inr ⟨by decide, ⟨hc 30, ⟨_, _, hc 31⟩, hc 32, hc 33, hc 34⟩⟩)
 ·exact .inr (.inl ⟨by decide, ⟨hc 35, ⟨_, _, hc 36⟩, hc 37, hc 38, hc 39⟩⟩)

theorem getD_at {l : List Txt} {n : Nat} (h : n < l.length) : l.getD n [] = l[n] := by
 rw [List.getD_eq_getElem?_getD, List.getElem?_eq_getElem h]
 rfl
theorem mayK_step {c : C} {k n : Nat} (hk : k < 8) : mayK c (8 - k) n = (!(order c k n) && valid c (is c k) k && mayK c (8 - (k + 1)) (if is c k then n + 1 else n)) := by
 have h1 : 8 - k = (7 - k) + 1 := by omega
 have h2 : 7 - (7 - k) = k := by omega
 have h3 : 8 - (k + 1) = 7 - k := by omega
 rw [h1, mayK, h2, h3]
theorem fn_ne0 (F : FuncId) (w : World) : (binOp .neq 102 (.func (.func F) #[] #[]) .nilFunc).run Tryz.prog w = .ok (.bool true) w := by kernel_rfl
theorem nil_ne0 (w : World) : (binOp .neq 102 .nilFunc .nilFunc).run Tryz.prog w = .ok (.bool false) w := by kernel_rfl
theorem fn_ne1 (F : FuncId) (w : World) : (binOp .neq 103 (.func (.func F) #[] #[]) .nilFunc).run Tryz.prog w = .ok (.bool true) w := by kernel_rfl
theorem nil_ne1 (w : World) : (binOp .neq 103 .nilFunc .nilFunc).run Tryz.prog w = .ok (.bool false) w := by kernel_rfl
theorem fn_ne2 (F : FuncId) (w : World) : (binOp .neq 104 (.func (.func F) #[] #[]) .nilFunc).run Tryz.prog w = .ok (.bool true) w := by kernel_rfl
theorem nil_ne2 (w : World) : (binOp .neq 104 .nilFunc .nilFunc).run Tryz.prog w = .ok (.bool false) w := by kernel_rfl
end Go.Proofs.YtobaldkipnhlpaaGreatDoor
