/-
  Walks of package node: Build. Assertions of an item to its six types. Walks of package node: Value. Walks of package node: Value of objects, of every tree. What trees that steps make are like; Value of every such tree. Walks of package node and of layer 10's statements: Root, a tree's Value, wakes, number. Walks of package node: Build of any steps; the root of a nil tree.
  What a slice of steps that came in reads as.
-/
import Derived.Test.YtbajkglacfheiaaGreatDoorPA8
import Derived.Test.YtbajkglacfheiaaGreatDoorRows
import Derived.Deep.RegionHeldLaw
import Derived.ProofKit
import Derived.SliceStrings
import Derived.Deep.Slices
import Derived.Deep.Fields
import Derived.ChangeSame
set_option linter.unusedVariables false
set_option linter.unusedSimpArgs false
set_option maxRecDepth 100000
set_option maxHeartbeats 16000000
namespace Go.Proofs.YtbajkglacfheiaaGreatDoor
open Go.RowKit Mem
namespace Nd

structure CellS (w : World) (g o : Nat) (s : Stp) (K : Option Addr) (q : Nat) : Prop where
 c0 : w.cell? ⟨g, o, none⟩ = some (.int .i64 s.sort)
 c1 : w.cell? ⟨g, o + 1, none⟩ = some (.bool s.flag)
 c2 : w.cell? ⟨g, o + 2, none⟩ = some (.int .u64 (s.bits : Int))
 c3 : w.cell? ⟨g, o + 3, none⟩ = some (.string ⟨s.text.toArray⟩)
 c4 : w.cell? ⟨g, o + 4, none⟩ = some (.int .i64 s.count)
 c5 : w.cell? ⟨g, o + 5, none⟩ = some (.slice K s.keys.length q)
 ks : RdK w (.slice K s.keys.length q) s.keys
 kc : s.keys.length ≤ q
theorem CellS.below {w w' : World} {g o : Nat} {s : Stp} {K : Option Addr} {q : Nat} (h : CellS w g o s K q) (hb : Below w.heap.size w w') : CellS w' g o s K q := by
 have hlt : g < w.heap.size := World.block_lt_of_cell? w _ h.c0
 have ho := (old hb).1
 exact ⟨(ho _ _ hlt).trans h.c0, (ho _ _ hlt).trans h.c1, (ho _ _ hlt).trans h.c2, (ho _ _ hlt).trans h.c3, (ho _ _ hlt).trans h.c4, (ho _ _ hlt).trans h.c5, h.ks.below hb, h.kc⟩
def RdS (w : World) (v : Value) (ss : List Stp) : Prop := ∃ A c, v = .slice A ss.length c ∧ (ss = [] ∨ ∃ g o, A = some ⟨g, o, none⟩ ∧ ∀ (j : Nat) (s : Stp), ss[j]? = some s → ∃ K q, CellS w g (o + j * 6) s K q)
def runT : List Tr → List Stp → Nat → Sum (Int × Nat) (List Tr)
 | l, [], _ => .inr l
 | l, s :: ss, i => if (doT l s).1 = 0 then runT (doT l s).2 ss (i + 1) else .inl ((doT l s).1, i)
def buildT (ss : List Stp) : Sum (Int × Int) Tr :=
 if 65536 < ss.length then .inl (3, -1) else match runT [] ss 0 with
  | .inl (n, i) => .inl (n, i)
  | .inr [t] => .inr t
  | .inr _ => .inl (103, ss.length)
theorem RwX.below {p : Nat} {ty : TypeId} {B : Nat} {l : List Tr} {w w' : World} (h : RwX p ty B l w) (hb : Below w.heap.size w w') : RwX p ty B l w' := by
 obtain ⟨v, xs, h⟩ := h
 exact ⟨v, xs, h.below hb⟩
theorem RdT.iface {S : Nat → Prop} {w : World} {t : Tr} {v : Value} (h : RdT S w t v) : ∃ tx ux, v = .iface tx ux := by
 cases t <;> unfold RdT at h
 ·exact ⟨_, _, h⟩
 ·exact ⟨_, _, h⟩
 ·exact ⟨_, _, h⟩
 ·exact ⟨_, _, h⟩
 ·obtain ⟨g, A, c, vs, h, _⟩ := h
  exact ⟨_, _, h⟩
 ·obtain ⟨g, B, d, A, c, vs, h, _⟩ := h
  exact ⟨_, _, h⟩
theorem doT_len (l : List Tr) (s : Stp) : (doT l s).2.length ≤ l.length + 1 := by
 have hl : ∀ k, (listT k l).2.length ≤ l.length + 1 := by
  intro k
  unfold listT
  repeat' split
  all_goals simp <;> omega
 have ho : (objT rightB s.keys l).2.length ≤ l.length + 1 := by
  unfold objT
  repeat' split
  all_goals simp <;> omega
 unfold doT
 repeat' split
 all_goals first | exact hl _ | exact ho | (simp <;> omega)
def spotB (n i : Int) : Value := if i < 0 then errN n else .iface 122 (.agg #[.int .i64 n, .int .i64 i])
def TreeAt (B : Nat) (w : World) (g : Nat) (t : Tr) : Prop := B ≤ g ∧ t.fit = true ∧ ∃ v, Blk w g 123 #[v] ∧ RdT (fun k => B ≤ k) w t v
def BuildP (ss : List Stp) (w : World) (e : Ending) (w' : World) : Prop :=
 Below w.heap.size w w' ∧ match buildT ss with
  | .inl (n, i) => e = .returned (.tuple #[.pointer none, spotB n i])
  | .inr t => ∃ g, e = .returned (.tuple #[.pointer (some ⟨g, 0, none⟩), .nilIface]) ∧ TreeAt w.heap.size w' g t
theorem build_long (v : Value) (ss : List Stp) (w : World) (hS : RdS w v ss) (hn : 65536 < ss.length) :
  Calls Tryz.prog 8 #[v] w (BuildP ss w) := by
 obtain ⟨A, c, rfl, _⟩ := hS
 have hB : Hid (buildT ss = .inl (3, -1)) := Lib.hid (by unfold buildT; rw [if_pos hn])
 have hd : decide (65536 < (ss.length : Int)) = true := decide_eq_true (by omega)
 clear hn
 go_enter Tryz.func8, Tryz.ntmps8
 go_wp2
 go_ret2
 refine ⟨Below.refl _ _, ?_⟩
 rw [hB.out]
 rfl
theorem build_any (v : Value) (ss : List Stp) (w : World) (hS : RdS w v ss) (hF : ∀ s ∈ ss, s.Fine) (hn : ss.length ≤ 65536) :
  Calls Tryz.prog 8 #[v] w (BuildP ss w) := by
 have HS := Lib.hid hS
 obtain ⟨A, c, rfl, _⟩ := hS
 have HF := Lib.hid hF
 clear hF
 have q1 := err_ne_nil
 have q2 := err_ne_held
 go_enter Tryz.func8, Tryz.ntmps8
 go_wp2
 go_loopw [14] (fun c14 wr => ∃ (k : Nat) (l : List Tr), k ≤ ss.length ∧ c14 = .int .i64 k ∧ l.length ≤ k ∧ Hid (runT [] ss 0 = runT l (ss.drop k) k) ∧ Hid (RwX w.heap.size 116 (w.heap.size + 1) l wr) ∧ Below w.heap.size w wr ∧ w.heap.size < wr.heap.size) (fun c14 _ => ss.length - (intOf c14).toNat)
 case atStart =>
  refine ⟨0, [], by omega, rfl, by simp, Lib.hid rfl, Lib.hid ⟨.slice none 0 0, [], Blk.new _ _ _, World.ownsRow_nil _ _ _ _, by unfold RdL; rfl, by simp, by omega, by simp⟩, (Below.refl _ _).alloc (Nat.le_refl _) _, by simp⟩
 case round =>
  obtain ⟨k, l, hk, rfl, hlk, HR, HX, hbr, hsz⟩ := hrel
  by_cases hlt : k < ss.length
  ·have hcs : ∃ g o K q, A = some ⟨g, o, none⟩ ∧ CellS wr g (o + k * 6) ss[k] K q := by
    obtain ⟨A', c', e', h'⟩ := HS.out
    injection e' with e1 e2 e3
    rcases h' with h' | ⟨g, o, hA, hc⟩
    ·rw [h'] at hlt
     simp at hlt
    ·obtain ⟨K, q, h⟩ := hc k _ (List.getElem?_eq_getElem hlt)
     exact ⟨g, o, K, q, by rw [e1, hA], h.below hbr⟩
   obtain ⟨g, o, K, q, rfl, hC⟩ := hcs
   have HC := Lib.hid hC
   obtain ⟨c0, c1, c2, c3, c4, c5, ck⟩ := hC
   have hfine := HF.out _ (List.getElem_mem hlt)
   have hdr : ss.drop k = ss[k] :: ss.drop (k + 1) := List.drop_eq_getElem_cons hlt
   have HDR := Lib.hid hdr
   have HFI := Lib.hid hfine
   clear hdr hfine ck
   generalize ss[k] = s at *
   have hba : Below wr.heap.size wr (wr.alloc (.cells #[.int .i64 s.sort, .bool s.flag, .int .u64 (s.bits : Int), .string ⟨s.text.toArray⟩, .int .i64 s.count, .slice K s.keys.length q] 119)) := (Below.refl _ _).alloc (Nat.le_refl _) _
   have HXA := Lib.hid (HX.out.below hba)
   have HKA := Lib.hid (HC.out.ks.below hba)
   have hdl := doT_len l s
   go_wp2_with fail
   ((with_reducible refine (do_any s HFI.out K q w.heap.size 116 (w.heap.size + 1) l _ HXA.out HKA.out (by omega)).mono ?_); rintro e w1 ⟨rfl, hx1, hb1, _⟩)
   have hbr1 : Below w.heap.size w w1 := (hbr.alloc hbr.size _).trans hb1
   have hsz1 : w.heap.size < w1.heap.size := by have := hb1.size; have := hba.size; omega
   have HX1 := Lib.hid hx1
   clear hx1 hb1 hba
   by_cases h0 : (doT l s).1 = 0
   ·have HR2 : Hid (runT [] ss 0 = runT (doT l s).2 (ss.drop (k + 1)) (k + 1)) := Lib.hid (by rw [HR.out, HDR.out, runT, if_pos h0])
    have hev : errV (doT l s).1 = .nilIface := by unfold errV; rw [if_pos h0]
    rw [hev]
    clear hev h0
    generalize (doT l s).2 = l2 at *
    go_wp2
    go_roundw
    case rel => exact ⟨k + 1, l2, by omega, by go_num, by omega, HR2, HX1, hbr1, hsz1⟩
    case measure => simp [intOf]; omega
   ·have HR2 : Hid (buildT ss = .inl ((doT l s).1, (k : Int))) := Lib.hid (by
     unfold buildT
     rw [if_neg (by omega), HR.out, HDR.out, runT, if_neg h0])
    have hev : errV (doT l s).1 = .iface 113 (.int .i64 (doT l s).1) := by unfold errV; rw [if_neg h0]; rfl
    rw [hev]
    clear hev
    have HPOST : Hid (∀ W, Below w.heap.size w W → BuildP ss w (.returned (.tuple #[.pointer none, .iface 122 (.agg #[.int .i64 (doT l s).1, .int .i64 k])])) W) := Lib.hid (by
     intro W hW
     refine ⟨hW, ?_⟩
     rw [HR2.out]
     simp only [spotB]
     rw [if_neg (by omega)])
    clear HR2 h0
    generalize (doT l s).1 = m at *
    have hta : ∀ W, (Instr.typeAssert (.iface 113 (.int .i64 m)) 25 113 false).run Tryz.prog W = .ok (.int .i64 m) W := fun W => by kernel_rfl
    go_wp2_with fail
    go_quiet (fail)
    go_wp2
    go_ret2
    exact HPOST.out _ (hbr1.trans (drewN_below _ _))
  ·have hkn : k = ss.length := by omega
   subst hkn
   have hdr : ss.drop ss.length = [] := List.drop_eq_nil_of_le (Nat.le_refl _)
   have HR2 : Hid (runT [] ss 0 = .inr l) := Lib.hid (by rw [HR.out, hdr, runT])
   clear hdr HR
   obtain ⟨v1, xs1, hR1⟩ := HX.out
   obtain ⟨A1, q1', rfl⟩ := own_slice hR1.own
   have HR1 := Lib.hid hR1
   have a0 : wr.cell? ⟨w.heap.size, 0, none⟩ = some (.slice A1 l.length q1') := hR1.bl.cell 0
   clear hR1
   by_cases h1 : l.length = 1
   ·obtain ⟨t, rfl⟩ : ∃ t, l = [t] := by
     match l, h1 with
     | [t], _ => exact ⟨t, rfl⟩
    simp only [List.length_cons, List.length_nil, Nat.zero_add] at a0
    have hcell : ∃ g x, A1 = some ⟨g, 0, none⟩ ∧ wr.cell? ⟨g, 0, none⟩ = some x ∧ RdT (fun k => w.heap.size ≤ k) wr t x := by
     have hr := HR1.out.rd
     have hl := hr.len
     obtain ⟨x, rfl⟩ : ∃ x, xs1 = [x] := by
      match xs1, hl with
      | [x], _ => exact ⟨x, rfl⟩
     have hx := hr.at (j := 0) rfl rfl
     have ho := HR1.out.own
     rcases ho.2 with ⟨_, h⟩ | ⟨g, cap, cur, h, _, hg, _, _, hs, ht⟩
     ·cases h
     ·injection h with h1 _ _
      refine ⟨g, x, h1, ?_, RdT.move (fun j hj hs => ⟨by have := hs.1; omega, rfl⟩) _ _ hx⟩
      rw [cell_of_row wr g 0 cur _ _ hg]
      have h2 : (cur.toList.take ([t].length * 1))[0]? = some x := by rw [ht]; rfl
      rw [List.getElem?_take] at h2
      simpa using h2
    obtain ⟨g1, x, rfl, hc1, hrd⟩ := hcell
    have hfit : t.fit = true := HR1.out.fit t (by simp)
    obtain ⟨tx, ux, rfl⟩ := hrd.iface
    have hpost : BuildP ss w (.returned (.tuple #[.pointer (some ⟨wr.heap.size, 0, none⟩), .nilIface])) (wr.alloc (.cells #[.iface tx ux] 123)) := by
     refine ⟨hbr.alloc hbr.size _, ?_⟩
     have hb : buildT ss = .inr t := by
      unfold buildT
      rw [if_neg (by omega), HR2.out]
     rw [hb]
     exact ⟨_, rfl, by omega, hfit, _, Blk.new _ _ _, RdT.move (fun j hj hs => ⟨hs, Below.heap_alloc wr _ j hj⟩) _ _ hrd⟩
    have HP := Lib.hid hpost
    clear hpost hrd
    go_wp2
    go_ret2
    exact HP.out
   ·have hpost : BuildP ss w (.returned (.tuple #[.pointer none, .iface 122 (.agg #[.int .i64 103, .int .i64 ss.length])])) wr := by
     refine ⟨hbr, ?_⟩
     have hb : buildT ss = .inl (103, ss.length) := by
      unfold buildT
      rw [if_neg (by omega), HR2.out]
      match l, h1 with
      | [], _ => rfl
      | _ :: _ :: _, _ => rfl
     rw [hb]
     simp only [spotB]
     rw [if_neg (by omega)]
    have HP := Lib.hid hpost
    clear hpost
    go_wp2
    go_ret2
    exact HP.out
end Nd
end Go.Proofs.YtbajkglacfheiaaGreatDoor
namespace Go.Proofs.YtbajkglacfheiaaGreatDoor
open Go.RowKit Mem
namespace Nd

theorem ta_0_1  (W : World) : (Instr.typeAssert (.iface 195 (.agg #[])) 56 196 true).run Tryz.prog W = .ok (.tuple #[.bool false, .bool false]) W := by kernel_rfl
theorem ta_0_2  (W : World) : (Instr.typeAssert (.iface 195 (.agg #[])) 56 140 true).run Tryz.prog W = .ok (.tuple #[.float .f64 0, .bool false]) W := by kernel_rfl
theorem ta_0_3  (W : World) : (Instr.typeAssert (.iface 195 (.agg #[])) 56 199 true).run Tryz.prog W = .ok (.tuple #[.string ⟨#[]⟩, .bool false]) W := by kernel_rfl
theorem ta_0_4  (W : World) : (Instr.typeAssert (.iface 195 (.agg #[])) 56 202 true).run Tryz.prog W = .ok (.tuple #[.pointer none, .bool false]) W := by kernel_rfl
theorem ta_0_5  (W : World) : (Instr.typeAssert (.iface 195 (.agg #[])) 56 271 true).run Tryz.prog W = .ok (.tuple #[.pointer none, .bool false]) W := by kernel_rfl
theorem ta_1_1 (b : Bool) (W : World) : (Instr.typeAssert (.iface 196 (.bool b)) 56 196 true).run Tryz.prog W = .ok (.tuple #[.bool b, .bool true]) W := by kernel_rfl
theorem ta_1_2 (b : Bool) (W : World) : (Instr.typeAssert (.iface 196 (.bool b)) 56 140 true).run Tryz.prog W = .ok (.tuple #[.float .f64 0, .bool false]) W := by kernel_rfl
theorem ta_1_3 (b : Bool) (W : World) : (Instr.typeAssert (.iface 196 (.bool b)) 56 199 true).run Tryz.prog W = .ok (.tuple #[.string ⟨#[]⟩, .bool false]) W := by kernel_rfl
theorem ta_1_4 (b : Bool) (W : World) : (Instr.typeAssert (.iface 196 (.bool b)) 56 202 true).run Tryz.prog W = .ok (.tuple #[.pointer none, .bool false]) W := by kernel_rfl
theorem ta_1_5 (b : Bool) (W : World) : (Instr.typeAssert (.iface 196 (.bool b)) 56 271 true).run Tryz.prog W = .ok (.tuple #[.pointer none, .bool false]) W := by kernel_rfl
theorem ta_2_1 (x : Nat) (W : World) : (Instr.typeAssert (.iface 140 (.float .f64 x)) 56 196 true).run Tryz.prog W = .ok (.tuple #[.bool false, .bool false]) W := by kernel_rfl
theorem ta_2_2 (x : Nat) (W : World) : (Instr.typeAssert (.iface 140 (.float .f64 x)) 56 140 true).run Tryz.prog W = .ok (.tuple #[.float .f64 x, .bool true]) W := by kernel_rfl
theorem ta_2_3 (x : Nat) (W : World) : (Instr.typeAssert (.iface 140 (.float .f64 x)) 56 199 true).run Tryz.prog W = .ok (.tuple #[.string ⟨#[]⟩, .bool false]) W := by kernel_rfl
theorem ta_2_4 (x : Nat) (W : World) : (Instr.typeAssert (.iface 140 (.float .f64 x)) 56 202 true).run Tryz.prog W = .ok (.tuple #[.pointer none, .bool false]) W := by kernel_rfl
theorem ta_2_5 (x : Nat) (W : World) : (Instr.typeAssert (.iface 140 (.float .f64 x)) 56 271 true).run Tryz.prog W = .ok (.tuple #[.pointer none, .bool false]) W := by kernel_rfl
theorem ta_3_1 (s : ByteArray) (W : World) : (Instr.typeAssert (.iface 199 (.string s)) 56 196 true).run Tryz.prog W = .ok (.tuple #[.bool false, .bool false]) W := by kernel_rfl
theorem ta_3_2 (s : ByteArray) (W : World) : (Instr.typeAssert (.iface 199 (.string s)) 56 140 true).run Tryz.prog W = .ok (.tuple #[.float .f64 0, .bool false]) W := by kernel_rfl
theorem ta_3_3 (s : ByteArray) (W : World) : (Instr.typeAssert (.iface 199 (.string s)) 56 199 true).run Tryz.prog W = .ok (.tuple #[.string s, .bool true]) W := by kernel_rfl
theorem ta_3_4 (s : ByteArray) (W : World) : (Instr.typeAssert (.iface 199 (.string s)) 56 202 true).run Tryz.prog W = .ok (.tuple #[.pointer none, .bool false]) W := by kernel_rfl
theorem ta_3_5 (s : ByteArray) (W : World) : (Instr.typeAssert (.iface 199 (.string s)) 56 271 true).run Tryz.prog W = .ok (.tuple #[.pointer none, .bool false]) W := by kernel_rfl
theorem ta_4_1 (g : Option Addr) (W : World) : (Instr.typeAssert (.iface 202 (.pointer g)) 56 196 true).run Tryz.prog W = .ok (.tuple #[.bool false, .bool false]) W := by kernel_rfl
theorem ta_4_2 (g : Option Addr) (W : World) : (Instr.typeAssert (.iface 202 (.pointer g)) 56 140 true).run Tryz.prog W = .ok (.tuple #[.float .f64 0, .bool false]) W := by kernel_rfl
theorem ta_4_3 (g : Option Addr) (W : World) : (Instr.typeAssert (.iface 202 (.pointer g)) 56 199 true).run Tryz.prog W = .ok (.tuple #[.string ⟨#[]⟩, .bool false]) W := by kernel_rfl
theorem ta_4_4 (g : Option Addr) (W : World) : (Instr.typeAssert (.iface 202 (.pointer g)) 56 202 true).run Tryz.prog W = .ok (.tuple #[.pointer g, .bool true]) W := by kernel_rfl
theorem ta_4_5 (g : Option Addr) (W : World) : (Instr.typeAssert (.iface 202 (.pointer g)) 56 271 true).run Tryz.prog W = .ok (.tuple #[.pointer none, .bool false]) W := by kernel_rfl
theorem ta_5_1 (g : Option Addr) (W : World) : (Instr.typeAssert (.iface 271 (.pointer g)) 56 196 true).run Tryz.prog W = .ok (.tuple #[.bool false, .bool false]) W := by kernel_rfl
theorem ta_5_2 (g : Option Addr) (W : World) : (Instr.typeAssert (.iface 271 (.pointer g)) 56 140 true).run Tryz.prog W = .ok (.tuple #[.float .f64 0, .bool false]) W := by kernel_rfl
theorem ta_5_3 (g : Option Addr) (W : World) : (Instr.typeAssert (.iface 271 (.pointer g)) 56 199 true).run Tryz.prog W = .ok (.tuple #[.string ⟨#[]⟩, .bool false]) W := by kernel_rfl
theorem ta_5_4 (g : Option Addr) (W : World) : (Instr.typeAssert (.iface 271 (.pointer g)) 56 202 true).run Tryz.prog W = .ok (.tuple #[.pointer none, .bool false]) W := by kernel_rfl
theorem ta_5_5 (g : Option Addr) (W : World) : (Instr.typeAssert (.iface 271 (.pointer g)) 56 271 true).run Tryz.prog W = .ok (.tuple #[.pointer g, .bool true]) W := by kernel_rfl
end Nd
end Go.Proofs.YtbajkglacfheiaaGreatDoor
namespace Go.Proofs.YtbajkglacfheiaaGreatDoor
open Go.RowKit Mem
namespace Nd

section
variable {S S' : Nat → Prop} {w w' : World} {e : TypeId} {v : Value} {xs vs : List Value}
end
theorem nodes_pos : ∀ t : Tr, 1 ≤ t.nodes := by
 intro t
 cases t <;> simp [Tr.nodes]
theorem nodes_len : ∀ l : List Tr, l.length ≤ nodesL l
 | [] => by simp
 | x :: l => by
  have := nodes_len l
  have := nodes_pos x
  simp only [nodesL, List.length_cons]
  omega
end Nd
end Go.Proofs.YtbajkglacfheiaaGreatDoor
namespace Go.Proofs.YtbajkglacfheiaaGreatDoor
open Go.RowKit Mem
namespace Nd

end Nd
end Go.Proofs.YtbajkglacfheiaaGreatDoor
namespace Go.Proofs.YtbajkglacfheiaaGreatDoor
open Go.RowKit Mem
namespace Nd

def Rise (ks : List Tx) : Prop := ks.Pairwise fun a b => cmpL a b < 0
mutual
def Tr.Ok : Tr → Prop
 | .num x => finB x = true ∧ normB x = x ∧ x < 18446744073709551616
 | .text t => rightB t = true
 | .list l => OkL l
 | .obj ks l => ks.length = l.length ∧ Rise ks ∧ ks.all rightB = true ∧ OkL l
 | _ => True
def OkL : List Tr → Prop
 | [] => True
 | t :: l => (t.Ok ∧ t.fit = true) ∧ OkL l
end
theorem okl_iff : ∀ l : List Tr, OkL l ↔ ∀ t ∈ l, t.Ok ∧ t.fit = true
 | [] => by unfold OkL; simp
 | t :: l => by
  unfold OkL
  rw [okl_iff l]
  constructor
  ·rintro ⟨h1, h2⟩ u hu
   rcases List.mem_cons.1 hu with rfl | hu
   ·exact h1
   ·exact h2 u hu
  ·exact fun h => ⟨h t (by simp), fun u hu => h u (by simp [hu])⟩
theorem okl_mem {l : List Tr} (h : OkL l) {t : Tr} (ht : t ∈ l) : t.Ok ∧ t.fit = true := (okl_iff l).1 h t ht
theorem okl_app {a b : List Tr} (ha : OkL a) (hb : OkL b) : OkL (a ++ b) := (okl_iff _).2 fun t ht => by
 rcases List.mem_append.1 ht with h | h
 ·exact okl_mem ha h
 ·exact okl_mem hb h
theorem okl_one {t : Tr} (h : t.Ok) (hf : t.fit = true) : OkL [t] := (okl_iff _).2 fun u hu => by
 rw [List.mem_singleton] at hu
 subst hu
 exact ⟨h, hf⟩
theorem okl_take {l : List Tr} (h : OkL l) (k : Nat) : OkL (l.take k) := (okl_iff _).2 fun t ht => okl_mem h (List.mem_of_mem_take ht)
theorem okl_drop {l : List Tr} (h : OkL l) (k : Nat) : OkL (l.drop k) := (okl_iff _).2 fun t ht => okl_mem h (List.mem_of_mem_drop ht)
theorem sortK_rise (ks : List Tx) (hn : ks.Nodup) : Rise (sortK ks) := by
 have hp := List.pairwise_mergeSort (le := fun x y => !ltL y x) (fun a b c h1 h2 => by
  simp only [Bool.not_eq_true', ltL, decide_eq_false_iff_not] at *
  intro h
  rcases lt_total b c with e | e | e
  ·exact h1 (lt_trans b c a e h)
  ·subst e
   exact h1 h
  ·exact h2 e) (fun a b => by
  simp only [Bool.or_eq_true, Bool.not_eq_true', ltL, decide_eq_false_iff_not]
  rcases lt_total a b with e | e | e
  ·left
   intro h
   have := lt_trans a b a e h
   rw [cmp_self] at this
   omega
  ·left
   rw [e, cmp_self]
   omega
  ·right
   intro h
   have := lt_trans a b a h e
   rw [cmp_self] at this
   omega) ks
 have hnd : (sortK ks).Nodup := (sortK_perm ks).nodup_iff.2 hn
 unfold Rise
 refine (hp.and hnd).imp ?_
 rintro a b ⟨h1, h2⟩
 simp only [Bool.not_eq_true', ltL, decide_eq_false_iff_not] at h1
 rcases lt_total a b with e | e | e
 ·exact e
 ·exact absurd e h2
 ·exact absurd e h1
theorem mkObj_ok (ks : List Tx) (I : List Tr) (hn : ks.Nodup) (hr : ks.all rightB = true) (hl : I.length = ks.length) (hI : OkL I) : (mkObj ks I).Ok := by
 unfold mkObj Tr.Ok
 refine ⟨by simp, sortK_rise ks hn, ?_, ?_⟩
 ·rw [List.all_eq_true] at hr ⊢
  exact fun k hk => hr k ((sortK_perm ks).mem_iff.1 hk)
 ·exact (okl_iff _).2 fun t ht => okl_mem hI ((items_perm .null ks hn I hl).mem_iff.1 ht)
theorem norm_norm (b : Nat) : normB (normB b) = normB b := by
 unfold normB
 split <;> simp_all
theorem fin_norm (b : Nat) (h : finB b = true) : finB (normB b) = true := by
 unfold normB
 split
 ·decide
 ·exact h
theorem doT_ok (l : List Tr) (s : Stp) (hs : s.Fine) (hl : OkL l) : OkL (doT l s).2 := by
 unfold doT
 split
 ·exact hl
 split
 ·exact okl_app hl (okl_one (by unfold Tr.Ok; trivial) (by decide))
 split
 ·exact okl_app hl (okl_one (by unfold Tr.Ok; trivial) (by simp [Tr.fit, Tr.nodes, Tr.bytes, Tr.depth]))
 split
 ·split
  ·rename_i h
   refine okl_app hl (okl_one ?_ (by simp [Tr.fit, Tr.nodes, Tr.bytes, Tr.depth]))
   unfold Tr.Ok
   refine ⟨fin_norm _ h, norm_norm _, ?_⟩
   unfold normB
   split
   ·omega
   ·exact hs.bits
  ·exact hl
 split
 ·split
  ·split
   ·rename_i h1 h2
    exact okl_app hl (okl_one (by unfold Tr.Ok; exact h1) (by simp [Tr.fit, Tr.nodes, Tr.bytes, Tr.depth, h2]))
   ·exact hl
  ·exact hl
 split
 ·unfold listT
  split
  ·exact hl
  ·split
   ·rename_i h
    exact okl_app (okl_take hl _) (okl_one (by unfold Tr.Ok; exact okl_drop hl _) h)
   ·exact hl
 ·unfold objT
  split
  ·exact hl
  split
  ·exact hl
  split
  ·exact hl
  split
  ·rename_i h1 h2 h3 h4
   have hn : s.keys.Nodup := Classical.byContradiction h2
   exact okl_app (okl_take hl _) (okl_one (mkObj_ok _ _ hn (by simpa using h1) (by rw [List.length_drop]; omega) (okl_drop hl _)) h4)
  ·exact hl
theorem runT_ok : ∀ (ss : List Stp) (l : List Tr) (i : Nat) (l' : List Tr), (∀ s ∈ ss, s.Fine) → OkL l → runT l ss i = .inr l' → OkL l'
 | [], l, i, l', _, hl, h => by
  unfold runT at h
  injection h with h
  exact h ▸ hl
 | s :: ss, l, i, l', hs, hl, h => by
  unfold runT at h
  split at h
  ·exact runT_ok ss _ _ _ (fun x hx => hs x (by simp [hx])) (doT_ok l s (hs s (by simp)) hl) h
  ·cases h
theorem buildT_ok {ss : List Stp} {t : Tr} (hs : ∀ s ∈ ss, s.Fine) (h : buildT ss = .inr t) : t.Ok ∧ t.fit = true := by
 unfold buildT at h
 split at h
 ·cases h
 ·split at h
  ·cases h
  ·rename_i t' hr
   injection h with h
   subst h
   exact okl_mem (runT_ok ss [] 0 _ hs (by unfold OkL; trivial) hr) (by simp)
  ·cases h
end Nd
end Go.Proofs.YtbajkglacfheiaaGreatDoor
namespace Go.Proofs.YtbajkglacfheiaaGreatDoor
open Go.RowKit Mem
namespace Nd

theorem root_any (g : Nat) (ty tx : TypeId) (ux : Value) (w : World) (hB : Blk w g ty #[.iface tx ux]) : Calls Tryz.prog 95 #[.pointer (some ⟨g, 0, none⟩)] w fun e w' => e = .returned (.agg #[.iface tx ux]) ∧ Below w.heap.size w w' := by
 have a1 : w.cell? ⟨g, 0, none⟩ = some (.iface tx ux) := hB.cell 0
 have hlt := hB.lt
 have a2 : (w.alloc (.cells #[.nilIface] 58)).cell? ⟨g, 0, none⟩ = some (.iface tx ux) := (hB.alloc _).cell 0
 clear hB
 go_enter Tryz.func95, Tryz.ntmps95
 go_wp2
 refine bodyPost_ret (v := .agg #[.iface tx ux]) ?_ rfl ⟨rfl, ?_⟩
 ·simp [results, Tryz.results95, go_sem]
 ·exact ((Below.refl _ _).alloc (Nat.le_refl _) _)
end Nd
end Go.Proofs.YtbajkglacfheiaaGreatDoor
namespace Go.Proofs.YtbajkglacfheiaaGreatDoor
open Go.RowKit Mem
namespace Nd

theorem build_all (v : Value) (ss : List Stp) (w : World) (hS : RdS w v ss) (hF : ∀ s ∈ ss, s.Fine) : Calls Tryz.prog 8 #[v] w (BuildP ss w) := by
 by_cases hn : ss.length ≤ 65536
 ·exact build_any v ss w hS hF hn
 ·exact build_long v ss w hS (by omega)
theorem sp_form (n i : Int) : ∃ tx ux, spotB n i = .iface tx ux := by
 unfold spotB
 split
 ·exact ⟨_, _, rfl⟩
 ·exact ⟨_, _, rfl⟩
end Nd
end Go.Proofs.YtbajkglacfheiaaGreatDoor
namespace Go.Proofs.YtbajkglacfheiaaGreatDoor
open Go.ChangeShapes Go.WideShapes Go.RowKit Go.Deep Mem
namespace Nd

theorem prog_own : ownKnob Tryz.prog.godebug = none := by kernel_rfl
theorem prog_laidOut : laidOutB Tryz.prog = true := by kernel_rfl
section
variable {H : Type} {enc : TypeId × Value → H} {P : Program} {w : World} {base : Nat} {spare : Nat → Bool} {held : Bool}
theorem open_slice_fields {t e : TypeId} {fs : Array Field} {fuel : Nat} {cs : List Value} {x : DataW H × List MemPlace} (ht : P.underlying t = some (.slice e)) (he : P.underlying e = some (.struct fs))
  (hone : oneCellFields P fs = true) (hC : P.cellsOf e = fs.size) (h : DataW.trod enc P w base spare held fuel t cs = some x) :
  (cs = [.slice none 0 0] ∧ x = (.nil, [])) ∨
  ∃ (a : Addr) (len cap m : Nat) (D : Nat → DataW H) (Pl : Nat → List MemPlace), cs = [.slice (some a) len cap] ∧ base ≤ a.block ∧ len ≤ cap ∧ cap ≤ maxLen ∧ m = (if spare a.block then cap else len) ∧
   x = (.slice ((List.range len).map D) ((List.range (m - len)).map fun j => D (len + j)), MemPlace.row a (m * fs.size) ++ (List.range m).flatMap Pl) ∧
   ∀ i, i < m → ∃ (ys : List (DataW H × List MemPlace)) (n : Nat), D i = .agg (ys.map (·.1)) ∧ Pl i = ys.flatMap (·.2) ∧ ys.length = fs.size ∧
    ∀ (j : Nat) (f : Field), fs[j]? = some f → ∃ (v : Value) (y : DataW H × List MemPlace), w.cell? (a.add (i * fs.size + j)) = some v ∧ ys[j]? = some y ∧ DataW.trod enc P w base spare held n f.type [v] = some y := by
 rcases open_slice ht h with h0 | ⟨a, len, cap, m, n, D, Pl, hcs, hb, hl, hm, hmm, hx, hi⟩
 ·exact .inl h0
 ·refine .inr ⟨a, len, cap, m, D, Pl, hcs, hb, hl, hm, hmm, by rw [hC] at hx; exact hx, fun i him => ?_⟩
  obtain ⟨cs', hc, ht'⟩ := hi i him
  rw [hC] at hc
  obtain ⟨ys, n', hn', hy, hlen, hyl, hf⟩ := DataW.trod_struct he ht'
  obtain ⟨_, hcl, hat⟩ := World.cells?_some hc
  simp only [Prod.mk.injEq] at hy
  refine ⟨ys, n', hy.1, hy.2, hyl, fun j f hj => ?_⟩
  obtain ⟨ho, hk⟩ := hone_of hone j f hj
  have hjl : j < fs.size := (Array.getElem?_eq_some_iff.1 hj).1
  have hcell := hat j hjl
  have hv : cs'[j]? = some (cs'[j]'(by omega)) := List.getElem?_eq_getElem (by omega)
  have h1 := hf j f hj
  rw [ho, hk] at h1
  have hone' : (cs'.drop j).take 1 = [cs'[j]'(by omega)] := by
   rw [List.drop_eq_getElem_cons (by omega)]
   rfl
  rw [hone'] at h1
  have hys : ys[j]? = some (ys[j]'(by omega)) := List.getElem?_eq_getElem (by omega)
  refine ⟨_, _, ?_, hys, h1.trans hys⟩
  rw [← Go.Deep.add_add, hcell, hv]
end
theorem bulk_pos {H : Type} (d : DataW H) : 1 ≤ Rows.uptoBulk d := by
 cases d <;> (try (rename_i x; cases x)) <;> simp [Rows.uptoBulk]
theorem bulkAll_mem {H : Type} : ∀ {l : List (DataW H)} {d : DataW H}, d ∈ l → Rows.uptoBulk d ≤ Rows.uptoBulkAll l
 | e :: r, d, h => by
  rw [Rows.uptoBulkAll]
  rcases List.mem_cons.1 h with rfl | h
  ·omega
  ·have := bulkAll_mem h
   omega
theorem bulkAll_len {H : Type} : ∀ l : List (DataW H), l.length ≤ Rows.uptoBulkAll l
 | [] => Nat.zero_le _
 | e :: r => by
  have := bulkAll_len r
  have := bulk_pos e
  rw [Rows.uptoBulkAll, List.length_cons]
  omega

def bulkK : List Tx → Nat
 | [] => 0
 | t :: r => t.length + 1 + bulkK r
theorem bulkK_lens : ∀ ts : List Tx, lens ts + ts.length = bulkK ts
 | [] => rfl
 | t :: r => by
  have := bulkK_lens r
  simp only [lens, bulkK, List.length_cons]
  omega
theorem lens_mem : ∀ (ts : List Tx) (t : Tx), t ∈ ts → t.length ≤ lens ts
 | s :: r, t, h => by
  rw [lens]
  rcases List.mem_cons.1 h with rfl | h
  ·omega
  ·have := lens_mem r t h
   omega
theorem list_of {α : Type} (P : Nat → α → Prop) : ∀ n, (∀ i, i < n → ∃ s, P i s) → ∃ l : List α, l.length = n ∧ ∀ j s, l[j]? = some s → P j s
 | 0, _ => ⟨[], rfl, fun j s h => by simp at h⟩
 | n + 1, h => by
  obtain ⟨l, hl, hp⟩ := list_of P n fun i hi => h i (by omega)
  obtain ⟨s, hs⟩ := h n (by omega)
  refine ⟨l ++ [s], by simp [hl], fun j u hj => ?_⟩
  rcases Nat.lt_or_ge j l.length with hlt | hge
  ·rw [List.getElem?_append_left hlt] at hj
   exact hp j u hj
  ·rw [List.getElem?_append_right hge] at hj
   rcases Nat.lt_or_ge (j - l.length) 1 with h1 | h1
   ·have e : j - l.length = 0 := by omega
    rw [e] at hj
    injection hj with hj
    subst hj
    have e2 : j = n := by omega
    rw [e2]
    exact hs
   ·rw [List.getElem?_eq_none (by simpa using h1)] at hj
    cases hj
section
variable {H : Type} {enc : TypeId × Value → H} {W : World}
theorem kin_of {n : Nat} {v : Value} {y : DataW H × List MemPlace} (h : DataW.trod enc Tryz.prog W 0 (fun _ => true) true n 77 [v] = some y) :
  ∃ (ts : List Tx) (A : Option Addr) (cap : Nat), v = .slice A ts.length cap ∧ RdK W v ts ∧ bulkK ts ≤ Rows.uptoBulk y.1 ∧ ts.length ≤ cap := by
 rcases open_strings Tryz.underlying77 Tryz.underlying9 (by kernel_rfl) h with ⟨hcs, hx⟩ | ⟨ad, len, cap, ss, hcs, _, hl, hm, hz, hx, hcell, hws⟩
 ·injection hcs with e _
  subst e
  exact ⟨[], none, 0, rfl, ⟨none, 0, rfl, .inl rfl⟩, Nat.zero_le _, Nat.zero_le _⟩
 ·injection hcs with e _
  subst e
  have hz' : ss.length = cap := by simpa using hz
  have hlen : ((ss.take len).map fun s => s.data.toList).length = len := by rw [List.length_map, List.length_take]; omega
  refine ⟨(ss.take len).map fun s => s.data.toList, some ad, cap, by rw [hlen], ?_, ?_, by rw [hlen]; exact hl⟩
  ·refine ⟨some ad, cap, by rw [hlen], ?_⟩
   rcases Nat.eq_zero_or_pos len with h0 | hp
   ·exact .inl (List.length_eq_zero_iff.1 (by omega))
   ·obtain ⟨g, o, spot⟩ := ad
    have hspot : spot = none := by simpa [Addr.add] using World.cell?_spot (hcell 0 (by omega))
    subst hspot
    refine .inr ⟨g, o, rfl, fun j t hj => ?_⟩
    have hjl : j < len := by
     rcases Nat.lt_or_ge j len with h | h
     ·exact h
     ·rw [List.getElem?_eq_none (by omega)] at hj
      cases hj
    have hc := hcell j (by omega)
    have e1 : (⟨g, o, none⟩ : Addr).add j = ⟨g, o + j, none⟩ := by
     unfold Addr.add
     split <;> simp_all
    rw [e1] at hc
    rw [List.getElem?_map, List.getElem?_take, if_pos hjl, List.getElem?_eq_getElem (by omega)] at hj
    injection hj with hj
    subst hj
    rw [hc, List.getD_eq_getElem?_getD, List.getElem?_eq_getElem (by omega)]
    rfl
  ·have hd : y.1 = .slice (ChangeShapes.strs (ss.take len)) (ChangeShapes.strs (ss.drop len)) := by
    have := congrArg Prod.fst hx
    exact this
   rw [hd]
   have hall : ∀ l : List ByteArray, bulkK (l.map fun s => s.data.toList) = Rows.uptoBulkAll (ChangeShapes.strs (H := H) l) := by
    intro l
    induction l with
    | nil => simp [bulkK, ChangeShapes.strs, Rows.uptoBulkAll]
    | cons s r ih =>
     simp only [ChangeShapes.strs, List.map_cons, bulkK, Rows.uptoBulkAll, Rows.uptoBulk] at ih ⊢
     omega
   rw [hall, Rows.uptoBulk]
   omega
def CntP (n : Int) : Prop := -9223372036854775808 ≤ n ∧ n ≤ 9223372036854775807
theorem step_of {n : Nat} {g o : Nat} {c0 c1 c2 c3 c4 c5 : Value} {y0 y1 y2 y3 y4 y5 : DataW H × List MemPlace}
  (a0 : W.cell? ⟨g, o, none⟩ = some c0) (a1 : W.cell? ⟨g, o + 1, none⟩ = some c1) (a2 : W.cell? ⟨g, o + 2, none⟩ = some c2) (a3 : W.cell? ⟨g, o + 3, none⟩ = some c3) (a4 : W.cell? ⟨g, o + 4, none⟩ = some c4) (a5 : W.cell? ⟨g, o + 5, none⟩ = some c5)
  (h0 : DataW.trod enc Tryz.prog W 0 (fun _ => true) true n 117 [c0] = some y0) (h1 : DataW.trod enc Tryz.prog W 0 (fun _ => true) true n 4 [c1] = some y1)
  (h2 : DataW.trod enc Tryz.prog W 0 (fun _ => true) true n 64 [c2] = some y2) (h3 : DataW.trod enc Tryz.prog W 0 (fun _ => true) true n 9 [c3] = some y3)
  (h4 : DataW.trod enc Tryz.prog W 0 (fun _ => true) true n 3 [c4] = some y4) (h5 : DataW.trod enc Tryz.prog W 0 (fun _ => true) true n 77 [c5] = some y5)
  (hb : Rows.uptoBulk y3.1 + Rows.uptoBulk y5.1 ≤ 1048576) :
  ∃ s : Stp, (∃ K q, CellS W g o s K q) ∧ s.Fine ∧ CntP s.count := by
 obtain ⟨n0, e0, _, _⟩ := DataW.trod_int Tryz.underlying117 h0
 obtain ⟨b1, e1, _⟩ := DataW.trod_bool Tryz.underlying4 h1
 obtain ⟨n2, e2, _, hw2⟩ := DataW.trod_int Tryz.underlying64 h2
 obtain ⟨s3, e3, y3e, _⟩ := DataW.trod_string Tryz.underlying9 h3
 obtain ⟨n4, e4, _, hw4⟩ := DataW.trod_int Tryz.underlying3 h4
 obtain ⟨t5, A5, k5, e5, r5, b5, l5⟩ := kin_of h5
 injection e0 with e0 _
 injection e1 with e1 _
 injection e2 with e2 _
 injection e3 with e3 _
 injection e4 with e4 _
 subst e0 e1 e2 e3 e4 e5 y3e
 simp only [Rows.uptoBulk] at hb
 have hr : 0 ≤ n2 ∧ n2 ≤ 18446744073709551615 := by
  have h := hw2
  simp [Lit.wf, IntKind.min, IntKind.max, IntKind.signed, IntKind.bits] at h
  omega
 have hc4 : CntP n4 := by
  have h := hw4
  simp [Lit.wf, IntKind.min, IntKind.max, IntKind.signed, IntKind.bits] at h
  unfold CntP
  omega
 have hk := bulkK_lens t5
 have hcast : ((n2.toNat : Nat) : Int) = n2 := by omega
 refine ⟨⟨n0, b1, n2.toNat, s3.data.toList, n4, t5⟩, ⟨A5, k5, ⟨a0, a1, by rw [hcast]; exact a2, a3, a4, a5, r5, l5⟩⟩, ⟨by show n2.toNat < _; omega, by show s3.data.toList.length ≤ _; omega, fun k hk2 => ?_, by show lens t5 ≤ _; omega, by show t5.length ≤ _; omega⟩, hc4⟩
 have := lens_mem t5 k hk2
 omega
theorem open_stepsC {A : Option Addr} {len cap : Nat} {d : DataW H} {ps : List MemPlace} (h : DataW.Trod enc Tryz.prog W 0 (fun _ => true) true 22 (.slice A len cap) d ps) (hb : Rows.uptoBulk d ≤ 1048576) :
  ∃ ss : List Stp, ss.length = len ∧ RdS W (.slice A len cap) ss ∧ (∀ s ∈ ss, s.Fine) ∧ ss.length ≤ 1048576 ∧ ∀ s ∈ ss, CntP s.count := by
 obtain ⟨fuel, hf⟩ := h
 rcases open_slice_fields Tryz.underlying22 Tryz.underlying119 (by kernel_rfl) (by kernel_rfl) hf with ⟨hcs, hx⟩ | ⟨ad, len', cap', m, D, Pl, hcs, _, hl, hm, hmm, hx, hi⟩
 ·simp [Value.cells] at hcs
  obtain ⟨rfl, rfl, rfl⟩ := hcs
  exact ⟨[], rfl, ⟨none, 0, rfl, .inl rfl⟩, fun s hs => by simp at hs, Nat.zero_le _, fun s hs => by simp at hs⟩
 ·simp [Value.cells] at hcs
  obtain ⟨rfl, rfl, rfl⟩ := hcs
  have hm' : m = cap := by simpa using hmm
  have hd : d = _ := congrArg Prod.fst hx
  subst hd
  simp only [Rows.uptoBulk] at hb
  have hlen : len ≤ 1048576 := by
   have := bulkAll_len ((List.range len).map D)
   simp only [List.length_map, List.length_range] at this
   omega
  rcases Nat.eq_zero_or_pos len with h0 | hp
  ·subst h0
   exact ⟨[], rfl, ⟨some ad, cap, rfl, .inl rfl⟩, fun s hs => by simp at hs, Nat.zero_le _, fun s hs => by simp at hs⟩
  obtain ⟨_, _, _, _, _, hff0⟩ := hi 0 (by omega)
  obtain ⟨_, _, a00, _, _⟩ := hff0 0 _ rfl
  obtain ⟨g, o, spot⟩ := ad
  have hspot : spot = none := by simpa [Addr.add] using World.cell?_spot a00
  subst hspot
  have e1 : ∀ i, (⟨g, o, none⟩ : Addr).add i = ⟨g, o + i, none⟩ := fun i => by
   unfold Addr.add
   split <;> simp_all
  have hj : ∀ j, j < len → ∃ s : Stp, (∃ K q, CellS W g (o + j * 6) s K q) ∧ s.Fine ∧ CntP s.count := by
   intro j hjl
   obtain ⟨ys, n, hD, _, hyl, hff⟩ := hi j (by omega)
   have hbj : Rows.uptoBulk (D j) ≤ 1048576 := by
    have : Rows.uptoBulk (D j) ≤ Rows.uptoBulkAll ((List.range len).map D) := bulkAll_mem (List.mem_map.2 ⟨j, List.mem_range.2 hjl, rfl⟩)
    omega
   rw [hD] at hbj
   match ys, hyl with
   | [y0, y1, y2, y3, y4, y5], _ =>
    obtain ⟨c0, _, a0, b0, t0⟩ := hff 0 _ rfl
    obtain ⟨c1, _, a1, b1, t1⟩ := hff 1 _ rfl
    obtain ⟨c2, _, a2, b2, t2⟩ := hff 2 _ rfl
    obtain ⟨c3, _, a3, b3, t3⟩ := hff 3 _ rfl
    obtain ⟨c4, _, a4, b4, t4⟩ := hff 4 _ rfl
    obtain ⟨c5, _, a5, b5, t5⟩ := hff 5 _ rfl
    injection b0 with b0; injection b1 with b1; injection b2 with b2; injection b3 with b3; injection b4 with b4; injection b5 with b5
    subst b0 b1 b2 b3 b4 b5
    simp only [List.map_cons, List.map_nil, Rows.uptoBulk, Rows.uptoBulkAll] at hbj
    rw [e1] at a0 a1 a2 a3 a4 a5
    exact step_of (o := o + j * 6) a0 a1 a2 a3 a4 a5 t0 t1 t2 t3 t4 t5 (by omega)
  obtain ⟨ss, hsl, hss⟩ := list_of (fun j s => (∃ K q, CellS W g (o + j * 6) s K q) ∧ s.Fine ∧ CntP s.count) len hj
  refine ⟨ss, hsl, ⟨some ⟨g, o, none⟩, cap, by rw [hsl], .inr ⟨g, o, rfl, fun j s h => (hss j s h).1⟩⟩, fun s hs => ?_, by omega, fun s hs => ?_⟩
  ·obtain ⟨j, hjl, rfl⟩ := List.getElem_of_mem hs
   exact (hss j _ (List.getElem?_eq_getElem hjl)).2.1
  ·obtain ⟨j, hjl, rfl⟩ := List.getElem_of_mem hs
   exact (hss j _ (List.getElem?_eq_getElem hjl)).2.2
end
end Nd
end Go.Proofs.YtbajkglacfheiaaGreatDoor
