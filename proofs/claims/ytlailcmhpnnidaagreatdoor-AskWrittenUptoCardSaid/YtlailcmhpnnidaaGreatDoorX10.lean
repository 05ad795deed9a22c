/-
  Walks of package node: Build. Assertions of an item to its six types. Walks of package node: Value. Walks of package node: Value of objects, of every tree. What trees that steps make are like; Value of every such tree. Walks of package node and of layer 10's statements: Root, a tree's Value, wakes, number. Walks of package node: Build of any steps; the root of a nil tree.
-/
import Derived.Test.YtlailcmhpnnidaaGreatDoorX9
import Derived.Deep.RegionHeldLaw
set_option linter.unusedVariables false
set_option linter.unusedSimpArgs false
set_option maxRecDepth 100000
set_option maxHeartbeats 16000000
namespace Go.Proofs.YtlailcmhpnnidaaGreatDoor
open Go.RowKit Mem
namespace Nd

structure CellS (w : World) (g o : Nat) (s : Stp) (K : Option Addr) (q : Nat) : Prop where
 c0 : w.cell? ⟨g, o, none⟩ = some (.int .i64 s.sort)
 c1 : w.cell? ⟨g, o + 1, none⟩ = some (.bool s.flag)
 c2 : w.cell? ⟨g, o + 2, none⟩ = some (.int .u64 (s.bits : Int))
 c3 : w.cell? ⟨g, o + 3, none⟩ = some (.string ⟨s.text.toArray⟩)
 c4 : w.cell? ⟨g, o + 4, none⟩ = some (.int .i64 s.count)
 c5 : w.cell? ⟨g, o + 5, none⟩ = some (.slice K s.keys.length q)
 ks : RdK w (.slice K s.keys.length q) s.keys
 kc : s.keys.length ≤ q
theorem CellS.below {w w' : World} {g o : Nat} {s : Stp} {K : Option Addr} {q : Nat} (h : CellS w g o s K q) (hb : Below w.heap.size w w') : CellS w' g o s K q := by
 have hlt : g < w.heap.size := World.block_lt_of_cell? w _ h.c0
 have ho := (old hb).1
 exact ⟨(ho _ _ hlt).trans h.c0, (ho _ _ hlt).trans h.c1, (ho _ _ hlt).trans h.c2, (ho _ _ hlt).trans h.c3, (ho _ _ hlt).trans h.c4, (ho _ _ hlt).trans h.c5, h.ks.below hb, h.kc⟩
def RdS (w : World) (v : Value) (ss : List Stp) : Prop := ∃ A c, v = .slice A ss.length c ∧ (ss = [] ∨ ∃ g o, A = some ⟨g, o, none⟩ ∧ ∀ (j : Nat) (s : Stp), ss[j]? = some s → ∃ K q, CellS w g (o + j * 6) s K q)
theorem RdS.below {w w' : World} {v : Value} {ss : List Stp} (h : RdS w v ss) (hb : Below w.heap.size w w') : RdS w' v ss := by
 obtain ⟨A, c, hv, h⟩ := h
 refine ⟨A, c, hv, ?_⟩
 rcases h with h | ⟨g, o, hA, hc⟩
 ·exact .inl h
 ·exact .inr ⟨g, o, hA, fun j s hs => by obtain ⟨K, q, h⟩ := hc j s hs; exact ⟨K, q, h.below hb⟩⟩
def runT : List Tr → List Stp → Nat → Sum (Int × Nat) (List Tr)
 | l, [], _ => .inr l
 | l, s :: ss, i => if (doT l s).1 = 0 then runT (doT l s).2 ss (i + 1) else .inl ((doT l s).1, i)
def buildT (ss : List Stp) : Sum (Int × Int) Tr :=
 if 65536 < ss.length then .inl (3, -1) else match runT [] ss 0 with
  | .inl (n, i) => .inl (n, i)
  | .inr [t] => .inr t
  | .inr _ => .inl (103, ss.length)
theorem RwX.below {p : Nat} {ty : TypeId} {B : Nat} {l : List Tr} {w w' : World} (h : RwX p ty B l w) (hb : Below w.heap.size w w') : RwX p ty B l w' := by
 obtain ⟨v, xs, h⟩ := h
 exact ⟨v, xs, h.below hb⟩
theorem RdT.iface {S : Nat → Prop} {w : World} {t : Tr} {v : Value} (h : RdT S w t v) : ∃ tx ux, v = .iface tx ux := by
 cases t <;> unfold RdT at h
 ·exact ⟨_, _, h⟩
 ·exact ⟨_, _, h⟩
 ·exact ⟨_, _, h⟩
 ·exact ⟨_, _, h⟩
 ·obtain ⟨g, A, c, vs, h, _⟩ := h
  exact ⟨_, _, h⟩
 ·obtain ⟨g, B, d, A, c, vs, h, _⟩ := h
  exact ⟨_, _, h⟩
theorem doT_len (l : List Tr) (s : Stp) : (doT l s).2.length ≤ l.length + 1 := by
 have hl : ∀ k, (listT k l).2.length ≤ l.length + 1 := by
  intro k
  unfold listT
  repeat' split
  all_goals simp <;> omega
 have ho : (objT rightB s.keys l).2.length ≤ l.length + 1 := by
  unfold objT
  repeat' split
  all_goals simp <;> omega
 unfold doT
 repeat' split
 all_goals first | exact hl _ | exact ho | (simp <;> omega)
def spotB (n i : Int) : Value := if i < 0 then errN n else .iface 154 (.agg #[.int .i64 n, .int .i64 i])
def TreeAt (B : Nat) (w : World) (g : Nat) (t : Tr) : Prop := B ≤ g ∧ t.fit = true ∧ ∃ v, Blk w g 155 #[v] ∧ RdT (fun k => B ≤ k) w t v
def BuildP (ss : List Stp) (w : World) (e : Ending) (w' : World) : Prop :=
 Below w.heap.size w w' ∧ match buildT ss with
  | .inl (n, i) => e = .returned (.tuple #[.pointer none, spotB n i])
  | .inr t => ∃ g, e = .returned (.tuple #[.pointer (some ⟨g, 0, none⟩), .nilIface]) ∧ TreeAt w.heap.size w' g t
theorem build_long (v : Value) (ss : List Stp) (w : World) (hS : RdS w v ss) (hn : 65536 < ss.length) :
  Calls Tryz.prog 26 #[v] w (BuildP ss w) := by
 obtain ⟨A, c, rfl, _⟩ := hS
 have hB : Hid (buildT ss = .inl (3, -1)) := Lib.hid (by unfold buildT; rw [if_pos hn])
 have hd : decide (65536 < (ss.length : Int)) = true := decide_eq_true (by omega)
 clear hn
 go_enter Tryz.func26, Tryz.ntmps26
 go_wp2
 go_ret2
 refine ⟨Below.refl _ _, ?_⟩
 rw [hB.out]
 rfl
theorem build_any (v : Value) (ss : List Stp) (w : World) (hS : RdS w v ss) (hF : ∀ s ∈ ss, s.Fine) (hn : ss.length ≤ 65536) :
  Calls Tryz.prog 26 #[v] w (BuildP ss w) := by
 have HS := Lib.hid hS
 obtain ⟨A, c, rfl, _⟩ := hS
 have HF := Lib.hid hF
 clear hF
 have q1 := err_ne_nil
 have q2 := err_ne_held
 go_enter Tryz.func26, Tryz.ntmps26
 go_wp2
 go_loopw [14] (fun c14 wr => ∃ (k : Nat) (l : List Tr), k ≤ ss.length ∧ c14 = .int .i64 k ∧ l.length ≤ k ∧ Hid (runT [] ss 0 = runT l (ss.drop k) k) ∧ Hid (RwX w.heap.size 151 (w.heap.size + 1) l wr) ∧ Below w.heap.size w wr ∧ w.heap.size < wr.heap.size) (fun c14 _ => ss.length - (intOf c14).toNat)
 case atStart =>
  refine ⟨0, [], by omega, rfl, by simp, Lib.hid rfl, Lib.hid ⟨.slice none 0 0, [], Blk.new _ _ _, World.ownsRow_nil _ _ _ _, by unfold RdL; rfl, by simp, by omega, by simp⟩, (Below.refl _ _).alloc (Nat.le_refl _) _, by simp⟩
 case round =>
  obtain ⟨k, l, hk, rfl, hlk, HR, HX, hbr, hsz⟩ := hrel
  by_cases hlt : k < ss.length
  ·have hcs : ∃ g o K q, A = some ⟨g, o, none⟩ ∧ CellS wr g (o + k * 6) ss[k] K q := by
    obtain ⟨A', c', e', h'⟩ := HS.out
    injection e' with e1 e2 e3
    rcases h' with h' | ⟨g, o, hA, hc⟩
    ·rw [h'] at hlt
     simp at hlt
    ·obtain ⟨K, q, h⟩ := hc k _ (List.getElem?_eq_getElem hlt)
     exact ⟨g, o, K, q, by rw [e1, hA], h.below hbr⟩
   obtain ⟨g, o, K, q, rfl, hC⟩ := hcs
   have HC := Lib.hid hC
   obtain ⟨c0, c1, c2, c3, c4, c5, ck⟩ := hC
   have hfine := HF.out _ (List.getElem_mem hlt)
   have hdr : ss.drop k = ss[k] :: ss.drop (k + 1) := List.drop_eq_getElem_cons hlt
   have HDR := Lib.hid hdr
   have HFI := Lib.hid hfine
   clear hdr hfine ck
   generalize ss[k] = s at *
   have hba : Below wr.heap.size wr (wr.alloc (.cells #[.int .i64 s.sort, .bool s.flag, .int .u64 (s.bits : Int), .string ⟨s.text.toArray⟩, .int .i64 s.count, .slice K s.keys.length q] 79)) := (Below.refl _ _).alloc (Nat.le_refl _) _
   have HXA := Lib.hid (HX.out.below hba)
   have HKA := Lib.hid (HC.out.ks.below hba)
   have hdl := doT_len l s
   go_wp2_with fail
   ((with_reducible refine (do_any s HFI.out K q w.heap.size 151 (w.heap.size + 1) l _ HXA.out HKA.out (by omega)).mono ?_); rintro e w1 ⟨rfl, hx1, hb1, _⟩)
   have hbr1 : Below w.heap.size w w1 := (hbr.alloc hbr.size _).trans hb1
   have hsz1 : w.heap.size < w1.heap.size := by have := hb1.size; have := hba.size; omega
   have HX1 := Lib.hid hx1
   clear hx1 hb1 hba
   by_cases h0 : (doT l s).1 = 0
   ·have HR2 : Hid (runT [] ss 0 = runT (doT l s).2 (ss.drop (k + 1)) (k + 1)) := Lib.hid (by rw [HR.out, HDR.out, runT, if_pos h0])
    have hev : errV (doT l s).1 = .nilIface := by unfold errV; rw [if_pos h0]
    rw [hev]
    clear hev h0
    generalize (doT l s).2 = l2 at *
    go_wp2
    go_roundw
    case rel => exact ⟨k + 1, l2, by omega, by go_num, by omega, HR2, HX1, hbr1, hsz1⟩
    case measure => simp [intOf]; omega
   ·have HR2 : Hid (buildT ss = .inl ((doT l s).1, (k : Int))) := Lib.hid (by
     unfold buildT
     rw [if_neg (by omega), HR.out, HDR.out, runT, if_neg h0])
    have hev : errV (doT l s).1 = .iface 128 (.int .i64 (doT l s).1) := by unfold errV; rw [if_neg h0]; rfl
    rw [hev]
    clear hev
    have HPOST : Hid (∀ W, Below w.heap.size w W → BuildP ss w (.returned (.tuple #[.pointer none, .iface 154 (.agg #[.int .i64 (doT l s).1, .int .i64 k])])) W) := Lib.hid (by
     intro W hW
     refine ⟨hW, ?_⟩
     rw [HR2.out]
     simp only [spotB]
     rw [if_neg (by omega)])
    clear HR2 h0
    generalize (doT l s).1 = m at *
    have hta : ∀ W, (Instr.typeAssert (.iface 128 (.int .i64 m)) 70 128 false).run Tryz.prog W = .ok (.int .i64 m) W := fun W => by kernel_rfl
    go_wp2_with fail
    go_quiet (fail)
    go_wp2
    go_ret2
    exact HPOST.out _ (hbr1.trans (drewN_below _ _))
  ·have hkn : k = ss.length := by omega
   subst hkn
   have hdr : ss.drop ss.length = [] := List.drop_eq_nil_of_le (Nat.le_refl _)
   have HR2 : Hid (runT [] ss 0 = .inr l) := Lib.hid (by rw [HR.out, hdr, runT])
   clear hdr HR
   obtain ⟨v1, xs1, hR1⟩ := HX.out
   obtain ⟨A1, q1', rfl⟩ := own_slice hR1.own
   have HR1 := Lib.hid hR1
   have a0 : wr.cell? ⟨w.heap.size, 0, none⟩ = some (.slice A1 l.length q1') := hR1.bl.cell 0
   clear hR1
   by_cases h1 : l.length = 1
   ·obtain ⟨t, rfl⟩ : ∃ t, l = [t] := by
     match l, h1 with
     | [t], _ => exact ⟨t, rfl⟩
    simp only [List.length_cons, List.length_nil, Nat.zero_add] at a0
    have hcell : ∃ g x, A1 = some ⟨g, 0, none⟩ ∧ wr.cell? ⟨g, 0, none⟩ = some x ∧ RdT (fun k => w.heap.size ≤ k) wr t x := by
     have hr := HR1.out.rd
     have hl := hr.len
     obtain ⟨x, rfl⟩ : ∃ x, xs1 = [x] := by
      match xs1, hl with
      | [x], _ => exact ⟨x, rfl⟩
     have hx := hr.at (j := 0) rfl rfl
     have ho := HR1.out.own
     rcases ho.2 with ⟨_, h⟩ | ⟨g, cap, cur, h, _, hg, _, _, hs, ht⟩
     ·cases h
     ·injection h with h1 _ _
      refine ⟨g, x, h1, ?_, RdT.move (fun j hj hs => ⟨by have := hs.1; omega, rfl⟩) _ _ hx⟩
      rw [cell_of_row wr g 0 cur _ _ hg]
      have h2 : (cur.toList.take ([t].length * 1))[0]? = some x := by rw [ht]; rfl
      rw [List.getElem?_take] at h2
      simpa using h2
    obtain ⟨g1, x, rfl, hc1, hrd⟩ := hcell
    have hfit : t.fit = true := HR1.out.fit t (by simp)
    obtain ⟨tx, ux, rfl⟩ := hrd.iface
    have hpost : BuildP ss w (.returned (.tuple #[.pointer (some ⟨wr.heap.size, 0, none⟩), .nilIface])) (wr.alloc (.cells #[.iface tx ux] 155)) := by
     refine ⟨hbr.alloc hbr.size _, ?_⟩
     have hb : buildT ss = .inr t := by
      unfold buildT
      rw [if_neg (by omega), HR2.out]
     rw [hb]
     exact ⟨_, rfl, by omega, hfit, _, Blk.new _ _ _, RdT.move (fun j hj hs => ⟨hs, Below.heap_alloc wr _ j hj⟩) _ _ hrd⟩
    have HP := Lib.hid hpost
    clear hpost hrd
    go_wp2
    go_ret2
    exact HP.out
   ·have hpost : BuildP ss w (.returned (.tuple #[.pointer none, .iface 154 (.agg #[.int .i64 103, .int .i64 ss.length])])) wr := by
     refine ⟨hbr, ?_⟩
     have hb : buildT ss = .inl (103, ss.length) := by
      unfold buildT
      rw [if_neg (by omega), HR2.out]
      match l, h1 with
      | [], _ => rfl
      | _ :: _ :: _, _ => rfl
     rw [hb]
     simp only [spotB]
     rw [if_neg (by omega)]
    have HP := Lib.hid hpost
    clear hpost
    go_wp2
    go_ret2
    exact HP.out
end Nd
end Go.Proofs.YtlailcmhpnnidaaGreatDoor
namespace Go.Proofs.YtlailcmhpnnidaaGreatDoor
open Go.RowKit Mem
namespace Nd

theorem ta_0_0  (W : World) : (Instr.typeAssert (.iface 160 (.agg #[])) 66 160 true).run Tryz.prog W = .ok (.tuple #[.agg #[], .bool true]) W := by kernel_rfl
theorem ta_0_4  (W : World) : (Instr.typeAssert (.iface 160 (.agg #[])) 66 164 true).run Tryz.prog W = .ok (.tuple #[.pointer none, .bool false]) W := by kernel_rfl
theorem ta_0_5  (W : World) : (Instr.typeAssert (.iface 160 (.agg #[])) 66 169 true).run Tryz.prog W = .ok (.tuple #[.pointer none, .bool false]) W := by kernel_rfl
theorem ta_1_0 (b : Bool) (W : World) : (Instr.typeAssert (.iface 161 (.bool b)) 66 160 true).run Tryz.prog W = .ok (.tuple #[.agg #[], .bool false]) W := by kernel_rfl
theorem ta_1_1 (b : Bool) (W : World) : (Instr.typeAssert (.iface 161 (.bool b)) 66 161 true).run Tryz.prog W = .ok (.tuple #[.bool b, .bool true]) W := by kernel_rfl
theorem ta_1_4 (b : Bool) (W : World) : (Instr.typeAssert (.iface 161 (.bool b)) 66 164 true).run Tryz.prog W = .ok (.tuple #[.pointer none, .bool false]) W := by kernel_rfl
theorem ta_1_5 (b : Bool) (W : World) : (Instr.typeAssert (.iface 161 (.bool b)) 66 169 true).run Tryz.prog W = .ok (.tuple #[.pointer none, .bool false]) W := by kernel_rfl
theorem ta_2_0 (x : Nat) (W : World) : (Instr.typeAssert (.iface 162 (.float .f64 x)) 66 160 true).run Tryz.prog W = .ok (.tuple #[.agg #[], .bool false]) W := by kernel_rfl
theorem ta_2_1 (x : Nat) (W : World) : (Instr.typeAssert (.iface 162 (.float .f64 x)) 66 161 true).run Tryz.prog W = .ok (.tuple #[.bool false, .bool false]) W := by kernel_rfl
theorem ta_2_2 (x : Nat) (W : World) : (Instr.typeAssert (.iface 162 (.float .f64 x)) 66 162 true).run Tryz.prog W = .ok (.tuple #[.float .f64 x, .bool true]) W := by kernel_rfl
theorem ta_2_4 (x : Nat) (W : World) : (Instr.typeAssert (.iface 162 (.float .f64 x)) 66 164 true).run Tryz.prog W = .ok (.tuple #[.pointer none, .bool false]) W := by kernel_rfl
theorem ta_2_5 (x : Nat) (W : World) : (Instr.typeAssert (.iface 162 (.float .f64 x)) 66 169 true).run Tryz.prog W = .ok (.tuple #[.pointer none, .bool false]) W := by kernel_rfl
theorem ta_3_0 (s : ByteArray) (W : World) : (Instr.typeAssert (.iface 163 (.string s)) 66 160 true).run Tryz.prog W = .ok (.tuple #[.agg #[], .bool false]) W := by kernel_rfl
theorem ta_3_1 (s : ByteArray) (W : World) : (Instr.typeAssert (.iface 163 (.string s)) 66 161 true).run Tryz.prog W = .ok (.tuple #[.bool false, .bool false]) W := by kernel_rfl
theorem ta_3_2 (s : ByteArray) (W : World) : (Instr.typeAssert (.iface 163 (.string s)) 66 162 true).run Tryz.prog W = .ok (.tuple #[.float .f64 0, .bool false]) W := by kernel_rfl
theorem ta_3_3 (s : ByteArray) (W : World) : (Instr.typeAssert (.iface 163 (.string s)) 66 163 true).run Tryz.prog W = .ok (.tuple #[.string s, .bool true]) W := by kernel_rfl
theorem ta_3_4 (s : ByteArray) (W : World) : (Instr.typeAssert (.iface 163 (.string s)) 66 164 true).run Tryz.prog W = .ok (.tuple #[.pointer none, .bool false]) W := by kernel_rfl
theorem ta_3_5 (s : ByteArray) (W : World) : (Instr.typeAssert (.iface 163 (.string s)) 66 169 true).run Tryz.prog W = .ok (.tuple #[.pointer none, .bool false]) W := by kernel_rfl
theorem ta_4_0 (g : Option Addr) (W : World) : (Instr.typeAssert (.iface 164 (.pointer g)) 66 160 true).run Tryz.prog W = .ok (.tuple #[.agg #[], .bool false]) W := by kernel_rfl
theorem ta_4_1 (g : Option Addr) (W : World) : (Instr.typeAssert (.iface 164 (.pointer g)) 66 161 true).run Tryz.prog W = .ok (.tuple #[.bool false, .bool false]) W := by kernel_rfl
theorem ta_4_2 (g : Option Addr) (W : World) : (Instr.typeAssert (.iface 164 (.pointer g)) 66 162 true).run Tryz.prog W = .ok (.tuple #[.float .f64 0, .bool false]) W := by kernel_rfl
theorem ta_4_3 (g : Option Addr) (W : World) : (Instr.typeAssert (.iface 164 (.pointer g)) 66 163 true).run Tryz.prog W = .ok (.tuple #[.string ⟨#[]⟩, .bool false]) W := by kernel_rfl
theorem ta_4_4 (g : Option Addr) (W : World) : (Instr.typeAssert (.iface 164 (.pointer g)) 66 164 true).run Tryz.prog W = .ok (.tuple #[.pointer g, .bool true]) W := by kernel_rfl
theorem ta_4_5 (g : Option Addr) (W : World) : (Instr.typeAssert (.iface 164 (.pointer g)) 66 169 true).run Tryz.prog W = .ok (.tuple #[.pointer none, .bool false]) W := by kernel_rfl
theorem ta_5_0 (g : Option Addr) (W : World) : (Instr.typeAssert (.iface 169 (.pointer g)) 66 160 true).run Tryz.prog W = .ok (.tuple #[.agg #[], .bool false]) W := by kernel_rfl
theorem ta_5_1 (g : Option Addr) (W : World) : (Instr.typeAssert (.iface 169 (.pointer g)) 66 161 true).run Tryz.prog W = .ok (.tuple #[.bool false, .bool false]) W := by kernel_rfl
theorem ta_5_2 (g : Option Addr) (W : World) : (Instr.typeAssert (.iface 169 (.pointer g)) 66 162 true).run Tryz.prog W = .ok (.tuple #[.float .f64 0, .bool false]) W := by kernel_rfl
theorem ta_5_3 (g : Option Addr) (W : World) : (Instr.typeAssert (.iface 169 (.pointer g)) 66 163 true).run Tryz.prog W = .ok (.tuple #[.string ⟨#[]⟩, .bool false]) W := by kernel_rfl
theorem ta_5_4 (g : Option Addr) (W : World) : (Instr.typeAssert (.iface 169 (.pointer g)) 66 164 true).run Tryz.prog W = .ok (.tuple #[.pointer none, .bool false]) W := by kernel_rfl
theorem ta_5_5 (g : Option Addr) (W : World) : (Instr.typeAssert (.iface 169 (.pointer g)) 66 169 true).run Tryz.prog W = .ok (.tuple #[.pointer g, .bool true]) W := by kernel_rfl
end Nd
end Go.Proofs.YtlailcmhpnnidaaGreatDoor
namespace Go.Proofs.YtlailcmhpnnidaaGreatDoor
open Go.RowKit Mem
namespace Nd

def Row2 (S : Nat → Prop) (w : World) (e : TypeId) (v : Value) (n : Nat) (xs : List Value) : Prop :=
 ∃ A c, v = .slice A n c ∧ xs.length = n * 2 ∧ (n = 0 ∨ ∃ g o cur, A = some ⟨g, o, none⟩ ∧ S g ∧ Blk w g e cur ∧ ∀ (j : Nat) (x : Value), xs[j]? = some x → cur[o + j]? = some x)
def pairs : List Tx → List Value → List Value
 | k :: ks, v :: vs => txV k :: v :: pairs ks vs
 | _, _ => []
mutual
def TdT (S : Nat → Prop) (w : World) : Tr → Value → Prop
 | .null, v => v = .iface 103 (.agg #[])
 | .flag b, v => v = .iface 104 (.bool b)
 | .num x, v => v = .iface 106 (.float .f64 x)
 | .text t, v => v = .iface 108 (.string ⟨t.toArray⟩)
 | .list l, v => ∃ u vs, v = .iface 109 u ∧ Row S w 35 u vs ∧ TdL S w l vs
 | .obj ks l, v => ∃ u vs, v = .iface 112 u ∧ ks.length = l.length ∧ Row2 S w 116 u l.length (pairs ks vs) ∧ TdL S w l vs
def TdL (S : Nat → Prop) (w : World) : List Tr → List Value → Prop
 | [], vs => vs = []
 | t :: l, vs => ∃ v vs', vs = v :: vs' ∧ TdT S w t v ∧ TdL S w l vs'
end
section
variable {S S' : Nat → Prop} {w w' : World} {e : TypeId} {v : Value} {xs vs : List Value}
theorem Row2.move {n : Nat} (h : Row2 S w e v n xs) (hm : ∀ k, k < w.heap.size → S k → S' k ∧ w'.heap[k]? = w.heap[k]?) : Row2 S' w' e v n xs := by
 obtain ⟨A, c, hv, hl, h⟩ := h
 refine ⟨A, c, hv, hl, ?_⟩
 rcases h with h | ⟨g, o, cur, hA, hS, hB, hc⟩
 ·exact .inl h
 ·have := hm g hB.lt hS
  exact .inr ⟨g, o, cur, hA, this.1, this.2.trans hB, hc⟩
theorem tdl_iff (S : Nat → Prop) (w : World) : ∀ (l : List Tr) (vs : List Value), TdL S w l vs ↔ vs.length = l.length ∧ ∀ (j : Nat) t v, l[j]? = some t → vs[j]? = some v → TdT S w t v
 | [], vs => by
  unfold TdL
  constructor
  ·rintro rfl
   exact ⟨rfl, fun j t v h => by simp at h⟩
  ·rintro ⟨h, _⟩
   exact List.length_eq_zero_iff.1 h
 | t :: l, vs => by
  unfold TdL
  constructor
  ·rintro ⟨v, vs', rfl, h1, h2⟩
   obtain ⟨h3, h4⟩ := (tdl_iff S w l vs').1 h2
   refine ⟨by simp [h3], fun j t' v' hj hv => ?_⟩
   cases j with
   | zero =>
    simp at hj hv
    subst hj; subst hv
    exact h1
   | succ j => exact h4 j t' v' (by simpa using hj) (by simpa using hv)
  ·rintro ⟨h1, h2⟩
   cases vs with
   | nil => simp at h1
   | cons v vs => exact ⟨v, vs, rfl, h2 0 t v rfl rfl, (tdl_iff S w l vs).2 ⟨by simpa using h1, fun j t' v' hj hv => h2 (j + 1) t' v' (by simpa using hj) (by simpa using hv)⟩⟩
theorem TdL.len {l : List Tr} (h : TdL S w l vs) : vs.length = l.length := ((tdl_iff S w l vs).1 h).1
theorem TdL.at {l : List Tr} (h : TdL S w l vs) {j : Nat} {t : Tr} {v : Value} (h1 : l[j]? = some t) (h2 : vs[j]? = some v) : TdT S w t v := ((tdl_iff S w l vs).1 h).2 j t v h1 h2
theorem TdT.move (hm : ∀ k, k < w.heap.size → S k → S' k ∧ w'.heap[k]? = w.heap[k]?) : ∀ t v, TdT S w t v → TdT S' w' t v := by
 intro t
 induction t using Tr.ind with
 | h0 => exact fun v h => by unfold TdT at h ⊢; exact h
 | h1 b => exact fun v h => by unfold TdT at h ⊢; exact h
 | h2 b => exact fun v h => by unfold TdT at h ⊢; exact h
 | h3 b => exact fun v h => by unfold TdT at h ⊢; exact h
 | h4 l ih =>
  intro v h
  unfold TdT at h ⊢
  obtain ⟨u, vs, hv, hR, hL⟩ := h
  exact ⟨u, vs, hv, hR.move hm, (tdl_iff _ _ _ _).2 ⟨hL.len, fun j t u h1 h2 => ih t (List.mem_of_getElem? h1) u (hL.at h1 h2)⟩⟩
 | h5 ks l ih =>
  intro v h
  unfold TdT at h ⊢
  obtain ⟨u, vs, hv, hk, hR, hL⟩ := h
  exact ⟨u, vs, hv, hk, hR.move hm, (tdl_iff _ _ _ _).2 ⟨hL.len, fun j t u h1 h2 => ih t (List.mem_of_getElem? h1) u (hL.at h1 h2)⟩⟩
theorem TdL.move {l : List Tr} (h : TdL S w l vs) (hm : ∀ k, k < w.heap.size → S k → S' k ∧ w'.heap[k]? = w.heap[k]?) : TdL S' w' l vs :=
 (tdl_iff _ _ _ _).2 ⟨h.len, fun _ _ _ h1 h2 => TdT.move hm _ _ (h.at h1 h2)⟩
theorem TdL.snoc {l : List Tr} {t : Tr} (h : TdL S w l vs) (h1 : TdT S w t v) : TdL S w (l ++ [t]) (vs ++ [v]) := by
 have hl := h.len
 refine (tdl_iff _ _ _ _).2 ⟨by simp [hl], fun j t' u' hj hu => ?_⟩
 rcases Nat.lt_or_ge j l.length with hlt | hge
 ·rw [List.getElem?_append_left hlt] at hj
  rw [List.getElem?_append_left (by omega)] at hu
  exact h.at hj hu
 ·rw [List.getElem?_append_right hge] at hj
  rw [List.getElem?_append_right (by omega)] at hu
  have e : j - vs.length = j - l.length := by omega
  rw [e] at hu
  cases hk : j - l.length with
  | zero =>
   rw [hk] at hj hu
   simp at hj hu
   subst hj; subst hu
   exact h1
  | succ k =>
   rw [hk] at hj
   simp at hj
theorem TdT.iface {t : Tr} (h : TdT S w t v) : ∃ tx ux, v = .iface tx ux := by
 cases t <;> unfold TdT at h
 ·exact ⟨_, _, h⟩
 ·exact ⟨_, _, h⟩
 ·exact ⟨_, _, h⟩
 ·exact ⟨_, _, h⟩
 ·obtain ⟨u, vs, h, _⟩ := h
  exact ⟨_, _, h⟩
 ·obtain ⟨u, vs, h, _⟩ := h
  exact ⟨_, _, h⟩
end
def ValP (t : Tr) (w : World) (e : Ending) (w' : World) : Prop := ∃ u, e = .returned u ∧ TdT (fun k => w.heap.size ≤ k) w' t u ∧ Below w.heap.size w w'
theorem value_null (w : World) : Calls Tryz.prog 29 #[.agg #[.iface 160 (.agg #[])]] w (ValP (.null) w) := by
 have h0 := ta_0_0
 go_enter Tryz.func29, Tryz.ntmps29
 go_wp2
 go_ret
 exact ⟨_, rfl, by unfold TdT; rfl, (((Below.refl _ _).alloc (Nat.le_refl _) _).alloc (by simp) _)⟩
theorem value_flag (b : Bool) (w : World) : Calls Tryz.prog 29 #[.agg #[.iface 161 (.bool b)]] w (ValP (.flag b) w) := by
 have h0 := ta_1_0 b
 have h1 := ta_1_1 b
 go_enter Tryz.func29, Tryz.ntmps29
 go_wp2
 go_ret
 exact ⟨_, rfl, by unfold TdT; rfl, ((Below.refl _ _).alloc (Nat.le_refl _) _)⟩
theorem value_num (x : Nat) (w : World) : Calls Tryz.prog 29 #[.agg #[.iface 162 (.float .f64 x)]] w (ValP (.num x) w) := by
 have h0 := ta_2_0 x
 have h1 := ta_2_1 x
 have h2 := ta_2_2 x
 go_enter Tryz.func29, Tryz.ntmps29
 go_wp2
 go_ret
 exact ⟨_, rfl, by unfold TdT; rfl, ((Below.refl _ _).alloc (Nat.le_refl _) _)⟩
theorem value_text (t : Tx) (w : World) : Calls Tryz.prog 29 #[.agg #[.iface 163 (.string ⟨t.toArray⟩)]] w (ValP (.text t) w) := by
 have h0 := ta_3_0 ⟨t.toArray⟩
 have h1 := ta_3_1 ⟨t.toArray⟩
 have h2 := ta_3_2 ⟨t.toArray⟩
 have h3 := ta_3_3 ⟨t.toArray⟩
 go_enter Tryz.func29, Tryz.ntmps29
 go_wp2
 go_ret
 exact ⟨_, rfl, by unfold TdT; rfl, ((Below.refl _ _).alloc (Nat.le_refl _) _)⟩
theorem info_value : (Tryz.prog.info? 35).map (fun i => (i.zero, i.size, i.bytes)) = some (some .nilIface, 1, 16) := by kernel_rfl
theorem info_member : (Tryz.prog.info? 116).map (fun i => (i.zero, i.size, i.bytes)) = some (some (.agg #[.string ⟨#[]⟩, .nilIface]), 2, 32) := by kernel_rfl
theorem nodes_pos : ∀ t : Tr, 1 ≤ t.nodes := by
 intro t
 cases t <;> simp [Tr.nodes]
theorem nodes_mem : ∀ (l : List Tr) (t : Tr), t ∈ l → t.nodes ≤ nodesL l
 | [], t, h => by simp at h
 | x :: l, t, h => by
  rcases List.mem_cons.1 h with rfl | h
  ·simp [nodesL]
  ·have := nodes_mem l t h
   simp only [nodesL]
   omega
theorem nodes_len : ∀ l : List Tr, l.length ≤ nodesL l
 | [] => by simp
 | x :: l => by
  have := nodes_len l
  have := nodes_pos x
  simp only [nodesL, List.length_cons]
  omega
structure ValL (S : Nat → Prop) (l : List Tr) (w : World) (g0 : Nat) (k : Nat) (wr : World) : Prop where
 bl : Below w.heap.size w wr
 ex : ∃ us, us.length = k ∧ TdL (fun j => g0 < j) wr (l.take k) us ∧ wr.ownsRow g0 35 1 (.slice (some ⟨g0, 0, none⟩) k l.length) k us
theorem below_made {w w1 : World} {o : Obj} (h : (w.alloc o).grownBy w1 none) : Below w.heap.size w w1 :=
 ⟨h.os, h.tape, h.output, by have := h.size; simp at this; omega, fun j hj => (h.block j (by simp; omega) (by simp)).trans (Below.heap_alloc w o j hj)⟩
theorem value_list (S : Nat → Prop) (l : List Tr) (v : Value) (w : World) (h : RdT S w (.list l) v) (hlen : l.length ≤ 1048576) (ih : ∀ x, x ∈ l → ∀ u W, RdT S W x u → Calls Tryz.prog 29 #[.agg #[u]] W (ValP x W)) :
  Calls Tryz.prog 29 #[.agg #[v]] w (ValP (.list l) w) := by
 obtain ⟨i0, hi0, hz0, hz1, hz2⟩ := info_parts info_value
 unfold RdT at h
 obtain ⟨g1, A1, c1, vs, rfl, hS1, hB1, hR1, hL1⟩ := h
 have h0 := ta_4_0 (some ⟨g1, 0, none⟩)
 have h1 := ta_4_1 (some ⟨g1, 0, none⟩)
 have h2 := ta_4_2 (some ⟨g1, 0, none⟩)
 have h3 := ta_4_3 (some ⟨g1, 0, none⟩)
 have h4 := ta_4_4 (some ⟨g1, 0, none⟩)
 have HR := Lib.hid hR1
 have HL := Lib.hid hL1
 have HIH := Lib.hid ih
 have hlt1 := hB1.lt
 have d3 : w.cell? ⟨g1, 3, none⟩ = some (.slice A1 l.length c1) := hB1.cell 3
 clear hR1 hL1 ih hB1
 go_enter Tryz.func29, Tryz.ntmps29
 go_wp2_with (at_make; refine wpList_make_own _ rfl _ _ 109 rfl (w.heap.size + 1) 35 i0 _ 1 Tryz.underlying109 hi0 hz0 hz1 .i64 .i64 (l.length : Int) l.length rfl rfl rfl (by rw [hz2]; omega) (by unfold maxLen; omega) (by simp) ?_; intro w1 hown1 hgr1; have hb1 := below_made hgr1; have d3' : w1.cell? ⟨g1, 3, none⟩ = some (.slice A1 l.length c1) := ((old hb1).1 _ _ hlt1).trans d3)
 have hsz1 : w.heap.size + 1 < w1.heap.size := by have h9 := (hown1.lt _ rfl).2; simpa using h9
 rw [World.size_alloc] at hown1
 have HO1 := Lib.hid hown1
 clear hown1 hgr1
 go_loopw [8, 51] (fun c8 c51 wr => ∃ k : Nat, k ≤ l.length ∧ c51 = .int .i64 k ∧ c8 = .slice (some ⟨w.heap.size + 1, 0, none⟩) k l.length ∧ ValL S l w (w.heap.size + 1) k wr) (fun _ c51 _ => l.length - (intOf c51).toNat)
 case atStart => exact ⟨0, by omega, rfl, rfl, hb1, [], rfl, by unfold TdL; simp, HO1.out⟩
 case round =>
  obtain ⟨k, hk, rfl, rfl, hV⟩ := hrel
  have HV := Lib.hid hV
  have hbs := hV.bl.size
  clear hV
  by_cases hlt : k < l.length
  ·have hcell : ∃ g o tx ux, A1 = some ⟨g, o, none⟩ ∧ wr.cell? ⟨g, o + k, none⟩ = some (.iface tx ux) ∧ RdT S wr l[k] (.iface tx ux) := by
    obtain ⟨A', c', e', h'⟩ := HR.out
    injection e' with e1 e2 e3
    have hvl := HL.out.len
    rcases h' with ⟨h', _⟩ | ⟨g, o, cur, hA, hSg, hBg, hc⟩
    ·rw [h'] at hvl
     simp at hvl
     omega
    ·have hvk : vs[k]? = some (vs[k]'(by omega)) := List.getElem?_eq_getElem (by omega)
     have hrd := HL.out.at (List.getElem?_eq_getElem hlt) hvk
     obtain ⟨tx, ux, he⟩ := hrd.iface
     rw [he] at hvk hrd
     exact ⟨g, o, tx, ux, by rw [e1, hA], ((HV.out.bl.cell (p := ⟨g, o + k, none⟩) hBg.lt).trans (hBg.cell _)).trans (hc k _ hvk), RdT.move (fun j hj hs => ⟨hs, HV.out.bl.block j hj⟩) _ _ hrd⟩
   obtain ⟨g, o, tx, ux, rfl, hcell, hrd⟩ := hcell
   have HRD := Lib.hid hrd
   clear hrd
   go_wp2_with fail
   ((with_reducible refine (HIH.out _ (List.getElem_mem hlt) _ _ HRD.out).mono ?_); rintro e w2 ⟨u, rfl, htd, hb2⟩)
   obtain ⟨ty, uy, rfl⟩ := htd.iface
   have HTD := Lib.hid htd
   obtain ⟨us, hul, hus, hown⟩ := HV.out.ex
   have hown2 := own_below hown hb2
   have hwlt : w.heap.size + 1 < wr.heap.size := (hown.lt _ rfl).2
   have hs2 := hb2.size
   have HUS := Lib.hid hus
   have HO2 := Lib.hid hown2
   have HB2 := Lib.hid hb2
   clear htd hus hown hown2 hb2
   go_wp2_with (at_builtin; refine wpList_append_fits _ rfl _ _ 109 rfl (w.heap.size + 1) 35 i0 1 Tryz.underlying109 hi0 hz1 (w.heap.size + 1) k l.length us rfl (HO2.out.alloc _) ⟨w2.heap.size, 0, none⟩ 1 1 [.iface ty uy] rfl rfl (one_new _ _ _) (one_cell _ rfl) (by omega) ?_; intro w3 hown3 hgr3)
   have hV3 : ValL S l w (w.heap.size + 1) (k + 1) w3 := by
    have hmv : ∀ j, j < w2.heap.size → w.heap.size + 1 < j → w.heap.size + 1 < j ∧ w3.heap[j]? = w2.heap[j]? := fun j hj hs =>
     ⟨hs, (hgr3.block j (by simp; omega) (by intro e; injection e with e; omega)).trans (Below.heap_alloc w2 _ j hj)⟩
    refine ⟨?_, us ++ [.iface ty uy], by simp [hul], ?_, hown3⟩
    ·have h1 : Below w.heap.size w w2 := HV.out.bl.trans (HB2.out.mono hbs)
     exact (h1.alloc h1.size _).grown hgr3 (by simp; omega) (fun j e => by injection e with e; omega)
    ·rw [List.take_succ_eq_append_getElem hlt]
     refine ((HUS.out.move fun j hj hs => ⟨hs, HB2.out.block j hj⟩).move hmv).snoc ?_
     exact TdT.move hmv _ _ (TdT.move (fun j hj hs => ⟨by omega, rfl⟩) _ _ HTD.out)
   clear hown3 hgr3
   go_wp2
   go_roundw
   case rel => exact ⟨k + 1, by omega, by go_num, rfl, hV3⟩
   case measure => simp [intOf]; omega
  ·have hkn : k = l.length := by omega
   subst hkn
   go_wp2
   go_ret
   obtain ⟨us, hul, hus, hown⟩ := HV.out.ex
   rw [List.take_length] at hus
   refine ⟨_, rfl, ?_, HV.out.bl⟩
   unfold TdT
   exact ⟨_, us, rfl, (row_of_own hown).mono fun j hj => by have := (hown.lt j hj).1; omega, hus.move fun j hj hs => ⟨by omega, rfl⟩⟩
end Nd
end Go.Proofs.YtlailcmhpnnidaaGreatDoor
namespace Go.Proofs.YtlailcmhpnnidaaGreatDoor
open Go.RowKit Mem
namespace Nd

theorem step_append_fits {P : Program} {w : World} {ops : Array Oper} {o : Oper} {a : Act} {K : Act → World → Prop} {Q : Exit → Act → World → Prop} {E : Prop}
  (hg : o.guard = none) (s x : Operand) (t : TypeId) (hop : o.op = Op.call { callee := Callee.builtin Builtin.append, args := #[s, x], argTypes := #[t, t] })
  (base : Nat) (e : TypeId) (i : TypeInfo) (size : Nat) (h1 : P.underlying t = some (.slice e)) (h2 : P.info? e = some i) (h4 : i.size = size)
  (g k cap : Nat) (xs : List Value) (hs : a.eval s = .slice (some ⟨g, 0, none⟩) k cap) (hown : w.ownsRow base e size (.slice (some ⟨g, 0, none⟩) k cap) k xs) (ad : Addr) (m c : Nat) (news : List Value) (hx : a.eval x = .slice (some ad) m c) (hn : news.length = m * size)
  (hc : ∀ j u, news[j]? = some u → w.cell? (ad.add j) = some u) (h1c : ∀ u ∈ news, u.oneCell' = true) (b1 : k + m ≤ cap)
  (hK : ∀ w', w'.ownsRow base e size (.slice (some ⟨g, 0, none⟩) (k + m) cap) (k + m) (xs ++ news) → w.grownBy w' (some g) → K (a.put o.dst (.slice (some ⟨g, 0, none⟩) (k + m) cap)) w') :
  if Region.wanted o (yielded ops a.tmps) = true then Oper.wp P o a w K Q else E := by
 have hw : Region.wanted o (yielded ops a.tmps) = true := by simp [Region.wanted, hg]
 rw [if_pos hw]
 obtain ⟨w', hrun, r1, r2⟩ := run_append_fits (P := P) w base t o.type e i size h1 h2 h4 g k cap xs hown ad m c news hn hc h1c b1
 unfold Oper.wp
 simp [execOp, hop, resolve, invoke, builtin, hs, hx, hrun, Result.andThen]
 exact hK w' r1 r2
theorem pairs_snoc : ∀ (ks : List Tx) (us : List Value) (u : Value) (h : us.length < ks.length), pairs (ks.take (us.length + 1)) (us ++ [u]) = pairs (ks.take us.length) us ++ [txV ks[us.length], u]
 | [], us, u, h => by simp at h
 | k :: ks, [], u, h => by simp [pairs]
 | k :: ks, v :: us, u, h => by
  have h' : us.length < ks.length := by simpa using h
  have ih := pairs_snoc ks us u h'
  simp only [List.length_cons, List.take_succ_cons, List.cons_append, pairs, List.getElem_cons_succ]
  rw [ih]
theorem pairs_snoc2 (ks : List Tx) (us : List Value) (k : Nat) (hu : us.length = k) (h : k < ks.length) : ∀ u, pairs (ks.take (k + 1)) (us ++ [u]) = pairs (ks.take k) us ++ [txV ks[k], u] := by
 subst hu
 exact fun u => pairs_snoc ks us u h
theorem two_new (w : World) (t : TypeId) (a b : Value) : ∀ (j : Nat) (u : Value), [a, b][j]? = some u → (w.alloc (.cells #[a, b] t)).cell? ((⟨w.heap.size, 0, none⟩ : Addr).add j) = some u := by
 intro j u hj
 have hadd : (⟨w.heap.size, 0, none⟩ : Addr).add j = ⟨w.heap.size, j, none⟩ := by unfold Addr.add; split <;> simp_all
 rw [hadd, (Blk.new w t #[a, b]).cell]
 simpa using hj
structure ValO (ks : List Tx) (l : List Tr) (w : World) (g0 : Nat) (k : Nat) (wr : World) : Prop where
 bl : Below w.heap.size w wr
 ex : ∃ us, us.length = k ∧ TdL (fun j => g0 < j) wr (l.take k) us ∧ wr.ownsRow g0 116 2 (.slice (some ⟨g0, 0, none⟩) k l.length) k (pairs (ks.take k) us)
theorem row2_of_own {w : World} {base n : Nat} {e : TypeId} {v : Value} {xs : List Value} (h : w.ownsRow base e 2 v n xs) : Row2 (fun k => v.ownBlock = some k) w e v n xs := by
 have hl := h.1
 rcases h.2 with ⟨rfl, h0⟩ | ⟨g, cap, cur, rfl, _, hg, hn, hc, hs, ht⟩
 ·exact ⟨none, 0, by rw [h0], hl, .inl h0⟩
 ·refine ⟨_, cap, rfl, hl, .inr ⟨g, 0, cur, rfl, rfl, hg, fun j x hx => ?_⟩⟩
  rw [← ht, List.getElem?_take] at hx
  split at hx
  ·simpa using hx
  ·cases hx
theorem value_obj (S : Nat → Prop) (ks : List Tx) (l : List Tr) (v : Value) (w : World) (h : RdT S w (.obj ks l) v) (hkl : ks.length = l.length) (hlen : l.length ≤ 1048576) (ih : ∀ x, x ∈ l → ∀ u W, RdT S W x u → Calls Tryz.prog 29 #[.agg #[u]] W (ValP x W)) :
  Calls Tryz.prog 29 #[.agg #[v]] w (ValP (.obj ks l) w) := by
 obtain ⟨i0, hi0, hz0, hz1, hz2⟩ := info_parts info_member
 unfold RdT at h
 obtain ⟨g1, K1, dk, A1, c1, vs, rfl, hS1, hB1, hK1, hR1, hL1⟩ := h
 have h0 := ta_5_0 (some ⟨g1, 0, none⟩)
 have h1 := ta_5_1 (some ⟨g1, 0, none⟩)
 have h2 := ta_5_2 (some ⟨g1, 0, none⟩)
 have h3 := ta_5_3 (some ⟨g1, 0, none⟩)
 have h4 := ta_5_4 (some ⟨g1, 0, none⟩)
 have h5 := ta_5_5 (some ⟨g1, 0, none⟩)
 have HR := Lib.hid hR1
 have HL := Lib.hid hL1
 have HK := Lib.hid hK1
 have HIH := Lib.hid ih
 have HKL := Lib.hid hkl
 have hlt1 := hB1.lt
 have d3 : w.cell? ⟨g1, 3, none⟩ = some (.slice K1 ks.length dk) := hB1.cell 3
 have d4 : w.cell? ⟨g1, 4, none⟩ = some (.slice A1 l.length c1) := hB1.cell 4
 clear hR1 hL1 ih hB1 hK1 hkl
 go_enter Tryz.func29, Tryz.ntmps29
 go_wp2_with (at_make; refine wpList_make_own _ rfl _ _ 112 rfl (w.heap.size + 1) 116 i0 _ 2 Tryz.underlying112 hi0 hz0 hz1 .i64 .i64 (l.length : Int) l.length rfl rfl rfl (by rw [hz2]; omega) (by unfold maxLen; omega) (by simp) ?_; intro w1 hown1 hgr1; have hb1 := below_made hgr1; have d4' : w1.cell? ⟨g1, 4, none⟩ = some (.slice A1 l.length c1) := ((old hb1).1 _ _ hlt1).trans d4)
 have hsz1 : w.heap.size + 1 < w1.heap.size := by have h9 := (hown1.lt _ rfl).2; simpa using h9
 rw [World.size_alloc] at hown1
 have HO1 := Lib.hid hown1
 clear hown1 hgr1 d4 d4'
 go_loopw [12, 78] (fun c12 c78 wr => ∃ k : Nat, k ≤ l.length ∧ c78 = .int .i64 k ∧ c12 = .slice (some ⟨w.heap.size + 1, 0, none⟩) k l.length ∧ ValO ks l w (w.heap.size + 1) k wr) (fun _ c78 _ => l.length - (intOf c78).toNat)
 case atStart => exact ⟨0, by omega, rfl, rfl, hb1, [], rfl, by unfold TdL; simp, by cases ks <;> exact HO1.out⟩
 case round =>
  obtain ⟨k, hk, rfl, rfl, hV⟩ := hrel
  have HV := Lib.hid hV
  have hbs := hV.bl.size
  have d3r : wr.cell? ⟨g1, 3, none⟩ = some (.slice K1 ks.length dk) := ((old hV.bl).1 _ _ hlt1).trans d3
  clear hV
  by_cases hlt : k < l.length
  ·have hcell : ∃ g o tx ux, A1 = some ⟨g, o, none⟩ ∧ wr.cell? ⟨g, o + k, none⟩ = some (.iface tx ux) ∧ RdT S wr l[k] (.iface tx ux) := by
    obtain ⟨A', c', e', h'⟩ := HR.out
    injection e' with e1 e2 e3
    have hvl := HL.out.len
    rcases h' with ⟨h', _⟩ | ⟨g, o, cur, hA, hSg, hBg, hc⟩
    ·rw [h'] at hvl
     simp at hvl
     omega
    ·have hvk : vs[k]? = some (vs[k]'(by omega)) := List.getElem?_eq_getElem (by omega)
     have hrd := HL.out.at (List.getElem?_eq_getElem hlt) hvk
     obtain ⟨tx, ux, he⟩ := hrd.iface
     rw [he] at hvk hrd
     exact ⟨g, o, tx, ux, by rw [e1, hA], ((HV.out.bl.cell (p := ⟨g, o + k, none⟩) hBg.lt).trans (hBg.cell _)).trans (hc k _ hvk), RdT.move (fun j hj hs => ⟨hs, HV.out.bl.block j hj⟩) _ _ hrd⟩
   obtain ⟨g, o, tx, ux, rfl, hcell, hrd⟩ := hcell
   have hkk : k < ks.length := by have := HKL.out; omega
   have hkey : ∃ gk ok, K1 = some ⟨gk, ok, none⟩ ∧ gk < w.heap.size ∧ w.cell? ⟨gk, ok + k, none⟩ = some (.string ⟨ks[k].toArray⟩) := by
    obtain ⟨A', c', e', h'⟩ := HK.out
    injection e' with e1 e2 e3
    rcases h' with ⟨h', _⟩ | ⟨g, o, cur, hA, hSg, hBg, hc⟩
    ·have := congrArg List.length h'
     simp at this
     rw [this] at hkk
     simp at hkk
    ·refine ⟨g, o, by rw [e1, hA], hBg.lt, ?_⟩
     rw [hBg.cell]
     apply hc
     rw [List.getElem?_map, List.getElem?_eq_getElem hkk]
     rfl
   obtain ⟨gk, ok, rfl, hgk, hkc⟩ := hkey
   have hkcr : wr.cell? ⟨gk, ok + k, none⟩ = some (.string ⟨ks[k].toArray⟩) := ((old HV.out.bl).1 _ _ hgk).trans hkc
   have HRD := Lib.hid (RdT.move (S := S) (S' := S) (w := wr) (w' := wr.drew) (fun j hj hs => ⟨hs, rfl⟩) _ _ hrd)
   have hkb : (k : Int) < (ks.length : Int) := by omega
   have hkb0 : (0 : Int) ≤ (k : Int) := by omega
   clear hrd hkc
   obtain ⟨us, hul, hus, hown⟩ := HV.out.ex
   have hwlt : w.heap.size + 1 < wr.heap.size := (hown.lt _ rfl).2
   have HUS := Lib.hid hus
   have HOW := Lib.hid hown.drew
   have HPS := Lib.hid (pairs_snoc2 ks us k hul hkk)
   have HUL := Lib.hid hul
   clear hus hown hul
   obtain ⟨kt, hkt⟩ : ∃ t, ks[k] = t := ⟨_, rfl⟩
   rw [hkt] at hkcr
   have HKT := Lib.hid hkt
   clear hkt
   go_wp2_with fail
   go_region_held_law (fun w' => w'.cell? ⟨g1, 3, none⟩ = some (.slice (some ⟨gk, ok, none⟩) ks.length dk) ∧ w'.cell? ⟨gk, ok + k, none⟩ = some (.string ⟨kt.toArray⟩)) (first | exact ⟨d3r, hkcr⟩ | exact ⟨((old hb2).1 _ _ (by show g1 < wr.heap.size; omega)).trans d3r, ((old hb2).1 _ _ (by show gk < wr.heap.size; omega)).trans hkcr⟩ | exact ⟨hgr3.cell (a := ⟨g1, 3, none⟩) (Lib.cell?_alloc_some _ d3w) (by intro e; injection e with e; have e' : g1 = w.heap.size + 1 := e; omega), hgr3.cell (a := ⟨gk, ok + k, none⟩) (Lib.cell?_alloc_some _ kcw) (by intro e; injection e with e; have e' : gk = w.heap.size + 1 := e; omega)⟩ | go_keep)
    (first | (refine step_append_fits (by rfl) _ _ _ (by rfl) (w.heap.size + 1) 116 i0 2 Tryz.underlying112 hi0 hz1 (w.heap.size + 1) k l.length (pairs (ks.take k) us) (by rfl) (HO2.out.alloc _) ⟨w2.heap.size, 0, none⟩ 1 1 [.string ⟨kt.toArray⟩, .iface ty uy] (by rfl) (by rfl) (two_new _ _ _ _) (by intro u hu; simp at hu; rcases hu with rfl | rfl <;> rfl) (by omega) ?_; intro w3 hown3 hgr3) | (go_simp; go_at_call 29; ((with_reducible refine (HIH.out _ (List.getElem_mem hlt) _ _ HRD.out).mono ?_); rintro e w2 ⟨u, rfl, htd, hb2⟩; obtain ⟨ty, uy, rfl⟩ := htd.iface; have HO2 := Lib.hid (own_below HOW.out hb2); have HTD := Lib.hid htd; have hs2 := hb2.size; have d3w := ((old hb2).1 g1 3 (by show g1 < wr.heap.size; omega)).trans d3r; have kcw := ((old hb2).1 gk (ok + k) (by show gk < wr.heap.size; omega)).trans hkcr; dsimp only)))
   have hV3 : ValO ks l w (w.heap.size + 1) (k + 1) w3 := by
    have hmv : ∀ j, j < w2.heap.size → w.heap.size + 1 < j → w.heap.size + 1 < j ∧ w3.heap[j]? = w2.heap[j]? := fun j hj hs =>
     ⟨hs, (hgr3.block j (by simp; omega) (by intro e; injection e with e; omega)).trans (Below.heap_alloc w2 _ j hj)⟩
    have hb2' : Below wr.heap.size wr w2 := ⟨hb2.os, hb2.tape, hb2.output, hb2.size, hb2.block⟩
    refine ⟨?_, us ++ [.iface ty uy], by simp [HUL.out], ?_, ?_⟩
    ·have h1 : Below w.heap.size w w2 := HV.out.bl.trans (hb2'.mono hbs)
     exact (h1.alloc h1.size _).grown hgr3 (by simp; have := hb2'.size; omega) (fun j e => by injection e with e; omega)
    ·rw [List.take_succ_eq_append_getElem hlt]
     refine ((HUS.out.move fun j hj hs => ⟨hs, hb2'.block j hj⟩).move hmv).snoc ?_
     exact TdT.move hmv _ _ (TdT.move (fun j hj hs => ⟨by have h9 : wr.heap.size ≤ j := hs; omega, rfl⟩) _ _ HTD.out)
    ·rw [HPS.out, HKT.out]
     exact hown3
   clear hown3 hgr3 hb2
   go_wp2
   go_roundw
   case rel => exact ⟨k + 1, by omega, by go_num, rfl, hV3⟩
   case measure => simp [intOf]; omega
  ·have hkn : k = l.length := by omega
   subst hkn
   go_wp2
   go_ret
   obtain ⟨us, hul, hus, hown⟩ := HV.out.ex
   rw [List.take_length] at hus
   rw [List.take_of_length_le (by have := HKL.out; omega)] at hown
   refine ⟨_, rfl, ?_, HV.out.bl⟩
   unfold TdT
   exact ⟨_, us, rfl, HKL.out, (row2_of_own hown).move fun j hj hs => ⟨by have := (hown.lt j hs).1; omega, rfl⟩, hus.move fun j hj hs => ⟨by omega, rfl⟩⟩
end Nd
end Go.Proofs.YtlailcmhpnnidaaGreatDoor
namespace Go.Proofs.YtlailcmhpnnidaaGreatDoor
open Go.RowKit Mem
namespace Nd

def Rise (ks : List Tx) : Prop := ks.Pairwise fun a b => cmpL a b < 0
mutual
def Tr.Ok : Tr → Prop
 | .num x => finB x = true ∧ normB x = x ∧ x < 18446744073709551616
 | .text t => rightB t = true
 | .list l => OkL l
 | .obj ks l => ks.length = l.length ∧ Rise ks ∧ ks.all rightB = true ∧ OkL l
 | _ => True
def OkL : List Tr → Prop
 | [] => True
 | t :: l => (t.Ok ∧ t.fit = true) ∧ OkL l
end
theorem okl_iff : ∀ l : List Tr, OkL l ↔ ∀ t ∈ l, t.Ok ∧ t.fit = true
 | [] => by unfold OkL; simp
 | t :: l => by
  unfold OkL
  rw [okl_iff l]
  constructor
  ·rintro ⟨h1, h2⟩ u hu
   rcases List.mem_cons.1 hu with rfl | hu
   ·exact h1
   ·exact h2 u hu
  ·exact fun h => ⟨h t (by simp), fun u hu => h u (by simp [hu])⟩
theorem value_any (S : Nat → Prop) : ∀ t : Tr, t.Ok → t.nodes ≤ 65536 → ∀ u W, RdT S W t u → Calls Tryz.prog 29 #[.agg #[u]] W (ValP t W) := by
 intro t
 induction t using Tr.ind with
 | h0 =>
  intro _ _ u W h
  unfold RdT at h
  subst h
  exact value_null W
 | h1 b =>
  intro _ _ u W h
  unfold RdT at h
  subst h
  exact value_flag b W
 | h2 x =>
  intro _ _ u W h
  unfold RdT at h
  subst h
  exact value_num x W
 | h3 t =>
  intro _ _ u W h
  unfold RdT at h
  subst h
  exact value_text t W
 | h4 l ih =>
  intro hok hn u W h
  unfold Tr.Ok at hok
  unfold Tr.nodes at hn
  exact value_list S l u W h (by have := nodes_len l; omega) fun x hx u' W' h' => ih x hx ((okl_iff l).1 hok x hx).1 (by have := nodes_mem l x hx; omega) u' W' h'
 | h5 ks l ih =>
  intro hok hn u W h
  unfold Tr.Ok at hok
  unfold Tr.nodes at hn
  exact value_obj S ks l u W h hok.1 (by have := nodes_len l; omega) fun x hx u' W' h' => ih x hx ((okl_iff l).1 hok.2.2.2 x hx).1 (by have := nodes_mem l x hx; omega) u' W' h'

theorem okl_mem {l : List Tr} (h : OkL l) {t : Tr} (ht : t ∈ l) : t.Ok ∧ t.fit = true := (okl_iff l).1 h t ht
theorem okl_app {a b : List Tr} (ha : OkL a) (hb : OkL b) : OkL (a ++ b) := (okl_iff _).2 fun t ht => by
 rcases List.mem_append.1 ht with h | h
 ·exact okl_mem ha h
 ·exact okl_mem hb h
theorem okl_one {t : Tr} (h : t.Ok) (hf : t.fit = true) : OkL [t] := (okl_iff _).2 fun u hu => by
 rw [List.mem_singleton] at hu
 subst hu
 exact ⟨h, hf⟩
theorem okl_take {l : List Tr} (h : OkL l) (k : Nat) : OkL (l.take k) := (okl_iff _).2 fun t ht => okl_mem h (List.mem_of_mem_take ht)
theorem okl_drop {l : List Tr} (h : OkL l) (k : Nat) : OkL (l.drop k) := (okl_iff _).2 fun t ht => okl_mem h (List.mem_of_mem_drop ht)
theorem sortK_rise (ks : List Tx) (hn : ks.Nodup) : Rise (sortK ks) := by
 have hp := List.pairwise_mergeSort (le := fun x y => !ltL y x) (fun a b c h1 h2 => by
  simp only [Bool.not_eq_true', ltL, decide_eq_false_iff_not] at *
  intro h
  rcases lt_total b c with e | e | e
  ·exact h1 (lt_trans b c a e h)
  ·subst e
   exact h1 h
  ·exact h2 e) (fun a b => by
  simp only [Bool.or_eq_true, Bool.not_eq_true', ltL, decide_eq_false_iff_not]
  rcases lt_total a b with e | e | e
  ·left
   intro h
   have := lt_trans a b a e h
   rw [cmp_self] at this
   omega
  ·left
   rw [e, cmp_self]
   omega
  ·right
   intro h
   have := lt_trans a b a h e
   rw [cmp_self] at this
   omega) ks
 have hnd : (sortK ks).Nodup := (sortK_perm ks).nodup_iff.2 hn
 unfold Rise
 refine (hp.and hnd).imp ?_
 rintro a b ⟨h1, h2⟩
 simp only [Bool.not_eq_true', ltL, decide_eq_false_iff_not] at h1
 rcases lt_total a b with e | e | e
 ·exact e
 ·exact absurd e h2
 ·exact absurd e h1
theorem mkObj_ok (ks : List Tx) (I : List Tr) (hn : ks.Nodup) (hr : ks.all rightB = true) (hl : I.length = ks.length) (hI : OkL I) : (mkObj ks I).Ok := by
 unfold mkObj Tr.Ok
 refine ⟨by simp, sortK_rise ks hn, ?_, ?_⟩
 ·rw [List.all_eq_true] at hr ⊢
  exact fun k hk => hr k ((sortK_perm ks).mem_iff.1 hk)
 ·exact (okl_iff _).2 fun t ht => okl_mem hI ((items_perm .null ks hn I hl).mem_iff.1 ht)
theorem norm_norm (b : Nat) : normB (normB b) = normB b := by
 unfold normB
 split <;> simp_all
theorem fin_norm (b : Nat) (h : finB b = true) : finB (normB b) = true := by
 unfold normB
 split
 ·decide
 ·exact h
theorem doT_ok (l : List Tr) (s : Stp) (hs : s.Fine) (hl : OkL l) : OkL (doT l s).2 := by
 unfold doT
 split
 ·exact hl
 split
 ·exact okl_app hl (okl_one (by unfold Tr.Ok; trivial) (by decide))
 split
 ·exact okl_app hl (okl_one (by unfold Tr.Ok; trivial) (by simp [Tr.fit, Tr.nodes, Tr.bytes, Tr.depth]))
 split
 ·split
  ·rename_i h
   refine okl_app hl (okl_one ?_ (by simp [Tr.fit, Tr.nodes, Tr.bytes, Tr.depth]))
   unfold Tr.Ok
   refine ⟨fin_norm _ h, norm_norm _, ?_⟩
   unfold normB
   split
   ·omega
   ·exact hs.bits
  ·exact hl
 split
 ·split
  ·split
   ·rename_i h1 h2
    exact okl_app hl (okl_one (by unfold Tr.Ok; exact h1) (by simp [Tr.fit, Tr.nodes, Tr.bytes, Tr.depth, h2]))
   ·exact hl
  ·exact hl
 split
 ·unfold listT
  split
  ·exact hl
  ·split
   ·rename_i h
    exact okl_app (okl_take hl _) (okl_one (by unfold Tr.Ok; exact okl_drop hl _) h)
   ·exact hl
 ·unfold objT
  split
  ·exact hl
  split
  ·exact hl
  split
  ·exact hl
  split
  ·rename_i h1 h2 h3 h4
   have hn : s.keys.Nodup := Classical.byContradiction h2
   exact okl_app (okl_take hl _) (okl_one (mkObj_ok _ _ hn (by simpa using h1) (by rw [List.length_drop]; omega) (okl_drop hl _)) h4)
  ·exact hl
theorem runT_ok : ∀ (ss : List Stp) (l : List Tr) (i : Nat) (l' : List Tr), (∀ s ∈ ss, s.Fine) → OkL l → runT l ss i = .inr l' → OkL l'
 | [], l, i, l', _, hl, h => by
  unfold runT at h
  injection h with h
  exact h ▸ hl
 | s :: ss, l, i, l', hs, hl, h => by
  unfold runT at h
  split at h
  ·exact runT_ok ss _ _ _ (fun x hx => hs x (by simp [hx])) (doT_ok l s (hs s (by simp)) hl) h
  ·cases h
theorem buildT_ok {ss : List Stp} {t : Tr} (hs : ∀ s ∈ ss, s.Fine) (h : buildT ss = .inr t) : t.Ok ∧ t.fit = true := by
 unfold buildT at h
 split at h
 ·cases h
 ·split at h
  ·cases h
  ·rename_i t' hr
   injection h with h
   subst h
   exact okl_mem (runT_ok ss [] 0 _ hs (by unfold OkL; trivial) hr) (by simp)
  ·cases h
end Nd
end Go.Proofs.YtlailcmhpnnidaaGreatDoor
namespace Go.Proofs.YtlailcmhpnnidaaGreatDoor
open Go.RowKit Mem
namespace Nd

theorem root_any (g : Nat) (ty tx : TypeId) (ux : Value) (w : World) (hB : Blk w g ty #[.iface tx ux]) : Calls Tryz.prog 33 #[.pointer (some ⟨g, 0, none⟩)] w fun e w' => e = .returned (.agg #[.iface tx ux]) ∧ Below w.heap.size w w' := by
 have a1 : w.cell? ⟨g, 0, none⟩ = some (.iface tx ux) := hB.cell 0
 have hlt := hB.lt
 have a2 : (w.alloc (.cells #[.nilIface] 68)).cell? ⟨g, 0, none⟩ = some (.iface tx ux) := (hB.alloc _).cell 0
 clear hB
 go_enter Tryz.func33, Tryz.ntmps33
 go_wp2
 refine bodyPost_ret (v := .agg #[.iface tx ux]) ?_ rfl ⟨rfl, ?_⟩
 ·simp [results, Tryz.results33, go_sem]
 ·exact ((Below.refl _ _).alloc (Nat.le_refl _) _)
end Nd
end Go.Proofs.YtlailcmhpnnidaaGreatDoor
namespace Go.Proofs.YtlailcmhpnnidaaGreatDoor
open Go.RowKit Mem
namespace Nd

theorem build_all (v : Value) (ss : List Stp) (w : World) (hS : RdS w v ss) (hF : ∀ s ∈ ss, s.Fine) : Calls Tryz.prog 26 #[v] w (BuildP ss w) := by
 by_cases hn : ss.length ≤ 65536
 ·exact build_any v ss w hS hF hn
 ·exact build_long v ss w hS (by omega)
end Nd
end Go.Proofs.YtlailcmhpnnidaaGreatDoor
