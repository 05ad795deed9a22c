/-
  Walks of package node: Build. Assertions of an item to its six types. Walks of package node: Value. Walks of package node: Value of objects, of every tree. What trees that steps make are like; Value of every such tree. Walks of package node and of layer 10's statements: Root, a tree's Value, wakes, number. Walks of package node: Build of any steps; the root of a nil tree.
  What a slice of steps that came in reads as.
-/
import Derived.Test.YtbajkglacfheiaaGreatDoorSA9
import Derived.Test.YtbajkglacfheiaaGreatDoorRows
import Derived.Deep.RegionHeldLaw
import Derived.ProofKit
import Derived.SliceStrings
import Derived.Deep.Slices
import Derived.Deep.Fields
import Derived.ChangeSame
set_option linter.unusedVariables false
set_option linter.unusedSimpArgs false
set_option maxRecDepth 100000
set_option maxHeartbeats 16000000
namespace Go.Proofs.YtbajkglacfheiaaGreatDoor
open Go.RowKit Mem
namespace Nd

structure CellS (w : World) (g o : Nat) (s : Stp) (K : Option Addr) (q : Nat) : Prop where
 c0 : w.cell? ⟨g, o, none⟩ = some (.int .i64 s.sort)
 c1 : w.cell? ⟨g, o + 1, none⟩ = some (.bool s.flag)
 c2 : w.cell? ⟨g, o + 2, none⟩ = some (.int .u64 (s.bits : Int))
 c3 : w.cell? ⟨g, o + 3, none⟩ = some (.string ⟨s.text.toArray⟩)
 c4 : w.cell? ⟨g, o + 4, none⟩ = some (.int .i64 s.count)
 c5 : w.cell? ⟨g, o + 5, none⟩ = some (.slice K s.keys.length q)
 ks : RdK w (.slice K s.keys.length q) s.keys
 kc : s.keys.length ≤ q
theorem CellS.below {w w' : World} {g o : Nat} {s : Stp} {K : Option Addr} {q : Nat} (h : CellS w g o s K q) (hb : Below w.heap.size w w') : CellS w' g o s K q := by
 have hlt : g < w.heap.size := World.block_lt_of_cell? w _ h.c0
 have ho := (old hb).1
 exact ⟨(ho _ _ hlt).trans h.c0, (ho _ _ hlt).trans h.c1, (ho _ _ hlt).trans h.c2, (ho _ _ hlt).trans h.c3, (ho _ _ hlt).trans h.c4, (ho _ _ hlt).trans h.c5, h.ks.below hb, h.kc⟩
def RdS (w : World) (v : Value) (ss : List Stp) : Prop := ∃ A c, v = .slice A ss.length c ∧ (ss = [] ∨ ∃ g o, A = some ⟨g, o, none⟩ ∧ ∀ (j : Nat) (s : Stp), ss[j]? = some s → ∃ K q, CellS w g (o + j * 6) s K q)
def runT : List Tr → List Stp → Nat → Sum (Int × Nat) (List Tr)
 | l, [], _ => .inr l
 | l, s :: ss, i => if (doT l s).1 = 0 then runT (doT l s).2 ss (i + 1) else .inl ((doT l s).1, i)
def buildT (ss : List Stp) : Sum (Int × Int) Tr :=
 if 65536 < ss.length then .inl (3, -1) else match runT [] ss 0 with
  | .inl (n, i) => .inl (n, i)
  | .inr [t] => .inr t
  | .inr _ => .inl (103, ss.length)
theorem RwX.below {p : Nat} {ty : TypeId} {B : Nat} {l : List Tr} {w w' : World} (h : RwX p ty B l w) (hb : Below w.heap.size w w') : RwX p ty B l w' := by
 obtain ⟨v, xs, h⟩ := h
 exact ⟨v, xs, h.below hb⟩
theorem RdT.iface {S : Nat → Prop} {w : World} {t : Tr} {v : Value} (h : RdT S w t v) : ∃ tx ux, v = .iface tx ux := by
 cases t <;> unfold RdT at h
 ·exact ⟨_, _, h⟩
 ·exact ⟨_, _, h⟩
 ·exact ⟨_, _, h⟩
 ·exact ⟨_, _, h⟩
 ·obtain ⟨g, A, c, vs, h, _⟩ := h
  exact ⟨_, _, h⟩
 ·obtain ⟨g, B, d, A, c, vs, h, _⟩ := h
  exact ⟨_, _, h⟩
theorem doT_len (l : List Tr) (s : Stp) : (doT l s).2.length ≤ l.length + 1 := by
 have hl : ∀ k, (listT k l).2.length ≤ l.length + 1 := by
  intro k
  unfold listT
  repeat' split
  all_goals simp <;> omega
 have ho : (objT rightB s.keys l).2.length ≤ l.length + 1 := by
  unfold objT
  repeat' split
  all_goals simp <;> omega
 unfold doT
 repeat' split
 all_goals first | exact hl _ | exact ho | (simp <;> omega)
def spotB (n i : Int) : Value := if i < 0 then errN n else .iface 122 (.agg #[.int .i64 n, .int .i64 i])
def TreeAt (B : Nat) (w : World) (g : Nat) (t : Tr) : Prop := B ≤ g ∧ t.fit = true ∧ ∃ v, Blk w g 123 #[v] ∧ RdT (fun k => B ≤ k) w t v
def BuildP (ss : List Stp) (w : World) (e : Ending) (w' : World) : Prop :=
 Below w.heap.size w w' ∧ match buildT ss with
  | .inl (n, i) => e = .returned (.tuple #[.pointer none, spotB n i])
  | .inr t => ∃ g, e = .returned (.tuple #[.pointer (some ⟨g, 0, none⟩), .nilIface]) ∧ TreeAt w.heap.size w' g t
theorem build_any (v : Value) (ss : List Stp) (w : World) (hS : RdS w v ss) (hF : ∀ s ∈ ss, s.Fine) (hn : ss.length ≤ 65536) :
  Calls Tryz.prog 8 #[v] w (BuildP ss w) := by
 have HS := Lib.hid hS
 obtain ⟨A, c, rfl, _⟩ := hS
 have HF := Lib.hid hF
 clear hF
 have q1 := err_ne_nil
 have q2 := err_ne_held
 go_enter Tryz.func8, Tryz.ntmps8
 go_wp2
 go_loopw [14] (fun c14 wr => ∃ (k : Nat) (l : List Tr), k ≤ ss.length ∧ c14 = .int .i64 k ∧ l.length ≤ k ∧ Hid (runT [] ss 0 = runT l (ss.drop k) k) ∧ Hid (RwX w.heap.size 116 (w.heap.size + 1) l wr) ∧ Below w.heap.size w wr ∧ w.heap.size < wr.heap.size) (fun c14 _ => ss.length - (intOf c14).toNat)
 case atStart =>
  refine ⟨0, [], by omega, rfl, by simp, Lib.hid rfl, Lib.hid ⟨.slice none 0 0, [], Blk.new _ _ _, World.ownsRow_nil _ _ _ _, by unfold RdL; rfl, by simp, by omega, by simp⟩, (Below.refl _ _).alloc (Nat.le_refl _) _, by simp⟩
 case round =>
  obtain ⟨k, l, hk, rfl, hlk, HR, HX, hbr, hsz⟩ := hrel
  by_cases hlt : k < ss.length
  ·have hcs : ∃ g o K q, A = some ⟨g, o, none⟩ ∧ CellS wr g (o + k * 6) ss[k] K q := by
    obtain ⟨A', c', e', h'⟩ := HS.out
    injection e' with e1 e2 e3
    rcases h' with h' | ⟨g, o, hA, hc⟩
    ·rw [h'] at hlt
     simp at hlt
    ·obtain ⟨K, q, h⟩ := hc k _ (List.getElem?_eq_getElem hlt)
     exact ⟨g, o, K, q, by rw [e1, hA], h.below hbr⟩
   obtain ⟨g, o, K, q, rfl, hC⟩ := hcs
   have HC := Lib.hid hC
   obtain ⟨c0, c1, c2, c3, c4, c5, ck⟩ := hC
   have hfine := HF.out _ (List.getElem_mem hlt)
   have hdr : ss.drop k = ss[k] :: ss.drop (k + 1) := List.drop_eq_getElem_cons hlt
   have HDR := Lib.hid hdr
   have HFI := Lib.hid hfine
   clear hdr hfine ck
   generalize ss[k] = s at *
   have hba : Below wr.heap.size wr (wr.alloc (.cells #[.int .i64 s.sort, .bool s.flag, .int .u64 (s.bits : Int), .string ⟨s.text.toArray⟩, .int .i64 s.count, .slice K s.keys.length q] 119)) := (Below.refl _ _).alloc (Nat.le_refl _) _
   have HXA := Lib.hid (HX.out.below hba)
   have HKA := Lib.hid (HC.out.ks.below hba)
   have hdl := doT_len l s
   go_wp2_with fail
   ((with_reducible refine (do_any s HFI.out K q w.heap.size 116 (w.heap.size + 1) l _ HXA.out HKA.out (by omega)).mono ?_); rintro e w1 ⟨rfl, hx1, hb1, _⟩)
   have hbr1 : Below w.heap.size w w1 := (hbr.alloc hbr.size _).trans hb1
   have hsz1 : w.heap.size < w1.heap.size := by have := hb1.size; have := hba.size; omega
   have HX1 := Lib.hid hx1
   clear hx1 hb1 hba
   by_cases h0 : (doT l s).1 = 0
   ·have HR2 : Hid (runT [] ss 0 = runT (doT l s).2 (ss.drop (k + 1)) (k + 1)) := Lib.hid (by rw [HR.out, HDR.out, runT, if_pos h0])
    have hev : errV (doT l s).1 = .nilIface := by unfold errV; rw [if_pos h0]
    rw [hev]
    clear hev h0
    generalize (doT l s).2 = l2 at *
    go_wp2
    go_roundw
    case rel => exact ⟨k + 1, l2, by omega, by go_num, by omega, HR2, HX1, hbr1, hsz1⟩
    case measure => simp [intOf]; omega
   ·have HR2 : Hid (buildT ss = .inl ((doT l s).1, (k : Int))) := Lib.hid (by
     unfold buildT
     rw [if_neg (by omega), HR.out, HDR.out, runT, if_neg h0])
    have hev : errV (doT l s).1 = .iface 113 (.int .i64 (doT l s).1) := by unfold errV; rw [if_neg h0]; rfl
    rw [hev]
    clear hev
    have HPOST : Hid (∀ W, Below w.heap.size w W → BuildP ss w (.returned (.tuple #[.pointer none, .iface 122 (.agg #[.int .i64 (doT l s).1, .int .i64 k])])) W) := Lib.hid (by
     intro W hW
     refine ⟨hW, ?_⟩
     rw [HR2.out]
     simp only [spotB]
     rw [if_neg (by omega)])
    clear HR2 h0
    generalize (doT l s).1 = m at *
    have hta : ∀ W, (Instr.typeAssert (.iface 113 (.int .i64 m)) 25 113 false).run Tryz.prog W = .ok (.int .i64 m) W := fun W => by kernel_rfl
    go_wp2_with fail
    go_quiet (fail)
    go_wp2
    go_ret2
    exact HPOST.out _ (hbr1.trans (drewN_below _ _))
  ·have hkn : k = ss.length := by omega
   subst hkn
   have hdr : ss.drop ss.length = [] := List.drop_eq_nil_of_le (Nat.le_refl _)
   have HR2 : Hid (runT [] ss 0 = .inr l) := Lib.hid (by rw [HR.out, hdr, runT])
   clear hdr HR
   obtain ⟨v1, xs1, hR1⟩ := HX.out
   obtain ⟨A1, q1', rfl⟩ := own_slice hR1.own
   have HR1 := Lib.hid hR1
   have a0 : wr.cell? ⟨w.heap.size, 0, none⟩ = some (.slice A1 l.length q1') := hR1.bl.cell 0
   clear hR1
   by_cases h1 : l.length = 1
   ·obtain ⟨t, rfl⟩ : ∃ t, l = [t] := by
     match l, h1 with
     | [t], _ => exact ⟨t, rfl⟩
    simp only [List.length_cons, List.length_nil, Nat.zero_add] at a0
    have hcell : ∃ g x, A1 = some ⟨g, 0, none⟩ ∧ wr.cell? ⟨g, 0, none⟩ = some x ∧ RdT (fun k => w.heap.size ≤ k) wr t x := by
     have hr := HR1.out.rd
     have hl := hr.len
     obtain ⟨x, rfl⟩ : ∃ x, xs1 = [x] := by
      match xs1, hl with
      | [x], _ => exact ⟨x, rfl⟩
     have hx := hr.at (j := 0) rfl rfl
     have ho := HR1.out.own
     rcases ho.2 with ⟨_, h⟩ | ⟨g, cap, cur, h, _, hg, _, _, hs, ht⟩
     ·cases h
     ·injection h with h1 _ _
      refine ⟨g, x, h1, ?_, RdT.move (fun j hj hs => ⟨by have := hs.1; omega, rfl⟩) _ _ hx⟩
      rw [cell_of_row wr g 0 cur _ _ hg]
      have h2 : (cur.toList.take ([t].length * 1))[0]? = some x := by rw [ht]; rfl
      rw [List.getElem?_take] at h2
      simpa using h2
    obtain ⟨g1, x, rfl, hc1, hrd⟩ := hcell
    have hfit : t.fit = true := HR1.out.fit t (by simp)
    obtain ⟨tx, ux, rfl⟩ := hrd.iface
    have hpost : BuildP ss w (.returned (.tuple #[.pointer (some ⟨wr.heap.size, 0, none⟩), .nilIface])) (wr.alloc (.cells #[.iface tx ux] 123)) := by
     refine ⟨hbr.alloc hbr.size _, ?_⟩
     have hb : buildT ss = .inr t := by
      unfold buildT
      rw [if_neg (by omega), HR2.out]
     rw [hb]
     exact ⟨_, rfl, by omega, hfit, _, Blk.new _ _ _, RdT.move (fun j hj hs => ⟨hs, Below.heap_alloc wr _ j hj⟩) _ _ hrd⟩
    have HP := Lib.hid hpost
    clear hpost hrd
    go_wp2
    go_ret2
    exact HP.out
   ·have hpost : BuildP ss w (.returned (.tuple #[.pointer none, .iface 122 (.agg #[.int .i64 103, .int .i64 ss.length])])) wr := by
     refine ⟨hbr, ?_⟩
     have hb : buildT ss = .inl (103, ss.length) := by
      unfold buildT
      rw [if_neg (by omega), HR2.out]
      match l, h1 with
      | [], _ => rfl
      | _ :: _ :: _, _ => rfl
     rw [hb]
     simp only [spotB]
     rw [if_neg (by omega)]
    have HP := Lib.hid hpost
    clear hpost
    go_wp2
    go_ret2
    exact HP.out
end Nd
end Go.Proofs.YtbajkglacfheiaaGreatDoor
namespace Go.Proofs.YtbajkglacfheiaaGreatDoor
open Go.RowKit Mem
namespace Nd

theorem ta_0_2  (W : World) : (Instr.typeAssert (.iface 195 (.agg #[])) 56 140 true).run Tryz.prog W = .ok (.tuple #[.float .f64 0, .bool false]) W := by kernel_rfl
theorem ta_0_4  (W : World) : (Instr.typeAssert (.iface 195 (.agg #[])) 56 202 true).run Tryz.prog W = .ok (.tuple #[.pointer none, .bool false]) W := by kernel_rfl
theorem ta_0_5  (W : World) : (Instr.typeAssert (.iface 195 (.agg #[])) 56 271 true).run Tryz.prog W = .ok (.tuple #[.pointer none, .bool false]) W := by kernel_rfl
theorem ta_1_2 (b : Bool) (W : World) : (Instr.typeAssert (.iface 196 (.bool b)) 56 140 true).run Tryz.prog W = .ok (.tuple #[.float .f64 0, .bool false]) W := by kernel_rfl
theorem ta_1_4 (b : Bool) (W : World) : (Instr.typeAssert (.iface 196 (.bool b)) 56 202 true).run Tryz.prog W = .ok (.tuple #[.pointer none, .bool false]) W := by kernel_rfl
theorem ta_1_5 (b : Bool) (W : World) : (Instr.typeAssert (.iface 196 (.bool b)) 56 271 true).run Tryz.prog W = .ok (.tuple #[.pointer none, .bool false]) W := by kernel_rfl
theorem ta_2_2 (x : Nat) (W : World) : (Instr.typeAssert (.iface 140 (.float .f64 x)) 56 140 true).run Tryz.prog W = .ok (.tuple #[.float .f64 x, .bool true]) W := by kernel_rfl
theorem ta_2_4 (x : Nat) (W : World) : (Instr.typeAssert (.iface 140 (.float .f64 x)) 56 202 true).run Tryz.prog W = .ok (.tuple #[.pointer none, .bool false]) W := by kernel_rfl
theorem ta_2_5 (x : Nat) (W : World) : (Instr.typeAssert (.iface 140 (.float .f64 x)) 56 271 true).run Tryz.prog W = .ok (.tuple #[.pointer none, .bool false]) W := by kernel_rfl
theorem ta_3_2 (s : ByteArray) (W : World) : (Instr.typeAssert (.iface 199 (.string s)) 56 140 true).run Tryz.prog W = .ok (.tuple #[.float .f64 0, .bool false]) W := by kernel_rfl
theorem ta_3_4 (s : ByteArray) (W : World) : (Instr.typeAssert (.iface 199 (.string s)) 56 202 true).run Tryz.prog W = .ok (.tuple #[.pointer none, .bool false]) W := by kernel_rfl
theorem ta_3_5 (s : ByteArray) (W : World) : (Instr.typeAssert (.iface 199 (.string s)) 56 271 true).run Tryz.prog W = .ok (.tuple #[.pointer none, .bool false]) W := by kernel_rfl
theorem ta_4_2 (g : Option Addr) (W : World) : (Instr.typeAssert (.iface 202 (.pointer g)) 56 140 true).run Tryz.prog W = .ok (.tuple #[.float .f64 0, .bool false]) W := by kernel_rfl
theorem ta_4_4 (g : Option Addr) (W : World) : (Instr.typeAssert (.iface 202 (.pointer g)) 56 202 true).run Tryz.prog W = .ok (.tuple #[.pointer g, .bool true]) W := by kernel_rfl
theorem ta_4_5 (g : Option Addr) (W : World) : (Instr.typeAssert (.iface 202 (.pointer g)) 56 271 true).run Tryz.prog W = .ok (.tuple #[.pointer none, .bool false]) W := by kernel_rfl
theorem ta_5_2 (g : Option Addr) (W : World) : (Instr.typeAssert (.iface 271 (.pointer g)) 56 140 true).run Tryz.prog W = .ok (.tuple #[.float .f64 0, .bool false]) W := by kernel_rfl
theorem ta_5_4 (g : Option Addr) (W : World) : (Instr.typeAssert (.iface 271 (.pointer g)) 56 202 true).run Tryz.prog W = .ok (.tuple #[.pointer none, .bool false]) W := by kernel_rfl
theorem ta_5_5 (g : Option Addr) (W : World) : (Instr.typeAssert (.iface 271 (.pointer g)) 56 271 true).run Tryz.prog W = .ok (.tuple #[.pointer g, .bool true]) W := by kernel_rfl
end Nd
end Go.Proofs.YtbajkglacfheiaaGreatDoor
namespace Go.Proofs.YtbajkglacfheiaaGreatDoor
open Go.RowKit Mem
namespace Nd

section
variable {S S' : Nat → Prop} {w w' : World} {e : TypeId} {v : Value} {xs vs : List Value}
end
theorem nodes_pos : ∀ t : Tr, 1 ≤ t.nodes := by
 intro t
 cases t <;> simp [Tr.nodes]
theorem nodes_len : ∀ l : List Tr, l.length ≤ nodesL l
 | [] => by simp
 | x :: l => by
  have := nodes_len l
  have := nodes_pos x
  simp only [nodesL, List.length_cons]
  omega
end Nd
end Go.Proofs.YtbajkglacfheiaaGreatDoor
namespace Go.Proofs.YtbajkglacfheiaaGreatDoor
open Go.RowKit Mem
namespace Nd

end Nd
end Go.Proofs.YtbajkglacfheiaaGreatDoor
namespace Go.Proofs.YtbajkglacfheiaaGreatDoor
open Go.RowKit Mem
namespace Nd

def Rise (ks : List Tx) : Prop := ks.Pairwise fun a b => cmpL a b < 0
mutual
def Tr.Ok : Tr → Prop
 | .num x => finB x = true ∧ normB x = x ∧ x < 18446744073709551616
 | .text t => rightB t = true
 | .list l => OkL l
 | .obj ks l => ks.length = l.length ∧ Rise ks ∧ ks.all rightB = true ∧ OkL l
 | _ => True
def OkL : List Tr → Prop
 | [] => True
 | t :: l => (t.Ok ∧ t.fit = true) ∧ OkL l
end
theorem okl_iff : ∀ l : List Tr, OkL l ↔ ∀ t ∈ l, t.Ok ∧ t.fit = true
 | [] => by unfold OkL; simp
 | t :: l => by
  unfold OkL
  rw [okl_iff l]
  constructor
  ·rintro ⟨h1, h2⟩ u hu
   rcases List.mem_cons.1 hu with rfl | hu
   ·exact h1
   ·exact h2 u hu
  ·exact fun h => ⟨h t (by simp), fun u hu => h u (by simp [hu])⟩
theorem okl_mem {l : List Tr} (h : OkL l) {t : Tr} (ht : t ∈ l) : t.Ok ∧ t.fit = true := (okl_iff l).1 h t ht
theorem okl_app {a b : List Tr} (ha : OkL a) (hb : OkL b) : OkL (a ++ b) := (okl_iff _).2 fun t ht => by
 rcases List.mem_append.1 ht with h | h
 ·exact okl_mem ha h
 ·exact okl_mem hb h
theorem okl_one {t : Tr} (h : t.Ok) (hf : t.fit = true) : OkL [t] := (okl_iff _).2 fun u hu => by
 rw [List.mem_singleton] at hu
 subst hu
 exact ⟨h, hf⟩
theorem okl_take {l : List Tr} (h : OkL l) (k : Nat) : OkL (l.take k) := (okl_iff _).2 fun t ht => okl_mem h (List.mem_of_mem_take ht)
theorem okl_drop {l : List Tr} (h : OkL l) (k : Nat) : OkL (l.drop k) := (okl_iff _).2 fun t ht => okl_mem h (List.mem_of_mem_drop ht)
theorem sortK_rise (ks : List Tx) (hn : ks.Nodup) : Rise (sortK ks) := by
 have hp := List.pairwise_mergeSort (le := fun x y => !ltL y x) (fun a b c h1 h2 => by
  simp only [Bool.not_eq_true', ltL, decide_eq_false_iff_not] at *
  intro h
  rcases lt_total b c with e | e | e
  ·exact h1 (lt_trans b c a e h)
  ·subst e
   exact h1 h
  ·exact h2 e) (fun a b => by
  simp only [Bool.or_eq_true, Bool.not_eq_true', ltL, decide_eq_false_iff_not]
  rcases lt_total a b with e | e | e
  ·left
   intro h
   have := lt_trans a b a e h
   rw [cmp_self] at this
   omega
  ·left
   rw [e, cmp_self]
   omega
  ·right
   intro h
   have := lt_trans a b a h e
   rw [cmp_self] at this
   omega) ks
 have hnd : (sortK ks).Nodup := (sortK_perm ks).nodup_iff.2 hn
 unfold Rise
 refine (hp.and hnd).imp ?_
 rintro a b ⟨h1, h2⟩
 simp only [Bool.not_eq_true', ltL, decide_eq_false_iff_not] at h1
 rcases lt_total a b with e | e | e
 ·exact e
 ·exact absurd e h2
 ·exact absurd e h1
theorem mkObj_ok (ks : List Tx) (I : List Tr) (hn : ks.Nodup) (hr : ks.all rightB = true) (hl : I.length = ks.length) (hI : OkL I) : (mkObj ks I).Ok := by
 unfold mkObj Tr.Ok
 refine ⟨by simp, sortK_rise ks hn, ?_, ?_⟩
 ·rw [List.all_eq_true] at hr ⊢
  exact fun k hk => hr k ((sortK_perm ks).mem_iff.1 hk)
 ·exact (okl_iff _).2 fun t ht => okl_mem hI ((items_perm .null ks hn I hl).mem_iff.1 ht)
theorem norm_norm (b : Nat) : normB (normB b) = normB b := by
 unfold normB
 split <;> simp_all
theorem fin_norm (b : Nat) (h : finB b = true) : finB (normB b) = true := by
 unfold normB
 split
 ·decide
 ·exact h
theorem doT_ok (l : List Tr) (s : Stp) (hs : s.Fine) (hl : OkL l) : OkL (doT l s).2 := by
 unfold doT
 split
 ·exact hl
 split
 ·exact okl_app hl (okl_one (by unfold Tr.Ok; trivial) (by decide))
 split
 ·exact okl_app hl (okl_one (by unfold Tr.Ok; trivial) (by simp [Tr.fit, Tr.nodes, Tr.bytes, Tr.depth]))
 split
 ·split
  ·rename_i h
   refine okl_app hl (okl_one ?_ (by simp [Tr.fit, Tr.nodes, Tr.bytes, Tr.depth]))
   unfold Tr.Ok
   refine ⟨fin_norm _ h, norm_norm _, ?_⟩
   unfold normB
   split
   ·omega
   ·exact hs.bits
  ·exact hl
 split
 ·split
  ·split
   ·rename_i h1 h2
    exact okl_app hl (okl_one (by unfold Tr.Ok; exact h1) (by simp [Tr.fit, Tr.nodes, Tr.bytes, Tr.depth, h2]))
   ·exact hl
  ·exact hl
 split
 ·unfold listT
  split
  ·exact hl
  ·split
   ·rename_i h
    exact okl_app (okl_take hl _) (okl_one (by unfold Tr.Ok; exact okl_drop hl _) h)
   ·exact hl
 ·unfold objT
  split
  ·exact hl
  split
  ·exact hl
  split
  ·exact hl
  split
  ·rename_i h1 h2 h3 h4
   have hn : s.keys.Nodup := Classical.byContradiction h2
   exact okl_app (okl_take hl _) (okl_one (mkObj_ok _ _ hn (by simpa using h1) (by rw [List.length_drop]; omega) (okl_drop hl _)) h4)
  ·exact hl
theorem runT_ok : ∀ (ss : List Stp) (l : List Tr) (i : Nat) (l' : List Tr), (∀ s ∈ ss, s.Fine) → OkL l → runT l ss i = .inr l' → OkL l'
 | [], l, i, l', _, hl, h => by
  unfold runT at h
  injection h with h
  exact h ▸ hl
 | s :: ss, l, i, l', hs, hl, h => by
  unfold runT at h
  split at h
  ·exact runT_ok ss _ _ _ (fun x hx => hs x (by simp [hx])) (doT_ok l s (hs s (by simp)) hl) h
  ·cases h
theorem buildT_ok {ss : List Stp} {t : Tr} (hs : ∀ s ∈ ss, s.Fine) (h : buildT ss = .inr t) : t.Ok ∧ t.fit = true := by
 unfold buildT at h
 split at h
 ·cases h
 ·split at h
  ·cases h
  ·rename_i t' hr
   injection h with h
   subst h
   exact okl_mem (runT_ok ss [] 0 _ hs (by unfold OkL; trivial) hr) (by simp)
  ·cases h
end Nd
end Go.Proofs.YtbajkglacfheiaaGreatDoor
namespace Go.Proofs.YtbajkglacfheiaaGreatDoor
open Go.RowKit Mem
namespace Nd

theorem root_any (g : Nat) (ty tx : TypeId) (ux : Value) (w : World) (hB : Blk w g ty #[.iface tx ux]) : Calls Tryz.prog 95 #[.pointer (some ⟨g, 0, none⟩)] w fun e w' => e = .returned (.agg #[.iface tx ux]) ∧ Below w.heap.size w w' := by
 have a1 : w.cell? ⟨g, 0, none⟩ = some (.iface tx ux) := hB.cell 0
 have hlt := hB.lt
 have a2 : (w.alloc (.cells #[.nilIface] 58)).cell? ⟨g, 0, none⟩ = some (.iface tx ux) := (hB.alloc _).cell 0
 clear hB
 go_enter Tryz.func95, Tryz.ntmps95
 go_wp2
 refine bodyPost_ret (v := .agg #[.iface tx ux]) ?_ rfl ⟨rfl, ?_⟩
 ·simp [results, Tryz.results95, go_sem]
 ·exact ((Below.refl _ _).alloc (Nat.le_refl _) _)
end Nd
end Go.Proofs.YtbajkglacfheiaaGreatDoor
namespace Go.Proofs.YtbajkglacfheiaaGreatDoor
open Go.RowKit Mem
namespace Nd

end Nd
end Go.Proofs.YtbajkglacfheiaaGreatDoor
namespace Go.Proofs.YtbajkglacfheiaaGreatDoor
open Go.ChangeShapes Go.WideShapes Go.RowKit Go.Deep Mem
namespace Nd

theorem prog_own : ownKnob Tryz.prog.godebug = none := by kernel_rfl
theorem prog_laidOut : laidOutB Tryz.prog = true := by kernel_rfl
section
variable {H : Type} {enc : TypeId × Value → H} {P : Program} {w : World} {base : Nat} {spare : Nat → Bool} {held : Bool}
end
theorem bulk_pos {H : Type} (d : DataW H) : 1 ≤ Rows.uptoBulk d := by
 cases d <;> (try (rename_i x; cases x)) <;> simp [Rows.uptoBulk]
theorem bulkAll_len {H : Type} : ∀ l : List (DataW H), l.length ≤ Rows.uptoBulkAll l
 | [] => Nat.zero_le _
 | e :: r => by
  have := bulkAll_len r
  have := bulk_pos e
  rw [Rows.uptoBulkAll, List.length_cons]
  omega

section
variable {H : Type} {enc : TypeId × Value → H} {W : World}
end
end Nd
end Go.Proofs.YtbajkglacfheiaaGreatDoor
