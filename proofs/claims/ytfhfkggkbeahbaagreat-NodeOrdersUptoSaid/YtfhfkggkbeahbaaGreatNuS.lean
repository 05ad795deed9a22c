/-
  The iterator of a Ref's All: its contract.
-/
import Derived.Test.YtfhfkggkbeahbaaGreatGH
import Derived.RangeFuncNested
import Derived.RangeFuncBound
import Derived.RangeFuncCalls
import Derived.RangeFuncLeaves
import Derived.RangeFuncBox
import Derived.Shelf.Abstract
import Derived.Shelf.RegionOpen
import Derived.WalkKit
import Derived.OwnWalkIn
import Derived.TacticsInMore
import Derived.LoopNIn
import Derived.LoopIn
namespace Go.Proofs.YtfhfkggkbeahbaaGreat
open Go.RowKit Go.Shelf Mem
set_option linter.unusedVariables false
namespace Nd
attribute [local go_sem] Oper.semAt_some

def upF (n k : Nat) : List (Fin n) := (List.finRange n).take k
theorem upF_succ (n k : Nat) (h : k < n) : upF n (k + 1) = upF n k ++ [⟨k, h⟩] := by
  unfold upF
  rw [List.take_succ_eq_append_getElem (by simpa using h)]
  simp
theorem upF_len (n k : Nat) (h : k ≤ n) : (upF n k).length = k := by
  unfold upF
  simp
  omega
abbrev encR (t : Tr) (vs : List Value) (j : Fin t.kids.length) : Array Value := #[.string ⟨(t.kn[j.1]?.getD []).toArray⟩, .agg #[vs.getD j.1 .nilIface]]
set_option maxRecDepth 100000 in
set_option maxHeartbeats 4000000 in
theorem abides {β : Type} {B : Nat} {J : β → World → Prop} (h : AbidesFrom B J) {s : β} {w w' : World} (hb : Below w.heap.size w w') (hj : J s w) : J s w' :=
  h s w w' none hj ⟨hb.os, hb.tape, hb.output, hb.size, fun k hk _ => hb.block k hk⟩ (fun r e => by cases e)
/-- what a round keeps: what lay below n₀, and the block of the iterator's own box -/
def KpB (n₀ Bs : Nat) (W W' : World) : Prop := Below n₀ W W' ∧ W'.heap[Bs]? = W.heap[Bs]?
theorem kpB_t {n₀ Bs : Nat} {A B C : World} (h : KpB n₀ Bs A B) (h' : KpB n₀ Bs B C) : KpB n₀ Bs A C := ⟨h.1.trans h'.1, h'.2.trans h.2⟩
theorem kpB_b {n₀ Bs : Nat} {w : World} (hn : n₀ ≤ w.heap.size) (hB : Bs < w.heap.size) (W : World) (l : Nat) (o o' : Obj) (hl : w.heap.size ≤ l) (ho : W.heap[l]? = some o) (h1 : o.isCells = false) (h2 : o.isWalk = false) : KpB n₀ Bs W (W.putObj l o') :=
  ⟨belowK_b hn W l o o' hl ho h1 h2, (grownBy_putObj' W l o').block Bs (by have := (Array.getElem?_eq_some_iff.1 ho).1; omega) (fun e => by injection e with e; omega)⟩
theorem kpB_below {n₀ Bs : Nat} {W W' : World} (hn : n₀ ≤ W.heap.size) (hB : Bs < W.heap.size) (h : Below W.heap.size W W') : KpB n₀ Bs W W' := ⟨h.mono hn, h.block Bs hB⟩
set_option maxRecDepth 100000 in
set_option maxHeartbeats 4000000 in
theorem all1_in (m l Bs n₀ : Nat) (t : Tr) (v : Value) (A : Option Addr) (c : Nat) (vs : List Value) (hm : 1 ≤ m) (hbig : t.kids.length ≤ 1048576) (J Jx : List (Fin t.kids.length) → World → Prop)
    (hY : ∀ pre x W, J pre W → pre.length < t.kids.length → YieldAt Fence.wide (m - 1) Tryz.prog l (encR t vs x) W fun e W' =>
      (e = .returned (.bool true) ∧ J (pre ++ [x]) W' ∧ KpB n₀ Bs W W') ∨ (e = .returned (.bool false) ∧ Jx (pre ++ [x]) W'))
    (W : World) (hn0 : n₀ ≤ W.heap.size) (hBs : W.cell? ⟨Bs, 0, none⟩ = some v) (hI : ItV (fun k => k < n₀) W v A t.kids.length c) (hrow : Row (fun k => k < n₀) W 41 (.slice A t.kids.length c) vs) (hL : RdL (fun k => k < n₀) W t.kids vs) (hT : RdT (fun k => k < n₀) W t v) (hJ : AbidesFrom W.heap.size J) (h0 : J [] W) :
    CallsIn Fence.wide m Tryz.prog 67 #[.func (.yield l) #[] #[], .pointer (some ⟨Bs, 0, none⟩)] W fun e W' => (∃ v, e = .returned v) ∧
      ((∃ ys, ys = upF t.kids.length t.kids.length ∧ J ys W') ∨ (∃ pre, (∃ k, k ≤ t.kids.length ∧ pre = upF t.kids.length k) ∧ Jx pre W')) := by
  refine callsIn_of_wp Tryz.func67 rfl trivial ?_ rfl
  simp only [Tryz.ntmps67, List.size_toArray, List.length_cons, List.length_nil, Nat.reduceAdd, Nat.reduceSub, Array.replicate_succ, Array.replicate_zero, List.push_toArray, List.append_toArray, List.nil_append, List.cons_append]
  have HI := Lib.hid hI
  have HROW := Lib.hid hrow
  have HL := Lib.hid hL
  have HT := Lib.hid hT
  have HJ := Lib.hid hJ
  have HY := Lib.hid hY
  have H0 := Lib.hid h0
  clear hI hrow hL hT hJ hY h0
  gi_wp2_with (refine ⟨trivial, ?_⟩; gi_at_call 40; refine (callsIn_wide.2 (itm_any HI.out)).mono ?_; rintro e w1 ⟨rfl, hb1⟩; have H1 := Lib.hid (abides HJ.out hb1 H0.out); have HB1 := Lib.hid (kpB_below (Bs := Bs) hn0 (World.block_lt_of_cell? W _ hBs) hb1); clear hb1)
  gi_loopw [10] (fun i wr => ∃ k : Nat, k ≤ t.kids.length ∧ i = .int .i64 k ∧ Hid (J (upF t.kids.length k) wr) ∧ KpB n₀ Bs W wr) (fun i _ => t.kids.length - (intOf i).toNat)
  case atStart => exact ⟨0, Nat.zero_le _, rfl, H1, HB1.out⟩
  case round =>
    obtain ⟨k, hk, rfl, HJs, hnK⟩ := hrel
    have HNK := Lib.hid hnK
    obtain ⟨hnx, hnb⟩ := hnK
    have hsz := hnx.size
    have hcB : wr.cell? ⟨Bs, 0, none⟩ = some v := (itv_cell hnb).trans hBs
    have hBw := World.block_lt_of_cell? wr _ hcB
    dsimp only at hBw
    by_cases hlt : k < t.kids.length
    · have hcell : ∃ g o tx ux, A = some ⟨g, o, none⟩ ∧ wr.cell? ⟨g, o + k, none⟩ = some (.iface tx ux) ∧ vs.getD k .nilIface = .iface tx ux := by
        obtain ⟨A', c', e', h'⟩ := HROW.out
        injection e' with e1 e2 e3
        have hvl := HL.out.len
        rcases h' with ⟨h', _⟩ | ⟨g, o, cur, hA, hSg, hBg, hc⟩
        · rw [h'] at hvl
          simp at hvl
          omega
        · have hvk : vs[k]? = some (vs[k]'(by omega)) := List.getElem?_eq_getElem (by omega)
          have hrd := HL.out.at (List.getElem?_eq_getElem hlt) hvk
          obtain ⟨tx, ux, he⟩ := hrd.iface
          refine ⟨g, o, tx, ux, by rw [e1, hA], ((hnx.cell (p := ⟨g, o + k, none⟩) hSg).trans (hBg.cell _)).trans (hc k _ (by rw [hvk, he])), ?_⟩
          rw [List.getD_eq_getElem?_getD, hvk, he]
          rfl
      obtain ⟨g, o, tx, ux, rfl, hcell, hgd⟩ := hcell
      have HTr := Lib.hid (RdT.move (S := fun j => j < n₀) (S' := fun j => j < n₀) (w := W) (w' := wr) (fun j hj hs => ⟨hs, hnx.block j hs⟩) _ _ HT.out)
      gi_wp2_with (refine ⟨trivial, ?_⟩; gi_at_call 68; refine (callsIn_wide.2 (key_any (fun j => j < n₀) t v k hlt hbig _ HTr.out)).mono ?_; rintro e w2 ⟨rfl, hb2⟩; have HB2 := Lib.hid (kpB_below (n₀ := n₀) (Bs := Bs) (by omega) hBw hb2); have H2 := abides HJ.out hb2 HJs.out; obtain ⟨fn, tmps, assign, body, hy, hR⟩ := HY.out _ ⟨k, hlt⟩ w2 H2 (by rw [upF_len _ _ hk]; exact hlt); dsimp only [encR] at hy; rw [hgd] at hy; clear hb2 H2)
      refine hR.mono ?_
      rintro e W3 (⟨rfl, hJ3, hk3⟩ | ⟨rfl, hJx3⟩)
      · have hn3 := kpB_t HNK.out (kpB_t HB2.out hk3)
        have HJ3 := Lib.hid hJ3
        clear hJ3 hk3
        gi_wp2
        go_roundw
        case rel => exact ⟨k + 1, by omega, by simp, Lib.hid (by rw [upF_succ _ _ hlt]; exact HJ3.out), hn3⟩
        case measure => simp [intOf]; omega
      · have HJ3 := Lib.hid hJx3
        clear hJx3
        gi_wp2
        refine bodyPost_ret (results_none rfl _ _ _) rfl ?_
        exact ⟨⟨_, rfl⟩, .inr ⟨_, ⟨k + 1, by omega, (upF_succ _ _ hlt).symm⟩, HJ3.out⟩⟩
    · obtain rfl : k = t.kids.length := by omega
      gi_wp2
      go_end0
      exact ⟨⟨_, rfl⟩, .inl ⟨_, rfl, HJs.out⟩⟩
theorem all_stops (m Bs n₀ : Nat) (t : Tr) (v : Value) (A : Option Addr) (c : Nat) (vs : List Value) (hm : 1 ≤ m) (hbig : t.kids.length ≤ 1048576) (w : World) (hn0 : n₀ ≤ w.heap.size) (hBs : w.cell? ⟨Bs, 0, none⟩ = some v) (hI : ItV (fun k => k < n₀) w v A t.kids.length c) (hrow : Row (fun k => k < n₀) w 41 (.slice A t.kids.length c) vs) (hL : RdL (fun k => k < n₀) w t.kids vs) (hT : RdT (fun k => k < n₀) w t v) :
    SeqStopsK Fence.wide m Tryz.prog 67 #[.pointer (some ⟨Bs, 0, none⟩)] (encR t vs) (KpB n₀ Bs) (fun ys => ys = upF t.kids.length t.kids.length) (fun pre => ∃ k, k ≤ t.kids.length ∧ pre = upF t.kids.length k) t.kids.length w := fun l J Jx W hW hJ _ hY h0 => by
  have hb : Below n₀ w W := hW.mono hn0
  have hmv : ∀ j, j < w.heap.size → j < n₀ → j < n₀ ∧ W.heap[j]? = w.heap[j]? := fun j hj hs => ⟨hs, hb.block j hs⟩
  exact all1_in m l Bs n₀ t v A c vs hm hbig J Jx hY W (Nat.le_trans hn0 hb.size) ((hW.cell (p := ⟨Bs, 0, none⟩) (World.block_lt_of_cell? w _ hBs)).trans hBs) (hI.move hmv) (hrow.move hmv) (hL.move hmv) (RdT.move hmv _ _ hT) hJ h0
end Nd
end Go.Proofs.YtfhfkggkbeahbaaGreat
