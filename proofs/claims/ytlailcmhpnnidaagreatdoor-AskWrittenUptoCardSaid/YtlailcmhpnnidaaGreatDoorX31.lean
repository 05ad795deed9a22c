/-
  The law AskWritten: where the steps are refused, or the pointer leads nowhere.
  The iterator of a Ref's All: its contract.
  The iterator of a Ref's All: its contract, the caller's blocks named.
  Plain: all values within a tree, with their pointers.
-/
import Derived.Test.YtlailcmhpnnidaaGreatDoorX30
import Derived.Test.YtlailcmhpnnidaaGreatDoorX23
import Derived.Test.YtlailcmhpnnidaaGreatDoorX19
import Derived.Test.YtlailcmhpnnidaaGreatDoorX16
import Derived.Test.YtlailcmhpnnidaaGreatDoorX20
import Derived.RangeFuncNested
import Derived.RangeFuncBound
import Derived.RangeFuncCalls
import Derived.RangeFuncLeaves
import Derived.RangeFuncBox
import Derived.Shelf.Abstract
import Derived.Shelf.RegionOpen
import Derived.WalkKit
import Derived.OwnWalkIn
import Derived.TacticsInMore
import Derived.LoopNIn
import Derived.LoopIn
set_option linter.unusedVariables false
set_option linter.unusedSimpArgs false
set_option maxRecDepth 100000
set_option maxHeartbeats 16000000
namespace Go.Proofs.YtlailcmhpnnidaaGreatDoor
open Go.RowKit Mem Utf Ref3 Idx Tok TokC Rg
namespace Nd
def TrueW (w : World) (e : Ending) (w' : World) : Prop := e = .returned (.bool true) ∧ Below w.heap.size w w'
theorem want_look (t : Tr) (l : List UInt8) : wantB (lookK (some t) l) 1 = true := by
 unfold lookK
 dsimp only
 cases parseS (wrong l) l with
 | error x => rfl
 | ok ts =>
  dsimp only
  cases leadT t ts 0 with
  | inl n => rfl
  | inr u => cases u <;> rfl
theorem lookO_e {w0 w w' : World} {t : Tr} {l : List UInt8} {x : Value} {y : Int × Int} (h : LookO w0 t l w (.returned x) w') (hp : parseS (wrong l) l = .error y) : x = .iface 53 (.pointer none) ∧ Below w.heap.size w w' := by
 unfold LookO at h
 rw [hp] at h
 obtain ⟨h1, h2⟩ := h
 injection h1 with h1
 exact ⟨h1, h2⟩
theorem lookO_n {w0 w w' : World} {t : Tr} {l : List UInt8} {x : Value} {ts : List (List UInt8)} {n : Nat} (h : LookO w0 t l w (.returned x) w') (hp : parseS (wrong l) l = .ok ts) (hl : leadT t ts 0 = .inl n) : (∃ g, x = .iface 53 (.pointer (some ⟨g, 0, none⟩)) ∧ Blk w' g 60 #[.int .i64 n] ∧ w.heap.size ≤ g) ∧ Below w.heap.size w w' := by
 unfold LookO at h
 rw [hp] at h
 dsimp only at h
 rw [hl] at h
 obtain ⟨⟨g, h1, h2, h3⟩, h4⟩ := h
 injection h1 with h1
 exact ⟨⟨g, h1, h2, h3⟩, h4⟩
theorem lookO_s {w0 w w' : World} {t u : Tr} {l : List UInt8} {x : Value} {ts : List (List UInt8)} (h : LookO w0 t l w (.returned x) w') (hp : parseS (wrong l) l = .ok ts) (hl : leadT t ts 0 = .inr u) : TdR w' u w.heap.size w'.heap.size x ∧ Below w.heap.size w w' := by
 unfold LookO at h
 rw [hp] at h
 dsimp only at h
 rw [hl] at h
 obtain ⟨⟨y, h1, h2⟩, h4⟩ := h
 injection h1 with h1
 subst h1
 exact ⟨h2, h4⟩
theorem written_none (v : Value) (l : List UInt8) (ss : List Stp) (w : World) (hS : RdS w v ss) (hF : ∀ s ∈ ss, s.Fine) (hC : ∀ s ∈ ss, s.Cnt) (hn : ss.length ≤ 1048576) (hl : l.length ≤ 2097152) (hG : Glob w) (hT : Tab w) (x : Int × Int) (hb : buildT ss = .inl x) : Calls Tryz.prog 5 #[v, .string ⟨l.toArray⟩] w (TrueW w) := by
 obtain ⟨vA, vc, rfl, _⟩ := id hS
 have HM := Lib.hid (made_law _ ss _ hS hF hC hn)
 have HF := Lib.hid hF
 have HL := Lib.hid hl
 have HG := Lib.hid hG
 have HT := Lib.hid hT
 have HBT := Lib.hid hb
 clear hS hF hC hl hG hT hn hb
 go_enter Tryz.func5, Tryz.ntmps5
 go_wp2_with fail
 (refine HM.out.mono ?_; rintro e w1 ⟨hb1, he⟩)
 rw [HBT.out] at he
 obtain rfl := he
 have hb2 := hb1.alloc hb1.size (.cells #[.int .i64 0, .bool false, .int .u64 0, .string ⟨#[]⟩, .slice none 0 0, .slice none 0 0] 28)
 have HB := Lib.hid hb2
 have HWK := Lib.hid (works_any _ (HG.out.next hb2) (HT.out.next hb2))
 clear hb1 hb2
 go_wp2_with fail
 (refine HWK.out.mono ?_; rintro e w9 ⟨rfl, hb9⟩)
 have HZ := Lib.hid (HB.out.trans (hb9.mono HB.out.size))
 clear hb9
 go_wp2
 go_ret
 exact ⟨rfl, HZ.out⟩
theorem written_err (v : Value) (l : List UInt8) (ss : List Stp) (w : World) (hS : RdS w v ss) (hF : ∀ s ∈ ss, s.Fine) (hC : ∀ s ∈ ss, s.Cnt) (hn : ss.length ≤ 1048576) (hl : l.length ≤ 2097152) (hG : Glob w) (hT : Tab w) (t : Tr) (hb : buildT ss = .inr t) (y0 : Int × Int) (hp : parseS (wrong l) l = .error y0) : Calls Tryz.prog 5 #[v, .string ⟨l.toArray⟩] w (TrueW w) := by
 obtain ⟨vA, vc, rfl, _⟩ := id hS
 have HM := Lib.hid (made_law _ ss _ hS hF hC hn)
 have HF := Lib.hid hF
 have HL := Lib.hid hl
 have HG := Lib.hid hG
 have HT := Lib.hid hT
 have HBT := Lib.hid hb
 have HP := Lib.hid hp
 clear hp hS hF hC hl hG hT hn hb
 go_enter Tryz.func5, Tryz.ntmps5
 go_wp2_with fail
 (refine HM.out.mono ?_; rintro e w1 ⟨hb1, he⟩)
 rw [HBT.out] at he
 obtain ⟨g, A, c, K, d, rfl, hrv, hTA⟩ := he
 obtain ⟨_, hfit, tv, hblk, hrd0⟩ := hTA
 have hb2 : Below w1.heap.size w1 (w1.alloc (.cells #[.int .i64 (t.srt : Nat), .bool t.fl, .int .u64 (t.bi : Nat), .string ⟨t.tx.toArray⟩, .slice A t.kids.length c, .slice K t.kn.length d] 28)) := (Below.refl _ _).alloc (Nat.le_refl _) _
 have HO := Lib.hid (And.intro (buildT_ok HF.out HBT.out).1 hfit)
 have HBK := Lib.hid hblk
 have HR := Lib.hid (RdT.toA hrd0)
 have HG1 := Lib.hid (HG.out.next hb1)
 have HT1 := Lib.hid (HT.out.next hb1)
 have HB1 := Lib.hid hb1
 have HB2 := Lib.hid hb2
 have HW := Lib.hid (want_look t l)
 clear hb1 hb2 hblk hrd0 hrv hfit HM HG HT
 go_wp2_with fail
 generalize (w1.alloc (.cells #[.int .i64 (t.srt : Nat), .bool t.fl, .int .u64 (t.bi : Nat), .string ⟨t.tx.toArray⟩, .slice A t.kids.length c, .slice K t.kn.length d] 28)) = w2 at *
 have q1 := err_ne_nil
 have q2 := err_ne_held
 obtain ⟨T0, u0, hTu⟩ := errV_form y0.1 y0.2
 have HTU := Lib.hid hTu
 clear hTu
 ((with_reducible refine (tellO_some g t tv l w1 w2 HBK.out HR.out HB2.out HO.out.1 HO.out.2 (by have := HL.out; omega) (HG1.out.next HB2.out) (HT1.out.next HB2.out) 1).mono ?_); rintro e w3 ⟨x, hq, rfl⟩)
 rw [HW.out]
 obtain ⟨rfl, hb3⟩ := lookO_e hq HP.out
 have HB3 := Lib.hid (HB2.out.trans (hb3.mono HB2.out.size))
 clear hb3 hq
 unfold TellV
 rw [if_pos rfl]
 go_wp2_with fail
 ((with_reducible refine (tellO_some g t tv l w1 w3 HBK.out HR.out HB3.out HO.out.1 HO.out.2 (by have := HL.out; omega) (HG1.out.next HB3.out) (HT1.out.next HB3.out) 1).mono ?_); rintro e w4 ⟨y, hq, rfl⟩)
 rw [HW.out]
 obtain ⟨rfl, hb4⟩ := lookO_e hq HP.out
 have HB4 := Lib.hid (HB3.out.trans (hb4.mono HB3.out.size))
 clear hb4 hq
 unfold TellV
 rw [if_pos rfl]
 go_wp2_with fail
 ((with_reducible refine (spoil_nolost 0 0 _).mono ?_); rintro e w5 ⟨rfl, hf5⟩)
 have HB5 := Lib.hid (HB4.out.trans (hf5.below HB4.out.size fun j _ hj => by omega))
 clear hf5
 go_wp2_with fail
 ((with_reducible refine (pfind_any g t tv l w1 w5 HBK.out HR.out HB5.out HO.out.1 HO.out.2 (by have := HL.out; omega) (HG1.out.next HB5.out) (HT1.out.next HB5.out)).mono ?_); rintro e w6 ⟨he, hb6⟩)
 rw [HP.out] at he
 dsimp only at he
 rw [HTU.out] at he
 obtain rfl := he
 have hb7 := HB5.out.trans (hb6.mono HB5.out.size)
 have hb8 := hb7.alloc hb7.size (.cells #[.nilIface] 68)
 have HB8 := Lib.hid hb8
 have q3 := sq_lost_L (none)
 have HWK := Lib.hid (works_any _ (HG1.out.next hb8) (HT1.out.next hb8))
 clear hb6 hb7 hb8
 go_wp2_with fail
 (refine HWK.out.mono ?_; rintro e w9 ⟨rfl, hb9⟩)
 have HZ := Lib.hid (HB1.out.trans ((HB8.out.trans (hb9.mono HB8.out.size)).mono HB1.out.size))
 clear hb9
 go_wp2
 go_ret
 exact ⟨rfl, HZ.out⟩
theorem written_lost (v : Value) (l : List UInt8) (ss : List Stp) (w : World) (hS : RdS w v ss) (hF : ∀ s ∈ ss, s.Fine) (hC : ∀ s ∈ ss, s.Cnt) (hn : ss.length ≤ 1048576) (hl : l.length ≤ 2097152) (hG : Glob w) (hT : Tab w) (t : Tr) (hb : buildT ss = .inr t) (ts : List (List UInt8)) (n : Nat) (hp : parseS (wrong l) l = .ok ts) (hle : leadT t ts 0 = .inl n) : Calls Tryz.prog 5 #[v, .string ⟨l.toArray⟩] w (TrueW w) := by
 obtain ⟨vA, vc, rfl, _⟩ := id hS
 have HM := Lib.hid (made_law _ ss _ hS hF hC hn)
 have HF := Lib.hid hF
 have HL := Lib.hid hl
 have HG := Lib.hid hG
 have HT := Lib.hid hT
 have HBT := Lib.hid hb
 have HP := Lib.hid hp
 have HLE := Lib.hid hle
 clear hp hle hS hF hC hl hG hT hn hb
 go_enter Tryz.func5, Tryz.ntmps5
 go_wp2_with fail
 (refine HM.out.mono ?_; rintro e w1 ⟨hb1, he⟩)
 rw [HBT.out] at he
 obtain ⟨g, A, c, K, d, rfl, hrv, hTA⟩ := he
 obtain ⟨_, hfit, tv, hblk, hrd0⟩ := hTA
 have hb2 : Below w1.heap.size w1 (w1.alloc (.cells #[.int .i64 (t.srt : Nat), .bool t.fl, .int .u64 (t.bi : Nat), .string ⟨t.tx.toArray⟩, .slice A t.kids.length c, .slice K t.kn.length d] 28)) := (Below.refl _ _).alloc (Nat.le_refl _) _
 have HO := Lib.hid (And.intro (buildT_ok HF.out HBT.out).1 hfit)
 have HBK := Lib.hid hblk
 have HR := Lib.hid (RdT.toA hrd0)
 have HG1 := Lib.hid (HG.out.next hb1)
 have HT1 := Lib.hid (HT.out.next hb1)
 have HB1 := Lib.hid hb1
 have HB2 := Lib.hid hb2
 have HW := Lib.hid (want_look t l)
 clear hb1 hb2 hblk hrd0 hrv hfit HM HG HT
 go_wp2_with fail
 generalize (w1.alloc (.cells #[.int .i64 (t.srt : Nat), .bool t.fl, .int .u64 (t.bi : Nat), .string ⟨t.tx.toArray⟩, .slice A t.kids.length c, .slice K t.kn.length d] 28)) = w2 at *
 have q1 := err_ne_nil
 have q2 := err_ne_held
 ((with_reducible refine (tellO_some g t tv l w1 w2 HBK.out HR.out HB2.out HO.out.1 HO.out.2 (by have := HL.out; omega) (HG1.out.next HB2.out) (HT1.out.next HB2.out) 1).mono ?_); rintro e w3 ⟨x, hq, rfl⟩)
 rw [HW.out]
 obtain ⟨⟨gx, rfl, hbx, hgx⟩, hb3⟩ := lookO_n hq HP.out HLE.out
 have HB3 := Lib.hid (HB2.out.trans (hb3.mono HB2.out.size))
 have HX3 := Lib.hid (And.intro hbx hgx)
 clear hbx hgx
 clear hb3 hq
 unfold TellV
 rw [if_pos rfl]
 go_wp2_with fail
 ((with_reducible refine (tellO_some g t tv l w1 w3 HBK.out HR.out HB3.out HO.out.1 HO.out.2 (by have := HL.out; omega) (HG1.out.next HB3.out) (HT1.out.next HB3.out) 1).mono ?_); rintro e w4 ⟨y, hq, rfl⟩)
 rw [HW.out]
 obtain ⟨⟨gy, rfl, hby, hgy⟩, hb4⟩ := lookO_n hq HP.out HLE.out
 have HB4 := Lib.hid (HB3.out.trans (hb4.mono HB3.out.size))
 have HX := Lib.hid (HX3.out.1.below hb4 HX3.out.1.lt)
 have HXY := Lib.hid (And.intro HX3.out.1.lt (And.intro hgy (And.intro HX3.out.2 HB2.out.size)))
 have HY := Lib.hid hby
 clear hby hgy
 clear hb4 hq
 unfold TellV
 rw [if_pos rfl]
 go_wp2_with fail
 ((with_reducible refine (spoil_lost gx gx (gx + 1) n _ HX.out (by omega)).mono ?_); rintro e w5 ⟨rfl, hf5⟩)
 have HB5 := Lib.hid (HB4.out.trans (hf5.below HB4.out.size fun j _ hj => by have := HXY.out; omega))
 have HY5 : Hid (Blk w5 gy 60 #[.int .i64 n]) := Lib.hid ((hf5.block gy HY.out.lt (by have := HXY.out; omega)).trans HY.out)
 clear hf5
 go_wp2_with fail
 ((with_reducible refine (pfind_any g t tv l w1 w5 HBK.out HR.out HB5.out HO.out.1 HO.out.2 (by have := HL.out; omega) (HG1.out.next HB5.out) (HT1.out.next HB5.out)).mono ?_); rintro e w6 ⟨he, hb6⟩)
 rw [HP.out] at he
 dsimp only at he
 rw [HLE.out] at he
 obtain rfl := he
 have hb7 := HB5.out.trans (hb6.mono HB5.out.size)
 have hb8 := hb7.alloc hb7.size (.cells #[.nilIface] 68)
 have HB8 := Lib.hid hb8
 have cy : (w6.alloc (.cells #[.nilIface] 68)).cell? ⟨gy, 0, none⟩ = some (.int .i64 n) := ((HY5.out.below hb6 HY5.out.lt).alloc (.cells #[.nilIface] 68)).cell 0
 have e1 : ((n : Int) ≥ 0) = True := by simp
 have q3 := sq_lost_L (some ⟨gy, 0, none⟩)
 have HWK := Lib.hid (works_any _ (HG1.out.next hb8) (HT1.out.next hb8))
 clear hb6 hb7 hb8
 go_wp2_with fail
 (refine HWK.out.mono ?_; rintro e w9 ⟨rfl, hb9⟩)
 have HZ := Lib.hid (HB1.out.trans ((HB8.out.trans (hb9.mono HB8.out.size)).mono HB1.out.size))
 clear hb9
 go_wp2
 go_ret
 exact ⟨rfl, HZ.out⟩
end Nd
end Go.Proofs.YtlailcmhpnnidaaGreatDoor
namespace Go.Proofs.YtlailcmhpnnidaaGreatDoor
open Go.RowKit Go.Shelf Mem
namespace Nd
attribute [local go_sem] Oper.semAt_some

def upF (n k : Nat) : List (Fin n) := (List.finRange n).take k
theorem upF_succ (n k : Nat) (h : k < n) : upF n (k + 1) = upF n k ++ [⟨k, h⟩] := by
 unfold upF
 rw [List.take_succ_eq_append_getElem (by simpa using h)]
 simp
theorem upF_len (n k : Nat) (h : k ≤ n) : (upF n k).length = k := by
 unfold upF
 simp
 omega
abbrev encR (t : Tr) (vs : List Value) (j : Fin t.kids.length) : Array Value := #[.string ⟨(t.kn[j.1]?.getD []).toArray⟩, .agg #[vs.getD j.1 .nilIface]]
def KpB (n₀ Bs : Nat) (W W' : World) : Prop := Below n₀ W W' ∧ W'.heap[Bs]? = W.heap[Bs]?
end Nd
end Go.Proofs.YtlailcmhpnnidaaGreatDoor
namespace Go.Proofs.YtlailcmhpnnidaaGreatDoor
open Go.RowKit Go.Shelf Mem Rg
namespace Nd
attribute [local go_sem] Oper.semAt_some
theorem fr_low {C : Nat → Prop} {W W' : World} {n₀ Bs : Nat} (h : Fr C W W') (hC : ∀ k, C k → ¬ (k < n₀ ∨ k = Bs)) (hn : n₀ ≤ W.heap.size) (hB : Bs < W.heap.size) : KpB n₀ Bs W W' :=
 ⟨h.below hn fun k _ hc => by have := hC k hc; omega, h.block Bs hB fun hc => hC Bs hc (.inr rfl)⟩
theorem fr_chain {C C' : Nat → Prop} {W W1 W2 W3 : World} (h : Fr C W W1) (hN : Nw C C' W) (hb : Below W1.heap.size W1 W2) (h3 : Fr C' W2 W3) : Fr C W W3 := by
 have h2 : Fr C W W2 := h.trans (Fr.of_below (C := fun _ => False) hb) fun k _ hc => hc.elim
 exact h2.step hN h3
theorem all1_inC (m l Bs n₀ : Nat) (t : Tr) (v : Value) (A : Option Addr) (c : Nat) (vs : List Value) (hm : 1 ≤ m) (hbig : t.kids.length ≤ 1048576) (J Jx : (Nat → Prop) → List (Fin t.kids.length) → World → Prop) (C : Nat → Prop)
  (W : World) (hC : ∀ k, C k → ¬ (k < n₀ ∨ k = Bs)) (aJ : Abd W.heap.size J)
  (hY : ∀ C pre x W1, W.heap.size ≤ W1.heap.size → J C pre W1 → pre = upF t.kids.length x.1 → YieldAt Fence.wide (m - 1) Tryz.prog l (encR t vs x) W1 (YldC J Jx C (pre ++ [x]) W1))
  (hn0 : n₀ ≤ W.heap.size) (hBs : W.cell? ⟨Bs, 0, none⟩ = some v) (hI : ItV (fun k => k < n₀) W v A t.kids.length c) (hrow : Row (fun k => k < n₀) W 66 (.slice A t.kids.length c) vs) (hL : RdL (fun k => k < n₀) W t.kids vs) (hT : RdT (fun k => k < n₀) W t v) (h0 : J C [] W) :
  CallsIn Fence.wide m Tryz.prog 110 #[.func (.yield l) #[] #[], .pointer (some ⟨Bs, 0, none⟩)] W fun e W' => (∃ v, e = .returned v) ∧ ∃ C', Fr C W W' ∧ Nw C C' W ∧
   ((∃ ys, ys = upF t.kids.length t.kids.length ∧ J C' ys W') ∨ (∃ pre, (∃ k, k ≤ t.kids.length ∧ pre = upF t.kids.length k) ∧ Jx C' pre W')) := by
 refine callsIn_of_wp Tryz.func110 rfl trivial ?_ rfl
 simp only [Tryz.ntmps110, List.size_toArray, List.length_cons, List.length_nil, Nat.reduceAdd, Nat.reduceSub, Array.replicate_succ, Array.replicate_zero, List.push_toArray, List.append_toArray, List.nil_append, List.cons_append]
 have HI := Lib.hid hI
 have HROW := Lib.hid hrow
 have HL := Lib.hid hL
 have HT := Lib.hid hT
 have HJ := Lib.hid aJ
 have HY := Lib.hid hY
 have H0 := Lib.hid h0
 have HC := Lib.hid hC
 clear hI hrow hL hT aJ hY h0 hC
 have hBsW := World.block_lt_of_cell? W _ hBs
 dsimp only at hBsW
 gi_wp2_with (refine ⟨trivial, ?_⟩; gi_at_call 87; refine (callsIn_wide.2 (itm_any HI.out)).mono ?_; rintro e w1 ⟨rfl, hb1⟩; have H1 := Lib.hid (And.intro (HJ.out.new H0.out hb1) (And.intro (Fr.of_below (C := C) hb1) (Nw.refl C W))); clear hb1)
 gi_loopw [10] (fun i wr => ∃ k : Nat, k ≤ t.kids.length ∧ i = .int .i64 k ∧ ∃ Ck, Hid (J Ck (upF t.kids.length k) wr ∧ Fr C W wr ∧ Nw C Ck W)) (fun i _ => t.kids.length - (intOf i).toNat)
 case atStart => exact ⟨0, Nat.zero_le _, rfl, C, H1⟩
 case round =>
  obtain ⟨k, hk, rfl, Ck, HJs⟩ := hrel
  have hKB := fr_low HJs.out.2.1 HC.out hn0 hBsW
  obtain ⟨hnx, hnb⟩ := hKB
  have hsz := hnx.size
  have hcB : wr.cell? ⟨Bs, 0, none⟩ = some v := (itv_cell hnb).trans hBs
  have hBw := World.block_lt_of_cell? wr _ hcB
  dsimp only at hBw
  by_cases hlt : k < t.kids.length
  ·have hcell : ∃ g o tx ux, A = some ⟨g, o, none⟩ ∧ wr.cell? ⟨g, o + k, none⟩ = some (.iface tx ux) ∧ vs.getD k .nilIface = .iface tx ux := by
    obtain ⟨A', c', e', h'⟩ := HROW.out
    injection e' with e1 e2 e3
    have hvl := HL.out.len
    rcases h' with ⟨h', _⟩ | ⟨g, o, cur, hA, hSg, hBg, hc⟩
    ·rw [h'] at hvl
     simp at hvl
     omega
    ·have hvk : vs[k]? = some (vs[k]'(by omega)) := List.getElem?_eq_getElem (by omega)
     have hrd := HL.out.at (List.getElem?_eq_getElem hlt) hvk
     obtain ⟨tx, ux, he⟩ := hrd.iface
     refine ⟨g, o, tx, ux, by rw [e1, hA], ((hnx.cell (p := ⟨g, o + k, none⟩) hSg).trans (hBg.cell _)).trans (hc k _ (by rw [hvk, he])), ?_⟩
     rw [List.getD_eq_getElem?_getD, hvk, he]
     rfl
   obtain ⟨g, o, tx, ux, rfl, hcell, hgd⟩ := hcell
   have HTr := Lib.hid (RdT.move (S := fun j => j < n₀) (S' := fun j => j < n₀) (w := W) (w' := wr) (fun j hj hs => ⟨hs, hnx.block j hs⟩) _ _ HT.out)
   gi_wp2_with (refine ⟨trivial, ?_⟩; gi_at_call 111; refine (callsIn_wide.2 (key_any (fun j => j < n₀) t v k hlt hbig _ HTr.out)).mono ?_; rintro e w2 ⟨rfl, hb2⟩; have H2 := HJ.out.new HJs.out.1 hb2; have HB2 := Lib.hid hb2; obtain ⟨fn, tmps, assign, body, hy, hR⟩ := HY.out Ck _ ⟨k, hlt⟩ w2 (Nat.le_trans hsz hb2.size) H2 rfl; dsimp only [encR] at hy; rw [hgd] at hy; clear hb2 H2)
   refine hR.mono ?_
   rintro e W3 (⟨rfl, C3, hJ3, hF3, hN3⟩ | ⟨rfl, C3, hJ3, hF3, hN3⟩)
   ·have HJ3 := Lib.hid (And.intro hJ3 (And.intro (fr_chain HJs.out.2.1 HJs.out.2.2 HB2.out hF3) (HJs.out.2.2.trans hN3 (Nat.le_trans hsz HB2.out.size))))
    clear hJ3 hF3 hN3
    gi_wp2
    go_roundw
    case rel => exact ⟨k + 1, by omega, by simp, C3, Lib.hid (by rw [upF_succ _ _ hlt]; exact HJ3.out)⟩
    case measure => simp [intOf]; omega
   ·have HJ3 := Lib.hid (And.intro hJ3 (And.intro (fr_chain HJs.out.2.1 HJs.out.2.2 HB2.out hF3) (HJs.out.2.2.trans hN3 (Nat.le_trans hsz HB2.out.size))))
    clear hJ3 hF3 hN3
    gi_wp2
    refine bodyPost_ret (results_none rfl _ _ _) rfl ?_
    exact ⟨⟨_, rfl⟩, C3, HJ3.out.2.1, HJ3.out.2.2, .inr ⟨_, ⟨k + 1, by omega, (upF_succ _ _ hlt).symm⟩, HJ3.out.1⟩⟩
  ·obtain rfl : k = t.kids.length := by omega
   gi_wp2
   go_end0
   exact ⟨⟨_, rfl⟩, Ck, HJs.out.2.1, HJs.out.2.2, .inl ⟨_, rfl, HJs.out.1⟩⟩
theorem all_stopsC (m Bs n₀ : Nat) (t : Tr) (v : Value) (A : Option Addr) (c : Nat) (vs : List Value) (hm : 1 ≤ m) (hbig : t.kids.length ≤ 1048576) (w : World) (hn0 : n₀ ≤ w.heap.size) (hBs : w.cell? ⟨Bs, 0, none⟩ = some v) (hI : ItV (fun k => k < n₀) w v A t.kids.length c) (hrow : Row (fun k => k < n₀) w 66 (.slice A t.kids.length c) vs) (hL : RdL (fun k => k < n₀) w t.kids vs) (hT : RdT (fun k => k < n₀) w t v) :
  SeqC Fence.wide m Tryz.prog 110 #[.pointer (some ⟨Bs, 0, none⟩)] (encR t vs) (fun k => k < n₀ ∨ k = Bs) (fun _ ys _ => ys = upF t.kids.length t.kids.length) (fun pre => ∃ k, k ≤ t.kids.length ∧ pre = upF t.kids.length k) (fun pre x => pre = upF t.kids.length x.1) w := fun l J Jx C W hf hC aJ aJx bJ bJx hY h0 => by
 have hs := hf.size
 have hBl := World.block_lt_of_cell? w _ hBs
 dsimp only at hBl
 have hR : ∀ k, k < n₀ ∨ k = Bs → W.heap[k]? = w.heap[k]? := fun k hk => hf.block k (by omega) fun h => h hk
 have hmv : ∀ j, j < w.heap.size → j < n₀ → j < n₀ ∧ W.heap[j]? = w.heap[j]? := fun j hj hs => ⟨hs, hR j (.inl hs)⟩
 exact all1_inC m l Bs n₀ t v A c vs hm hbig J Jx C W hC aJ hY (Nat.le_trans hn0 hs) ((itv_cell (hR Bs (.inr rfl))).trans hBs) (hI.move hmv) (hrow.move hmv) (hL.move hmv) (RdT.move hmv _ _ hT) h0
end Nd
end Go.Proofs.YtlailcmhpnnidaaGreatDoor
namespace Go.Proofs.YtlailcmhpnnidaaGreatDoor
open Go Tok
namespace Nd
def idxToks (n : Nat) : List Tx := (List.range n).map fun i : Nat => Lib.itoa (i : Int)
def kidToks : Tr → List Tx
 | .obj ks _ => ks
 | t => idxToks t.kids.length
mutual
def allT : Tx → Tr → List (Tx × Tr)
 | s, .list l => (s, .list l) :: allK s (idxToks l.length) l
 | s, .obj ks l => (s, .obj ks l) :: allK s ks l
 | s, .null => [(s, .null)]
 | s, .flag b => [(s, .flag b)]
 | s, .num x => [(s, .num x)]
 | s, .text t => [(s, .text t)]
def allK : Tx → List Tx → List Tr → List (Tx × Tr)
 | _, _, [] => []
 | s, ks, t :: l => allT (s ++ piece (ks.headD [])) t ++ allK s ks.tail l
end
theorem allT_kids (s : Tx) (t : Tr) : allT s t = (s, t) :: allK s (kidToks t) t.kids := by
 cases t <;> simp [allT, kidToks, Tr.kids, allK]
theorem allK_nil (s : Tx) (ks : List Tx) : allK s ks [] = [] := by
 unfold allK
 rfl
theorem allK_cons (s : Tx) (ks : List Tx) (t : Tr) (l : List Tr) : allK s ks (t :: l) = allT (s ++ piece (ks.headD [])) t ++ allK s ks.tail l := by
 rw [allK]
theorem allK_take : ∀ (l : List Tr) (s : Tx) (ks : List Tx) (k : Nat) (hk : k < l.length), allK s ks (l.take (k + 1)) = allK s ks (l.take k) ++ allT (s ++ piece (ks[k]?.getD [])) l[k]
 | [], s, ks, k, hk => by simp at hk
 | t :: l, s, ks, 0, hk => by
  rw [List.take_succ_cons, List.take_zero, List.take_zero, allK_nil, allK_cons, allK_nil, List.append_nil, List.nil_append]
  cases ks <;> rfl
 | t :: l, s, ks, k + 1, hk => by
  rw [List.take_succ_cons, List.take_succ_cons, allK_cons, allK_cons, allK_take l s ks.tail k (by simpa using hk), List.append_assoc]
  cases ks <;> simp
theorem allT_len : ∀ t : Tr, ∀ s, (allT s t).length = t.nodes := by
 have kids : ∀ (l : List Tr), (∀ x, x ∈ l → ∀ s, (allT s x).length = x.nodes) → ∀ s ks, (allK s ks l).length = nodesL l := by
  intro l
  induction l with
  | nil => intro _ s ks; rw [allK_nil]; rfl
  | cons x l ih =>
   intro h s ks
   rw [allK_cons, List.length_append, h x (by simp), ih (fun y hy => h y (by simp [hy])), nodesL]
 have one : ∀ t : Tr, (∀ x, x ∈ t.kids → ∀ s, (allT s x).length = x.nodes) → ∀ s, (allT s t).length = t.nodes := by
  intro t h s
  rw [allT_kids, List.length_cons, kids _ h]
  cases t <;> simp [Tr.kids, Tr.nodes, nodesL] <;> omega
 intro t
 induction t using Tr.ind with
 | h0 => exact one _ fun x hx => by cases hx
 | h1 b => exact one _ fun x hx => by cases hx
 | h2 x => exact one _ fun x hx => by cases hx
 | h3 s => exact one _ fun x hx => by cases hx
 | h4 l ih => exact one _ ih
 | h5 ks l ih => exact one _ ih
theorem idxTok_at (n k : Nat) (hk : k < n) : (idxToks n)[k]?.getD [] = Lib.itoa (k : Int) := by
 unfold idxToks
 rw [List.getElem?_map, List.getElem?_range hk]
 rfl
theorem flat_id : ∀ l : List UInt8, (∀ c ∈ l, c ≠ 126 ∧ c ≠ 47) → l.flatMap esc = l
 | [], _ => rfl
 | c :: l, h => by
  obtain ⟨h1, h2⟩ := h c (by simp)
  rw [List.flatMap_cons, flat_id l fun d hd => h d (by simp [hd])]
  unfold esc
  rw [if_neg h1, if_neg h2]
  rfl
theorem dec_byte {d : Nat} (h : d < 10) : UInt8.ofNat (48 + d) ≠ 126 ∧ UInt8.ofNat (48 + d) ≠ 47 := by
 have hn := Idx.byte_toNat (n := 48 + d) (by omega)
 constructor
 ·intro e
  rw [e] at hn
  have : (126 : UInt8).toNat = 126 := rfl
  omega
 ·intro e
  rw [e] at hn
  have : (47 : UInt8).toNat = 47 := rfl
  omega
theorem dec_bytes (u : Nat) : ∀ c ∈ Lib.decDigits u, c ≠ 126 ∧ c ≠ 47 := by
 induction u using Nat.strongRecOn with
 | ind u ih =>
  intro c hc
  by_cases h : u < 10
  ·rw [Lib.decDigits_one h, List.mem_singleton] at hc
   rw [hc]
   exact dec_byte h
  ·rw [Idx.dec_big h, List.mem_append, List.mem_singleton] at hc
   rcases hc with hc | hc
   ·exact ih (u / 10) (by omega) c hc
   ·rw [hc]
    exact dec_byte (by omega)
theorem dec_len : ∀ (n u : Nat), u < 10 ^ (n + 1) → (Lib.decDigits u).length ≤ n + 1
 | 0, u, h => by
  rw [Lib.decDigits_one (by omega)]
  simp
 | n + 1, u, h => by
  by_cases h' : u < 10
  ·rw [Lib.decDigits_one h']
   simp
  ·rw [Idx.dec_big h', List.length_append, List.length_singleton]
   have := dec_len n (u / 10) (by
    rw [Nat.pow_succ] at h
    omega)
   omega
theorem piece_itoa (k : Nat) : piece (Lib.itoa (k : Int)) = 47 :: Lib.itoa (k : Int) := by
 unfold piece
 rw [Lib.itoa_nonneg, flat_id _ (dec_bytes k)]
def ptrRoom (t : Tr) : Nat := 8 * t.depth + 2 * t.bytes
theorem depthL_mem : ∀ (l : List Tr) (x : Tr), x ∈ l → x.depth ≤ depthL l
 | y :: l, x, h => by
  unfold depthL
  rcases List.mem_cons.1 h with rfl | h
  ·omega
  ·have := depthL_mem l x h
   omega
theorem bytesL_mem : ∀ (l : List Tr) (x : Tr), x ∈ l → x.bytes ≤ bytesL l
 | y :: l, x, h => by
  unfold bytesL
  rcases List.mem_cons.1 h with rfl | h
  ·omega
  ·have := bytesL_mem l x h
   omega
theorem itoa_six (k : Nat) (hk : k < 1000000) : (Lib.itoa (k : Int)).length ≤ 6 := by
 rw [Lib.itoa_nonneg]
 exact dec_len 5 k (by omega)
theorem room_kid (t : Tr) (j : Nat) (hj : j < t.kids.length) (hn : t.kids.length ≤ 65536) : (piece ((kidToks t)[j]?.getD [])).length + ptrRoom t.kids[j] ≤ ptrRoom t := by
 unfold ptrRoom
 cases t with
 | list l =>
  have h1 := depthL_mem l l[j] (List.getElem_mem hj)
  have h2 := bytesL_mem l l[j] (List.getElem_mem hj)
  have h3 : (kidToks (.list l))[j]?.getD [] = Lib.itoa (j : Int) := idxTok_at l.length j hj
  have hn' : l.length ≤ 65536 := hn
  have hj' : j < l.length := hj
  have h4 := itoa_six j (by omega)
  rw [h3, piece_itoa]
  simp only [Tr.kids, Tr.depth, Tr.bytes, List.length_cons]
  omega
 | obj ks l =>
  have h1 := depthL_mem l l[j] (List.getElem_mem hj)
  have h2 := bytesL_mem l l[j] (List.getElem_mem hj)
  have h3 := piece_le ((kidToks (.obj ks l))[j]?.getD [])
  have h5 : ((kidToks (.obj ks l))[j]?.getD []).length ≤ lens ks := by
   simp only [kidToks]
   rcases Nat.lt_or_ge j ks.length with h | h
   ·rw [List.getElem?_eq_getElem h]
    exact lens_at ks j h
   ·rw [List.getElem?_eq_none h]
    simp
  simp only [Tr.kids, Tr.depth, Tr.bytes]
  omega
 | null => simp [Tr.kids] at hj
 | flag b => simp [Tr.kids] at hj
 | num x => simp [Tr.kids] at hj
 | text s => simp [Tr.kids] at hj
theorem room_fit {t : Tr} (h : t.fit = true) : ptrRoom t ≤ 4198400 := by
 have := fit_le h
 unfold ptrRoom
 omega
end Nd
end Go.Proofs.YtlailcmhpnnidaaGreatDoor
