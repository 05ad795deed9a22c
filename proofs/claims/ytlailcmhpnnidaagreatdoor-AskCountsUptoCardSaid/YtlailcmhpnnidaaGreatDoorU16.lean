/-
  The iterator of a Ref's All: its contract, the caller's blocks named.
  Walks of package node: a Ref's Sort and Len. Two trees alike, in plain terms; slices.Equal of two rows of keys. Walks of package node: a Ref's Same.
-/
import Derived.Test.YtlailcmhpnnidaaGreatDoorU15
import Derived.Test.YtlailcmhpnnidaaGreatDoorU7
import Derived.Deep.RegionHeldLaw
import Derived.BigQuiet
set_option linter.unusedVariables false
set_option linter.unusedSimpArgs false
set_option maxRecDepth 100000
set_option maxHeartbeats 16000000
namespace Go.Proofs.YtlailcmhpnnidaaGreatDoor
open Go.RowKit Go.Shelf Mem Rg
namespace Nd
attribute [local go_sem] Oper.semAt_some
theorem fr_low {C : Nat → Prop} {W W' : World} {n₀ Bs : Nat} (h : Fr C W W') (hC : ∀ k, C k → ¬ (k < n₀ ∨ k = Bs)) (hn : n₀ ≤ W.heap.size) (hB : Bs < W.heap.size) : KpB n₀ Bs W W' :=
 ⟨h.below hn fun k _ hc => by have := hC k hc; omega, h.block Bs hB fun hc => hC Bs hc (.inr rfl)⟩
theorem fr_chain {C C' : Nat → Prop} {W W1 W2 W3 : World} (h : Fr C W W1) (hN : Nw C C' W) (hb : Below W1.heap.size W1 W2) (h3 : Fr C' W2 W3) : Fr C W W3 := by
 have h2 : Fr C W W2 := h.trans (Fr.of_below (C := fun _ => False) hb) fun k _ hc => hc.elim
 exact h2.step hN h3
theorem all1_inC (m l Bs n₀ : Nat) (t : Tr) (v : Value) (A : Option Addr) (c : Nat) (vs : List Value) (hm : 1 ≤ m) (hbig : t.kids.length ≤ 1048576) (J Jx : (Nat → Prop) → List (Fin t.kids.length) → World → Prop) (C : Nat → Prop)
  (W : World) (hC : ∀ k, C k → ¬ (k < n₀ ∨ k = Bs)) (aJ : Abd W.heap.size J)
  (hY : ∀ C pre x W1, W.heap.size ≤ W1.heap.size → J C pre W1 → pre = upF t.kids.length x.1 → YieldAt Fence.wide (m - 1) Tryz.prog l (encR t vs x) W1 (YldC J Jx C (pre ++ [x]) W1))
  (hn0 : n₀ ≤ W.heap.size) (hBs : W.cell? ⟨Bs, 0, none⟩ = some v) (hI : ItV (fun k => k < n₀) W v A t.kids.length c) (hrow : Row (fun k => k < n₀) W 66 (.slice A t.kids.length c) vs) (hL : RdL (fun k => k < n₀) W t.kids vs) (hT : RdT (fun k => k < n₀) W t v) (h0 : J C [] W) :
  CallsIn Fence.wide m Tryz.prog 110 #[.func (.yield l) #[] #[], .pointer (some ⟨Bs, 0, none⟩)] W fun e W' => (∃ v, e = .returned v) ∧ ∃ C', Fr C W W' ∧ Nw C C' W ∧
   ((∃ ys, ys = upF t.kids.length t.kids.length ∧ J C' ys W') ∨ (∃ pre, (∃ k, k ≤ t.kids.length ∧ pre = upF t.kids.length k) ∧ Jx C' pre W')) := by
 refine callsIn_of_wp Tryz.func110 rfl trivial ?_ rfl
 simp only [Tryz.ntmps110, List.size_toArray, List.length_cons, List.length_nil, Nat.reduceAdd, Nat.reduceSub, Array.replicate_succ, Array.replicate_zero, List.push_toArray, List.append_toArray, List.nil_append, List.cons_append]
 have HI := Lib.hid hI
 have HROW := Lib.hid hrow
 have HL := Lib.hid hL
 have HT := Lib.hid hT
 have HJ := Lib.hid aJ
 have HY := Lib.hid hY
 have H0 := Lib.hid h0
 have HC := Lib.hid hC
 clear hI hrow hL hT aJ hY h0 hC
 have hBsW := World.block_lt_of_cell? W _ hBs
 dsimp only at hBsW
 gi_wp2_with (refine ⟨trivial, ?_⟩; gi_at_call 87; refine (callsIn_wide.2 (itm_any HI.out)).mono ?_; rintro e w1 ⟨rfl, hb1⟩; have H1 := Lib.hid (And.intro (HJ.out.new H0.out hb1) (And.intro (Fr.of_below (C := C) hb1) (Nw.refl C W))); clear hb1)
 gi_loopw [10] (fun i wr => ∃ k : Nat, k ≤ t.kids.length ∧ i = .int .i64 k ∧ ∃ Ck, Hid (J Ck (upF t.kids.length k) wr ∧ Fr C W wr ∧ Nw C Ck W)) (fun i _ => t.kids.length - (intOf i).toNat)
 case atStart => exact ⟨0, Nat.zero_le _, rfl, C, H1⟩
 case round =>
  obtain ⟨k, hk, rfl, Ck, HJs⟩ := hrel
  have hKB := fr_low HJs.out.2.1 HC.out hn0 hBsW
  obtain ⟨hnx, hnb⟩ := hKB
  have hsz := hnx.size
  have hcB : wr.cell? ⟨Bs, 0, none⟩ = some v := (itv_cell hnb).trans hBs
  have hBw := World.block_lt_of_cell? wr _ hcB
  dsimp only at hBw
  by_cases hlt : k < t.kids.length
  ·have hcell : ∃ g o tx ux, A = some ⟨g, o, none⟩ ∧ wr.cell? ⟨g, o + k, none⟩ = some (.iface tx ux) ∧ vs.getD k .nilIface = .iface tx ux := by
    obtain ⟨A', c', e', h'⟩ := HROW.out
    injection e' with e1 e2 e3
    have hvl := HL.out.len
    rcases h' with ⟨h', _⟩ | ⟨g, o, cur, hA, hSg, hBg, hc⟩
    ·rw [h'] at hvl
     simp at hvl
     omega
    ·have hvk : vs[k]? = some (vs[k]'(by omega)) := List.getElem?_eq_getElem (by omega)
     have hrd := HL.out.at (List.getElem?_eq_getElem hlt) hvk
     obtain ⟨tx, ux, he⟩ := hrd.iface
     refine ⟨g, o, tx, ux, by rw [e1, hA], ((hnx.cell (p := ⟨g, o + k, none⟩) hSg).trans (hBg.cell _)).trans (hc k _ (by rw [hvk, he])), ?_⟩
     rw [List.getD_eq_getElem?_getD, hvk, he]
     rfl
   obtain ⟨g, o, tx, ux, rfl, hcell, hgd⟩ := hcell
   have HTr := Lib.hid (RdT.move (S := fun j => j < n₀) (S' := fun j => j < n₀) (w := W) (w' := wr) (fun j hj hs => ⟨hs, hnx.block j hs⟩) _ _ HT.out)
   gi_wp2_with (refine ⟨trivial, ?_⟩; gi_at_call 111; refine (callsIn_wide.2 (key_any (fun j => j < n₀) t v k hlt hbig _ HTr.out)).mono ?_; rintro e w2 ⟨rfl, hb2⟩; have H2 := HJ.out.new HJs.out.1 hb2; have HB2 := Lib.hid hb2; obtain ⟨fn, tmps, assign, body, hy, hR⟩ := HY.out Ck _ ⟨k, hlt⟩ w2 (Nat.le_trans hsz hb2.size) H2 rfl; dsimp only [encR] at hy; rw [hgd] at hy; clear hb2 H2)
   refine hR.mono ?_
   rintro e W3 (⟨rfl, C3, hJ3, hF3, hN3⟩ | ⟨rfl, C3, hJ3, hF3, hN3⟩)
   ·have HJ3 := Lib.hid (And.intro hJ3 (And.intro (fr_chain HJs.out.2.1 HJs.out.2.2 HB2.out hF3) (HJs.out.2.2.trans hN3 (Nat.le_trans hsz HB2.out.size))))
    clear hJ3 hF3 hN3
    gi_wp2
    go_roundw
    case rel => exact ⟨k + 1, by omega, by simp, C3, Lib.hid (by rw [upF_succ _ _ hlt]; exact HJ3.out)⟩
    case measure => simp [intOf]; omega
   ·have HJ3 := Lib.hid (And.intro hJ3 (And.intro (fr_chain HJs.out.2.1 HJs.out.2.2 HB2.out hF3) (HJs.out.2.2.trans hN3 (Nat.le_trans hsz HB2.out.size))))
    clear hJ3 hF3 hN3
    gi_wp2
    refine bodyPost_ret (results_none rfl _ _ _) rfl ?_
    exact ⟨⟨_, rfl⟩, C3, HJ3.out.2.1, HJ3.out.2.2, .inr ⟨_, ⟨k + 1, by omega, (upF_succ _ _ hlt).symm⟩, HJ3.out.1⟩⟩
  ·obtain rfl : k = t.kids.length := by omega
   gi_wp2
   go_end0
   exact ⟨⟨_, rfl⟩, Ck, HJs.out.2.1, HJs.out.2.2, .inl ⟨_, rfl, HJs.out.1⟩⟩
theorem all_stopsC (m Bs n₀ : Nat) (t : Tr) (v : Value) (A : Option Addr) (c : Nat) (vs : List Value) (hm : 1 ≤ m) (hbig : t.kids.length ≤ 1048576) (w : World) (hn0 : n₀ ≤ w.heap.size) (hBs : w.cell? ⟨Bs, 0, none⟩ = some v) (hI : ItV (fun k => k < n₀) w v A t.kids.length c) (hrow : Row (fun k => k < n₀) w 66 (.slice A t.kids.length c) vs) (hL : RdL (fun k => k < n₀) w t.kids vs) (hT : RdT (fun k => k < n₀) w t v) :
  SeqC Fence.wide m Tryz.prog 110 #[.pointer (some ⟨Bs, 0, none⟩)] (encR t vs) (fun k => k < n₀ ∨ k = Bs) (fun _ ys _ => ys = upF t.kids.length t.kids.length) (fun pre => ∃ k, k ≤ t.kids.length ∧ pre = upF t.kids.length k) (fun pre x => pre = upF t.kids.length x.1) w := fun l J Jx C W hf hC aJ aJx bJ bJx hY h0 => by
 have hs := hf.size
 have hBl := World.block_lt_of_cell? w _ hBs
 dsimp only at hBl
 have hR : ∀ k, k < n₀ ∨ k = Bs → W.heap[k]? = w.heap[k]? := fun k hk => hf.block k (by omega) fun h => h hk
 have hmv : ∀ j, j < w.heap.size → j < n₀ → j < n₀ ∧ W.heap[j]? = w.heap[j]? := fun j hj hs => ⟨hs, hR j (.inl hs)⟩
 exact all1_inC m l Bs n₀ t v A c vs hm hbig J Jx C W hC aJ hY (Nat.le_trans hn0 hs) ((itv_cell (hR Bs (.inr rfl))).trans hBs) (hI.move hmv) (hrow.move hmv) (hL.move hmv) (RdT.move hmv _ _ hT) h0
end Nd
end Go.Proofs.YtlailcmhpnnidaaGreatDoor
namespace Go.Proofs.YtlailcmhpnnidaaGreatDoor
open Go.RowKit Mem
namespace Nd

def Tr.srt : Tr → Nat
 | .null => 1
 | .flag _ => 2
 | .num _ => 3
 | .text _ => 4
 | .list _ => 5
 | .obj _ _ => 6
def IntP (n : Int) (w : World) (e : Ending) (w' : World) : Prop := e = .returned (.int .i64 n) ∧ Below w.heap.size w w'
theorem ms_null (fuel : Nat) (nm : String) (hnm : nm = itemM 1) (W : World) : (method (fuel + 1) 160 (.agg #[]) nm).run Tryz.prog W = .ok (250, (.agg #[])) W := by
 subst hnm
 kernel_rfl
theorem sf_null (w : World) : Calls Tryz.prog 250 #[(.agg #[])] w (IntP 1 w) := by
 go_enter Tryz.func250, Tryz.ntmps250
 go_wp2
 go_ret
 exact ⟨rfl, (Below.refl _ _).alloc (Nat.le_refl _) _⟩
theorem st_null (w : World) : Calls Tryz.prog 49 #[.agg #[.iface 160 (.agg #[])]] w (IntP 1 w) := by
 go_enter Tryz.func49, Tryz.ntmps49
 go_wp2_with fail
 rw [ms_null _ _ ?nm]
 case nm => kernel_rfl
 go_wp2_with fail
 ((with_reducible refine (sf_null _).mono ?_); rintro e w1 ⟨rfl, hb1⟩)
 have hbw := ((Below.refl w.heap.size w).alloc (Nat.le_refl _) (.cells #[.iface 160 (.agg #[])] 68)).trans (hb1.mono (by simp))
 clear hb1
 go_wp2
 go_ret
 exact ⟨rfl, hbw⟩
theorem ms_flag (fuel : Nat) (b : Bool) (nm : String) (hnm : nm = itemM 1) (W : World) : (method (fuel + 1) 161 (.bool b) nm).run Tryz.prog W = .ok (252, (.bool b)) W := by
 subst hnm
 kernel_rfl
theorem sf_flag (b : Bool) (w : World) : Calls Tryz.prog 252 #[(.bool b)] w (IntP 2 w) := by
 go_enter Tryz.func252, Tryz.ntmps252
 go_wp2
 go_ret
 exact ⟨rfl, Below.refl _ _⟩
theorem st_flag (b : Bool) (w : World) : Calls Tryz.prog 49 #[.agg #[.iface 161 (.bool b)]] w (IntP 2 w) := by
 go_enter Tryz.func49, Tryz.ntmps49
 go_wp2_with fail
 rw [ms_flag _ b _ ?nm]
 case nm => kernel_rfl
 go_wp2_with fail
 ((with_reducible refine (sf_flag b _).mono ?_); rintro e w1 ⟨rfl, hb1⟩)
 have hbw := ((Below.refl w.heap.size w).alloc (Nat.le_refl _) (.cells #[.iface 161 (.bool b)] 68)).trans (hb1.mono (by simp))
 clear hb1
 go_wp2
 go_ret
 exact ⟨rfl, hbw⟩
theorem ms_num (fuel : Nat) (x : Nat) (nm : String) (hnm : nm = itemM 1) (W : World) : (method (fuel + 1) 162 (.float .f64 x) nm).run Tryz.prog W = .ok (254, (.float .f64 x)) W := by
 subst hnm
 kernel_rfl
theorem sf_num (x : Nat) (w : World) : Calls Tryz.prog 254 #[(.float .f64 x)] w (IntP 3 w) := by
 go_enter Tryz.func254, Tryz.ntmps254
 go_wp2
 go_ret
 exact ⟨rfl, Below.refl _ _⟩
theorem st_num (x : Nat) (w : World) : Calls Tryz.prog 49 #[.agg #[.iface 162 (.float .f64 x)]] w (IntP 3 w) := by
 go_enter Tryz.func49, Tryz.ntmps49
 go_wp2_with fail
 rw [ms_num _ x _ ?nm]
 case nm => kernel_rfl
 go_wp2_with fail
 ((with_reducible refine (sf_num x _).mono ?_); rintro e w1 ⟨rfl, hb1⟩)
 have hbw := ((Below.refl w.heap.size w).alloc (Nat.le_refl _) (.cells #[.iface 162 (.float .f64 x)] 68)).trans (hb1.mono (by simp))
 clear hb1
 go_wp2
 go_ret
 exact ⟨rfl, hbw⟩
theorem ms_text (fuel : Nat) (s : ByteArray) (nm : String) (hnm : nm = itemM 1) (W : World) : (method (fuel + 1) 163 (.string s) nm).run Tryz.prog W = .ok (256, (.string s)) W := by
 subst hnm
 kernel_rfl
theorem sf_text (s : ByteArray) (w : World) : Calls Tryz.prog 256 #[(.string s)] w (IntP 4 w) := by
 go_enter Tryz.func256, Tryz.ntmps256
 go_wp2
 go_ret
 exact ⟨rfl, Below.refl _ _⟩
theorem st_text (s : ByteArray) (w : World) : Calls Tryz.prog 49 #[.agg #[.iface 163 (.string s)]] w (IntP 4 w) := by
 go_enter Tryz.func49, Tryz.ntmps49
 go_wp2_with fail
 rw [ms_text _ s _ ?nm]
 case nm => kernel_rfl
 go_wp2_with fail
 ((with_reducible refine (sf_text s _).mono ?_); rintro e w1 ⟨rfl, hb1⟩)
 have hbw := ((Below.refl w.heap.size w).alloc (Nat.le_refl _) (.cells #[.iface 163 (.string s)] 68)).trans (hb1.mono (by simp))
 clear hb1
 go_wp2
 go_ret
 exact ⟨rfl, hbw⟩
theorem ms_list (fuel : Nat) (g : Nat) (nm : String) (hnm : nm = itemM 1) (W : World) : (method (fuel + 1) 164 (.pointer (some ⟨g, 0, none⟩)) nm).run Tryz.prog W = .ok (258, (.pointer (some ⟨g, 0, none⟩))) W := by
 subst hnm
 kernel_rfl
theorem sf_list (g : Nat) (w : World) : Calls Tryz.prog 258 #[(.pointer (some ⟨g, 0, none⟩))] w (IntP 5 w) := by
 go_enter Tryz.func258, Tryz.ntmps258
 go_wp2
 go_ret
 exact ⟨rfl, Below.refl _ _⟩
theorem st_list (g : Nat) (w : World) : Calls Tryz.prog 49 #[.agg #[.iface 164 (.pointer (some ⟨g, 0, none⟩))]] w (IntP 5 w) := by
 go_enter Tryz.func49, Tryz.ntmps49
 go_wp2_with fail
 rw [ms_list _ g _ ?nm]
 case nm => kernel_rfl
 go_wp2_with fail
 ((with_reducible refine (sf_list g _).mono ?_); rintro e w1 ⟨rfl, hb1⟩)
 have hbw := ((Below.refl w.heap.size w).alloc (Nat.le_refl _) (.cells #[.iface 164 (.pointer (some ⟨g, 0, none⟩))] 68)).trans (hb1.mono (by simp))
 clear hb1
 go_wp2
 go_ret
 exact ⟨rfl, hbw⟩
theorem ms_obj (fuel : Nat) (g : Nat) (nm : String) (hnm : nm = itemM 1) (W : World) : (method (fuel + 1) 169 (.pointer (some ⟨g, 0, none⟩)) nm).run Tryz.prog W = .ok (259, (.pointer (some ⟨g, 0, none⟩))) W := by
 subst hnm
 kernel_rfl
theorem sf_obj (g : Nat) (w : World) : Calls Tryz.prog 259 #[(.pointer (some ⟨g, 0, none⟩))] w (IntP 6 w) := by
 go_enter Tryz.func259, Tryz.ntmps259
 go_wp2
 go_ret
 exact ⟨rfl, Below.refl _ _⟩
theorem st_obj (g : Nat) (w : World) : Calls Tryz.prog 49 #[.agg #[.iface 169 (.pointer (some ⟨g, 0, none⟩))]] w (IntP 6 w) := by
 go_enter Tryz.func49, Tryz.ntmps49
 go_wp2_with fail
 rw [ms_obj _ g _ ?nm]
 case nm => kernel_rfl
 go_wp2_with fail
 ((with_reducible refine (sf_obj g _).mono ?_); rintro e w1 ⟨rfl, hb1⟩)
 have hbw := ((Below.refl w.heap.size w).alloc (Nat.le_refl _) (.cells #[.iface 169 (.pointer (some ⟨g, 0, none⟩))] 68)).trans (hb1.mono (by simp))
 clear hb1
 go_wp2
 go_ret
 exact ⟨rfl, hbw⟩
theorem sort_any (S : Nat → Prop) (t : Tr) (v : Value) (w : World) (h : RdT S w t v) : Calls Tryz.prog 49 #[.agg #[v]] w (IntP (t.srt : Nat) w) := by
 cases t with
 | null =>
  unfold RdT at h
  subst h
  exact st_null w
 | flag b =>
  unfold RdT at h
  subst h
  exact st_flag b w
 | num x =>
  unfold RdT at h
  subst h
  exact st_num x w
 | text s =>
  unfold RdT at h
  subst h
  exact st_text _ w
 | list l =>
  unfold RdT at h
  obtain ⟨g1, A1, c1, vs, rfl, _⟩ := h
  exact st_list g1 w
 | obj ks l =>
  unfold RdT at h
  obtain ⟨g1, K1, dk, A1, c1, vs, rfl, _⟩ := h
  exact st_obj g1 w
theorem len_itv (S : Nat → Prop) (v : Value) (A : Option Addr) (n c : Nat) (w : World) (h : ItV S w v A n c) : Calls Tryz.prog 53 #[.agg #[v]] w (IntP (n : Nat) w) := by
 have hI : ItV S (w.alloc (.cells #[v] 68)) v A n c := h.move fun j hj hs => ⟨hs, Below.heap_alloc w _ j hj⟩
 have HI := Lib.hid hI
 clear hI h
 go_enter Tryz.func53, Tryz.ntmps53
 go_wp2_with fail
 ((with_reducible refine (itm_any HI.out).mono ?_); rintro e w1 ⟨rfl, hb1⟩)
 have hbw := ((Below.refl w.heap.size w).alloc (Nat.le_refl _) (.cells #[v] 68)).trans (hb1.mono (by simp))
 clear hb1
 go_wp2
 go_ret
 exact ⟨rfl, hbw⟩
theorem len_any (S : Nat → Prop) (t : Tr) (v : Value) (w : World) (h : RdT S w t v) : Calls Tryz.prog 53 #[.agg #[v]] w (IntP (t.kids.length : Nat) w) := by
 obtain ⟨A, c, vs, hI, _, _⟩ := h.itv
 exact len_itv S v A _ c w hI
end Nd
end Go.Proofs.YtlailcmhpnnidaaGreatDoor
namespace Go.Proofs.YtlailcmhpnnidaaGreatDoor
open Go.RowKit Mem
namespace Nd

def bsOf (ks : List Tx) : List ByteArray := ks.map fun k => ⟨k.toArray⟩
theorem bsOf_inj {a b : List Tx} (h : bsOf a = bsOf b) : a = b := by
 unfold bsOf at h
 refine (List.map_inj_right (f := fun k : Tx => (⟨k.toArray⟩ : ByteArray)) ?_).1 h
 intro x y h
 have := congrArg (fun b : ByteArray => b.data.toList) h
 simpa using this
theorem keys_equal (ks js : List Tx) (v1 v2 : Value) (w : World) (h1 : RdK w v1 ks) (h2 : RdK w v2 js) (hl : ks.length = js.length) (hn : ks.length ≤ 1048576) :
  Calls Tryz.prog 10 #[v1, v2] w fun e w' => e = .returned (.bool (decide (ks = js))) ∧ Below w.heap.size w w' := by
 obtain ⟨A1, c1, rfl, h1⟩ := h1
 obtain ⟨A2, c2, rfl, h2⟩ := h2
 cases hk : ks with
 | nil =>
  rw [hk] at hl
  have hj : js = [] := List.length_eq_zero_iff.1 hl.symm
  rw [hj]
  refine (Tryz.slices_Equal_string_empty A1 A2 c1 0 c2 w (by omega)).mono ?_
  rintro e w' ⟨rfl, rfl⟩
  exact ⟨rfl, Below.refl _ _⟩
 | cons k0 kr =>
  rw [← hk]
  have hne : ks ≠ [] := by rw [hk]; simp
  have hnj : js ≠ [] := fun e => hne (List.length_eq_zero_iff.1 (by rw [hl, e]; rfl))
  rcases h1 with h1 | ⟨g1, o1, rfl, h1⟩
  ·exact absurd h1 hne
  rcases h2 with h2 | ⟨g2, o2, rfl, h2⟩
  ·exact absurd h2 hnj
  have hc : ∀ (xs : List Tx) g o, (∀ (j : Nat) (t : Tx), xs[j]? = some t → w.cell? ⟨g, o + j, none⟩ = some (txV t)) → ∀ j, j < (bsOf xs).length → w.cell? ⟨g, o + j, none⟩ = some (.string ((bsOf xs).getD j ByteArray.empty)) := by
   intro xs g o h j hj
   have hjx : j < xs.length := by unfold bsOf at hj; simpa using hj
   rw [h j _ (List.getElem?_eq_getElem hjx)]
   unfold txV bsOf
   rw [List.getD_eq_getElem?_getD, List.getElem?_map, List.getElem?_eq_getElem hjx]
   rfl
  have hb1 : (bsOf ks).length = ks.length := by unfold bsOf; simp
  have hb2 : (bsOf js).length = js.length := by unfold bsOf; simp
  refine (Tryz.slices_Equal_string g1 o1 ks.length c1 g2 o2 js.length c2 (bsOf ks) (bsOf js) w (by omega) (by omega) (by omega) (by omega) (hc ks g1 o1 h1) (hc js g2 o2 h2)).mono ?_
  rintro e w' ⟨rfl, q, rfl⟩
  refine ⟨?_, drewN_below _ _⟩
  rw [List.take_of_length_le (by omega), List.take_of_length_le (by omega)]
  congr 2
  exact decide_eq_decide.2 ⟨bsOf_inj, fun h => by rw [h]⟩
end Nd
end Go.Proofs.YtlailcmhpnnidaaGreatDoor
namespace Go.Proofs.YtlailcmhpnnidaaGreatDoor
open Go.RowKit Mem
namespace Nd

abbrev RdA (w : World) (t : Tr) (v : Value) : Prop := RdT (fun _ => True) w t v
theorem RdT.toA {S : Nat → Prop} {w : World} {t : Tr} {v : Value} (h : RdT S w t v) : RdA w t v := RdT.move (fun j hj hs => ⟨trivial, rfl⟩) _ _ h
theorem rda_below {w w' : World} {t : Tr} {v : Value} (h : RdA w t v) (hb : Below w.heap.size w w') : RdA w' t v := RdT.move (fun j hj hs => ⟨trivial, hb.block j hj⟩) _ _ h
theorem held_take {P : Program} {md : Region.Mode} {ops : Array Oper} {Q : Exit → Act → World → Prop} {S : World → Prop} {i : Nat} {oi : Oper} {v : Value} (d : Option Tmp) {fuel : Nat} {listed : Array Bool} {a : Act} {w : World} (hi : ops[i]? = some oi) (hd : oi.dst = d)
  (hs : Region.noSelect ops = true) (hf : Region.free md ops listed i = true) (hr : (Region.ready md ops listed).contains i = true)
  (hQ : ∀ c a w, Q (.panic c) (a.put d v) w → Q (.panic c) a w) (hy : YieldsIf P ops S oi v a) (hS : S w)
  (h : wpAnyH P md ops Q S fuel (listed.setIfInBounds i true) (a.put d v) w) : wpAnyH P md ops Q S (fuel + 1) listed a w := by
 subst hd
 exact wpAnyH_take hi hs hf hr hQ hy hS h
theorem itv_below {w w' : World} {v : Value} {A : Option Addr} {n c : Nat} (h : ItV (fun _ => True) w v A n c) (hb : Below w.heap.size w w') : ItV (fun _ => True) w' v A n c := h.move fun j hj _ => ⟨trivial, hb.block j hj⟩
theorem row_at {w wr : World} {A : Option Addr} {c : Nat} {vs : List Value} {l : List Tr} {k : Nat} (hrow : Row (fun _ => True) w 66 (.slice A l.length c) vs) (hl : RdL (fun _ => True) w l vs) (hb : Below w.heap.size w wr) (hk : k < l.length) :
  ∃ g o tx ux, A = some ⟨g, o, none⟩ ∧ wr.cell? ⟨g, o + k, none⟩ = some (.iface tx ux) ∧ RdA wr l[k] (.iface tx ux) := by
 obtain ⟨A', c', e', h'⟩ := hrow
 injection e' with e1 e2 e3
 have hvl := hl.len
 rcases h' with ⟨h', _⟩ | ⟨g, o, cur, hA, hSg, hBg, hc⟩
 ·rw [h'] at hvl
  simp at hvl
  omega
 ·have hvk : vs[k]? = some (vs[k]'(by omega)) := List.getElem?_eq_getElem (by omega)
  have hrd := hl.at (List.getElem?_eq_getElem hk) hvk
  obtain ⟨tx, ux, he⟩ := hrd.iface
  refine ⟨g, o, tx, ux, by rw [e1, hA], (hb.cell (p := ⟨g, o + k, none⟩) hBg.lt).trans ((hBg.cell _).trans (hc k _ (by rw [hvk, he]))), ?_⟩
  rw [he] at hrd
  exact rda_below hrd hb
end Nd
end Go.Proofs.YtlailcmhpnnidaaGreatDoor
