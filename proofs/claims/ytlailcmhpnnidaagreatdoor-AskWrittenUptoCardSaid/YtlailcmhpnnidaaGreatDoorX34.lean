/-
  Package pointer's All: the contract of its iterator.
  Package ask's All: what its iterator hands out lies in blocks of its own.
-/
import Derived.Test.YtlailcmhpnnidaaGreatDoorX33
import Derived.Test.YtlailcmhpnnidaaGreatDoorX23
import Derived.Test.YtlailcmhpnnidaaGreatDoorX30
set_option linter.unusedVariables false
set_option linter.unusedSimpArgs false
set_option maxRecDepth 100000
set_option maxHeartbeats 16000000
namespace Go.Proofs.YtlailcmhpnnidaaGreatDoor
open Go.RowKit Go.Shelf Mem Rg Tok
namespace Nd
attribute [local go_sem] Oper.semAt_some
theorem round_any {m m' : Nat} {P : Program} {l : Nat} {f : FuncId} {tmps : Array Value} {assign body : Code} {w : World} {R : Ending → World → Prop}
  (h : RoundIn Fence.wide m P l f tmps assign body w R) : RoundIn Fence.wide m' P l f tmps assign body w R := ⟨h.1, fun c cs _ => h.2 c cs (room_wide _)⟩
theorem yield_any {m : Nat} (m' : Nat) {P : Program} {l : Nat} {args : Array Value} {W : World} {R : Ending → World → Prop} (h : YieldAt Fence.wide m P l args W R) : YieldAt Fence.wide m' P l args W R := by
 obtain ⟨fn, tmps, assign, body, hy, hR⟩ := h
 exact ⟨fn, tmps, assign, body, hy, round_any hR⟩
def allO : Option Tr → List (Tx × Tr)
 | none => []
 | some t => allT [] t
theorem pall_end {w0 : World} {J Jx : (Nat → Prop) → List (ElT w0) → World → Prop} {C : Nat → Prop} {t : Tr} {W W4 W5 : World} {e : Ending} (h : WkP J Jx C [] [] t W4 e W5) (hb : Below W.heap.size W W4) :
  (∃ v, Ending.returned (.tuple #[]) = .returned v) ∧ ∃ C', Fr C W W5 ∧ Nw C C' W ∧ ((∃ xs, (xs.map prE = allO (some t)) ∧ J C' xs W5) ∨ (∃ pre, True ∧ Jx C' pre W5)) := by
 have hw : ∀ C', Nw C C' W4 → Nw C C' W := fun C' h k hk => (h k hk).imp id fun h => Nat.le_trans hb.size h
 have hf : Fr C W4 W5 → Fr C W W5 := fun h => (fr_new C hb).trans h fun k _ hk => hk
 rcases h with ⟨_, C', ys, h1, h2, h3, h4⟩ | ⟨_, C', ys, h2, h3, h4⟩
 ·exact ⟨⟨_, rfl⟩, C', hf h3, hw C' h4, .inl ⟨ys, h1, h2⟩⟩
 ·exact ⟨⟨_, rfl⟩, C', hf h3, hw C' h4, .inr ⟨ys, trivial, h2⟩⟩
theorem pall1_stops (m bt : Nat) (w0 w : World) (o : Option Tr) (tp : Value) (hT0 : HasT w0 o tp) (hG : Glob w0) (hA : Tab w0) (hb : Below w0.heap.size w0 w) (hbt : Boxed w bt 23 tp) (hge : w0.heap.size ≤ bt) :
  SeqC Fence.wide m Tryz.prog 58 #[.pointer (some ⟨bt, 0, none⟩)] (encE (w0 := w0)) (fun k => k < w0.heap.size ∨ k = bt) (fun _ ys _ => ys.map prE = allO o) (fun _ => True) (fun pre x => (pre.map prE ++ [prE x]) <+: allO o) w := by
 intro l J Jx C W hf hC aJ aJx bJ bJx hY h0
 have hbW : Below w0.heap.size w0 W := hb.trans (hf.below hb.size fun k _ hk => by
  rcases Nat.lt_or_ge k w0.heap.size with h | h
  ·exact absurd (.inl h) hk
  ·exact h)
 have btW : Boxed W bt 23 tp := boxed_fr hbt hf fun h => h (.inr rfl)
 have hCb := bJ _ _ _ h0
 have hen := en_walk
 refine (callsIn_wide (n := m)).2 ((callsIn_wide (n := 9)).1 ?_)
 refine callsIn_of_wp Tryz.func58 rfl trivial ?_ rfl
 simp only [Tryz.ntmps58, List.size_toArray, List.length_cons, List.length_nil, Nat.reduceAdd, Nat.reduceSub, Array.replicate_succ, Array.replicate_zero, List.push_toArray, List.append_toArray, List.nil_append, List.cons_append]
 have hb1 : Below W.heap.size W (W.alloc (.cells #[.func (.yield l) #[] #[]] 156)) := (Below.refl _ _).alloc (Nat.le_refl _) _
 have c1 := (btW.alloc (.cells #[.func (.yield l) #[] #[]] 156)).cell
 have HB1 := Lib.hid hb1
 have HJ := Lib.hid aJ
 have HJx := Lib.hid aJx
 have H0 := Lib.hid h0
 have HY := Lib.hid hY
 have HC := Lib.hid hC
 have HBW := Lib.hid hbW
 have HBT := Lib.hid btW
 have HCb := Lib.hid hCb
 clear hb1 aJ aJx h0 hY hC hbW btW hbt hf hb hCb
 rcases hT0 with ⟨rfl, rfl⟩ | ⟨t, g, v, rfl, rfl, hB, hr, ho, hfit⟩
 ·gi_wp2_with fail
  refine bodyPost_ret (results_none rfl _ _ _) rfl ?_
  exact ⟨⟨_, rfl⟩, fr_new C HB1.out, C, Nw.refl _ _, .inl ⟨[], rfl, HJ.out.new H0.out HB1.out⟩⟩
 ·have hgl := hB.lt
  obtain ⟨w2, hw2⟩ : ∃ w2, ((W.alloc (.cells #[.func (.yield l) #[] #[]] 156)).alloc (.cells #[.func (.func 59) #[] #[.pointer (some ⟨W.heap.size, 0, none⟩), .pointer (some ⟨W.heap.size + 1, 0, none⟩)]] 156)) = w2 := ⟨_, rfl⟩
  have hb2 : Below W.heap.size W w2 := by rw [← hw2]; exact ((Below.refl _ _).alloc (Nat.le_refl _) _).alloc (by simp) _
  have hs2 : w2.heap.size = W.heap.size + 2 := by rw [← hw2]; simp
  have yb : Boxed w2 W.heap.size 156 (.func (.yield l) #[] #[]) := by rw [← hw2]; exact (Boxed.new W 156 (.func (.yield l) #[] #[])).alloc _
  have wb : Boxed w2 (W.heap.size + 1) 156 (.func (.func 59) #[] #[.pointer (some ⟨W.heap.size, 0, none⟩), .pointer (some ⟨W.heap.size + 1, 0, none⟩)]) := by
   have := Boxed.new (W.alloc (.cells #[.func (.yield l) #[] #[]] 156)) 156 (.func (.func 59) #[] #[.pointer (some ⟨W.heap.size, 0, none⟩), .pointer (some ⟨W.heap.size + 1, 0, none⟩)])
   rw [World.size_alloc, hw2] at this
   exact this
  have bt2 := boxed_new HBT.out hb2
  have hsz := HBW.out.size
  have henv : WkEnv w0 l W.heap.size (W.heap.size + 1) C w2 := ⟨HBW.out.trans (hb2.mono hsz), yb, wb, fun k hk => by
   have h1 := HC.out k hk
   have h2 := HCb.out k hk
   refine ⟨?_, by omega, by omega⟩
   rcases Nat.lt_or_ge k w0.heap.size with h | h
   ·exact absurd (.inl h) h1
   ·exact h, by omega, by omega⟩
  have hB2 : Blk w2 g 155 #[v] := (henv.below.block g hgl).trans hB
  obtain ⟨tx, ux, hv⟩ := hr.iface
  subst hv
  have hrd : RdT (fun k => k < w0.heap.size) w0 t (.iface tx ux) := RdT.move (S := fun _ => True) (fun k hk _ => ⟨hk, rfl⟩) _ _ hr
  have HWK := Lib.hid (wk_any w0 l W.heap.size (W.heap.size + 1) W.heap.size (allO (some t)) J Jx hG hA HJ.out HJx.out bJ bJx (fun m' C pre x W1 h1 h2 h3 => yield_any m' (HY.out C pre x W1 h1 h2 h3)) t ho hfit)
  have HRD := Lib.hid hrd
  have HEN := Lib.hid henv
  have HB2 := Lib.hid hb2
  have HBK := Lib.hid hB2
  have HWB := Lib.hid wb
  have c3 := wb.cell
  have c4 := bt2.cell
  clear hr hrd henv hb2 hB2 hB yb bt2
  gi_wp2_with fail
  refine wpIn_region_any (by kernel_rfl) ?_
  try (change wpAnyIn _ _ _ _ _ _ _ _ _ (World.drew _))
  have HRT := Lib.hid (root_any g 155 tx ux w2.drew (show Blk w2.drew g 155 #[.iface tx ux] from HBK.out))
  refine wpAnyIn_ready (rs := [0, 1]) (by kernel_rfl) (by simp) ?_
  refine AllReadyIn.cons rfl (fun KK hK => ?_) (AllReadyIn.cons rfl (fun KK hK => ?_) AllReadyIn.nil)
  ·go_simp
   refine hK _ _ ?_
   clear hK KK
   refine wpAnyIn_ready (rs := [1]) (by kernel_rfl) (by simp) ?_
   refine AllReadyIn.cons rfl (fun KK hK => ?_) AllReadyIn.nil
   go_simp
   refine hK _ _ ?_
   clear hK KK
   refine wpAnyIn_ready (rs := [2]) (by kernel_rfl) (by simp) ?_
   refine AllReadyIn.cons rfl (fun KK hK => ?_) AllReadyIn.nil
   go_simp
   refine ⟨trivial, (callsIn_wide.2 HRT.out).mono ?_⟩
   rintro e w4 ⟨rfl, hb4⟩
   dsimp only
   refine hK _ _ ?_
   clear hK KK
   have hb24 : Below w2.heap.size w2 w4 := (drewN_below w2 1).trans (hb4.mono (by simp))
   have c3 := (boxed_new HWB.out hb24).cell
   have HB24 := Lib.hid hb24
   have HCW := Lib.hid (HWK.out 8 [] (.iface tx ux) C [] w4 HRD.out (HEN.out.new hb24) (by have := hb24.size; omega) (HJ.out.new (HJ.out.new H0.out HB2.out) hb24) (by exact List.prefix_refl _) (by have := room_fit hfit; simp; omega))
   clear hb4 hb24
   refine wpAnyIn_ready (rs := [3]) (by kernel_rfl) (by simp) ?_
   refine AllReadyIn.cons rfl (fun KK hK => ?_) AllReadyIn.nil
   go_simp
   refine ⟨trivial, HCW.out.mono ?_⟩
   rintro e W5 h5
   have HEND : Hid ((∃ v, Ending.returned (.tuple #[]) = .returned v) ∧ ∃ C', Fr C W W5 ∧ Nw C C' W ∧ ((∃ xs, (xs.map prE = allO (some t)) ∧ J C' xs W5) ∨ (∃ pre, True ∧ Jx C' pre W5))) := Lib.hid (pall_end h5 (HB2.out.trans (HB24.out.mono HB2.out.size)))
   rcases h5 with ⟨rfl, h5⟩ | ⟨rfl, h5⟩
   ·dsimp only
    refine hK _ _ ?_
    clear hK KK
    refine wpAnyIn_done (by kernel_rfl) ?_ _
    first
     | (go_end0; exact HEND.out)
     | (gi_wp2; go_end0; exact HEND.out)
     | (gi_wp2; refine bodyPost_ret (results_none rfl _ _ _) rfl ?_; exact HEND.out)
   ·dsimp only
    refine hK _ _ ?_
    clear hK KK
    refine wpAnyIn_done (by kernel_rfl) ?_ _
    first
     | (go_end0; exact HEND.out)
     | (gi_wp2; go_end0; exact HEND.out)
     | (gi_wp2; refine bodyPost_ret (results_none rfl _ _ _) rfl ?_; exact HEND.out)
  ·go_simp
   refine hK _ _ ?_
   clear hK KK
   refine wpAnyIn_ready (rs := [0, 2]) (by kernel_rfl) (by simp) ?_
   refine AllReadyIn.cons rfl (fun KK hK => ?_) (AllReadyIn.cons rfl (fun KK hK => ?_) AllReadyIn.nil)
   ·go_simp
    refine hK _ _ ?_
    clear hK KK
    refine wpAnyIn_ready (rs := [2]) (by kernel_rfl) (by simp) ?_
    refine AllReadyIn.cons rfl (fun KK hK => ?_) AllReadyIn.nil
    go_simp
    refine ⟨trivial, (callsIn_wide.2 HRT.out).mono ?_⟩
    rintro e w4 ⟨rfl, hb4⟩
    dsimp only
    refine hK _ _ ?_
    clear hK KK
    have hb24 : Below w2.heap.size w2 w4 := (drewN_below w2 1).trans (hb4.mono (by simp))
    have c3 := (boxed_new HWB.out hb24).cell
    have HB24 := Lib.hid hb24
    have HCW := Lib.hid (HWK.out 8 [] (.iface tx ux) C [] w4 HRD.out (HEN.out.new hb24) (by have := hb24.size; omega) (HJ.out.new (HJ.out.new H0.out HB2.out) hb24) (by exact List.prefix_refl _) (by have := room_fit hfit; simp; omega))
    clear hb4 hb24
    refine wpAnyIn_ready (rs := [3]) (by kernel_rfl) (by simp) ?_
    refine AllReadyIn.cons rfl (fun KK hK => ?_) AllReadyIn.nil
    go_simp
    refine ⟨trivial, HCW.out.mono ?_⟩
    rintro e W5 h5
    have HEND : Hid ((∃ v, Ending.returned (.tuple #[]) = .returned v) ∧ ∃ C', Fr C W W5 ∧ Nw C C' W ∧ ((∃ xs, (xs.map prE = allO (some t)) ∧ J C' xs W5) ∨ (∃ pre, True ∧ Jx C' pre W5))) := Lib.hid (pall_end h5 (HB2.out.trans (HB24.out.mono HB2.out.size)))
    rcases h5 with ⟨rfl, h5⟩ | ⟨rfl, h5⟩
    ·dsimp only
     refine hK _ _ ?_
     clear hK KK
     refine wpAnyIn_done (by kernel_rfl) ?_ _
     first
      | (go_end0; exact HEND.out)
      | (gi_wp2; go_end0; exact HEND.out)
      | (gi_wp2; refine bodyPost_ret (results_none rfl _ _ _) rfl ?_; exact HEND.out)
    ·dsimp only
     refine hK _ _ ?_
     clear hK KK
     refine wpAnyIn_done (by kernel_rfl) ?_ _
     first
      | (go_end0; exact HEND.out)
      | (gi_wp2; go_end0; exact HEND.out)
      | (gi_wp2; refine bodyPost_ret (results_none rfl _ _ _) rfl ?_; exact HEND.out)
   ·go_simp
    refine ⟨trivial, (callsIn_wide.2 HRT.out).mono ?_⟩
    rintro e w4 ⟨rfl, hb4⟩
    dsimp only
    refine hK _ _ ?_
    clear hK KK
    have hb24 : Below w2.heap.size w2 w4 := (drewN_below w2 1).trans (hb4.mono (by simp))
    have c3 := (boxed_new HWB.out hb24).cell
    have HB24 := Lib.hid hb24
    have HCW := Lib.hid (HWK.out 8 [] (.iface tx ux) C [] w4 HRD.out (HEN.out.new hb24) (by have := hb24.size; omega) (HJ.out.new (HJ.out.new H0.out HB2.out) hb24) (by exact List.prefix_refl _) (by have := room_fit hfit; simp; omega))
    clear hb4 hb24
    refine wpAnyIn_ready (rs := [0]) (by kernel_rfl) (by simp) ?_
    refine AllReadyIn.cons rfl (fun KK hK => ?_) AllReadyIn.nil
    go_simp
    refine hK _ _ ?_
    clear hK KK
    refine wpAnyIn_ready (rs := [3]) (by kernel_rfl) (by simp) ?_
    refine AllReadyIn.cons rfl (fun KK hK => ?_) AllReadyIn.nil
    go_simp
    refine ⟨trivial, HCW.out.mono ?_⟩
    rintro e W5 h5
    have HEND : Hid ((∃ v, Ending.returned (.tuple #[]) = .returned v) ∧ ∃ C', Fr C W W5 ∧ Nw C C' W ∧ ((∃ xs, (xs.map prE = allO (some t)) ∧ J C' xs W5) ∨ (∃ pre, True ∧ Jx C' pre W5))) := Lib.hid (pall_end h5 (HB2.out.trans (HB24.out.mono HB2.out.size)))
    rcases h5 with ⟨rfl, h5⟩ | ⟨rfl, h5⟩
    ·dsimp only
     refine hK _ _ ?_
     clear hK KK
     refine wpAnyIn_done (by kernel_rfl) ?_ _
     first
      | (go_end0; exact HEND.out)
      | (gi_wp2; go_end0; exact HEND.out)
      | (gi_wp2; refine bodyPost_ret (results_none rfl _ _ _) rfl ?_; exact HEND.out)
    ·dsimp only
     refine hK _ _ ?_
     clear hK KK
     refine wpAnyIn_done (by kernel_rfl) ?_ _
     first
      | (go_end0; exact HEND.out)
      | (gi_wp2; go_end0; exact HEND.out)
      | (gi_wp2; refine bodyPost_ret (results_none rfl _ _ _) rfl ?_; exact HEND.out)
end Nd
end Go.Proofs.YtlailcmhpnnidaaGreatDoor
namespace Go.Proofs.YtlailcmhpnnidaaGreatDoor
open Go.RowKit Go.Shelf Mem Rg Tok
namespace Nd
attribute [local go_sem] Oper.semAt_some
def TvOk (x : Tx × Tr × Value) : Prop := x.2.1.Ok ∧ x.2.1.fit = true ∧ ∃ T U, x.2.2 = .iface T U
abbrev TvT : Type := { x : Tx × Tr × Value // TvOk x }
abbrev encT (x : TvT) : Array Value := #[.string ⟨x.1.1.toArray⟩, x.1.2.2]
def prT (x : TvT) : Tx × Tr := (x.1.1, x.1.2.1)
def wantL (n : Int) (l : List (Tx × Tr)) : List (Tx × Tr) := l.filter fun x => wantB x.2.srt n
theorem pall_any (tp : Value) (h1 : tp = .pointer none ∨ ∃ a, tp = .pointer (some a)) (w : World) : Calls Tryz.prog 28 #[tp] w fun e w' => e = .returned (.func (.func 58) #[] #[.pointer (some ⟨w.heap.size, 0, none⟩)]) ∧ w.alloc (.cells #[tp] 23) = w' := by
 rcases h1 with rfl | ⟨a, rfl⟩
 ·go_enter Tryz.func28, Tryz.ntmps28
  go_wp2
  go_ret
  exact ⟨rfl, rfl⟩
 ·go_enter Tryz.func28, Tryz.ntmps28
  go_wp2
  go_ret
  exact ⟨rfl, rfl⟩
theorem aall_any (tp : Value) (h1 : tp = .pointer none ∨ ∃ a, tp = .pointer (some a)) (n : Int) (w : World) : Calls Tryz.prog 7 #[tp, .int .i64 n] w fun e w' => e = .returned (.func (.func 27) #[] #[.pointer (some ⟨w.heap.size, 0, none⟩), .pointer (some ⟨w.heap.size + 1, 0, none⟩)]) ∧ (w.alloc (.cells #[tp] 23)).alloc (.cells #[.int .i64 n] 3) = w' := by
 rcases h1 with rfl | ⟨a, rfl⟩
 ·go_enter Tryz.func7, Tryz.ntmps7
  go_wp2
  go_ret
  exact ⟨rfl, rfl⟩
 ·go_enter Tryz.func7, Tryz.ntmps7
  go_wp2
  go_ret
  exact ⟨rfl, rfl⟩
def AlI {w0 : World} (J : (Nat → Prop) → List TvT → World → Prop) (n : Int) (B : Nat) (C : Nat → Prop) (pre : List (ElT w0)) (W : World) : Prop :=
 ∃ (C1 X : Nat → Prop) (ys : List TvT), (∀ k, C k ↔ C1 k ∨ X k) ∧ (∀ k, X k → ¬ C1 k ∧ k < W.heap.size ∧ B ≤ k) ∧ J C1 ys W ∧ ys.map prT = wantL n (pre.map prE) ∧ ∀ y ∈ ys, TdO X W y.1.2.1 y.1.2.2
def AlX {w0 : World} (Jx : (Nat → Prop) → List TvT → World → Prop) (B : Nat) (c : Code) (C : Nat → Prop) (pre : List (ElT w0)) (W : World) : Prop :=
 c = .ret ∧ ∃ (C1 X : Nat → Prop) (ys : List TvT), (∀ k, C k ↔ C1 k ∨ X k) ∧ (∀ k, X k → ¬ C1 k ∧ k < W.heap.size ∧ B ≤ k) ∧ Jx C1 ys W
theorem tdt_fr {D X : Nat → Prop} {W W' : World} {t : Tr} {v : Value} (h : TdO X W t v) (hF : Fr D W W') (hd : ∀ k, X k → ¬ D k) : TdO X W' t v := TdO.move (fun k hk hx => ⟨hx, hF.block k hk (hd k hx)⟩) _ _ h
theorem alI_abd {w0 : World} {J : (Nat → Prop) → List TvT → World → Prop} {n : Int} {B B' : Nat} (aJ : Abd B J) (hB : B ≤ B') : Abd B' (AlI (w0 := w0) J n B) := by
 rintro C pre W W' ⟨C1, X, ys, hC, h3, h6, h7, h8⟩ hF
 exact ⟨C1, X, ys, hC, fun k hk => ⟨(h3 k hk).1, Nat.lt_of_lt_of_le (h3 k hk).2.1 hF.size, (h3 k hk).2.2⟩, aJ _ _ _ _ h6 (hF.mono fun k _ hk => ⟨by omega, fun hc => hk.2 ((hC k).2 (.inl hc))⟩), h7, fun y hy => tdt_fr (h8 y hy) hF fun k hk hc => hc.2 ((hC k).2 (.inr hk))⟩
theorem alX_abd {w0 : World} {Jx : (Nat → Prop) → List TvT → World → Prop} {B B' : Nat} (aJ : Abd B Jx) (hB : B ≤ B') (c : Code) : Abd B' (AlX (w0 := w0) Jx B c) := by
 rintro C pre W W' ⟨hc, C1, X, ys, hC, h3, h6⟩ hF
 exact ⟨hc, C1, X, ys, hC, fun k hk => ⟨(h3 k hk).1, Nat.lt_of_lt_of_le (h3 k hk).2.1 hF.size, (h3 k hk).2.2⟩, aJ _ _ _ _ h6 (hF.mono fun k _ hk => ⟨by omega, fun hc => hk.2 ((hC k).2 (.inl hc))⟩)⟩
theorem alI_bdd {w0 : World} {J : (Nat → Prop) → List TvT → World → Prop} {n : Int} {B : Nat} (bJ : Bdd J) : Bdd (AlI (w0 := w0) J n B) := by
 rintro C pre W ⟨C1, X, ys, hC, h3, h6, h7, h8⟩ k hk
 rcases (hC k).1 hk with h | h
 ·exact bJ _ _ _ h6 k h
 ·exact (h3 k h).2.1
theorem alX_bdd {w0 : World} {Jx : (Nat → Prop) → List TvT → World → Prop} {B : Nat} (bJ : Bdd Jx) (c : Code) : Bdd (AlX (w0 := w0) Jx B c) := by
 rintro C pre W ⟨hc, C1, X, ys, hC, h3, h6⟩ k hk
 rcases (hC k).1 hk with h | h
 ·exact bJ _ _ _ h6 k h
 ·exact (h3 k h).2.1
theorem wantL_snoc (n : Int) (l : List (Tx × Tr)) (x : Tx × Tr) : wantL n (l ++ [x]) = wantL n l ++ if wantB x.2.srt n = true then [x] else [] := by
 unfold wantL
 rw [List.filter_append]
 congr 1
 by_cases h : wantB x.2.srt n = true
 ·rw [if_pos h]
  simp [h]
 ·rw [if_neg h]
  simp [h]
theorem al_next {w0 : World} {J : (Nat → Prop) → List TvT → World → Prop} {n : Int} {B : Nat} {x : ElT w0} {y : TvT} {C C1 C2 X : Nat → Prop} {pre : List (ElT w0)} {ys : List TvT} {W7 W8 W9 : World} (hC : ∀ k, C k ↔ C1 k ∨ X k) (h3 : ∀ k, X k → ¬ C1 k ∧ k < W7.heap.size ∧ B ≤ k) (hBW : B ≤ W7.heap.size) (hb : Below W7.heap.size W7 W8)
  (hy : prT y = prE x) (hw : wantB x.1.2.1.srt n = true) (htd : TdO (fun k => W7.heap.size ≤ k) W8 y.1.2.1 y.1.2.2) (hJ : J C2 (ys ++ [y]) W9) (hF : Fr C1 W8 W9) (hN : Nw C1 C2 W8) (h7 : ys.map prT = wantL n (pre.map prE)) (h8 : ∀ y ∈ ys, TdO X W7 y.1.2.1 y.1.2.2) (hc1 : ∀ k, C1 k → k < W7.heap.size) :
  ∃ C', AlI J n B C' (pre ++ [x]) W9 ∧ Fr C W7 W9 ∧ Nw C C' W7 := by
 have hs8 := hb.size
 have hs9 := hF.size
 have hX2 : ∀ k, (X k ∨ (W7.heap.size ≤ k ∧ k < W8.heap.size)) → ¬ C2 k := fun k hk hc => by
  rcases hN k hc with h | h
  ·rcases hk with hk | hk
   ·exact (h3 k hk).1 h
   ·have := hc1 k h; omega
  ·rcases hk with hk | hk
   ·have := (h3 k hk).2.1; omega
   ·omega
 refine ⟨fun k => C2 k ∨ (X k ∨ (W7.heap.size ≤ k ∧ k < W8.heap.size)), ⟨C2, fun k => X k ∨ (W7.heap.size ≤ k ∧ k < W8.heap.size), ys ++ [y], fun k => Iff.rfl, fun k hk => ⟨hX2 k hk, ?_, ?_⟩, hJ, ?_, fun z hz => ?_⟩, ?_, ?_⟩
 ·rcases hk with hk | hk
  ·have := (h3 k hk).2.1; omega
  ·omega
 ·rcases hk with hk | hk
  ·exact (h3 k hk).2.2
  ·omega
 ·rw [List.map_append, h7, List.map_append, List.map_singleton, List.map_singleton, wantL_snoc, hy, if_pos (show wantB (prE x).2.srt n = true from hw)]
 ·rw [List.mem_append, List.mem_singleton] at hz
  rcases hz with hz | rfl
  ·exact TdO.move (fun k hk hx => ⟨.inl hx, (hF.block k (by omega) (h3 k hx).1).trans (hb.block k hk)⟩) _ _ (h8 z hz)
  ·exact TdO.move (fun k hk hx => ⟨.inr ⟨hx, hk⟩, hF.block k hk fun hc => by have := hc1 k hc; omega⟩) _ _ htd
 ·exact (fr_new C hb).trans hF fun k _ hk => (hC k).2 (.inl hk)
 ·intro k hk
  rcases hk with hk | hk | hk
  ·rcases hN k hk with h | h
   ·exact .inl ((hC k).2 (.inl h))
   ·exact .inr (by omega)
  ·exact .inl ((hC k).2 (.inr hk))
  ·exact .inr hk.1
theorem al_pass {w0 : World} {J : (Nat → Prop) → List TvT → World → Prop} {n : Int} {B B0 : Nat} (aJ : Abd B0 J) {x : ElT w0} {C C1 X : Nat → Prop} {pre : List (ElT w0)} {ys : List TvT} {W7 W8 : World} (hC : ∀ k, C k ↔ C1 k ∨ X k) (h3 : ∀ k, X k → ¬ C1 k ∧ k < W7.heap.size ∧ B ≤ k) (hb : Below W7.heap.size W7 W8)
  (hw : wantB x.1.2.1.srt n = false) (hJ : J C1 ys W7) (h7 : ys.map prT = wantL n (pre.map prE)) (h8 : ∀ y ∈ ys, TdO X W7 y.1.2.1 y.1.2.2) :
  ∃ C', AlI J n B C' (pre ++ [x]) W8 ∧ Fr C W7 W8 ∧ Nw C C' W7 := by
 have hs8 := hb.size
 refine ⟨C, ⟨C1, X, ys, hC, fun k hk => ⟨(h3 k hk).1, by have := (h3 k hk).2.1; omega, (h3 k hk).2.2⟩, aJ _ _ _ _ hJ (fr_new _ hb), ?_, fun z hz => TdO.move (fun k hk hx => ⟨hx, hb.block k hk⟩) _ _ (h8 z hz)⟩, fr_new C hb, Nw.refl _ _⟩
 rw [List.map_append, List.map_singleton, wantL_snoc, if_neg (by show ¬ wantB x.1.2.1.srt n = true; rw [hw]; decide), List.append_nil, h7]
theorem al_left {w0 : World} {Jx : (Nat → Prop) → List TvT → World → Prop} {B : Nat} {x : ElT w0} {y : TvT} {C C1 C2 X : Nat → Prop} {pre : List (ElT w0)} {ys : List TvT} {W7 W8 W9 : World} (hC : ∀ k, C k ↔ C1 k ∨ X k) (h3 : ∀ k, X k → ¬ C1 k ∧ k < W7.heap.size ∧ B ≤ k) (hb : Below W7.heap.size W7 W8)
  (hJ : Jx C2 (ys ++ [y]) W9) (hF : Fr C1 W8 W9) (hN : Nw C1 C2 W8) :
  ∃ C', AlX (w0 := w0) Jx B .ret C' (pre ++ [x]) W9 ∧ Fr C W7 W9 ∧ Nw C C' W7 := by
 have hs8 := hb.size
 have hs9 := hF.size
 have hX2 : ∀ k, X k → ¬ C2 k := fun k hk hc => by
  rcases hN k hc with h | h
  ·exact (h3 k hk).1 h
  ·have := (h3 k hk).2.1; omega
 refine ⟨fun k => C2 k ∨ X k, ⟨rfl, C2, X, ys ++ [y], fun k => Iff.rfl, fun k hk => ⟨hX2 k hk, by have := (h3 k hk).2.1; omega, (h3 k hk).2.2⟩, hJ⟩, (fr_new C hb).trans hF fun k _ hk => (hC k).2 (.inl hk), fun k hk => ?_⟩
 rcases hk with hk | hk
 ·rcases hN k hk with h | h
  ·exact .inl ((hC k).2 (.inl h))
  ·exact .inr (by omega)
 ·exact .inl ((hC k).2 (.inr hk))
theorem aall1_stops (m bt bw : Nat) (n : Int) (w0 w : World) (o : Option Tr) (tp : Value) (hT0 : HasT w0 o tp) (hG : Glob w0) (hA : Tab w0) (hb : Below w0.heap.size w0 w) (hbt : Boxed w bt 23 tp) (hbw : Boxed w bw 3 (.int .i64 n)) (hge : w0.heap.size ≤ bt ∧ w0.heap.size ≤ bw) :
  SeqC Fence.wide m Tryz.prog 27 #[.pointer (some ⟨bt, 0, none⟩), .pointer (some ⟨bw, 0, none⟩)] encT (fun k => k < w0.heap.size ∨ k = bt ∨ k = bw) (fun B ys W => ys.map prT = wantL n (allO o) ∧ ∀ y ∈ ys, TdO (fun k => B ≤ k) W y.1.2.1 y.1.2.2) (fun _ => True) (fun pre y => (pre.map prT ++ [prT y]) <+: wantL n (allO o)) w := by
 intro l J Jx C W hf hC aJ aJx bJ bJx hY h0
 have hbW : Below w0.heap.size w0 W := hb.trans (hf.below hb.size fun k _ hk => by
  rcases Nat.lt_or_ge k w0.heap.size with h | h
  ·exact absurd (.inl h) hk
  ·exact h)
 have btW : Boxed W bt 23 tp := boxed_fr hbt hf fun h => h (.inr (.inl rfl))
 have bwW : Boxed W bw 3 (.int .i64 n) := boxed_fr hbw hf fun h => h (.inr (.inr rfl))
 have hCb := bJ _ _ _ h0
 have hbtl := btW.lt
 have hbwl := bwW.lt
 have htp : tp = .pointer none ∨ ∃ a, tp = .pointer (some a) := by
  rcases hT0 with ⟨_, rfl⟩ | ⟨t, g, v, _, rfl, _⟩
  ·exact .inl rfl
  ·exact .inr ⟨_, rfl⟩
 refine (callsIn_wide (n := m)).2 ((callsIn_wide (n := 9)).1 ?_)
 refine callsIn_of_wp_marks Tryz.func27 rfl trivial ?_ rfl
 simp only [Tryz.ntmps27, List.size_toArray, List.length_cons, List.length_nil, Nat.reduceAdd, Nat.reduceSub, Array.replicate_succ, Array.replicate_zero, List.push_toArray, List.append_toArray, List.nil_append, List.cons_append]
 have c1 := (btW.alloc (.cells #[.func (.yield l) #[] #[]] 86)).cell
 obtain ⟨W5, hW5⟩ : ∃ W5, (W.alloc (.cells #[.func (.yield l) #[] #[]] 86)).alloc (.cells #[tp] 23) = W5 := ⟨_, rfl⟩
 have hb5 : Below W.heap.size W W5 := by rw [← hW5]; exact ((Below.refl _ _).alloc (Nat.le_refl _) _).alloc (by simp) _
 have hs5 : W5.heap.size = W.heap.size + 2 := by rw [← hW5]; simp
 have yb5 : Boxed W5 W.heap.size 86 (.func (.yield l) #[] #[]) := by rw [← hW5]; exact (Boxed.new W 86 (.func (.yield l) #[] #[])).alloc _
 have bp5 : Boxed W5 (W.heap.size + 1) 23 tp := by
  have := Boxed.new (W.alloc (.cells #[.func (.yield l) #[] #[]] 86)) 23 tp
  rw [World.size_alloc, hW5] at this
  exact this
 have bw5 := boxed_new bwW hb5
 have hsz := hbW.size
 have hseq := pall1_stops 8 (W.heap.size + 1) w0 W5 o tp hT0 hG hA (hbW.trans (hb5.mono hsz)) bp5 (by omega)
 have hJ5 : J C [] W5 := aJ.new h0 hb5
 have hn0 : ∀ k, C k → w0.heap.size ≤ k := fun k hk => by
  rcases Nat.lt_or_ge k w0.heap.size with h | h
  ·exact absurd (.inl h) (hC k hk)
  ·exact h
 have hbt' : ¬ C bt := fun h => hC bt h (.inr (.inl rfl))
 have hbw' : ¬ C bw := fun h => hC bw h (.inr (.inr rfl))
 have H0 : Hid (AlI (w0 := w0) J n W.heap.size C [] W5) := Lib.hid ⟨C, fun _ => False, [], fun k => by simp, fun k h => h.elim, hJ5, rfl, fun y hy => by cases hy⟩
 have HSQ := Lib.hid hseq
 have HY := Lib.hid hY
 have HB5 := Lib.hid (And.intro hb5 (And.intro yb5 bw5))
 have HCb := Lib.hid hCb
 have HBW := Lib.hid (hbW.trans (hb5.mono hsz))
 clear h0 hf hC hb hbt hbw hseq hJ5 hY hb5 yb5 bw5 bp5 btW bwW hCb hbW
 gi_wp2_with (refine ⟨trivial, ?_⟩; gi_at_call 28; refine (callsIn_wide.2 (pall_any tp htp _)).mono ?_; rintro e w6 ⟨rfl, rfl⟩)
 clear hW5 c1
 refine wpIn_rangeC rfl (by omega) (gf := 58) (lb := #[.pointer (some ⟨W.heap.size + 1, 0, none⟩)]) rfl trivial (enters_of Tryz.func58 (by kernel_rfl) rfl) HSQ.out (Fr.refl _ _)
  (fun k hk => by rcases hk with h | h <;> omega) (fun _ => rfl)
  (AlI J n W.heap.size) (AlX Jx W.heap.size) (alI_abd aJ (by omega)) (fun c => alX_abd aJx (by omega) c) (alI_bdd bJ) (fun c => alX_bdd bJx c) C H0.out
  (fun k hk hr => by
   have h1 := hn0 k hk
   have h2 := HCb.out k hk
   rcases hr with h | h <;> omega)
  (fun x a' C W9 => ∃ Bx, C Bx ∧ Boxed W9 Bx 68 x.1.2.2 ∧ a' = { tmps := (.func (.yield l) #[] #[] :: .pointer (some ⟨bt, 0, none⟩) :: .pointer (some ⟨bw, 0, none⟩) :: .pointer (some ⟨W.heap.size, 0, none⟩) :: .string ⟨x.1.1.toArray⟩ :: .pointer (some ⟨Bx, 0, none⟩) :: undef :: tp :: .func (.func 58) #[] #[.pointer (some ⟨W.heap.size + 1, 0, none⟩)] :: .string ⟨x.1.1.toArray⟩ :: .agg #[x.1.2.2] :: undef :: undef :: undef :: undef :: undef :: undef :: undef :: undef :: undef :: undef :: undef :: undef :: []).toArray, defers := [] })
  (fun x a' C u W9 W' h hF => by
   obtain ⟨Bx, h1, h2, h3⟩ := h
   exact ⟨Bx, h1, boxed_fr h2 hF (fun hc => hc.2 h1), h3⟩)
  ?assign ?body ?done ?stop
 case assign =>
  rintro l1 Cd pre1 x W7 K hfr hnw ⟨C1, X, ys, hC, h3, h6, h7, h8⟩ hnx hK
  obtain ⟨tx', ux', he⟩ := x.2.1.iface
  have hb7 : Below W7.heap.size W7 (W7.alloc (.cells #[x.1.2.2] 68)) := (Below.refl _ _).alloc (Nat.le_refl _) _
  have hK2 := hK _ (W7.alloc (.cells #[x.1.2.2] 68)) (fun k => Cd k ∨ k = W7.heap.size) (fr_new _ hb7) (fun k hk => hk.imp id fun h => by omega)
   ⟨C1, fun k => X k ∨ k = W7.heap.size, ys, fun k => by show (Cd k ∨ k = W7.heap.size) ↔ (C1 k ∨ (X k ∨ k = W7.heap.size)); rw [hC k, or_assoc], fun k hk => by
    rcases hk with h | rfl
    ·exact ⟨(h3 k h).1, by have := (h3 k h).2.1; simp; omega, (h3 k h).2.2⟩
    ·exact ⟨fun hc => by have := bJ _ _ _ h6 _ hc; omega, by simp, by have := hfr.size; omega⟩, aJ.up (B' := W7.heap.size) (by have := hfr.size; omega) _ _ _ _ h6 (Fr.of_below hb7), h7, fun y hy => TdO.move (fun k hk hx => ⟨.inl hx, hb7.block k hk⟩) _ _ (h8 y hy)⟩
   ⟨W7.heap.size, .inr rfl, Boxed.new W7 68 _, rfl⟩
  clear hK
  simp only [encE, he] at hK2 ⊢
  gi_wp2
  exact hK2
 case body =>
  rintro l1 Cd pre1 x a' W7 hfr hnw ⟨C1, X, ys, hC, h3, h6, h7, h8⟩ ⟨Bx, hCx, bX, rfl⟩ hnx
  obtain ⟨tx', ux', he⟩ := x.2.1.iface
  rw [he] at bX
  have hs7 := hfr.size
  have hcx := bX.cell
  have bw7 := boxed_fr HB5.out.2.2 hfr hbw'
  have yb7 := boxed_fr HB5.out.2.1 hfr fun hc => by have := HCb.out _ hc; omega
  have hbW7 : Below w0.heap.size w0 W7 := HBW.out.trans (hfr.below HBW.out.size fun k _ hk => hn0 k hk)
  have hrd : RdT (fun k => k < w0.heap.size) W7 x.1.2.1 (.iface tx' ux') := by
   have := RdT.move (S' := fun k => k < w0.heap.size) (fun k hk hx => ⟨hx, hbW7.block k hx⟩) _ _ x.2.1
   rw [he] at this
   exact this
  have HV := Lib.hid (valueO_any _ x.1.2.1 x.2.2.1 (fit_le x.2.2.2).1 (.iface tx' ux') W7 hrd)
  have HC := Lib.hid hC
  have H3 := Lib.hid h3
  have H6 := Lib.hid h6
  have H7 := Lib.hid h7
  have H8 := Lib.hid h8
  have hc1 := bJ _ _ _ h6
  have HC1 := Lib.hid hc1
  have HNX : Hid (wantB x.1.2.1.srt n = true → (ys.map prT ++ [prE x]) <+: wantL n (allO o)) := Lib.hid fun hw => by
   have h9 := hnx.filter (fun x => wantB x.2.srt n)
   have e9 : wantL n (pre1.map prE ++ [prE x]) = ys.map prT ++ [prE x] := by rw [wantL_snoc, h7, if_pos (show wantB (prE x).2.srt n = true from hw)]
   unfold wantL at e9
   rw [e9] at h9
   exact h9
  clear hfr hnw hC h3 h6 h7 h8 hnx hCx hbW7 hrd hc1 HSQ H0
  cases hw : wantB x.1.2.1.srt n with
  | false =>
   gi_wp2_with (first
    | (refine ⟨trivial, ?_⟩; gi_at_call 29; refine (CallsIn.inRound l1 (callsIn_wide.2 HV.out)).mono ?_; rintro e w8 ⟨u8, rfl, htd, hb8⟩; have hk8 := isK_told htd.toT; have cw := (boxed_new bw7 hb8).cell; have HTW := Lib.hid (two_any hk8 n w8); have HEND := Lib.hid (al_pass aJ HC.out H3.out hb8 hw H6.out H7.out H8.out); clear hk8 htd hb8)
    | (refine ⟨trivial, ?_⟩; gi_at_call 30; refine (CallsIn.inRound l1 (callsIn_wide.2 HTW.out)).mono ?_; clear HTW; rintro e w9 ⟨rfl, rfl⟩; rw [hw]))
   refine ⟨(fun _ h => by cases h), ?_⟩
   gi_wp2_with fail
   exact HEND.out
  | true =>
   gi_wp2_with (first
    | (refine ⟨trivial, ?_⟩; gi_at_call 29; refine (CallsIn.inRound l1 (callsIn_wide.2 HV.out)).mono ?_; rintro e w8 ⟨u8, rfl, htd, hb8⟩; have hk8 := isK_told htd.toT; have cw := (boxed_new bw7 hb8).cell; have cy := (boxed_new yb7 hb8).cell; have HTW := Lib.hid (two_any hk8 n w8); obtain ⟨T8, U8, rfl⟩ := TdO.iface htd; have hJ8 := aJ _ _ _ _ H6.out (fr_new _ hb8); obtain ⟨fn, tmps, assign, body, hy, hR⟩ := HY.out C1 ys ⟨(x.1.1, x.1.2.1, .iface T8 U8), x.2.2.1, x.2.2.2, T8, U8, rfl⟩ w8 (by have := hb8.size; omega) hJ8 (HNX.out hw); dsimp only [encT] at hy; have HR := Lib.hid hR; have HTD := Lib.hid htd; have HB8 := Lib.hid hb8; clear hk8 htd hb8 hR hJ8)
    | (refine ⟨trivial, ?_⟩; gi_at_call 30; refine (CallsIn.inRound l1 (callsIn_wide.2 HTW.out)).mono ?_; clear HTW; rintro e w9 ⟨rfl, rfl⟩; rw [hw]))
   refine RoundIn.mono (show RoundIn (Fence.wide.inRound l1) 6 Tryz.prog l fn tmps assign body w8 _ from round_any HR.out) ?_
   rintro e W9 (⟨rfl, C2, hJ9, hF9, hN9⟩ | ⟨rfl, C2, hJ9, hF9, hN9⟩)
   ·have HEND := Lib.hid (al_next (y := ⟨(x.1.1, x.1.2.1, .iface T8 U8), x.2.2.1, x.2.2.2, T8, U8, rfl⟩) HC.out H3.out (by omega) HB8.out rfl hw HTD.out hJ9 hF9 hN9 H7.out H8.out HC1.out)
    clear hJ9 hF9 hN9
    gi_wp2_with fail
    exact HEND.out
   ·have HEND := Lib.hid (al_left (x := x) (pre := pre1) HC.out H3.out HB8.out hJ9 hF9 hN9)
    clear hJ9 hF9 hN9
    gi_wp2_with fail
    exact HEND.out
 case done =>
  rintro D Cd xs W7 W8 hD hDC hxs hF8 ⟨C1, X, ys, hC, h3, h6, h7, h8⟩ hfr hnw hKD
  have nD : ¬ C1 D := fun h => hDC ((hC D).2 (.inl h))
  have hF9 : Fr (fun k => k = D) W7 (W7.putObj D (.deferred none)) := Fr.putObj (fun k => k = D) _ D _ fun _ => rfl
  have HEND : Hid (Fr C W (W7.putObj D (.deferred none)) ∧ Nw C C1 W ∧ (ys.map prT = wantL n (allO o) ∧ ∀ y ∈ ys, TdO (fun k => W.heap.size ≤ k) (W7.putObj D (.deferred none)) y.1.2.1 y.1.2.2) ∧ J C1 ys (W7.putObj D (.deferred none))) := Lib.hid ⟨((fr_new C HB5.out.1).trans hfr fun k _ h => h).trans hF9 fun k hk h => by omega, fun k hk => (hnw k ((hC k).2 (.inl hk))).imp id fun h => by omega,
   ⟨by rw [h7, hxs], fun y hy => TdO.move (fun k hk hx => ⟨(h3 k hx).2.2, hF9.block k hk fun h => by
    rw [h] at hx
    exact hDC ((hC D).2 (.inr hx))⟩) _ _ (h8 y hy)⟩, aJ _ _ _ _ h6 (hF9.mono fun k _ hk => by
     rw [hk]
     exact ⟨by omega, nD⟩)⟩
  clear hfr hnw h3 h6 h7 h8 hF9 nD hC
  gi_wp2_with fail
  refine ⟨by simp, .inl ⟨_, _, rfl, run_takeDeferred hKD, ?_⟩⟩
  exact ⟨_, results_none rfl _ _ _, ⟨_, rfl⟩, C1, HEND.out.1, HEND.out.2.1, .inl ⟨ys, HEND.out.2.2.1, HEND.out.2.2.2⟩⟩
 case stop =>
  rintro D c Cd pre1 W7 hD hDC hsp ⟨rfl, C1, X, ys, hC, h3, h6⟩ hfr hnw hKD
  have nD : ¬ C1 D := fun h => hDC ((hC D).2 (.inl h))
  have hF9 : Fr (fun k => k = D) W7 (W7.putObj D (.deferred none)) := Fr.putObj (fun k => k = D) _ D _ fun _ => rfl
  have HEND : Hid (Fr C W (W7.putObj D (.deferred none)) ∧ Nw C C1 W ∧ Jx C1 ys (W7.putObj D (.deferred none))) := Lib.hid ⟨((fr_new C HB5.out.1).trans hfr fun k _ h => h).trans hF9 fun k hk h => by omega, fun k hk => (hnw k ((hC k).2 (.inl hk))).imp id fun h => by omega, aJx _ _ _ _ h6 (hF9.mono fun k _ hk => by
     rw [hk]
     exact ⟨by omega, nD⟩)⟩
  clear hfr hnw h3 h6 hF9 nD hC
  gi_wp2_with fail
  refine ⟨by simp, .inl ⟨_, _, rfl, run_takeDeferred hKD, ?_⟩⟩
  exact ⟨_, results_none rfl _ _ _, ⟨_, rfl⟩, C1, HEND.out.1, HEND.out.2.1, .inr ⟨ys, trivial, HEND.out.2.2⟩⟩
end Nd
end Go.Proofs.YtlailcmhpnnidaaGreatDoor
