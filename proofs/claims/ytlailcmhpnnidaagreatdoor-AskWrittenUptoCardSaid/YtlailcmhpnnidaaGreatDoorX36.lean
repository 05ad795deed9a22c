/-
  Rows of told values that a loop over an iterator fills.
  The law AskWritten: where the pointer leads to a value; the law.
-/
import Derived.Test.YtlailcmhpnnidaaGreatDoorX34
import Derived.Test.YtlailcmhpnnidaaGreatDoorX35
import Derived.Test.YtlailcmhpnnidaaGreatDoorX31
import Derived.Maps.OwnIn
import Derived.RangeFuncBox
set_option linter.unusedVariables false
set_option linter.unusedSimpArgs false
set_option maxRecDepth 100000
set_option maxHeartbeats 16000000
namespace Go.Proofs.YtlailcmhpnnidaaGreatDoor
open Go.RowKit Go.Shelf Mem Rg Tok
namespace Nd
theorem own_fr {D : Nat → Prop} {w w' : World} {base size n : Nat} {e : TypeId} {v : Value} {xs : List Value} (h : w.ownsRow base e size v n xs) (hF : Fr D w w') (hd : ∀ k, v.ownBlock = some k → ¬ D k) : w'.ownsRow base e size v n xs := by
 refine ⟨h.1, ?_⟩
 rcases h.2 with ⟨rfl, h0⟩ | ⟨g, cap, cur, rfl, hg, hh, r⟩
 ·exact .inl ⟨rfl, h0⟩
 ·exact .inr ⟨g, cap, cur, rfl, hg, (hF.block g (Array.getElem?_eq_some_iff.1 hh).1 (hd g rfl)).trans hh, r⟩
def RowW (b B0 : Nat) (C : Nat → Prop) (xs : List Value) (W : World) : Prop :=
 B0 ≤ W.heap.size ∧ B0 ≤ b ∧ ∃ v, Boxed W b 73 v ∧ W.ownsRow B0 35 1 v xs.length xs ∧ C b ∧ (∀ k, v.ownBlock = some k → C k) ∧ (∀ k, C k → k < W.heap.size ∧ B0 ≤ k)
theorem rowW_fr {b B0 : Nat} {C : Nat → Prop} {xs : List Value} {W W' : World} (h : RowW b B0 C xs W) (hF : Fr (fun k => ¬ C k) W W') : RowW b B0 C xs W' := by
 obtain ⟨h1, h0, v, h2, h3, h4, h5, h6⟩ := h
 exact ⟨Nat.le_trans h1 hF.size, h0, v, boxed_fr h2 hF fun h => h h4, own_fr h3 hF fun k hk h => h (h5 k hk), h4, h5, fun k hk => ⟨Nat.lt_of_lt_of_le (h6 k hk).1 hF.size, (h6 k hk).2⟩⟩
theorem rowW_new {b B0 : Nat} {W : World} (hb : Boxed W b 73 (.slice none 0 0)) (h0 : B0 ≤ b) : RowW b B0 (fun k => k = b) [] W :=
 ⟨by have := hb.lt; omega, h0, .slice none 0 0, hb, ⟨rfl, .inl ⟨rfl, rfl⟩⟩, rfl, fun (k : Nat) (hk : (Value.slice none 0 0).ownBlock = some k) => (by cases hk), fun (k : Nat) (hk : k = b) => by rw [hk]; exact ⟨hb.lt, h0⟩⟩
theorem rowW_abd {α : Type} (b B0 B : Nat) (f : List α → List Value) : Abd B (fun C pre W => RowW b B0 C (f pre) W) := fun C s W W' h hF => rowW_fr h (hF.mono fun k _ hk => hk.2)
theorem rowW_bdd {α : Type} (b B0 : Nat) (f : List α → List Value) : Bdd (fun C pre W => RowW b B0 C (f pre) W) := fun C s W h k hk => by
 obtain ⟨h1, h0, v, h2, h3, h4, h5, h6⟩ := h
 exact (h6 k hk).1
theorem rowW_next {b B0 : Nat} {C : Nat → Prop} {xs : List Value} {y : Value} {W7 w8 : World} {v v' : Value} {tmp : Obj} (hB : B0 ≤ W7.heap.size) (h0 : B0 ≤ b)
  (hv : Boxed W7 b 73 v) (hrow : W7.ownsRow B0 35 1 v xs.length xs) (hCb : C b) (hCo : ∀ k, v.ownBlock = some k → C k) (hCl : ∀ k, C k → k < W7.heap.size ∧ B0 ≤ k)
  (hown' : w8.ownsRow B0 35 1 v' (xs.length + 1) (xs ++ [y])) (hgrow : (W7.alloc tmp).grownBy w8 v.ownBlock) (hat : v'.ownBlock = v.ownBlock ∨ v'.ownBlock = some (W7.alloc tmp).heap.size) :
  ∃ C', RowW b B0 C' (xs ++ [y]) (w8.setCell ⟨b, 0, none⟩ v') ∧ Fr C W7 (w8.setCell ⟨b, 0, none⟩ v') ∧ Nw C C' W7 := by
 obtain ⟨h1, h2, h3, _, h5⟩ := Boxed.appended hv (by decide) hrow hB h0 hown' hgrow
 have hsz := hgrow.size
 have hsz2 : (w8.setCell ⟨b, 0, none⟩ v').heap.size = w8.heap.size := by simp
 have hal : (W7.alloc tmp).heap.size = W7.heap.size + 1 := by simp
 rw [hal] at hsz hat
 refine ⟨fun k => C k ∨ (k = W7.heap.size + 1 ∧ k < w8.heap.size), ⟨by rw [hsz2]; omega, h0, v', h2, ?_, .inl hCb, ?_, ?_⟩, ?_, fun k hk => hk.imp id fun h => by omega⟩
 ·rw [List.length_append]
  exact h3
 ·intro k hk
  rcases hat with h | h
  ·exact .inl (hCo k (by rw [← h]; exact hk))
  ·rw [h] at hk
   injection hk with hk
   refine .inr ⟨hk.symm, ?_⟩
   have := (hown'.lt k (by rw [h, hk])).2
   exact this
 ·rintro k (hk | ⟨rfl, hk⟩)
  ·have := hCl k hk
   rw [hsz2]
   exact ⟨by omega, this.2⟩
  ·rw [hsz2]
   exact ⟨hk, by omega⟩
 ·have f1 : Fr C W7 (W7.alloc tmp) := Fr.alloc C W7 tmp
  have f2 : Fr C (W7.alloc tmp) w8 := ⟨hgrow.os, hgrow.tape, hgrow.output, hgrow.size, fun k hk hc => hgrow.block k hk fun e => hc (hCo k e.symm)⟩
  have g3 := grownBy_setCell' w8 b v'
  have f3 : Fr C w8 (w8.setCell ⟨b, 0, none⟩ v') := ⟨g3.os, g3.tape, g3.output, g3.size, fun k hk hc => g3.block k hk fun e => hc (by injection e with e; rw [e]; exact hCb)⟩
  exact (f1.trans f2 fun k _ h => h).trans f3 fun k _ h => h

theorem fnv_nil (g h : Nat) (W : World) : (binOp .eql 32 (.func (.func 27) #[] #[.pointer (some ⟨g, 0, none⟩), .pointer (some ⟨h, 0, none⟩)]) .nilFunc).run Tryz.prog W = .ok (.bool false) W := by kernel_rfl
def vals (l : List TvT) : List Value := l.map fun y => y.1.2.2
theorem vals_snoc (l : List TvT) (y : TvT) : vals (l ++ [y]) = vals l ++ [y.1.2.2] := by unfold vals; simp
theorem wantL_one' (l : List (Tx × Tr)) : wantL 1 l = l := by
 unfold wantL
 refine List.filter_eq_self.2 fun x _ => ?_
 rcases (show x.2.srt = 1 ∨ x.2.srt = 2 ∨ x.2.srt = 3 ∨ x.2.srt = 4 ∨ x.2.srt = 5 ∨ x.2.srt = 6 by cases x.2 <;> simp [Tr.srt]) with h | h | h | h | h | h <;> rw [h] <;> rfl
theorem vals_len {pre : List TvT} {y : TvT} {n : Int} {t : Tr} (hf : t.fit = true) (h : (pre.map prT ++ [prT y]) <+: wantL n (allO (some t))) : (vals pre).length + 1 ≤ 65536 := by
 have h1 := h.length_le
 have h2 : (wantL n (allO (some t))).length ≤ (allO (some t)).length := List.length_filter_le _ _
 have h3 : (allO (some t)).length = t.nodes := allT_len t []
 have h4 := (fit_le hf).1
 rw [List.length_append, List.length_map] at h1
 unfold vals
 rw [List.length_map]
 simp at h1
 omega
end Nd
end Go.Proofs.YtlailcmhpnnidaaGreatDoor
namespace Go.Proofs.YtlailcmhpnnidaaGreatDoor
open Go.RowKit Go.Shelf Mem Utf Ref3 Idx Tok TokC Rg
namespace Nd
attribute [local go_sem] Oper.semAt_some
theorem all_head {t : Tr} {xs : List TvT} (h : xs.map prT = wantL 1 (allO (some t))) : ∃ x0 xs', xs = x0 :: xs' ∧ x0.1.2.1 = t := by
 rw [wantL_one'] at h
 have e : allO (some t) = allT [] t := rfl
 rw [e, allT_kids] at h
 cases xs with
 | nil => simp at h
 | cons x0 xs' =>
  rw [List.map_cons] at h
  injection h with h1 _
  refine ⟨x0, xs', rfl, ?_⟩
  have := congrArg Prod.snd h1
  exact this
theorem wda_up {S : Nat → Prop} {w : World} {t : Tr} {v : Value} (h : TdT S w t v) : TdT (fun _ => True) w t v := TdT.move (fun _ _ _ => ⟨trivial, rfl⟩) _ _ h
theorem written_some (v : Value) (l : List UInt8) (ss : List Stp) (w : World) (hS : RdS w v ss) (hF : ∀ s ∈ ss, s.Fine) (hC : ∀ s ∈ ss, s.Cnt) (hn : ss.length ≤ 1048576) (hl : l.length ≤ 2097152) (hG : Glob w) (hT : Tab w) (t u : Tr) (hb : buildT ss = .inr t) (ts : List (List UInt8)) (hp : parseS (wrong l) l = .ok ts) (hle : leadT t ts 0 = .inr u) : Calls Tryz.prog 5 #[v, .string ⟨l.toArray⟩] w (TrueW w) := by
 obtain ⟨vA, vc, rfl, _⟩ := id hS
 have HM := Lib.hid (made_law _ ss _ hS hF hC hn)
 have HF := Lib.hid hF
 have HL := Lib.hid hl
 have HG := Lib.hid hG
 have HT := Lib.hid hT
 have HBT := Lib.hid hb
 have HP := Lib.hid hp
 have HLE := Lib.hid hle
 clear hS hF hC hl hG hT hn hb hp hle
 refine (callsIn_wide (n := 9)).1 ?_
 refine callsIn_of_wp_marks Tryz.func5 rfl trivial ?_ rfl
 simp only [Tryz.ntmps5, List.size_toArray, List.length_cons, List.length_nil, Nat.reduceAdd, Nat.reduceSub, Array.replicate_succ, Array.replicate_zero, List.push_toArray, List.append_toArray, List.nil_append, List.cons_append]
 gi_wp2_with fail
 refine ⟨trivial, (callsIn_wide.2 HM.out).mono ?_⟩
 rintro e w1 ⟨hb1, he⟩
 rw [HBT.out] at he
 obtain ⟨g, A, c, K, d, rfl, hrv, hTA⟩ := he
 obtain ⟨_, hfit, tv, hblk, hrd0⟩ := hTA
 have hb2 : Below w1.heap.size w1 (w1.alloc (.cells #[.int .i64 (t.srt : Nat), .bool t.fl, .int .u64 (t.bi : Nat), .string ⟨t.tx.toArray⟩, .slice A t.kids.length c, .slice K t.kn.length d] 28)) := (Below.refl _ _).alloc (Nat.le_refl _) _
 have HO := Lib.hid (And.intro (buildT_ok HF.out HBT.out).1 hfit)
 have HBK := Lib.hid hblk
 have HR := Lib.hid (RdT.toA hrd0)
 have HG1 := Lib.hid (HG.out.next hb1)
 have HT1 := Lib.hid (HT.out.next hb1)
 have HB1 := Lib.hid hb1
 have HB2 := Lib.hid hb2
 have HU := Lib.hid (lead_ok ts t u 0 HO.out.1 HO.out.2 HLE.out)
 have HW := Lib.hid (want_look t l)
 clear hb1 hb2 hblk hrd0 hrv hfit HM HG HT
 gi_wp2_with fail
 generalize (w1.alloc (.cells #[.int .i64 (t.srt : Nat), .bool t.fl, .int .u64 (t.bi : Nat), .string ⟨t.tx.toArray⟩, .slice A t.kids.length c, .slice K t.kn.length d] 28)) = w2 at *
 refine ⟨trivial, (callsIn_wide.2 (tellO_some g t tv l w1 w2 HBK.out HR.out HB2.out HO.out.1 HO.out.2 (by have := HL.out; omega) (HG1.out.next HB2.out) (HT1.out.next HB2.out) 1)).mono ?_⟩
 rintro e w3 ⟨x, hq, rfl⟩
 rw [HW.out]
 obtain ⟨hx, hb3⟩ := lookO_s hq HP.out HLE.out
 clear hq
 obtain ⟨Tx, Ux, rfl⟩ := hx.iface
 unfold TellV
 rw [if_pos rfl]
 have HX3 := Lib.hid hx
 have HB3 := Lib.hid (HB2.out.trans (hb3.mono HB2.out.size))
 have hs23 := hb3.size
 clear hb3 hx
 gi_wp2_with fail
 refine ⟨trivial, (callsIn_wide.2 (tellO_some g t tv l w1 w3 HBK.out HR.out HB3.out HO.out.1 HO.out.2 (by have := HL.out; omega) (HG1.out.next HB3.out) (HT1.out.next HB3.out) 1)).mono ?_⟩
 rintro e w4 ⟨y, hq, rfl⟩
 rw [HW.out]
 obtain ⟨hy, hb4⟩ := lookO_s hq HP.out HLE.out
 clear hq
 obtain ⟨Ty, Uy, rfl⟩ := hy.iface
 unfold TellV
 rw [if_pos rfl]
 have HX4 := Lib.hid (TdR.go _ _ _ _ _ _ HX3.out (Nat.le_refl _) (Nat.le_refl _) fun k a b c => hb4.block k c)
 have HY4 := Lib.hid hy
 have HB4 := Lib.hid (HB3.out.trans (hb4.mono HB3.out.size))
 have hs34 := hb4.size
 have hs12 := HB2.out.size
 clear hb4 hy HX3
 gi_wp2_with fail
 refine ⟨trivial, (callsIn_wide.2 (spoil_any u HU.out.1 (fit_le HU.out.2).1 _ _ _ w4 HX4.out)).mono ?_⟩
 rintro e w5 ⟨rfl, hf5⟩
 have HB5 := Lib.hid (HB4.out.trans (hf5.below HB4.out.size fun j _ hj => by omega))
 have HY5 := Lib.hid (TdR.go _ _ _ _ _ _ HY4.out (Nat.le_refl _) (Nat.le_refl _) fun k a b c => hf5.block k c (by omega))
 have hs45 := hf5.size
 clear hf5 HX4 HY4
 gi_wp2_with fail
 refine ⟨trivial, (callsIn_wide.2 (pfind_any g t tv l w1 w5 HBK.out HR.out HB5.out HO.out.1 HO.out.2 (by have := HL.out; omega) (HG1.out.next HB5.out) (HT1.out.next HB5.out))).mono ?_⟩
 rintro e w6 ⟨he, hb6⟩
 rw [HP.out] at he
 dsimp only at he
 rw [HLE.out] at he
 obtain ⟨tx, ux, rfl, hru, _⟩ := he
 have HRU := Lib.hid hru
 have q1 := err_ne_nil
 have HB6 := Lib.hid (HB5.out.trans (hb6.mono HB5.out.size))
 have HY6 := Lib.hid (TdR.go _ _ _ _ _ _ HY5.out (Nat.le_refl _) (Nat.le_refl _) fun k a b c => hb6.block k c)
 have hs56 := hb6.size
 clear hb6 hru HY5
 gi_wp2_with fail
 obtain ⟨w8, hw8⟩ : ∃ w8, (w6.alloc (.cells #[.iface tx ux] 68)).alloc (.cells #[.slice none 0 0] 73) = w8 := ⟨_, rfl⟩
 have hs8 : w8.heap.size = w6.heap.size + 2 := by rw [← hw8]; simp
 have hb68 : Below w6.heap.size w6 w8 := by rw [← hw8]; exact ((Below.refl _ _).alloc (Nat.le_refl _) _).alloc (by simp) _
 have br8 : Boxed w8 w6.heap.size 68 (.iface tx ux) := by rw [← hw8]; exact (Boxed.new w6 68 _).alloc _
 have bl8 : Boxed w8 (w6.heap.size + 1) 73 (.slice none 0 0) := by
  have := Boxed.new (w6.alloc (.cells #[.iface tx ux] 68)) 73 (.slice none 0 0)
  rw [World.size_alloc, hw8] at this
  exact this
 rw [hw8]
 clear hw8
 obtain ⟨p, hp6⟩ : ∃ p, w6.heap.size = p := ⟨_, rfl⟩
 obtain ⟨q, hq8⟩ : ∃ q, w8.heap.size = q := ⟨_, rfl⟩
 rw [hp6] at br8 bl8 hs56 hs8 ⊢
 refine ⟨trivial, (callsIn_wide.2 (aall_any (.pointer (some ⟨g, 0, none⟩)) (.inr ⟨_, rfl⟩) 1 w8)).mono ?_⟩
 rintro e w9 ⟨rfl, hw9⟩
 have hs9 : w9.heap.size = w8.heap.size + 2 := by rw [← hw9]; simp
 have hb89 : Below w8.heap.size w8 w9 := by rw [← hw9]; exact ((Below.refl _ _).alloc (Nat.le_refl _) _).alloc (by simp) _
 have bt9 : Boxed w9 w8.heap.size 23 (.pointer (some ⟨g, 0, none⟩)) := by rw [← hw9]; exact (Boxed.new w8 23 _).alloc _
 have bw9 : Boxed w9 (w8.heap.size + 1) 3 (.int .i64 1) := by
  have := Boxed.new (w8.alloc (.cells #[.pointer (some ⟨g, 0, none⟩)] 23)) 3 (.int .i64 1)
  rw [World.size_alloc, hw9] at this
  exact this
 clear hw9
 have HB8 := Lib.hid (HB6.out.trans (hb68.mono HB6.out.size))
 have HB9 := Lib.hid (HB8.out.trans (hb89.mono HB8.out.size))
 have HY9 := Lib.hid (TdR.go _ _ _ _ _ _ (TdR.go _ _ _ _ _ _ HY6.out (Nat.le_refl _) (Nat.le_refl _) fun k a b c => hb68.block k c) (Nat.le_refl _) (Nat.le_refl _) fun k a b c => hb89.block k c)
 have HBX := Lib.hid (And.intro (boxed_new br8 hb89) (boxed_new bl8 hb89))
 rw [hq8] at bt9 bw9 hs9 hs8 ⊢
 have hs16 := HB6.out.size
 rw [hp6] at hs16
 have hfn := fnv_nil q (q + 1)
 have HSQ := Lib.hid (aall1_stops 8 q (q + 1) 1 w1 w9 (some t) (.pointer (some ⟨g, 0, none⟩)) (.inr ⟨t, g, tv, rfl, rfl, HBK.out, HR.out, HO.out⟩) HG1.out HT1.out HB9.out bt9 bw9 ⟨by omega, by omega⟩)
 have HQ : Hid (q = p + 2 ∧ w9.heap.size = q + 2 ∧ w4.heap.size ≤ p ∧ w1.heap.size ≤ p ∧ w1.heap.size ≤ w2.heap.size ∧ w2.heap.size ≤ w3.heap.size ∧ w3.heap.size ≤ w4.heap.size) := Lib.hid ⟨by omega, hs9, by omega, hs16, hs12, hs23, hs34⟩
 clear br8 bl8 bt9 bw9 hb68 hb89 hs8 hs9 hs16 hs56 hs45 hs34 hs23 hs12 hq8 hp6 HY6 HB5 HB8
 gi_wp2_with fail
 clear hfn
 refine wpIn_rangeC rfl (by omega) (gf := 27) (lb := #[.pointer (some ⟨q, 0, none⟩), .pointer (some ⟨q + 1, 0, none⟩)]) rfl trivial (enters_of Tryz.func27 (by kernel_rfl) rfl) HSQ.out (Fr.refl _ _)
  (fun j hj => by have h1 := HQ.out; rcases hj with h | h | h <;> omega) (fun _ => rfl)
  (fun C pre W7 => RowW (p + 1) (p + 1) C (vals pre) W7) (fun _ _ _ _ => False) (rowW_abd _ _ _ _) (fun _ _ _ _ _ h _ => h) (rowW_bdd _ _ _) (fun _ _ _ _ h => h.elim) (fun j => j = p + 1)
  (rowW_new HBX.out.2 (Nat.le_refl _))
  (fun j hj hr => by
   have h1 := HQ.out
   rcases hr with h | h | h <;> omega)
  (fun x a' C W9 => a' = { tmps := (.slice vA ss.length vc :: .string ⟨l.toArray⟩ :: undef :: undef :: .bool false :: .pointer (some ⟨g, 0, none⟩) :: .pointer (some ⟨w1.heap.size, 0, none⟩) :: .bool true :: .iface Tx Ux :: .bool true :: .iface Ty Uy :: .bool true :: .pointer (some ⟨p, 0, none⟩) :: .nilIface :: undef :: undef :: .pointer (some ⟨p + 1, 0, none⟩) :: (.func (.func 27) #[] #[.pointer (some ⟨q, 0, none⟩), .pointer (some ⟨q + 1, 0, none⟩)]) :: undef :: x.1.2.2 :: undef :: .tuple #[.pointer (some ⟨g, 0, none⟩), valV t A c K d, .bool true] :: .slice vA ss.length vc :: .tuple #[.pointer (some ⟨g, 0, none⟩), valV t A c K d, .bool true] :: .pointer (some ⟨g, 0, none⟩) :: valV t A c K d :: .bool true :: .bool true :: .bool false :: undef :: .tuple #[.iface Tx Ux, .bool true] :: .pointer (some ⟨g, 0, none⟩) :: .string ⟨l.toArray⟩ :: .tuple #[.iface Tx Ux, .bool true] :: .iface Tx Ux :: .bool true :: .tuple #[.iface Ty Uy, .bool true] :: .pointer (some ⟨g, 0, none⟩) :: .string ⟨l.toArray⟩ :: .tuple #[.iface Ty Uy, .bool true] :: .iface Ty Uy :: .bool true :: .bool true :: .bool false :: .bool false :: .bool true :: .bool false :: .bool false :: .iface Tx Ux :: .tuple #[] :: .tuple #[.agg #[.iface tx ux], .nilIface] :: .pointer (some ⟨g, 0, none⟩) :: .string ⟨l.toArray⟩ :: .tuple #[.agg #[.iface tx ux], .nilIface] :: .agg #[.iface tx ux] :: .nilIface :: .nilIface :: .bool false :: undef :: undef :: undef :: undef :: undef :: undef :: undef :: undef :: undef :: undef :: undef :: undef :: undef :: undef :: undef :: undef :: undef :: undef :: undef :: undef :: .pointer (some ⟨g, 0, none⟩) :: (.func (.func 27) #[] #[.pointer (some ⟨q, 0, none⟩), .pointer (some ⟨q + 1, 0, none⟩)]) :: (.func (.func 27) #[] #[.pointer (some ⟨q, 0, none⟩), .pointer (some ⟨q + 1, 0, none⟩)]) :: .bool false :: (.func (.func 27) #[] #[.pointer (some ⟨q, 0, none⟩), .pointer (some ⟨q + 1, 0, none⟩)]) :: .string ⟨x.1.1.toArray⟩ :: x.1.2.2 :: undef :: undef :: undef :: undef :: undef :: undef :: undef :: undef :: undef :: undef :: undef :: undef :: undef :: undef :: undef :: undef :: undef :: undef :: undef :: undef :: undef :: undef :: undef :: undef :: undef :: undef :: undef :: undef :: undef :: undef :: undef :: []).toArray, defers := [] })
  (fun x a' C u W9 W' h hF => h)
  ?assign ?body ?done ?stop
 case assign =>
  rintro l1 Cd pre1 x W7 K hfr hnw hI7 hnx hK
  have hK2 := hK _ W7 Cd (Fr.refl _ _) (Nw.refl _ _) hI7 rfl
  clear hK
  obtain ⟨T9, U9, he⟩ := x.2.2.2
  simp only [encT, he] at hK2 ⊢
  gi_wp2
  exact hK2
 case body =>
  rintro l1 Cd pre1 x a' W7 hfr hnw hI7 rfl hnx
  obtain ⟨T9, U9, he⟩ := x.2.2.2
  have hpl := vals_len HO.out.2 hnx
  obtain ⟨qs, hqs⟩ : ∃ qs, vals pre1 = qs := ⟨_, rfl⟩
  have hI8 : RowW (p + 1) (p + 1) Cd (vals pre1) W7 := hI7
  rw [hqs] at hI8 hpl
  have HQS := Lib.hid (And.intro hqs he)
  rw [he]
  clear hI7 hqs he
  obtain ⟨h1, h0, v, hbx, hrow, hCb, hCo, hCl⟩ := hI8
  obtain ⟨zA, zc, rfl⟩ := own_slice hrow
  obtain ⟨i0, hi0, hz0, hz1, hz2⟩ := info_parts info_value
  have c7 := hbx.cell
  have c7' := (hbx.alloc (.cells #[.iface T9 U9] 35)).cell
  have HX := Lib.hid (And.intro hbx (And.intro hCb (And.intro hCo hCl)))
  clear hfr hnw hnx hbx hCb hCo hCl
  gi_wp2_with (gi_at_builtin; refine wpListIn_append_own_at _ rfl _ _ 73 rfl (p + 1) 35 i0 _ 1 16 Tryz.underlying73 hi0 hz0 hz1 hz2 rfl (by omega) (.slice zA qs.length zc) qs.length qs rfl (hrow.alloc _) ⟨W7.heap.size, 0, none⟩ 1 1 [.iface T9 U9] rfl rfl (one_new _ _ _) (one_cell _ rfl) ?b1 ?b2 ?b3 ?_; (unfold maxLen; omega); omega; (simp; omega); intro v8 w8 hown8 hgr8 hnil8 hat8; obtain ⟨g9, c9, rfl⟩ := ownsRow_succ hown8; have hap := Boxed.appended HX.out.1 (by decide) hrow h1 h0 hown8 hgr8; have c8 := hap.1.cell; have f8 := hap.1.frozen; have HEND := Lib.hid (rowW_next h1 h0 HX.out.1 hrow HX.out.2.1 HX.out.2.2.1 HX.out.2.2.2 hown8 hgr8 hat8); clear hap hown8 hgr8 hnil8 hat8 hrow HX)
  have HE2 := HEND.out
  clear HEND
  rw [show qs ++ [.iface T9 U9] = vals (pre1 ++ [x]) by rw [vals_snoc, HQS.out.1, HQS.out.2]] at HE2
  exact HE2
 case stop =>
  rintro D c Cd pre1 W7 hD hDC hsp h
  exact h.elim
 case done =>
  rintro D Cd xs W W8 hD hDC hxs hF8 hI7 hfr hnw hKD
  obtain ⟨x0, xs', rfl, hx0⟩ := all_head hxs.1
  obtain ⟨T9, U9, he⟩ := x0.2.2.2
  have hto : TdO (fun k => w9.heap.size + 2 ≤ k) W t (.iface T9 U9) := by
   have h := hxs.2 x0 (by simp)
   rw [hx0, he] at h
   exact TdO.move (fun k hk hx => ⟨hx, hF8.block k hk (by omega)⟩) _ _ h
  have hI8 : RowW (p + 1) (p + 1) Cd (vals (x0 :: xs')) W := hI7
  obtain ⟨h1, h0, v, hbx, hrow, hCb, hCo, hCl⟩ := hI8
  have hv0 : vals (x0 :: xs') = .iface T9 U9 :: vals xs' := by
   show x0.1.2.2 :: _ = _
   rw [he]
   rfl
  rw [hv0] at hrow
  obtain ⟨N, hN⟩ : ∃ N, (Value.iface T9 U9 :: vals xs').length = N + 1 := ⟨(vals xs').length, rfl⟩
  rw [hN] at hrow
  obtain ⟨g0, c0, rfl⟩ := ownsRow_succ hrow
  have cl := hbx.cell
  have ce : W.cell? ⟨g0, 0, none⟩ = some (.iface T9 U9) := by
   have := hrow.cellAt 0 (by simp)
   simpa using this
  have hq := HQ.out
  have hbW : Below w1.heap.size w1 W := HB9.out.trans (hfr.below HB9.out.size fun j _ hj => by omega)
  have hyW : TdR W u w3.heap.size w4.heap.size (.iface Ty Uy) := TdR.go _ _ _ _ _ _ HY9.out (Nat.le_refl _) (Nat.le_refl _) fun k a b c => hfr.block k c (by omega)
  have hrW := boxed_fr HBX.out.1 hfr (show ¬ p = p + 1 by omega)
  have hpW : p < w9.heap.size := HBX.out.1.lt
  have e2 : ((N : Int) + 1 == 0) = false := by
   rw [beq_eq_false_iff_ne]
   omega
  have e3 : (0 : Int) < (N : Int) + 1 := by omega
  have HTO := Lib.hid hto
  have HBW := Lib.hid (And.intro hbW (And.intro hyW (And.intro hrW hKD)))
  have HDD := Lib.hid hD
  clear hto hbW hyW hrW hKD hrow hxs hF8 hI7 hfr hnw hDC hbx hCb hCo hCl HSQ HBX HB9 HY9 hD hq hN hv0 he hx0
  gi_wp2_with fail
  obtain ⟨lo, hi, _, hlo, htr⟩ := HTO.out
  refine ⟨trivial, (callsIn_wide.2 (spoil_any t HO.out.1 (fit_le HO.out.2).1 lo hi _ W htr)).mono ?_⟩
  rintro e w11 ⟨rfl, hf11⟩
  have hq := HQ.out
  have hD := HDD.out
  have hb11 : Below w1.heap.size w1 w11 := HBW.out.1.trans (hf11.below HBW.out.1.size fun j _ hj => by have := hlo j hj.1 hj.2; omega)
  have hy11 := TdR.go (w' := w11) _ _ _ _ _ _ HBW.out.2.1 (Nat.le_refl _) (Nat.le_refl _) fun k a b c => hf11.block k c (fun h => by have := hlo k h.1 h.2; omega)
  have hr11 := boxed_fr HBW.out.2.2.1 hf11 (fun h => by have := hlo p h.1 h.2; omega)
  have hk11 : w11.heap[D]? = some (.deferred (some [])) := hf11.same HBW.out.2.2.2 (fun h => by have := hlo D h.1 h.2; omega)
  have HB11 := Lib.hid hb11
  have HY11 := Lib.hid (And.intro hy11 (And.intro hr11 hk11))
  clear hb11 hy11 hr11 hk11 hf11 hlo htr hq hD HTO HBW cl ce
  gi_wp2_with fail
  refine ⟨trivial, (callsIn_wide.2 (tellO_some g t tv l w1 w11 HBK.out HR.out HB11.out HO.out.1 HO.out.2 (by have := HL.out; omega) (HG1.out.next HB11.out) (HT1.out.next HB11.out) 1)).mono ?_⟩
  rintro e w12 ⟨z, hq, rfl⟩
  rw [HW.out]
  obtain ⟨hz, hb12⟩ := lookO_s hq HP.out HLE.out
  clear hq
  obtain ⟨Tz, Uz, rfl⟩ := hz.iface
  unfold TellV
  rw [if_pos rfl]
  have hz12 := wda_up (TdR.toT _ _ _ _ hz)
  have hy12 := wda_below (wda_up (TdR.toT _ _ _ _ HY11.out.1)) hb12
  have hr12 := boxed_new HY11.out.2.1 hb12
  have HB12 := Lib.hid (HB11.out.trans (hb12.mono HB11.out.size))
  have HK12 := Lib.hid ((hb12.block D (Array.getElem?_eq_some_iff.1 HY11.out.2.2).1).trans HY11.out.2.2)
  have HE1 := Lib.hid (equal_any u HU.out.1 HU.out.2 (.iface Ty Uy) (.iface tx ux) w12 hy12 (rda_below HRU.out HB12.out))
  have HZ12 := Lib.hid hz12
  have HR12 := Lib.hid hr12
  have c12 := hr12.cell
  clear hz hz12 hy12 hr12 hb12 HB11 HY11
  gi_wp2_with fail
  refine ⟨trivial, (callsIn_wide.2 HE1.out).mono ?_⟩
  rintro e w13 ⟨rfl, hb13⟩
  have HB13 := Lib.hid (HB12.out.trans (hb13.mono HB12.out.size))
  have HK13 := Lib.hid ((hb13.block D (Array.getElem?_eq_some_iff.1 HK12.out).1).trans HK12.out)
  have c13 := (boxed_new HR12.out hb13).cell
  have HE2 := Lib.hid (equal_any u HU.out.1 HU.out.2 (.iface Tz Uz) (.iface tx ux) w13 (wda_below HZ12.out hb13) (rda_below HRU.out HB13.out))
  clear hb13 HE1 HZ12 HR12 c12 HB12 HK12
  gi_wp2_with fail
  refine ⟨trivial, (callsIn_wide.2 HE2.out).mono ?_⟩
  rintro e w14 ⟨rfl, hb14⟩
  have HB14 := Lib.hid (HB13.out.trans (hb14.mono HB13.out.size))
  have HK14 := Lib.hid ((hb14.block D (Array.getElem?_eq_some_iff.1 HK13.out).1).trans HK13.out)
  have HWK := Lib.hid (works_any w14 (HG1.out.next HB14.out) (HT1.out.next HB14.out))
  clear hb14 HE2 c13 HB13 HK13
  gi_wp2_with fail
  refine ⟨trivial, (callsIn_wide.2 HWK.out).mono ?_⟩
  rintro e w15 ⟨rfl, hb15⟩
  have HK15 := Lib.hid ((hb15.block D (Array.getElem?_eq_some_iff.1 HK14.out).1).trans HK14.out)
  have hb115 := HB14.out.trans (hb15.mono HB14.out.size)
  have hF : Fr (fun k => k = D) w15 (w15.putObj D (.deferred none)) := Fr.putObj (fun k => k = D) _ D _ fun _ => rfl
  have HZ : Hid (Below w.heap.size w (w15.putObj D (.deferred none))) := Lib.hid (HB1.out.trans (((hb115.trans (hF.below hb115.size fun j _ hj => by have := HDD.out; have := HQ.out; omega))).mono HB1.out.size))
  clear hb15 HWK HB14 HK14 hb115 hF
  gi_wp2_with fail
  refine ⟨by simp, .inl ⟨_, _, rfl, run_takeDeferred HK15.out, ?_⟩⟩
  exact ⟨_, results_tmp rfl _ _ _, rfl, HZ.out⟩
theorem written_any (v : Value) (l : List UInt8) (ss : List Stp) (w : World) (hS : RdS w v ss) (hF : ∀ s ∈ ss, s.Fine) (hC : ∀ s ∈ ss, s.Cnt) (hn : ss.length ≤ 1048576) (hl : l.length ≤ 2097152) (hG : Glob w) (hT : Tab w) : Calls Tryz.prog 5 #[v, .string ⟨l.toArray⟩] w (TrueW w) := by
 cases hb : buildT ss with
 | inl x => exact written_none v l ss w hS hF hC hn hl hG hT x hb
 | inr t =>
  cases hp : parseS (wrong l) l with
  | error y => exact written_err v l ss w hS hF hC hn hl hG hT t hb y hp
  | ok ts =>
   cases hle : leadT t ts 0 with
   | inl n => exact written_lost v l ss w hS hF hC hn hl hG hT t hb ts n hp hle
   | inr u => exact written_some v l ss w hS hF hC hn hl hG hT t u hb ts hp hle
end Nd
end Go.Proofs.YtlailcmhpnnidaaGreatDoor
