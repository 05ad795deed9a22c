/-
  From the row's laid variables to the facts that Atoi and Itoa ask.
  Told values whose blocks lie in ranges of their own; what a Ref's Value tells lies so.
-/
import Derived.Test.YtlailcmhpnnidaaGreatDoorRows
import Derived.Test.YtlailcmhpnnidaaGreatDoorX14
import Derived.Test.YtlailcmhpnnidaaGreatDoorX10
import Derived.Stop.LaidErr
import Derived.SevenTiedAt
import Derived.Deep.RegionHeldLaw
set_option linter.unusedVariables false
set_option linter.unusedSimpArgs false
set_option maxRecDepth 100000
set_option maxHeartbeats 16000000
namespace Go.Proofs.YtlailcmhpnnidaaGreatDoor
open Go.RowKit Go.Shelf
theorem star_err : "*" ++ "errors.errorString" = "*errors.errorString" := by decide
theorem row_err (u : TypeId) (h : Tryz.prog.typeName? 3 u = some "*errors.errorString") : u = 335 :=
 typeName_ptr_named (nm := "errors.errorString") (by rw [star_err]; kernel_rfl) (by kernel_rfl) (by decide) u (by rw [star_err]; exact h)
theorem glob {W : World} (h : W.ShapedOpen Tryz.prog) : Glob W := Tryz.laysM219.s1_3 W h
theorem tab_of_laid {W : World} (h : laidMetH Tryz.prog Rows.askWrittenUptoRow.laid W) : Tab W := by
 rw [MakeChecks.laidMetH_plain _ _ _ (by kernel_rfl)] at h
 have h1 : laidMet Tryz.prog (("internal/strconv.uint64pow10", Lib.tabData .u64 Lib.pow10Tab) :: _) W := laidMet.tail (laidMet.tail h)
 have h2 := laidMet.tail (laidMet.tail h1)
 have h3 := laidMet.tail h2
 obtain ⟨a0, s0, hv0, -, -, -⟩ := laid_sentinel h2 gRan (by kernel_rfl) errI row_err Tryz.underlying335 Tryz.underlying337 rfl rfl Tryz.underlying9 (by kernel_rfl) (by kernel_rfl)
 obtain ⟨a1, s1, hv1, -, -, -⟩ := laid_sentinel h3 gSyn (by kernel_rfl) errI row_err Tryz.underlying335 Tryz.underlying337 rfl rfl Tryz.underlying9 (by kernel_rfl) (by kernel_rfl)
 exact ⟨Lib.tabIs_of_head gPow (by kernel_rfl) Tryz.underlying305 Tryz.underlying24 (by kernel_rfl) (by kernel_rfl) h1, ⟨_, _, hv1⟩, _, _, hv0⟩
end Go.Proofs.YtlailcmhpnnidaaGreatDoor
namespace Go.Proofs.YtlailcmhpnnidaaGreatDoor
open Go.RowKit Mem
namespace Nd
mutual
def TdR (w : World) : Tr → Nat → Nat → Value → Prop
 | .null, lo, hi, v => lo ≤ hi ∧ v = .iface 103 (.agg #[])
 | .flag b, lo, hi, v => lo ≤ hi ∧ v = .iface 104 (.bool b)
 | .num x, lo, hi, v => lo ≤ hi ∧ v = .iface 106 (.float .f64 x)
 | .text t, lo, hi, v => lo ≤ hi ∧ v = .iface 108 (.string ⟨t.toArray⟩)
 | .list l, lo, hi, v => ∃ g vs, lo ≤ g ∧ g < hi ∧ v = .iface 109 (.slice (some ⟨g, 0, none⟩) l.length l.length) ∧ w.ownsRow g 35 1 (.slice (some ⟨g, 0, none⟩) l.length l.length) l.length vs ∧ TdRL w l (g + 1) hi vs
 | .obj ks l, lo, hi, v => ∃ g vs, lo ≤ g ∧ g < hi ∧ v = .iface 112 (.slice (some ⟨g, 0, none⟩) l.length l.length) ∧ ks.length = l.length ∧ w.ownsRow g 116 2 (.slice (some ⟨g, 0, none⟩) l.length l.length) l.length (pairs ks vs) ∧ TdRL w l (g + 1) hi vs
def TdRL (w : World) : List Tr → Nat → Nat → List Value → Prop
 | [], lo, hi, vs => lo ≤ hi ∧ vs = []
 | t :: l, lo, hi, vs => ∃ v vs' mid, vs = v :: vs' ∧ TdR w t lo mid v ∧ TdRL w l mid hi vs'
end
theorem own_blk {w w' : World} {base size n g c : Nat} {e : TypeId} {xs : List Value} (h : w.ownsRow base e size (.slice (some ⟨g, 0, none⟩) n c) n xs) (hk : w'.heap[g]? = w.heap[g]?) : w'.ownsRow base e size (.slice (some ⟨g, 0, none⟩) n c) n xs := by
 refine ⟨h.1, ?_⟩
 rcases h.2 with ⟨h1, _⟩ | ⟨g', cap, cur, h1, hg, hh, r⟩
 ·cases h1
 ·injection h1 with h1 _ h3
  injection h1 with h1
  injection h1 with h1
  subst h1
  subst h3
  exact .inr ⟨g, c, cur, rfl, hg, hk.trans hh, r⟩
mutual
theorem TdR.le {w : World} : ∀ (t : Tr) (lo hi : Nat) (v : Value), TdR w t lo hi v → lo ≤ hi
 | .null, lo, hi, v, h => by unfold TdR at h; exact h.1
 | .flag b, lo, hi, v, h => by unfold TdR at h; exact h.1
 | .num x, lo, hi, v, h => by unfold TdR at h; exact h.1
 | .text x, lo, hi, v, h => by unfold TdR at h; exact h.1
 | .list l, lo, hi, v, h => by
  unfold TdR at h
  obtain ⟨g, vs, h1, h2, _⟩ := h
  omega
 | .obj ks l, lo, hi, v, h => by
  unfold TdR at h
  obtain ⟨g, vs, h1, h2, _⟩ := h
  omega
theorem TdRL.le {w : World} : ∀ (l : List Tr) (lo hi : Nat) (vs : List Value), TdRL w l lo hi vs → lo ≤ hi
 | [], lo, hi, vs, h => by unfold TdRL at h; exact h.1
 | t :: l, lo, hi, vs, h => by
  unfold TdRL at h
  obtain ⟨v, vs', mid, _, h1, h2⟩ := h
  have := TdR.le t _ _ _ h1
  have := TdRL.le l _ _ _ h2
  omega
end
mutual
theorem TdR.go {w w' : World} : ∀ (t : Tr) (lo hi lo' hi' : Nat) (v : Value), TdR w t lo hi v → lo' ≤ lo → hi ≤ hi' → (∀ k, lo ≤ k → k < hi → k < w.heap.size → w'.heap[k]? = w.heap[k]?) → TdR w' t lo' hi' v
 | .null, lo, hi, lo', hi', v, h, h1, h2, hm => by unfold TdR at h ⊢; exact ⟨by omega, h.2⟩
 | .flag b, lo, hi, lo', hi', v, h, h1, h2, hm => by unfold TdR at h ⊢; exact ⟨by omega, h.2⟩
 | .num x, lo, hi, lo', hi', v, h, h1, h2, hm => by unfold TdR at h ⊢; exact ⟨by omega, h.2⟩
 | .text x, lo, hi, lo', hi', v, h, h1, h2, hm => by unfold TdR at h ⊢; exact ⟨by omega, h.2⟩
 | .list l, lo, hi, lo', hi', v, h, h1, h2, hm => by
  unfold TdR at h ⊢
  obtain ⟨g, vs, h3, h4, hv, ho, hl⟩ := h
  exact ⟨g, vs, by omega, by omega, hv, own_blk ho (hm g h3 h4 (ho.lt g rfl).2), TdRL.go l _ _ _ _ _ hl (Nat.le_refl _) h2 fun k a b => hm k (by omega) b⟩
 | .obj ks l, lo, hi, lo', hi', v, h, h1, h2, hm => by
  unfold TdR at h ⊢
  obtain ⟨g, vs, h3, h4, hv, hk, ho, hl⟩ := h
  exact ⟨g, vs, by omega, by omega, hv, hk, own_blk ho (hm g h3 h4 (ho.lt g rfl).2), TdRL.go l _ _ _ _ _ hl (Nat.le_refl _) h2 fun k a b => hm k (by omega) b⟩
theorem TdRL.go {w w' : World} : ∀ (l : List Tr) (lo hi lo' hi' : Nat) (vs : List Value), TdRL w l lo hi vs → lo' ≤ lo → hi ≤ hi' → (∀ k, lo ≤ k → k < hi → k < w.heap.size → w'.heap[k]? = w.heap[k]?) → TdRL w' l lo' hi' vs
 | [], lo, hi, lo', hi', vs, h, h1, h2, hm => by unfold TdRL at h ⊢; exact ⟨by omega, h.2⟩
 | t :: l, lo, hi, lo', hi', vs, h, h1, h2, hm => by
  unfold TdRL at h ⊢
  obtain ⟨v, vs', mid, hv, h3, h4⟩ := h
  have l3 := TdR.le t _ _ _ h3
  have l4 := TdRL.le l _ _ _ h4
  exact ⟨v, vs', mid, hv, TdR.go t _ _ _ _ _ h3 h1 (Nat.le_refl _) fun k a b => hm k a (by omega), TdRL.go l _ _ _ _ _ h4 (Nat.le_refl _) h2 fun k a b => hm k (by omega) b⟩
end
theorem TdRL.len {w : World} : ∀ {l : List Tr} {lo hi : Nat} {vs : List Value}, TdRL w l lo hi vs → vs.length = l.length
 | [], lo, hi, vs, h => by
  unfold TdRL at h
  rw [h.2]
  rfl
 | t :: l, lo, hi, vs, h => by
  unfold TdRL at h
  obtain ⟨v, vs', mid, rfl, _, h4⟩ := h
  simp [TdRL.len h4]
theorem TdRL.snoc {w : World} : ∀ {l : List Tr} {lo mid hi : Nat} {vs : List Value} {t : Tr} {v : Value}, TdRL w l lo mid vs → TdR w t mid hi v → TdRL w (l ++ [t]) lo hi (vs ++ [v])
 | [], lo, mid, hi, vs, t, v, h, h1 => by
  unfold TdRL at h
  obtain ⟨h2, rfl⟩ := h
  have := TdR.le t _ _ _ h1
  show TdRL w [t] lo hi [v]
  unfold TdRL
  refine ⟨v, [], hi, rfl, TdR.go t _ _ _ _ _ h1 h2 (Nat.le_refl _) fun _ _ _ _ => rfl, ?_⟩
  unfold TdRL
  exact ⟨Nat.le_refl _, rfl⟩
 | x :: l, lo, mid, hi, vs, t, v, h, h1 => by
  unfold TdRL at h
  obtain ⟨u, vs', m, rfl, h3, h4⟩ := h
  show TdRL w (x :: (l ++ [t])) lo hi (u :: (vs' ++ [v]))
  rw [TdRL]
  exact ⟨u, vs' ++ [v], m, rfl, h3, TdRL.snoc h4 h1⟩
mutual
theorem TdR.toT {w : World} : ∀ (t : Tr) (lo hi : Nat) (v : Value), TdR w t lo hi v → TdT (fun k => lo ≤ k ∧ k < hi) w t v
 | .null, lo, hi, v, h => by unfold TdR at h; unfold TdT; exact h.2
 | .flag b, lo, hi, v, h => by unfold TdR at h; unfold TdT; exact h.2
 | .num x, lo, hi, v, h => by unfold TdR at h; unfold TdT; exact h.2
 | .text x, lo, hi, v, h => by unfold TdR at h; unfold TdT; exact h.2
 | .list l, lo, hi, v, h => by
  unfold TdR at h
  unfold TdT
  obtain ⟨g, vs, h3, h4, hv, ho, hl⟩ := h
  refine ⟨_, vs, hv, (row_of_own ho).mono fun j (hj : (Value.slice (some ⟨g, 0, none⟩) l.length l.length).ownBlock = some j) => ?_, (TdRL.toT l _ _ _ hl).move fun k hk hs => ⟨⟨by omega, hs.2⟩, rfl⟩⟩
  injection hj with hj
  subst hj
  exact ⟨h3, h4⟩
 | .obj ks l, lo, hi, v, h => by
  unfold TdR at h
  unfold TdT
  obtain ⟨g, vs, h3, h4, hv, hk, ho, hl⟩ := h
  refine ⟨_, vs, hv, hk, (row2_of_own ho).move fun j _ (hj : (Value.slice (some ⟨g, 0, none⟩) l.length l.length).ownBlock = some j) => ⟨?_, rfl⟩, (TdRL.toT l _ _ _ hl).move fun k hk hs => ⟨⟨by omega, hs.2⟩, rfl⟩⟩
  injection hj with hj
  subst hj
  exact ⟨h3, h4⟩
theorem TdRL.toT {w : World} : ∀ (l : List Tr) (lo hi : Nat) (vs : List Value), TdRL w l lo hi vs → TdL (fun k => lo ≤ k ∧ k < hi) w l vs
 | [], lo, hi, vs, h => by unfold TdRL at h; unfold TdL; exact h.2
 | t :: l, lo, hi, vs, h => by
  unfold TdRL at h
  unfold TdL
  obtain ⟨v, vs', mid, hv, h1, h2⟩ := h
  have l1 := TdR.le t _ _ _ h1
  have l2 := TdRL.le l _ _ _ h2
  exact ⟨v, vs', hv, TdT.move (fun k _ hs => ⟨⟨hs.1, by omega⟩, rfl⟩) _ _ (TdR.toT t _ _ _ h1), (TdRL.toT l _ _ _ h2).move fun k _ hs => ⟨⟨by omega, hs.2⟩, rfl⟩⟩
end
theorem TdR.iface {w : World} {t : Tr} {lo hi : Nat} {v : Value} (h : TdR w t lo hi v) : ∃ tx ux, v = .iface tx ux := TdT.iface (TdR.toT _ _ _ _ h)
def ValOw (t : Tr) (w : World) (e : Ending) (w' : World) : Prop := ∃ u, e = .returned u ∧ TdR w' t w.heap.size w'.heap.size u ∧ Below w.heap.size w w'
structure ValLR (S : Nat → Prop) (l : List Tr) (w : World) (g0 : Nat) (k : Nat) (wr : World) : Prop where
 bl : Below w.heap.size w wr
 ex : ∃ us, us.length = k ∧ TdRL wr (l.take k) (g0 + 1) wr.heap.size us ∧ wr.ownsRow g0 35 1 (.slice (some ⟨g0, 0, none⟩) k l.length) k us
theorem valueR_list (S : Nat → Prop) (l : List Tr) (v : Value) (w : World) (h : RdT S w (.list l) v) (hlen : l.length ≤ 1048576) (ih : ∀ x, x ∈ l → ∀ u W, RdT S W x u → Calls Tryz.prog 29 #[.agg #[u]] W (ValOw x W)) :
  Calls Tryz.prog 29 #[.agg #[v]] w (ValOw (.list l) w) := by
 obtain ⟨i0, hi0, hz0, hz1, hz2⟩ := info_parts info_value
 unfold RdT at h
 obtain ⟨g1, A1, c1, vs, rfl, hS1, hB1, hR1, hL1⟩ := h
 have h0 := ta_4_0 (some ⟨g1, 0, none⟩)
 have h1 := ta_4_1 (some ⟨g1, 0, none⟩)
 have h2 := ta_4_2 (some ⟨g1, 0, none⟩)
 have h3 := ta_4_3 (some ⟨g1, 0, none⟩)
 have h4 := ta_4_4 (some ⟨g1, 0, none⟩)
 have HR := Lib.hid hR1
 have HL := Lib.hid hL1
 have HIH := Lib.hid ih
 have hlt1 := hB1.lt
 have d3 : w.cell? ⟨g1, 3, none⟩ = some (.slice A1 l.length c1) := hB1.cell 3
 clear hR1 hL1 ih hB1
 go_enter Tryz.func29, Tryz.ntmps29
 go_wp2_with (at_make; refine wpList_make_own _ rfl _ _ 109 rfl (w.heap.size + 1) 35 i0 _ 1 Tryz.underlying109 hi0 hz0 hz1 .i64 .i64 (l.length : Int) l.length rfl rfl rfl (by rw [hz2]; omega) (by unfold maxLen; omega) (by simp) ?_; intro w1 hown1 hgr1; have hb1 := below_made hgr1; have d3' : w1.cell? ⟨g1, 3, none⟩ = some (.slice A1 l.length c1) := ((old hb1).1 _ _ hlt1).trans d3)
 have hsz1 : w.heap.size + 1 < w1.heap.size := by have h9 := (hown1.lt _ rfl).2; simpa using h9
 rw [World.size_alloc] at hown1
 have HO1 := Lib.hid hown1
 clear hown1 hgr1
 go_loopw [8, 51] (fun c8 c51 wr => ∃ k : Nat, k ≤ l.length ∧ c51 = .int .i64 k ∧ c8 = .slice (some ⟨w.heap.size + 1, 0, none⟩) k l.length ∧ ValLR S l w (w.heap.size + 1) k wr) (fun _ c51 _ => l.length - (intOf c51).toNat)
 case atStart => exact ⟨0, by omega, rfl, rfl, hb1, [], rfl, by unfold TdRL; exact ⟨by omega, rfl⟩, HO1.out⟩
 case round =>
  obtain ⟨k, hk, rfl, rfl, hV⟩ := hrel
  have HV := Lib.hid hV
  have hbs := hV.bl.size
  clear hV
  by_cases hlt : k < l.length
  ·have hcell : ∃ g o tx ux, A1 = some ⟨g, o, none⟩ ∧ wr.cell? ⟨g, o + k, none⟩ = some (.iface tx ux) ∧ RdT S wr l[k] (.iface tx ux) := by
    obtain ⟨A', c', e', h'⟩ := HR.out
    injection e' with e1 e2 e3
    have hvl := HL.out.len
    rcases h' with ⟨h', _⟩ | ⟨g, o, cur, hA, hSg, hBg, hc⟩
    ·rw [h'] at hvl
     simp at hvl
     omega
    ·have hvk : vs[k]? = some (vs[k]'(by omega)) := List.getElem?_eq_getElem (by omega)
     have hrd := HL.out.at (List.getElem?_eq_getElem hlt) hvk
     obtain ⟨tx, ux, he⟩ := hrd.iface
     rw [he] at hvk hrd
     exact ⟨g, o, tx, ux, by rw [e1, hA], ((HV.out.bl.cell (p := ⟨g, o + k, none⟩) hBg.lt).trans (hBg.cell _)).trans (hc k _ hvk), RdT.move (fun j hj hs => ⟨hs, HV.out.bl.block j hj⟩) _ _ hrd⟩
   obtain ⟨g, o, tx, ux, rfl, hcell, hrd⟩ := hcell
   have HRD := Lib.hid hrd
   clear hrd
   go_wp2_with fail
   ((with_reducible refine (HIH.out _ (List.getElem_mem hlt) _ _ HRD.out).mono ?_); rintro e w2 ⟨u, rfl, htd, hb2⟩)
   obtain ⟨ty, uy, rfl⟩ := htd.iface
   have HTD := Lib.hid htd
   obtain ⟨us, hul, hus, hown⟩ := HV.out.ex
   have hown2 := own_below hown hb2
   have hwlt : w.heap.size + 1 < wr.heap.size := (hown.lt _ rfl).2
   have hs2 := hb2.size
   have HUS := Lib.hid hus
   have HO2 := Lib.hid hown2
   have HB2 := Lib.hid hb2
   clear htd hus hown hown2 hb2
   go_wp2_with (at_builtin; refine wpList_append_fits _ rfl _ _ 109 rfl (w.heap.size + 1) 35 i0 1 Tryz.underlying109 hi0 hz1 (w.heap.size + 1) k l.length us rfl (HO2.out.alloc _) ⟨w2.heap.size, 0, none⟩ 1 1 [.iface ty uy] rfl rfl (one_new _ _ _) (one_cell _ rfl) (by omega) ?_; intro w3 hown3 hgr3)
   have hV3 : ValLR S l w (w.heap.size + 1) (k + 1) w3 := by
    have hmv : ∀ j, j < w2.heap.size → w.heap.size + 1 < j → w3.heap[j]? = w2.heap[j]? := fun j hj hs =>
     (hgr3.block j (by simp; omega) (by intro e; injection e with e; omega)).trans (Below.heap_alloc w2 _ j hj)
    have hs3 : w2.heap.size ≤ w3.heap.size := by have := hgr3.size; simp at this; omega
    refine ⟨?_, us ++ [.iface ty uy], by simp [hul], ?_, hown3⟩
    ·have h1 : Below w.heap.size w w2 := HV.out.bl.trans (HB2.out.mono hbs)
     exact (h1.alloc h1.size _).grown hgr3 (by simp; omega) (fun j e => by injection e with e; omega)
    ·rw [List.take_succ_eq_append_getElem hlt]
     refine TdRL.snoc (TdRL.go _ _ _ _ _ _ HUS.out (Nat.le_refl _) (Nat.le_refl _) fun k a b _ => (hmv k (by omega) (by omega)).trans (HB2.out.block k b)) ?_
     exact TdR.go _ _ _ _ _ _ HTD.out (Nat.le_refl _) hs3 fun k a b _ => hmv k b (by omega)
   clear hown3 hgr3
   go_wp2
   go_roundw
   case rel => exact ⟨k + 1, by omega, by go_num, rfl, hV3⟩
   case measure => simp [intOf]; omega
  ·have hkn : k = l.length := by omega
   subst hkn
   go_wp2
   go_ret
   obtain ⟨us, hul, hus, hown⟩ := HV.out.ex
   rw [List.take_length] at hus
   refine ⟨_, rfl, ?_, HV.out.bl⟩
   unfold TdR
   exact ⟨w.heap.size + 1, us, by omega, (hown.lt _ rfl).2, rfl, hown, hus⟩
structure ValOR (ks : List Tx) (l : List Tr) (w : World) (g0 : Nat) (k : Nat) (wr : World) : Prop where
 bl : Below w.heap.size w wr
 ex : ∃ us, us.length = k ∧ TdRL wr (l.take k) (g0 + 1) wr.heap.size us ∧ wr.ownsRow g0 116 2 (.slice (some ⟨g0, 0, none⟩) k l.length) k (pairs (ks.take k) us)
theorem valueR_obj (S : Nat → Prop) (ks : List Tx) (l : List Tr) (v : Value) (w : World) (h : RdT S w (.obj ks l) v) (hkl : ks.length = l.length) (hlen : l.length ≤ 1048576) (ih : ∀ x, x ∈ l → ∀ u W, RdT S W x u → Calls Tryz.prog 29 #[.agg #[u]] W (ValOw x W)) :
  Calls Tryz.prog 29 #[.agg #[v]] w (ValOw (.obj ks l) w) := by
 obtain ⟨i0, hi0, hz0, hz1, hz2⟩ := info_parts info_member
 unfold RdT at h
 obtain ⟨g1, K1, dk, A1, c1, vs, rfl, hS1, hB1, hK1, hR1, hL1⟩ := h
 have h0 := ta_5_0 (some ⟨g1, 0, none⟩)
 have h1 := ta_5_1 (some ⟨g1, 0, none⟩)
 have h2 := ta_5_2 (some ⟨g1, 0, none⟩)
 have h3 := ta_5_3 (some ⟨g1, 0, none⟩)
 have h4 := ta_5_4 (some ⟨g1, 0, none⟩)
 have h5 := ta_5_5 (some ⟨g1, 0, none⟩)
 have HR := Lib.hid hR1
 have HL := Lib.hid hL1
 have HK := Lib.hid hK1
 have HIH := Lib.hid ih
 have HKL := Lib.hid hkl
 have hlt1 := hB1.lt
 have d3 : w.cell? ⟨g1, 3, none⟩ = some (.slice K1 ks.length dk) := hB1.cell 3
 have d4 : w.cell? ⟨g1, 4, none⟩ = some (.slice A1 l.length c1) := hB1.cell 4
 clear hR1 hL1 ih hB1 hK1 hkl
 go_enter Tryz.func29, Tryz.ntmps29
 go_wp2_with (at_make; refine wpList_make_own _ rfl _ _ 112 rfl (w.heap.size + 1) 116 i0 _ 2 Tryz.underlying112 hi0 hz0 hz1 .i64 .i64 (l.length : Int) l.length rfl rfl rfl (by rw [hz2]; omega) (by unfold maxLen; omega) (by simp) ?_; intro w1 hown1 hgr1; have hb1 := below_made hgr1; have d4' : w1.cell? ⟨g1, 4, none⟩ = some (.slice A1 l.length c1) := ((old hb1).1 _ _ hlt1).trans d4)
 have hsz1 : w.heap.size + 1 < w1.heap.size := by have h9 := (hown1.lt _ rfl).2; simpa using h9
 rw [World.size_alloc] at hown1
 have HO1 := Lib.hid hown1
 clear hown1 hgr1 d4 d4'
 go_loopw [12, 78] (fun c12 c78 wr => ∃ k : Nat, k ≤ l.length ∧ c78 = .int .i64 k ∧ c12 = .slice (some ⟨w.heap.size + 1, 0, none⟩) k l.length ∧ ValOR ks l w (w.heap.size + 1) k wr) (fun _ c78 _ => l.length - (intOf c78).toNat)
 case atStart => exact ⟨0, by omega, rfl, rfl, hb1, [], rfl, by unfold TdRL; exact ⟨by omega, rfl⟩, by cases ks <;> exact HO1.out⟩
 case round =>
  obtain ⟨k, hk, rfl, rfl, hV⟩ := hrel
  have HV := Lib.hid hV
  have hbs := hV.bl.size
  have d3r : wr.cell? ⟨g1, 3, none⟩ = some (.slice K1 ks.length dk) := ((old hV.bl).1 _ _ hlt1).trans d3
  clear hV
  by_cases hlt : k < l.length
  ·have hcell : ∃ g o tx ux, A1 = some ⟨g, o, none⟩ ∧ wr.cell? ⟨g, o + k, none⟩ = some (.iface tx ux) ∧ RdT S wr l[k] (.iface tx ux) := by
    obtain ⟨A', c', e', h'⟩ := HR.out
    injection e' with e1 e2 e3
    have hvl := HL.out.len
    rcases h' with ⟨h', _⟩ | ⟨g, o, cur, hA, hSg, hBg, hc⟩
    ·rw [h'] at hvl
     simp at hvl
     omega
    ·have hvk : vs[k]? = some (vs[k]'(by omega)) := List.getElem?_eq_getElem (by omega)
     have hrd := HL.out.at (List.getElem?_eq_getElem hlt) hvk
     obtain ⟨tx, ux, he⟩ := hrd.iface
     rw [he] at hvk hrd
     exact ⟨g, o, tx, ux, by rw [e1, hA], ((HV.out.bl.cell (p := ⟨g, o + k, none⟩) hBg.lt).trans (hBg.cell _)).trans (hc k _ hvk), RdT.move (fun j hj hs => ⟨hs, HV.out.bl.block j hj⟩) _ _ hrd⟩
   obtain ⟨g, o, tx, ux, rfl, hcell, hrd⟩ := hcell
   have hkk : k < ks.length := by have := HKL.out; omega
   have hkey : ∃ gk ok, K1 = some ⟨gk, ok, none⟩ ∧ gk < w.heap.size ∧ w.cell? ⟨gk, ok + k, none⟩ = some (.string ⟨ks[k].toArray⟩) := by
    obtain ⟨A', c', e', h'⟩ := HK.out
    injection e' with e1 e2 e3
    rcases h' with ⟨h', _⟩ | ⟨g, o, cur, hA, hSg, hBg, hc⟩
    ·have := congrArg List.length h'
     simp at this
     rw [this] at hkk
     simp at hkk
    ·refine ⟨g, o, by rw [e1, hA], hBg.lt, ?_⟩
     rw [hBg.cell]
     apply hc
     rw [List.getElem?_map, List.getElem?_eq_getElem hkk]
     rfl
   obtain ⟨gk, ok, rfl, hgk, hkc⟩ := hkey
   have hkcr : wr.cell? ⟨gk, ok + k, none⟩ = some (.string ⟨ks[k].toArray⟩) := ((old HV.out.bl).1 _ _ hgk).trans hkc
   have HRD := Lib.hid (RdT.move (S := S) (S' := S) (w := wr) (w' := wr.drew) (fun j hj hs => ⟨hs, rfl⟩) _ _ hrd)
   have hkb : (k : Int) < (ks.length : Int) := by omega
   have hkb0 : (0 : Int) ≤ (k : Int) := by omega
   clear hrd hkc
   obtain ⟨us, hul, hus, hown⟩ := HV.out.ex
   have hwlt : w.heap.size + 1 < wr.heap.size := (hown.lt _ rfl).2
   have HUS := Lib.hid hus
   have HOW := Lib.hid hown.drew
   have HPS := Lib.hid (pairs_snoc2 ks us k hul hkk)
   have HUL := Lib.hid hul
   clear hus hown hul
   obtain ⟨kt, hkt⟩ : ∃ t, ks[k] = t := ⟨_, rfl⟩
   rw [hkt] at hkcr
   have HKT := Lib.hid hkt
   clear hkt
   go_wp2_with fail
   go_region_held_law (fun w' => w'.cell? ⟨g1, 3, none⟩ = some (.slice (some ⟨gk, ok, none⟩) ks.length dk) ∧ w'.cell? ⟨gk, ok + k, none⟩ = some (.string ⟨kt.toArray⟩)) (first | exact ⟨d3r, hkcr⟩ | exact ⟨((old hb2).1 _ _ (by show g1 < wr.heap.size; omega)).trans d3r, ((old hb2).1 _ _ (by show gk < wr.heap.size; omega)).trans hkcr⟩ | exact ⟨hgr3.cell (a := ⟨g1, 3, none⟩) (Lib.cell?_alloc_some _ d3w) (by intro e; injection e with e; have e' : g1 = w.heap.size + 1 := e; omega), hgr3.cell (a := ⟨gk, ok + k, none⟩) (Lib.cell?_alloc_some _ kcw) (by intro e; injection e with e; have e' : gk = w.heap.size + 1 := e; omega)⟩ | go_keep)
    (first | (refine step_append_fits (by rfl) _ _ _ (by rfl) (w.heap.size + 1) 116 i0 2 Tryz.underlying112 hi0 hz1 (w.heap.size + 1) k l.length (pairs (ks.take k) us) (by rfl) (HO2.out.alloc _) ⟨w2.heap.size, 0, none⟩ 1 1 [.string ⟨kt.toArray⟩, .iface ty uy] (by rfl) (by rfl) (two_new _ _ _ _) (by intro u hu; simp at hu; rcases hu with rfl | rfl <;> rfl) (by omega) ?_; intro w3 hown3 hgr3) | (go_simp; go_at_call 29; ((with_reducible refine (HIH.out _ (List.getElem_mem hlt) _ _ HRD.out).mono ?_); rintro e w2 ⟨u, rfl, htd, hb2⟩; obtain ⟨ty, uy, rfl⟩ := htd.iface; have HO2 := Lib.hid (own_below HOW.out hb2); have HTD := Lib.hid htd; have hs2 := hb2.size; have d3w := ((old hb2).1 g1 3 (by show g1 < wr.heap.size; omega)).trans d3r; have kcw := ((old hb2).1 gk (ok + k) (by show gk < wr.heap.size; omega)).trans hkcr; dsimp only)))
   have hV3 : ValOR ks l w (w.heap.size + 1) (k + 1) w3 := by
    have hmv : ∀ j, j < w2.heap.size → w.heap.size + 1 < j → w3.heap[j]? = w2.heap[j]? := fun j hj hs =>
     (hgr3.block j (by simp; omega) (by intro e; injection e with e; omega)).trans (Below.heap_alloc w2 _ j hj)
    have hs3 : w2.heap.size ≤ w3.heap.size := by have := hgr3.size; simp at this; omega
    have hb2' : Below wr.heap.size wr w2 := ⟨hb2.os, hb2.tape, hb2.output, hb2.size, hb2.block⟩
    refine ⟨?_, us ++ [.iface ty uy], by simp [HUL.out], ?_, ?_⟩
    ·have h1 : Below w.heap.size w w2 := HV.out.bl.trans (hb2'.mono hbs)
     exact (h1.alloc h1.size _).grown hgr3 (by simp; have := hb2'.size; omega) (fun j e => by injection e with e; omega)
    ·rw [List.take_succ_eq_append_getElem hlt]
     refine TdRL.snoc (TdRL.go _ _ _ _ _ _ HUS.out (Nat.le_refl _) (Nat.le_refl _) fun k a b _ => (hmv k (by have := hb2'.size; omega) (by omega)).trans (hb2'.block k b)) ?_
     exact TdR.go _ _ _ _ _ _ HTD.out (Nat.le_refl _) hs3 fun k a b _ => hmv k b (by have h9 : wr.heap.size ≤ k := a; omega)
    ·rw [HPS.out, HKT.out]
     exact hown3
   clear hown3 hgr3 hb2
   go_wp2
   go_roundw
   case rel => exact ⟨k + 1, by omega, by go_num, rfl, hV3⟩
   case measure => simp [intOf]; omega
  ·have hkn : k = l.length := by omega
   subst hkn
   go_wp2
   go_ret
   obtain ⟨us, hul, hus, hown⟩ := HV.out.ex
   rw [List.take_length] at hus
   rw [List.take_of_length_le (by have := HKL.out; omega)] at hown
   refine ⟨_, rfl, ?_, HV.out.bl⟩
   unfold TdR
   exact ⟨w.heap.size + 1, us, by omega, (hown.lt _ rfl).2, rfl, HKL.out, hown, hus⟩
theorem leafR {t : Tr} {w w' : World} {e : Ending} (h : ValP t w e w') (hl : ∀ v, TdT (fun k => w.heap.size ≤ k) w' t v → TdR w' t w.heap.size w'.heap.size v) : ValOw t w e w' := by
 obtain ⟨u, he, h1, h2⟩ := h
 exact ⟨u, he, hl u h1, h2⟩
theorem valueR_any (S : Nat → Prop) : ∀ t : Tr, t.Ok → t.nodes ≤ 65536 → ∀ u W, RdT S W t u → Calls Tryz.prog 29 #[.agg #[u]] W (ValOw t W) := by
 intro t
 induction t using Tr.ind with
 | h0 =>
  intro _ _ u W h
  unfold RdT at h
  subst h
  refine (value_null W).mono fun e w' h => leafR h fun v h1 => ?_
  have hb := h.choose_spec.2.2.size
  unfold TdT at h1
  unfold TdR
  exact ⟨hb, h1⟩
 | h1 b =>
  intro _ _ u W h
  unfold RdT at h
  subst h
  refine (value_flag b W).mono fun e w' h => leafR h fun v h1 => ?_
  have hb := h.choose_spec.2.2.size
  unfold TdT at h1
  unfold TdR
  exact ⟨hb, h1⟩
 | h2 x =>
  intro _ _ u W h
  unfold RdT at h
  subst h
  refine (value_num x W).mono fun e w' h => leafR h fun v h1 => ?_
  have hb := h.choose_spec.2.2.size
  unfold TdT at h1
  unfold TdR
  exact ⟨hb, h1⟩
 | h3 t =>
  intro _ _ u W h
  unfold RdT at h
  subst h
  refine (value_text t W).mono fun e w' h => leafR h fun v h1 => ?_
  have hb := h.choose_spec.2.2.size
  unfold TdT at h1
  unfold TdR
  exact ⟨hb, h1⟩
 | h4 l ih =>
  intro hok hn u W h
  unfold Tr.Ok at hok
  unfold Tr.nodes at hn
  exact valueR_list S l u W h (by have := nodes_len l; omega) fun x hx u' W' h' => ih x hx ((okl_iff l).1 hok x hx).1 (by have := nodes_mem l x hx; omega) u' W' h'
 | h5 ks l ih =>
  intro hok hn u W h
  unfold Tr.Ok at hok
  unfold Tr.nodes at hn
  exact valueR_obj S ks l u W h hok.1 (by have := nodes_len l; omega) fun x hx u' W' h' => ih x hx ((okl_iff l).1 hok.2.2.2 x hx).1 (by have := nodes_mem l x hx; omega) u' W' h'

def TdO (X : Nat → Prop) (w : World) (t : Tr) (v : Value) : Prop := ∃ lo hi, hi ≤ w.heap.size ∧ (∀ k, lo ≤ k → k < hi → X k) ∧ TdR w t lo hi v
theorem TdR.leaf {w w' : World} {t : Tr} {lo m : Nat} {v : Value} (h : TdR w t lo lo v) : TdR w' t m m v := by
 cases t <;> unfold TdR at h ⊢
 ·exact ⟨Nat.le_refl _, h.2⟩
 ·exact ⟨Nat.le_refl _, h.2⟩
 ·exact ⟨Nat.le_refl _, h.2⟩
 ·exact ⟨Nat.le_refl _, h.2⟩
 ·obtain ⟨g, vs, h1, h2, _⟩ := h
  omega
 ·obtain ⟨g, vs, h1, h2, _⟩ := h
  omega
theorem TdO.move {X X' : Nat → Prop} {w w' : World} (hm : ∀ k, k < w.heap.size → X k → X' k ∧ w'.heap[k]? = w.heap[k]?) (t : Tr) (v : Value) (h : TdO X w t v) : TdO X' w' t v := by
 obtain ⟨lo, hi, hh, hx, h⟩ := h
 have hle := TdR.le _ _ _ _ h
 by_cases he : lo = hi
 ·subst he
  exact ⟨0, 0, Nat.zero_le _, fun k _ hk => absurd hk (Nat.not_lt_zero _), h.leaf⟩
 ·refine ⟨lo, hi, ?_, fun k a b => (hm k (by omega) (hx k a b)).1, TdR.go _ _ _ _ _ _ h (Nat.le_refl _) (Nat.le_refl _) fun k a b c => (hm k c (hx k a b)).2⟩
  have h1 : hi - 1 < w.heap.size := by omega
  have h2 := (hm (hi - 1) h1 (hx _ (by omega) (by omega))).2
  rw [Array.getElem?_eq_getElem h1] at h2
  have := (Array.getElem?_eq_some_iff.1 h2).1
  omega
theorem TdO.toT {X : Nat → Prop} {w : World} {t : Tr} {v : Value} (h : TdO X w t v) : TdT (fun _ => True) w t v := by
 obtain ⟨lo, hi, _, hx, h⟩ := h
 exact TdT.move (fun _ _ _ => ⟨trivial, rfl⟩) _ _ (TdR.toT _ _ _ _ h)
theorem TdO.iface {X : Nat → Prop} {w : World} {t : Tr} {v : Value} (h : TdO X w t v) : ∃ tx ux, v = .iface tx ux := TdT.iface h.toT
theorem valueO_any (S : Nat → Prop) (t : Tr) (h1 : t.Ok) (h2 : t.nodes ≤ 65536) (u : Value) (W : World) (h : RdT S W t u) : Calls Tryz.prog 29 #[.agg #[u]] W fun e w' => ∃ v, e = .returned v ∧ TdO (fun k => W.heap.size ≤ k) w' t v ∧ Below W.heap.size W w' :=
 (valueR_any S t h1 h2 u W h).mono fun e w' ⟨v, he, hr, hb⟩ => ⟨v, he, ⟨W.heap.size, w'.heap.size, Nat.le_refl _, fun _ a _ => a, hr⟩, hb⟩
end Nd
end Go.Proofs.YtlailcmhpnnidaaGreatDoor
