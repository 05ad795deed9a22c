/-
  How values lie in memory: an item that reads as a tree, a row of items. Walks of package node: sized of each sort. Walks of package node: how a method is found that a list or an object has from what it holds. Walks of package node: slices.Clone of items; take. Walks of package node: group. Walks of package node: put, of whatever item. A row of trees in memory, and what becomes of it. Walks of package node: the steps that put one value. Walks of package node: summed. Walks of package node: a list's items as a tree; group over a row of trees. Walks of package math: IsNaN, Abs, IsInf.
-/
import Derived.Test.YtbajkglacfheiaaGreatDoorProg
import Derived.Test.YtbajkglacfheiaaGreatDoorPA1
import Derived.StillTailTactics
import Derived.Deep.AppendLies
import Derived.Lib.SliceRun
import Derived.RegionTactic
import Derived.IntWalk
import Derived.Deep.RegionLaw
import Derived.Deep.DrawnRows
import Derived.Laws.BitsAllLaws
set_option linter.unusedVariables false
set_option linter.unusedSimpArgs false
set_option maxRecDepth 100000
set_option maxHeartbeats 16000000
namespace Go.Proofs.YtbajkglacfheiaaGreatDoor
open Go.RowKit Mem
namespace Nd

def txV (t : Tx) : Value := .string ⟨t.toArray⟩
def Row (S : Nat → Prop) (w : World) (e : TypeId) (v : Value) (xs : List Value) : Prop :=
 ∃ A c, v = .slice A xs.length c ∧ ((xs = [] ∧ (A = none ∨ ∃ g o, A = some ⟨g, o, none⟩)) ∨ ∃ g o cur, A = some ⟨g, o, none⟩ ∧ S g ∧ Blk w g e cur ∧ ∀ j x, xs[j]? = some x → cur[o + j]? = some x)
mutual
def RdT (S : Nat → Prop) (w : World) : Tr → Value → Prop
 | .null, v => v = .iface 195 (.agg #[])
 | .flag b, v => v = .iface 196 (.bool b)
 | .num x, v => v = .iface 140 (.float .f64 x)
 | .text t, v => v = .iface 199 (.string ⟨t.toArray⟩)
 | .list l, v => ∃ g A c vs, v = .iface 202 (.pointer (some ⟨g, 0, none⟩)) ∧ S g ∧ Blk w g 207 #[.int .i64 ((Tr.list l).nodes : Nat), .int .i64 ((Tr.list l).bytes : Nat), .int .i64 ((Tr.list l).depth : Nat), .slice A l.length c] ∧ Row S w 56 (.slice A l.length c) vs ∧ RdL S w l vs
 | .obj ks l, v => ∃ g B d A c vs, v = .iface 271 (.pointer (some ⟨g, 0, none⟩)) ∧ S g ∧ Blk w g 274 #[.int .i64 ((Tr.obj ks l).nodes : Nat), .int .i64 ((Tr.obj ks l).bytes : Nat), .int .i64 ((Tr.obj ks l).depth : Nat), .slice B ks.length d, .slice A l.length c] ∧
   Row S w 9 (.slice B ks.length d) (ks.map txV) ∧ Row S w 56 (.slice A l.length c) vs ∧ RdL S w l vs
def RdL (S : Nat → Prop) (w : World) : List Tr → List Value → Prop
 | [], vs => vs = []
 | t :: l, vs => ∃ v vs', vs = v :: vs' ∧ RdT S w t v ∧ RdL S w l vs'
end

section
variable {S S' : Nat → Prop} {w w' : World} {e : TypeId} {v : Value} {xs vs : List Value}
theorem Row.move (h : Row S w e v xs) (hm : ∀ k, k < w.heap.size → S k → S' k ∧ w'.heap[k]? = w.heap[k]?) : Row S' w' e v xs := by
 obtain ⟨A, c, hv, h⟩ := h
 refine ⟨A, c, hv, ?_⟩
 rcases h with h | ⟨g, o, cur, hA, hS, hB, hc⟩
 ·exact .inl h
 ·have := hm g hB.lt hS
  exact .inr ⟨g, o, cur, hA, this.1, this.2.trans hB, hc⟩
theorem rdl_iff (S : Nat → Prop) (w : World) : ∀ (l : List Tr) (vs : List Value), RdL S w l vs ↔ vs.length = l.length ∧ ∀ (j : Nat) t v, l[j]? = some t → vs[j]? = some v → RdT S w t v
 | [], vs => by
  unfold RdL
  constructor
  ·rintro rfl
   exact ⟨rfl, fun j t v h => by simp at h⟩
  ·rintro ⟨h, _⟩
   exact List.length_eq_zero_iff.1 h
 | t :: l, vs => by
  unfold RdL
  constructor
  ·rintro ⟨v, vs', rfl, h1, h2⟩
   obtain ⟨h3, h4⟩ := (rdl_iff S w l vs').1 h2
   refine ⟨by simp [h3], fun j t' v' hj hv => ?_⟩
   cases j with
   | zero =>
    simp at hj hv
    subst hj; subst hv
    exact h1
   | succ j => exact h4 j t' v' (by simpa using hj) (by simpa using hv)
  ·rintro ⟨h1, h2⟩
   cases vs with
   | nil => simp at h1
   | cons v vs => exact ⟨v, vs, rfl, h2 0 t v rfl rfl, (rdl_iff S w l vs).2 ⟨by simpa using h1, fun j t' v' hj hv => h2 (j + 1) t' v' (by simpa using hj) (by simpa using hv)⟩⟩
theorem RdL.len {l : List Tr} (h : RdL S w l vs) : vs.length = l.length := ((rdl_iff S w l vs).1 h).1
theorem RdL.at {l : List Tr} (h : RdL S w l vs) {j : Nat} {t : Tr} {v : Value} (h1 : l[j]? = some t) (h2 : vs[j]? = some v) : RdT S w t v := ((rdl_iff S w l vs).1 h).2 j t v h1 h2
theorem RdT.move (hm : ∀ k, k < w.heap.size → S k → S' k ∧ w'.heap[k]? = w.heap[k]?) : ∀ t v, RdT S w t v → RdT S' w' t v := by
 intro t
 induction t using Tr.ind with
 | h0 => exact fun v h => by unfold RdT at *; exact h
 | h1 b => exact fun v h => by unfold RdT at *; exact h
 | h2 b => exact fun v h => by unfold RdT at *; exact h
 | h3 b => exact fun v h => by unfold RdT at *; exact h
 | h4 l ih =>
  intro v h
  unfold RdT at h ⊢
  obtain ⟨g, A, c, vs, hv, hS, hB, hR, hL⟩ := h
  have hg := hm g hB.lt hS
  refine ⟨g, A, c, vs, hv, hg.1, hg.2.trans hB, hR.move hm, (rdl_iff _ _ _ _).2 ⟨hL.len, fun j t u h1 h2 => ih t (List.mem_of_getElem? h1) u (hL.at h1 h2)⟩⟩
 | h5 ks l ih =>
  intro v h
  unfold RdT at h ⊢
  obtain ⟨g, B, d, A, c, vs, hv, hS, hB, hK, hR, hL⟩ := h
  have hg := hm g hB.lt hS
  refine ⟨g, B, d, A, c, vs, hv, hg.1, hg.2.trans hB, hK.move hm, hR.move hm, (rdl_iff _ _ _ _).2 ⟨hL.len, fun j t u h1 h2 => ih t (List.mem_of_getElem? h1) u (hL.at h1 h2)⟩⟩
theorem RdL.move {l : List Tr} (h : RdL S w l vs) (hm : ∀ k, k < w.heap.size → S k → S' k ∧ w'.heap[k]? = w.heap[k]?) : RdL S' w' l vs :=
 (rdl_iff _ _ _ _).2 ⟨h.len, fun _ _ _ h1 h2 => RdT.move hm _ _ (h.at h1 h2)⟩
theorem RdL.snoc {l : List Tr} {t : Tr} (h : RdL S w l vs) (h1 : RdT S w t v) : RdL S w (l ++ [t]) (vs ++ [v]) := by
 have hl := h.len
 refine (rdl_iff _ _ _ _).2 ⟨by simp [hl], fun j t' u' hj hu => ?_⟩
 rcases Nat.lt_or_ge j l.length with hlt | hge
 ·rw [List.getElem?_append_left hlt] at hj
  rw [List.getElem?_append_left (by omega)] at hu
  exact h.at hj hu
 ·rw [List.getElem?_append_right hge] at hj
  rw [List.getElem?_append_right (by omega)] at hu
  have e : j - vs.length = j - l.length := by omega
  rw [e] at hu
  cases hk : j - l.length with
  | zero =>
   rw [hk] at hj hu
   simp at hj hu
   subst hj; subst hu
   exact h1
  | succ k =>
   rw [hk] at hj
   simp at hj
theorem RdL.drop {l : List Tr} (h : RdL S w l vs) (k : Nat) : RdL S w (l.drop k) (vs.drop k) := by
 have hl := h.len
 exact (rdl_iff _ _ _ _).2 ⟨by simp [hl], fun j t u hj hu => h.at (j := k + j) (by simpa using hj) (by simpa using hu)⟩
theorem RdL.take {l : List Tr} (h : RdL S w l vs) (k : Nat) : RdL S w (l.take k) (vs.take k) := by
 have hl := h.len
 refine (rdl_iff _ _ _ _).2 ⟨by simp [hl], fun j t u hj hu => ?_⟩
 rw [List.getElem?_take] at hj hu
 split at hj
 ·rw [if_pos (by assumption)] at hu
  exact h.at hj hu
 ·cases hj
theorem RdT.one {t : Tr} (h : RdT S w t v) : v.oneCell' = true := by
 cases t <;> unfold RdT at h
 ·rw [h]; rfl
 ·rw [h]; rfl
 ·rw [h]; rfl
 ·rw [h]; rfl
 ·obtain ⟨g, A, c, vs, rfl, _⟩ := h
  rfl
 ·obtain ⟨g, B, d, A, c, vs, rfl, _⟩ := h
  rfl
theorem RdL.ones {l : List Tr} (h : RdL S w l vs) : ∀ u ∈ vs, u.oneCell' = true := by
 intro u hu
 obtain ⟨j, hj, rfl⟩ := List.getElem_of_mem hu
 have hl := h.len
 exact (h.at (t := l[j]'(by omega)) (List.getElem?_eq_getElem (by omega)) (List.getElem?_eq_getElem hj)).one
end
end Nd
end Go.Proofs.YtbajkglacfheiaaGreatDoor
namespace Go.Proofs.YtbajkglacfheiaaGreatDoor
open Go.RowKit Mem
namespace Nd

theorem sized_flag (b : Bool) (w : World) : Calls Tryz.prog 283 #[.bool b] w fun e w' => e = .returned (.agg #[.int .i64 1, .int .i64 0, .int .i64 1]) ∧ Below w.heap.size w w' := by
 go_enter Tryz.func283, Tryz.ntmps283
 go_wp2
 refine bodyPost_ret (v := .agg #[.int .i64 1, .int .i64 0, .int .i64 1]) ?_ rfl ⟨rfl, ((Below.refl _ _).alloc (Nat.le_refl _) _)⟩
 simp [results, Tryz.results283, go_sem]
theorem sized_num (x : Nat) (w : World) : Calls Tryz.prog 271 #[.float .f64 x] w fun e w' => e = .returned (.agg #[.int .i64 1, .int .i64 0, .int .i64 1]) ∧ Below w.heap.size w w' := by
 go_enter Tryz.func271, Tryz.ntmps271
 go_wp2
 refine bodyPost_ret (v := .agg #[.int .i64 1, .int .i64 0, .int .i64 1]) ?_ rfl ⟨rfl, ((Below.refl _ _).alloc (Nat.le_refl _) _)⟩
 simp [results, Tryz.results271, go_sem]
theorem sized_size (a b c : Int) (w : World) : Calls Tryz.prog 287 #[.agg #[.int .i64 a, .int .i64 b, .int .i64 c]] w fun e w' => e = .returned (.agg #[.int .i64 a, .int .i64 b, .int .i64 c]) ∧ Below w.heap.size w w' := by
 go_enter Tryz.func287, Tryz.ntmps287
 go_wp2
 refine bodyPost_ret (v := .agg #[.int .i64 a, .int .i64 b, .int .i64 c]) ?_ rfl ⟨rfl, ((Below.refl _ _).alloc (Nat.le_refl _) _).alloc (by simp) _⟩
 simp [results, Tryz.results287, go_sem]
end Nd
end Go.Proofs.YtbajkglacfheiaaGreatDoor
namespace Go.Proofs.YtbajkglacfheiaaGreatDoor
open Go.RowKit Mem
namespace Nd

theorem run_method_emb {P : Program} (fuel : Nat) (T xt : TypeId) (nm : String) (st : FieldStep) (f : FuncId) (v r : Value) (a : Addr) (w : World)
  (h : ((P.info? T).bind fun i => (i.methods.find? (·.name == nm)).map fun m => (m.path.toList, m.func)) = some ([st], some (f, false)))
  (hfol : (follow [st] T (.val v)).run P w = .ok (xt, .var a) w) (fs : Array Field) (hund : P.underlying xt = some (.struct fs)) (hl : (loadVar xt a).run P w = .ok r w) :
  (method (fuel + 1) T v nm).run P w = .ok (f, r) w := by
 cases hi : P.info? T with
 | none => rw [hi] at h; cases h
 | some i =>
  rw [hi] at h
  simp only [Option.bind_some] at h
  cases hm : i.methods.find? (·.name == nm) with
  | none => rw [hm] at h; cases h
  | some m =>
   rw [hm] at h
   simp only [Option.map_some, Option.some.injEq, Prod.mk.injEq] at h
   have hp := h.1
   unfold method
   simp [Sem.run_bind, typeInfo, hi, hm, hp, h.2, hfol, receiverAt, run_underlying hund, Place.get, hl]
noncomputable def itemM (i : Nat) : String := (((Tryz.prog.methodsAt 56)[i]?).map (·.1)).getD default
theorem sz_info : ((Tryz.prog.underlying 204).map fun d => match d with | .struct _ => true | _ => false) = some true := by kernel_rfl
theorem sz_cells : (Tryz.prog.info? 204).map (·.size) = some 3 := by kernel_rfl
theorem load_sz (w : World) (g : Nat) (x y z : Value) (h0 : w.cell? ⟨g, 0, none⟩ = some x) (h1 : w.cell? ⟨g, 1, none⟩ = some y) (h2 : w.cell? ⟨g, 2, none⟩ = some z) :
  (loadVar 204 ⟨g, 0, none⟩).run Tryz.prog w = .ok (.agg #[x, y, z]) w := by
 have hl : (loadCells ⟨g, 0, none⟩ [x, y, z].length).run Tryz.prog w = .ok [x, y, z].toArray w :=
  run_loadCells_list (P := Tryz.prog) w ⟨g, 0, none⟩ [x, y, z] (fun j v hv => by
   have hadd : (⟨g, 0, none⟩ : Addr).add j = ⟨g, j, none⟩ := by unfold Addr.add; split <;> simp_all
   rw [hadd]
   match j, hv with
   | 0, hv => exact h0.trans hv
   | 1, hv => exact h1.trans hv
   | 2, hv => exact h2.trans hv
   | j + 3, hv => simp at hv)
 have hs := sz_info
 have hc := sz_cells
 cases hq : Tryz.prog.info? 204 with
 | none => rw [hq] at hc; cases hc
 | some i =>
  rw [hq] at hc
  have hsz : i.size = 3 := by simpa using hc
  cases hu : Tryz.prog.underlying 204 with
  | none => rw [hu] at hs; cases hs
  | some d =>
   rw [hu] at hs
   have hagg : (isAgg 204).run Tryz.prog w = .ok true w := by
    unfold isAgg
    rw [Sem.run_bind, run_underlying hu w]
    cases d <;> simp_all
   have hl' : (loadCells ⟨g, 0, none⟩ 3).run Tryz.prog w = .ok #[x, y, z] w := hl
   simp [loadVar, Sem.run_bind, hagg, sizeOf, typeInfo, hq, hsz, hl']
theorem und_sz : ∃ fs, Tryz.prog.underlying 204 = some (.struct fs) := by
 have hs := sz_info
 cases hu : Tryz.prog.underlying 204 with
 | none => rw [hu] at hs; cases hs
 | some d =>
  rw [hu] at hs
  cases d <;> simp at hs
  exact ⟨_, rfl⟩
theorem sel_list : ((Tryz.prog.info? 202).bind fun i => (i.methods.find? (·.name == itemM 0)).map fun m => (m.path.toList, m.func)) = some ([⟨207, 0, true⟩], some (287, false)) := by kernel_rfl
theorem fol_list (g : Nat) (w : World) : (follow [⟨207, 0, true⟩] 202 (.val (.pointer (some ⟨g, 0, none⟩)))).run Tryz.prog w = .ok (204, .var ⟨g, 0, none⟩) w := by kernel_rfl
theorem method_list (fuel : Nat) (g : Nat) (w : World) (x y z : Value) (nm : String) (hnm : nm = itemM 0) (h0 : w.cell? ⟨g, 0, none⟩ = some x) (h1 : w.cell? ⟨g, 1, none⟩ = some y) (h2 : w.cell? ⟨g, 2, none⟩ = some z) :
  (method (fuel + 1) 202 (.pointer (some ⟨g, 0, none⟩)) nm).run Tryz.prog w = .ok (287, .agg #[x, y, z]) w := by
 obtain ⟨fs, hf⟩ := und_sz
 rw [hnm]
 exact run_method_emb (P := Tryz.prog) fuel 202 204 (itemM 0) ⟨207, 0, true⟩ 287 (.pointer (some ⟨g, 0, none⟩)) (.agg #[x, y, z]) ⟨g, 0, none⟩ w sel_list (fol_list g w) fs hf (load_sz w g x y z h0 h1 h2)
theorem sel_obj : ((Tryz.prog.info? 271).bind fun i => (i.methods.find? (·.name == itemM 0)).map fun m => (m.path.toList, m.func)) = some ([⟨274, 0, true⟩], some (287, false)) := by kernel_rfl
theorem fol_obj (g : Nat) (w : World) : (follow [⟨274, 0, true⟩] 271 (.val (.pointer (some ⟨g, 0, none⟩)))).run Tryz.prog w = .ok (204, .var ⟨g, 0, none⟩) w := by kernel_rfl
theorem method_obj (fuel : Nat) (g : Nat) (w : World) (x y z : Value) (nm : String) (hnm : nm = itemM 0) (h0 : w.cell? ⟨g, 0, none⟩ = some x) (h1 : w.cell? ⟨g, 1, none⟩ = some y) (h2 : w.cell? ⟨g, 2, none⟩ = some z) :
  (method (fuel + 1) 271 (.pointer (some ⟨g, 0, none⟩)) nm).run Tryz.prog w = .ok (287, .agg #[x, y, z]) w := by
 obtain ⟨fs, hf⟩ := und_sz
 rw [hnm]
 exact run_method_emb (P := Tryz.prog) fuel 271 204 (itemM 0) ⟨274, 0, true⟩ 287 (.pointer (some ⟨g, 0, none⟩)) (.agg #[x, y, z]) ⟨g, 0, none⟩ w sel_obj (fol_obj g w) fs hf (load_sz w g x y z h0 h1 h2)
end Nd
end Go.Proofs.YtbajkglacfheiaaGreatDoor
namespace Go.Proofs.YtbajkglacfheiaaGreatDoor
open Go.RowKit Mem
namespace Nd

theorem clone_some (b off n c : Nat) (news : List Value) (w : World) (hl : news.length = n) (hn : n ≤ 1099511627776) (hc : ∀ j u, news[j]? = some u → w.cell? ⟨b, off + j, none⟩ = some u) (h1 : ∀ u ∈ news, u.oneCell' = true) :
  Calls Tryz.prog 118 #[.slice (some ⟨b, off, none⟩) n c] w fun e w' => ∃ v', e = .returned v' ∧ w'.ownsRow w.heap.size 56 1 v' n news ∧ Below w.heap.size w w' := by
 have q22 : ∀ (w : World) (a : Option Addr) (n c n' c' : Nat), (binOp .eql 114 (.slice a n c) (.slice none n' c')).run Tryz.prog w = .ok (.bool a.isNone) w := fun w a n c n' c' => Lib.run_eql_slice_nil w _ _ a n c n' c' Tryz.underlying114
 obtain ⟨i0, hi0, hz0, hz1, hz2⟩ := info_parts info_item
 have HC := Lib.hid hc
 clear hc
 go_enter Tryz.func118, Tryz.ntmps118
 go_wp2_with (at_builtin; refine wpList_append_own _ rfl _ _ 114 rfl w.heap.size 56 i0 _ 1 16 Tryz.underlying114 hi0 hz0 hz1 hz2 rfl (by omega) _ _ _ rfl (World.ownsRow_made w #[] 0 (Nat.le_refl _) (Nat.zero_le _) (by simp)) ⟨b, off, none⟩ n c news rfl ?qc1 ?qc2 ?qc3 ?qc4 ?qc5 ?qc6 ?_)
 case qc1 => rw [hl]; simp
 case qc2 =>
  intro j u hj
  rw [Addr.add_lit]
  exact Lib.cell?_alloc_some _ (HC.out j u hj)
 case qc3 => exact h1
 case qc4 => unfold maxLen; omega
 case qc5 => omega
 case qc6 => simp
 intro v' w1 hown hgrow hnil
 go_wp2
 go_ret
 refine ⟨v', rfl, by simpa using hown, ?_⟩
 exact ((Below.refl _ w).alloc (Nat.le_refl _) _).grown hgrow (by simp) (by intro k hk; simp [Value.ownBlock] at hk; omega)
theorem clone_nil (n c : Nat) (w : World) :
  Calls Tryz.prog 118 #[.slice none n c] w fun e w' => e = .returned (.slice none 0 0) ∧ w = w' := by
 have q22 : ∀ (w : World) (a : Option Addr) (n c n' c' : Nat), (binOp .eql 114 (.slice a n c) (.slice none n' c')).run Tryz.prog w = .ok (.bool a.isNone) w := fun w a n c n' c' => Lib.run_eql_slice_nil w _ _ a n c n' c' Tryz.underlying114
 go_enter Tryz.func118, Tryz.ntmps118
 go_wp2
 go_ret
 exact ⟨rfl, rfl⟩
theorem row_of_own {w : World} {base n : Nat} {e : TypeId} {v : Value} {xs : List Value} (h : w.ownsRow base e 1 v n xs) : Row (fun k => v.ownBlock = some k) w e v xs := by
 have hl := h.1
 simp at hl
 rcases h.2 with ⟨rfl, h0⟩ | ⟨g, cap, cur, rfl, _, hg, hn, hc, hs, ht⟩
 ·subst h0
  have : xs = [] := List.length_eq_zero_iff.1 hl
  subst this
  exact ⟨none, 0, rfl, .inl ⟨rfl, .inl rfl⟩⟩
 ·refine ⟨_, cap, by rw [hl], .inr ⟨g, 0, cur, rfl, rfl, hg, fun j x hx => ?_⟩⟩
  rw [← ht, List.getElem?_take] at hx
  split at hx
  ·simpa using hx
  ·cases hx
theorem take_few (p : Nat) (ty : TypeId) (A : Option Addr) (n c : Nat) (k : Int) (w : World) (hB : Blk w p ty #[.slice A n c]) (hk : (n : Int) < k) :
  Calls Tryz.prog 77 #[.pointer (some ⟨p, 0, none⟩), .int .i64 k] w fun e w' => e = .panicked [{ v := .iface 113 (.int .i64 102), recovered := false }] ∧ w = w' := by
 have a1 : w.cell? ⟨p, 0, none⟩ = some (.slice A n c) := hB.cell 0
 clear hB
 go_enter Tryz.func77, Tryz.ntmps77
 go_wp2
 exact ⟨rfl, rfl, rfl⟩
theorem clone_cut (g k cap : Nat) {n : Nat} {cur : Array Value} {w : World} {xs : List Value} (hg : w.heap[g]? = some (.cells cur 56 (0, 0))) (ht : cur.toList.take (n * 1) = xs) (hl : xs.length = n) (hk : k ≤ n) (hnc : n ≤ cap) (hn : n ≤ 1048576) (h1 : ∀ u ∈ xs, u.oneCell' = true) :
  Hid (∀ c, Calls Tryz.prog 118 #[.slice (some ⟨g, n - k, none⟩) (n - (n - k)) c] w fun e w' => ∃ v', e = .returned v' ∧ w'.ownsRow w.heap.size 56 1 v' k (xs.drop (n - k)) ∧ Below w.heap.size w w') ∧
  Hid (cap = n - k → Calls Tryz.prog 118 #[.slice (some ⟨g, 0, none⟩) (n - (n - k)) 0] w fun e w' => ∃ v', e = .returned v' ∧ w'.ownsRow w.heap.size 56 1 v' k (xs.drop (n - k)) ∧ Below w.heap.size w w') := by
 have hkk : n - (n - k) = k := by omega
 rw [hkk]
 have hlen : (xs.drop (n - k)).length = k := by rw [List.length_drop, hl]; exact hkk
 constructor
 ·refine Lib.hid fun c => ?_
  exact clone_some g (n - k) k c (xs.drop (n - k)) w hlen (by omega) (fun j u hj => by
    rw [cell_of_row w g _ cur _ _ hg]
    rw [List.getElem?_drop, ← ht, List.getElem?_take] at hj
    split at hj
    ·simpa using hj
    ·cases hj) (fun u hu => h1 u (List.mem_of_mem_drop hu))
 ·refine Lib.hid fun hcap => ?_
  have hd : xs.drop (n - k) = [] := List.drop_eq_nil_of_le (by omega)
  rw [hd] at hlen ⊢
  exact clone_some g 0 k 0 [] w hlen (by omega) (fun j u hj => by simp at hj) (by simp)
theorem take_ok (p : Nat) (ty : TypeId) (B : Nat) (v : Value) (n k : Nat) (xs : List Value) (w : World) (hB : Blk w p ty #[v]) (hown : w.ownsRow B 56 1 v n xs) (hk : k ≤ n) (hn : n ≤ 1048576) (h1 : ∀ u ∈ xs, u.oneCell' = true) :
  Calls Tryz.prog 77 #[.pointer (some ⟨p, 0, none⟩), .int .i64 k] w fun e w' => ∃ v', e = .returned v' ∧ w'.ownsRow w.heap.size 56 1 v' k (xs.drop (n - k)) ∧ Below w.heap.size w w' := by
 have hl : xs.length = n := by have := hown.1; simpa using this
 rcases hown.2 with ⟨rfl, h0⟩ | ⟨g, cap, cur, rfl, _, hg, hnc, hc, hs, ht⟩
 ·subst h0
  have hk0 : k = 0 := by omega
  subst hk0
  have a1 : w.cell? ⟨p, 0, none⟩ = some (.slice none 0 0) := hB.cell 0
  have hx : xs = [] := List.length_eq_zero_iff.1 hl
  subst hx
  clear hB hown
  go_enter Tryz.func77, Tryz.ntmps77
  go_wp2_with fail
  refine (clone_nil _ _ _).mono ?_
  rintro e w' ⟨rfl, rfl⟩
  go_wp2
  go_ret
  exact ⟨_, rfl, World.ownsRow_nil _ _ _ _, Below.refl _ _⟩
 ·have a1 : w.cell? ⟨p, 0, none⟩ = some (.slice (some ⟨g, 0, none⟩) n cap) := hB.cell 0
  unfold maxLen at hc
  clear hB hown
  have hnk : ((n : Int) - (k : Int)) = ((n - k : Nat) : Int) := by omega
  obtain ⟨HC1, HC2⟩ := clone_cut g k cap hg ht hl hk hnc hn h1
  clear hg ht hl hs h1
  go_enter Tryz.func77, Tryz.ntmps77
  go_wp2_with fail
  ·((with_reducible refine (HC2.out (by first | rfl | assumption)).mono ?_); rintro e w' ⟨v', rfl, ho, hb⟩)
   go_wp2
   go_ret
   exact ⟨v', rfl, ho, hb⟩
  ·((with_reducible refine (HC1.out _).mono ?_); rintro e w' ⟨v', rfl, ho, hb⟩)
   go_wp2
   go_ret
   exact ⟨v', rfl, ho, hb⟩
end Nd
end Go.Proofs.YtbajkglacfheiaaGreatDoor
namespace Go.Proofs.YtbajkglacfheiaaGreatDoor
open Go.RowKit Mem
namespace Nd

def KeepV (p : Nat) (v : Value) (w w' : World) : Prop := ∀ k, k < w.heap.size → k ≠ p → some k ≠ v.ownBlock → w'.heap[k]? = w.heap[k]?
theorem fit_within {t : Tr} : withinB (t.nodes : Int) (t.bytes : Int) (t.depth : Int) = t.fit := by
 unfold withinB Tr.fit
 congr 1
 ·congr 1
  ·exact decide_eq_decide.2 (by omega)
  ·exact decide_eq_decide.2 (by omega)
 ·exact decide_eq_decide.2 (by omega)
theorem own_take {w : World} {base n : Nat} {e : TypeId} {g cap : Nat} {xs : List Value} (h : w.ownsRow base e 1 (.slice (some ⟨g, 0, none⟩) n cap) n xs) {k : Nat} (hk : k ≤ n) : w.ownsRow base e 1 (.slice (some ⟨g, 0, none⟩) k cap) k (xs.take k) := by
 have hl := h.1
 rcases h.2 with ⟨h, _⟩ | ⟨g', cap', cur, h, hb, hg, hn, hc, hs, ht⟩
 ·cases h
 ·injection h with h1 _ h2
  injection h1 with h1
  injection h1 with h1
  subst h1; subst h2
  refine ⟨by simp; omega, .inr ⟨g, cap, cur, rfl, hb, hg, by omega, hc, hs, ?_⟩⟩
  rw [← ht, List.take_take]
  congr 1
  omega
def PutV (p : Nat) (ty : TypeId) (B : Nat) (v : Value) (m : Nat) (ys : List Value) (w w' : World) : Prop :=
 ∃ v', Blk w' p ty #[v'] ∧ w'.ownsRow B 56 1 v' m ys ∧ Below p w w' ∧ KeepV p v w w' ∧ (v'.ownBlock = v.ownBlock ∨ ∀ g, v'.ownBlock = some g → w.heap.size ≤ g)
theorem put_post (p : Nat) (ty : TypeId) (B m : Nat) (v x : Value) (t : TypeId) (ys : List Value) {w w2 w9 : World} {g9 q9 : Nat} (hb : Below w.heap.size w w2) (hpB : p < B) (hBw : B ≤ w.heap.size) (hB2 : Blk w2 p ty #[v]) (hvb : ∀ k, v.ownBlock = some k → B ≤ k ∧ k < w.heap.size)
  (hown9 : w9.ownsRow B 56 1 (.slice (some ⟨g9, 0, none⟩) (m + 1) q9) (m + 1) ys) (hgr9 : (w2.alloc (.cells #[x] t)).drew.grownBy w9 v.ownBlock) (hat9 : v.ownBlock = some g9 ∨ g9 = w2.heap.size + 1) :
  PutV p ty B v (m + 1) ys w (w9.setCell ⟨p, 0, none⟩ (.slice (some ⟨g9, 0, none⟩) (m + 1) q9)) := by
 have hs := hb.size
 have hB9 := ((hB2.alloc (.cells #[x] t)).drew).only hgr9 (by intro e; have := (hvb p e.symm).1; omega)
 have hne : g9 ≠ p := by
  rcases hat9 with e | e
  ·have := (hvb g9 e).1; omega
  ·omega
 have hsz : w.heap.size ≤ (w2.alloc (.cells #[x] t)).drew.heap.size := by simp [World.drew]; omega
 refine ⟨_, hB9.put 0 _, hown9.kept (grown_put (grown_refl w9 (some p)) 0 _) (.inr (by intro e; injection e with e; exact hne e)), ?_, ?_, ?_⟩
 ·have h1 : Below p w w2 := hb.mono (by omega)
  have h2 : Below p w (w2.alloc (.cells #[x] t)).drew := (h1.alloc (by omega) _).drew
  exact (h2.grown hgr9 (by omega) (fun q hq => by have := (hvb q hq).1; omega)).setCell (Nat.le_refl _) _
 ·intro k hk h1 h2
  have e1 : (w9.setCell ⟨p, 0, none⟩ (.slice (some ⟨g9, 0, none⟩) (m + 1) q9)).heap[k]? = w9.heap[k]? := heap_setCell_other w9 _ k _ (fun e => h1 (by rw [e]))
  have e2 := hgr9.block k (by omega) h2
  have e3 : (w2.alloc (.cells #[x] t)).drew.heap[k]? = w2.heap[k]? := Below.heap_alloc w2 _ k (by omega)
  exact e1.trans (e2.trans (e3.trans (hb.block k hk)))
 ·rcases hat9 with e | e
  ·exact .inl e.symm
  ·exact .inr fun g hg => by
    injection hg with hg
    have : g9 = g := hg
    omega
theorem group_some (p : Nat) (ty : TypeId) (B : Nat) (n cap : Nat) (g k : Nat) (xs : List Value) (tx : TypeId) (ux : Value) (n1 b1 e1 : Int) (w : World) (hBl : Blk w p ty #[.slice (some ⟨g, 0, none⟩) n cap]) (hown : w.ownsRow B 56 1 (.slice (some ⟨g, 0, none⟩) n cap) n xs) (hpB : p < B) (hBw : B ≤ w.heap.size) (hk : k ≤ n) (hlen : n ≤ 1048576) (m : Nat) (hmk : n - k = m)
  (hm : ∀ fuel nm, nm = itemM 0 → (method (fuel + 1) tx ux nm).run Tryz.prog w = .ok (287, .agg #[.int .i64 n1, .int .i64 b1, .int .i64 e1]) w) (hwi : withinB n1 b1 e1 = true) (hone : (Value.iface tx ux).oneCell' = true) :
  Calls Tryz.prog 78 #[.pointer (some ⟨p, 0, none⟩), .int .i64 k, .iface tx ux] w fun e w' => e = .returned (.tuple #[]) ∧ PutV p ty B (.slice (some ⟨g, 0, none⟩) n cap) (m + 1) (xs.take m ++ [.iface tx ux]) w w' := by
 obtain ⟨i0, hi0, hz0, hz1, hz2⟩ := info_parts info_item
 have HM := Lib.hid hm
 have hvb := hown.lt
 have HO := Lib.hid hown
 have HBL := Lib.hid hBl
 have hlt := hBl.lt
 have hgB := (hvb g rfl).1
 have hnc : n ≤ cap ∧ cap ≤ maxLen := by
  rcases hown.2 with ⟨h, _⟩ | ⟨g', cap', cur, h, _, _, h1, h2, _⟩
  ·cases h
  ·injection h with _ _ h3
   rw [h3]
   exact ⟨h1, h2⟩
 have HVB := Lib.hid hvb
 unfold maxLen at hnc
 obtain ⟨hnc, hc⟩ := hnc
 clear hm hvb hown hBl
 go_enter Tryz.func78, Tryz.ntmps78
 go_wp2_with fail
 rw [HM.out _ _ ?nm]
 case nm => kernel_rfl
 go_wp2_with fail
 refine (sized_size n1 b1 e1 _).mono ?_
 rintro e w1 ⟨rfl, hb1⟩
 go_wp2_with fail
 refine (within_any n1 b1 e1 _).mono ?_
 rw [hwi]
 rintro e w2 ⟨rfl, hb2⟩
 go_wp2_with fail
 refine (refuse_yes 3 _).mono ?_
 rintro e w' ⟨rfl, rfl⟩
 have hb := hb1.trans (hb2.mono hb1.size)
 have hBl2 := HBL.out.below hb hlt
 have hown2 := own_below HO.out hb
 have hs2 := hb.size
 have hnk : ((n : Int) - (k : Int)) = (m : Int) := by omega
 have a1 : w2.cell? ⟨p, 0, none⟩ = some (.slice (some ⟨g, 0, none⟩) n cap) := hBl2.cell 0
 have f1 := hBl2.frozen 0
 have hot := own_take hown2 (k := m) (by omega)
 have HOT := Lib.hid hot
 have HB2 := Lib.hid hBl2
 have HBB := Lib.hid hb
 have hgp : ¬ p = g := by omega
 clear hot hBl2 hb1 hb2 hown2 hb
 have hm1 : m ≤ cap := by omega
 have hm2 : m ≤ 1048576 := by omega
 clear hmk
 go_wp2_with fail
 have hwm : IntKind.i64.wrap (m : Int) = (m : Int) := IntWalk.i64_in _ (by omega)
 have HB3 := Lib.hid (HB2.out.alloc (.cells #[.iface tx ux] 56))
 have hgp2 : some p ≠ (Value.slice (some ⟨g, 0, none⟩) m cap).ownBlock := by intro e; injection e with e; exact hgp e
 have ha1 : (w2.alloc (.cells #[.iface tx ux] 56)).drew.cell? ⟨p, 0, none⟩ = some (.slice (some ⟨g, 0, none⟩) n cap) := HB3.out.drew.cell 0
 have hf1 := HB3.out.drew.frozen 0
 go_region_law ((refine step_append_lies _ (by rfl) _ _ _ (by rfl) B 56 i0 _ 1 16 Tryz.underlying114 hi0 hz0 hz1 hz2 (by rfl) (by omega) _ m (xs.take m) (by rfl) (HOT.out.alloc _).drew ⟨w2.heap.size, 0, none⟩ 1 1 [.iface tx ux] (by rfl) (by rfl) (one_new _ _ _) (one_cell _ hone) (by omega) (by unfold maxLen; omega) (by omega) (by simp; omega) (w2.heap.size + 1) (by simp) ?_; intro g9 q9 w9 hown9 hgr9 hat9 hlt9; have hq1 : w9.cell? ⟨p, 0, none⟩ = some (.slice (some ⟨g, 0, none⟩) n cap) := (HB3.out.drew.only hgr9 hgp2).cell 0; have hq2 := (HB3.out.drew.only hgr9 hgp2).frozen 0))
 all_goals (go_end0; exact ⟨rfl, put_post p ty B m (.slice (some ⟨g, 0, none⟩) n cap) _ _ _ HBB.out hpB hBw HB2.out HVB.out hown9 hgr9 hat9⟩)
theorem group_nil (p : Nat) (ty : TypeId) (B : Nat) (tx : TypeId) (ux : Value) (n1 b1 e1 : Int) (w : World) (hBl : Blk w p ty #[.slice none 0 0]) (hpB : p < B) (hBw : B ≤ w.heap.size)
  (hm : ∀ fuel nm, nm = itemM 0 → (method (fuel + 1) tx ux nm).run Tryz.prog w = .ok (287, .agg #[.int .i64 n1, .int .i64 b1, .int .i64 e1]) w) (hwi : withinB n1 b1 e1 = true) (hone : (Value.iface tx ux).oneCell' = true) :
  Calls Tryz.prog 78 #[.pointer (some ⟨p, 0, none⟩), .int .i64 0, .iface tx ux] w fun e w' => e = .returned (.tuple #[]) ∧ PutV p ty B (.slice none 0 0) (0 + 1) ([] ++ [.iface tx ux]) w w' := by
 obtain ⟨i0, hi0, hz0, hz1, hz2⟩ := info_parts info_item
 have HM := Lib.hid hm
 have HBL := Lib.hid hBl
 have hlt := hBl.lt
 clear hm hBl
 go_enter Tryz.func78, Tryz.ntmps78
 go_wp2_with fail
 rw [HM.out _ _ ?nm]
 case nm => kernel_rfl
 go_wp2_with fail
 refine (sized_size n1 b1 e1 _).mono ?_
 rintro e w1 ⟨rfl, hb1⟩
 go_wp2_with fail
 refine (within_any n1 b1 e1 _).mono ?_
 rw [hwi]
 rintro e w2 ⟨rfl, hb2⟩
 go_wp2_with fail
 refine (refuse_yes 3 _).mono ?_
 rintro e w' ⟨rfl, rfl⟩
 have hb := hb1.trans (hb2.mono hb1.size)
 have hBl2 := HBL.out.below hb hlt
 have hs2 := hb.size
 have a1 : w2.cell? ⟨p, 0, none⟩ = some (.slice none 0 0) := hBl2.cell 0
 have f1 := hBl2.frozen 0
 have HB2 := Lib.hid hBl2
 have HBB := Lib.hid hb
 clear hBl2 hb1 hb2 hb
 go_wp2_with fail
 have HB3 := Lib.hid (HB2.out.alloc (.cells #[.iface tx ux] 56))
 have hwm : IntKind.i64.wrap 0 = 0 := by decide
 have hgp2 : some p ≠ (Value.slice none 0 0).ownBlock := by intro e; cases e
 have ha1 : (w2.alloc (.cells #[.iface tx ux] 56)).drew.cell? ⟨p, 0, none⟩ = some (.slice none 0 0) := HB3.out.drew.cell 0
 have hf1 := HB3.out.drew.frozen 0
 go_region_law ((refine step_append_lies _ (by rfl) _ _ _ (by rfl) B 56 i0 _ 1 16 Tryz.underlying114 hi0 hz0 hz1 hz2 (by rfl) (by omega) _ 0 [] (by rfl) (World.ownsRow_nil _ _ _ _) ⟨w2.heap.size, 0, none⟩ 1 1 [.iface tx ux] (by rfl) (by rfl) (one_new _ _ _) (one_cell _ hone) (by omega) (by unfold maxLen; omega) (by omega) (by simp; omega) (w2.heap.size + 1) (by simp) ?_; intro g9 q9 w9 hown9 hgr9 hat9 hlt9; have hq1 : w9.cell? ⟨p, 0, none⟩ = some (.slice none 0 0) := (HB3.out.drew.only hgr9 hgp2).cell 0; have hq2 := (HB3.out.drew.only hgr9 hgp2).frozen 0))
 all_goals (go_end0; exact ⟨rfl, put_post p ty B 0 (.slice none 0 0) _ _ _ HBB.out hpB hBw HB2.out (by intro k e; cases e) hown9 hgr9 hat9⟩)
theorem group_long (a k : Value) (tx : TypeId) (ux : Value) (n1 b1 e1 : Int) (w : World)
  (hm : ∀ fuel nm, nm = itemM 0 → (method (fuel + 1) tx ux nm).run Tryz.prog w = .ok (287, .agg #[.int .i64 n1, .int .i64 b1, .int .i64 e1]) w) (hwi : withinB n1 b1 e1 = false) :
  Calls Tryz.prog 78 #[a, k, .iface tx ux] w fun e w' => e = .panicked [{ v := .iface 113 (.int .i64 3), recovered := false }] ∧ Below w.heap.size w w' := by
 have HM := Lib.hid hm
 clear hm
 go_enter Tryz.func78, Tryz.ntmps78
 go_wp2_with fail
 rw [HM.out _ _ ?nm]
 case nm => kernel_rfl
 go_wp2_with fail
 refine (sized_size n1 b1 e1 _).mono ?_
 rintro e w1 ⟨rfl, hb1⟩
 go_wp2_with fail
 refine (within_any n1 b1 e1 _).mono ?_
 rw [hwi]
 rintro e w2 ⟨rfl, hb2⟩
 go_wp2_with fail
 refine (refuse_no 3 _).mono ?_
 rintro e w' ⟨rfl, rfl⟩
 have hb := hb1.trans (hb2.mono hb1.size)
 go_wp2
 exact ⟨rfl, rfl, hb⟩
end Nd
end Go.Proofs.YtbajkglacfheiaaGreatDoor
namespace Go.Proofs.YtbajkglacfheiaaGreatDoor
open Go.RowKit Mem
namespace Nd

theorem grown_from_drew {a b : World} {r : Option Nat} (h : a.grownBy b r) : a.drew.grownBy b r := ⟨h.os, h.tape, h.output, h.size, h.block⟩
structure Asks (tx : TypeId) (ux : Value) (F : FuncId) (A : Value) (n1 b1 e1 : Int) (w : World) : Prop where
 hm : ∀ fuel nm, nm = itemM 0 → (method (fuel + 1) tx ux nm).run Tryz.prog w = .ok (F, A) w
 he : ∀ args W, (callFunc F args).run Tryz.prog W = .ok (.enter F args) W
 hc : ∀ W, Calls Tryz.prog F #[A] W fun e w' => e = .returned (.agg #[.int .i64 n1, .int .i64 b1, .int .i64 e1]) ∧ Below W.heap.size W w'
theorem put_core (p : Nat) (ty : TypeId) (B : Nat) (v : Value) (n : Nat) (xs : List Value) (tx : TypeId) (ux : Value) (F : FuncId) (A : Value) (n1 b1 e1 : Int) (w : World) (hBl : Blk w p ty #[v]) (hown : w.ownsRow B 56 1 v n xs) (hpB : p < B) (hBw : B ≤ w.heap.size) (hlen : n ≤ 1048576)
  (hA : Asks tx ux F A n1 b1 e1 w) (hwi : withinB n1 b1 e1 = true) (hone : (Value.iface tx ux).oneCell' = true) :
  Calls Tryz.prog 73 #[.pointer (some ⟨p, 0, none⟩), .iface tx ux] w fun e w' => e = .returned (.tuple #[]) ∧ PutV p ty B v (n + 1) (xs ++ [.iface tx ux]) w w' := by
 obtain ⟨i0, hi0, hz0, hz1, hz2⟩ := info_parts info_item
 have hvb := hown.lt
 have HVB := Lib.hid hvb
 have HO := Lib.hid hown
 have HBL := Lib.hid hBl
 have hlt := hBl.lt
 obtain ⟨hm, he, hc⟩ := hA
 have HM := Lib.hid hm
 have HCC := Lib.hid hc
 have hvs := own_slice hown
 clear hown hBl hvb hm hc
 obtain ⟨A0, q0, rfl⟩ := hvs
 go_enter Tryz.func73, Tryz.ntmps73
 go_wp2_with fail
 rw [HM.out _ _ ?nm]
 case nm => kernel_rfl
 go_wp2_with fail
 refine (HCC.out _).mono ?_
 rintro e w1 ⟨rfl, hb1⟩
 go_wp2_with fail
 refine (within_any n1 b1 e1 _).mono ?_
 rw [hwi]
 rintro e w2 ⟨rfl, hb2⟩
 have hb := hb1.trans (hb2.mono hb1.size)
 have hBl2 := HBL.out.below hb hlt
 have hown2 := own_below HO.out hb
 have hs2 := hb.size
 have HB2 := Lib.hid hBl2
 have HBB := Lib.hid hb
 have HO2 := Lib.hid hown2
 have hc0 : w2.cell? ⟨p, 0, none⟩ = some (.slice A0 n q0) := hBl2.cell 0
 have HB3 := Lib.hid (HB2.out.alloc (.cells #[.iface tx ux] 56))
 clear hb1 hb2 hb hBl2 hown2
 go_wp2_with (at_builtin; go_must (refine wpList_append_lies _ rfl (.tmp 13) (.tmp 15) _ rfl B 56 i0 _ 1 16 Tryz.underlying114 hi0 hz0 hz1 hz2 rfl (by omega) (.slice A0 n q0) n xs rfl (HO2.out.alloc _) ⟨w2.heap.size, 0, none⟩ 1 1 [.iface tx ux] rfl rfl (one_new _ _ _) (one_cell _ hone) (by omega) (by unfold maxLen; omega) (by omega) (by simp; omega) (w2.heap.size + 1) (by simp) ?_); intro g9 q9 w9 hown9 hgr9 hat9 hlt9; have hq1 : w9.cell? ⟨p, 0, none⟩ = some (.slice A0 n q0) := (HB3.out.only hgr9 (by intro e; have := (HVB.out p e.symm).1; omega)).cell 0; have hq2 := (HB3.out.only hgr9 (by intro e; have := (HVB.out p e.symm).1; omega)).frozen 0)
 go_end0
 exact ⟨rfl, put_post p ty B n (.slice A0 n q0) _ _ _ HBB.out hpB hBw HB2.out HVB.out hown9 (grown_from_drew hgr9) hat9⟩
theorem put_long (a : Value) (tx : TypeId) (ux : Value) (F : FuncId) (A : Value) (n1 b1 e1 : Int) (w : World)
  (hA : Asks tx ux F A n1 b1 e1 w) (hwi : withinB n1 b1 e1 = false) :
  Calls Tryz.prog 73 #[a, .iface tx ux] w fun e w' => e = .panicked [{ v := .iface 113 (.int .i64 3), recovered := false }] ∧ Below w.heap.size w w' := by
 obtain ⟨hm, he, hc⟩ := hA
 have HM := Lib.hid hm
 have HCC := Lib.hid hc
 clear hm hc
 go_enter Tryz.func73, Tryz.ntmps73
 go_wp2_with fail
 rw [HM.out _ _ ?nm]
 case nm => kernel_rfl
 go_wp2_with fail
 refine (HCC.out _).mono ?_
 rintro e w1 ⟨rfl, hb1⟩
 go_wp2_with fail
 refine (within_any n1 b1 e1 _).mono ?_
 rw [hwi]
 rintro e w2 ⟨rfl, hb2⟩
 have hb := hb1.trans (hb2.mono hb1.size)
 go_wp2
 exact ⟨rfl, rfl, hb⟩
theorem asks_null (w : World) : Asks 195 (.agg #[]) 281 (.agg #[]) 1 0 1 w :=
 ⟨fun fuel nm h => by rw [h]; kernel_rfl, fun args W => by kernel_rfl, sized_null⟩
theorem asks_flag (b : Bool) (w : World) : Asks 196 (.bool b) 283 (.bool b) 1 0 1 w :=
 ⟨fun fuel nm h => by rw [h]; kernel_rfl, fun args W => by kernel_rfl, sized_flag b⟩
theorem asks_num (x : Nat) (w : World) : Asks 140 (.float .f64 x) 271 (.float .f64 x) 1 0 1 w :=
 ⟨fun fuel nm h => by rw [h]; kernel_rfl, fun args W => by kernel_rfl, sized_num x⟩
theorem asks_text (t : Tx) (w : World) : Asks 199 (.string ⟨t.toArray⟩) 285 (.string ⟨t.toArray⟩) 1 t.length 1 w :=
 ⟨fun fuel nm h => by rw [h]; kernel_rfl, fun args W => by kernel_rfl, sized_text t⟩
end Nd
end Go.Proofs.YtbajkglacfheiaaGreatDoor
namespace Go.Proofs.YtbajkglacfheiaaGreatDoor
open Go.RowKit Mem
namespace Nd

def Sx (B : Nat) (X : Nat → Prop) (v : Value) : Nat → Prop := fun k => B ≤ k ∧ ¬ X k ∧ some k ≠ v.ownBlock
structure Rw (p : Nat) (ty : TypeId) (B : Nat) (X : Nat → Prop) (l : List Tr) (v : Value) (xs : List Value) (w : World) : Prop where
 bl : Blk w p ty #[v]
 own : w.ownsRow B 56 1 v l.length xs
 rd : RdL (Sx B X v) w l xs
 fit : ∀ t ∈ l, t.fit = true
 lt : p < B
 le : B ≤ w.heap.size
def RwX (p : Nat) (ty : TypeId) (B : Nat) (l : List Tr) (w : World) : Prop := ∃ v xs, Rw p ty B (fun _ => False) l v xs w
section
variable {p : Nat} {ty : TypeId} {B : Nat} {X : Nat → Prop} {l : List Tr} {v x : Value} {xs : List Value} {w w' : World}
theorem Rw.below (h : Rw p ty B X l v xs w) (hb : Below w.heap.size w w') : Rw p ty B X l v xs w' :=
 ⟨h.bl.below hb h.bl.lt, own_below h.own hb, h.rd.move fun k hk hS => ⟨hS, hb.block k hk⟩, h.fit, h.lt, Nat.le_trans h.le hb.size⟩
theorem Rw.avoid {X' : Nat → Prop} (h : Rw p ty B X l v xs w) (hX : ∀ k, X' k → X k ∨ w.heap.size ≤ k) : Rw p ty B X' l v xs w :=
 ⟨h.bl, h.own, h.rd.move fun k hk hS => ⟨⟨hS.1, fun hx => by rcases hX k hx with e | e; exact hS.2.1 e; omega, hS.2.2⟩, rfl⟩, h.fit, h.lt, h.le⟩
theorem Rw.far (h : Rw p ty B X l v xs w) {q : Addr} (hX : X q.block) (hp : p ≠ q.block) (hv : v.ownBlock ≠ some q.block) (u : Value) : Rw p ty B X l v xs (w.setCell q u) := by
 refine ⟨h.bl.far hp u, h.own.kept (row := some q.block) ⟨rfl, rfl, rfl, by simp [World.setCell], fun i hi hn => heap_setCell_other w q i u (fun e => hn (by rw [e]))⟩ (.inr hv), h.rd.move fun k hk hS => ⟨hS, heap_setCell_other w q k u (fun e => hS.2.1 (e ▸ hX))⟩, h.fit, h.lt, by simpa [World.setCell] using h.le⟩
theorem Rw.all (h : Rw p ty B X l v xs w) : RwX p ty B l w := ⟨v, xs, h.avoid fun k e => e.elim⟩
theorem Rw.vlt (h : Rw p ty B X l v xs w) : ∀ k, v.ownBlock = some k → B ≤ k ∧ k < w.heap.size := h.own.lt
theorem PutV.rw {k : Nat} {t : Tr} (h : PutV p ty B v (l.length - k + 1) (xs.take (l.length - k) ++ [x]) w w') (hR : Rw p ty B X l v xs w) (hk : k ≤ l.length) (hx : RdT (Sx B X v) w t x) (hf : t.fit = true) :
  ∃ v' xs', Rw p ty B X (l.take (l.length - k) ++ [t]) v' xs' w' ∧ (v'.ownBlock = v.ownBlock ∨ ∀ g, v'.ownBlock = some g → w.heap.size ≤ g) ∧ Below p w w' ∧ KeepV p v w w' := by
 obtain ⟨v', hB, ho, hb, hkp, hob⟩ := h
 have hmv : ∀ k, k < w.heap.size → Sx B X v k → Sx B X v' k ∧ w'.heap[k]? = w.heap[k]? := by
  intro k hk ⟨h1, h3, h2⟩
  refine ⟨⟨h1, h3, ?_⟩, hkp k hk (by have := hR.lt; omega) h2⟩
  rcases hob with e | e
  ·rw [e]; exact h2
  ·intro h3
   have := e k h3.symm
   omega
 refine ⟨v', _, ⟨hB, ?_, ((hR.rd.move hmv).take (l.length - k)).snoc (RdT.move hmv _ _ hx), ?_, hR.lt, Nat.le_trans hR.le hb.size⟩, hob, hb, hkp⟩
 ·have e : (l.take (l.length - k) ++ [t]).length = l.length - k + 1 := by simp
  rw [e]
  exact ho
 ·intro u hu
  rcases List.mem_append.1 hu with hu | hu
  ·exact hR.fit u (List.mem_of_mem_take hu)
  ·rw [List.mem_singleton] at hu
   rw [hu]
   exact hf
theorem PutV.rw0 {t : Tr} (h : PutV p ty B v (l.length + 1) (xs ++ [x]) w w') (hR : Rw p ty B X l v xs w) (hx : RdT (Sx B X v) w t x) (hf : t.fit = true) :
  ∃ v' xs', Rw p ty B X (l ++ [t]) v' xs' w' ∧ (v'.ownBlock = v.ownBlock ∨ ∀ g, v'.ownBlock = some g → w.heap.size ≤ g) ∧ Below p w w' ∧ KeepV p v w w' := by
 have hl := hR.own.1
 simp at hl
 have := PutV.rw (k := 0) (by simpa [← hl] using h) hR (by omega) hx hf
 simpa using this
end
end Nd
end Go.Proofs.YtbajkglacfheiaaGreatDoor
namespace Go.Proofs.YtbajkglacfheiaaGreatDoor
open Go.RowKit Mem
namespace Nd

def Apart (p B : Nat) (w w' : World) : Prop := Below p w w' ∧ ∀ k, k < w.heap.size → k ≠ p → k < B → w'.heap[k]? = w.heap[k]?
theorem fin_ok {p : Nat} {ty : TypeId} {B E : Nat} {l l' : List Tr} {v v' : Value} {xs xs' : List Value} {w w1 w2 : World} (hR : Rw p ty B (fun _ => False) l v xs w) (hb1 : Below w.heap.size w w1) (hE0 : w.heap.size ≤ E) (hE1 : E < w1.heap.size) (hE : Blk w1 E 25 #[.nilIface])
  (hR2 : Rw p ty B (fun k => k = E) l' v' xs' w2) (hob : v'.ownBlock = v.ownBlock ∨ ∀ g, v'.ownBlock = some g → w1.heap.size ≤ g) (hb2 : Below p w1 w2) (hk : KeepV p v w1 w2) :
  (w2.cell? ⟨E, 0, none⟩ = some .nilIface ∧ w2.frozen? ⟨E, 0, none⟩ = false) ∧ (w2.setCell ⟨E, 0, none⟩ .nilIface).cell? ⟨E, 0, none⟩ = some .nilIface ∧ RwX p ty B l' (w2.setCell ⟨E, 0, none⟩ .nilIface) ∧ Apart p B w (w2.setCell ⟨E, 0, none⟩ .nilIface) := by
 have hlt := hR.lt
 have hle := hR.le
 have hv := hR.vlt
 have hE2 : Blk w2 E 25 #[.nilIface] := (hk E hE1 (by omega) (by intro e; have := (hv E e.symm).2; omega)).trans hE
 refine ⟨⟨hE2.cell 0, hE2.frozen 0⟩, (hE2.put 0 .nilIface).cell 0, ?_, ?_⟩
 ·refine (hR2.far (q := ⟨E, 0, none⟩) rfl (by show p ≠ E; omega) ?_ _).all
  intro e
  rcases hob with h | h
  ·rw [h] at e
   have := (hv E e).2
   omega
  ·have := h E e
   omega
 ·refine ⟨((hb1.mono (by omega)).trans hb2).setCell (by show p ≤ E; omega) _, fun k hk1 hk2 hk3 => ?_⟩
  refine (heap_setCell_other w2 ⟨E, 0, none⟩ k .nilIface (by show k ≠ E; omega)).trans ((hk k (by have := hb1.size; omega) hk2 ?_).trans (hb1.block k hk1))
  intro e
  have := (hv k e.symm).1
  omega
theorem fin_err {p : Nat} {ty : TypeId} {B E : Nat} {l : List Tr} {v : Value} {xs : List Value} {w w1 w2 : World} (n : Int) (hR : Rw p ty B (fun _ => False) l v xs w) (hb1 : Below w.heap.size w w1) (hE0 : w.heap.size ≤ E) (hE1 : E < w1.heap.size) (hE : Blk w1 E 25 #[.nilIface])
  (hb2 : Below w1.heap.size w1 w2) :
  (w2.cell? ⟨E, 0, none⟩ = some .nilIface ∧ w2.frozen? ⟨E, 0, none⟩ = false) ∧ (w2.setCell ⟨E, 0, none⟩ (errN n)).cell? ⟨E, 0, none⟩ = some (errN n) ∧ RwX p ty B l (w2.setCell ⟨E, 0, none⟩ (errN n)) ∧ Apart p B w (w2.setCell ⟨E, 0, none⟩ (errN n)) := by
 have hlt := hR.lt
 have hle := hR.le
 have hv := hR.vlt
 have hE2 : Blk w2 E 25 #[.nilIface] := (hb2.block E hE1).trans hE
 have hR1 : Rw p ty B (fun k => k = E) l v xs w1 := (hR.avoid (X' := fun k => k = E) fun k hk => .inr (by omega)).below hb1
 refine ⟨⟨hE2.cell 0, hE2.frozen 0⟩, (hE2.put 0 _).cell 0, ?_, ?_⟩
 ·exact ((hR1.below hb2).far (q := ⟨E, 0, none⟩) rfl (by show p ≠ E; omega) (by intro e; have := (hv E e).2; omega) _).all
 ·refine ⟨((hb1.mono (by omega)).trans (hb2.mono (by have := hb1.size; omega))).setCell (by show p ≤ E; omega) _, fun k hk1 hk2 hk3 => ?_⟩
  exact (heap_setCell_other w2 ⟨E, 0, none⟩ k (errN n) (by show k ≠ E; omega)).trans ((hb2.block k (by have := hb1.size; omega)).trans (hb1.block k hk1))
theorem head_blocks (w : World) (cs : Array Value) {w1 : World} (hb : Below ((w.alloc (.cells cs 119)).alloc (.cells #[.nilIface] 25)).heap.size ((w.alloc (.cells cs 119)).alloc (.cells #[.nilIface] 25)) w1) :
  Below w.heap.size w w1 ∧ Blk w1 w.heap.size 119 cs ∧ Blk w1 (w.heap.size + 1) 25 #[.nilIface] ∧ w.heap.size + 1 < w1.heap.size := by
 have hs := hb.size
 simp at hs
 refine ⟨below_chain (((Below.refl _ _).alloc (Nat.le_refl _) _).alloc (by simp) _) (by simp; omega) hb, ((Blk.new w 119 cs).alloc _).below hb (by simp; omega), ?_, by omega⟩
 have h := (Blk.new (w.alloc (.cells cs 119)) 25 #[.nilIface]).below hb (by simp)
 have e : (w.alloc (.cells cs 119)).heap.size = w.heap.size + 1 := by simp
 rw [e] at h
 exact h
theorem do_bad (s : Int) (f : Bool) (b : Int) (t : Tx) (c : Int) (A : Option Addr) (n q : Nat) (p : Nat) (ty : TypeId) (B : Nat) (l : List Tr) (v : Value) (xs : List Value) (w : World) (hR : Rw p ty B (fun _ => False) l v xs w) (hus : usedB s f b t c n = false) :
  Calls Tryz.prog 32 #[.pointer (some ⟨p, 0, none⟩), .agg #[.int .i64 s, .bool f, .int .u64 b, .string ⟨t.toArray⟩, .int .i64 c, .slice A n q]] w fun e w' => e = .returned (errN 2) ∧ RwX p ty B l w' ∧ Apart p B w w' := by
 have hmf : ∀ (fn : Fn) (first cap : Array Value) (w : World), (Instr.makeFunc fn first cap).run Tryz.prog w = .ok (.func fn first cap) w := fun _ _ _ _ => rfl
 have HR := Lib.hid hR
 clear hR
 go_enter_defers Tryz.func32, Tryz.ntmps32
 go_wp2_with fail
 refine (used_any s f b t c A n q _).mono ?_
 rw [hus]
 rintro e w1 ⟨rfl, hb1⟩
 obtain ⟨hbw, hS1, hE1, hsz⟩ := head_blocks w _ hb1
 clear hb1
 go_wp2_with fail
 refine (refuse_no 2 _).mono ?_
 rintro e w' ⟨rfl, rfl⟩
 obtain ⟨⟨hc, hz⟩, hc2, hrx, hbp⟩ := fin_err 2 HR.out hbw (by omega) hsz hE1 (Below.refl _ _)
 go_wp2
 refine leaves_cons (f := 70) (args := #[.pointer (some ⟨w.heap.size + 1, 0, none⟩)]) (by simp) (by simp [go_sem]) ?_
 refine (catch_panicking ⟨w.heap.size + 1, 0, none⟩ _ 2 [] _ hc hz).mono ?_
 rintro e u' w'' ⟨rfl, rfl, rfl⟩
 have hc2' : (w1.setCell ⟨w.heap.size + 1, 0, none⟩ (.iface 113 (.int .i64 2))).cell? ⟨w.heap.size + 1, 0, none⟩ = some (.iface 113 (.int .i64 2)) := hc2
 simp [Leaves, settle, results, Tryz.results32, go_sem, hc2']
 exact ⟨rfl, hrx, hbp⟩
theorem do_nul (A : Option Addr) (n q : Nat) (p : Nat) (ty : TypeId) (B : Nat) (l : List Tr) (v : Value) (xs : List Value) (w : World) (hR : Rw p ty B (fun _ => False) l v xs w) (hus : usedB 1 false 0 [] 0 n = true) (hlen : l.length ≤ 1048576) :
  Calls Tryz.prog 32 #[.pointer (some ⟨p, 0, none⟩), .agg #[.int .i64 1, .bool false, .int .u64 0, .string ⟨([] : Tx).toArray⟩, .int .i64 0, .slice A n q]] w fun e w' => e = .returned .nilIface ∧ RwX p ty B (l ++ [.null]) w' ∧ Apart p B w w' := by
 have hmf : ∀ (fn : Fn) (first cap : Array Value) (w : World), (Instr.makeFunc fn first cap).run Tryz.prog w = .ok (.func fn first cap) w := fun _ _ _ _ => rfl
 have HR := Lib.hid hR
 clear hR
 go_enter_defers Tryz.func32, Tryz.ntmps32
 go_wp2_with fail
 refine (used_any 1 false 0 [] 0 A n q _).mono ?_
 rw [hus]
 rintro e w1 ⟨rfl, hb1⟩
 obtain ⟨hbw, hS1, hE1, hsz⟩ := head_blocks w _ hb1
 clear hb1
 have c0 : w1.cell? ⟨w.heap.size, 0, none⟩ = some (.int .i64 1) := hS1.cell 0
 have c1 : w1.cell? ⟨w.heap.size, 1, none⟩ = some (.bool false) := hS1.cell 1
 have c2 : w1.cell? ⟨w.heap.size, 2, none⟩ = some (.int .u64 0) := hS1.cell 2
 have c3 : w1.cell? ⟨w.heap.size, 3, none⟩ = some (.string ⟨([] : Tx).toArray⟩) := hS1.cell 3
 have c4 : w1.cell? ⟨w.heap.size, 4, none⟩ = some (.int .i64 0) := hS1.cell 4
 have c5 : w1.cell? ⟨w.heap.size, 5, none⟩ = some (.slice A n q) := hS1.cell 5
 clear hS1
 go_wp2_with fail
 refine (refuse_yes 2 _).mono ?_
 rintro e w' ⟨rfl, rfl⟩
 go_wp2_with fail
 refine (put_core p ty B v l.length xs _ _ _ _ _ _ _ _ (HR.out.below hbw).bl (HR.out.below hbw).own HR.out.lt (HR.out.below hbw).le hlen (asks_null _) (by decide) rfl).mono ?_
 rintro e w2 ⟨rfl, hP⟩
 obtain ⟨v2, xs2, hR2, hob2, hb2, hk2⟩ := hP.rw0 ((HR.out.avoid (X' := fun k => k = w.heap.size + 1) fun k hk => .inr (by omega)).below hbw) (t := .null) rfl (by decide)
 obtain ⟨⟨hc, hz⟩, hc2, hrx, hbp⟩ := fin_ok HR.out hbw (by omega) hsz hE1 hR2 hob2 hb2 hk2
 go_wp2
 refine leaves_cons (f := 70) (args := #[.pointer (some ⟨w.heap.size + 1, 0, none⟩)]) (by simp) (by simp [go_sem]) ?_
 refine (catch_idle ⟨w.heap.size + 1, 0, none⟩ _).mono ?_
 rintro e u' w'' ⟨rfl, rfl, rfl⟩
 simp [Leaves, settle, results, Tryz.results32, go_sem, hc2]
 exact ⟨hrx, hbp⟩
theorem do_flag (b : Bool) (A : Option Addr) (n q : Nat) (p : Nat) (ty : TypeId) (B : Nat) (l : List Tr) (v : Value) (xs : List Value) (w : World) (hR : Rw p ty B (fun _ => False) l v xs w) (hus : usedB 2 b 0 [] 0 n = true) (hlen : l.length ≤ 1048576) :
  Calls Tryz.prog 32 #[.pointer (some ⟨p, 0, none⟩), .agg #[.int .i64 2, .bool b, .int .u64 0, .string ⟨([] : Tx).toArray⟩, .int .i64 0, .slice A n q]] w fun e w' => e = .returned .nilIface ∧ RwX p ty B (l ++ [.flag b]) w' ∧ Apart p B w w' := by
 have hmf : ∀ (fn : Fn) (first cap : Array Value) (w : World), (Instr.makeFunc fn first cap).run Tryz.prog w = .ok (.func fn first cap) w := fun _ _ _ _ => rfl
 have HR := Lib.hid hR
 clear hR
 go_enter_defers Tryz.func32, Tryz.ntmps32
 go_wp2_with fail
 refine (used_any 2 b 0 [] 0 A n q _).mono ?_
 rw [hus]
 rintro e w1 ⟨rfl, hb1⟩
 obtain ⟨hbw, hS1, hE1, hsz⟩ := head_blocks w _ hb1
 clear hb1
 have c0 : w1.cell? ⟨w.heap.size, 0, none⟩ = some (.int .i64 2) := hS1.cell 0
 have c1 : w1.cell? ⟨w.heap.size, 1, none⟩ = some (.bool b) := hS1.cell 1
 have c2 : w1.cell? ⟨w.heap.size, 2, none⟩ = some (.int .u64 0) := hS1.cell 2
 have c3 : w1.cell? ⟨w.heap.size, 3, none⟩ = some (.string ⟨([] : Tx).toArray⟩) := hS1.cell 3
 have c4 : w1.cell? ⟨w.heap.size, 4, none⟩ = some (.int .i64 0) := hS1.cell 4
 have c5 : w1.cell? ⟨w.heap.size, 5, none⟩ = some (.slice A n q) := hS1.cell 5
 clear hS1
 go_wp2_with fail
 refine (refuse_yes 2 _).mono ?_
 rintro e w' ⟨rfl, rfl⟩
 go_wp2_with fail
 refine (put_core p ty B v l.length xs _ _ _ _ _ _ _ _ (HR.out.below hbw).bl (HR.out.below hbw).own HR.out.lt (HR.out.below hbw).le hlen (asks_flag b _) (by decide) rfl).mono ?_
 rintro e w2 ⟨rfl, hP⟩
 obtain ⟨v2, xs2, hR2, hob2, hb2, hk2⟩ := hP.rw0 ((HR.out.avoid (X' := fun k => k = w.heap.size + 1) fun k hk => .inr (by omega)).below hbw) (t := .flag b) rfl (by simp [Tr.fit, Tr.nodes, Tr.bytes, Tr.depth])
 obtain ⟨⟨hc, hz⟩, hc2, hrx, hbp⟩ := fin_ok HR.out hbw (by omega) hsz hE1 hR2 hob2 hb2 hk2
 go_wp2
 refine leaves_cons (f := 70) (args := #[.pointer (some ⟨w.heap.size + 1, 0, none⟩)]) (by simp) (by simp [go_sem]) ?_
 refine (catch_idle ⟨w.heap.size + 1, 0, none⟩ _).mono ?_
 rintro e u' w'' ⟨rfl, rfl, rfl⟩
 simp [Leaves, settle, results, Tryz.results32, go_sem, hc2]
 exact ⟨hrx, hbp⟩
end Nd
end Go.Proofs.YtbajkglacfheiaaGreatDoor
namespace Go.Proofs.YtbajkglacfheiaaGreatDoor
open Go.RowKit Mem
namespace Nd

structure SumSt (w : World) (l : List Tr) (b k : Nat) (wr : World) : Prop where
 bl : Below w.heap.size w wr
 rs : Blk wr w.heap.size 204 #[.int .i64 0, .int .i64 0, .int .i64 0]
 st : Blk wr (w.heap.size + 1) 204 #[.int .i64 ((1 + nodesL (l.take k) : Nat) : Int), .int .i64 ((b + bytesL (l.take k) : Nat) : Int), .int .i64 ((depthL (l.take k) : Nat) : Int)]
theorem SumSt.next {w wr w1 : World} {l : List Tr} {b k : Nat} (h : SumSt w l b k wr) (hb1 : Below wr.heap.size wr w1) (x y z : Int) (o : Obj)
  (hx : x = ((1 + nodesL (l.take (k + 1)) : Nat) : Int)) (hy : y = ((b + bytesL (l.take (k + 1)) : Nat) : Int)) (hz : z = ((depthL (l.take (k + 1)) : Nat) : Int)) :
  SumSt w l b (k + 1) ((((w1.setCell ⟨w.heap.size + 1, 0, none⟩ (.int .i64 x)).setCell ⟨w.heap.size + 1, 1, none⟩ (.int .i64 y)).setCell ⟨w.heap.size + 1, 2, none⟩ (.int .i64 z)).alloc o) := by
 have h1 := h.st.lt
 have hs := hb1.size
 refine ⟨?_, ?_, ?_⟩
 ·exact (((((h.bl.trans (hb1.mono (by omega))).setCell (p := ⟨w.heap.size + 1, 0, none⟩) (by show w.heap.size ≤ w.heap.size + 1; omega) _).setCell (p := ⟨w.heap.size + 1, 1, none⟩) (by show w.heap.size ≤ w.heap.size + 1; omega) _).setCell (p := ⟨w.heap.size + 1, 2, none⟩) (by show w.heap.size ≤ w.heap.size + 1; omega) _).alloc (by simp; omega) _)
 ·exact ((((h.rs.below hb1 h.rs.lt).far (p := ⟨w.heap.size + 1, 0, none⟩) (by show w.heap.size ≠ w.heap.size + 1; omega) _).far (p := ⟨w.heap.size + 1, 1, none⟩) (by show w.heap.size ≠ w.heap.size + 1; omega) _).far (p := ⟨w.heap.size + 1, 2, none⟩) (by show w.heap.size ≠ w.heap.size + 1; omega) _).alloc _
 ·have := ((((h.st.below hb1 h1).put 0 (.int .i64 x)).put 1 (.int .i64 y)).put 2 (.int .i64 z)).alloc o
  rw [hx, hy, hz] at this ⊢
  exact this
theorem SumSt.start (w : World) (l : List Tr) (b : Nat) : SumSt w l b 0 ((w.alloc (.cells #[.int .i64 0, .int .i64 0, .int .i64 0] 204)).alloc (.cells #[.int .i64 1, .int .i64 b, .int .i64 0] 204)) := by
 refine ⟨((Below.refl _ _).alloc (Nat.le_refl _) _).alloc (by simp) _, (Blk.new _ _ _).alloc _, ?_⟩
 have := Blk.new (w.alloc (.cells #[.int .i64 0, .int .i64 0, .int .i64 0] 204)) 204 #[.int .i64 1, .int .i64 b, .int .i64 0]
 simpa [nodesL, bytesL, depthL] using this
theorem summed_any (S : Nat → Prop) (v : Value) (vs : List Value) (l : List Tr) (b : Nat) (w : World) (hR : Row S w 56 v vs) (hL : RdL S w l vs) (hb : b ≤ 1099511627776) (hlen : l.length ≤ 65536) (hfit : ∀ t ∈ l, t.fit = true) :
  Calls Tryz.prog 79 #[v, .int .i64 b] w fun e w' => e = .returned (.agg #[.int .i64 ((1 + nodesL l : Nat) : Int), .int .i64 ((b + bytesL l : Nat) : Int), .int .i64 ((depthL l + 1 : Nat) : Int)]) ∧ Below w.heap.size w w' := by
 obtain ⟨A, c, rfl, hA⟩ := hR
 have hvl := hL.len
 rw [hvl]
 have HF := Lib.hid hfit
 have HA := Lib.hid hA
 have HL := Lib.hid hL
 have HV := Lib.hid hvl
 clear hfit hA hL hvl
 go_enter Tryz.func79, Tryz.ntmps79
 go_wp2
 go_loopw [13] (fun c13 wr => ∃ k : Nat, k ≤ l.length ∧ c13 = .int .i64 k ∧ SumSt w l b k wr) (fun c13 _ => l.length - (intOf c13).toNat)
 case atStart => exact ⟨0, by omega, rfl, SumSt.start w l b⟩
 case round =>
  obtain ⟨k, hk, rfl, hS⟩ := hrel
  have hS0 : wr.cell? ⟨w.heap.size + 1, 0, none⟩ = some (.int .i64 ((1 + nodesL (l.take k) : Nat) : Int)) := hS.st.cell 0
  have hS1 : wr.cell? ⟨w.heap.size + 1, 1, none⟩ = some (.int .i64 ((b + bytesL (l.take k) : Nat) : Int)) := hS.st.cell 1
  have hS2 : wr.cell? ⟨w.heap.size + 1, 2, none⟩ = some (.int .i64 ((depthL (l.take k) : Nat) : Int)) := hS.st.cell 2
  have hF0 := hS.st.frozen 0
  have hF1 := hS.st.frozen 1
  have hF2 := hS.st.frozen 2
  by_cases hlt : k < l.length
  ·rcases HA.out with h | ⟨g, o, cur, rfl, hSg, hBg, hcur⟩
   ·have := HV.out
    rw [h.1] at this
    simp at this
    omega
   obtain ⟨u, hu⟩ : ∃ u, vs[k]? = some u := ⟨_, List.getElem?_eq_getElem (by rw [HV.out]; exact hlt)⟩
   have hcell : wr.cell? ⟨g, o + k, none⟩ = some u := ((hS.bl.cell (p := ⟨g, o + k, none⟩) hBg.lt).trans (hBg.cell _)).trans (hcur k u hu)
   have hrd := HL.out.at (List.getElem?_eq_getElem hlt) hu
   have hsum := sums_at l k HF.out hlen
   have hsum1 := sums_at l (k + 1) HF.out hlen
   have HN1 := Lib.hid (nodesL_snoc l k hlt)
   have HN2 := Lib.hid (bytesL_snoc l k hlt)
   have HN3 := Lib.hid (depthL_snoc l k hlt)
   have HU := Lib.hid hu
   have HS := Lib.hid hS
   have hsz := hS.st.lt
   have HBG := Lib.hid hBg
   have hblt := hBg.lt
   clear hcur hu hBg
   have hft := fit_le (HF.out l[k] (List.getElem_mem hlt))
   generalize l[k] = t at *
   cases t with
   | null =>
    unfold RdT at hrd
    subst hrd
    clear hS
    go_wp2_with fail
    refine (sized_null _).mono ?_
    rintro e w1 ⟨rfl, hb1⟩
    obtain ⟨hc1, hf1⟩ := old hb1
    have hs1 : w.heap.size + 1 < w1.heap.size := by have := hb1.size; omega
    have hc0' := (hc1 (w.heap.size + 1) 0 hsz).trans hS0
    have hc1' := (hc1 (w.heap.size + 1) 1 hsz).trans hS1
    have hc2' := (hc1 (w.heap.size + 1) 2 hsz).trans hS2
    have hf0' := (hf1 (w.heap.size + 1) 0 hsz).trans hF0
    have hf1' := (hf1 (w.heap.size + 1) 1 hsz).trans hF1
    have hf2' := (hf1 (w.heap.size + 1) 2 hsz).trans hF2
    clear hc1 hf1
    go_wp2
    go_roundw
    case rel => exact ⟨k + 1, by omega, by go_num, HS.out.next hb1 _ _ _ _ (by rw [HN1.out]; simp [Tr.nodes]; try omega) (by rw [HN2.out]; simp [Tr.bytes]; try omega) (by rw [HN3.out]; simp [Tr.depth]; try omega)⟩
    case measure => simp [intOf]; omega
   | flag f =>
    unfold RdT at hrd
    subst hrd
    clear hS
    go_wp2_with fail
    refine (sized_flag f _).mono ?_
    rintro e w1 ⟨rfl, hb1⟩
    obtain ⟨hc1, hf1⟩ := old hb1
    have hs1 : w.heap.size + 1 < w1.heap.size := by have := hb1.size; omega
    have hc0' := (hc1 (w.heap.size + 1) 0 hsz).trans hS0
    have hc1' := (hc1 (w.heap.size + 1) 1 hsz).trans hS1
    have hc2' := (hc1 (w.heap.size + 1) 2 hsz).trans hS2
    have hf0' := (hf1 (w.heap.size + 1) 0 hsz).trans hF0
    have hf1' := (hf1 (w.heap.size + 1) 1 hsz).trans hF1
    have hf2' := (hf1 (w.heap.size + 1) 2 hsz).trans hF2
    clear hc1 hf1
    go_wp2
    go_roundw
    case rel => exact ⟨k + 1, by omega, by go_num, HS.out.next hb1 _ _ _ _ (by rw [HN1.out]; simp [Tr.nodes]; try omega) (by rw [HN2.out]; simp [Tr.bytes]; try omega) (by rw [HN3.out]; simp [Tr.depth]; try omega)⟩
    case measure => simp [intOf]; omega
   | num x =>
    unfold RdT at hrd
    subst hrd
    clear hS
    go_wp2_with fail
    refine (sized_num x _).mono ?_
    rintro e w1 ⟨rfl, hb1⟩
    obtain ⟨hc1, hf1⟩ := old hb1
    have hs1 : w.heap.size + 1 < w1.heap.size := by have := hb1.size; omega
    have hc0' := (hc1 (w.heap.size + 1) 0 hsz).trans hS0
    have hc1' := (hc1 (w.heap.size + 1) 1 hsz).trans hS1
    have hc2' := (hc1 (w.heap.size + 1) 2 hsz).trans hS2
    have hf0' := (hf1 (w.heap.size + 1) 0 hsz).trans hF0
    have hf1' := (hf1 (w.heap.size + 1) 1 hsz).trans hF1
    have hf2' := (hf1 (w.heap.size + 1) 2 hsz).trans hF2
    clear hc1 hf1
    go_wp2
    go_roundw
    case rel => exact ⟨k + 1, by omega, by go_num, HS.out.next hb1 _ _ _ _ (by rw [HN1.out]; simp [Tr.nodes]; try omega) (by rw [HN2.out]; simp [Tr.bytes]; try omega) (by rw [HN3.out]; simp [Tr.depth]; try omega)⟩
    case measure => simp [intOf]; omega
   | text tt =>
    unfold RdT at hrd
    subst hrd
    clear hS
    simp only [Tr.nodes, Tr.bytes, Tr.depth] at hft
    go_wp2_with fail
    refine (sized_text tt _).mono ?_
    rintro e w1 ⟨rfl, hb1⟩
    obtain ⟨hc1, hf1⟩ := old hb1
    have hs1 : w.heap.size + 1 < w1.heap.size := by have := hb1.size; omega
    have hc0' := (hc1 (w.heap.size + 1) 0 hsz).trans hS0
    have hc1' := (hc1 (w.heap.size + 1) 1 hsz).trans hS1
    have hc2' := (hc1 (w.heap.size + 1) 2 hsz).trans hS2
    have hf0' := (hf1 (w.heap.size + 1) 0 hsz).trans hF0
    have hf1' := (hf1 (w.heap.size + 1) 1 hsz).trans hF1
    have hf2' := (hf1 (w.heap.size + 1) 2 hsz).trans hF2
    clear hc1 hf1
    go_wp2
    go_roundw
    case rel => exact ⟨k + 1, by omega, by go_num, HS.out.next hb1 _ _ _ _ (by rw [HN1.out]; simp [Tr.nodes]; try omega) (by rw [HN2.out]; simp [Tr.bytes]; try omega) (by rw [HN3.out]; simp [Tr.depth]; try omega)⟩
    case measure => simp [intOf]; omega
   | list l1 =>
    unfold RdT at hrd
    obtain ⟨g1, A1, c1, vs1, rfl, hSg1, hB1, hR1, hL1⟩ := hrd
    have hB1r := hB1.below hS.bl hB1.lt
    have hlt1 := hB1r.lt
    have d0 : wr.cell? ⟨g1, 0, none⟩ = some (.int .i64 ((Tr.list l1).nodes : Int)) := hB1r.cell 0
    have d1 : wr.cell? ⟨g1, 1, none⟩ = some (.int .i64 ((Tr.list l1).bytes : Int)) := hB1r.cell 1
    have d2 : wr.cell? ⟨g1, 2, none⟩ = some (.int .i64 ((Tr.list l1).depth : Int)) := hB1r.cell 2
    clear hB1 hR1 hL1 hB1r
    generalize (Tr.list l1).nodes = n1 at *
    generalize (Tr.list l1).bytes = b1 at *
    generalize (Tr.list l1).depth = e1 at *
    clear hS
    go_wp2_with fail
    rw [method_list _ g1 wr _ _ _ _ ?nm d0 d1 d2]
    case nm => kernel_rfl
    go_wp2_with fail
    refine (sized_size n1 b1 e1 _).mono ?_
    rintro e w1 ⟨rfl, hb1⟩
    obtain ⟨hc1, hf1⟩ := old hb1
    have hs1 : w.heap.size + 1 < w1.heap.size := by have := hb1.size; omega
    have hc0' := (hc1 (w.heap.size + 1) 0 hsz).trans hS0
    have hc1' := (hc1 (w.heap.size + 1) 1 hsz).trans hS1
    have hc2' := (hc1 (w.heap.size + 1) 2 hsz).trans hS2
    have hf0' := (hf1 (w.heap.size + 1) 0 hsz).trans hF0
    have hf1' := (hf1 (w.heap.size + 1) 1 hsz).trans hF1
    have hf2' := (hf1 (w.heap.size + 1) 2 hsz).trans hF2
    clear hc1 hf1
    go_wp2
    go_roundw
    case rel => exact ⟨k + 1, by omega, by go_num, HS.out.next hb1 _ _ _ _ (by rw [HN1.out]; (try simp); try omega) (by rw [HN2.out]; (try simp); (try omega)) (by rw [HN3.out]; (try simp); (try omega))⟩
    case measure => simp [intOf]; omega
   | obj ks l1 =>
    unfold RdT at hrd
    obtain ⟨g1, B1, e9, A1, c1, vs1, rfl, hSg1, hB1, hK1, hR1, hL1⟩ := hrd
    have hB1r := hB1.below hS.bl hB1.lt
    have hlt1 := hB1r.lt
    have d0 : wr.cell? ⟨g1, 0, none⟩ = some (.int .i64 ((Tr.obj ks l1).nodes : Int)) := hB1r.cell 0
    have d1 : wr.cell? ⟨g1, 1, none⟩ = some (.int .i64 ((Tr.obj ks l1).bytes : Int)) := hB1r.cell 1
    have d2 : wr.cell? ⟨g1, 2, none⟩ = some (.int .i64 ((Tr.obj ks l1).depth : Int)) := hB1r.cell 2
    clear hB1 hK1 hR1 hL1 hB1r
    generalize (Tr.obj ks l1).nodes = n1 at *
    generalize (Tr.obj ks l1).bytes = b1 at *
    generalize (Tr.obj ks l1).depth = e1 at *
    clear hS
    go_wp2_with fail
    rw [method_obj _ g1 wr _ _ _ _ ?nm d0 d1 d2]
    case nm => kernel_rfl
    go_wp2_with fail
    refine (sized_size n1 b1 e1 _).mono ?_
    rintro e w1 ⟨rfl, hb1⟩
    obtain ⟨hc1, hf1⟩ := old hb1
    have hs1 : w.heap.size + 1 < w1.heap.size := by have := hb1.size; omega
    have hc0' := (hc1 (w.heap.size + 1) 0 hsz).trans hS0
    have hc1' := (hc1 (w.heap.size + 1) 1 hsz).trans hS1
    have hc2' := (hc1 (w.heap.size + 1) 2 hsz).trans hS2
    have hf0' := (hf1 (w.heap.size + 1) 0 hsz).trans hF0
    have hf1' := (hf1 (w.heap.size + 1) 1 hsz).trans hF1
    have hf2' := (hf1 (w.heap.size + 1) 2 hsz).trans hF2
    clear hc1 hf1
    go_wp2
    go_roundw
    case rel => exact ⟨k + 1, by omega, by go_num, HS.out.next hb1 _ _ _ _ (by rw [HN1.out]; (try simp); try omega) (by rw [HN2.out]; (try simp); (try omega)) (by rw [HN3.out]; (try simp); (try omega))⟩
    case measure => simp [intOf]; omega
  ·have hkl : k = l.length := by omega
   subst hkl
   rw [List.take_length] at hS0 hS1 hS2
   have hsum := sums_at l l.length HF.out hlen
   rw [List.take_length] at hsum
   have r0 : wr.cell? ⟨w.heap.size, 0, none⟩ = some (.int .i64 0) := hS.rs.cell 0
   have r1 : wr.cell? ⟨w.heap.size, 1, none⟩ = some (.int .i64 0) := hS.rs.cell 1
   have r2 : wr.cell? ⟨w.heap.size, 2, none⟩ = some (.int .i64 0) := hS.rs.cell 2
   have q0 := hS.rs.frozen 0
   have q1 := hS.rs.frozen 1
   have q2 := hS.rs.frozen 2
   have hbl := hS.bl
   have hRS := (((hS.rs.far (p := ⟨w.heap.size + 1, 2, none⟩) (by show w.heap.size ≠ w.heap.size + 1; omega) (.int .i64 ((depthL l : Int) + 1))).put 0 (.int .i64 (1 + (nodesL l : Int)))).put 1 (.int .i64 ((b : Int) + bytesL l))).put 2 (.int .i64 ((depthL l : Int) + 1))
   have hld := load_sz _ w.heap.size _ _ _ (hRS.cell 0) (hRS.cell 1) (hRS.cell 2)
   have HLD := Lib.hid hld
   clear hS hRS hld
   go_wp2
   refine bodyPost_ret (v := .agg #[.int .i64 ((1 + nodesL l : Nat) : Int), .int .i64 ((b + bytesL l : Nat) : Int), .int .i64 ((depthL l + 1 : Nat) : Int)]) ?_ rfl ⟨rfl, ?_⟩
   ·simp only [results, Tryz.results79]
    simp [asAddr, HLD.out]
   ·exact ((((((hbl.setCell (p := ⟨w.heap.size + 1, 2, none⟩) (by show w.heap.size ≤ w.heap.size + 1; omega) _)).setCell (p := ⟨w.heap.size, 0, none⟩) (Nat.le_refl _) _).setCell (p := ⟨w.heap.size, 1, none⟩) (Nat.le_refl _) _).setCell (p := ⟨w.heap.size, 2, none⟩) (Nat.le_refl _) _))
end Nd
end Go.Proofs.YtbajkglacfheiaaGreatDoor
namespace Go.Proofs.YtbajkglacfheiaaGreatDoor
open Go.RowKit Mem
namespace Nd

theorem group_ok {p : Nat} {ty : TypeId} {B : Nat} {X : Nat → Prop} {l0 : List Tr} {v : Value} {xs : List Value} {w : World} (k : Nat) (tx : TypeId) (ux : Value) (n1 b1 e1 : Int) (hR : Rw p ty B X l0 v xs w) (hk : k ≤ l0.length) (hlen : l0.length ≤ 1048576)
  (hm : ∀ fuel nm, nm = itemM 0 → (method (fuel + 1) tx ux nm).run Tryz.prog w = .ok (287, .agg #[.int .i64 n1, .int .i64 b1, .int .i64 e1]) w) (hwi : withinB n1 b1 e1 = true) (hone : (Value.iface tx ux).oneCell' = true) :
  Calls Tryz.prog 78 #[.pointer (some ⟨p, 0, none⟩), .int .i64 k, .iface tx ux] w fun e w' => e = .returned (.tuple #[]) ∧ PutV p ty B v (l0.length - k + 1) (xs.take (l0.length - k) ++ [.iface tx ux]) w w' := by
 obtain ⟨hBl, hown, hrd, hfit, hlt, hle⟩ := hR
 rcases hown.2 with ⟨rfl, h0⟩ | ⟨g, cap, cur, rfl, _⟩
 ·have hx : xs = [] := by
   have := hown.1
   rw [h0] at this
   exact List.length_eq_zero_iff.1 (by simpa using this)
  have hk0 : k = 0 := by omega
  subst hk0
  subst hx
  rw [h0]
  exact group_nil p ty B tx ux n1 b1 e1 w hBl hlt hle hm hwi hone
 ·exact group_some p ty B l0.length cap g k xs tx ux n1 b1 e1 w hBl hown hlt hle hk hlen _ rfl hm hwi hone
theorem Row.mono {S S' : Nat → Prop} {w : World} {e : TypeId} {v : Value} {xs : List Value} (h : Row S w e v xs) (hm : ∀ k, S k → S' k) : Row S' w e v xs := h.move fun k _ hs => ⟨hm k hs, rfl⟩
theorem new_list {S : Nat → Prop} {w : World} {A : Option Addr} {c : Nat} {l : List Tr} {vs : List Value} (hR : Row S w 56 (.slice A l.length c) vs) (hL : RdL S w l vs) (hS : S w.heap.size) (b : Int) (hb : b = ((Tr.list l).bytes : Int)) :
  RdT S (w.alloc (.cells #[.int .i64 ((1 + nodesL l : Nat) : Int), .int .i64 b, .int .i64 ((depthL l + 1 : Nat) : Int), .slice A l.length c] 207)) (.list l) (.iface 202 (.pointer (some ⟨w.heap.size, 0, none⟩))) := by
 unfold RdT
 subst hb
 refine ⟨w.heap.size, A, c, vs, rfl, hS, Blk.new _ _ _, hR.move fun k hk hs => ⟨hs, Below.heap_alloc w _ k hk⟩, hL.move fun k hk hs => ⟨hs, Below.heap_alloc w _ k hk⟩⟩
theorem new_obj {S : Nat → Prop} {w : World} {A K : Option Addr} {c d : Nat} {ks : List Tx} {l : List Tr} {vs : List Value} (hK : Row S w 9 (.slice K ks.length d) (ks.map txV)) (hR : Row S w 56 (.slice A l.length c) vs) (hL : RdL S w l vs) (g : Nat) (hS : S g)
  (hB : Blk w g 274 #[.int .i64 ((Tr.obj ks l).nodes : Int), .int .i64 ((Tr.obj ks l).bytes : Int), .int .i64 ((Tr.obj ks l).depth : Int), .slice K ks.length d, .slice A l.length c]) :
  RdT S w (.obj ks l) (.iface 271 (.pointer (some ⟨g, 0, none⟩))) := by
 unfold RdT
 exact ⟨g, K, d, A, c, vs, rfl, hS, hB, hK, hR, hL⟩
end Nd
end Go.Proofs.YtbajkglacfheiaaGreatDoor
namespace Go.Proofs.YtbajkglacfheiaaGreatDoor
open Go.RowKit Mem
namespace Nd

theorem fromBits (x : Nat) (W : World) : (callFunc 61 #[.int .u64 (x : Int)]).run Tryz.prog W = .ok (.value (.float .f64 x)) W := by kernel_rfl
theorem isnan_not {b : Nat} (h : b % 9223372036854775808 ≤ 9218868437227405312) (w : World) : Calls Tryz.prog 74 #[.float .f64 b] w fun e w' => e = .returned (.bool false) ∧ w = w' := by
 have ho : FloatKind.f64.format.order b b = some .eq := order_self h
 go_enter Tryz.func74, Tryz.ntmps74
 go_wp2
 go_ret
 exact ⟨rfl, rfl⟩
theorem isnan_yes {b : Nat} (h : 9218868437227405312 < b % 9223372036854775808) (w : World) : Calls Tryz.prog 74 #[.float .f64 b] w fun e w' => e = .returned (.bool true) ∧ w = w' := by
 have ho : FloatKind.f64.format.order b b = none := order_nan h b
 go_enter Tryz.func74, Tryz.ntmps74
 go_wp2
 go_ret
 exact ⟨rfl, rfl⟩
theorem low_bits (b : Nat) (hb : b < 18446744073709551616) : bits .andNot .u64 (b : Int) 9223372036854775808 = ((b % 9223372036854775808 : Nat) : Int) := by
 have h := u64_andNot_nat b 9223372036854775808 hb (by omega)
 have e : b &&& (18446744073709551615 - 9223372036854775808) = b % 9223372036854775808 := Nat.and_two_pow_sub_one_eq_mod b 63
 rw [e] at h
 exact h
theorem abs_any (b r : Nat) (hb : bits .andNot .u64 (b : Int) 9223372036854775808 = (r : Int)) (w : World) : Calls Tryz.prog 117 #[.float .f64 b] w fun e w' => e = .returned (.float .f64 r) ∧ w = w' := by
 have hfb := f64bits b
 have hfr := fromBits r
 go_enter Tryz.func117, Tryz.ntmps117
 go_wp2
 go_ret
 exact ⟨rfl, rfl⟩
theorem isinf_any (b r : Nat) (v : Bool) (hb : bits .andNot .u64 (b : Int) 9223372036854775808 = (r : Int)) (ho : (FloatKind.f64.format.order r 9218868437227405311 == some .gt) = v) (w : World) : Calls Tryz.prog 75 #[.float .f64 b, .int .i64 0] w fun e w' => e = .returned (.bool v) ∧ w = w' := by
 have HB := Lib.hid hb
 clear hb
 go_enter Tryz.func75, Tryz.ntmps75
 go_wp2_with fail
 ((with_reducible refine (abs_any b r HB.out _).mono ?_); rintro e w' ⟨rfl, rfl⟩)
 go_wp2
 go_ret
 exact ⟨rfl, rfl⟩
theorem isinf_not {b : Nat} (hb : b < 18446744073709551616) (h : b % 9223372036854775808 < 9218868437227405312) (w : World) : Calls Tryz.prog 75 #[.float .f64 b, .int .i64 0] w fun e w' => e = .returned (.bool false) ∧ w = w' :=
 isinf_any b _ false (low_bits b hb) (by
  have := order_max (b := b % 9223372036854775808) (by omega) (by omega)
  rw [decide_eq_false (by omega)] at this
  exact this) w
theorem isinf_yes {b : Nat} (hb : b < 18446744073709551616) (h : b % 9223372036854775808 = 9218868437227405312) (w : World) : Calls Tryz.prog 75 #[.float .f64 b, .int .i64 0] w fun e w' => e = .returned (.bool true) ∧ w = w' :=
 isinf_any b _ true (low_bits b hb) (by
  have := order_max (b := b % 9223372036854775808) (by omega) (by omega)
  rw [decide_eq_true h] at this
  exact this) w
end Nd
end Go.Proofs.YtbajkglacfheiaaGreatDoor
