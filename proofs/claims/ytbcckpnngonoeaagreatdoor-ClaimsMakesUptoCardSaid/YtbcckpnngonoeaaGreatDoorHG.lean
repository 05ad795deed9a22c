/-
  A value's steps, in plain terms: they make it again.
  A row of steps of the call's own, with their keys; what a walk keeps of it.
  Walks of package node: steps.
  Walks of package node: a Ref's Steps, a Tree's Steps, a Ref's Tree; what a row of steps reads as.
  Walks of layer 10's law: step, steps.
-/
import Derived.Test.YtbcckpnngonoeaaGreatDoorGG
import Derived.Test.YtbcckpnngonoeaaGreatDoorGF
import Derived.Test.YtbcckpnngonoeaaGreatDoorGI
import Derived.Test.YtbcckpnngonoeaaGreatDoorGE
import Derived.Maps.AppendAt
import Derived.RangeFuncBox
namespace Go.Proofs.YtbcckpnngonoeaaGreatDoor
open Go.RowKit Mem
set_option linter.unusedVariables false
namespace Nd

def ownS : Tr → Stp
  | .null => nullS
  | .flag b => flagS b
  | .num x => numS x
  | .text s => textS s
  | .list l => listS l.length
  | .obj ks _ => objS ks
mutual
def stepsT : Tr → List Stp
  | .null => [nullS]
  | .flag b => [flagS b]
  | .num x => [numS x]
  | .text s => [textS s]
  | .list l => stepsL l ++ [listS l.length]
  | .obj ks l => stepsL l ++ [objS ks]
def stepsL : List Tr → List Stp
  | [] => []
  | t :: l => stepsT t ++ stepsL l
end
def Tr.kid : Tr → List Tr
  | .list l => l
  | .obj _ l => l
  | _ => []
theorem stepsT_kids (t : Tr) : stepsT t = stepsL t.kid ++ [ownS t] := by
  cases t <;> simp [stepsT, Tr.kid, stepsL, ownS]
theorem stepsL_app : ∀ a b : List Tr, stepsL (a ++ b) = stepsL a ++ stepsL b
  | [], b => by simp [stepsL]
  | t :: a, b => by simp [stepsL, stepsL_app a b]
theorem stepsL_snoc (l : List Tr) (k : Nat) (h : k < l.length) : stepsL (l.take (k + 1)) = stepsL (l.take k) ++ stepsT l[k] := by
  rw [List.take_succ_eq_append_getElem h, stepsL_app]
  simp [stepsL]
theorem kid_nodes (t : Tr) : t.nodes = nodesL t.kid + 1 := by
  cases t <;> simp [Tr.nodes, Tr.kid, nodesL] <;> omega
mutual
theorem stepsT_len : ∀ t : Tr, (stepsT t).length = t.nodes
  | .null => by simp [stepsT, Tr.nodes]
  | .flag b => by simp [stepsT, Tr.nodes]
  | .num x => by simp [stepsT, Tr.nodes]
  | .text s => by simp [stepsT, Tr.nodes]
  | .list l => by simp [stepsT, Tr.nodes, stepsL_len l]; omega
  | .obj ks l => by simp [stepsT, Tr.nodes, stepsL_len l]; omega
theorem stepsL_len : ∀ l : List Tr, (stepsL l).length = nodesL l
  | [] => by simp [stepsL, nodesL]
  | t :: l => by simp [stepsL, nodesL, stepsT_len t, stepsL_len l]
end
theorem rise_nodup {ks : List Tx} (h : Rise ks) : ks.Nodup := by
  unfold Rise at h
  refine h.imp ?_
  intro a b hab e
  rw [e, cmp_self] at hab
  omega
theorem rise_sorted {ks : List Tx} (h : Rise ks) : sortK ks = ks := by
  unfold sortK
  refine List.mergeSort_of_pairwise ?_
  unfold Rise at h
  refine h.imp ?_
  intro a b hab
  simp only [Bool.not_eq_true', ltL, decide_eq_false_iff_not]
  have := cmp_turn a b
  omega
theorem mkObj_rise {ks : List Tx} {l : List Tr} (h : Rise ks) (hl : ks.length = l.length) : mkObj ks l = .obj ks l := by
  unfold mkObj
  rw [rise_sorted h, map_idx .null ks (rise_nodup h) l hl.symm]
theorem drop_own {α : Type} (l k : List α) : (l ++ k).drop ((l ++ k).length - k.length) = k := by
  rw [List.length_append, Nat.add_sub_cancel]
  exact List.drop_left
theorem take_own {α : Type} (l k : List α) : (l ++ k).take ((l ++ k).length - k.length) = l := by
  rw [List.length_append, Nat.add_sub_cancel]
  exact List.take_left
theorem doT_list (l : List Tr) (n : Nat) : doT l (listS n) = listT n l := by
  simp [doT, listS, usedB]
theorem doT_obj (l : List Tr) (ks : List Tx) : doT l (objS ks) = objT rightB ks l := by
  simp [doT, objS, usedB]
theorem doT_own (t : Tr) (h : t.Ok) (hf : t.fit = true) (l : List Tr) : doT (l ++ t.kid) (ownS t) = (0, l ++ [t]) := by
  cases t with
  | null => simp [doT, ownS, nullS, usedB, Tr.kid]
  | flag b => simp [doT, ownS, flagS, usedB, Tr.kid]
  | num x =>
    unfold Tr.Ok at h
    simp [doT, ownS, numS, usedB, Tr.kid, h.1, h.2.1]
  | text s =>
    unfold Tr.Ok at h
    have hb := (fit_le hf).2.1
    unfold Tr.bytes at hb
    simp [doT, ownS, textS, usedB, Tr.kid, h, hb]
  | list k =>
    simp only [ownS, Tr.kid]
    rw [doT_list]
    unfold listT
    rw [if_neg (by simp), drop_own, take_own, if_pos hf]
  | obj ks k =>
    unfold Tr.Ok at h
    simp only [ownS, Tr.kid]
    rw [doT_obj]
    have hle : ks.length ≤ (l ++ k).length := by simp; omega
    have hd : (l ++ k).drop ((l ++ k).length - ks.length) = k := by rw [h.1]; exact drop_own l k
    have ht : (l ++ k).take ((l ++ k).length - ks.length) = l := by rw [h.1]; exact take_own l k
    rw [objT_0 h.2.2.1 (rise_nodup h.2.1) hle (by rw [hd, mkObj_rise h.2.1 h.1]; exact hf), hd, ht, mkObj_rise h.2.1 h.1]
theorem runT_one {l l' : List Tr} {s : Stp} {ss : List Stp} {i : Nat} (h : doT l s = (0, l')) : runT l (s :: ss) i = runT l' ss (i + 1) := by
  rw [runT, h]
  simp
theorem run_steps (t : Tr) : t.Ok → t.fit = true → ∀ l rest i, runT l (stepsT t ++ rest) i = runT (l ++ [t]) rest (i + t.nodes) := by
  have grp : ∀ (t : Tr), t.Ok → t.fit = true → (∀ x, x ∈ t.kid → ∀ l rest i, runT l (stepsT x ++ rest) i = runT (l ++ [x]) rest (i + x.nodes)) → ∀ l rest i, runT l (stepsT t ++ rest) i = runT (l ++ [t]) rest (i + t.nodes) := by
    intro t h hf ih l rest i
    have hk : ∀ (k : List Tr), (∀ x, x ∈ k → ∀ l rest i, runT l (stepsT x ++ rest) i = runT (l ++ [x]) rest (i + x.nodes)) → ∀ l rest i, runT l (stepsL k ++ rest) i = runT (l ++ k) rest (i + nodesL k) := by
      intro k
      induction k with
      | nil => intro _ l rest i; simp [stepsL, nodesL]
      | cons x k ihk =>
        intro hx l rest i
        rw [stepsL, List.append_assoc, hx x (by simp), ihk fun y hy => hx y (by simp [hy])]
        simp [nodesL, Nat.add_assoc]
    rw [stepsT_kids, List.append_assoc, hk t.kid ih]
    rw [List.singleton_append, runT_one (doT_own t h hf l), kid_nodes]
    rfl
  induction t using Tr.ind with
  | h0 => exact fun h hf => grp _ h hf fun x hx => by cases hx
  | h1 b => exact fun h hf => grp _ h hf fun x hx => by cases hx
  | h2 x => exact fun h hf => grp _ h hf fun x hx => by cases hx
  | h3 s => exact fun h hf => grp _ h hf fun x hx => by cases hx
  | h4 k ih =>
    intro h hf
    refine grp _ h hf fun x hx => ih x hx ?_ ?_
    · unfold Tr.Ok at h
      exact ((okl_iff k).1 h x hx).1
    · unfold Tr.Ok at h
      exact ((okl_iff k).1 h x hx).2
  | h5 ks k ih =>
    intro h hf
    refine grp _ h hf fun x hx => ih x hx ?_ ?_
    · unfold Tr.Ok at h
      exact ((okl_iff k).1 h.2.2.2 x hx).1
    · unfold Tr.Ok at h
      exact ((okl_iff k).1 h.2.2.2 x hx).2
/-- a value's steps make it again -/
theorem build_steps {t : Tr} (h : t.Ok) (hf : t.fit = true) : buildT (stepsT t) = .inr t := by
  have hr := run_steps t h hf [] [] 0
  rw [List.append_nil, List.nil_append] at hr
  unfold buildT
  rw [if_neg (by rw [stepsT_len]; have := (fit_le hf).1; omega), hr]
  rfl
theorem ownS_fine {t : Tr} (h : t.Ok) (hf : t.fit = true) : (ownS t).Fine := by
  have hb := (fit_le hf).2.1
  have hn := (fit_le hf).1
  cases t with
  | null => exact null_fine
  | flag b => exact flag_fine b
  | num x =>
    unfold Tr.Ok at h
    exact num_fine h.2.2
  | text s =>
    unfold Tr.bytes at hb
    exact text_fine (by omega)
  | list l => exact list_fine _
  | obj ks l =>
    unfold Tr.Ok at h
    unfold Tr.bytes at hb
    unfold Tr.nodes at hn
    have := nodes_len l
    refine obj_fine (fun k hk => ?_) (by omega) (by omega)
    obtain ⟨j, hj, rfl⟩ := List.getElem_of_mem hk
    have := lens_at ks j hj
    omega
theorem steps_fine (t : Tr) : t.Ok → t.fit = true → ∀ s ∈ stepsT t, s.Fine := by
  have grp : ∀ (t : Tr), t.Ok → t.fit = true → (∀ x, x ∈ t.kid → ∀ s ∈ stepsT x, s.Fine) → ∀ s ∈ stepsT t, s.Fine := by
    intro t h hf ih s hs
    have hk : ∀ (k : List Tr), (∀ x, x ∈ k → ∀ s ∈ stepsT x, s.Fine) → ∀ s ∈ stepsL k, s.Fine := by
      intro k
      induction k with
      | nil => intro _ s hs; simp [stepsL] at hs
      | cons x k ihk =>
        intro hx s hs
        rw [stepsL, List.mem_append] at hs
        rcases hs with hs | hs
        · exact hx x (by simp) s hs
        · exact ihk (fun y hy => hx y (by simp [hy])) s hs
    rw [stepsT_kids, List.mem_append] at hs
    rcases hs with hs | hs
    · exact hk _ ih s hs
    · rw [List.mem_singleton] at hs
      rw [hs]
      exact ownS_fine h hf
  induction t using Tr.ind with
  | h0 => exact fun h hf => grp _ h hf fun x hx => by cases hx
  | h1 b => exact fun h hf => grp _ h hf fun x hx => by cases hx
  | h2 x => exact fun h hf => grp _ h hf fun x hx => by cases hx
  | h3 s => exact fun h hf => grp _ h hf fun x hx => by cases hx
  | h4 k ih =>
    intro h hf
    refine grp _ h hf fun x hx => ih x hx ?_ ?_
    · unfold Tr.Ok at h
      exact ((okl_iff k).1 h x hx).1
    · unfold Tr.Ok at h
      exact ((okl_iff k).1 h x hx).2
  | h5 ks k ih =>
    intro h hf
    refine grp _ h hf fun x hx => ih x hx ?_ ?_
    · unfold Tr.Ok at h
      exact ((okl_iff k).1 h.2.2.2 x hx).1
    · unfold Tr.Ok at h
      exact ((okl_iff k).1 h.2.2.2 x hx).2
end Nd
end Go.Proofs.YtbcckpnngonoeaaGreatDoor
namespace Go.Proofs.YtbcckpnngonoeaaGreatDoor
open Go.RowKit Mem
set_option linter.unusedVariables false
namespace Nd

def cell6 (s : Stp) (K : Option Addr) (q : Nat) : List Value := [.int .i64 s.sort, .bool s.flag, .int .u64 (s.bits : Int), .string ⟨s.text.toArray⟩, .int .i64 s.count, .slice K s.keys.length q]
abbrev E6 := Stp × Option Addr × Nat
def cellsE (es : List E6) : List Value := es.flatMap fun e => cell6 e.1 e.2.1 e.2.2
/-- a step's keys lie in a row -/
def KeyRow (w : World) (e : E6) : Prop := w.ownsRow 0 9 1 (.slice e.2.1 e.1.keys.length e.2.2) e.1.keys.length (e.1.keys.map txV)
/-- a row of steps of the call's own -/
def SRow (B : Nat) (ss : List Stp) (v : Value) (w : World) : Prop := ∃ es : List E6, es.map (·.1) = ss ∧ w.ownsRow B 101 6 v ss.length (cellsE es) ∧ ∀ e ∈ es, KeyRow w e
theorem own_typed {w : World} {base size n : Nat} {e : TypeId} {v : Value} {xs : List Value} (h : w.ownsRow base e size v n xs) (g : Nat) (hg : v.ownBlock = some g) : base ≤ g ∧ ∃ cur, w.heap[g]? = some (.cells cur e (0, 0)) := by
  rcases h.2 with ⟨rfl, _⟩ | ⟨g', cap, cur, rfl, h1, h2, _⟩
  · cases hg
  · simp only [Value.ownBlock, Option.some.injEq] at hg
    subst hg
    exact ⟨h1, _, h2⟩
theorem KeyRow.kept {w w' : World} {e : E6} {row : Option Nat} (h : KeyRow w e) (hg : w.grownBy w' row) (hrow : ∀ g, row = some g → ∃ cur, w.heap[g]? = some (.cells cur 101 (0, 0))) : KeyRow w' e := by
  refine World.ownsRow.kept h hg ?_
  cases ho : (Value.slice e.2.1 e.1.keys.length e.2.2).ownBlock with
  | none => exact .inl rfl
  | some g =>
    refine .inr fun e' => ?_
    obtain ⟨_, cur, h1⟩ := own_typed h g ho
    obtain ⟨cur', h2⟩ := hrow g e'.symm
    rw [h1] at h2
    injection h2 with h2
    injection h2 with _ h3 _
    cases h3
theorem KeyRow.below {w w' : World} {e : E6} (h : KeyRow w e) (hb : Below w.heap.size w w') : KeyRow w' e := h.kept (grown_of_below hb none) (fun g hg => by cases hg)
theorem SRow.below {B : Nat} {ss : List Stp} {v : Value} {w w' : World} (h : SRow B ss v w) (hb : Below w.heap.size w w') : SRow B ss v w' := by
  obtain ⟨es, h1, h2, h3⟩ := h
  exact ⟨es, h1, own_below h2 hb, fun e he => (h3 e he).below hb⟩
theorem SRow.block {B : Nat} {ss : List Stp} {v : Value} {w : World} (h : SRow B ss v w) (g : Nat) (hg : v.ownBlock = some g) : B ≤ g ∧ g < w.heap.size ∧ ∃ cur, w.heap[g]? = some (.cells cur 101 (0, 0)) := by
  obtain ⟨es, h1, h2, h3⟩ := h
  obtain ⟨a, cur, b⟩ := own_typed h2 g hg
  exact ⟨a, (Array.getElem?_eq_some_iff.1 b).1, cur, b⟩
theorem srow_nil (B : Nat) (w : World) : SRow B [] (.slice none 0 0) w := ⟨[], rfl, World.ownsRow_nil _ _ _ _, fun e h => by cases h⟩
theorem SRow.append {B : Nat} {ss : List Stp} {v v' : Value} {w w1 w' : World} {e : E6} (h : SRow B ss v w) (hk : KeyRow w e) (hb : Below w.heap.size w w1) (es : List E6) (h1 : es.map (·.1) = ss) (h3 : ∀ e ∈ es, KeyRow w e)
    (ho : w'.ownsRow B 101 6 v' (ss.length + 1) (cellsE es ++ cell6 e.1 e.2.1 e.2.2)) (hg : w1.grownBy w' v.ownBlock) : SRow B (ss ++ [e.1]) v' w' := by
  have hrow : ∀ g, v.ownBlock = some g → ∃ cur, w1.heap[g]? = some (.cells cur 101 (0, 0)) := fun g hg => (h.below hb).block g hg |>.2.2
  refine ⟨es ++ [e], by simp [h1], ?_, fun x hx => ?_⟩
  · rw [List.length_append, List.length_singleton]
    unfold cellsE at ho ⊢
    rw [List.flatMap_append]
    simpa using ho
  · rcases List.mem_append.1 hx with hx | hx
    · exact ((h3 x hx).below hb).kept hg hrow
    · rw [List.mem_singleton] at hx
      subst hx
      exact (hk.below hb).kept hg hrow
theorem own_lower0 {w : World} {B size n : Nat} {e : TypeId} {v : Value} {xs : List Value} (h : w.ownsRow B e size v n xs) : w.ownsRow 0 e size v n xs :=
  ⟨h.1, h.2.imp id fun ⟨g, cap, cur, e1, e2, e3⟩ => ⟨g, cap, cur, e1, Nat.zero_le _, e3⟩⟩
theorem cell6_one (s : Stp) (K : Option Addr) (q : Nat) : ∀ u ∈ cell6 s K q, u.oneCell' = true := by
  intro u hu
  simp [cell6] at hu
  rcases hu with rfl | rfl | rfl | rfl | rfl | rfl <;> rfl
theorem cells_new (w : World) (cs : List Value) (t : TypeId) : ∀ j u, cs[j]? = some u → (w.alloc (.cells cs.toArray t)).cell? ((⟨w.heap.size, 0, none⟩ : Addr).add j) = some u := by
  intro j u hj
  have e1 : (⟨w.heap.size, 0, none⟩ : Addr).add j = ⟨w.heap.size, j, none⟩ := by
    unfold Addr.add
    split <;> simp_all
  rw [e1, (Blk.new w t cs.toArray).cell]
  simpa using hj
theorem info_step : (Tryz.prog.info? 101).map (fun i => (i.zero, i.size, i.bytes)) = some (some (.agg #[.int .i64 0, .bool false, .int .u64 0, .string ⟨#[]⟩, .int .i64 0, .slice none 0 0]), 6, 72) := by kernel_rfl
theorem rowB_at {B : Nat} {w wr : World} {A : Option Addr} {c : Nat} {vs : List Value} {l : List Tr} {k : Nat} (hrow : Row (fun k => k < B) w 106 (.slice A l.length c) vs) (hl : RdL (fun k => k < B) w l vs) (hb : Below B w wr) (hk : k < l.length) :
    ∃ g o tx ux, A = some ⟨g, o, none⟩ ∧ wr.cell? ⟨g, o + k, none⟩ = some (.iface tx ux) ∧ RdT (fun k => k < B) wr l[k] (.iface tx ux) := by
  obtain ⟨A', c', e', h'⟩ := hrow
  injection e' with e1 e2 e3
  have hvl := hl.len
  rcases h' with ⟨h', _⟩ | ⟨g, o, cur, hA, hSg, hBg, hc⟩
  · rw [h'] at hvl
    simp at hvl
    omega
  · have hvk : vs[k]? = some (vs[k]'(by omega)) := List.getElem?_eq_getElem (by omega)
    have hrd := hl.at (List.getElem?_eq_getElem hk) hvk
    obtain ⟨tx, ux, he⟩ := hrd.iface
    refine ⟨g, o, tx, ux, by rw [e1, hA], (hb.cell (p := ⟨g, o + k, none⟩) hSg).trans ((hBg.cell _).trans (hc k _ (by rw [hvk, he]))), ?_⟩
    rw [he] at hrd
    exact RdT.move (fun j _ hj => ⟨hj, hb.block j hj⟩) _ _ hrd
/-- what steps comes to -/
def StepsP (B : Nat) (ss : List Stp) (v : Value) (w : World) (e : Ending) (w' : World) : Prop := ∃ v', e = .returned v' ∧ SRow B ss v' w' ∧ w.grownBy w' v.ownBlock ∧ (v'.ownBlock = v.ownBlock ∨ ∀ g, v'.ownBlock = some g → w.heap.size ≤ g)
theorem StepsP.form {B : Nat} {ss : List Stp} {v : Value} {w : World} (h : SRow B ss v w) : ∃ A c, v = .slice A ss.length c := by
  obtain ⟨es, h1, h2, h3⟩ := h
  exact own_slice h2
/-- the state of the loop over what lies within -/
structure StL (B b5 : Nat) (e : E6) (ss : List Stp) (v0 : Value) (w0 : World) (v : Value) (w : World) : Prop where
  row : SRow B ss v w
  gr : w0.grownBy w v0.ownBlock
  own : v.ownBlock = v0.ownBlock ∨ ∀ g, v.ownBlock = some g → w0.heap.size ≤ g
  bl : Blk w b5 101 (cell6 e.1 e.2.1 e.2.2).toArray
  key : KeyRow w e
  ne : some b5 ≠ v.ownBlock
theorem StL.step {B b5 : Nat} {e : E6} {ss ss' : List Stp} {v0 v v' : Value} {w0 w w' : World} (h : StL B b5 e ss v0 w0 v w) (hr : SRow B ss' v' w') (hg : w.grownBy w' v.ownBlock) (ho : v'.ownBlock = v.ownBlock ∨ ∀ g, v'.ownBlock = some g → w.heap.size ≤ g) : StL B b5 e ss' v0 w0 v' w' := by
  have hs := h.gr.size
  refine ⟨hr, grown_join h.gr hg h.own, ?_, h.bl.only hg h.ne, h.key.kept hg (fun g hg => (h.row.block g hg).2.2), ?_⟩
  · rcases ho with ho | ho
    · rw [ho]
      exact h.own
    · exact .inr fun g hg => by have := ho g hg; omega
  · rcases ho with ho | ho
    · rw [ho]
      exact h.ne
    · intro e'
      have h1 := ho b5 e'.symm
      have h2 := h.bl.lt
      omega
theorem StL.fin {B b5 : Nat} {e : E6} {ss : List Stp} {v0 v v' : Value} {w0 w w' : World} (h : StL B b5 e ss v0 w0 v w) (es : List E6) (h1 : es.map (·.1) = ss) (h3 : ∀ e ∈ es, KeyRow w e) (tmp : Obj)
    (ho : w'.ownsRow B 101 6 v' (ss.length + 1) (cellsE es ++ cell6 e.1 e.2.1 e.2.2)) (hg : (w.alloc tmp).grownBy w' v.ownBlock) (hat : v'.ownBlock = v.ownBlock ∨ v'.ownBlock = some (w.alloc tmp).heap.size) :
    StepsP B (ss ++ [e.1]) v0 w0 (.returned v') w' := by
  have hb : Below w.heap.size w (w.alloc tmp) := (Below.refl _ _).alloc (Nat.le_refl _) _
  have hs := h.gr.size
  have hs2 := hb.size
  refine ⟨v', rfl, h.row.append h.key hb es h1 h3 ho hg, grown_join (grown_alloc h.gr tmp) hg h.own, ?_⟩
  rcases hat with hat | hat
  · rw [hat]
    exact h.own
  · refine .inr fun g hg => ?_
    rw [hat] at hg
    injection hg with hg
    omega
theorem StL.bel {B b5 : Nat} {e : E6} {ss : List Stp} {v0 v : Value} {w0 w : World} (h : StL B b5 e ss v0 w0 v w) (h0 : ∀ g, v0.ownBlock = some g → B ≤ g) (hB : B ≤ w0.heap.size) : Below B w0 w :=
  (Below.refl B w0).grown h.gr hB (fun k hk => h0 k hk)
end Nd
end Go.Proofs.YtbcckpnngonoeaaGreatDoor
namespace Go.Proofs.YtbcckpnngonoeaaGreatDoor
open Go.RowKit Mem
set_option linter.unusedVariables false
set_option linter.unusedSimpArgs false
namespace Nd
end Nd
end Go.Proofs.YtbcckpnngonoeaaGreatDoor
namespace Go.Proofs.YtbcckpnngonoeaaGreatDoor
open Go.RowKit Mem
set_option linter.unusedVariables false
namespace Nd

/-- steps of the call's own -/
def OwnSteps (t : Tr) (w : World) (e : Ending) (w' : World) : Prop := ∃ v', e = .returned v' ∧ SRow w.heap.size (stepsT t) v' w' ∧ Below w.heap.size w w'
theorem cellsE_len (es : List E6) : (cellsE es).length = es.length * 6 := by
  induction es with
  | nil => rfl
  | cons e es ih =>
    unfold cellsE at ih ⊢
    rw [List.flatMap_cons, List.length_append, ih]
    simp [cell6]
    omega
theorem cellsE_at : ∀ (es : List E6) (j : Nat) (e : E6), es[j]? = some e → ∀ i, i < 6 → (cellsE es)[j * 6 + i]? = (cell6 e.1 e.2.1 e.2.2)[i]?
  | [], j, e, h, i, hi => by simp at h
  | x :: es, 0, e, h, i, hi => by
    simp at h
    subst h
    unfold cellsE
    rw [List.flatMap_cons, Nat.zero_mul, Nat.zero_add, List.getElem?_append_left (by simp [cell6]; omega)]
  | x :: es, j + 1, e, h, i, hi => by
    have ih := cellsE_at es j e (by simpa using h) i hi
    unfold cellsE at ih ⊢
    rw [List.flatMap_cons, List.getElem?_append_right (by simp [cell6]; omega), ← ih]
    have e1 : (cell6 x.1 x.2.1 x.2.2).length = 6 := by simp [cell6]
    rw [e1]
    congr 1
    omega
theorem own_rds {w : World} {B n : Nat} {ty : TypeId} {v : Value} {es : List E6} (h : w.ownsRow B ty 6 v n (cellsE es)) (hk : ∀ e ∈ es, RdK w (.slice e.2.1 e.1.keys.length e.2.2) e.1.keys ∧ e.1.keys.length ≤ e.2.2) : RdS w v (es.map (·.1)) := by
  have hl := h.1
  rw [cellsE_len] at hl
  have hn : n = es.length := by omega
  subst hn
  obtain ⟨A, c, rfl⟩ := own_slice h
  refine ⟨A, c, by simp, ?_⟩
  rcases h.2 with ⟨_, h0⟩ | ⟨g, cap, cur, hv, _, hg, _, _, hs, ht⟩
  · left
    rw [List.length_eq_zero_iff.1 h0]
    rfl
  · injection hv with hA _ _
    refine .inr ⟨g, 0, hA, fun j s hs => ?_⟩
    rw [List.getElem?_map] at hs
    cases he : es[j]? with
    | none => rw [he] at hs; cases hs
    | some e =>
      rw [he] at hs
      simp at hs
      subst hs
      have hjl : j < es.length := by
        rcases Nat.lt_or_ge j es.length with h | h
        · exact h
        · rw [List.getElem?_eq_none h] at he
          cases he
      have hc : ∀ i, i < 6 → w.cell? ⟨g, 0 + j * 6 + i, none⟩ = (cell6 e.1 e.2.1 e.2.2)[i]? := by
        intro i hi
        rw [cell_of_row w g _ cur _ _ hg, ← cellsE_at es j e he i hi, ← ht, List.getElem?_take, if_pos (by omega), Nat.zero_add]
        simp
      exact ⟨e.2.1, e.2.2, hc 0 (by omega), hc 1 (by omega), hc 2 (by omega), hc 3 (by omega), hc 4 (by omega), hc 5 (by omega), (hk e (List.mem_of_getElem? he)).1, (hk e (List.mem_of_getElem? he)).2⟩
theorem KeyRow.rdk {w : World} {e : E6} (h : KeyRow w e) : RdK w (.slice e.2.1 e.1.keys.length e.2.2) e.1.keys := by
  refine ⟨_, _, rfl, ?_⟩
  rcases h.2 with ⟨hv, h0⟩ | ⟨g, cap, cur, hv, _, hg, _, _, hs, ht⟩
  · exact .inl (List.length_eq_zero_iff.1 h0)
  · injection hv with hA _ _
    refine .inr ⟨g, 0, hA, fun j t hj => ?_⟩
    have hjl : j < e.1.keys.length := by
      rcases Nat.lt_or_ge j e.1.keys.length with h | h
      · exact h
      · rw [List.getElem?_eq_none h] at hj
        cases hj
    rw [cell_of_row w g _ cur _ _ hg, Nat.zero_add]
    have h2 : (cur.toList.take (e.1.keys.length * 1))[j]? = some (txV t) := by rw [ht, List.getElem?_map, hj]; rfl
    rw [List.getElem?_take, if_pos (by omega)] at h2
    simpa using h2
theorem KeyRow.cap {w : World} {e : E6} (h : KeyRow w e) : e.1.keys.length ≤ e.2.2 := by
  rcases h.2 with ⟨hv, h0⟩ | ⟨g, cap, cur, hv, _, hg, hc, _⟩
  · omega
  · injection hv with _ _ h3
    omega
theorem SRow.rds {B : Nat} {ss : List Stp} {v : Value} {w : World} (h : SRow B ss v w) : RdS w v ss := by
  obtain ⟨es, rfl, h2, h3⟩ := h
  exact own_rds h2 fun e he => ⟨(h3 e he).rdk, (h3 e he).cap⟩
end Nd
end Go.Proofs.YtbcckpnngonoeaaGreatDoor
namespace Go.Proofs.YtbcckpnngonoeaaGreatDoor
open Go.RowKit Mem
set_option linter.unusedVariables false
namespace Nd

def stV (s : Stp) (K : Option Addr) (q : Nat) : Value := .agg #[.int .i64 s.sort, .bool s.flag, .int .u64 (s.bits : Int), .string ⟨s.text.toArray⟩, .int .i64 s.count, .slice K s.keys.length q]
theorem rds_es {w : World} {A : Option Addr} {c : Nat} {ss : List Stp} (h : RdS w (.slice A ss.length c) ss) : ∃ es : List E6, es.map (·.1) = ss ∧ ∀ (k : Nat) (hk : k < ss.length), ∃ g o K q, A = some ⟨g, o, none⟩ ∧ CellS w g (o + k * 6) ss[k] K q ∧ es[k]? = some (ss[k], K, q) := by
  obtain ⟨A', c', e', h'⟩ := h
  injection e' with e1 e2 e3
  subst e1
  rcases h' with rfl | ⟨g, o, rfl, hc⟩
  · exact ⟨[], rfl, fun k hk => by simp at hk⟩
  · have hex : ∀ m, m ≤ ss.length → ∃ es : List E6, es.map (·.1) = ss.take m ∧ ∀ (k : Nat) (hk : k < m) (hk2 : k < ss.length), ∃ K q, CellS w g (o + k * 6) ss[k] K q ∧ es[k]? = some (ss[k], K, q) := by
      intro m
      induction m with
      | zero => exact fun _ => ⟨[], rfl, fun k hk => by omega⟩
      | succ m ih =>
        intro hm
        obtain ⟨es, h1, h2⟩ := ih (by omega)
        obtain ⟨K, q, hcs⟩ := hc m _ (List.getElem?_eq_getElem (by omega))
        have hel : es.length = m := by
          have := congrArg List.length h1
          simp at this
          omega
        refine ⟨es ++ [(ss[m], K, q)], ?_, fun k hk hk2 => ?_⟩
        · rw [List.map_append, h1, List.take_succ_eq_append_getElem (by omega)]
          rfl
        · rcases Nat.lt_or_ge k m with hlt | hge
          · obtain ⟨K', q', h3, h4⟩ := h2 k hlt hk2
            exact ⟨K', q', h3, by rw [List.getElem?_append_left (by omega)]; exact h4⟩
          · obtain rfl : k = m := by omega
            exact ⟨K, q, hcs, by rw [List.getElem?_append_right (by omega), hel]; simp⟩
    obtain ⟨es, h1, h2⟩ := hex ss.length (Nat.le_refl _)
    rw [List.take_of_length_le (Nat.le_refl _)] at h1
    exact ⟨es, h1, fun k hk => by obtain ⟨K, q, h3, h4⟩ := h2 k hk hk; exact ⟨g, o, K, q, rfl, h3, h4⟩⟩
theorem cellsE_snoc (es : List E6) (k : Nat) (e : E6) (h : es[k]? = some e) : cellsE (es.take (k + 1)) = cellsE (es.take k) ++ cell6 e.1 e.2.1 e.2.2 := by
  have hk : k < es.length := by
    rcases Nat.lt_or_ge k es.length with h1 | h1
    · exact h1
    · rw [List.getElem?_eq_none h1] at h
      cases h
  rw [List.take_succ_eq_append_getElem hk]
  unfold cellsE
  rw [List.flatMap_append]
  rw [List.getElem?_eq_getElem hk] at h
  injection h with h
  rw [h]
  simp
theorem info_rstep : (Tryz.prog.info? 177).map (fun i => (i.zero, i.size, i.bytes)) = some (some (.agg #[.int .i64 0, .bool false, .int .u64 0, .string ⟨#[]⟩, .int .i64 0, .slice none 0 0]), 6, 72) := by kernel_rfl
end Nd
end Go.Proofs.YtbcckpnngonoeaaGreatDoor

