/-
  Walk of the statements' own function wakes of layer 25.
  Loads and stores of a whole block, as single steps.
  A row of claims copied by an append; an append as one step of a region whose order is open; what the document's verdict may be.
-/
import Derived.Test.YtobaldkipnhlpaaGreatDoorS14
import Derived.Test.YtobaldkipnhlpaaGreatDoorS24
import Derived.OrdersHeld
import Derived.Deep.AppendSrc
set_option linter.unusedVariables false
set_option linter.unusedSimpArgs false
set_option maxRecDepth 100000
set_option maxHeartbeats 16000000
namespace Go.Proofs.YtobaldkipnhlpaaGreatDoor
open Go.RowKit Mem Utf Ref3 Tok Cl

def cW : C := ⟨[key 7], [], 0, [], [], 0, [], [], 10⟩
def rW (n : Int) : R := ⟨n, 0, [], [], [], []⟩
theorem wk9 : judgeP cW (rW 9) = ⟨1, 10, [], []⟩ := by kernel_rfl
theorem wk10 : judgeP cW (rW 10) = ⟨3, 10, [], []⟩ := by kernel_rfl
theorem rd_none (w : World) : Rd w (.slice none 0 0) [] := ⟨none, 0, rfl, fun j hj => by cases hj⟩
theorem cW_at {w : World} {g : Nat} (h : Blk w g 9 #[.string ⟨#[117, 110, 116, 105, 108]⟩]) : ClAt w cW (.slice (some ⟨g, 0, none⟩) 1 1) (.slice none 0 0) (.slice none 0 0) := by
 refine ⟨⟨_, _, rfl, fun j hj => ?_⟩, rd_none w, rd_none w, by decide, by decide, by decide, by decide, by decide, by decide, (fun t ht => (by cases ht)), (fun t ht => (by cases ht)), fun A n e => ?_, fun A n e => ?_⟩
 ·obtain rfl : j = 0 := by
   have : j < 1 := hj
   omega
  exact ⟨g, 0, rfl, h.lt, h.cell 0⟩
 ·injection e with _ _ e
  subst e
  exact ⟨by decide, by decide⟩
 ·injection e with _ _ e
  subst e
  exact ⟨by decide, by decide⟩
theorem rW_at (n : Int) (w : World) : RuAt w (rW n) (.slice none 0 0) (.slice none 0 0) (.slice none 0 0) :=
 ⟨rd_none w, rd_none w, rd_none w, Nat.zero_le _, Nat.zero_le _, Nat.zero_le _⟩
theorem judgeW (n : Int) (g : Nat) (w : World) (h : Blk w g 9 #[.string ⟨#[117, 110, 116, 105, 108]⟩]) :
  Calls Tryz.prog 26 #[.agg #[.slice (some ⟨g, 0, none⟩) 1 1, .string ⟨#[]⟩, .int .i64 0, .string ⟨#[]⟩, .slice none 0 0, .int .i64 0, .string ⟨#[]⟩, .slice none 0 0, .int .i64 10],
   .agg #[.int .i64 n, .int .i64 0, .string ⟨#[]⟩, .slice none 0 0, .slice none 0 0, .slice none 0 0]] w (JudgeP cW (rW n) w) :=
 judge_any cW (rW n) _ _ _ _ _ _ w (cW_at h) (rW_at n w)

theorem wakes25_any (w : World) : Calls Tryz.prog 8 #[] w fun e w' => e = .returned (.bool true) ∧ Below w.heap.size w w' := by
 have t1 := tv_0_0
 have t2 := tv_2_2
 have hq : ∀ (w : World) o, (w.alloc o).heap.size = w.heap.size + 1 := fun w o => by simp
 go_enter Tryz.func8, Tryz.ntmps8
 go_wp2_with fail
 refine (judgeW 9 w.heap.size _ ((Blk.new w _ _).alloc _)).mono ?_
 rintro e w1 ⟨v, rfl, hv, hb1⟩
 rw [wk9] at hv
 obtain rfl : v = _ := hv
 have hS : Blk w1 w.heap.size 9 #[.string ⟨#[117, 110, 116, 105, 108]⟩] := ((Blk.new w _ _).alloc _).below hb1 (by rw [hq, hq]; omega)
 have hC : Blk w1 (w.heap.size + 1) 38 #[.slice (some ⟨w.heap.size, 0, none⟩) 1 1, .string ⟨#[]⟩, .int .i64 0, .string ⟨#[]⟩, .slice none 0 0, .int .i64 0, .string ⟨#[]⟩, .slice none 0 0, .int .i64 10] := by
  have := Blk.new (w.alloc (.cells #[.string ⟨#[117, 110, 116, 105, 108]⟩] 9)) 38 #[.slice (some ⟨w.heap.size, 0, none⟩) 1 1, .string ⟨#[]⟩, .int .i64 0, .string ⟨#[]⟩, .slice none 0 0, .int .i64 0, .string ⟨#[]⟩, .slice none 0 0, .int .i64 10]
  rw [hq] at this
  exact this.below hb1 (by rw [hq, hq]; omega)
 have hbw := below_chain (((Below.refl w.heap.size w).alloc (Nat.le_refl _) _).alloc (by rw [hq]; omega) _) (by rw [hq, hq]; omega) hb1
 clear hb1
 have hSl := hS.lt
 have hCl := hC.lt
 have hs := hbw.size
 obtain ⟨e0, e1, e2, e3, e4, e5, e6, e7, e8⟩ := C9 hC
 go_wp2_with fail
 refine (judgeW 10 w.heap.size _ (hS.alloc _)).mono ?_
 rintro e w2 ⟨v, rfl, hv, hb2⟩
 rw [wk10] at hv
 obtain rfl : v = _ := hv
 have hH : Blk w2 w1.heap.size 112 #[.int .i64 10] := (Blk.new w1 _ _).below hb2 (by rw [hq]; omega)
 have h0 : w2.cell? ⟨w1.heap.size, 0, none⟩ = some (.int .i64 10) := hH.cell 0
 have hHl := hH.lt
 have hbw2 := below_chain (hbw.alloc hs _) (by rw [hq]; omega) hb2
 have hs2 := hbw2.size
 clear hb2 e0 e1 e2 e3 e4 e5 e6 e7 e8
 go_wp2
 go_ret
 exact ⟨rfl, hbw2.alloc hs2 _⟩
end Go.Proofs.YtobaldkipnhlpaaGreatDoor
namespace Go.Proofs.YtobaldkipnhlpaaGreatDoor
open Go.RowKit Mem

def putCells (w : World) (g : Nat) : List Value → Nat → World
 | [], _ => w
 | v :: r, i => putCells (w.setCell ⟨g, i, none⟩ v) g r (i + 1)
theorem addr_add (g i : Nat) : (⟨g, 0, none⟩ : Addr).add i = ⟨g, i, none⟩ := by
 unfold Addr.add
 split <;> simp_all
theorem run_storeCells {P : Program} : ∀ (l : List Value) (w : World) (g : Nat) (t : TypeId) (cs : Array Value) (i : Nat), Blk w g t cs → i + l.length ≤ cs.size → (∀ v ∈ l, v.oneCell' = true) →
  (storeCells ⟨g, 0, none⟩ l i).run P w = .ok () (putCells w g l i)
 | [], w, g, t, cs, i, h, hl, _ => rfl
 | v :: r, w, g, t, cs, i, h, hl, ho => by
  have hc : w.cell? ⟨g, i, none⟩ = some (cs[i]'(by simp at hl; omega)) := by
   rw [h.cell i, Array.getElem?_eq_getElem]
  have hf := h.frozen i
  have ih := run_storeCells (P := P) r (w.setCell ⟨g, i, none⟩ v) g t _ (i + 1) (h.put i v) (by simp at hl ⊢; omega) (fun u hu => ho u (List.mem_cons_of_mem _ hu))
  rw [storeCells, Sem.run_bind, addr_add, run_store P w _ v .plain (ho v (List.mem_cons_self ..)), hc]
  simp only [hf, Result.andThen_ok, Bool.false_eq_true, if_false]
  exact ih
theorem putCells_far {g k : Nat} (hk : k ≠ g) : ∀ (l : List Value) (w : World) (i : Nat) (t : TypeId) (cs : Array Value), Blk w k t cs → Blk (putCells w g l i) k t cs
 | [], w, i, t, cs, h => h
 | v :: r, w, i, t, cs, h => putCells_far hk r _ (i + 1) t cs (h.far (p := ⟨g, i, none⟩) hk v)
theorem putCells_below {B g : Nat} (hB : B ≤ g) : ∀ (l : List Value) (w0 w : World) (i : Nat), Below B w0 w → Below B w0 (putCells w g l i)
 | [], w0, w, i, h => h
 | v :: r, w0, w, i, h => putCells_below hB r w0 _ (i + 1) (h.setCell (by exact hB) v)
def putList : List Value → Nat → Array Value → Array Value
 | [], _, cs => cs
 | v :: r, i, cs => putList r (i + 1) (cs.setIfInBounds i v)
theorem putCells_blk {g : Nat} {t : TypeId} : ∀ (l : List Value) (w : World) (i : Nat) (cs : Array Value), Blk w g t cs → Blk (putCells w g l i) g t (putList l i cs)
 | [], w, i, cs, h => h
 | v :: r, w, i, cs, h => putCells_blk r _ (i + 1) _ (h.put i v)
theorem run_storeVar_row {P : Program} (w : World) (g : Nat) (t ty : TypeId) (cs ds : Array Value) (h : Blk w g t cs) (hs : ds.size = cs.size) (ho : ∀ v ∈ ds.toList, v.oneCell' = true) (hi : (P.info? ty).map (·.size) = some ds.size) :
  (storeVar ty ⟨g, 0, none⟩ (.agg ds)).run P w = .ok () (putCells w g ds.toList 0) := by
 cases hq : P.info? ty with
 | none => simp [hq] at hi
 | some i =>
  have hz : i.size = ds.size := by simpa [hq] using hi
  have hc : (Value.agg ds).cells = ds := rfl
  have hr := run_storeCells (P := P) ds.toList w g t cs 0 h (by simp [hs]) ho
  simp [storeVar, Sem.run_bind, sizeOf, typeInfo, hq, hz, hc, hr]
theorem putList_list : ∀ (l : List Value) (i : Nat) (cs : Array Value), i + l.length = cs.size → (putList l i cs).toList = cs.toList.take i ++ l
 | [], i, cs, h => by
  rw [putList, List.append_nil, List.take_of_length_le (by simp at h ⊢; omega)]
 | v :: r, i, cs, h => by
  have hi : i < cs.toList.length := by simp at h ⊢; omega
  rw [putList, putList_list r (i + 1) _ (by simp at h ⊢; omega), Array.toList_setIfInBounds]
  rw [List.take_succ_eq_append_getElem (by simp at hi ⊢; omega), List.getElem_set_self, List.take_set_of_le (Nat.le_refl _)]
  simp
theorem putList_all {ds cs : Array Value} (h : ds.size = cs.size) : putList ds.toList 0 cs = ds := by
 apply Array.toList_inj.1
 rw [putList_list _ 0 cs (by simpa using h)]
 simp
end Go.Proofs.YtobaldkipnhlpaaGreatDoor
namespace Go.Proofs.YtobaldkipnhlpaaGreatDoor
open Go.RowKit Mem Utf Ref3 Tok Cl

theorem judge0_kind (c : C) (r : R) : 1 ≤ (judge0 c r).kind ∧ (judge0 c r).kind ≤ 7 := by
 unfold judge0
 split
 ·exact ⟨(by decide : 1 ≤ 4), (by decide : 4 ≤ 7)⟩
 ·unfold judge1
  split
  ·exact ⟨(by decide : 1 ≤ 5), (by decide : 5 ≤ 7)⟩
  ·unfold judge2
   split
   ·exact ⟨(by decide : 1 ≤ 6), (by decide : 6 ≤ 7)⟩
   ·unfold judge3
    split
    ·exact ⟨(by decide : 1 ≤ 2), (by decide : 2 ≤ 7)⟩
    ·unfold judge4
     split
     ·exact ⟨(by decide : 1 ≤ 3), (by decide : 3 ≤ 7)⟩
     ·unfold judge5
      split
      ·exact ⟨(by decide : 1 ≤ 1), (by decide : 1 ≤ 7)⟩
      ·exact ⟨(by decide : 1 ≤ 7), (by decide : 7 ≤ 7)⟩
theorem judge0_len {c : C} {r : R} {N : Nat} (h1 : c.for_.length ≤ N) (h2 : r.may_.length ≤ N) : (judge0 c r).list.length ≤ N := by
 unfold judge0
 split
 ·exact Nat.zero_le _
 ·unfold judge1
  split
  ·exact Nat.zero_le _
  ·unfold judge2
   split
   ·exact h1
   ·unfold judge3
    split
    ·exact Nat.zero_le _
    ·unfold judge4
     split
     ·exact Nat.zero_le _
     ·unfold judge5
      split
      ·exact Nat.zero_le _
      ·have := lackF_len c.may_ r.may_ []
       simp only [List.length_nil, Nat.zero_add] at this
       exact Nat.le_trans this h2
theorem judgeP_fit {c : C} {r : R} (h : fit c r = true) : judgeP c r = judge0 c r := by
 rw [judgeP, if_pos h]
theorem judgeP_unfit {c : C} {r : R} (h : fit c r = false) : judgeP c r = ⟨0, 0, [], []⟩ := by
 rw [judgeP, if_neg (by rw [h]; decide)]
theorem wpList_store_row {P : Program} {ops : Array Oper} {rest : List Oper} {o : Oper} {a : Act} {w : World} {Q : Exit → Act → World → Prop} (hgd : o.guard = none) (ty : TypeId) (p x : Operand) (ho : o.op = .store ty p x)
  (g : Nat) (t : TypeId) (cs ds : Array Value) (hp : a.eval p = .pointer (some ⟨g, 0, none⟩)) (hx : a.eval x = .agg ds) (hB : Blk w g t cs) (hs : ds.size = cs.size) (h1 : ∀ v ∈ ds.toList, v.oneCell' = true) (hi : (P.info? ty).map (·.size) = some ds.size) (hd : o.dst = none)
  (h : wpList P ops Q rest a (putCells w g ds.toList 0)) : wpList P ops Q (o :: rest) a w :=
 wpList_plain hgd fun K hK => by
  have hst := run_storeVar_row (P := P) w g t ty cs ds hB hs h1 hi
  unfold Oper.wp execOp
  simp only [ho, hp, hx, Instr.storeAt, Instr.sureAddr, Sem.run_bind, Sem.run_pure, Result.andThen_ok, hst]
  have e : a.put o.dst undef = a := by rw [hd]; rfl
  exact hK _ _ (by rw [e]; exact h)
end Go.Proofs.YtobaldkipnhlpaaGreatDoor
