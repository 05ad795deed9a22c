/-
  Lent, kept and the document's Change of layer 25 (laid by wip/merge.py of ClGa ClGb ClGc ClGd).
-/
import Derived.Test.YtnondmeafilplaaGreatDoorClX
import Derived.Laws.MakeOwn
import Derived.Laws.AppendOwnNone
import Derived.Test.YtnondmeafilplaaGreatDoorClTQ
import Derived.Test.YtnondmeafilplaaGreatDoorClS
import Derived.Deep.MidRow
import Derived.Deep.RegionHeld3
namespace Go.Proofs.YtnondmeafilplaaGreatDoor
open Go.RowKit Mem Utf Ref3 Tok Cl
set_option linter.unusedVariables false

theorem make_strs (n : Nat) (hn : n ≤ 1099511627776) (W : World) :
    (Instr.makeSlice 23 (.int .i64 0) (.int .i64 ((n : Int) + 70))).run Tryz.prog W =
      .ok (.slice (some ⟨W.heap.size, 0, none⟩) 0 (n + 70)) (W.alloc (.cells (madeCells (Value.string ByteArray.empty).cells (n + 70)) 9)) := by
  obtain ⟨i0, hi0, hz0, hz1, hz2⟩ := info_parts info_str
  have h := run_make W 23 9 i0 _ Tryz.underlying23 hi0 hz0 .i64 .i64 0 ((n : Int) + 70) (by omega) (by omega) (by rw [hz2]; omega) (by omega)
  rw [hz1, Nat.mul_one, show ((n : Int) + 70).toNat = n + 70 from by omega] at h
  exact h
set_option maxRecDepth 100000 in
/-- append of texts that can be read, to a slice with room -/
theorem wpList_app_texts {w : World} {ops : Array Oper} {rest : List Oper} {o : Oper} {a : Act} {Q : Exit → Act → World → Prop} (hgd : o.guard = none) (s x : Operand)
    (ho : o.op = .call { callee := .builtin .append, args := #[s, x], argTypes := #[23, 23] })
    (base g cap : Nat) (hs : a.eval s = .slice (some ⟨g, 0, none⟩) 0 cap) (hown : w.ownsRow base 9 1 (.slice (some ⟨g, 0, none⟩) 0 cap) 0 [])
    (v : Value) (l : List Txt) (hx : a.eval x = v) (hr : Rd w v l) (hl : l.length ≤ 1099511627776) (hbase : base ≤ w.heap.size)
    (h : ∀ v' w', w'.ownsRow base 9 1 v' l.length (l.map strV) → w.grownBy w' (some g) → wpList Tryz.prog ops Q rest (a.put o.dst v') w') : wpList Tryz.prog ops Q (o :: rest) a w := by
  obtain ⟨i0, hi0, hz0, hz1, hz2⟩ := info_parts info_str
  rcases rd_forms hr with ⟨rfl, A, c, rfl⟩ | ⟨b, off, c, rfl, hpos⟩
  · refine wpList_plain hgd fun K hK => ?_
    have hsrc : Src Tryz.prog i0.size 23 (.slice A 0 c) 0 [] w := by
      cases A with
      | none => exact Src.ofNil w Tryz.underlying23 c
      | some ad => exact Src.ofSlice w Tryz.underlying23 ad 0 c [] (by simp) (fun j u hu => by simp at hu) (fun u hu => by cases hu)
    have hrun := run_append_room_src (P := Tryz.prog) w 23 23 o.type 9 i0 Tryz.underlying23 hi0 g 0 0 cap (.slice A 0 c) 0 [] hsrc (by omega) (fun j hj => by simp at hj) (fun j hj => by simp at hj)
    rw [show w.setCells g (0 + 0 * i0.size) [] = w from rfl, Nat.add_zero] at hrun
    unfold Oper.wp execOp
    simp only [ho, resolve, invoke, builtin, Sem.run_bind, Sem.run_pure, Result.andThen_ok, List.map_toArray, List.map_cons, List.map_nil, hs, hx, hrun]
    exact hK _ _ (h _ w hown (grown_refl _ _))
  · refine wpList_append_own w hgd s x 23 ho base 9 i0 _ 1 16 Tryz.underlying23 hi0 hz0 hz1 hz2 rfl (by omega) _ 0 [] hs hown ⟨b, off, none⟩ l.length c (l.map strV) hx (by simp) (fun j u hu => ?_) (fun u hu => ?_) (by unfold maxLen; omega) (by omega) hbase
      (fun v' w' h1 h2 _ => h v' w' (by simpa using h1) h2)
    · have hj : j < l.length := by simpa using (List.getElem?_eq_some_iff.1 hu).1
      obtain ⟨A', c', hAc, hcell⟩ := hr
      injection hAc with hA1 _ hc1
      obtain ⟨g', off', hg, _, hcell⟩ := hcell j hj
      rw [← hA1] at hg
      injection hg with hg
      injection hg with e1 e2
      subst e1; subst e2
      rw [List.getElem?_map, List.getElem?_eq_getElem hj] at hu
      injection hu with hu
      subst hu
      have e1 : (⟨b, off, none⟩ : Addr).add j = ⟨b, off + j, none⟩ := by
        unfold Addr.add
        split <;> simp_all
      rw [e1]
      exact hcell
    · rw [List.mem_map] at hu
      obtain ⟨t', _, rfl⟩ := hu
      rfl
/-- texts, and so many tildes behind them -/
def full (ts : List Txt) (q : Nat) : List Txt := ts ++ List.replicate q [126]
theorem full_len (ts : List Txt) (q : Nat) : (full ts q).length = ts.length + q := by simp [full]
theorem full_snoc (ts : List Txt) (q : Nat) : full ts (q + 1) = full ts q ++ [[126]] := by simp [full, List.replicate_succ', List.append_assoc]
theorem full_lo (ts : List Txt) (q k : Nat) (h : k < ts.length) (h' : k < (full ts q).length) : (full ts q)[k] = ts[k] := by simp [full, List.getElem_append_left h]
theorem full_hi (ts : List Txt) (q k : Nat) (h : ts.length ≤ k) (h' : k < (full ts q).length) : (full ts q)[k] = [126] := by
  simp [full, List.getElem_append_right h]
/-- texts that were lent: a row of its own, with the marks behind -/
def Lent (B : Nat) (w : World) (v : Value) (l : List Txt) : Prop :=
  ∃ g cap, v = .slice (some ⟨g, 0, none⟩) l.length cap ∧ l.length + 70 ≤ cap ∧ cap ≤ 9223372036854775807 ∧ w.ownsRow B 9 1 (.slice (some ⟨g, 0, none⟩) (l.length + 70) cap) (l.length + 70) ((full l 70).map strV)
theorem Lent.below {B : Nat} {w w' : World} {v : Value} {l : List Txt} (h : Lent B w v l) (hb : Below w.heap.size w w') : Lent B w' v l := by
  obtain ⟨g, cap, e, h1, h2, h3⟩ := h
  exact ⟨g, cap, e, h1, h2, own_below h3 hb⟩
theorem Lent.base {B B' : Nat} {w : World} {v : Value} {l : List Txt} (h : Lent B w v l) (hB : B' ≤ B) : Lent B' w v l := by
  obtain ⟨g, cap, e, h1, h2, h3⟩ := h
  exact ⟨g, cap, e, h1, h2, own_base h3 hB⟩
theorem Lent.rd {B : Nat} {w : World} {v : Value} {l : List Txt} (h : Lent B w v l) : Rd w v l := by
  obtain ⟨g, cap, rfl, h1, h2, hown⟩ := h
  refine ⟨_, _, rfl, fun j hj => ⟨g, 0, rfl, (hown.lt g rfl).2, ?_⟩⟩
  have hjf : j < (full l 70).length := by rw [full_len]; omega
  rw [Nat.zero_add, hown.cellAt j (by omega), List.getElem?_map, List.getElem?_eq_getElem hjf, full_lo l 70 j hj hjf]
  rfl

set_option maxRecDepth 100000 in
set_option maxHeartbeats 4000000 in
theorem lent_any (v : Value) (ts : List Txt) (w : World) (hv : Rd w v ts) (hlen : ts.length ≤ 1099511627776) :
    Calls Tryz.prog 21 #[v] w fun e w' => (∃ z, e = .returned z ∧ Lent w.heap.size w' z ts) ∧ Below w.heap.size w w' := by
  obtain ⟨i0, hi0, hz0, hz1, hz2⟩ := info_parts info_str
  have hmk := make_strs ts.length (by omega)
  obtain ⟨A, c, rfl, _⟩ := id hv
  go_enter Tryz.func21, Tryz.ntmps21
  have hR1 : Rd (w.alloc (.cells (madeCells (Value.string ByteArray.empty).cells (ts.length + 70)) 9)) (.slice A ts.length c) ts := hv.below (Joins.below_alloc1 _ _)
  have hO1 : (w.alloc (.cells (madeCells (Value.string ByteArray.empty).cells (ts.length + 70)) 9)).ownsRow w.heap.size 9 1 (.slice (some ⟨w.heap.size, 0, none⟩) 0 (ts.length + 70)) 0 [] :=
    World.ownsRow_made w _ (ts.length + 70) (Nat.le_refl _) (by unfold maxLen; omega) (by simp [madeCells, Value.cells])
  go_wp2_with (at_builtin; go_must (refine wpList_app_texts rfl (.tmp 9) (.tmp 10) rfl w.heap.size w.heap.size (ts.length + 70) rfl hO1 _ ts rfl hR1 hlen (by simp) ?_); intro v3 w3 hown3 hgr3)
  have hbw3 : Below w.heap.size w w3 := ((Below.refl _ _).alloc (Nat.le_refl _) _).grown hgr3 (by simp) (fun q hq => by injection hq with hq; omega)
  clear hmk hR1 hO1 hgr3
  go_loopw [3, 4] (fun c3 c4 wr => ∃ q : Nat, q ≤ 70 ∧ c4 = .int .i64 q ∧ wr.ownsRow w.heap.size 9 1 c3 (ts.length + q) ((full ts q).map strV) ∧ Below w.heap.size w wr) (fun _ c4 _ => 70 - (intOf c4).toNat)
  case atStart => exact ⟨0, by omega, rfl, by simpa [full] using hown3, hbw3⟩
  case round =>
    obtain ⟨q, hq, rfl, hown, hbw⟩ := hrel
    have hbs := hbw.size
    by_cases hlt : q < 70
    · go_wp2_with (at_builtin; refine wpList_append_own _ rfl (.tmp 16) (.tmp 17) _ rfl w.heap.size 9 i0 _ 1 16 Tryz.underlying23 hi0 hz0 hz1 hz2 rfl (by omega) u3 (ts.length + q) ((full ts q).map strV) rfl (hown.alloc _) ⟨wr.heap.size, 0, none⟩ 1 1 [.string ⟨#[126]⟩] rfl rfl (one_new _ _ _) (one_cell _ rfl) (by unfold maxLen; omega) (by omega) (by simp; omega) ?_; intro v9 w9 hown9 hgr9 hnil9)
      go_wp2
      go_roundw
      case rel => exact ⟨q + 1, by omega, by go_num, by rw [full_snoc, List.map_append]; exact hown9, (hbw.alloc hbs _).grown hgr9 (by simp; omega) (fun q hq => (hown.lt q hq).1)⟩
      case measure => simp [intOf]; omega
    · obtain rfl : q = 70 := by omega
      clear hown3 hbw3
      obtain ⟨wo, rfl⟩ : ∃ wo : World, wo = wr := ⟨_, rfl⟩
      obtain ⟨g, cap, rfl, hgl⟩ := Joins.ownsRow_form hown (by omega)
      have hcap : ts.length + 70 ≤ cap ∧ cap ≤ maxLen := by
        rcases hown.2 with ⟨h, _⟩ | ⟨g', cap', cur, h, _, _, hn, hc, _⟩
        · cases h
        · injection h with _ _ h
          rw [h]
          exact ⟨hn, hc⟩
      have hcap1 : ts.length ≤ cap := by omega
      have hcap2 : cap ≤ 9223372036854775807 := by have := hcap.2; unfold maxLen at this; omega
      have hcap3 := hcap.1
      clear hcap
      go_wp2
      go_ret
      exact ⟨⟨_, rfl, g, cap, rfl, hcap3, hcap2, hown⟩, hbw⟩

set_option maxRecDepth 100000 in
set_option maxHeartbeats 4000000 in
theorem kept_any (B : Nat) (z v : Value) (ts : List Txt) (w : World) (hz : Lent B w z ts) (hv : Rd w v ts) (hlen : ts.length ≤ 1099511627776) :
    Calls Tryz.prog 23 #[z, v] w fun e w' => e = .returned (.bool true) ∧ Below w.heap.size w w' := by
  obtain ⟨g, cap, rfl, hcap3, hcap2, hown⟩ := hz
  obtain ⟨A, c, rfl, hcell⟩ := hv
  have hcap1 : ts.length ≤ cap := by omega
  have hfull : ∀ j (h : j < ts.length + 70) (h' : j < (full ts 70).length), w.cell? ⟨g, j, none⟩ = some (.string ⟨(full ts 70)[j].toArray⟩) := fun j h h' => by
    rw [hown.cellAt j (by omega), List.getElem?_map, List.getElem?_eq_getElem h']
    rfl
  clear hown
  go_enter Tryz.func23, Tryz.ntmps23
  go_wp2
  go_loopw [14] (fun c14 wr => ∃ k q : Nat, k ≤ ts.length + 70 ∧ c14 = .int .i64 k ∧ wr = w.drewN q) (fun c14 _ => ts.length + 70 - (intOf c14).toNat)
  case atStart => exact ⟨0, 0, by omega, rfl, rfl⟩
  case round =>
    obtain ⟨k, q, hk, rfl, rfl⟩ := hrel
    by_cases hlt : k < ts.length + 70
    · have hkf : k < (full ts 70).length := by rw [full_len]; exact hlt
      have hc1 := hfull k hlt hkf
      by_cases hkt : k < ts.length
      · rw [full_lo ts 70 k hkt hkf] at hc1
        obtain ⟨g', o', rfl, hgl', hcell⟩ := hcell k hkt
        have hc2 : w.cell? ⟨g', o' + k, none⟩ = some (.string ⟨ts[k].toArray⟩) := hcell
        have hi0' : (0 : Int) ≤ (k : Int) := by omega
        have hi1 : (k : Int) < (ts.length : Int) := by omega
        have hi2 : (k : Int) < ((ts.length : Int) + 70) := by omega
        have hd1 : decide (k < ts.length) = true := by simpa using hkt
        have hd2 : decide (ts.length ≤ k) = false := by simp; omega
        have hs : (!ts[k] == ts[k]) = false := by simp
        clear hcell hfull
        go_wp2
        go_quiet (fail)
        go_wp2
        go_roundw
        case rel => exact ⟨k + 1, _, by omega, by go_num, rfl⟩
        case measure => simp [intOf]; omega
      · rw [full_hi ts 70 k (by omega) hkf] at hc1
        have hi0' : (0 : Int) ≤ (k : Int) := by omega
        have hi2 : (k : Int) < ((ts.length : Int) + 70) := by omega
        have hd1 : decide (k < ts.length) = false := by simp; omega
        have hd2 : decide (ts.length ≤ k) = true := by simp; omega
        have hge : ts.length ≤ k := by omega
        clear hfull hcell
        go_wp2
        go_quiet (fail)
        go_wp2
        go_roundw
        case rel => exact ⟨k + 1, _, by omega, by go_num, rfl⟩
        case measure => simp [intOf]; omega
    · obtain rfl : k = ts.length + 70 := by omega
      have hb := drewN_below (B := w.heap.size) w q
      clear hfull hcell
      go_wp2
      go_ret
      exact ⟨rfl, hb⟩
end Go.Proofs.YtnondmeafilplaaGreatDoor
namespace Go.Proofs.YtnondmeafilplaaGreatDoor
open Go.RowKit Ref3 Tok
set_option linter.unusedVariables false
namespace Cl
/-- the better of two times -/
def bestC (K : Int → Nat) (now best : Int) (has : Bool) (t : Int) : Int := if has = true ∧ now < t ∧ t ≤ 9007199254740991 ∧ K t ≠ K now ∧ (best < 0 ∨ t < best) then t else best
def best1 (c : C) (r : R) : Int := bestC (Kj c r) r.now (-1) (startP c).2 ((startP c).1 - r.slack)
def best2 (c : C) (r : R) : Int := bestC (Kj c r) r.now (best1 c r) (inB c.has (key 7)) (c.until_ + r.slack)
theorem best_ch (K : Int → Nat) (now s u : Int) (hs hu : Bool) (h0 : 0 ≤ now) :
    changeK K (K now) now (sort2 ((if hs = true then [s] else []) ++ (if hu = true then [u] else []))) =
      if bestC K now (bestC K now (-1) hs s) hu u < 0 then (0, false) else (bestC K now (bestC K now (-1) hs s) hu u, true) := by
  cases hs <;> cases hu
  · simp [sort2, changeK, bestC]
  · simp only [sort2, changeK, bestC, isTime_no, List.nil_append, if_true, Bool.false_eq_true, if_false, false_and, true_and]
    grind
  · simp only [sort2, changeK, bestC, isTime_no, List.append_nil, if_true, Bool.false_eq_true, if_false, false_and, true_and]
    grind
  · rcases Int.le_total s u with hsu | hsu
    · simp only [sort2, changeK, bestC, isTime_no, if_true, true_and, List.cons_append, List.nil_append, Int.min_eq_left hsu, Int.max_eq_right hsu]
      grind
    · simp only [sort2, changeK, bestC, isTime_no, if_true, true_and, List.cons_append, List.nil_append, Int.min_eq_right hsu, Int.max_eq_left hsu]
      grind
theorem change_best {c : C} {r : R} (h : fit c r = true) : changeP c r = if best2 c r < 0 then (0, false) else (best2 c r, true) := by
  obtain ⟨h1, h2, h3⟩ := fit_parts h
  have hk : kindP (judgeP c r) = (Kj c r r.now : Int) := kindP_fit (x := r.now) h (by rw [isTime_iff]; exact h2)
  have hl := changeL_K h (Kj_le c r r.now) (sort2 (timesW c r)) r.now
  unfold changeP
  rw [hk]
  refine hl.trans ?_
  rw [timesW_fit h]
  exact best_ch (Kj c r) r.now _ _ _ _ h2.1
end Cl
end Go.Proofs.YtnondmeafilplaaGreatDoor
namespace Go.Proofs.YtnondmeafilplaaGreatDoor
open Go.RowKit Mem Utf Ref3 Tok Cl
set_option linter.unusedVariables false

def firstOf : Code → Code
  | .seq a _ => a
  | c => c
def opsOf : Code → Array Oper
  | .region _ ops _ => ops
  | _ => #[]
theorem wpAnyH_listed {P : Program} {md : Region.Mode} {ops : Array Oper} {Q : Exit → Act → World → Prop} {S : World → Prop} {n : Nat} {l : Array Bool} {a : Act} {w : World} (l' : Array Bool) (a' : Act) (hl : l = l') (ha : a = a') (h : wpAnyH P md ops Q S n l' a' w) : wpAnyH P md ops Q S n l a w := by
  rw [hl, ha]
  exact h
theorem yields_addr {ops : Array Oper} {S : World → Prop} {o : Oper} {a : Act} (hg : o.guard = none) (t : TypeId) (x : Operand) (k : Nat) (ho : o.op = .fieldAddr t x k) (u v : Value) (hx : a.eval x = u) (hr : ∀ W, (Instr.fieldAt t u k).run Tryz.prog W = .ok v W) : YieldsIf Tryz.prog ops S o v a :=
  .inl ⟨by simp [Region.wanted, hg], fun W _ => by
    unfold execOp
    simp only [ho, hx, Sem.run_bind, hr, Result.andThen_ok, Sem.run_pure]⟩
theorem yields_load1 {ops : Array Oper} {S : World → Prop} {o : Oper} {a : Act} (hg : o.guard = none) (t : TypeId) (x : Operand) (ho : o.op = .load t x) (u v : Value) (hx : a.eval x = u) (hr : ∀ W, S W → (Instr.loadAt t u).run Tryz.prog W = .ok v W) : YieldsIf Tryz.prog ops S o v a :=
  .inl ⟨by simp [Region.wanted, hg], fun W hW => by
    unfold execOp
    simp only [ho, hx, Sem.run_bind, hr W hW, Result.andThen_ok, Sem.run_pure]⟩
theorem yields_assign {ops : Array Oper} {S : World → Prop} {o : Oper} {a : Act} (hg : o.guard = none) (x : Operand) (ho : o.op = .assign x) (v : Value) (hx : a.eval x = v) : YieldsIf Tryz.prog ops S o v a :=
  .inl ⟨by simp [Region.wanted, hg], fun W _ => by
    unfold execOp
    simp only [ho, hx, Sem.run_pure]⟩
theorem nz_range {W : World} {b : Nat} {t : TypeId} {NN : Array Value} (pre l post : List Value) (h : Blk W b t NN) (hn : NN = (pre ++ (l ++ post)).toArray) : W.rangeAt b pre.length l := by
  intro j v hj
  have hlt : j < l.length := (List.getElem?_eq_some_iff.1 hj).1
  rw [h.cell (pre.length + j), hn, List.getElem?_toArray, List.getElem?_append_right (by omega), Nat.add_sub_cancel_left, List.getElem?_append_left hlt]
  exact hj
theorem step_call1 {ops : Array Oper} {o : Oper} {a : Act} {W : World} {K : Act → World → Prop} {Q : Exit → Act → World → Prop} {E : Prop} (hg : o.guard = none) (f : FuncId) (x : Operand) (ts : Array TypeId) (hop : o.op = .call { callee := .value (.func f), args := #[x], argTypes := ts })
    (u : Value) (hx : a.eval x = u) (hcf : ∀ args W, (callFunc f args).run Tryz.prog W = .ok (.enter f args) W) (h : Calls Tryz.prog f #[u] W fun e w' => ∃ z, e = .returned z ∧ K (a.put o.dst z) w') : if Region.wanted o (yielded ops a.tmps) = true then Oper.wp Tryz.prog o a W K Q else E := by
  rw [if_pos (by simp [Region.wanted, hg])]
  unfold Oper.wp
  have hf : a.eval (.func f) = .func (.func f) #[] #[] := rfl
  have hd : (Deferred.ofValue (.func (.func f) #[] #[]) #[u]).run Tryz.prog W = .ok { target := .fn (.func f) #[], args := #[u] } W := rfl
  simp [execOp, hop, resolve, invoke, hx, hf, hd, hcf, Result.andThen, Oper.upon]
  refine h.mono ?_
  rintro e w' ⟨z, rfl, hk⟩
  exact hk
/-- the memory of Change -/
structure CSt (w : World) (D RCc : Array Value) (W : World) : Prop where
  mC : Blk W w.heap.size 40 D
  mR : Blk W (w.heap.size + 1) 31 RCc
  bel : Below w.heap.size w W
theorem CSt.below {w W w' : World} {D RCc : Array Value} (h : CSt w D RCc W) (hb : Below W.heap.size W w') : CSt w D RCc w' :=
  ⟨h.mC.below hb h.mC.lt, h.mR.below hb h.mR.lt, below_chain h.bel h.bel.size hb⟩
theorem callS (args : Array Value) (W : World) : (callFunc 30 args).run Tryz.prog W = .ok (.enter 30 args) W := by
  kernel_rfl
theorem rs_addr (b : Nat) (W : World) : (Instr.fieldAt 31 (.pointer (some ⟨b, 0, none⟩)) 1).run Tryz.prog W = .ok (.pointer (some ⟨b, 1, none⟩)) W := by kernel_rfl
theorem load_int {W : World} {b k : Nat} {n : Int} (h : W.cell? ⟨b, k, none⟩ = some (.int .i64 n)) : (Instr.loadAt 3 (.pointer (some ⟨b, k, none⟩))).run Tryz.prog W = .ok (.int .i64 n) W := by
  simp [Instr.loadAt, Instr.sureAddr, go_sem, h]
theorem yields_sub {ops : Array Oper} {S : World → Prop} {o : Oper} {a : Act} (hg : o.guard = none) (x y : Operand) (ho : o.op = .binOp .sub 3 x y 3) (m n : Int) (hx : a.eval x = .int .i64 m) (hy : a.eval y = .int .i64 n) (hw : IntKind.i64.wrap (m - n) = m - n) : YieldsIf Tryz.prog ops S o (.int .i64 (m - n)) a :=
  .inl ⟨by simp [Region.wanted, hg], fun W _ => by
    have h1 : (binOp .sub 3 (.int .i64 m) (.int .i64 n)).run Tryz.prog W = .ok (.int .i64 (m - n)) W := by
      simp [binOp, go_sem, hw]
    unfold execOp
    simp only [ho, hx, hy]
    simp [eqGuard, h1, Result.andThen]⟩
def rcFrame (z0 z1 z2 z3 z4 z5 z6 z7 z8 z9 z10 z11 z12 z13 z14 z15 z16 z17 z18 z19 z20 z21 z22 z23 z24 z25 z26 z27 z28 z29 z30 z31 z32 z33 z34 z35 z36 z37 z38 z39 z40 z41 z42 z43 z44 z45 z46 z47 z48 z49 z50 z51 z52 z53 z54 z55 z56 z57 z58 z59 z60 z61 z62 z63 z64 z65 z66 z67 z68 z69 z70 z71 z72 z73 z74 z75 z76 z77 : Value) : Act := { tmps := (z0 :: z1 :: z2 :: z3 :: z4 :: z5 :: z6 :: z7 :: z8 :: z9 :: z10 :: z11 :: z12 :: z13 :: z14 :: z15 :: z16 :: z17 :: z18 :: z19 :: z20 :: z21 :: z22 :: z23 :: z24 :: z25 :: z26 :: z27 :: z28 :: z29 :: z30 :: z31 :: z32 :: z33 :: z34 :: z35 :: z36 :: z37 :: z38 :: z39 :: z40 :: z41 :: z42 :: z43 :: z44 :: z45 :: z46 :: z47 :: z48 :: z49 :: z50 :: z51 :: z52 :: z53 :: z54 :: z55 :: z56 :: z57 :: z58 :: z59 :: z60 :: z61 :: z62 :: z63 :: z64 :: z65 :: z66 :: z67 :: z68 :: z69 :: z70 :: z71 :: z72 :: z73 :: z74 :: z75 :: z76 :: z77 :: []).toArray, defers := [] }
theorem rc_put18 (z0 z1 z2 z3 z4 z5 z6 z7 z8 z9 z10 z11 z12 z13 z14 z15 z16 z17 z18 z19 z20 z21 z22 z23 z24 z25 z26 z27 z28 z29 z30 z31 z32 z33 z34 z35 z36 z37 z38 z39 z40 z41 z42 z43 z44 z45 z46 z47 z48 z49 z50 z51 z52 z53 z54 z55 z56 z57 z58 z59 z60 z61 z62 z63 z64 z65 z66 z67 z68 z69 z70 z71 z72 z73 z74 z75 z76 z77 v : Value) : (rcFrame z0 z1 z2 z3 z4 z5 z6 z7 z8 z9 z10 z11 z12 z13 z14 z15 z16 z17 z18 z19 z20 z21 z22 z23 z24 z25 z26 z27 z28 z29 z30 z31 z32 z33 z34 z35 z36 z37 z38 z39 z40 z41 z42 z43 z44 z45 z46 z47 z48 z49 z50 z51 z52 z53 z54 z55 z56 z57 z58 z59 z60 z61 z62 z63 z64 z65 z66 z67 z68 z69 z70 z71 z72 z73 z74 z75 z76 z77).put (some 18) v = rcFrame z0 z1 z2 z3 z4 z5 z6 z7 z8 z9 z10 z11 z12 z13 z14 z15 z16 z17 v z19 z20 z21 z22 z23 z24 z25 z26 z27 z28 z29 z30 z31 z32 z33 z34 z35 z36 z37 z38 z39 z40 z41 z42 z43 z44 z45 z46 z47 z48 z49 z50 z51 z52 z53 z54 z55 z56 z57 z58 z59 z60 z61 z62 z63 z64 z65 z66 z67 z68 z69 z70 z71 z72 z73 z74 z75 z76 z77 := by kernel_rfl
theorem rc_put19 (z0 z1 z2 z3 z4 z5 z6 z7 z8 z9 z10 z11 z12 z13 z14 z15 z16 z17 z18 z19 z20 z21 z22 z23 z24 z25 z26 z27 z28 z29 z30 z31 z32 z33 z34 z35 z36 z37 z38 z39 z40 z41 z42 z43 z44 z45 z46 z47 z48 z49 z50 z51 z52 z53 z54 z55 z56 z57 z58 z59 z60 z61 z62 z63 z64 z65 z66 z67 z68 z69 z70 z71 z72 z73 z74 z75 z76 z77 v : Value) : (rcFrame z0 z1 z2 z3 z4 z5 z6 z7 z8 z9 z10 z11 z12 z13 z14 z15 z16 z17 z18 z19 z20 z21 z22 z23 z24 z25 z26 z27 z28 z29 z30 z31 z32 z33 z34 z35 z36 z37 z38 z39 z40 z41 z42 z43 z44 z45 z46 z47 z48 z49 z50 z51 z52 z53 z54 z55 z56 z57 z58 z59 z60 z61 z62 z63 z64 z65 z66 z67 z68 z69 z70 z71 z72 z73 z74 z75 z76 z77).put (some 19) v = rcFrame z0 z1 z2 z3 z4 z5 z6 z7 z8 z9 z10 z11 z12 z13 z14 z15 z16 z17 z18 v z20 z21 z22 z23 z24 z25 z26 z27 z28 z29 z30 z31 z32 z33 z34 z35 z36 z37 z38 z39 z40 z41 z42 z43 z44 z45 z46 z47 z48 z49 z50 z51 z52 z53 z54 z55 z56 z57 z58 z59 z60 z61 z62 z63 z64 z65 z66 z67 z68 z69 z70 z71 z72 z73 z74 z75 z76 z77 := by kernel_rfl
theorem rc_put20 (z0 z1 z2 z3 z4 z5 z6 z7 z8 z9 z10 z11 z12 z13 z14 z15 z16 z17 z18 z19 z20 z21 z22 z23 z24 z25 z26 z27 z28 z29 z30 z31 z32 z33 z34 z35 z36 z37 z38 z39 z40 z41 z42 z43 z44 z45 z46 z47 z48 z49 z50 z51 z52 z53 z54 z55 z56 z57 z58 z59 z60 z61 z62 z63 z64 z65 z66 z67 z68 z69 z70 z71 z72 z73 z74 z75 z76 z77 v : Value) : (rcFrame z0 z1 z2 z3 z4 z5 z6 z7 z8 z9 z10 z11 z12 z13 z14 z15 z16 z17 z18 z19 z20 z21 z22 z23 z24 z25 z26 z27 z28 z29 z30 z31 z32 z33 z34 z35 z36 z37 z38 z39 z40 z41 z42 z43 z44 z45 z46 z47 z48 z49 z50 z51 z52 z53 z54 z55 z56 z57 z58 z59 z60 z61 z62 z63 z64 z65 z66 z67 z68 z69 z70 z71 z72 z73 z74 z75 z76 z77).put (some 20) v = rcFrame z0 z1 z2 z3 z4 z5 z6 z7 z8 z9 z10 z11 z12 z13 z14 z15 z16 z17 z18 z19 v z21 z22 z23 z24 z25 z26 z27 z28 z29 z30 z31 z32 z33 z34 z35 z36 z37 z38 z39 z40 z41 z42 z43 z44 z45 z46 z47 z48 z49 z50 z51 z52 z53 z54 z55 z56 z57 z58 z59 z60 z61 z62 z63 z64 z65 z66 z67 z68 z69 z70 z71 z72 z73 z74 z75 z76 z77 := by kernel_rfl
theorem rc_put21 (z0 z1 z2 z3 z4 z5 z6 z7 z8 z9 z10 z11 z12 z13 z14 z15 z16 z17 z18 z19 z20 z21 z22 z23 z24 z25 z26 z27 z28 z29 z30 z31 z32 z33 z34 z35 z36 z37 z38 z39 z40 z41 z42 z43 z44 z45 z46 z47 z48 z49 z50 z51 z52 z53 z54 z55 z56 z57 z58 z59 z60 z61 z62 z63 z64 z65 z66 z67 z68 z69 z70 z71 z72 z73 z74 z75 z76 z77 v : Value) : (rcFrame z0 z1 z2 z3 z4 z5 z6 z7 z8 z9 z10 z11 z12 z13 z14 z15 z16 z17 z18 z19 z20 z21 z22 z23 z24 z25 z26 z27 z28 z29 z30 z31 z32 z33 z34 z35 z36 z37 z38 z39 z40 z41 z42 z43 z44 z45 z46 z47 z48 z49 z50 z51 z52 z53 z54 z55 z56 z57 z58 z59 z60 z61 z62 z63 z64 z65 z66 z67 z68 z69 z70 z71 z72 z73 z74 z75 z76 z77).put (some 21) v = rcFrame z0 z1 z2 z3 z4 z5 z6 z7 z8 z9 z10 z11 z12 z13 z14 z15 z16 z17 z18 z19 z20 v z22 z23 z24 z25 z26 z27 z28 z29 z30 z31 z32 z33 z34 z35 z36 z37 z38 z39 z40 z41 z42 z43 z44 z45 z46 z47 z48 z49 z50 z51 z52 z53 z54 z55 z56 z57 z58 z59 z60 z61 z62 z63 z64 z65 z66 z67 z68 z69 z70 z71 z72 z73 z74 z75 z76 z77 := by kernel_rfl
theorem rc_put22 (z0 z1 z2 z3 z4 z5 z6 z7 z8 z9 z10 z11 z12 z13 z14 z15 z16 z17 z18 z19 z20 z21 z22 z23 z24 z25 z26 z27 z28 z29 z30 z31 z32 z33 z34 z35 z36 z37 z38 z39 z40 z41 z42 z43 z44 z45 z46 z47 z48 z49 z50 z51 z52 z53 z54 z55 z56 z57 z58 z59 z60 z61 z62 z63 z64 z65 z66 z67 z68 z69 z70 z71 z72 z73 z74 z75 z76 z77 v : Value) : (rcFrame z0 z1 z2 z3 z4 z5 z6 z7 z8 z9 z10 z11 z12 z13 z14 z15 z16 z17 z18 z19 z20 z21 z22 z23 z24 z25 z26 z27 z28 z29 z30 z31 z32 z33 z34 z35 z36 z37 z38 z39 z40 z41 z42 z43 z44 z45 z46 z47 z48 z49 z50 z51 z52 z53 z54 z55 z56 z57 z58 z59 z60 z61 z62 z63 z64 z65 z66 z67 z68 z69 z70 z71 z72 z73 z74 z75 z76 z77).put (some 22) v = rcFrame z0 z1 z2 z3 z4 z5 z6 z7 z8 z9 z10 z11 z12 z13 z14 z15 z16 z17 z18 z19 z20 z21 v z23 z24 z25 z26 z27 z28 z29 z30 z31 z32 z33 z34 z35 z36 z37 z38 z39 z40 z41 z42 z43 z44 z45 z46 z47 z48 z49 z50 z51 z52 z53 z54 z55 z56 z57 z58 z59 z60 z61 z62 z63 z64 z65 z66 z67 z68 z69 z70 z71 z72 z73 z74 z75 z76 z77 := by kernel_rfl
theorem rc_put8 (z0 z1 z2 z3 z4 z5 z6 z7 z8 z9 z10 z11 z12 z13 z14 z15 z16 z17 z18 z19 z20 z21 z22 z23 z24 z25 z26 z27 z28 z29 z30 z31 z32 z33 z34 z35 z36 z37 z38 z39 z40 z41 z42 z43 z44 z45 z46 z47 z48 z49 z50 z51 z52 z53 z54 z55 z56 z57 z58 z59 z60 z61 z62 z63 z64 z65 z66 z67 z68 z69 z70 z71 z72 z73 z74 z75 z76 z77 v : Value) : (rcFrame z0 z1 z2 z3 z4 z5 z6 z7 z8 z9 z10 z11 z12 z13 z14 z15 z16 z17 z18 z19 z20 z21 z22 z23 z24 z25 z26 z27 z28 z29 z30 z31 z32 z33 z34 z35 z36 z37 z38 z39 z40 z41 z42 z43 z44 z45 z46 z47 z48 z49 z50 z51 z52 z53 z54 z55 z56 z57 z58 z59 z60 z61 z62 z63 z64 z65 z66 z67 z68 z69 z70 z71 z72 z73 z74 z75 z76 z77).put (some 8) v = rcFrame z0 z1 z2 z3 z4 z5 z6 z7 v z9 z10 z11 z12 z13 z14 z15 z16 z17 z18 z19 z20 z21 z22 z23 z24 z25 z26 z27 z28 z29 z30 z31 z32 z33 z34 z35 z36 z37 z38 z39 z40 z41 z42 z43 z44 z45 z46 z47 z48 z49 z50 z51 z52 z53 z54 z55 z56 z57 z58 z59 z60 z61 z62 z63 z64 z65 z66 z67 z68 z69 z70 z71 z72 z73 z74 z75 z76 z77 := by kernel_rfl
def loopBody : Code → Code
  | .seq (.seq _ (.block _ (.loop b))) _ => b
  | .seq (.seq _ (.loop b)) _ => b
  | c => c
/-- region 6 of the reference's Change -/
def rc6 : Code → Code
  | .seq _ (.seq _ (.seq _ (.seq (.seq _ (.block _ (.loop (.seq _ (.seq (.block _ (.seq a _)) _))))) _))) => a
  | c => c
noncomputable def rcOps6 : Array Oper := opsOf (rc6 (Tryz.f24.body.getD .skip))
theorem rcOps6_0 : ∃ o , rcOps6[0]? = some o ∧ o.guard = none ∧ o.op = .load 40 (.tmp 2) ∧ o.dst = some 18 := ⟨_, rfl, rfl, rfl, rfl⟩
theorem rcOps6_1 : ∃ o ts , rcOps6[1]? = some o ∧ o.guard = none ∧ o.op = .call { callee := .value (.func 30), args := #[.tmp 18], argTypes := ts } ∧ o.dst = some 19 := ⟨_, _, rfl, rfl, rfl, rfl⟩
theorem rcOps6_2 : ∃ o , rcOps6[2]? = some o ∧ o.guard = none ∧ o.op = .fieldAddr 31 (.tmp 3) 1 ∧ o.dst = some 20 := ⟨_, rfl, rfl, rfl, rfl⟩
theorem rcOps6_3 : ∃ o , rcOps6[3]? = some o ∧ o.guard = none ∧ o.op = .load 3 (.tmp 20) ∧ o.dst = some 21 := ⟨_, rfl, rfl, rfl, rfl⟩
theorem rcOps6_4 : ∃ o , rcOps6[4]? = some o ∧ o.guard = none ∧ o.op = .binOp .sub 3 (.tmp 19) (.tmp 21) 3 ∧ o.dst = some 22 := ⟨_, rfl, rfl, rfl, rfl⟩
theorem rcOps6_5 : ∃ o , rcOps6[5]? = some o ∧ o.guard = none ∧ o.op = .assign (.tmp 22) ∧ o.dst = some 8 := ⟨_, rfl, rfl, rfl, rfl⟩
set_option maxRecDepth 100000 in
set_option maxHeartbeats 4000000 in
theorem rc_reg6 (r : R) (B1 B2 B3 : Option Addr) (j1 j2 j3 : Nat) (D : Array Value) (w : World) (Kq : Exit → Act → World → Prop) (hsz : (Tryz.prog.info? 40).map (·.size) = some D.toList.length) (st : Int) (hST : ∀ W, Calls Tryz.prog 30 #[.agg D] W fun e w' => e = .returned (.int .i64 st) ∧ Below W.heap.size W w') (hwr : IntKind.i64.wrap (st - r.slack) = st - r.slack) (z0 z1 z4 z5 z6 z7 z8 z9 z10 z11 z12 z13 z14 z15 z16 z17 z18 z19 z20 z21 z22 z23 z24 z25 z26 z27 z28 z29 z30 z31 z32 z33 z34 z35 z36 z37 z38 z39 z40 z41 z42 z43 z44 z45 z46 z47 z48 z49 z50 z51 z52 z53 z54 z55 z56 z57 z58 z59 z60 z61 z62 z63 z64 z65 z66 z67 z68 z69 z70 z71 z72 z73 z74 z75 z76 z77 : Value)
    (hK : ∀ W, CSt w D #[.int .i64 r.now, .int .i64 r.slack, .string ⟨r.who.toArray⟩, (.slice B1 r.by_.length j1), (.slice B2 r.need.length j2), (.slice B3 r.may_.length j3)] W → Kq .normal (rcFrame z0 z1 (.pointer (some ⟨w.heap.size, 0, none⟩)) (.pointer (some ⟨w.heap.size + 1, 0, none⟩)) z4 z5 z6 z7 (.int .i64 (st - r.slack)) z9 z10 z11 z12 z13 z14 z15 z16 z17 (.agg D) (.int .i64 st) (.pointer (some ⟨w.heap.size + 1, 1, none⟩)) (.int .i64 r.slack) (.int .i64 (st - r.slack)) z23 z24 z25 z26 z27 z28 z29 z30 z31 z32 z33 z34 z35 z36 z37 z38 z39 z40 z41 z42 z43 z44 z45 z46 z47 z48 z49 z50 z51 z52 z53 z54 z55 z56 z57 z58 z59 z60 z61 z62 z63 z64 z65 z66 z67 z68 z69 z70 z71 z72 z73 z74 z75 z76 z77) W) (W : World) (hS : CSt w D #[.int .i64 r.now, .int .i64 r.slack, .string ⟨r.who.toArray⟩, (.slice B1 r.by_.length j1), (.slice B2 r.need.length j2), (.slice B3 r.may_.length j3)] W) :
    wpAnyH Tryz.prog .any rcOps6 (NoPanic Kq) (fun W => CSt w D #[.int .i64 r.now, .int .i64 r.slack, .string ⟨r.who.toArray⟩, (.slice B1 r.by_.length j1), (.slice B2 r.need.length j2), (.slice B3 r.may_.length j3)] W) 6 #[false, false, false, false, false, false] (rcFrame z0 z1 (.pointer (some ⟨w.heap.size, 0, none⟩)) (.pointer (some ⟨w.heap.size + 1, 0, none⟩)) z4 z5 z6 z7 z8 z9 z10 z11 z12 z13 z14 z15 z16 z17 z18 z19 z20 z21 z22 z23 z24 z25 z26 z27 z28 z29 z30 z31 z32 z33 z34 z35 z36 z37 z38 z39 z40 z41 z42 z43 z44 z45 z46 z47 z48 z49 z50 z51 z52 z53 z54 z55 z56 z57 z58 z59 z60 z61 z62 z63 z64 z65 z66 z67 z68 z69 z70 z71 z72 z73 z74 z75 z76 z77) W := by
  obtain ⟨op1, hop1, hg, hop, hd⟩ := rcOps6_0
  refine wpAnyH_take (i := 0) (v := (.agg D)) hop1 (by kernel_rfl) (by kernel_rfl) (by kernel_rfl) (fun _ _ _ h => h.elim) (yieldsIf_load_mid (by simp [Region.wanted, hg]) 40 (.tmp 2) hop w.heap.size 0 rfl D.toList _ (fun W hW => nz_range [] D.toList [] hW.mC (by rw [List.append_nil, List.nil_append])) Tryz.underlying40 rfl hsz) hS ?_
  refine wpAnyH_listed #[true, false, false, false, false, false] (rcFrame z0 z1 (.pointer (some ⟨w.heap.size, 0, none⟩)) (.pointer (some ⟨w.heap.size + 1, 0, none⟩)) z4 z5 z6 z7 z8 z9 z10 z11 z12 z13 z14 z15 z16 z17 (.agg D) z19 z20 z21 z22 z23 z24 z25 z26 z27 z28 z29 z30 z31 z32 z33 z34 z35 z36 z37 z38 z39 z40 z41 z42 z43 z44 z45 z46 z47 z48 z49 z50 z51 z52 z53 z54 z55 z56 z57 z58 z59 z60 z61 z62 z63 z64 z65 z66 z67 z68 z69 z70 z71 z72 z73 z74 z75 z76 z77) (by kernel_rfl) (by rw [hd]; exact rc_put18 _ _ _ _ _ _ _ _ _ _ _ _ _ _ _ _ _ _ _ _ _ _ _ _ _ _ _ _ _ _ _ _ _ _ _ _ _ _ _ _ _ _ _ _ _ _ _ _ _ _ _ _ _ _ _ _ _ _ _ _ _ _ _ _ _ _ _ _ _ _ _ _ _ _ _ _ _ _ _) ?_
  clear hd hop hg hop1
  obtain ⟨op1, hop1, hg, hop, hd⟩ := rcOps6_2
  refine wpAnyH_take (i := 2) (v := (.pointer (some ⟨w.heap.size + 1, 1, none⟩))) hop1 (by kernel_rfl) (by kernel_rfl) (by kernel_rfl) (fun _ _ _ h => h.elim) (yields_addr hg 31 _ 1 hop _ _ rfl (rs_addr _)) hS ?_
  refine wpAnyH_listed #[true, false, true, false, false, false] (rcFrame z0 z1 (.pointer (some ⟨w.heap.size, 0, none⟩)) (.pointer (some ⟨w.heap.size + 1, 0, none⟩)) z4 z5 z6 z7 z8 z9 z10 z11 z12 z13 z14 z15 z16 z17 (.agg D) z19 (.pointer (some ⟨w.heap.size + 1, 1, none⟩)) z21 z22 z23 z24 z25 z26 z27 z28 z29 z30 z31 z32 z33 z34 z35 z36 z37 z38 z39 z40 z41 z42 z43 z44 z45 z46 z47 z48 z49 z50 z51 z52 z53 z54 z55 z56 z57 z58 z59 z60 z61 z62 z63 z64 z65 z66 z67 z68 z69 z70 z71 z72 z73 z74 z75 z76 z77) (by kernel_rfl) (by rw [hd]; exact rc_put20 _ _ _ _ _ _ _ _ _ _ _ _ _ _ _ _ _ _ _ _ _ _ _ _ _ _ _ _ _ _ _ _ _ _ _ _ _ _ _ _ _ _ _ _ _ _ _ _ _ _ _ _ _ _ _ _ _ _ _ _ _ _ _ _ _ _ _ _ _ _ _ _ _ _ _ _ _ _ _) ?_
  clear hd hop hg hop1
  obtain ⟨op1, hop1, hg, hop, hd⟩ := rcOps6_3
  refine wpAnyH_take (i := 3) (v := (.int .i64 r.slack)) hop1 (by kernel_rfl) (by kernel_rfl) (by kernel_rfl) (fun _ _ _ h => h.elim) (yields_load1 hg 3 _ hop _ _ rfl (fun W hW => load_int (hW.mR.cell 1))) hS ?_
  refine wpAnyH_listed #[true, false, true, true, false, false] (rcFrame z0 z1 (.pointer (some ⟨w.heap.size, 0, none⟩)) (.pointer (some ⟨w.heap.size + 1, 0, none⟩)) z4 z5 z6 z7 z8 z9 z10 z11 z12 z13 z14 z15 z16 z17 (.agg D) z19 (.pointer (some ⟨w.heap.size + 1, 1, none⟩)) (.int .i64 r.slack) z22 z23 z24 z25 z26 z27 z28 z29 z30 z31 z32 z33 z34 z35 z36 z37 z38 z39 z40 z41 z42 z43 z44 z45 z46 z47 z48 z49 z50 z51 z52 z53 z54 z55 z56 z57 z58 z59 z60 z61 z62 z63 z64 z65 z66 z67 z68 z69 z70 z71 z72 z73 z74 z75 z76 z77) (by kernel_rfl) (by rw [hd]; exact rc_put21 _ _ _ _ _ _ _ _ _ _ _ _ _ _ _ _ _ _ _ _ _ _ _ _ _ _ _ _ _ _ _ _ _ _ _ _ _ _ _ _ _ _ _ _ _ _ _ _ _ _ _ _ _ _ _ _ _ _ _ _ _ _ _ _ _ _ _ _ _ _ _ _ _ _ _ _ _ _ _) ?_
  clear hd hop hg hop1
  obtain ⟨op1, ts, hop1, hg, hop, hd⟩ := rcOps6_1
  refine wpAnyH_all (rs := [1]) (by kernel_rfl) (by decide) (fun i hi => ?_)
  obtain rfl : i = 1 := by simpa using hi
  refine wpOp_step hop1 ?_
  intro K' hK'
  refine step_call1 hg 30 _ _ hop (.agg D) rfl callS ((hST W).mono ?_)
  rintro e w1 ⟨rfl, hb⟩
  refine ⟨_, rfl, hK' _ _ ⟨hS.below hb, ?_⟩⟩
  refine wpAnyH_listed #[true, true, true, true, false, false] (rcFrame z0 z1 (.pointer (some ⟨w.heap.size, 0, none⟩)) (.pointer (some ⟨w.heap.size + 1, 0, none⟩)) z4 z5 z6 z7 z8 z9 z10 z11 z12 z13 z14 z15 z16 z17 (.agg D) (.int .i64 st) (.pointer (some ⟨w.heap.size + 1, 1, none⟩)) (.int .i64 r.slack) z22 z23 z24 z25 z26 z27 z28 z29 z30 z31 z32 z33 z34 z35 z36 z37 z38 z39 z40 z41 z42 z43 z44 z45 z46 z47 z48 z49 z50 z51 z52 z53 z54 z55 z56 z57 z58 z59 z60 z61 z62 z63 z64 z65 z66 z67 z68 z69 z70 z71 z72 z73 z74 z75 z76 z77) (by kernel_rfl) (by rw [hd]; exact rc_put19 _ _ _ _ _ _ _ _ _ _ _ _ _ _ _ _ _ _ _ _ _ _ _ _ _ _ _ _ _ _ _ _ _ _ _ _ _ _ _ _ _ _ _ _ _ _ _ _ _ _ _ _ _ _ _ _ _ _ _ _ _ _ _ _ _ _ _ _ _ _ _ _ _ _ _ _ _ _ _) ?_
  replace hS := hS.below hb
  clear hd hop hg hop1 hK' K'
  obtain ⟨op1, hop1, hg, hop, hd⟩ := rcOps6_4
  refine wpAnyH_take (i := 4) (v := (.int .i64 (st - r.slack))) hop1 (by kernel_rfl) (by kernel_rfl) (by kernel_rfl) (fun _ _ _ h => h.elim) (yields_sub hg _ _ hop _ _ rfl rfl hwr) hS ?_
  refine wpAnyH_listed #[true, true, true, true, true, false] (rcFrame z0 z1 (.pointer (some ⟨w.heap.size, 0, none⟩)) (.pointer (some ⟨w.heap.size + 1, 0, none⟩)) z4 z5 z6 z7 z8 z9 z10 z11 z12 z13 z14 z15 z16 z17 (.agg D) (.int .i64 st) (.pointer (some ⟨w.heap.size + 1, 1, none⟩)) (.int .i64 r.slack) (.int .i64 (st - r.slack)) z23 z24 z25 z26 z27 z28 z29 z30 z31 z32 z33 z34 z35 z36 z37 z38 z39 z40 z41 z42 z43 z44 z45 z46 z47 z48 z49 z50 z51 z52 z53 z54 z55 z56 z57 z58 z59 z60 z61 z62 z63 z64 z65 z66 z67 z68 z69 z70 z71 z72 z73 z74 z75 z76 z77) (by kernel_rfl) (by rw [hd]; exact rc_put22 _ _ _ _ _ _ _ _ _ _ _ _ _ _ _ _ _ _ _ _ _ _ _ _ _ _ _ _ _ _ _ _ _ _ _ _ _ _ _ _ _ _ _ _ _ _ _ _ _ _ _ _ _ _ _ _ _ _ _ _ _ _ _ _ _ _ _ _ _ _ _ _ _ _ _ _ _ _ _) ?_
  clear hd hop hg hop1
  obtain ⟨op1, hop1, hg, hop, hd⟩ := rcOps6_5
  refine wpAnyH_take (i := 5) (v := (.int .i64 (st - r.slack))) hop1 (by kernel_rfl) (by kernel_rfl) (by kernel_rfl) (fun _ _ _ h => h.elim) (yields_assign hg (.tmp 22) hop _ rfl) hS ?_
  refine wpAnyH_listed #[true, true, true, true, true, true] (rcFrame z0 z1 (.pointer (some ⟨w.heap.size, 0, none⟩)) (.pointer (some ⟨w.heap.size + 1, 0, none⟩)) z4 z5 z6 z7 (.int .i64 (st - r.slack)) z9 z10 z11 z12 z13 z14 z15 z16 z17 (.agg D) (.int .i64 st) (.pointer (some ⟨w.heap.size + 1, 1, none⟩)) (.int .i64 r.slack) (.int .i64 (st - r.slack)) z23 z24 z25 z26 z27 z28 z29 z30 z31 z32 z33 z34 z35 z36 z37 z38 z39 z40 z41 z42 z43 z44 z45 z46 z47 z48 z49 z50 z51 z52 z53 z54 z55 z56 z57 z58 z59 z60 z61 z62 z63 z64 z65 z66 z67 z68 z69 z70 z71 z72 z73 z74 z75 z76 z77) (by kernel_rfl) (by rw [hd]; exact rc_put8 _ _ _ _ _ _ _ _ _ _ _ _ _ _ _ _ _ _ _ _ _ _ _ _ _ _ _ _ _ _ _ _ _ _ _ _ _ _ _ _ _ _ _ _ _ _ _ _ _ _ _ _ _ _ _ _ _ _ _ _ _ _ _ _ _ _ _ _ _ _ _ _ _ _ _ _ _ _ _) ?_
  clear hd hop hg hop1
  refine wpAnyH_done (by kernel_rfl) ?_ _
  refine NoPanic.normal ?_
  exact hK _ hS
end Go.Proofs.YtnondmeafilplaaGreatDoor
namespace Go.Proofs.YtnondmeafilplaaGreatDoor
open Go.RowKit Mem Utf Ref3 Tok Cl
set_option linter.unusedVariables false

def bestI (c : C) (r : R) (i : Int) : Int := if i = 0 then -1 else if i = 1 then best1 c r else best2 c r
theorem wpList_load_rowG {P : Program} {ops : Array Oper} {rest : List Oper} {o : Oper} {a : Act} {w : World} {Q : Exit → Act → World → Prop} (hw : Region.wanted o (yielded ops a.tmps) = true) (ty : TypeId) (x : Operand) (ho : o.op = .load ty x)
    (g : Nat) (hx : a.eval x = .pointer (some ⟨g, 0, none⟩)) (t : TypeId) (cs : Array Value) (fr : Nat × Nat) (d : TypeDesc) (hg : w.heap[g]? = some (.cells cs t fr))
    (hu : P.underlying ty = some d) (hd : (match d with | .struct _ | .array _ _ => true | _ => false) = true) (hi : (P.info? ty).map (·.size) = some cs.size)
    (h : wpList P ops Q rest (a.put o.dst (.agg cs)) w) : wpList P ops Q (o :: rest) a w :=
  wpList_step fun K hK => by
    rw [if_pos hw]
    exact wp_load_row ty x ho g hx t cs fr d hg hu hd hi (hK _ _ h)
theorem ver_field (a b : Int) (s : ByteArray) (A : Option Addr) (n q : Nat) (W : World) : (Instr.field 48 (.agg #[.int .i64 a, .int .i64 b, .string s, .slice A n q]) 0).run Tryz.prog W = .ok (.int .i64 a) W := by kernel_rfl
set_option maxRecDepth 100000 in
set_option maxHeartbeats 8000000 in
theorem refChange_any (c : C) (r : R) (v1 v2 v3 u1 u2 u3 : Value) (w : World) (h : ClAt w c v1 v2 v3) (hr : RuAt w r u1 u2 u3) (hfit : fit c r = true) :
    Calls Tryz.prog 24 #[.agg (dCells (is c) c v2 v3), .agg #[.int .i64 r.now, .int .i64 r.slack, .string ⟨r.who.toArray⟩, u1, u2, u3]] w fun e w' => e = .returned (.int .i64 (best2 c r)) ∧ Below w.heap.size w w' := by
  have hq : ∀ (w : World) o, (w.alloc o).heap.size = w.heap.size + 1 := fun w o => by simp
  obtain ⟨B1, j1, e4, _⟩ := hr.by_
  obtain ⟨B2, j2, e5, _⟩ := hr.need
  obtain ⟨B3, j3, e6, _⟩ := hr.may
  subst e4; subst e5; subst e6
  have HJ0 : ∀ x W, Below w.heap.size w W → isTime x = true → Calls Tryz.prog 13 #[.agg (dCells (is c) c v2 v3), .agg #[.int .i64 x, .int .i64 r.slack, .string ⟨r.who.toArray⟩, .slice B1 r.by_.length j1, .slice B2 r.need.length j2, .slice B3 r.may_.length j3]] W fun e w' => (∃ (t : Int) (s : ByteArray) (A : Option Addr) (n q : Nat), e = .returned (.agg #[.int .i64 (Kj c r x : Int), .int .i64 t, .string s, .slice A n q])) ∧ Below W.heap.size W w' := by
    intro x W hb hx
    refine (refJudge_any c { r with now := x } v1 v2 v3 _ _ _ W (h.below hb) (hr.below hb |> fun k => ⟨k.by_, k.need, k.may, k.nby, k.nneed, k.nmay⟩) (fit_now hfit hx)).mono ?_
    rintro e w7 ⟨y, rfl, ⟨sl, rfl, hrs⟩, hb7⟩
    obtain ⟨A7, j7, rfl, _⟩ := hrs
    exact ⟨⟨_, _, _, _, _, rfl⟩, hb7⟩
  have HS0 : ∀ W, Calls Tryz.prog 30 #[.agg (dCells (is c) c v2 v3)] W fun e w' => e = .returned (.int .i64 (startD c)) ∧ Below W.heap.size W w' := fun W => refStart_any c v2 v3 W
  have hsz0 : (Tryz.prog.info? 40).map (·.size) = some (dCells (is c) c v2 v3).size := by kernel_rfl
  have hd7 : (dCells (is c) c v2 v3)[7]? = some (.bool (is c 7)) := rfl
  have hd23 : (dCells (is c) c v2 v3)[23]? = some (.int .i64 c.until_) := rfl
  generalize dCells (is c) c v2 v3 = D at *
  obtain ⟨hm, hn, hsl⟩ := fit_parts hfit
  have hst := startP_in hm
  have hmt := may_times hm
  have hsd := startD_P (c := c) (isTime_iff.1 hmt.1).1 (isTime_iff.1 hmt.2.1).1
  have hu := isTime_iff.1 hmt.2.2
  have hsz2 : (Tryz.prog.info? 40).map (·.size) = some D.size := hsz0
  have hsz : (Tryz.prog.info? 40).map (·.size) = some D.toList.length := by rw [Array.length_toList]; exact hsz0
  have e7 : is c 7 = inB c.has (key 7) := rfl
  rw [e7] at hd7
  obtain ⟨sv, hs0⟩ : ∃ b, (startP c).2 = b := ⟨_, rfl⟩
  obtain ⟨s, hs1⟩ : ∃ s, (startP c).1 = s := ⟨_, rfl⟩
  obtain ⟨uv, hu0⟩ : ∃ b, inB c.has (key 7) = b := ⟨_, rfl⟩
  obtain ⟨st, hst0⟩ : ∃ st, startD c = st := ⟨_, rfl⟩
  obtain ⟨K, hK⟩ : ∃ K, Kj c r = K := ⟨_, rfl⟩
  have hb1 : best1 c r = bestC K r.now (-1) sv (s - r.slack) := by rw [← hK, ← hs0, ← hs1]; rfl
  have hb2 : best2 c r = bestC K r.now (best1 c r) uv (c.until_ + r.slack) := by rw [← hK, ← hu0]; rfl
  rw [hK] at HJ0
  rw [hst0] at HS0
  rw [hst0, hs0, hs1] at hsd
  rw [hs1] at hst
  rw [hu0] at hd7
  have HJ := Lib.hid HJ0
  have HS := Lib.hid HS0
  have HB1 := Lib.hid hb1
  have HB2 := Lib.hid hb2
  have hwr : IntKind.i64.wrap (st - r.slack) = st - r.slack := by
    rw [IntKind.wrap_i64]
    split at hsd <;> omega
  have HSD := Lib.hid hsd
  have HWR := Lib.hid hwr
  clear HJ0 HS0 hb1 hb2 hsd hwr hK hs0 hs1 hu0 hst0 hsz0 hfit hm hmt e7
  have hb0 : ∀ cs ds, Below w.heap.size w ((w.alloc (.cells cs 40)).alloc (.cells ds 31)) := fun cs ds => ((Below.refl _ _).alloc (Nat.le_refl _) _).alloc (by simp) _
  have hC0 := (Blk.new w 40 D).alloc (.cells #[.int .i64 r.now, .int .i64 r.slack, .string ⟨r.who.toArray⟩, .slice B1 r.by_.length j1, .slice B2 r.need.length j2, .slice B3 r.may_.length j3] 31)
  have hR0 := Blk.new (w.alloc (.cells D 40)) 31 #[.int .i64 r.now, .int .i64 r.slack, .string ⟨r.who.toArray⟩, .slice B1 r.by_.length j1, .slice B2 r.need.length j2, .slice B3 r.may_.length j3]
  rw [hq] at hR0
  have hst0 : CSt w D #[.int .i64 r.now, .int .i64 r.slack, .string ⟨r.who.toArray⟩, .slice B1 r.by_.length j1, .slice B2 r.need.length j2, .slice B3 r.may_.length j3] ((w.alloc (.cells D 40)).alloc (.cells #[.int .i64 r.now, .int .i64 r.slack, .string ⟨r.who.toArray⟩, .slice B1 r.by_.length j1, .slice B2 r.need.length j2, .slice B3 r.may_.length j3] 31)) := ⟨hC0, hR0, hb0 _ _⟩
  have htn : isTime r.now = true := isTime_iff.2 hn
  have hfl := ver_field
  go_enter Tryz.func24, Tryz.ntmps24
  go_upto_region 1 with fail
  clear hC0 hR0 hb0
  generalize (w.alloc (.cells D 40)).alloc (.cells #[.int .i64 r.now, .int .i64 r.slack, .string ⟨r.who.toArray⟩, .slice B1 r.by_.length j1, .slice B2 r.need.length j2, .slice B3 r.may_.length j3] 31) = w0 at *
  have hCC := hst0.mC
  unfold Blk at hCC
  obtain ⟨f0, f1, f2, f3, f4, f5⟩ := C6 hst0.mR
  go_wp2_with (refine wpList_load_row rfl 40 (.tmp 2) rfl w.heap.size rfl 40 D (0, 0) _ hCC Tryz.underlying40 rfl hsz2 ?_)
  refine (HJ.out r.now _ hst0.bel htn).mono ?_
  rintro e w1 ⟨⟨tx, sx, Ax, nx, qx, rfl⟩, hbJ⟩
  have hst1 := hst0.below hbJ
  clear hst0 hbJ hCC f0 f1 f2 f3 f4 f5
  go_wp2_with fail
  go_loopw [6, 7] (fun c6 c7 wr => ∃ (i b : Int), 0 ≤ i ∧ i ≤ 2 ∧ c7 = .int .i64 i ∧ c6 = .int .i64 b ∧ Hid (b = bestI c r i) ∧ CSt w D #[.int .i64 r.now, .int .i64 r.slack, .string ⟨r.who.toArray⟩, .slice B1 r.by_.length j1, .slice B2 r.need.length j2, .slice B3 r.may_.length j3] wr) (fun _ c7 _ => (2 - intOf c7).toNat)
  case atStart => exact ⟨0, -1, by omega, by omega, rfl, rfl, Lib.hid rfl, hst1⟩
  case round =>
    clear hst1
    obtain ⟨i, b, hi0, hi, rfl, rfl, HB, hs⟩ := hrel
    by_cases h0 : i = 0
    · subst h0
      obtain rfl : b = -1 := HB.out
      clear HB hi hi0
      go_upto_region 6 with fail
      refine wp_region_noPanic ?_
      refine wp_region_held (S := fun W => CSt w D #[.int .i64 r.now, .int .i64 r.slack, .string ⟨r.who.toArray⟩, .slice B1 r.by_.length j1, .slice B2 r.need.length j2, .slice B3 r.may_.length j3] W) (by kernel_rfl) ?_
      refine rc_reg6 r B1 B2 B3 j1 j2 j3 D w _ hsz st HS.out HWR.out _ _ _ _ _ _ _ _ _ _ _ _ _ _ _ _ _ _ _ _ _ _ _ _ _ _ _ _ _ _ _ _ _ _ _ _ _ _ _ _ _ _ _ _ _ _ _ _ _ _ _ _ _ _ _ _ _ _ _ _ _ _ _ _ _ _ _ _ _ _ _ _ _ _ _ _ ?_ _ ⟨hs.mC, hs.mR, hs.bel.drew⟩
      intro W hsW
      unfold rcFrame
      have hCC := hsW.mC
      unfold Blk at hCC
      go_wp2_with (refine wpList_load_rowG (by kernel_rfl) 40 (.tmp 2) rfl w.heap.size rfl 40 D (0, 0) _ hCC Tryz.underlying40 rfl hsz2 ?_)
      refine (HS.out _).mono ?_
      rintro e w2 ⟨rfl, hb2⟩
      have hs2 := hsW.below hb2
      clear hCC hsW hb2 hs
      obtain ⟨f0, f1, f2, f3, f4, f5⟩ := C6 hs2.mR
      cases sv with
      | false =>
        obtain rfl : st = -1 := by simpa using HSD.out
        have HN : Hid ((-1 : Int) = bestI c r 1) := Lib.hid (by show _ = best1 c r; rw [HB1.out, bestC, if_neg (by simp)])
        have d1 : decide ((-1 : Int) < 0) = true := by decide
        clear HSD hst HB1 HB2
        go_wp2
        go_roundw
        case rel => exact ⟨1, -1, by omega, by omega, by go_num, rfl, HN, hs2⟩
        case measure => simp [intOf]
      | true =>
        obtain rfl : st = s := by simpa using HSD.out
        have d1 : decide (st < 0) = false := decide_eq_false (by omega)
        clear HSD
        by_cases hB : st - r.slack ≤ r.now
        · have d2 : decide (st - r.slack ≤ r.now) = true := decide_eq_true hB
          have HN : Hid ((-1 : Int) = bestI c r 1) := Lib.hid (by show _ = best1 c r; rw [HB1.out, bestC, if_neg (by omega)])
          clear HB1 HB2 hB
          go_wp2
          go_roundw
          case rel => exact ⟨1, -1, by omega, by omega, by go_num, rfl, HN, hs2⟩
          case measure => simp [intOf]
        · by_cases hC : 9007199254740991 < st - r.slack
          · have d2 : decide (st - r.slack ≤ r.now) = false := decide_eq_false hB
            have d3 : decide (9007199254740991 < st - r.slack) = true := decide_eq_true hC
            have HN : Hid ((-1 : Int) = bestI c r 1) := Lib.hid (by show _ = best1 c r; rw [HB1.out, bestC, if_neg (by omega)])
            clear HB1 HB2 hB hC
            go_wp2
            go_roundw
            case rel => exact ⟨1, -1, by omega, by omega, by go_num, rfl, HN, hs2⟩
            case measure => simp [intOf]
          · have d2 : decide (st - r.slack ≤ r.now) = false := decide_eq_false hB
            have d3 : decide (9007199254740991 < st - r.slack) = false := decide_eq_false hC
            have ht : isTime (st - r.slack) = true := by rw [isTime_iff]; omega
            have hc : 0 ≤ (st - r.slack) := by omega
            have HN : Hid (bestI c r 1 = if K (st - r.slack) ≠ K r.now then (st - r.slack) else -1) := Lib.hid (by
              show best1 c r = _
              rw [HB1.out, bestC]
              by_cases hk : K (st - r.slack) ≠ K r.now
              · rw [if_pos ⟨rfl, by omega, by omega, hk, .inl (by omega)⟩, if_pos hk]
              · rw [if_neg (fun h => hk h.2.2.2.1), if_neg hk])
            generalize st - r.slack = t at *
            clear HB1 HB2 hB hC
            go_upto_region 12 with fail
            have hs3 : CSt w D #[.int .i64 r.now, .int .i64 r.slack, .string ⟨r.who.toArray⟩, .slice B1 r.by_.length j1, .slice B2 r.need.length j2, .slice B3 r.may_.length j3] (w2.alloc (.cells #[.int .i64 t, .int .i64 r.slack, .string ⟨r.who.toArray⟩, .slice B1 r.by_.length j1, .slice B2 r.need.length j2, .slice B3 r.may_.length j3] 31)) := hs2.below ((Below.refl _ _).alloc (Nat.le_refl _) _)
            have hCC := hs3.mC
            unfold Blk at hCC
            have hL := Blk.new w2 31 #[.int .i64 t, .int .i64 r.slack, .string ⟨r.who.toArray⟩, .slice B1 r.by_.length j1, .slice B2 r.need.length j2, .slice B3 r.may_.length j3]
            clear f0 f1 f2 f3 f4 f5 hs2
            generalize w2.alloc (.cells #[.int .i64 t, .int .i64 r.slack, .string ⟨r.who.toArray⟩, .slice B1 r.by_.length j1, .slice B2 r.need.length j2, .slice B3 r.may_.length j3] 31) = w3 at *
            generalize w2.heap.size = g9 at *
            obtain ⟨f0, f1, f2, f3, f4, f5⟩ := C6 hL
            go_wp2_with (refine wpList_load_row rfl 40 (.tmp 2) rfl w.heap.size rfl 40 D (0, 0) _ hCC Tryz.underlying40 rfl hsz2 ?_)
            refine (HJ.out t _ hs3.bel ht).mono ?_
            rintro e w4 ⟨⟨ty, sy, Ay, ny, qy, rfl⟩, hb4⟩
            have hs4 := hs3.below hb4
            clear hs3 hb4 hCC hL f0 f1 f2 f3 f4 f5
            by_cases hk : K t = K r.now
            · have HN2 : Hid ((-1 : Int) = bestI c r 1) := Lib.hid (by rw [HN.out, if_neg (by simp [hk])])
              have dk : ((K t : Int) != (K r.now : Int)) = false := by simp [hk]
              generalize (K t : Int) = kt at *
              clear HN hk
              go_wp2
              go_roundw
              case rel => exact ⟨1, -1, by omega, by omega, by go_num, rfl, HN2, hs4⟩
              case measure => simp [intOf]
            · have HN2 : Hid (t = bestI c r 1) := Lib.hid (by rw [HN.out, if_pos hk])
              have dk : ((K t : Int) != (K r.now : Int)) = true := by simp; omega
              generalize (K t : Int) = kt at *
              clear HN hk
              go_wp2
              go_roundw
              case rel => exact ⟨1, t, by omega, by omega, by go_num, rfl, HN2, hs4⟩
              case measure => simp [intOf]
    · by_cases h1 : i = 1
      · subst h1
        have hb1 : b = best1 c r := HB.out
        have HB2' : Hid (best2 c r = bestC K r.now b uv (c.until_ + r.slack)) := Lib.hid (by rw [HB2.out, ← hb1])
        have hbs : b < 0 ∨ 0 ≤ b := by omega
        have HBS := Lib.hid hbs
        clear HB hi hi0 h0 hb1 HB1 HB2 HSD hst hbs
        have d0 : ((1 : Int) == 1) = true := by decide
        have hw2 : IntKind.i64.wrap (c.until_ + r.slack) = c.until_ + r.slack := by
          rw [IntKind.wrap_i64]
          omega
        go_upto_region 6 with fail
        refine wp_region_noPanic ?_
        refine wp_region_held (S := fun W => CSt w D #[.int .i64 r.now, .int .i64 r.slack, .string ⟨r.who.toArray⟩, .slice B1 r.by_.length j1, .slice B2 r.need.length j2, .slice B3 r.may_.length j3] W) (by kernel_rfl) ?_
        refine rc_reg6 r B1 B2 B3 j1 j2 j3 D w _ hsz st HS.out HWR.out _ _ _ _ _ _ _ _ _ _ _ _ _ _ _ _ _ _ _ _ _ _ _ _ _ _ _ _ _ _ _ _ _ _ _ _ _ _ _ _ _ _ _ _ _ _ _ _ _ _ _ _ _ _ _ _ _ _ _ _ _ _ _ _ _ _ _ _ _ _ _ _ _ _ _ _ ?_ _ ⟨hs.mC, hs.mR, hs.bel.drew⟩
        intro W hsW
        unfold rcFrame
        clear hs HWR
        obtain ⟨f0, f1, f2, f3, f4, f5⟩ := C6 hsW.mR
        have q7 : W.cell? ⟨w.heap.size, 7, none⟩ = some (.bool uv) := by rw [hsW.mC.cell 7, hd7]
        have q23 : W.cell? ⟨w.heap.size, 23, none⟩ = some (.int .i64 c.until_) := by rw [hsW.mC.cell 23, hd23]
        go_upto_region 9 with fail
        generalize hT : c.until_ + r.slack = t at *
        have htn0 : 0 ≤ t := by omega
        cases uv with
        | false =>
          have HN : Hid (b = bestI c r 2) := Lib.hid (by show _ = best2 c r; rw [HB2'.out, bestC, if_neg (by simp)])
          clear HB2' hT
          go_wp2
          go_roundw
          case rel => exact ⟨2, b, by omega, by omega, by go_num, rfl, HN, hsW⟩
          case measure => simp [intOf]
        | true =>
          by_cases hB : t ≤ r.now
          · have d2 : decide (t ≤ r.now) = true := decide_eq_true hB
            have HN : Hid (b = bestI c r 2) := Lib.hid (by show _ = best2 c r; rw [HB2'.out, bestC, if_neg (by omega)])
            clear HB2' hB hT htn0
            go_wp2
            go_roundw
            case rel => exact ⟨2, b, by omega, by omega, by go_num, rfl, HN, hsW⟩
            case measure => simp [intOf]
          · by_cases hC : 9007199254740991 < t
            · have d2 : decide (t ≤ r.now) = false := decide_eq_false hB
              have d3 : decide (9007199254740991 < t) = true := decide_eq_true hC
              have HN : Hid (b = bestI c r 2) := Lib.hid (by show _ = best2 c r; rw [HB2'.out, bestC, if_neg (by omega)])
              clear HB2' hB hC hT htn0
              go_wp2
              go_roundw
              case rel => exact ⟨2, b, by omega, by omega, by go_num, rfl, HN, hsW⟩
              case measure => simp [intOf]
            · have d2 : decide (t ≤ r.now) = false := decide_eq_false hB
              have d3 : decide (9007199254740991 < t) = false := decide_eq_false hC
              have ht : isTime t = true := by rw [isTime_iff]; omega
              have HN : Hid (bestI c r 2 = if K t ≠ K r.now ∧ (b < 0 ∨ t < b) then t else b) := Lib.hid (by
                show best2 c r = _
                rw [HB2'.out, bestC]
                by_cases hk : K t ≠ K r.now ∧ (b < 0 ∨ t < b)
                · rw [if_pos ⟨rfl, by omega, by omega, hk⟩, if_pos hk]
                · rw [if_neg (fun h => hk h.2.2.2), if_neg hk])
              clear HB2' hB hC hT
              go_upto_region 12 with fail
              have hs3 : CSt w D #[.int .i64 r.now, .int .i64 r.slack, .string ⟨r.who.toArray⟩, .slice B1 r.by_.length j1, .slice B2 r.need.length j2, .slice B3 r.may_.length j3] (W.alloc (.cells #[.int .i64 t, .int .i64 r.slack, .string ⟨r.who.toArray⟩, .slice B1 r.by_.length j1, .slice B2 r.need.length j2, .slice B3 r.may_.length j3] 31)) := hsW.below ((Below.refl _ _).alloc (Nat.le_refl _) _)
              have hCC := hs3.mC
              unfold Blk at hCC
              have hL := Blk.new W 31 #[.int .i64 t, .int .i64 r.slack, .string ⟨r.who.toArray⟩, .slice B1 r.by_.length j1, .slice B2 r.need.length j2, .slice B3 r.may_.length j3]
              clear f0 f1 f2 f3 f4 f5 hsW q7 q23
              generalize W.alloc (.cells #[.int .i64 t, .int .i64 r.slack, .string ⟨r.who.toArray⟩, .slice B1 r.by_.length j1, .slice B2 r.need.length j2, .slice B3 r.may_.length j3] 31) = w3 at *
              generalize W.heap.size = g9 at *
              obtain ⟨f0, f1, f2, f3, f4, f5⟩ := C6 hL
              go_wp2_with (refine wpList_load_row rfl 40 (.tmp 2) rfl w.heap.size rfl 40 D (0, 0) _ hCC Tryz.underlying40 rfl hsz2 ?_)
              refine (HJ.out t _ hs3.bel ht).mono ?_
              rintro e w4 ⟨⟨ty, sy, Ay, ny, qy, rfl⟩, hb4⟩
              have hs4 := hs3.below hb4
              clear hs3 hb4 hCC hL f0 f1 f2 f3 f4 f5 d2 d3
              by_cases hk : K t = K r.now
              · have HN2 : Hid (b = bestI c r 2) := Lib.hid (by rw [HN.out, if_neg (by simp [hk])])
                have dk : ((K t : Int) != (K r.now : Int)) = false := by simp [hk]
                generalize (K t : Int) = kt at *
                clear HN hk
                go_wp2
                go_roundw
                case rel => exact ⟨2, b, by omega, by omega, by go_num, rfl, HN2, hs4⟩
                case measure => simp [intOf]
              · have dk : ((K t : Int) != (K r.now : Int)) = true := by simp; omega
                by_cases hb0 : b < 0
                · have HN2 : Hid (t = bestI c r 2) := Lib.hid (by rw [HN.out, if_pos ⟨hk, .inl hb0⟩])
                  have d4 : decide (b < 0) = true := decide_eq_true hb0
                  generalize (K t : Int) = kt at *
                  clear HN hk hb0
                  go_wp2
                  go_roundw
                  case rel => exact ⟨2, t, by omega, by omega, by go_num, rfl, HN2, hs4⟩
                  case measure => simp [intOf]
                · have d4 : decide (b < 0) = false := decide_eq_false hb0
                  by_cases hb1 : t < b
                  · have HN2 : Hid (t = bestI c r 2) := Lib.hid (by rw [HN.out, if_pos ⟨hk, .inr hb1⟩])
                    have d5 : decide (t < b) = true := decide_eq_true hb1
                    generalize (K t : Int) = kt at *
                    clear HN hk hb0 hb1
                    go_wp2
                    go_roundw
                    case rel => exact ⟨2, t, by omega, by omega, by go_num, rfl, HN2, hs4⟩
                    case measure => simp [intOf]
                  · have HN2 : Hid (b = bestI c r 2) := Lib.hid (by rw [HN.out, if_neg (fun h => h.2.elim hb0 hb1)])
                    have d5 : decide (t < b) = false := decide_eq_false hb1
                    generalize (K t : Int) = kt at *
                    clear HN hk hb0 hb1
                    go_wp2
                    go_roundw
                    case rel => exact ⟨2, b, by omega, by omega, by go_num, rfl, HN2, hs4⟩
                    case measure => simp [intOf]
      · obtain rfl : i = 2 := by omega
        have hbb : b = best2 c r := HB.out
        have hbw := hs.bel
        clear HB HB1 HB2 hs hi hi0 h0 h1
        subst hbb
        go_wp2
        go_ret
        exact ⟨rfl, hbw⟩
end Go.Proofs.YtnondmeafilplaaGreatDoor
