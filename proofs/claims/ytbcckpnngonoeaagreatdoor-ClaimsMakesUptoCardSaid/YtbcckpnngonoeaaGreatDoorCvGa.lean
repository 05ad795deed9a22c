/-
  Walks of the statements' own functions lent and kept of layer 25 (printed by wip/gen_clg.py).
-/
import Derived.Test.YtbcckpnngonoeaaGreatDoorCvX
import Derived.Laws.MakeOwn
import Derived.Laws.AppendOwnNone
namespace Go.Proofs.YtbcckpnngonoeaaGreatDoor
open Go.RowKit Mem Utf Ref3 Tok Cl
set_option linter.unusedVariables false

theorem make_strs (n : Nat) (hn : n ≤ 1099511627776) (W : World) :
    (Instr.makeSlice 22 (.int .i64 0) (.int .i64 ((n : Int) + 70))).run Tryz.prog W =
      .ok (.slice (some ⟨W.heap.size, 0, none⟩) 0 (n + 70)) (W.alloc (.cells (madeCells (Value.string ByteArray.empty).cells (n + 70)) 9)) := by
  obtain ⟨i0, hi0, hz0, hz1, hz2⟩ := info_parts info_str
  have h := run_make W 22 9 i0 _ Tryz.underlying22 hi0 hz0 .i64 .i64 0 ((n : Int) + 70) (by omega) (by omega) (by rw [hz2]; omega) (by omega)
  rw [hz1, Nat.mul_one, show ((n : Int) + 70).toNat = n + 70 from by omega] at h
  exact h
set_option maxRecDepth 100000 in
/-- append of texts that can be read, to a slice with room -/
theorem wpList_app_texts {w : World} {ops : Array Oper} {rest : List Oper} {o : Oper} {a : Act} {Q : Exit → Act → World → Prop} (hgd : o.guard = none) (s x : Operand)
    (ho : o.op = .call { callee := .builtin .append, args := #[s, x], argTypes := #[22, 22] })
    (base g cap : Nat) (hs : a.eval s = .slice (some ⟨g, 0, none⟩) 0 cap) (hown : w.ownsRow base 9 1 (.slice (some ⟨g, 0, none⟩) 0 cap) 0 [])
    (v : Value) (l : List Txt) (hx : a.eval x = v) (hr : Rd w v l) (hl : l.length ≤ 1099511627776) (hbase : base ≤ w.heap.size)
    (h : ∀ v' w', w'.ownsRow base 9 1 v' l.length (l.map strV) → w.grownBy w' (some g) → wpList Tryz.prog ops Q rest (a.put o.dst v') w') : wpList Tryz.prog ops Q (o :: rest) a w := by
  obtain ⟨i0, hi0, hz0, hz1, hz2⟩ := info_parts info_str
  rcases rd_forms hr with ⟨rfl, A, c, rfl⟩ | ⟨b, off, c, rfl, hpos⟩
  · refine wpList_plain hgd fun K hK => ?_
    have hsrc : Src Tryz.prog i0.size 22 (.slice A 0 c) 0 [] w := by
      cases A with
      | none => exact Src.ofNil w Tryz.underlying22 c
      | some ad => exact Src.ofSlice w Tryz.underlying22 ad 0 c [] (by simp) (fun j u hu => by simp at hu) (fun u hu => by cases hu)
    have hrun := run_append_room_src (P := Tryz.prog) w 22 22 o.type 9 i0 Tryz.underlying22 hi0 g 0 0 cap (.slice A 0 c) 0 [] hsrc (by omega) (fun j hj => by simp at hj) (fun j hj => by simp at hj)
    rw [show w.setCells g (0 + 0 * i0.size) [] = w from rfl, Nat.add_zero] at hrun
    unfold Oper.wp execOp
    simp only [ho, resolve, invoke, builtin, Sem.run_bind, Sem.run_pure, Result.andThen_ok, List.map_toArray, List.map_cons, List.map_nil, hs, hx, hrun]
    exact hK _ _ (h _ w hown (grown_refl _ _))
  · refine wpList_append_own w hgd s x 22 ho base 9 i0 _ 1 16 Tryz.underlying22 hi0 hz0 hz1 hz2 rfl (by omega) _ 0 [] hs hown ⟨b, off, none⟩ l.length c (l.map strV) hx (by simp) (fun j u hu => ?_) (fun u hu => ?_) (by unfold maxLen; omega) (by omega) hbase
      (fun v' w' h1 h2 _ => h v' w' (by simpa using h1) h2)
    · have hj : j < l.length := by simpa using (List.getElem?_eq_some_iff.1 hu).1
      obtain ⟨A', c', hAc, hcell⟩ := hr
      injection hAc with hA1 _ hc1
      obtain ⟨g', off', hg, _, hcell⟩ := hcell j hj
      rw [← hA1] at hg
      injection hg with hg
      injection hg with e1 e2
      subst e1; subst e2
      rw [List.getElem?_map, List.getElem?_eq_getElem hj] at hu
      injection hu with hu
      subst hu
      have e1 : (⟨b, off, none⟩ : Addr).add j = ⟨b, off + j, none⟩ := by
        unfold Addr.add
        split <;> simp_all
      rw [e1]
      exact hcell
    · rw [List.mem_map] at hu
      obtain ⟨t', _, rfl⟩ := hu
      rfl
/-- texts, and so many tildes behind them -/
def full (ts : List Txt) (q : Nat) : List Txt := ts ++ List.replicate q [126]
theorem full_len (ts : List Txt) (q : Nat) : (full ts q).length = ts.length + q := by simp [full]
theorem full_snoc (ts : List Txt) (q : Nat) : full ts (q + 1) = full ts q ++ [[126]] := by simp [full, List.replicate_succ', List.append_assoc]
theorem full_lo (ts : List Txt) (q k : Nat) (h : k < ts.length) (h' : k < (full ts q).length) : (full ts q)[k] = ts[k] := by simp [full, List.getElem_append_left h]
theorem full_hi (ts : List Txt) (q k : Nat) (h : ts.length ≤ k) (h' : k < (full ts q).length) : (full ts q)[k] = [126] := by
  simp [full, List.getElem_append_right h]
/-- texts that were lent: a row of its own, with the marks behind -/
def Lent (B : Nat) (w : World) (v : Value) (l : List Txt) : Prop :=
  ∃ g cap, v = .slice (some ⟨g, 0, none⟩) l.length cap ∧ l.length + 70 ≤ cap ∧ cap ≤ 9223372036854775807 ∧ w.ownsRow B 9 1 (.slice (some ⟨g, 0, none⟩) (l.length + 70) cap) (l.length + 70) ((full l 70).map strV)
theorem Lent.below {B : Nat} {w w' : World} {v : Value} {l : List Txt} (h : Lent B w v l) (hb : Below w.heap.size w w') : Lent B w' v l := by
  obtain ⟨g, cap, e, h1, h2, h3⟩ := h
  exact ⟨g, cap, e, h1, h2, own_below h3 hb⟩
theorem Lent.base {B B' : Nat} {w : World} {v : Value} {l : List Txt} (h : Lent B w v l) (hB : B' ≤ B) : Lent B' w v l := by
  obtain ⟨g, cap, e, h1, h2, h3⟩ := h
  exact ⟨g, cap, e, h1, h2, own_base h3 hB⟩
theorem Lent.rd {B : Nat} {w : World} {v : Value} {l : List Txt} (h : Lent B w v l) : Rd w v l := by
  obtain ⟨g, cap, rfl, h1, h2, hown⟩ := h
  refine ⟨_, _, rfl, fun j hj => ⟨g, 0, rfl, (hown.lt g rfl).2, ?_⟩⟩
  have hjf : j < (full l 70).length := by rw [full_len]; omega
  rw [Nat.zero_add, hown.cellAt j (by omega), List.getElem?_map, List.getElem?_eq_getElem hjf, full_lo l 70 j hj hjf]
  rfl

set_option maxRecDepth 100000 in
set_option maxHeartbeats 4000000 in
theorem lent_any (v : Value) (ts : List Txt) (w : World) (hv : Rd w v ts) (hlen : ts.length ≤ 1099511627776) :
    Calls Tryz.prog 27 #[v] w fun e w' => (∃ z, e = .returned z ∧ Lent w.heap.size w' z ts) ∧ Below w.heap.size w w' := by
  obtain ⟨i0, hi0, hz0, hz1, hz2⟩ := info_parts info_str
  have hmk := make_strs ts.length (by omega)
  obtain ⟨A, c, rfl, _⟩ := id hv
  go_enter Tryz.func27, Tryz.ntmps27
  have hR1 : Rd (w.alloc (.cells (madeCells (Value.string ByteArray.empty).cells (ts.length + 70)) 9)) (.slice A ts.length c) ts := hv.below (Joins.below_alloc1 _ _)
  have hO1 : (w.alloc (.cells (madeCells (Value.string ByteArray.empty).cells (ts.length + 70)) 9)).ownsRow w.heap.size 9 1 (.slice (some ⟨w.heap.size, 0, none⟩) 0 (ts.length + 70)) 0 [] :=
    World.ownsRow_made w _ (ts.length + 70) (Nat.le_refl _) (by unfold maxLen; omega) (by simp [madeCells, Value.cells])
  go_wp2_with (at_builtin; go_must (refine wpList_app_texts rfl (.tmp 9) (.tmp 10) rfl w.heap.size w.heap.size (ts.length + 70) rfl hO1 _ ts rfl hR1 hlen (by simp) ?_); intro v3 w3 hown3 hgr3)
  have hbw3 : Below w.heap.size w w3 := ((Below.refl _ _).alloc (Nat.le_refl _) _).grown hgr3 (by simp) (fun q hq => by injection hq with hq; omega)
  clear hmk hR1 hO1 hgr3
  go_loopw [3, 4] (fun c3 c4 wr => ∃ q : Nat, q ≤ 70 ∧ c4 = .int .i64 q ∧ wr.ownsRow w.heap.size 9 1 c3 (ts.length + q) ((full ts q).map strV) ∧ Below w.heap.size w wr) (fun _ c4 _ => 70 - (intOf c4).toNat)
  case atStart => exact ⟨0, by omega, rfl, by simpa [full] using hown3, hbw3⟩
  case round =>
    obtain ⟨q, hq, rfl, hown, hbw⟩ := hrel
    have hbs := hbw.size
    by_cases hlt : q < 70
    · go_wp2_with (at_builtin; refine wpList_append_own _ rfl (.tmp 16) (.tmp 17) _ rfl w.heap.size 9 i0 _ 1 16 Tryz.underlying22 hi0 hz0 hz1 hz2 rfl (by omega) u3 (ts.length + q) ((full ts q).map strV) rfl (hown.alloc _) ⟨wr.heap.size, 0, none⟩ 1 1 [.string ⟨#[126]⟩] rfl rfl (one_newP _ _ _) (one_cellP _ rfl) (by unfold maxLen; omega) (by omega) (by simp; omega) ?_; intro v9 w9 hown9 hgr9 hnil9)
      go_wp2
      go_roundw
      case rel => exact ⟨q + 1, by omega, by go_num, by rw [full_snoc, List.map_append]; exact hown9, (hbw.alloc hbs _).grown hgr9 (by simp; omega) (fun q hq => (hown.lt q hq).1)⟩
      case measure => simp [intOf]; omega
    · obtain rfl : q = 70 := by omega
      clear hown3 hbw3
      obtain ⟨wo, rfl⟩ : ∃ wo : World, wo = wr := ⟨_, rfl⟩
      obtain ⟨g, cap, rfl, hgl⟩ := Joins.ownsRow_form hown (by omega)
      have hcap : ts.length + 70 ≤ cap ∧ cap ≤ maxLen := by
        rcases hown.2 with ⟨h, _⟩ | ⟨g', cap', cur, h, _, _, hn, hc, _⟩
        · cases h
        · injection h with _ _ h
          rw [h]
          exact ⟨hn, hc⟩
      have hcap1 : ts.length ≤ cap := by omega
      have hcap2 : cap ≤ 9223372036854775807 := by have := hcap.2; unfold maxLen at this; omega
      have hcap3 := hcap.1
      clear hcap
      go_wp2
      go_ret
      exact ⟨⟨_, rfl, g, cap, rfl, hcap3, hcap2, hown⟩, hbw⟩

set_option maxRecDepth 100000 in
set_option maxHeartbeats 4000000 in
theorem kept_any (B : Nat) (z v : Value) (ts : List Txt) (w : World) (hz : Lent B w z ts) (hv : Rd w v ts) (hlen : ts.length ≤ 1099511627776) :
    Calls Tryz.prog 29 #[z, v] w fun e w' => e = .returned (.bool true) ∧ Below w.heap.size w w' := by
  obtain ⟨g, cap, rfl, hcap3, hcap2, hown⟩ := hz
  obtain ⟨A, c, rfl, hcell⟩ := hv
  have hcap1 : ts.length ≤ cap := by omega
  have hfull : ∀ j (h : j < ts.length + 70) (h' : j < (full ts 70).length), w.cell? ⟨g, j, none⟩ = some (.string ⟨(full ts 70)[j].toArray⟩) := fun j h h' => by
    rw [hown.cellAt j (by omega), List.getElem?_map, List.getElem?_eq_getElem h']
    rfl
  clear hown
  go_enter Tryz.func29, Tryz.ntmps29
  go_wp2
  go_loopw [14] (fun c14 wr => ∃ k q : Nat, k ≤ ts.length + 70 ∧ c14 = .int .i64 k ∧ wr = w.drewN q) (fun c14 _ => ts.length + 70 - (intOf c14).toNat)
  case atStart => exact ⟨0, 0, by omega, rfl, rfl⟩
  case round =>
    obtain ⟨k, q, hk, rfl, rfl⟩ := hrel
    by_cases hlt : k < ts.length + 70
    · have hkf : k < (full ts 70).length := by rw [full_len]; exact hlt
      have hc1 := hfull k hlt hkf
      by_cases hkt : k < ts.length
      · rw [full_lo ts 70 k hkt hkf] at hc1
        obtain ⟨g', o', rfl, hgl', hcell⟩ := hcell k hkt
        have hc2 : w.cell? ⟨g', o' + k, none⟩ = some (.string ⟨ts[k].toArray⟩) := hcell
        have hi0' : (0 : Int) ≤ (k : Int) := by omega
        have hi1 : (k : Int) < (ts.length : Int) := by omega
        have hi2 : (k : Int) < ((ts.length : Int) + 70) := by omega
        have hd1 : decide (k < ts.length) = true := by simpa using hkt
        have hd2 : decide (ts.length ≤ k) = false := by simp; omega
        have hs : (!ts[k] == ts[k]) = false := by simp
        clear hcell hfull
        go_wp2
        go_quiet (fail)
        go_wp2
        go_roundw
        case rel => exact ⟨k + 1, _, by omega, by go_num, rfl⟩
        case measure => simp [intOf]; omega
      · rw [full_hi ts 70 k (by omega) hkf] at hc1
        have hi0' : (0 : Int) ≤ (k : Int) := by omega
        have hi2 : (k : Int) < ((ts.length : Int) + 70) := by omega
        have hd1 : decide (k < ts.length) = false := by simp; omega
        have hd2 : decide (ts.length ≤ k) = true := by simp; omega
        have hge : ts.length ≤ k := by omega
        clear hfull hcell
        go_wp2
        go_quiet (fail)
        go_wp2
        go_roundw
        case rel => exact ⟨k + 1, _, by omega, by go_num, rfl⟩
        case measure => simp [intOf]; omega
    · obtain rfl : k = ts.length + 70 := by omega
      have hb := drewN_below (B := w.heap.size) w q
      clear hfull hcell
      go_wp2
      go_ret
      exact ⟨rfl, hb⟩
end Go.Proofs.YtbcckpnngonoeaaGreatDoor

