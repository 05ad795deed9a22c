/-
  The walk of the statement PointerPrints.
-/
import Derived.Test.YtnldkbgbgngjjaaDoorWakes
import Derived.Test.YtnldkbgbgngjjaaDoorRef13B
import Derived.Laws.AppendOwnNone
import Derived.Laws.MakeOwn
namespace Go.Proofs.YtnldkbgbgngjjaaDoor
open Go.RowKit Mem Utf Ref3 Tok
set_option linter.unusedVariables false

theorem make_strs (n : Nat) (hn : n ≤ 1099511627776) (W : World) :
    (Instr.makeSlice 22 (.int .i64 0) (.int .i64 ((n : Int) + 70))).run Tryd.prog W =
      .ok (.slice (some ⟨W.heap.size, 0, none⟩) 0 (n + 70)) (W.alloc (.cells (madeCells (Value.string ByteArray.empty).cells (n + 70)) 9)) := by
  obtain ⟨i0, hi0, hz0, hz1, hz2⟩ := info_parts info_str
  have h := run_make W 22 9 i0 _ Tryd.underlying22 hi0 hz0 .i64 .i64 0 ((n : Int) + 70) (by omega) (by omega) (by rw [hz2]; omega) (by omega)
  rw [hz1, Nat.mul_one, show ((n : Int) + 70).toNat = n + 70 from by omega] at h
  exact h
theorem number_any (n : Int) (w : World) : Calls Tryd.prog 14 #[.int .i64 n] w
    fun e w' => e = .returned (.agg #[.int .i64 n, .int .i64 (-1), .bool false, .string ⟨#[]⟩]) ∧ Below w.heap.size w w' := by
  go_enter Tryd.func14, Tryd.ntmps14
  go_wp2
  refine bodyPost_ret (v := .agg #[.int .i64 n, .int .i64 (-1), .bool false, .string ⟨#[]⟩]) ?_ rfl ⟨rfl, (Below.refl _ _).alloc (Nat.le_refl _) _⟩
  simp [results, Tryd.results14, go_sem]
/-- append of texts that came in, nil let in -/
theorem wpList_app_rd {P : Program} {w : World} {ops : Array Oper} {rest : List Oper} {o : Oper} {a : Act} {Q : Exit → Act → World → Prop} (hgd : o.guard = none) (s x : Operand) (t : TypeId)
    (ho : o.op = .call { callee := .builtin .append, args := #[s, x], argTypes := #[t, t] })
    (base : Nat) (e : TypeId) (i : TypeInfo) (z : Value) (bytes : Nat) (ht : P.underlying t = some (.slice e)) (hi : P.info? e = some i) (hz : i.zero = some z)
    (hsize : i.size = 1) (hby : i.bytes = bytes) (hzs : z.cells.size = 1)
    (v : Value) (n : Nat) (xs : List Value) (hs : a.eval s = v) (hown : w.ownsRow base e 1 v n xs)
    (A : Option Addr) (ts : List (List UInt8)) (c : Nat) (hx : a.eval x = .slice A ts.length c) (hn0 : A = none → ts.length = 0 ∧ c = 0) (hr : Rd w (.slice A ts.length c) ts)
    (h63 : n + ts.length ≤ maxLen) (hbytes : (n + ts.length) * bytes ≤ 140737488355328) (hbase : base ≤ w.heap.size)
    (h : ∀ v' w', w'.ownsRow base e 1 v' (n + ts.length) (xs ++ ts.map strV) → w.grownBy w' v.ownBlock → wpList P ops Q rest (a.put o.dst v') w') : wpList P ops Q (o :: rest) a w := by
  cases A with
  | none =>
    obtain ⟨h0, rfl⟩ := hn0 rfl
    obtain rfl : ts = [] := List.eq_nil_of_length_eq_zero h0
    exact wpList_append_own_none hgd s x t ho base e i 1 ht hi v n xs hs hown hx (h v w (by simpa using hown) (grown_refl _ _))
  | some ad =>
    refine wpList_append_own w hgd s x t ho base e i z 1 bytes ht hi hz hsize hby hzs (by omega) v n xs hs hown ad ts.length c (ts.map strV) hx (by simp) (fun j u hu => ?_) (fun u hu => ?_) h63 hbytes hbase (fun v' w' h1 h2 _ => h v' w' h1 h2)
    · have hj : j < ts.length := by simpa using (List.getElem?_eq_some_iff.1 hu).1
      obtain ⟨A', c', hAc, hcell⟩ := hr
      injection hAc with hA1 _ hc1
      obtain ⟨g, off, hg, _, hcell⟩ := hcell j hj
      rw [← hA1] at hg
      injection hg with hg
      subst hg
      rw [List.getElem?_map, List.getElem?_eq_getElem hj] at hu
      injection hu with hu
      subst hu
      have e1 : (⟨g, off, none⟩ : Addr).add j = ⟨g, off + j, none⟩ := by
        unfold Addr.add
        split <;> simp_all
      rw [e1]
      exact hcell
    · rw [List.mem_map] at hu
      obtain ⟨t', _, rfl⟩ := hu
      rfl
/-- so many tokens were right -/
def BadR (ts : List (List UInt8)) (c : Value) : Prop := ∃ k : Nat, k ≤ ts.length ∧ c = .int .i64 k ∧ Hid (badI wrong (ts.drop k) k = badI wrong ts 0)
/-- what Print tells, as two values -/
def Told (ts : List (List UInt8)) (sv ev : Value) : Prop :=
  (∀ x, printR wrong ts = .error x → sv = .string ⟨#[]⟩ ∧ ev = errV x.1 x.2) ∧ (∀ l, printR wrong ts = .ok l → sv = .string ⟨l.toArray⟩ ∧ ev = .nilIface)
theorem printP_some {ts : List (List UInt8)} {w w' : World} {e : Ending} (h : PrintP ts w e w') : ∃ sv ev, e = .returned (.tuple #[sv, ev]) ∧ Below w.heap.size w w' ∧ Told ts sv ev := by
  obtain ⟨hb, herr, hok⟩ := h
  cases hr : printR wrong ts with
  | error x =>
    refine ⟨_, _, herr x hr, hb, fun y hy => ?_, fun l hl => ?_⟩
    · rw [hr] at hy
      injection hy with hy
      rw [← hy]
      exact ⟨rfl, rfl⟩
    · rw [hr] at hl
      cases hl
  | ok l =>
    refine ⟨_, _, hok l hr, hb, fun y hy => ?_, fun l' hl => ?_⟩
    · rw [hr] at hy
      cases hy
    · rw [hr] at hl
      injection hl with hl
      rw [← hl]
      exact ⟨rfl, rfl⟩
/-- the tokens, and seventy tildes behind them -/
def full (ts : List (List UInt8)) (q : Nat) : List (List UInt8) := ts ++ List.replicate q [126]
theorem full_len (ts : List (List UInt8)) (q : Nat) : (full ts q).length = ts.length + q := by simp [full]
theorem full_snoc (ts : List (List UInt8)) (q : Nat) : full ts (q + 1) = full ts q ++ [[126]] := by simp [full, List.replicate_succ', List.append_assoc]
theorem full_lo (ts : List (List UInt8)) (q k : Nat) (h : k < ts.length) (h' : k < (full ts q).length) : (full ts q)[k] = ts[k] := by simp [full, List.getElem_append_left h]
theorem full_hi (ts : List (List UInt8)) (q k : Nat) (h : ts.length ≤ k) (h' : k < (full ts q).length) : (full ts q)[k] = [126] := by
  simp [full, List.getElem_append_right h]

set_option maxRecDepth 100000 in
set_option maxHeartbeats 8000000 in
theorem prints_any (A : Option Addr) (c : Nat) (ts : List (List UInt8)) (w : World) (hv : Rd w (.slice A ts.length c) ts) (hn0 : A = none → ts.length = 0 ∧ c = 0) (hbk : bulkS ts ≤ 1048576) (hg : Glob w) :
    Calls Tryd.prog 4 #[.slice A ts.length c] w fun e w' => e = .returned (.bool true) ∧ Below w.heap.size w w' := by
  have hlen := bulk_len ts
  obtain ⟨i0, hi0, hz0, hz1, hz2⟩ := info_parts info_str
  have hmk := make_strs ts.length (by omega)
  go_enter Tryd.func4, Tryd.ntmps4
  have hR1 : Rd (w.alloc (.cells (madeCells (Value.string ByteArray.empty).cells (ts.length + 70)) 9)) (.slice A ts.length c) ts := hv.below (Joins.below_alloc1 _ _)
  have hO1 : (w.alloc (.cells (madeCells (Value.string ByteArray.empty).cells (ts.length + 70)) 9)).ownsRow w.heap.size 9 1 (.slice (some ⟨w.heap.size, 0, none⟩) 0 (ts.length + 70)) 0 [] :=
    World.ownsRow_made w _ (ts.length + 70) (Nat.le_refl _) (by unfold maxLen; omega) (by simp [madeCells, Value.cells])
  go_wp2_with (at_builtin; go_must (refine wpList_app_rd rfl (.tmp 13) (.tmp 14) _ rfl w.heap.size 9 i0 _ 16 Tryd.underlying22 hi0 hz0 hz1 hz2 rfl _ 0 [] rfl hO1 A ts c rfl hn0 hR1 (by unfold maxLen; omega) (by omega) (by simp) ?_); intro v3 w3 hown3 hgr3)
  have hbw3 : Below w.heap.size w w3 := ((Below.refl _ _).alloc (Nat.le_refl _) _).grown hgr3 (by simp) (fun q hq => (hO1.lt q hq).1)
  rw [Nat.zero_add, List.nil_append] at hown3
  clear hmk hR1 hO1 hgr3
  go_loopw [3, 4] (fun c3 c4 wr => ∃ q : Nat, q ≤ 70 ∧ c4 = .int .i64 q ∧ wr.ownsRow w.heap.size 9 1 c3 (ts.length + q) ((full ts q).map strV) ∧ Below w.heap.size w wr) (fun _ c4 _ => 70 - (intOf c4).toNat)
  case atStart => exact ⟨0, by omega, rfl, by simpa [full] using hown3, hbw3⟩
  case round =>
    obtain ⟨q, hq, rfl, hown, hbw⟩ := hrel
    have hbs := hbw.size
    by_cases hlt : q < 70
    · go_wp2_with (at_builtin; refine wpList_append_own _ rfl (.tmp 20) (.tmp 21) _ rfl w.heap.size 9 i0 _ 1 16 Tryd.underlying22 hi0 hz0 hz1 hz2 rfl (by omega) u3 (ts.length + q) ((full ts q).map strV) rfl (hown.alloc _) ⟨wr.heap.size, 0, none⟩ 1 1 [.string ⟨#[126]⟩] rfl rfl (one_new _ _ _) (one_cell _ rfl) (by unfold maxLen; omega) (by omega) (by simp; omega) ?_; intro v9 w9 hown9 hgr9 hnil9)
      go_wp2
      go_roundw
      case rel => exact ⟨q + 1, by omega, by go_num, by rw [full_snoc, List.map_append]; exact hown9, (hbw.alloc hbs _).grown hgr9 (by simp; omega) (fun q hq => (hown.lt q hq).1)⟩
      case measure => simp [intOf]; omega
    · obtain rfl : q = 70 := by omega
      clear hown3 hbw3
      obtain ⟨wo, rfl⟩ : ∃ wo : World, wo = wr := ⟨_, rfl⟩
      obtain ⟨g, cap, rfl, hgl⟩ := Joins.ownsRow_form hown (by omega)
      have hcap : ts.length + 70 ≤ cap ∧ cap ≤ maxLen := by
        rcases hown.2 with ⟨h, _⟩ | ⟨g', cap', cur, h, _, _, hn, hc, _⟩
        · cases h
        · injection h with _ _ h
          rw [h]
          exact ⟨hn, hc⟩
      have hcap1 : ts.length ≤ cap := by omega
      have hcap2 : cap ≤ 9223372036854775807 := by have := hcap.2; unfold maxLen at this; omega
      clear hcap
      have hRp : Rd wo (.slice (some ⟨g, 0, none⟩) ts.length cap) ts := by
        refine ⟨_, _, rfl, fun j hj => ⟨g, 0, rfl, (hown.lt g rfl).2, ?_⟩⟩
        have hjf : j < (full ts 70).length := by rw [full_len]; omega
        rw [Nat.zero_add, hown.cellAt j (by omega), List.getElem?_map, List.getElem?_eq_getElem hjf, full_lo ts 70 j hj hjf]
        rfl
      have hsz0 := Glob.size hg
      go_wp2_with fail
      refine (print_any _ ts _ hRp (by omega) (hg.below hbw hsz0)).mono ?_
      intro e w5 hp
      obtain ⟨sv, ev, rfl, hb5, HP⟩ := printP_some hp
      clear hp hRp
      have hown5 := own_below hown hb5
      have hv5 := hv.below (below_chain hbw hbs hb5)
      have hbw5 := below_chain hbw hbs hb5
      have hbs5 := hbw5.size
      have hfull : ∀ j (h : j < ts.length + 70) (h' : j < (full ts 70).length), w5.cell? ⟨g, j, none⟩ = some (.string ⟨(full ts 70)[j].toArray⟩) := fun j h h' => by
        rw [hown5.cellAt j (by omega), List.getElem?_map, List.getElem?_eq_getElem h']
        rfl
      clear hown hown5 hb5 hbw hbs hv
      go_wp2
      go_loopw [33] (fun c33 wr => ∃ k q : Nat, k ≤ ts.length + 70 ∧ c33 = .int .i64 k ∧ wr = w5.drewN q) (fun c33 _ => ts.length + 70 - (intOf c33).toNat)
      case atStart => exact ⟨0, 0, by omega, rfl, rfl⟩
      case round =>
        obtain ⟨k, q, hk, rfl, rfl⟩ := hrel
        by_cases hlt : k < ts.length + 70
        · have hkf : k < (full ts 70).length := by rw [full_len]; exact hlt
          have hc1 := hfull k hlt hkf
          by_cases hkt : k < ts.length
          · rw [full_lo ts 70 k hkt hkf] at hc1
            obtain ⟨A', c', hAc, hcell⟩ := hv5
            injection hAc with hA1 _ hc1'
            subst hA1; subst hc1'
            obtain ⟨g', o', rfl, hgl', hcell⟩ := hcell k hkt
            have hc2 : w5.cell? ⟨g', o' + k, none⟩ = some (.string ⟨ts[k].toArray⟩) := hcell
            have hi0' : (0 : Int) ≤ (k : Int) := by omega
            have hi1 : (k : Int) < (ts.length : Int) := by omega
            have hi2 : (k : Int) < ((ts.length : Int) + 70) := by omega
            have hd1 : decide (k < ts.length) = true := by simpa using hkt
            have hd2 : decide (ts.length ≤ k) = false := by simp; omega
            have hs : (!ts[k] == ts[k]) = false := by simp
            clear hcell hfull
            go_wp2
            go_quiet (fail)
            go_wp2
            go_roundw
            case rel => exact ⟨k + 1, _, by omega, by go_num, rfl⟩
            case measure => simp [intOf]; omega
          · rw [full_hi ts 70 k (by omega) hkf] at hc1
            have hi0' : (0 : Int) ≤ (k : Int) := by omega
            have hi2 : (k : Int) < ((ts.length : Int) + 70) := by omega
            have hd1 : decide (k < ts.length) = false := by simp; omega
            have hd2 : decide (ts.length ≤ k) = true := by simp; omega
            have hge : ts.length ≤ k := by omega
            clear hfull
            go_wp2
            go_quiet (fail)
            go_wp2
            go_roundw
            case rel => exact ⟨k + 1, _, by omega, by go_num, rfl⟩
            case measure => simp [intOf]; omega
        · obtain rfl : k = ts.length + 70 := by omega
          have hbw6 : Below w.heap.size w (w5.drewN q) := hbw5.trans (drewN_below w5 q)
          have hv6 := hv5.below (drewN_below w5 q)
          clear hfull hv5
          obtain ⟨w6, hw6⟩ : ∃ w6 : World, w5.drewN q = w6 := ⟨_, rfl⟩
          rw [hw6] at hbw6 hv6 ⊢
          have Hw6 := Lib.hid hw6
          clear hw6
          have hbs6 := hbw6.size
          have hg6 := hg.below hbw6 hsz0
          by_cases hlong : 65536 < ts.length
          · have hr : printR wrong ts = .error (3, -1) := by rw [printR, if_pos hlong]
            obtain ⟨rfl, rfl⟩ := HP.1 _ hr
            rw [errV_no]
            have hd : (65536 : Int) < (ts.length : Int) := by omega
            clear hr HP
            go_wp2_with fail
            refine (number_any 3 _).mono ?_
            rintro e w7 ⟨rfl, hb7⟩
            have hbw7 := below_chain hbw6 hbs6 hb7
            have hbs7 := hbw7.size
            go_wp2_with fail
            refine (fault_no 3 (-1) ⟨#[]⟩ (by decide) _).mono ?_
            rintro e w8 ⟨rfl, hb8⟩
            have hbw8 := below_chain hbw7 hbs7 hb8
            have hg8 := hg.below hbw8 hsz0
            go_wp2_with fail
            refine (wakes_any _ hg8).mono ?_
            rintro e w9 ⟨rfl, hb9⟩
            have hbw9 := below_chain hbw8 hbw8.size hb9
            go_wp2
            go_ret
            exact ⟨rfl, hbw9⟩
          · go_wp2
            go_loop [80] (fun c80 => BadR ts c80) (fun c80 => ts.length - (intOf c80).toNat)
            case atStart => exact ⟨0, by omega, rfl, Lib.hid rfl⟩
            case round =>
              obtain ⟨k, hk, rfl, hbad⟩ := hrel
              by_cases hlt : k < ts.length
              · have hba := badI_at wrong hlt k
                rw [hbad.out] at hba
                obtain ⟨A', c', hAc, hcell⟩ := hv6
                injection hAc with hA1 _ hc1'
                subst hA1; subst hc1'
                obtain ⟨g', o', rfl, hgl', hcell⟩ := hcell k hlt
                have hc2 : w6.cell? ⟨g', o' + k, none⟩ = some (.string ⟨ts[k].toArray⟩) := hcell
                have hbk1 := bulk_at ts k hlt
                have hi0' : (0 : Int) ≤ (k : Int) := by omega
                have hi1 : (k : Int) < (ts.length : Int) := by omega
                have Hba := Lib.hid hba
                clear hcell hba
                generalize ts[k] = tk at *
                go_wp2_with fail
                refine (refRight_any ⟨tk.toArray⟩ (by show tk.length ≤ _; omega) _).mono ?_
                rintro e w7 ⟨rfl, rfl⟩
                rw [show (ByteArray.mk tk.toArray).data.toList = tk from rfl, rightR]
                by_cases hr : (wrong tk).1 = 0
                · have HN : Hid (badI wrong (ts.drop (k + 1)) (k + 1) = badI wrong ts 0) := Lib.hid (by rw [Hba.out, if_pos hr])
                  rw [decide_eq_true hr]
                  clear hr hc2
                  go_wp2
                  go_round
                  case rel =>
                    refine ⟨trivial, ?_⟩
                    (repeat apply Exists.intro)
                    exact ⟨⟨k + 1, by omega, by go_num, HN⟩, rfl⟩
                  case measure => simp [intOf]; omega
                · have hres : badI wrong ts 0 = some k := by rw [Hba.out, if_neg hr]
                  have hpr : printR wrong ts = .error (100, (k : Int)) := by rw [printR, if_neg hlong, hres]
                  obtain ⟨rfl, rfl⟩ := HP.1 _ hpr
                  rw [errV_at 100 (by omega), decide_eq_false hr]
                  clear hr hc2 hres hpr HP
                  go_wp2_with fail
                  refine (fault_spot 100 k ⟨#[]⟩ (by omega) _).mono ?_
                  rintro e w8 ⟨rfl, hb8⟩
                  have hbw8 := below_chain hbw6 hbs6 hb8
                  have hg8 := hg.below hbw8 hsz0
                  go_wp2_with fail
                  refine (wakes_any _ hg8).mono ?_
                  rintro e w9 ⟨rfl, hb9⟩
                  have hbw9 := below_chain hbw8 hbw8.size hb9
                  go_wp2
                  go_ret
                  exact ⟨rfl, hbw9⟩
              · obtain rfl : k = ts.length := by omega
                have hres : badI wrong ts 0 = none := by rw [← hbad.out, List.drop_length]; rfl
                have hpr : printR wrong ts = .ok (printS ts) := by rw [printR, if_neg hlong, hres]
                obtain ⟨rfl, rfl⟩ := HP.2 _ hpr
                have q1 := err_eq_nil
                clear hres hpr HP
                go_wp2_with fail
                refine (refPrint_any _ ts _ hv6 (by omega)).mono ?_
                rintro e w8 ⟨rfl, hb8⟩
                have hbw8 := below_chain hbw6 hbs6 hb8
                have hg8 := hg.below hbw8 hsz0
                generalize printS ts = pl
                have hs1 : (pl == pl) = true := by simp
                go_wp2_with fail
                refine (wakes_any _ hg8).mono ?_
                rintro e w9 ⟨rfl, hb9⟩
                have hbw9 := below_chain hbw8 hbw8.size hb9
                go_wp2
                go_ret
                exact ⟨rfl, hbw9⟩
end Go.Proofs.YtnldkbgbgngjjaaDoor
