/-
  Walk of package claims: Change (printed by wip/gen_clch.py).
-/
import Derived.Test.YtnondmeafilplaaGreatDoorClKa
import Derived.Test.YtnondmeafilplaaGreatDoorClSo
import Derived.Test.YtnondmeafilplaaGreatDoorClX
namespace Go.Proofs.YtnondmeafilplaaGreatDoor
open Go.RowKit Mem Utf Ref3 Tok Cl
set_option linter.unusedVariables false

namespace Cl
def changeL (c : C) (n : Int) : R → List Int → Int × Bool
  | r, [] => (0, false)
  | r, t :: l => if t ≤ r.now ∨ isTime t = false ∨ n = 8 then changeL c n r l else if kindP (judgeP c { r with now := t }) = n then changeL c n { r with now := t } l else (t, true)
def sort2 : List Int → List Int
  | [a, b] => [min a b, max a b]
  | l => l
def timesW (c : C) (r : R) : List Int := (if (startP c).2 = true then [wrap64 ((startP c).1 - r.slack)] else []) ++ (if inB c.has (key 7) = true then [wrap64 (c.until_ + r.slack)] else [])
/-- when a verdict of another type comes -/
def changeP (c : C) (r : R) : Int × Bool := changeL c (kindP (judgeP c r)) r (sort2 (timesW c r))
theorem changeL_drop (c : C) (n : Int) (r : R) (l : List Int) {k : Nat} (hk : k < l.length) : changeL c n r (l.drop k) = if l[k] ≤ r.now ∨ isTime l[k] = false ∨ n = 8 then changeL c n r (l.drop (k + 1)) else if kindP (judgeP c { r with now := l[k] }) = n then changeL c n { r with now := l[k] } (l.drop (k + 1)) else (l[k], true) := by
  rw [List.drop_eq_getElem_cons hk, changeL]
theorem timesW_len (c : C) (r : R) : (timesW c r).length ≤ 2 := by
  unfold timesW
  split <;> split <;> simp
theorem sort2_len (l : List Int) : (sort2 l).length = l.length := by
  unfold sort2
  split <;> simp
end Cl
theorem ru_now {w : World} {r : R} {u1 u2 u3 : Value} (t : Int) (h : RuAt w r u1 u2 u3) : RuAt w { r with now := t } u1 u2 u3 := ⟨h.by_, h.need, h.may, h.nby, h.nneed, h.nmay⟩
theorem info_i64 : (Tryz.prog.info? 2).map (fun i => (i.zero, i.size, i.bytes)) = some (some (.int .i64 0), 1, 8) := by kernel_rfl
def intV (n : Int) : Value := .int .i64 n
theorem int_at {w : World} {B : Nat} {A : Option Addr} {q : Nat} {e : TypeId} {l : List Int} (h : w.ownsRow B e 1 (.slice A l.length q) l.length (l.map intV)) {k : Nat} (hk : k < l.length) : ∃ g, A = some ⟨g, 0, none⟩ ∧ w.cell? ⟨g, k, none⟩ = some (.int .i64 l[k]) := by
  rcases h.2 with ⟨_, h0⟩ | ⟨g, cap, cur, e, _⟩
  · omega
  · injection e with e _ e2
    subst e; subst e2
    refine ⟨g, rfl, ?_⟩
    rw [h.cellAt k (by omega), List.getElem?_map, List.getElem?_eq_getElem hk]
    rfl
theorem sort_any (v : Value) (B : Nat) (l : List Int) (w : World) (h : w.ownsRow B 2 1 v l.length (l.map intV)) (hl : l.length ≤ 2) :
    Calls Tryz.prog 44 #[v] w fun e w' => e = .returned (.tuple #[]) ∧ w'.ownsRow B 2 1 v l.length ((sort2 l).map intV) ∧ w.grownBy w' v.ownBlock := by
  have h' := h
  rcases h'.2 with ⟨rfl, h0⟩ | ⟨g, cap, cur, rfl, hB, hg, hn, hc, hcs, ht⟩
  · have hl0 : l = [] := List.length_eq_zero_iff.1 h0
    subst hl0
    exact (sort_of none 0 0 (by decide) (fun w' => w = w') w (ins_small none 0 0 (by decide) w)).mono fun e w' ⟨he, hw⟩ => ⟨he, by rw [← hw]; exact h, by rw [← hw]; exact grown_refl _ _⟩
  · match l, hl with
    | [], _ => exact (sort_of _ 0 cap (by decide) (fun w' => w = w') w (ins_small _ 0 cap (by decide) w)).mono fun e w' ⟨he, hw⟩ => ⟨he, by rw [← hw]; exact h, by rw [← hw]; exact grown_refl _ _⟩
    | [a], _ => exact (sort_of _ 1 cap (by decide) (fun w' => w = w') w (ins_small _ 1 cap (by decide) w)).mono fun e w' ⟨he, hw⟩ => ⟨he, by rw [← hw]; exact h, by rw [← hw]; exact grown_refl _ _⟩
    | [a, b], _ =>
      have hT : Two2 w g 2 cap B a b w := Two2.of h (grown_refl _ _)
      exact (sort_of _ 2 cap (by decide) _ w (ins_two2 g cap B a b w w hT)).mono fun e w' ⟨he, hw⟩ => ⟨he, hw.own, hw.gr⟩

set_option maxRecDepth 100000 in
set_option maxHeartbeats 8000000 in
theorem change_any (c : C) (r : R) (v1 v2 v3 u1 u2 u3 : Value) (w : World) (h : ClAt w c v1 v2 v3) (hr : RuAt w r u1 u2 u3) :
    Calls Tryz.prog 22 #[.agg #[v1, .string ⟨c.about.toArray⟩, .int .i64 c.at_, .string ⟨c.by_.toArray⟩, v2, .int .i64 c.from_, .string ⟨c.id_.toArray⟩, v3, .int .i64 c.until_], .agg #[.int .i64 r.now, .int .i64 r.slack, .string ⟨r.who.toArray⟩, u1, u2, u3]] w fun e w' => e = .returned (.tuple #[.int .i64 (changeP c r).1, .bool (changeP c r).2]) ∧ Below w.heap.size w w' := by
  have hq : ∀ (w : World) o, (w.alloc o).heap.size = w.heap.size + 1 := fun w o => by simp
  obtain ⟨i0, hi0, hz0, hz1, hz2⟩ := info_parts info_i64
  obtain ⟨A1, k1, e1, _⟩ := h.has
  obtain ⟨A2, k2, e2, _⟩ := h.for_
  obtain ⟨A3, k3, e3, _⟩ := h.may
  obtain ⟨B1, j1, e4, _⟩ := hr.by_
  obtain ⟨B2, j2, e5, _⟩ := hr.need
  obtain ⟨B3, j3, e6, _⟩ := hr.may
  subst e1; subst e2; subst e3; subst e4; subst e5; subst e6
  have hb0 : ∀ cs ds, Below w.heap.size w ((w.alloc (.cells cs 44)).alloc (.cells ds 25)) := fun cs ds => ((Below.refl _ _).alloc (Nat.le_refl _) _).alloc (by simp) _
  have hC0 := (Blk.new w 44 #[.slice A1 c.has.length k1, .string ⟨c.about.toArray⟩, .int .i64 c.at_, .string ⟨c.by_.toArray⟩, .slice A2 c.for_.length k2, .int .i64 c.from_, .string ⟨c.id_.toArray⟩, .slice A3 c.may_.length k3, .int .i64 c.until_]).alloc (.cells #[.int .i64 r.now, .int .i64 r.slack, .string ⟨r.who.toArray⟩, .slice B1 r.by_.length j1, .slice B2 r.need.length j2, .slice B3 r.may_.length j3] 25)
  have hR0 := Blk.new (w.alloc (.cells #[.slice A1 c.has.length k1, .string ⟨c.about.toArray⟩, .int .i64 c.at_, .string ⟨c.by_.toArray⟩, .slice A2 c.for_.length k2, .int .i64 c.from_, .string ⟨c.id_.toArray⟩, .slice A3 c.may_.length k3, .int .i64 c.until_] 44)) 25 #[.int .i64 r.now, .int .i64 r.slack, .string ⟨r.who.toArray⟩, .slice B1 r.by_.length j1, .slice B2 r.need.length j2, .slice B3 r.may_.length j3]
  rw [hq] at hR0
  go_enter Tryz.func22, Tryz.ntmps22
  go_wp2_with fail
  refine (judge_any c r _ _ _ _ _ _ _ (h.below (hb0 _ _)) (hr.below (hb0 _ _))).mono ?_
  rintro e w1 ⟨v, rfl, hv, hb1⟩
  have hC1 := hC0.below hb1 (by rw [hq, hq]; omega)
  have hR1 := hR0.below hb1 (by rw [hq, hq]; omega)
  have hbw1 := below_chain (hb0 _ _) (by rw [hq, hq]; omega) hb1
  clear hC0 hR0 hb1 hb0
  have hk7 := judgeP_kind c r
  go_wp2_with fail
  refine (ck_any _ hv hk7).mono ?_
  rintro e w' ⟨rfl, rfl⟩
  obtain ⟨n, hn⟩ : ∃ n, kindP (judgeP c r) = n := ⟨_, rfl⟩
  rw [hn]
  have HN := Lib.hid hn
  clear hv hn hk7
  obtain ⟨e0, e1, e2, e3, e4, e5, e6, e7, e8⟩ := C9 hC1
  go_wp2_with fail
  refine (start_any c _ _ _ _ (h.below hbw1)).mono ?_
  rintro e w2 ⟨rfl, hb2⟩
  have hC2 := hC1.below hb2 hC1.lt
  have hR2 := hR1.below hb2 hR1.lt
  have hbw2 := below_chain hbw1 hbw1.size hb2
  have hnil := World.ownsRow_nil w2 (w.heap.size + 2) 2 1
  clear hC1 hR1 hbw1 hb2 e0 e1 e2 e3 e4 e5 e6 e7 e8
  have htw : timesW c r = (if (startP c).2 = true then [wrap64 ((startP c).1 - r.slack)] else []) ++ (if inB c.has (key 7) = true then [wrap64 (c.until_ + r.slack)] else []) := rfl
  have HT := Lib.hid htw
  clear htw
  generalize startP c = sp at *
  obtain ⟨x, b⟩ := sp
  simp only [startV] at *
  obtain ⟨L1, hL1⟩ : ∃ L1, (if b = true then [wrap64 (x - r.slack)] else []) = L1 := ⟨_, rfl⟩
  have hT1 := HT.out
  rw [hL1] at hT1
  have HT1 := Lib.hid hT1
  have HL1 := Lib.hid hL1
  clear HT hT1 hL1
  go_upto_if 21 with fail
  go_cut [7] (fun c7 wx => wx.ownsRow (w.heap.size + 2) 2 1 c7 L1.length (L1.map intV) ∧ Blk wx w.heap.size 44 #[.slice A1 c.has.length k1, .string ⟨c.about.toArray⟩, .int .i64 c.at_, .string ⟨c.by_.toArray⟩, .slice A2 c.for_.length k2, .int .i64 c.from_, .string ⟨c.id_.toArray⟩, .slice A3 c.may_.length k3, .int .i64 c.until_] ∧ Blk wx (w.heap.size + 1) 25 #[.int .i64 r.now, .int .i64 r.slack, .string ⟨r.who.toArray⟩, .slice B1 r.by_.length j1, .slice B2 r.need.length j2, .slice B3 r.may_.length j3] ∧ Below w.heap.size w wx)
  case first =>
    cases b with
    | false =>
      obtain rfl : L1 = [] := HL1.out.symm
      go_wp2
      go_meet
      exact ⟨hnil, hC2, hR2, hbw2⟩
    | true =>
      obtain rfl : L1 = [wrap64 (x - r.slack)] := HL1.out.symm
      obtain ⟨f0, f1, f2, f3, f4, f5⟩ := C6 hR2
      have hRl := hR2.lt
      go_wp2_with (at_builtin; go_must (refine wpList_append_own _ rfl (.tmp 22) (.tmp 27) _ rfl (w.heap.size + 2) 2 i0 _ 1 8 Tryz.underlying116 hi0 hz0 hz1 hz2 rfl (by omega) (.slice none 0 0) 0 [] rfl (hnil.alloc _) ⟨w2.heap.size, 0, none⟩ 1 1 [.int .i64 (wrap64 (x - r.slack))] rfl rfl (one_new _ _ _) (one_cell _ rfl) (by unfold maxLen; omega) (by omega) (by simp; omega) ?_); intro v9 w9 hown9 hgr9 hnil9)
      go_meet
      exact ⟨hown9, (hC2.alloc _).only hgr9 (by intro e; cases e), (hR2.alloc _).only hgr9 (by intro e; cases e), (hbw2.alloc hbw2.size _).grown hgr9 (by have := hbw2.size; simp; omega) (fun q hq => by cases hq)⟩
  case rest =>
    obtain ⟨hown, hC, hR, hbw⟩ := hcut
    have hl1 : L1.length ≤ 1 := by
      rw [← HL1.out]
      split <;> simp
    clear hnil hC2 hR2 hbw2
    obtain ⟨e0, e1, e2, e3, e4, e5, e6, e7, e8⟩ := C9 hC
    go_wp2_with fail
    refine (has_any c _ _ _ (key 7) _ (h.below hbw)).mono ?_
    rintro e w3 ⟨rfl, hb3⟩
    have hown3 := own_below hown hb3
    have hC3 := hC.below hb3 hC.lt
    have hR3 := hR.below hb3 hR.lt
    have hbw3 := below_chain hbw hbw.size hb3
    clear hown hC hR hbw hb3 e0 e1 e2 e3 e4 e5 e6 e7 e8
    have hT1 := HT1.out
    generalize inB c.has (key 7) = b7 at *
    have HT2 := Lib.hid hT1
    clear hT1 HT1 HL1
    have htl := timesW_len c r
    generalize hts : timesW c r = ts at *
    go_upto_if 30 with fail
    go_cut [7] (fun c7 wx => wx.ownsRow (w.heap.size + 2) 2 1 c7 ts.length (ts.map intV) ∧ Blk wx w.heap.size 44 #[.slice A1 c.has.length k1, .string ⟨c.about.toArray⟩, .int .i64 c.at_, .string ⟨c.by_.toArray⟩, .slice A2 c.for_.length k2, .int .i64 c.from_, .string ⟨c.id_.toArray⟩, .slice A3 c.may_.length k3, .int .i64 c.until_] ∧ Blk wx (w.heap.size + 1) 25 #[.int .i64 r.now, .int .i64 r.slack, .string ⟨r.who.toArray⟩, .slice B1 r.by_.length j1, .slice B2 r.need.length j2, .slice B3 r.may_.length j3] ∧ Below w.heap.size w wx)
    case first =>
      cases b7 with
      | false =>
        obtain rfl : ts = L1 := by
          have := HT2.out
          rw [if_neg (by decide), List.append_nil] at this
          exact this
        go_wp2
        go_meet
        exact ⟨hown3, hC3, hR3, hbw3⟩
      | true =>
        obtain rfl : ts = L1 ++ [wrap64 (c.until_ + r.slack)] := by
          have := HT2.out
          rw [if_pos rfl] at this
          exact this
        obtain ⟨f0, f1, f2, f3, f4, f5⟩ := C6 hR3
        obtain ⟨e0, e1, e2, e3, e4, e5, e6, e7, e8⟩ := C9 hC3
        have hRl := hR3.lt
        go_wp2_with (at_builtin; go_must (refine wpList_append_own _ rfl (.tmp 31) (.tmp 37) _ rfl (w.heap.size + 2) 2 i0 _ 1 8 Tryz.underlying116 hi0 hz0 hz1 hz2 rfl (by omega) _ L1.length (L1.map intV) rfl (hown3.alloc _) ⟨w3.heap.size, 0, none⟩ 1 1 [.int .i64 (wrap64 (c.until_ + r.slack))] rfl rfl (one_new _ _ _) (one_cell _ rfl) (by unfold maxLen; omega) (by omega) (by simp; omega) ?_); intro v9 w9 hown9 hgr9 hnil9)
        go_meet
        exact ⟨by rw [List.length_append, List.map_append]; exact hown9, (hC3.alloc _).only hgr9 (by intro e; have := (hown3.lt _ e.symm).1; omega), (hR3.alloc _).only hgr9 (by intro e; have := (hown3.lt _ e.symm).1; omega), (hbw3.alloc hbw3.size _).grown hgr9 (by have := hbw3.size; simp; omega) (fun q hq => by have := (hown3.lt q hq).1; omega)⟩
    case rest =>
      obtain ⟨hown, hC, hR, hbw⟩ := hcut
      clear hown3 hC3 hR3 hbw3
      obtain ⟨A9, q9, e9⟩ := own_slice hown
      subst e9
      go_wp2_with fail
      refine (sort_any _ _ ts _ hown htl).mono ?_
      rintro e w4 ⟨rfl, hown4, hgr4⟩
      have hC4 := hC.only hgr4 (by intro e; have := (hown.lt _ e.symm).1; omega)
      have hR4 := hR.only hgr4 (by intro e; have := (hown.lt _ e.symm).1; omega)
      have hbw4 := hbw.grown hgr4 (by have := hbw.size; omega) (fun q hq => by have := (hown.lt q hq).1; omega)
      have hsl := sort2_len ts
      rw [← hsl] at hown4 htl ⊢
      have HCH : Hid (changeP c r = changeL c n r (sort2 ts)) := Lib.hid (by unfold changeP; rw [HN.out, hts])
      clear hown hC hR hbw hgr4 hsl hts HT2 hl1
      generalize sort2 ts = l at *
      go_wp2_with fail
      go_loopw [43] (fun c43 wr => ∃ (k : Nat) (now : Int), k ≤ l.length ∧ c43 = .int .i64 k ∧ Hid (changeL c n { r with now := now } (l.drop k) = changeP c r) ∧ wr.ownsRow (w.heap.size + 2) 2 1 (.slice A9 l.length q9) l.length (l.map intV) ∧ Blk wr w.heap.size 44 #[.slice A1 c.has.length k1, .string ⟨c.about.toArray⟩, .int .i64 c.at_, .string ⟨c.by_.toArray⟩, .slice A2 c.for_.length k2, .int .i64 c.from_, .string ⟨c.id_.toArray⟩, .slice A3 c.may_.length k3, .int .i64 c.until_] ∧ Blk wr (w.heap.size + 1) 25 #[.int .i64 now, .int .i64 r.slack, .string ⟨r.who.toArray⟩, .slice B1 r.by_.length j1, .slice B2 r.need.length j2, .slice B3 r.may_.length j3] ∧ Below w.heap.size w wr) (fun c43 _ => l.length - (intOf c43).toNat)
      case atStart => exact ⟨0, r.now, by omega, rfl, Lib.hid HCH.out.symm, hown4, hC4, hR4, hbw4⟩
      case round =>
        clear hown4 hC4 hR4 hbw4
        obtain ⟨k, now, hk, rfl, H, hown, hC, hR, hbw⟩ := hrel
        by_cases hlt : k < l.length
        · have hst := changeL_drop c n { r with now := now } l hlt
          rw [H.out] at hst
          have Hst := Lib.hid hst
          clear hst H
          obtain ⟨g, hA9, hcell⟩ := int_at hown hlt
          subst hA9
          generalize l[k] = t at *
          simp only [] at Hst
          obtain ⟨f0, f1, f2, f3, f4, f5⟩ := C6 hR
          have hRl := hR.lt
          have hi0' : (0 : Int) ≤ (k : Int) := by omega
          have hi1 : (k : Int) < (l.length : Int) := by omega
          by_cases h1 : t ≤ now
          · have HV : Hid (changeL c n { r with now := now } (l.drop (k + 1)) = changeP c r) := Lib.hid (by rw [Hst.out, if_pos (.inl h1)])
            clear Hst
            go_wp2
            go_roundw
            case rel => exact ⟨k + 1, now, by omega, by go_num, HV, hown, hC, hR, hbw⟩
            case measure => simp [intOf]; omega
          · go_wp2_with fail
            refine (isTime_any t _).mono ?_
            rintro e w' ⟨rfl, rfl⟩
            cases h2 : Cl.isTime t with
            | false =>
              have HV : Hid (changeL c n { r with now := now } (l.drop (k + 1)) = changeP c r) := Lib.hid (by rw [Hst.out, if_pos (.inr (.inl h2))])
              clear Hst h2
              go_wp2
              go_roundw
              case rel => exact ⟨k + 1, now, by omega, by go_num, HV, hown, hC, hR, hbw⟩
              case measure => simp [intOf]; omega
            | true =>
              by_cases h3 : n = 8
              · have HV : Hid (changeL c n { r with now := now } (l.drop (k + 1)) = changeP c r) := Lib.hid (by rw [Hst.out, if_pos (.inr (.inr h3))])
                have e8 : (n == 8) = true := by simp [h3]
                clear Hst h2 h3
                go_wp2
                go_roundw
                case rel => exact ⟨k + 1, now, by omega, by go_num, HV, hown, hC, hR, hbw⟩
                case measure => simp [intOf]; omega
              · have HS2 : Hid (changeP c r = if kindP (judgeP c { r with now := t }) = n then changeL c n { r with now := t } (l.drop (k + 1)) else (t, true)) := Lib.hid (by
                  rw [Hst.out, if_neg]
                  rintro (h | h | h)
                  · omega
                  · rw [h2] at h
                    cases h
                  · exact h3 h)
                have e8 : (n == 8) = false := by simpa using h3
                have hR5 : Blk (wr.setCell ⟨w.heap.size + 1, 0, none⟩ (.int .i64 t)) (w.heap.size + 1) 25 #[.int .i64 t, .int .i64 r.slack, .string ⟨r.who.toArray⟩, .slice B1 r.by_.length j1, .slice B2 r.need.length j2, .slice B3 r.may_.length j3] := hR.put 0 _
                have hC5 : Blk (wr.setCell ⟨w.heap.size + 1, 0, none⟩ (.int .i64 t)) w.heap.size 44 #[.slice A1 c.has.length k1, .string ⟨c.about.toArray⟩, .int .i64 c.at_, .string ⟨c.by_.toArray⟩, .slice A2 c.for_.length k2, .int .i64 c.from_, .string ⟨c.id_.toArray⟩, .slice A3 c.may_.length k3, .int .i64 c.until_] := hC.far (by show w.heap.size ≠ w.heap.size + 1; omega) _
                have hown5 : (wr.setCell ⟨w.heap.size + 1, 0, none⟩ (.int .i64 t)).ownsRow (w.heap.size + 2) 2 1 (.slice (some ⟨g, 0, none⟩) l.length q9) l.length (l.map intV) :=
                  hown.kept (grown_put (grown_refl wr (some (w.heap.size + 1))) 0 _) (.inr (by intro e; have := (hown.lt _ e).1; omega))
                have hbw5 : Below w.heap.size w (wr.setCell ⟨w.heap.size + 1, 0, none⟩ (.int .i64 t)) := hbw.setCell (by show w.heap.size ≤ w.heap.size + 1; omega) _
                have hfr0 := hR.frozen 0
                clear Hst h2 h3 hR hown
                go_upto_region 14 with fail
                clear f0 f1 f2 f3 f4 f5 hfr0
                generalize wr.setCell ⟨w.heap.size + 1, 0, none⟩ (.int .i64 t) = w5 at *
                obtain ⟨f0, f1, f2, f3, f4, f5⟩ := C6 hR5
                obtain ⟨e0, e1, e2, e3, e4, e5, e6, e7, e88⟩ := C9 hC5
                go_wp2_with fail
                refine (judge_any c { r with now := t } _ _ _ _ _ _ _ (h.below hbw5) (ru_now t (hr.below hbw5))).mono ?_
                rintro e w6 ⟨v6, rfl, hv6, hb6⟩
                have hk7 := judgeP_kind c { r with now := t }
                have hR6 := hR5.below hb6 hR5.lt
                have hC6 := hC5.below hb6 hC5.lt
                have hown6 := own_below hown5 hb6
                have hbw6 := below_chain hbw5 hbw5.size hb6
                clear hR5 hC5 hown5 hbw5 hb6 e0 e1 e2 e3 e4 e5 e6 e7 e88 f0 f1 f2 f3 f4 f5
                go_wp2_with fail
                refine (ck_any _ hv6 hk7).mono ?_
                rintro e w' ⟨rfl, rfl⟩
                have hs2 := HS2.out
                clear hv6 hk7 HS2
                generalize kindP (judgeP c { r with now := t }) = m at *
                by_cases hmn : m = n
                · have HV : Hid (changeL c n { r with now := t } (l.drop (k + 1)) = changeP c r) := Lib.hid (by rw [hs2, if_pos hmn])
                  have g1 : (m != n) = false := by simp [hmn]
                  clear hs2 hmn
                  go_wp2
                  go_roundw
                  case rel => exact ⟨k + 1, t, by omega, by go_num, HV, hown6, hC6, hR6, hbw6⟩
                  case measure => simp [intOf]; omega
                · have HV : Hid (changeP c r = (t, true)) := Lib.hid (by rw [hs2, if_neg hmn])
                  have g1 : (m != n) = true := by simpa using hmn
                  clear hs2 hmn
                  go_wp2
                  go_ret2
                  exact ⟨by rw [HV.out]; rfl, hbw6⟩
        · obtain rfl : k = l.length := by omega
          have HV : Hid (changeP c r = (0, false)) := Lib.hid (by rw [← H.out, List.drop_length]; rfl)
          clear H hlt hk hown
          go_wp2
          go_ret2
          exact ⟨by rw [HV.out]; rfl, hbw⟩
end Go.Proofs.YtnondmeafilplaaGreatDoor
