import Derived.Test.YtmcmoaeheadihaaGreatDoorLCs
import Derived.Test.YtmcmoaeheadihaaGreatDoorAkMs
import Derived.Test.YtmcmoaeheadihaaGreatDoorPkG
import Derived.BigQuiet
import Derived.Test.YtmcmoaeheadihaaGreatDoorGI
import Derived.Deep.RegionHeldLaw
import Derived.Deep.QuietTactic
set_option maxRecDepth 100000
set_option maxHeartbeats 4000000
namespace Go.Proofs.YtmcmoaeheadihaaGreatDoor
open Go.RowKit Mem Utf Ref3 Idx Tok TokC
set_option linter.unusedVariables false
set_option linter.unusedSimpArgs false
namespace Nd
def tyN (k n : Nat) : Nat := ((List.range n).filter fun j => decide (5 ≤ j) && holdB k j).length
theorem tyN_succ (k n : Nat) : tyN k (n + 1) = tyN k n + if (decide (5 ≤ n) && holdB k n) = true then 1 else 0 := by
  unfold tyN
  rw [List.range_succ, List.filter_append, List.length_append]
  congr 1
  by_cases h : (decide (5 ≤ n) && holdB k n) = true
  · rw [if_pos h]
    simp [List.filter_cons, h]
  · rw [if_neg h]
    simp [List.filter_cons, h]
theorem tyN_le (k n : Nat) : tyN k n ≤ n := by
  unfold tyN
  exact Nat.le_trans (List.length_filter_le _ _) (by simp)
theorem tyN_end {k : Nat} (h : k ≤ 8) : tyN k 12 = if k = 0 then 0 else 1 := by
  have e : k = 0 ∨ k = 1 ∨ k = 2 ∨ k = 3 ∨ k = 4 ∨ k = 5 ∨ k = 6 ∨ k = 7 ∨ k = 8 := by omega
  rcases e with rfl | rfl | rfl | rfl | rfl | rfl | rfl | rfl | rfl <;> decide
theorem made_forms {ss : List Stp} {w : World} {e : Ending} {w' : World} (hF : ∀ s ∈ ss, s.Fine) (h : MadeP ss w e w') : Below w.heap.size w w' ∧ ∃ (o : Option Tr) (q : Option Addr) (s : Int) (fl : Bool) (bi : Int) (tx : ByteArray) (A : Option Addr) (n c : Nat) (K : Option Addr) (m d : Nat) (b : Bool), e = .returned (.tuple #[.pointer q, .agg #[.int .i64 s, .bool fl, .int .u64 bi, .string tx, .slice A n c, .slice K m d], .bool b]) ∧ HasT w' o (.pointer q) := by
  obtain ⟨hb, h⟩ := h
  refine ⟨hb, ?_⟩
  cases hbt : buildT ss with
  | inl x =>
    rw [hbt] at h
    obtain rfl := h
    exact ⟨none, none, _, _, _, _, _, _, _, _, _, _, _, rfl, .inl ⟨rfl, rfl⟩⟩
  | inr t =>
    rw [hbt] at h
    obtain ⟨g, A, c, K, d, rfl, hr, h1, h2, v, h3, h4⟩ := h
    exact ⟨some t, some ⟨g, 0, none⟩, _, _, _, _, _, _, _, _, _, _, _, rfl, .inr ⟨t, g, v, rfl, rfl, h3, RdT.toA h4, (buildT_ok hF hbt).1, h2⟩⟩
theorem heard_ne_0 (W : World) : (binOp .neq 70 (.agg #[.bool true, .bool false, .int .i64 (srtK 0 : Nat), .bool (decide (0 = 8))]) (.agg #[.bool true, .bool false, .int .i64 (srtK 0 : Nat), .bool (decide (0 = 8))])).run Tryz.prog W = .ok (.bool false) W := by kernel_rfl
theorem heard_ne_1 (W : World) : (binOp .neq 70 (.agg #[.bool true, .bool false, .int .i64 (srtK 1 : Nat), .bool (decide (1 = 8))]) (.agg #[.bool true, .bool false, .int .i64 (srtK 1 : Nat), .bool (decide (1 = 8))])).run Tryz.prog W = .ok (.bool false) W := by kernel_rfl
theorem heard_ne_2 (W : World) : (binOp .neq 70 (.agg #[.bool true, .bool false, .int .i64 (srtK 2 : Nat), .bool (decide (2 = 8))]) (.agg #[.bool true, .bool false, .int .i64 (srtK 2 : Nat), .bool (decide (2 = 8))])).run Tryz.prog W = .ok (.bool false) W := by kernel_rfl
theorem heard_ne_3 (W : World) : (binOp .neq 70 (.agg #[.bool true, .bool false, .int .i64 (srtK 3 : Nat), .bool (decide (3 = 8))]) (.agg #[.bool true, .bool false, .int .i64 (srtK 3 : Nat), .bool (decide (3 = 8))])).run Tryz.prog W = .ok (.bool false) W := by kernel_rfl
theorem heard_ne_4 (W : World) : (binOp .neq 70 (.agg #[.bool true, .bool false, .int .i64 (srtK 4 : Nat), .bool (decide (4 = 8))]) (.agg #[.bool true, .bool false, .int .i64 (srtK 4 : Nat), .bool (decide (4 = 8))])).run Tryz.prog W = .ok (.bool false) W := by kernel_rfl
theorem heard_ne_5 (W : World) : (binOp .neq 70 (.agg #[.bool true, .bool false, .int .i64 (srtK 5 : Nat), .bool (decide (5 = 8))]) (.agg #[.bool true, .bool false, .int .i64 (srtK 5 : Nat), .bool (decide (5 = 8))])).run Tryz.prog W = .ok (.bool false) W := by kernel_rfl
theorem heard_ne_6 (W : World) : (binOp .neq 70 (.agg #[.bool true, .bool false, .int .i64 (srtK 6 : Nat), .bool (decide (6 = 8))]) (.agg #[.bool true, .bool false, .int .i64 (srtK 6 : Nat), .bool (decide (6 = 8))])).run Tryz.prog W = .ok (.bool false) W := by kernel_rfl
theorem heard_ne_7 (W : World) : (binOp .neq 70 (.agg #[.bool true, .bool false, .int .i64 (srtK 7 : Nat), .bool (decide (7 = 8))]) (.agg #[.bool true, .bool false, .int .i64 (srtK 7 : Nat), .bool (decide (7 = 8))])).run Tryz.prog W = .ok (.bool false) W := by kernel_rfl
theorem heard_ne_8 (W : World) : (binOp .neq 70 (.agg #[.bool true, .bool false, .int .i64 (srtK 8 : Nat), .bool (decide (8 = 8))]) (.agg #[.bool true, .bool false, .int .i64 (srtK 8 : Nat), .bool (decide (8 = 8))])).run Tryz.prog W = .ok (.bool false) W := by kernel_rfl
theorem heard_ne (k : Nat) (hk : k ≤ 8) (W : World) : (binOp .neq 70 (.agg #[.bool true, .bool false, .int .i64 (srtK k : Nat), .bool (decide (k = 8))]) (.agg #[.bool true, .bool false, .int .i64 (srtK k : Nat), .bool (decide (k = 8))])).run Tryz.prog W = .ok (.bool false) W := by
  have e : k = 0 ∨ k = 1 ∨ k = 2 ∨ k = 3 ∨ k = 4 ∨ k = 5 ∨ k = 6 ∨ k = 7 ∨ k = 8 := by omega
  rcases e with rfl | rfl | rfl | rfl | rfl | rfl | rfl | rfl | rfl
  · exact heard_ne_0 W
  · exact heard_ne_1 W
  · exact heard_ne_2 W
  · exact heard_ne_3 W
  · exact heard_ne_4 W
  · exact heard_ne_5 W
  · exact heard_ne_6 W
  · exact heard_ne_7 W
  · exact heard_ne_8 W
theorem heard_n0 (W : World) : (binOp .neq 70 (.agg #[.bool false, .bool false, .int .i64 0, .bool false]) (.agg #[.bool false, .bool false, .int .i64 0, .bool false])).run Tryz.prog W = .ok (.bool false) W := by kernel_rfl
theorem heard_n1 (W : World) : (binOp .neq 70 (.agg #[.bool false, .bool true, .int .i64 0, .bool false]) (.agg #[.bool false, .bool true, .int .i64 0, .bool false])).run Tryz.prog W = .ok (.bool false) W := by kernel_rfl
theorem twoA_at (k : Nat) {n : Nat} (hn : 1 ≤ n ∧ n ≤ 11) : (twoA k)[n]? = some (.bool (holdB k n)) := by
  rcases wants hn with rfl | rfl | rfl | rfl | rfl | rfl | rfl | rfl | rfl | rfl | rfl <;> rfl
theorem lost_nil {k : Nat} {p : Option Addr} (hk8 : k ≤ 8) (hp : k = 7 ↔ p ≠ none) : decide (k = 8) = (decide (7 ≤ k) && decide (p = none)) := by
  by_cases h7 : k = 7
  · have := hp.1 h7
    subst h7
    simp [this]
  · have hpn : p = none := by
      cases p with
      | none => rfl
      | some a => exact absurd (hp.2 (by simp)) h7
    rw [hpn, Bool.eq_iff_iff]
    simp
    omega
theorem below_d1 {B : Nat} {a b : World} {m : Nat} (h : Below B a b) : Below B a (b.drewN m) := ⟨h.os, h.tape, h.output, h.size, h.block⟩
theorem held8 {a b : Nat} {x0 x1 x2 x3 y0 y1 y2 y3 : Value} {W0 W W' : World} (h : W.cell? ⟨a, 0, none⟩ = some x0 ∧ W.cell? ⟨a, 1, none⟩ = some x1 ∧ W.cell? ⟨a, 2, none⟩ = some x2 ∧ W.cell? ⟨a, 3, none⟩ = some x3 ∧ W.cell? ⟨b, 0, none⟩ = some y0 ∧ W.cell? ⟨b, 1, none⟩ = some y1 ∧ W.cell? ⟨b, 2, none⟩ = some y2 ∧ W.cell? ⟨b, 3, none⟩ = some y3 ∧ Below W0.heap.size W0 W) (hb : Below W.heap.size W W') : W'.cell? ⟨a, 0, none⟩ = some x0 ∧ W'.cell? ⟨a, 1, none⟩ = some x1 ∧ W'.cell? ⟨a, 2, none⟩ = some x2 ∧ W'.cell? ⟨a, 3, none⟩ = some x3 ∧ W'.cell? ⟨b, 0, none⟩ = some y0 ∧ W'.cell? ⟨b, 1, none⟩ = some y1 ∧ W'.cell? ⟨b, 2, none⟩ = some y2 ∧ W'.cell? ⟨b, 3, none⟩ = some y3 ∧ Below W0.heap.size W0 W' := by
  obtain ⟨h0, h1, h2, h3, h4, h5, h6, h7, h8⟩ := h
  have g : ∀ {k i : Nat} {y : Value}, W.cell? ⟨k, i, none⟩ = some y → W'.cell? ⟨k, i, none⟩ = some y := fun h => ((old hb).1 _ _ (World.block_lt_of_cell? _ _ h)).trans h
  exact ⟨g h0, g h1, g h2, g h3, g h4, g h5, g h6, g h7, h8.trans (hb.mono h8.size)⟩
set_option maxHeartbeats 16000000 in
theorem table_any (v : Value) (l : List UInt8) (ss : List Stp) (w : World) (hS : RdS w v ss) (hF : ∀ s ∈ ss, s.Fine) (hC : ∀ s ∈ ss, s.Cnt) (hn : ss.length ≤ 1048576) (hl : l.length ≤ 2097152) (hG : Glob w) (hT : Tab w) :
    Calls Tryz.prog 4 #[v, .string ⟨l.toArray⟩] w (TrueP w) := by
  obtain ⟨vA, vc, rfl, _⟩ := id hS
  have HM := Lib.hid (made_law _ ss _ hS hF hC hn)
  have HF := Lib.hid hF
  have HL := Lib.hid hl
  have HG := Lib.hid hG
  have HT := Lib.hid hT
  clear hS hF hC hl hG hT hn
  go_enter Tryz.func4, Tryz.ntmps4
  go_wp2_with fail
  (refine HM.out.mono ?_; intro e w1 hm)
  obtain ⟨hb1, o, q, s0, fl, bi, tx, A, n0, c0, K, m0, d0, b0, rfl, hT1⟩ := made_forms HF.out hm
  have HB1 := Lib.hid hb1
  have HTT := Lib.hid hT1
  have hx : Below w1.heap.size w1 (w1.alloc (.cells #[.int .i64 s0, .bool fl, .int .u64 bi, .string tx, .slice A n0 c0, .slice K m0 d0] 32)) := (Below.refl _ _).alloc (Nat.le_refl _) _
  have HX := Lib.hid hx
  clear hm hb1 hT1 hx HM HF
  have HG1 := Lib.hid (HG.out.next HB1.out)
  have HT1 := Lib.hid (HT.out.next HB1.out)
  go_wp2_with fail
  (refine (look_k o (.pointer q) l w1 _ HTT.out HX.out (by have := HL.out; omega) (HG1.out.next HX.out) (HT1.out.next HX.out)).mono ?_; rintro e w2 ⟨⟨v8, rfl, hv8⟩, hb2⟩)
  have HB2 := Lib.hid (HX.out.trans (hb2.mono HX.out.size))
  have HV := Lib.hid hv8
  have HK8 := Lib.hid (isK_le hv8)
  obtain ⟨k, hk⟩ : ∃ k, lookK o l = k := ⟨_, rfl⟩
  have HKK := Lib.hid hk
  rw [hk] at HV HK8
  clear hb2 hv8 HX hk
  obtain ⟨p, b7, hta, hp8⟩ : ∃ (p : Option Addr) (b7 : Bool), (∀ W, (Instr.typeAssert v8 42 56 true).run Tryz.prog W = .ok (.tuple #[.pointer p, .bool b7]) W) ∧ decide (k = 8) = (b7 && decide (p = none)) := by
    by_cases hk0 : k = 0
    · have hv := HV.out
      subst hk0
      rcases hv with ⟨_, rfl⟩ | ⟨h, _⟩ | ⟨h, _⟩ | ⟨h, _⟩ | ⟨h, _⟩ | ⟨h, _⟩ | ⟨h, _⟩ | ⟨h, _⟩ | ⟨h, _⟩
      · exact ⟨none, false, fun W => wa_0_11 W, rfl⟩
      all_goals exact absurd h (by decide)
    · obtain ⟨p, hp, ha⟩ := lost_k HV.out hk0
      exact ⟨p, decide (7 ≤ k), ha, lost_nil HK8.out hp⟩
  have HP8 := Lib.hid hp8
  clear hp8
  rcases isK_shape HV.out with rfl | ⟨T, u, rfl⟩
  · obtain rfl : k = 0 := by
      rcases HV.out with ⟨h, _⟩ | ⟨_, h⟩ | ⟨_, _, h⟩ | ⟨_, _, h⟩ | ⟨_, _, h⟩ | ⟨_, _, h⟩ | ⟨_, _, h⟩ | ⟨_, _, h⟩ | ⟨_, h⟩
      · exact h
      all_goals cases h
    go_wp2_with fail
    (refine (two14_k HV.out _).mono ?_; rintro e w3 ⟨rfl, hb3⟩)
    have HB3 := Lib.hid (HB2.out.trans (hb3.mono HB2.out.size))
    clear hb3
    unfold twoA
    have hx3 : Below w3.heap.size w3 (w3.alloc (.cells #[.bool false, .bool (holdB 0 1), .bool (holdB 0 2), .bool (holdB 0 3), .bool (holdB 0 4), .bool (holdB 0 5), .bool (holdB 0 6), .bool (holdB 0 7), .bool (holdB 0 8), .bool (holdB 0 9), .bool (holdB 0 10), .bool (holdB 0 11)] 67)) := (Below.refl _ _).alloc (Nat.le_refl _) _
    have HBL := Lib.hid (Blk.new w3 67 #[.bool false, .bool (holdB 0 1), .bool (holdB 0 2), .bool (holdB 0 3), .bool (holdB 0 4), .bool (holdB 0 5), .bool (holdB 0 6), .bool (holdB 0 7), .bool (holdB 0 8), .bool (holdB 0 9), .bool (holdB 0 10), .bool (holdB 0 11)])
    have HB3X := Lib.hid (HB3.out.trans (hx3.mono HB3.out.size))
    have HASK := Lib.hid (fun (n i : Nat) (f : Int) (w : World) (hn : 1 ≤ n ∧ n ≤ 11) (hi : i < 4) (hf : f = ((i + 1 : Nat) : Int)) (hb : Below w1.heap.size w1 w) => ask_any o (.pointer q) l n i f w1 w HTT.out hb (by have := HL.out; omega) (HG1.out.next hb) (HT1.out.next hb) hn hi hf)
    rw [HKK.out] at HASK
    clear hx3
    go_wp2_with fail
    generalize (w3.alloc (.cells #[.bool false, .bool (holdB 0 1), .bool (holdB 0 2), .bool (holdB 0 3), .bool (holdB 0 4), .bool (holdB 0 5), .bool (holdB 0 6), .bool (holdB 0 7), .bool (holdB 0 8), .bool (holdB 0 9), .bool (holdB 0 10), .bool (holdB 0 11)] 67)) = wL at *
    have hk8 := HK8.out
    go_loopw [12, 13] (fun c12 c13 wr => ∃ n : Nat, 1 ≤ n ∧ n ≤ 12 ∧ c13 = .int .i64 (n : Nat) ∧ c12 = .int .i64 (tyN 0 n : Nat) ∧ Hid (Below wL.heap.size wL wr)) (fun _ c13 _ => 12 - (intOf c13).toNat)
    case atStart => exact ⟨1, by omega, by omega, rfl, rfl, Lib.hid (Below.refl _ _)⟩
    case round =>
      obtain ⟨n, hn1, hn2, rfl, rfl, HI⟩ := hrel
      have HQ0 := Lib.hid HI.out
      have htl := tyN_le 0 n
      by_cases hlt : n ≤ 11
      · cases hh : holdB 0 n with
        | false =>
          have HC0 : Hid (hearC 0 n 0 = #[.bool false, .bool false, .int .i64 0, .bool false]) := Lib.hid (by unfold hearC; rw [if_neg (by rw [hh]; decide)]; rfl)
          have HC1 : Hid (hearC 0 n 1 = #[.bool false, .bool true, .int .i64 0, .bool false]) := Lib.hid (by unfold hearC; rw [if_neg (by rw [hh]; decide)]; rfl)
          have HC2 : Hid (hearC 0 n 2 = #[.bool false, .bool false, .int .i64 0, .bool false]) := Lib.hid (by unfold hearC; rw [if_neg (by rw [hh]; decide)]; rfl)
          have HC3 : Hid (hearC 0 n 3 = #[.bool false, .bool true, .int .i64 0, .bool false]) := Lib.hid (by unfold hearC; rw [if_neg (by rw [hh]; decide)]; rfl)
          have HTW : Hid ((#[.bool false, .bool (holdB 0 1), .bool (holdB 0 2), .bool (holdB 0 3), .bool (holdB 0 4), .bool (holdB 0 5), .bool (holdB 0 6), .bool (holdB 0 7), .bool (holdB 0 8), .bool (holdB 0 9), .bool (holdB 0 10), .bool (holdB 0 11)] : Array Value)[n]? = some (.bool false)) := Lib.hid (by have := twoA_at 0 (n := n) ⟨by omega, by omega⟩; rw [hh] at this; exact this)
          have HTY : Hid (tyN 0 (n + 1) = tyN 0 n + if 5 ≤ n then 0 else 0) := Lib.hid (by rw [tyN_succ, hh]; by_cases h5 : 5 ≤ n <;> simp [h5])
          clear hh htl
          go_wp2_with fail
          (refine (HASK.out n 0 1 _ ⟨by omega, by omega⟩ (by decide) rfl (HB3X.out.trans (HQ0.out.mono HB3X.out.size))).mono ?_; rintro e w4 ⟨rfl, hb4⟩)
          rw [HC0.out]
          have HQ1 := Lib.hid ((HQ0.out.trans (hb4.mono HQ0.out.size)).alloc (HQ0.out.trans (hb4.mono HQ0.out.size)).size (.cells #[.bool false, .bool false, .int .i64 0, .bool false] 70))
          have HK0 := Lib.hid (Blk.new w4 70 #[.bool false, .bool false, .int .i64 0, .bool false])
          clear hb4
          go_wp2_with fail
          (refine (HASK.out n 1 2 _ ⟨by omega, by omega⟩ (by decide) rfl (HB3X.out.trans (HQ1.out.mono HB3X.out.size))).mono ?_; rintro e w5 ⟨rfl, hb4⟩)
          rw [HC1.out]
          have HQ2 := Lib.hid ((HQ1.out.trans (hb4.mono HQ1.out.size)).alloc (HQ1.out.trans (hb4.mono HQ1.out.size)).size (.cells #[.bool false, .bool true, .int .i64 0, .bool false] 70))
          have HK1 := Lib.hid (Blk.new w5 70 #[.bool false, .bool true, .int .i64 0, .bool false])
          have HK0 := Lib.hid ((HK0.out.below hb4 HK0.out.lt).alloc (.cells #[.bool false, .bool true, .int .i64 0, .bool false] 70))
          clear hb4
          go_wp2_with fail
          (refine (HASK.out n 2 3 _ ⟨by omega, by omega⟩ (by decide) rfl (HB3X.out.trans (HQ2.out.mono HB3X.out.size))).mono ?_; rintro e w6 ⟨rfl, hb4⟩)
          rw [HC2.out]
          have HQ3 := Lib.hid ((HQ2.out.trans (hb4.mono HQ2.out.size)).alloc (HQ2.out.trans (hb4.mono HQ2.out.size)).size (.cells #[.bool false, .bool false, .int .i64 0, .bool false] 70))
          have HK2 := Lib.hid (Blk.new w6 70 #[.bool false, .bool false, .int .i64 0, .bool false])
          have HK0 := Lib.hid ((HK0.out.below hb4 HK0.out.lt).alloc (.cells #[.bool false, .bool false, .int .i64 0, .bool false] 70))
          have HK1 := Lib.hid ((HK1.out.below hb4 HK1.out.lt).alloc (.cells #[.bool false, .bool false, .int .i64 0, .bool false] 70))
          clear hb4
          go_wp2_with fail
          (refine (HASK.out n 3 4 _ ⟨by omega, by omega⟩ (by decide) rfl (HB3X.out.trans (HQ3.out.mono HB3X.out.size))).mono ?_; rintro e w7 ⟨rfl, hb4⟩)
          rw [HC3.out]
          have HQ4 := Lib.hid ((HQ3.out.trans (hb4.mono HQ3.out.size)).alloc (HQ3.out.trans (hb4.mono HQ3.out.size)).size (.cells #[.bool false, .bool true, .int .i64 0, .bool false] 70))
          have HK3 := Lib.hid (Blk.new w7 70 #[.bool false, .bool true, .int .i64 0, .bool false])
          have HK0 := Lib.hid ((HK0.out.below hb4 HK0.out.lt).alloc (.cells #[.bool false, .bool true, .int .i64 0, .bool false] 70))
          have HK1 := Lib.hid ((HK1.out.below hb4 HK1.out.lt).alloc (.cells #[.bool false, .bool true, .int .i64 0, .bool false] 70))
          have HK2 := Lib.hid ((HK2.out.below hb4 HK2.out.lt).alloc (.cells #[.bool false, .bool true, .int .i64 0, .bool false] 70))
          clear hb4
          have d00 := HK0.out.cell 0
          have d01 := HK0.out.cell 1
          have d02 := HK0.out.cell 2
          have d03 := HK0.out.cell 3
          have d10 := HK1.out.cell 0
          have d11 := HK1.out.cell 1
          have d12 := HK1.out.cell 2
          have d13 := HK1.out.cell 3
          have d20 := HK2.out.cell 0
          have d21 := HK2.out.cell 1
          have d22 := HK2.out.cell 2
          have d23 := HK2.out.cell 3
          have d30 := HK3.out.cell 0
          have d31 := HK3.out.cell 1
          have d32 := HK3.out.cell 2
          have d33 := HK3.out.cell 3
          simp at d00 d01 d02 d03 d10 d11 d12 d13 d20 d21 d22 d23 d30 d31 d32 d33
          have hcn := HBL.out.below HQ4.out HBL.out.lt
          have hcn := hcn.cell n
          rw [HTW.out] at hcn
          have hnle : (n : Int) ≤ 11 := by omega
          have n0 := heard_n0
          have n1 := heard_n1
          go_upto_region 13 with fail
          go_quiet (fail)
          go_upto_region 15 with fail
          go_quiet (fail)
          clear n0 n1
          go_wp2
          go_roundw
          case rel => exact ⟨n + 1, by omega, by omega, by go_num, by rw [HTY.out]; simp, Lib.hid (below_d1 HQ4.out)⟩
          case measure => simp [intOf]; omega
        | true =>
          exact absurd hh (by simp [holdB])
      · have hn12 : n = 12 := by omega
        subst hn12
        have HEND := Lib.hid (HB1.out.trans ((HB3X.out.trans (HI.out.mono HB3X.out.size)).mono HB1.out.size))
        have HGE := Lib.hid (HG.out.next HEND.out)
        have HTE := Lib.hid (HT.out.next HEND.out)
        have hBE := HBL.out.below HI.out HBL.out.lt
        have hty := tyN_end HK8.out
        have c1 := hBE.cell 1
        have c2 := hBE.cell 2
        have c3 := hBE.cell 3
        have c4 := hBE.cell 4
        have c10 := hBE.cell 10
        simp at c1 c2 c3 c4 c10
        clear hBE htl
        rw [if_pos rfl] at hty
        have e1 : holdB 0 1 = false := rfl
        rw [e1] at c1
        have q1 := val_nil_nil
        go_wp2_with fail
        ((with_reducible refine (works_any _ HGE.out HTE.out).mono ?_); rintro e w9 ⟨rfl, hb9⟩)
        have HF9 := Lib.hid (HEND.out.trans (hb9.mono HEND.out.size))
        clear hb9
        go_wp2
        go_ret
        exact ⟨rfl, HF9.out⟩
  · have hk0 : k ≠ 0 := by
      rintro rfl
      rcases HV.out with ⟨_, h⟩ | ⟨h, _⟩ | ⟨h, _⟩ | ⟨h, _⟩ | ⟨h, _⟩ | ⟨h, _⟩ | ⟨h, _⟩ | ⟨h, _⟩ | ⟨h, _⟩
      · cases h
      all_goals exact absurd h (by decide)
    obtain ⟨T', u', F, hv9, m1, m2, hm9⟩ := sort_k HV.out hk0
    injection hv9 with hv9 hv8
    subst hv9
    subst hv8
    have HM9 := Lib.hid hm9
    clear hm9
    go_wp2_with fail
    (refine (two14_k HV.out _).mono ?_; rintro e w3 ⟨rfl, hb3⟩)
    have HB3 := Lib.hid (HB2.out.trans (hb3.mono HB2.out.size))
    clear hb3
    unfold twoA
    have hx3 : Below w3.heap.size w3 (w3.alloc (.cells #[.bool false, .bool (holdB k 1), .bool (holdB k 2), .bool (holdB k 3), .bool (holdB k 4), .bool (holdB k 5), .bool (holdB k 6), .bool (holdB k 7), .bool (holdB k 8), .bool (holdB k 9), .bool (holdB k 10), .bool (holdB k 11)] 67)) := (Below.refl _ _).alloc (Nat.le_refl _) _
    have HBL := Lib.hid (Blk.new w3 67 #[.bool false, .bool (holdB k 1), .bool (holdB k 2), .bool (holdB k 3), .bool (holdB k 4), .bool (holdB k 5), .bool (holdB k 6), .bool (holdB k 7), .bool (holdB k 8), .bool (holdB k 9), .bool (holdB k 10), .bool (holdB k 11)])
    have HB3X := Lib.hid (HB3.out.trans (hx3.mono HB3.out.size))
    have HASK := Lib.hid (fun (n i : Nat) (f : Int) (w : World) (hn : 1 ≤ n ∧ n ≤ 11) (hi : i < 4) (hf : f = ((i + 1 : Nat) : Int)) (hb : Below w1.heap.size w1 w) => ask_any o (.pointer q) l n i f w1 w HTT.out hb (by have := HL.out; omega) (HG1.out.next hb) (HT1.out.next hb) hn hi hf)
    rw [HKK.out] at HASK
    clear hx3
    go_wp2_with fail
    generalize (w3.alloc (.cells #[.bool false, .bool (holdB k 1), .bool (holdB k 2), .bool (holdB k 3), .bool (holdB k 4), .bool (holdB k 5), .bool (holdB k 6), .bool (holdB k 7), .bool (holdB k 8), .bool (holdB k 9), .bool (holdB k 10), .bool (holdB k 11)] 67)) = wL at *
    have hk8 := HK8.out
    go_loopw [12, 13] (fun c12 c13 wr => ∃ n : Nat, 1 ≤ n ∧ n ≤ 12 ∧ c13 = .int .i64 (n : Nat) ∧ c12 = .int .i64 (tyN k n : Nat) ∧ Hid (Below wL.heap.size wL wr)) (fun _ c13 _ => 12 - (intOf c13).toNat)
    case atStart => exact ⟨1, by omega, by omega, rfl, rfl, Lib.hid (Below.refl _ _)⟩
    case round =>
      obtain ⟨n, hn1, hn2, rfl, rfl, HI⟩ := hrel
      have HQ0 := Lib.hid HI.out
      have htl := tyN_le k n
      by_cases hlt : n ≤ 11
      · cases hh : holdB k n with
        | false =>
          have HC0 : Hid (hearC k n 0 = #[.bool false, .bool false, .int .i64 0, .bool false]) := Lib.hid (by unfold hearC; rw [if_neg (by rw [hh]; decide)]; rfl)
          have HC1 : Hid (hearC k n 1 = #[.bool false, .bool true, .int .i64 0, .bool false]) := Lib.hid (by unfold hearC; rw [if_neg (by rw [hh]; decide)]; rfl)
          have HC2 : Hid (hearC k n 2 = #[.bool false, .bool false, .int .i64 0, .bool false]) := Lib.hid (by unfold hearC; rw [if_neg (by rw [hh]; decide)]; rfl)
          have HC3 : Hid (hearC k n 3 = #[.bool false, .bool true, .int .i64 0, .bool false]) := Lib.hid (by unfold hearC; rw [if_neg (by rw [hh]; decide)]; rfl)
          have HTW : Hid ((#[.bool false, .bool (holdB k 1), .bool (holdB k 2), .bool (holdB k 3), .bool (holdB k 4), .bool (holdB k 5), .bool (holdB k 6), .bool (holdB k 7), .bool (holdB k 8), .bool (holdB k 9), .bool (holdB k 10), .bool (holdB k 11)] : Array Value)[n]? = some (.bool false)) := Lib.hid (by have := twoA_at k (n := n) ⟨by omega, by omega⟩; rw [hh] at this; exact this)
          have HTY : Hid (tyN k (n + 1) = tyN k n + if 5 ≤ n then 0 else 0) := Lib.hid (by rw [tyN_succ, hh]; by_cases h5 : 5 ≤ n <;> simp [h5])
          clear hh htl
          go_wp2_with fail
          (refine (HASK.out n 0 1 _ ⟨by omega, by omega⟩ (by decide) rfl (HB3X.out.trans (HQ0.out.mono HB3X.out.size))).mono ?_; rintro e w4 ⟨rfl, hb4⟩)
          rw [HC0.out]
          have HQ1 := Lib.hid ((HQ0.out.trans (hb4.mono HQ0.out.size)).alloc (HQ0.out.trans (hb4.mono HQ0.out.size)).size (.cells #[.bool false, .bool false, .int .i64 0, .bool false] 70))
          have HK0 := Lib.hid (Blk.new w4 70 #[.bool false, .bool false, .int .i64 0, .bool false])
          clear hb4
          go_wp2_with fail
          (refine (HASK.out n 1 2 _ ⟨by omega, by omega⟩ (by decide) rfl (HB3X.out.trans (HQ1.out.mono HB3X.out.size))).mono ?_; rintro e w5 ⟨rfl, hb4⟩)
          rw [HC1.out]
          have HQ2 := Lib.hid ((HQ1.out.trans (hb4.mono HQ1.out.size)).alloc (HQ1.out.trans (hb4.mono HQ1.out.size)).size (.cells #[.bool false, .bool true, .int .i64 0, .bool false] 70))
          have HK1 := Lib.hid (Blk.new w5 70 #[.bool false, .bool true, .int .i64 0, .bool false])
          have HK0 := Lib.hid ((HK0.out.below hb4 HK0.out.lt).alloc (.cells #[.bool false, .bool true, .int .i64 0, .bool false] 70))
          clear hb4
          go_wp2_with fail
          (refine (HASK.out n 2 3 _ ⟨by omega, by omega⟩ (by decide) rfl (HB3X.out.trans (HQ2.out.mono HB3X.out.size))).mono ?_; rintro e w6 ⟨rfl, hb4⟩)
          rw [HC2.out]
          have HQ3 := Lib.hid ((HQ2.out.trans (hb4.mono HQ2.out.size)).alloc (HQ2.out.trans (hb4.mono HQ2.out.size)).size (.cells #[.bool false, .bool false, .int .i64 0, .bool false] 70))
          have HK2 := Lib.hid (Blk.new w6 70 #[.bool false, .bool false, .int .i64 0, .bool false])
          have HK0 := Lib.hid ((HK0.out.below hb4 HK0.out.lt).alloc (.cells #[.bool false, .bool false, .int .i64 0, .bool false] 70))
          have HK1 := Lib.hid ((HK1.out.below hb4 HK1.out.lt).alloc (.cells #[.bool false, .bool false, .int .i64 0, .bool false] 70))
          clear hb4
          go_wp2_with fail
          (refine (HASK.out n 3 4 _ ⟨by omega, by omega⟩ (by decide) rfl (HB3X.out.trans (HQ3.out.mono HB3X.out.size))).mono ?_; rintro e w7 ⟨rfl, hb4⟩)
          rw [HC3.out]
          have HQ4 := Lib.hid ((HQ3.out.trans (hb4.mono HQ3.out.size)).alloc (HQ3.out.trans (hb4.mono HQ3.out.size)).size (.cells #[.bool false, .bool true, .int .i64 0, .bool false] 70))
          have HK3 := Lib.hid (Blk.new w7 70 #[.bool false, .bool true, .int .i64 0, .bool false])
          have HK0 := Lib.hid ((HK0.out.below hb4 HK0.out.lt).alloc (.cells #[.bool false, .bool true, .int .i64 0, .bool false] 70))
          have HK1 := Lib.hid ((HK1.out.below hb4 HK1.out.lt).alloc (.cells #[.bool false, .bool true, .int .i64 0, .bool false] 70))
          have HK2 := Lib.hid ((HK2.out.below hb4 HK2.out.lt).alloc (.cells #[.bool false, .bool true, .int .i64 0, .bool false] 70))
          clear hb4
          have d00 := HK0.out.cell 0
          have d01 := HK0.out.cell 1
          have d02 := HK0.out.cell 2
          have d03 := HK0.out.cell 3
          have d10 := HK1.out.cell 0
          have d11 := HK1.out.cell 1
          have d12 := HK1.out.cell 2
          have d13 := HK1.out.cell 3
          have d20 := HK2.out.cell 0
          have d21 := HK2.out.cell 1
          have d22 := HK2.out.cell 2
          have d23 := HK2.out.cell 3
          have d30 := HK3.out.cell 0
          have d31 := HK3.out.cell 1
          have d32 := HK3.out.cell 2
          have d33 := HK3.out.cell 3
          simp at d00 d01 d02 d03 d10 d11 d12 d13 d20 d21 d22 d23 d30 d31 d32 d33
          have hcn := HBL.out.below HQ4.out HBL.out.lt
          have hcn := hcn.cell n
          rw [HTW.out] at hcn
          have hnle : (n : Int) ≤ 11 := by omega
          have n0 := heard_n0
          have n1 := heard_n1
          go_upto_region 13 with fail
          go_quiet (fail)
          go_upto_region 15 with fail
          go_quiet (fail)
          clear n0 n1
          go_wp2
          go_roundw
          case rel => exact ⟨n + 1, by omega, by omega, by go_num, by rw [HTY.out]; simp, Lib.hid (below_d1 HQ4.out)⟩
          case measure => simp [intOf]; omega
        | true =>
          have HC0 : Hid (hearC k n 0 = #[.bool true, .bool false, .int .i64 (srtK k : Nat), .bool (decide (k = 8))]) := Lib.hid (by unfold hearC; rw [if_pos hh])
          have HC1 : Hid (hearC k n 1 = #[.bool true, .bool false, .int .i64 (srtK k : Nat), .bool (decide (k = 8))]) := Lib.hid (by unfold hearC; rw [if_pos hh])
          have HC2 : Hid (hearC k n 2 = #[.bool true, .bool false, .int .i64 (srtK k : Nat), .bool (decide (k = 8))]) := Lib.hid (by unfold hearC; rw [if_pos hh])
          have HC3 : Hid (hearC k n 3 = #[.bool true, .bool false, .int .i64 (srtK k : Nat), .bool (decide (k = 8))]) := Lib.hid (by unfold hearC; rw [if_pos hh])
          have HTW : Hid ((#[.bool false, .bool (holdB k 1), .bool (holdB k 2), .bool (holdB k 3), .bool (holdB k 4), .bool (holdB k 5), .bool (holdB k 6), .bool (holdB k 7), .bool (holdB k 8), .bool (holdB k 9), .bool (holdB k 10), .bool (holdB k 11)] : Array Value)[n]? = some (.bool true)) := Lib.hid (by have := twoA_at k (n := n) ⟨by omega, by omega⟩; rw [hh] at this; exact this)
          have HTY : Hid (tyN k (n + 1) = tyN k n + if 5 ≤ n then 1 else 0) := Lib.hid (by rw [tyN_succ, hh]; by_cases h5 : 5 ≤ n <;> simp [h5])
          have hsn := heard_ne k HK8.out
          generalize ((srtK k : Nat) : Int) = s8 at *
          generalize decide (k = 8) = d8 at *
          clear hh
          go_wp2_with fail
          (refine (HASK.out n 0 1 _ ⟨by omega, by omega⟩ (by decide) rfl (HB3X.out.trans (HQ0.out.mono HB3X.out.size))).mono ?_; rintro e w4 ⟨rfl, hb4⟩)
          rw [HC0.out]
          have HQ1 := Lib.hid ((HQ0.out.trans (hb4.mono HQ0.out.size)).alloc (HQ0.out.trans (hb4.mono HQ0.out.size)).size (.cells #[.bool true, .bool false, .int .i64 s8, .bool d8] 70))
          have HK0 := Lib.hid (Blk.new w4 70 #[.bool true, .bool false, .int .i64 s8, .bool d8])
          clear hb4
          go_wp2_with fail
          (refine (HASK.out n 1 2 _ ⟨by omega, by omega⟩ (by decide) rfl (HB3X.out.trans (HQ1.out.mono HB3X.out.size))).mono ?_; rintro e w5 ⟨rfl, hb4⟩)
          rw [HC1.out]
          have HQ2 := Lib.hid ((HQ1.out.trans (hb4.mono HQ1.out.size)).alloc (HQ1.out.trans (hb4.mono HQ1.out.size)).size (.cells #[.bool true, .bool false, .int .i64 s8, .bool d8] 70))
          have HK1 := Lib.hid (Blk.new w5 70 #[.bool true, .bool false, .int .i64 s8, .bool d8])
          have HK0 := Lib.hid ((HK0.out.below hb4 HK0.out.lt).alloc (.cells #[.bool true, .bool false, .int .i64 s8, .bool d8] 70))
          clear hb4
          go_wp2_with fail
          (refine (HASK.out n 2 3 _ ⟨by omega, by omega⟩ (by decide) rfl (HB3X.out.trans (HQ2.out.mono HB3X.out.size))).mono ?_; rintro e w6 ⟨rfl, hb4⟩)
          rw [HC2.out]
          have HQ3 := Lib.hid ((HQ2.out.trans (hb4.mono HQ2.out.size)).alloc (HQ2.out.trans (hb4.mono HQ2.out.size)).size (.cells #[.bool true, .bool false, .int .i64 s8, .bool d8] 70))
          have HK2 := Lib.hid (Blk.new w6 70 #[.bool true, .bool false, .int .i64 s8, .bool d8])
          have HK0 := Lib.hid ((HK0.out.below hb4 HK0.out.lt).alloc (.cells #[.bool true, .bool false, .int .i64 s8, .bool d8] 70))
          have HK1 := Lib.hid ((HK1.out.below hb4 HK1.out.lt).alloc (.cells #[.bool true, .bool false, .int .i64 s8, .bool d8] 70))
          clear hb4
          go_wp2_with fail
          (refine (HASK.out n 3 4 _ ⟨by omega, by omega⟩ (by decide) rfl (HB3X.out.trans (HQ3.out.mono HB3X.out.size))).mono ?_; rintro e w7 ⟨rfl, hb4⟩)
          rw [HC3.out]
          have HQ4 := Lib.hid ((HQ3.out.trans (hb4.mono HQ3.out.size)).alloc (HQ3.out.trans (hb4.mono HQ3.out.size)).size (.cells #[.bool true, .bool false, .int .i64 s8, .bool d8] 70))
          have HK3 := Lib.hid (Blk.new w7 70 #[.bool true, .bool false, .int .i64 s8, .bool d8])
          have HK0 := Lib.hid ((HK0.out.below hb4 HK0.out.lt).alloc (.cells #[.bool true, .bool false, .int .i64 s8, .bool d8] 70))
          have HK1 := Lib.hid ((HK1.out.below hb4 HK1.out.lt).alloc (.cells #[.bool true, .bool false, .int .i64 s8, .bool d8] 70))
          have HK2 := Lib.hid ((HK2.out.below hb4 HK2.out.lt).alloc (.cells #[.bool true, .bool false, .int .i64 s8, .bool d8] 70))
          clear hb4
          have d00 := HK0.out.cell 0
          have d01 := HK0.out.cell 1
          have d02 := HK0.out.cell 2
          have d03 := HK0.out.cell 3
          have d10 := HK1.out.cell 0
          have d11 := HK1.out.cell 1
          have d12 := HK1.out.cell 2
          have d13 := HK1.out.cell 3
          have d20 := HK2.out.cell 0
          have d21 := HK2.out.cell 1
          have d22 := HK2.out.cell 2
          have d23 := HK2.out.cell 3
          have d30 := HK3.out.cell 0
          have d31 := HK3.out.cell 1
          have d32 := HK3.out.cell 2
          have d33 := HK3.out.cell 3
          simp at d00 d01 d02 d03 d10 d11 d12 d13 d20 d21 d22 d23 d30 d31 d32 d33
          have hcn := HBL.out.below HQ4.out HBL.out.lt
          have hcn := hcn.cell n
          rw [HTW.out] at hcn
          have hnle : (n : Int) ≤ 11 := by omega
          go_upto_region 13 with fail
          go_quiet (fail)
          go_upto_region 15 with fail
          have hse : (s8 != s8) = false := by simp
          have hde : (d8 != d8) = false := by simp
          rcases Bool.eq_false_or_eq_true b7 with hb7 | hb7
          · have hdn := HP8.out
            subst hb7
            simp only [Bool.true_and] at hdn
            have hle := lost_eql p
            rw [← hdn] at hle
            clear hdn
            clear HK0 HK1 HK2 HK3
            refine wp_region_held_drew (S := (fun w' => w'.cell? ⟨w4.heap.size, 0, none⟩ = some (.bool true) ∧ w'.cell? ⟨w4.heap.size, 1, none⟩ = some (.bool false) ∧ w'.cell? ⟨w4.heap.size, 2, none⟩ = some (.int .i64 s8) ∧ w'.cell? ⟨w4.heap.size, 3, none⟩ = some (.bool d8) ∧ w'.cell? ⟨w5.heap.size, 0, none⟩ = some (.bool true) ∧ w'.cell? ⟨w5.heap.size, 1, none⟩ = some (.bool false) ∧ w'.cell? ⟨w5.heap.size, 2, none⟩ = some (.int .i64 s8) ∧ w'.cell? ⟨w5.heap.size, 3, none⟩ = some (.bool d8) ∧ Below ((w7.alloc (.cells #[.bool true, .bool false, .int .i64 s8, .bool d8] 70)).drewN nq).heap.size ((w7.alloc (.cells #[.bool true, .bool false, .int .i64 s8, .bool d8] 70)).drewN nq) w')) (by kernel_rfl) ⟨d00, d01, d02, d03, d10, d11, d12, d13, drewN_below _ 1⟩ (fun hHeld => ?_)
            refine held_take (i := 0) (v := ?_) (some 106) rfl rfl (by kernel_rfl) (by kernel_rfl) (by kernel_rfl) (fun _ _ _ h => h) (Or.inl ⟨by rfl, ?_⟩) hHeld ?_
            rotate_left
            · intro w hSw
              try dsimp only at hSw
              go_simp
              try with_reducible rfl
            simp only [Act.put, List.setIfInBounds_toArray, List.set_cons_zero, List.set_cons_succ]
            refine held_take (i := 1) (v := ?_) (some 107) rfl rfl (by kernel_rfl) (by kernel_rfl) (by kernel_rfl) (fun _ _ _ h => h) (Or.inl ⟨by rfl, ?_⟩) hHeld ?_
            rotate_left
            · intro w hSw
              try dsimp only at hSw
              go_simp
              try with_reducible rfl
            simp only [Act.put, List.setIfInBounds_toArray, List.set_cons_zero, List.set_cons_succ]
            refine held_take (i := 2) (v := ?_) (some 108) rfl rfl (by kernel_rfl) (by kernel_rfl) (by kernel_rfl) (fun _ _ _ h => h) (Or.inl ⟨by rfl, ?_⟩) hHeld ?_
            rotate_left
            · intro w hSw
              try dsimp only at hSw
              go_simp
              try with_reducible rfl
            simp only [Act.put, List.setIfInBounds_toArray, List.set_cons_zero, List.set_cons_succ]
            refine held_take (i := 3) (v := ?_) (some 109) rfl rfl (by kernel_rfl) (by kernel_rfl) (by kernel_rfl) (fun _ _ _ h => h) (Or.inl ⟨by rfl, ?_⟩) hHeld ?_
            rotate_left
            · intro w hSw
              try dsimp only at hSw
              go_simp
              try with_reducible rfl
            simp only [Act.put, List.setIfInBounds_toArray, List.set_cons_zero, List.set_cons_succ]
            refine held_take (i := 4) (v := ?_) (some 110) rfl rfl (by kernel_rfl) (by kernel_rfl) (by kernel_rfl) (fun _ _ _ h => h) (Or.inl ⟨by rfl, ?_⟩) hHeld ?_
            rotate_left
            · intro w hSw
              try dsimp only at hSw
              go_simp
              try with_reducible rfl
            simp only [Act.put, List.setIfInBounds_toArray, List.set_cons_zero, List.set_cons_succ]
            refine held_take (i := 5) (v := ?_) (some 111) rfl rfl (by kernel_rfl) (by kernel_rfl) (by kernel_rfl) (fun _ _ _ h => h) (Or.inl ⟨by rfl, ?_⟩) hHeld ?_
            rotate_left
            · intro w hSw
              try dsimp only at hSw
              go_simp
              try with_reducible rfl
            simp only [Act.put, List.setIfInBounds_toArray, List.set_cons_zero, List.set_cons_succ]
            refine held_take (i := 6) (v := ?_) (some 112) rfl rfl (by kernel_rfl) (by kernel_rfl) (by kernel_rfl) (fun _ _ _ h => h) (Or.inl ⟨by rfl, ?_⟩) hHeld ?_
            rotate_left
            · intro w hSw
              try dsimp only at hSw
              go_simp
              try with_reducible rfl
            simp only [Act.put, List.setIfInBounds_toArray, List.set_cons_zero, List.set_cons_succ]
            refine held_take (i := 7) (v := ?_) (some 113) rfl rfl (by kernel_rfl) (by kernel_rfl) (by kernel_rfl) (fun _ _ _ h => h) (Or.inl ⟨by rfl, ?_⟩) hHeld ?_
            rotate_left
            · intro w hSw
              try dsimp only at hSw
              go_simp
              try with_reducible rfl
            simp only [Act.put, List.setIfInBounds_toArray, List.set_cons_zero, List.set_cons_succ]
            refine held_take (i := 8) (v := ?_) (some 114) rfl rfl (by kernel_rfl) (by kernel_rfl) (by kernel_rfl) (fun _ _ _ h => h) (Or.inl ⟨by rfl, ?_⟩) hHeld ?_
            rotate_left
            · intro w hSw
              try dsimp only at hSw
              go_simp
              try with_reducible rfl
            simp only [Act.put, List.setIfInBounds_toArray, List.set_cons_zero, List.set_cons_succ]
            refine held_take (i := 9) (v := ?_) (some 115) rfl rfl (by kernel_rfl) (by kernel_rfl) (by kernel_rfl) (fun _ _ _ h => h) (Or.inl ⟨by rfl, ?_⟩) hHeld ?_
            rotate_left
            · intro w hSw
              try dsimp only at hSw
              go_simp
              try with_reducible rfl
            simp only [Act.put, List.setIfInBounds_toArray, List.set_cons_zero, List.set_cons_succ]
            refine held_take (i := 10) (v := ?_) (some 116) rfl rfl (by kernel_rfl) (by kernel_rfl) (by kernel_rfl) (fun _ _ _ h => h) (Or.inl ⟨by rfl, ?_⟩) hHeld ?_
            rotate_left
            · intro w hSw
              try dsimp only at hSw
              go_simp
              try with_reducible rfl
            simp only [Act.put, List.setIfInBounds_toArray, List.set_cons_zero, List.set_cons_succ]
            refine held_take (i := 11) (v := ?_) (some 117) rfl rfl (by kernel_rfl) (by kernel_rfl) (by kernel_rfl) (fun _ _ _ h => h) (Or.inl ⟨by rfl, ?_⟩) hHeld ?_
            rotate_left
            · intro w hSw
              try dsimp only at hSw
              go_simp
              try with_reducible rfl
            simp only [Act.put, List.setIfInBounds_toArray, List.set_cons_zero, List.set_cons_succ]
            refine held_take (i := 12) (v := ?_) (some 118) rfl rfl (by kernel_rfl) (by kernel_rfl) (by kernel_rfl) (fun _ _ _ h => h) (Or.inl ⟨by rfl, ?_⟩) hHeld ?_
            rotate_left
            · intro w hSw
              try dsimp only at hSw
              go_simp
              try with_reducible rfl
            simp only [Act.put, List.setIfInBounds_toArray, List.set_cons_zero, List.set_cons_succ]
            refine held_take (i := 13) (v := ?_) (some 119) rfl rfl (by kernel_rfl) (by kernel_rfl) (by kernel_rfl) (fun _ _ _ h => h) (Or.inl ⟨by rfl, ?_⟩) hHeld ?_
            rotate_left
            · intro w hSw
              try dsimp only at hSw
              go_simp
              try with_reducible rfl
            simp only [Act.put, List.setIfInBounds_toArray, List.set_cons_zero, List.set_cons_succ]
            refine held_take (i := 14) (v := ?_) (some 120) rfl rfl (by kernel_rfl) (by kernel_rfl) (by kernel_rfl) (fun _ _ _ h => h) (Or.inl ⟨by rfl, ?_⟩) hHeld ?_
            rotate_left
            · intro w hSw
              try dsimp only at hSw
              go_simp
              try with_reducible rfl
            simp only [Act.put, List.setIfInBounds_toArray, List.set_cons_zero, List.set_cons_succ]
            refine held_take (i := 15) (v := ?_) (some 121) rfl rfl (by kernel_rfl) (by kernel_rfl) (by kernel_rfl) (fun _ _ _ h => h) (Or.inl ⟨by rfl, ?_⟩) hHeld ?_
            rotate_left
            · intro w hSw
              try dsimp only at hSw
              go_simp
              try with_reducible rfl
            simp only [Act.put, List.setIfInBounds_toArray, List.set_cons_zero, List.set_cons_succ]
            refine wpAnyH_ready (rs := [16]) (by kernel_rfl) (by simp) ?_
            refine AllReadyH.cons rfl (fun K hK => ?_) AllReadyH.nil
            go_simp
            ((with_reducible refine (HM9.out _).mono ?_); rintro e w8 ⟨rfl, hb8⟩; dsimp only)
            replace hHeld := held8 hHeld hb8
            refine hK.out _ _ hHeld (fun _ => ?_)
            clear hK K
            refine held_take (i := 17) (v := ?_) (some 123) rfl rfl (by kernel_rfl) (by kernel_rfl) (by kernel_rfl) (fun _ _ _ h => h) (Or.inl ⟨by rfl, ?_⟩) hHeld ?_
            rotate_left
            · intro w hSw
              try dsimp only at hSw
              go_simp
              try with_reducible rfl
            simp only [Act.put, List.setIfInBounds_toArray, List.set_cons_zero, List.set_cons_succ]
            refine held_take (i := 18) (v := ?_) (some 124) rfl rfl (by kernel_rfl) (by kernel_rfl) (by kernel_rfl) (fun _ _ _ h => h) (Or.inl ⟨by rfl, ?_⟩) hHeld ?_
            rotate_left
            · intro w hSw
              try dsimp only at hSw
              go_simp
              try with_reducible rfl
            simp only [Act.put, List.setIfInBounds_toArray, List.set_cons_zero, List.set_cons_succ]
            refine held_take (i := 19) (v := ?_) (some 125) rfl rfl (by kernel_rfl) (by kernel_rfl) (by kernel_rfl) (fun _ _ _ h => h) (Or.inl ⟨by rfl, ?_⟩) hHeld ?_
            rotate_left
            · intro w hSw
              try dsimp only at hSw
              go_simp
              try with_reducible rfl
            simp only [Act.put, List.setIfInBounds_toArray, List.set_cons_zero, List.set_cons_succ]
            refine held_take (i := 20) (v := ?_) (some 126) rfl rfl (by kernel_rfl) (by kernel_rfl) (by kernel_rfl) (fun _ _ _ h => h) (Or.inl ⟨by rfl, ?_⟩) hHeld ?_
            rotate_left
            · intro w hSw
              try dsimp only at hSw
              go_simp
              try with_reducible rfl
            simp only [Act.put, List.setIfInBounds_toArray, List.set_cons_zero, List.set_cons_succ]
            refine held_take (i := 21) (v := ?_) (some 127) rfl rfl (by kernel_rfl) (by kernel_rfl) (by kernel_rfl) (fun _ _ _ h => h) (Or.inl ⟨by rfl, ?_⟩) hHeld ?_
            rotate_left
            · intro w hSw
              try dsimp only at hSw
              go_simp
              try with_reducible rfl
            simp only [Act.put, List.setIfInBounds_toArray, List.set_cons_zero, List.set_cons_succ]
            refine held_take (i := 22) (v := ?_) (some 128) rfl rfl (by kernel_rfl) (by kernel_rfl) (by kernel_rfl) (fun _ _ _ h => h) (Or.inl ⟨by rfl, ?_⟩) hHeld ?_
            rotate_left
            · intro w hSw
              try dsimp only at hSw
              go_simp
              try with_reducible rfl
            simp only [Act.put, List.setIfInBounds_toArray, List.set_cons_zero, List.set_cons_succ]
            refine held_take (i := 23) (v := ?_) (some 129) rfl rfl (by kernel_rfl) (by kernel_rfl) (by kernel_rfl) (fun _ _ _ h => h) (Or.inl ⟨by rfl, ?_⟩) hHeld ?_
            rotate_left
            · intro w hSw
              try dsimp only at hSw
              go_simp
              try with_reducible rfl
            simp only [Act.put, List.setIfInBounds_toArray, List.set_cons_zero, List.set_cons_succ]
            refine held_take (i := 24) (v := ?_) (some 130) rfl rfl (by kernel_rfl) (by kernel_rfl) (by kernel_rfl) (fun _ _ _ h => h) (Or.inl ⟨by rfl, ?_⟩) hHeld ?_
            rotate_left
            · intro w hSw
              try dsimp only at hSw
              go_simp
              try with_reducible rfl
            simp only [Act.put, List.setIfInBounds_toArray, List.set_cons_zero, List.set_cons_succ]
            refine held_take (i := 25) (v := ?_) (some 131) rfl rfl (by kernel_rfl) (by kernel_rfl) (by kernel_rfl) (fun _ _ _ h => h) (Or.inl ⟨by rfl, ?_⟩) hHeld ?_
            rotate_left
            · intro w hSw
              try dsimp only at hSw
              go_simp
              try with_reducible rfl
            simp only [Act.put, List.setIfInBounds_toArray, List.set_cons_zero, List.set_cons_succ]
            refine held_take (i := 26) (v := ?_) (some 132) rfl rfl (by kernel_rfl) (by kernel_rfl) (by kernel_rfl) (fun _ _ _ h => h) (Or.inl ⟨by rfl, ?_⟩) hHeld ?_
            rotate_left
            · intro w hSw
              try dsimp only at hSw
              go_simp
              try with_reducible rfl
            simp only [Act.put, List.setIfInBounds_toArray, List.set_cons_zero, List.set_cons_succ]
            refine held_take (i := 27) (v := ?_) (some 133) rfl rfl (by kernel_rfl) (by kernel_rfl) (by kernel_rfl) (fun _ _ _ h => h) (Or.inl ⟨by rfl, ?_⟩) hHeld ?_
            rotate_left
            · intro w hSw
              try dsimp only at hSw
              go_simp
              try with_reducible rfl
            simp only [Act.put, List.setIfInBounds_toArray, List.set_cons_zero, List.set_cons_succ]
            refine held_take (i := 28) (v := ?_) (some 134) rfl rfl (by kernel_rfl) (by kernel_rfl) (by kernel_rfl) (fun _ _ _ h => h) (Or.inl ⟨by rfl, ?_⟩) hHeld ?_
            rotate_left
            · intro w hSw
              try dsimp only at hSw
              go_simp
              try with_reducible rfl
            simp only [Act.put, List.setIfInBounds_toArray, List.set_cons_zero, List.set_cons_succ]
            refine held_take (i := 29) (v := ?_) (some 135) rfl rfl (by kernel_rfl) (by kernel_rfl) (by kernel_rfl) (fun _ _ _ h => h) (Or.inl ⟨by rfl, ?_⟩) hHeld ?_
            rotate_left
            · intro w hSw
              try dsimp only at hSw
              go_simp
              try with_reducible rfl
            simp only [Act.put, List.setIfInBounds_toArray, List.set_cons_zero, List.set_cons_succ]
            refine held_take (i := 30) (v := ?_) (some 136) rfl rfl (by kernel_rfl) (by kernel_rfl) (by kernel_rfl) (fun _ _ _ h => h) (Or.inl ⟨by rfl, ?_⟩) hHeld ?_
            rotate_left
            · intro w hSw
              try dsimp only at hSw
              go_simp
              try with_reducible rfl
            simp only [Act.put, List.setIfInBounds_toArray, List.set_cons_zero, List.set_cons_succ]
            refine held_take (i := 31) (v := ?_) (some 137) rfl rfl (by kernel_rfl) (by kernel_rfl) (by kernel_rfl) (fun _ _ _ h => h) (Or.inl ⟨by rfl, ?_⟩) hHeld ?_
            rotate_left
            · intro w hSw
              try dsimp only at hSw
              go_simp
              try with_reducible rfl
            simp only [Act.put, List.setIfInBounds_toArray, List.set_cons_zero, List.set_cons_succ]
            refine held_take (i := 32) (v := ?_) (some 138) rfl rfl (by kernel_rfl) (by kernel_rfl) (by kernel_rfl) (fun _ _ _ h => h) (Or.inl ⟨by rfl, ?_⟩) hHeld ?_
            rotate_left
            · intro w hSw
              try dsimp only at hSw
              go_simp
              try with_reducible rfl
            simp only [Act.put, List.setIfInBounds_toArray, List.set_cons_zero, List.set_cons_succ]
            refine held_take (i := 33) (v := ?_) (some 139) rfl rfl (by kernel_rfl) (by kernel_rfl) (by kernel_rfl) (fun _ _ _ h => h) (Or.inl ⟨by rfl, ?_⟩) hHeld ?_
            rotate_left
            · intro w hSw
              try dsimp only at hSw
              go_simp
              try with_reducible rfl
            simp only [Act.put, List.setIfInBounds_toArray, List.set_cons_zero, List.set_cons_succ]
            refine held_take (i := 34) (v := ?_) (some 140) rfl rfl (by kernel_rfl) (by kernel_rfl) (by kernel_rfl) (fun _ _ _ h => h) (Or.inl ⟨by rfl, ?_⟩) hHeld ?_
            rotate_left
            · intro w hSw
              try dsimp only at hSw
              go_simp
              try with_reducible rfl
            simp only [Act.put, List.setIfInBounds_toArray, List.set_cons_zero, List.set_cons_succ]
            refine held_take (i := 35) (v := ?_) (some 141) rfl rfl (by kernel_rfl) (by kernel_rfl) (by kernel_rfl) (fun _ _ _ h => h) (Or.inl ⟨by rfl, ?_⟩) hHeld ?_
            rotate_left
            · intro w hSw
              try dsimp only at hSw
              go_simp
              try with_reducible rfl
            simp only [Act.put, List.setIfInBounds_toArray, List.set_cons_zero, List.set_cons_succ]
            refine held_take (i := 36) (v := undef) (some 142) rfl rfl (by kernel_rfl) (by kernel_rfl) (by kernel_rfl) (fun _ _ _ h => h) (Or.inr ⟨by kernel_rfl, rfl⟩) hHeld ?_
            simp only [Act.put, List.setIfInBounds_toArray, List.set_cons_zero, List.set_cons_succ]
            refine held_take (i := 37) (v := undef) (some 143) rfl rfl (by kernel_rfl) (by kernel_rfl) (by kernel_rfl) (fun _ _ _ h => h) (Or.inr ⟨by kernel_rfl, rfl⟩) hHeld ?_
            simp only [Act.put, List.setIfInBounds_toArray, List.set_cons_zero, List.set_cons_succ]
            refine held_take (i := 38) (v := undef) (some 144) rfl rfl (by kernel_rfl) (by kernel_rfl) (by kernel_rfl) (fun _ _ _ h => h) (Or.inr ⟨by kernel_rfl, rfl⟩) hHeld ?_
            simp only [Act.put, List.setIfInBounds_toArray, List.set_cons_zero, List.set_cons_succ]
            refine held_take (i := 39) (v := ?_) (some 145) rfl rfl (by kernel_rfl) (by kernel_rfl) (by kernel_rfl) (fun _ _ _ h => h) (Or.inl ⟨by rfl, ?_⟩) hHeld ?_
            rotate_left
            · intro w hSw
              try dsimp only at hSw
              go_simp
              try with_reducible rfl
            simp only [Act.put, List.setIfInBounds_toArray, List.set_cons_zero, List.set_cons_succ]
            refine held_take (i := 40) (v := ?_) (some 146) rfl rfl (by kernel_rfl) (by kernel_rfl) (by kernel_rfl) (fun _ _ _ h => h) (Or.inl ⟨by rfl, ?_⟩) hHeld ?_
            rotate_left
            · intro w hSw
              try dsimp only at hSw
              go_simp
              try with_reducible rfl
            simp only [Act.put, List.setIfInBounds_toArray, List.set_cons_zero, List.set_cons_succ]
            refine held_take (i := 41) (v := ?_) (some 147) rfl rfl (by kernel_rfl) (by kernel_rfl) (by kernel_rfl) (fun _ _ _ h => h) (Or.inl ⟨by rfl, ?_⟩) hHeld ?_
            rotate_left
            · intro w hSw
              try dsimp only at hSw
              go_simp
              try with_reducible rfl
            simp only [Act.put, List.setIfInBounds_toArray, List.set_cons_zero, List.set_cons_succ]
            refine held_take (i := 42) (v := ?_) (some 148) rfl rfl (by kernel_rfl) (by kernel_rfl) (by kernel_rfl) (fun _ _ _ h => h) (Or.inl ⟨by rfl, ?_⟩) hHeld ?_
            rotate_left
            · intro w hSw
              try dsimp only at hSw
              go_simp
              try with_reducible rfl
            simp only [Act.put, List.setIfInBounds_toArray, List.set_cons_zero, List.set_cons_succ]
            refine held_take (i := 43) (v := ?_) (some 149) rfl rfl (by kernel_rfl) (by kernel_rfl) (by kernel_rfl) (fun _ _ _ h => h) (Or.inl ⟨by rfl, ?_⟩) hHeld ?_
            rotate_left
            · intro w hSw
              try dsimp only at hSw
              go_simp
              try with_reducible rfl
            simp only [Act.put, List.setIfInBounds_toArray, List.set_cons_zero, List.set_cons_succ]
            refine held_take (i := 44) (v := ?_) (some 150) rfl rfl (by kernel_rfl) (by kernel_rfl) (by kernel_rfl) (fun _ _ _ h => h) (Or.inl ⟨by rfl, ?_⟩) hHeld ?_
            rotate_left
            · intro w hSw
              try dsimp only at hSw
              go_simp
              try with_reducible rfl
            simp only [Act.put, List.setIfInBounds_toArray, List.set_cons_zero, List.set_cons_succ]
            refine held_take (i := 45) (v := ?_) (some 151) rfl rfl (by kernel_rfl) (by kernel_rfl) (by kernel_rfl) (fun _ _ _ h => h) (Or.inl ⟨by rfl, ?_⟩) hHeld ?_
            rotate_left
            · intro w hSw
              try dsimp only at hSw
              go_simp
              try with_reducible rfl
            simp only [Act.put, List.setIfInBounds_toArray, List.set_cons_zero, List.set_cons_succ]
            refine held_take (i := 46) (v := undef) (some 152) rfl rfl (by kernel_rfl) (by kernel_rfl) (by kernel_rfl) (fun _ _ _ h => h) (Or.inr ⟨by kernel_rfl, rfl⟩) hHeld ?_
            simp only [Act.put, List.setIfInBounds_toArray, List.set_cons_zero, List.set_cons_succ]
            refine held_take (i := 47) (v := undef) (some 153) rfl rfl (by kernel_rfl) (by kernel_rfl) (by kernel_rfl) (fun _ _ _ h => h) (Or.inr ⟨by kernel_rfl, rfl⟩) hHeld ?_
            simp only [Act.put, List.setIfInBounds_toArray, List.set_cons_zero, List.set_cons_succ]
            refine held_take (i := 48) (v := undef) (some 154) rfl rfl (by kernel_rfl) (by kernel_rfl) (by kernel_rfl) (fun _ _ _ h => h) (Or.inr ⟨by kernel_rfl, rfl⟩) hHeld ?_
            simp only [Act.put, List.setIfInBounds_toArray, List.set_cons_zero, List.set_cons_succ]
            refine held_take (i := 49) (v := ?_) (some 155) rfl rfl (by kernel_rfl) (by kernel_rfl) (by kernel_rfl) (fun _ _ _ h => h) (Or.inl ⟨by rfl, ?_⟩) hHeld ?_
            rotate_left
            · intro w hSw
              try dsimp only at hSw
              go_simp
              try with_reducible rfl
            simp only [Act.put, List.setIfInBounds_toArray, List.set_cons_zero, List.set_cons_succ]
            refine held_take (i := 50) (v := ?_) (some 156) rfl rfl (by kernel_rfl) (by kernel_rfl) (by kernel_rfl) (fun _ _ _ h => h) (Or.inl ⟨by rfl, ?_⟩) hHeld ?_
            rotate_left
            · intro w hSw
              try dsimp only at hSw
              go_simp
              try with_reducible rfl
            simp only [Act.put, List.setIfInBounds_toArray, List.set_cons_zero, List.set_cons_succ]
            refine wpAnyH_done (by kernel_rfl) ?_ _
            have HQ9 := Lib.hid ((below_d1 (m := nq) HQ4.out).trans (hHeld.2.2.2.2.2.2.2.2.mono (below_d1 (m := nq) HQ4.out).size))
            have hcn9 := (HBL.out.below HQ9.out HBL.out.lt).cell n
            rw [HTW.out] at hcn9
            clear hHeld hcn
            by_cases h5 : 5 ≤ n
            · have h5' : (5 : Int) ≤ (n : Int) := by omega
              go_wp2
              go_roundw
              case rel => exact ⟨n + 1, by omega, by omega, by go_num, by rw [HTY.out]; rw [if_pos h5]; go_num, HQ9⟩
              case measure => simp [intOf]; omega
            · have h5' : (n : Int) < 5 := by omega
              go_wp2
              go_roundw
              case rel => exact ⟨n + 1, by omega, by omega, by go_num, by rw [HTY.out]; rw [if_neg h5]; simp, HQ9⟩
              case measure => simp [intOf]; omega
          · have hdn := HP8.out
            subst hb7
            simp only [Bool.false_and] at hdn
            subst hdn
            clear HK0 HK1 HK2 HK3
            refine wp_region_held_drew (S := (fun w' => w'.cell? ⟨w4.heap.size, 0, none⟩ = some (.bool true) ∧ w'.cell? ⟨w4.heap.size, 1, none⟩ = some (.bool false) ∧ w'.cell? ⟨w4.heap.size, 2, none⟩ = some (.int .i64 s8) ∧ w'.cell? ⟨w4.heap.size, 3, none⟩ = some (.bool false) ∧ w'.cell? ⟨w5.heap.size, 0, none⟩ = some (.bool true) ∧ w'.cell? ⟨w5.heap.size, 1, none⟩ = some (.bool false) ∧ w'.cell? ⟨w5.heap.size, 2, none⟩ = some (.int .i64 s8) ∧ w'.cell? ⟨w5.heap.size, 3, none⟩ = some (.bool false) ∧ Below ((w7.alloc (.cells #[.bool true, .bool false, .int .i64 s8, .bool false] 70)).drewN nq).heap.size ((w7.alloc (.cells #[.bool true, .bool false, .int .i64 s8, .bool false] 70)).drewN nq) w')) (by kernel_rfl) ⟨d00, d01, d02, d03, d10, d11, d12, d13, drewN_below _ 1⟩ (fun hHeld => ?_)
            refine held_take (i := 0) (v := ?_) (some 106) rfl rfl (by kernel_rfl) (by kernel_rfl) (by kernel_rfl) (fun _ _ _ h => h) (Or.inl ⟨by rfl, ?_⟩) hHeld ?_
            rotate_left
            · intro w hSw
              try dsimp only at hSw
              go_simp
              try with_reducible rfl
            simp only [Act.put, List.setIfInBounds_toArray, List.set_cons_zero, List.set_cons_succ]
            refine held_take (i := 1) (v := ?_) (some 107) rfl rfl (by kernel_rfl) (by kernel_rfl) (by kernel_rfl) (fun _ _ _ h => h) (Or.inl ⟨by rfl, ?_⟩) hHeld ?_
            rotate_left
            · intro w hSw
              try dsimp only at hSw
              go_simp
              try with_reducible rfl
            simp only [Act.put, List.setIfInBounds_toArray, List.set_cons_zero, List.set_cons_succ]
            refine held_take (i := 2) (v := ?_) (some 108) rfl rfl (by kernel_rfl) (by kernel_rfl) (by kernel_rfl) (fun _ _ _ h => h) (Or.inl ⟨by rfl, ?_⟩) hHeld ?_
            rotate_left
            · intro w hSw
              try dsimp only at hSw
              go_simp
              try with_reducible rfl
            simp only [Act.put, List.setIfInBounds_toArray, List.set_cons_zero, List.set_cons_succ]
            refine held_take (i := 3) (v := ?_) (some 109) rfl rfl (by kernel_rfl) (by kernel_rfl) (by kernel_rfl) (fun _ _ _ h => h) (Or.inl ⟨by rfl, ?_⟩) hHeld ?_
            rotate_left
            · intro w hSw
              try dsimp only at hSw
              go_simp
              try with_reducible rfl
            simp only [Act.put, List.setIfInBounds_toArray, List.set_cons_zero, List.set_cons_succ]
            refine held_take (i := 4) (v := ?_) (some 110) rfl rfl (by kernel_rfl) (by kernel_rfl) (by kernel_rfl) (fun _ _ _ h => h) (Or.inl ⟨by rfl, ?_⟩) hHeld ?_
            rotate_left
            · intro w hSw
              try dsimp only at hSw
              go_simp
              try with_reducible rfl
            simp only [Act.put, List.setIfInBounds_toArray, List.set_cons_zero, List.set_cons_succ]
            refine held_take (i := 5) (v := ?_) (some 111) rfl rfl (by kernel_rfl) (by kernel_rfl) (by kernel_rfl) (fun _ _ _ h => h) (Or.inl ⟨by rfl, ?_⟩) hHeld ?_
            rotate_left
            · intro w hSw
              try dsimp only at hSw
              go_simp
              try with_reducible rfl
            simp only [Act.put, List.setIfInBounds_toArray, List.set_cons_zero, List.set_cons_succ]
            refine held_take (i := 6) (v := ?_) (some 112) rfl rfl (by kernel_rfl) (by kernel_rfl) (by kernel_rfl) (fun _ _ _ h => h) (Or.inl ⟨by rfl, ?_⟩) hHeld ?_
            rotate_left
            · intro w hSw
              try dsimp only at hSw
              go_simp
              try with_reducible rfl
            simp only [Act.put, List.setIfInBounds_toArray, List.set_cons_zero, List.set_cons_succ]
            refine held_take (i := 7) (v := ?_) (some 113) rfl rfl (by kernel_rfl) (by kernel_rfl) (by kernel_rfl) (fun _ _ _ h => h) (Or.inl ⟨by rfl, ?_⟩) hHeld ?_
            rotate_left
            · intro w hSw
              try dsimp only at hSw
              go_simp
              try with_reducible rfl
            simp only [Act.put, List.setIfInBounds_toArray, List.set_cons_zero, List.set_cons_succ]
            refine held_take (i := 8) (v := ?_) (some 114) rfl rfl (by kernel_rfl) (by kernel_rfl) (by kernel_rfl) (fun _ _ _ h => h) (Or.inl ⟨by rfl, ?_⟩) hHeld ?_
            rotate_left
            · intro w hSw
              try dsimp only at hSw
              go_simp
              try with_reducible rfl
            simp only [Act.put, List.setIfInBounds_toArray, List.set_cons_zero, List.set_cons_succ]
            refine held_take (i := 9) (v := ?_) (some 115) rfl rfl (by kernel_rfl) (by kernel_rfl) (by kernel_rfl) (fun _ _ _ h => h) (Or.inl ⟨by rfl, ?_⟩) hHeld ?_
            rotate_left
            · intro w hSw
              try dsimp only at hSw
              go_simp
              try with_reducible rfl
            simp only [Act.put, List.setIfInBounds_toArray, List.set_cons_zero, List.set_cons_succ]
            refine held_take (i := 10) (v := ?_) (some 116) rfl rfl (by kernel_rfl) (by kernel_rfl) (by kernel_rfl) (fun _ _ _ h => h) (Or.inl ⟨by rfl, ?_⟩) hHeld ?_
            rotate_left
            · intro w hSw
              try dsimp only at hSw
              go_simp
              try with_reducible rfl
            simp only [Act.put, List.setIfInBounds_toArray, List.set_cons_zero, List.set_cons_succ]
            refine held_take (i := 11) (v := ?_) (some 117) rfl rfl (by kernel_rfl) (by kernel_rfl) (by kernel_rfl) (fun _ _ _ h => h) (Or.inl ⟨by rfl, ?_⟩) hHeld ?_
            rotate_left
            · intro w hSw
              try dsimp only at hSw
              go_simp
              try with_reducible rfl
            simp only [Act.put, List.setIfInBounds_toArray, List.set_cons_zero, List.set_cons_succ]
            refine held_take (i := 12) (v := ?_) (some 118) rfl rfl (by kernel_rfl) (by kernel_rfl) (by kernel_rfl) (fun _ _ _ h => h) (Or.inl ⟨by rfl, ?_⟩) hHeld ?_
            rotate_left
            · intro w hSw
              try dsimp only at hSw
              go_simp
              try with_reducible rfl
            simp only [Act.put, List.setIfInBounds_toArray, List.set_cons_zero, List.set_cons_succ]
            refine held_take (i := 13) (v := ?_) (some 119) rfl rfl (by kernel_rfl) (by kernel_rfl) (by kernel_rfl) (fun _ _ _ h => h) (Or.inl ⟨by rfl, ?_⟩) hHeld ?_
            rotate_left
            · intro w hSw
              try dsimp only at hSw
              go_simp
              try with_reducible rfl
            simp only [Act.put, List.setIfInBounds_toArray, List.set_cons_zero, List.set_cons_succ]
            refine held_take (i := 14) (v := ?_) (some 120) rfl rfl (by kernel_rfl) (by kernel_rfl) (by kernel_rfl) (fun _ _ _ h => h) (Or.inl ⟨by rfl, ?_⟩) hHeld ?_
            rotate_left
            · intro w hSw
              try dsimp only at hSw
              go_simp
              try with_reducible rfl
            simp only [Act.put, List.setIfInBounds_toArray, List.set_cons_zero, List.set_cons_succ]
            refine held_take (i := 15) (v := ?_) (some 121) rfl rfl (by kernel_rfl) (by kernel_rfl) (by kernel_rfl) (fun _ _ _ h => h) (Or.inl ⟨by rfl, ?_⟩) hHeld ?_
            rotate_left
            · intro w hSw
              try dsimp only at hSw
              go_simp
              try with_reducible rfl
            simp only [Act.put, List.setIfInBounds_toArray, List.set_cons_zero, List.set_cons_succ]
            refine wpAnyH_ready (rs := [16]) (by kernel_rfl) (by simp) ?_
            refine AllReadyH.cons rfl (fun K hK => ?_) AllReadyH.nil
            go_simp
            ((with_reducible refine (HM9.out _).mono ?_); rintro e w8 ⟨rfl, hb8⟩; dsimp only)
            replace hHeld := held8 hHeld hb8
            refine hK.out _ _ hHeld (fun _ => ?_)
            clear hK K
            refine held_take (i := 17) (v := ?_) (some 123) rfl rfl (by kernel_rfl) (by kernel_rfl) (by kernel_rfl) (fun _ _ _ h => h) (Or.inl ⟨by rfl, ?_⟩) hHeld ?_
            rotate_left
            · intro w hSw
              try dsimp only at hSw
              go_simp
              try with_reducible rfl
            simp only [Act.put, List.setIfInBounds_toArray, List.set_cons_zero, List.set_cons_succ]
            refine held_take (i := 18) (v := ?_) (some 124) rfl rfl (by kernel_rfl) (by kernel_rfl) (by kernel_rfl) (fun _ _ _ h => h) (Or.inl ⟨by rfl, ?_⟩) hHeld ?_
            rotate_left
            · intro w hSw
              try dsimp only at hSw
              go_simp
              try with_reducible rfl
            simp only [Act.put, List.setIfInBounds_toArray, List.set_cons_zero, List.set_cons_succ]
            refine held_take (i := 19) (v := ?_) (some 125) rfl rfl (by kernel_rfl) (by kernel_rfl) (by kernel_rfl) (fun _ _ _ h => h) (Or.inl ⟨by rfl, ?_⟩) hHeld ?_
            rotate_left
            · intro w hSw
              try dsimp only at hSw
              go_simp
              try with_reducible rfl
            simp only [Act.put, List.setIfInBounds_toArray, List.set_cons_zero, List.set_cons_succ]
            refine held_take (i := 20) (v := ?_) (some 126) rfl rfl (by kernel_rfl) (by kernel_rfl) (by kernel_rfl) (fun _ _ _ h => h) (Or.inl ⟨by rfl, ?_⟩) hHeld ?_
            rotate_left
            · intro w hSw
              try dsimp only at hSw
              go_simp
              try with_reducible rfl
            simp only [Act.put, List.setIfInBounds_toArray, List.set_cons_zero, List.set_cons_succ]
            refine held_take (i := 21) (v := ?_) (some 127) rfl rfl (by kernel_rfl) (by kernel_rfl) (by kernel_rfl) (fun _ _ _ h => h) (Or.inl ⟨by rfl, ?_⟩) hHeld ?_
            rotate_left
            · intro w hSw
              try dsimp only at hSw
              go_simp
              try with_reducible rfl
            simp only [Act.put, List.setIfInBounds_toArray, List.set_cons_zero, List.set_cons_succ]
            refine held_take (i := 22) (v := ?_) (some 128) rfl rfl (by kernel_rfl) (by kernel_rfl) (by kernel_rfl) (fun _ _ _ h => h) (Or.inl ⟨by rfl, ?_⟩) hHeld ?_
            rotate_left
            · intro w hSw
              try dsimp only at hSw
              go_simp
              try with_reducible rfl
            simp only [Act.put, List.setIfInBounds_toArray, List.set_cons_zero, List.set_cons_succ]
            refine held_take (i := 23) (v := ?_) (some 129) rfl rfl (by kernel_rfl) (by kernel_rfl) (by kernel_rfl) (fun _ _ _ h => h) (Or.inl ⟨by rfl, ?_⟩) hHeld ?_
            rotate_left
            · intro w hSw
              try dsimp only at hSw
              go_simp
              try with_reducible rfl
            simp only [Act.put, List.setIfInBounds_toArray, List.set_cons_zero, List.set_cons_succ]
            refine held_take (i := 24) (v := undef) (some 130) rfl rfl (by kernel_rfl) (by kernel_rfl) (by kernel_rfl) (fun _ _ _ h => h) (Or.inr ⟨by kernel_rfl, rfl⟩) hHeld ?_
            simp only [Act.put, List.setIfInBounds_toArray, List.set_cons_zero, List.set_cons_succ]
            refine held_take (i := 25) (v := undef) (some 131) rfl rfl (by kernel_rfl) (by kernel_rfl) (by kernel_rfl) (fun _ _ _ h => h) (Or.inr ⟨by kernel_rfl, rfl⟩) hHeld ?_
            simp only [Act.put, List.setIfInBounds_toArray, List.set_cons_zero, List.set_cons_succ]
            refine held_take (i := 26) (v := ?_) (some 132) rfl rfl (by kernel_rfl) (by kernel_rfl) (by kernel_rfl) (fun _ _ _ h => h) (Or.inl ⟨by rfl, ?_⟩) hHeld ?_
            rotate_left
            · intro w hSw
              try dsimp only at hSw
              go_simp
              try with_reducible rfl
            simp only [Act.put, List.setIfInBounds_toArray, List.set_cons_zero, List.set_cons_succ]
            refine held_take (i := 27) (v := ?_) (some 133) rfl rfl (by kernel_rfl) (by kernel_rfl) (by kernel_rfl) (fun _ _ _ h => h) (Or.inl ⟨by rfl, ?_⟩) hHeld ?_
            rotate_left
            · intro w hSw
              try dsimp only at hSw
              go_simp
              try with_reducible rfl
            simp only [Act.put, List.setIfInBounds_toArray, List.set_cons_zero, List.set_cons_succ]
            refine held_take (i := 28) (v := ?_) (some 134) rfl rfl (by kernel_rfl) (by kernel_rfl) (by kernel_rfl) (fun _ _ _ h => h) (Or.inl ⟨by rfl, ?_⟩) hHeld ?_
            rotate_left
            · intro w hSw
              try dsimp only at hSw
              go_simp
              try with_reducible rfl
            simp only [Act.put, List.setIfInBounds_toArray, List.set_cons_zero, List.set_cons_succ]
            refine held_take (i := 29) (v := ?_) (some 135) rfl rfl (by kernel_rfl) (by kernel_rfl) (by kernel_rfl) (fun _ _ _ h => h) (Or.inl ⟨by rfl, ?_⟩) hHeld ?_
            rotate_left
            · intro w hSw
              try dsimp only at hSw
              go_simp
              try with_reducible rfl
            simp only [Act.put, List.setIfInBounds_toArray, List.set_cons_zero, List.set_cons_succ]
            refine held_take (i := 30) (v := ?_) (some 136) rfl rfl (by kernel_rfl) (by kernel_rfl) (by kernel_rfl) (fun _ _ _ h => h) (Or.inl ⟨by rfl, ?_⟩) hHeld ?_
            rotate_left
            · intro w hSw
              try dsimp only at hSw
              go_simp
              try with_reducible rfl
            simp only [Act.put, List.setIfInBounds_toArray, List.set_cons_zero, List.set_cons_succ]
            refine held_take (i := 31) (v := ?_) (some 137) rfl rfl (by kernel_rfl) (by kernel_rfl) (by kernel_rfl) (fun _ _ _ h => h) (Or.inl ⟨by rfl, ?_⟩) hHeld ?_
            rotate_left
            · intro w hSw
              try dsimp only at hSw
              go_simp
              try with_reducible rfl
            simp only [Act.put, List.setIfInBounds_toArray, List.set_cons_zero, List.set_cons_succ]
            refine held_take (i := 32) (v := ?_) (some 138) rfl rfl (by kernel_rfl) (by kernel_rfl) (by kernel_rfl) (fun _ _ _ h => h) (Or.inl ⟨by rfl, ?_⟩) hHeld ?_
            rotate_left
            · intro w hSw
              try dsimp only at hSw
              go_simp
              try with_reducible rfl
            simp only [Act.put, List.setIfInBounds_toArray, List.set_cons_zero, List.set_cons_succ]
            refine held_take (i := 33) (v := ?_) (some 139) rfl rfl (by kernel_rfl) (by kernel_rfl) (by kernel_rfl) (fun _ _ _ h => h) (Or.inl ⟨by rfl, ?_⟩) hHeld ?_
            rotate_left
            · intro w hSw
              try dsimp only at hSw
              go_simp
              try with_reducible rfl
            simp only [Act.put, List.setIfInBounds_toArray, List.set_cons_zero, List.set_cons_succ]
            refine held_take (i := 34) (v := ?_) (some 140) rfl rfl (by kernel_rfl) (by kernel_rfl) (by kernel_rfl) (fun _ _ _ h => h) (Or.inl ⟨by rfl, ?_⟩) hHeld ?_
            rotate_left
            · intro w hSw
              try dsimp only at hSw
              go_simp
              try with_reducible rfl
            simp only [Act.put, List.setIfInBounds_toArray, List.set_cons_zero, List.set_cons_succ]
            refine held_take (i := 35) (v := ?_) (some 141) rfl rfl (by kernel_rfl) (by kernel_rfl) (by kernel_rfl) (fun _ _ _ h => h) (Or.inl ⟨by rfl, ?_⟩) hHeld ?_
            rotate_left
            · intro w hSw
              try dsimp only at hSw
              go_simp
              try with_reducible rfl
            simp only [Act.put, List.setIfInBounds_toArray, List.set_cons_zero, List.set_cons_succ]
            refine held_take (i := 36) (v := undef) (some 142) rfl rfl (by kernel_rfl) (by kernel_rfl) (by kernel_rfl) (fun _ _ _ h => h) (Or.inr ⟨by kernel_rfl, rfl⟩) hHeld ?_
            simp only [Act.put, List.setIfInBounds_toArray, List.set_cons_zero, List.set_cons_succ]
            refine held_take (i := 37) (v := undef) (some 143) rfl rfl (by kernel_rfl) (by kernel_rfl) (by kernel_rfl) (fun _ _ _ h => h) (Or.inr ⟨by kernel_rfl, rfl⟩) hHeld ?_
            simp only [Act.put, List.setIfInBounds_toArray, List.set_cons_zero, List.set_cons_succ]
            refine held_take (i := 38) (v := undef) (some 144) rfl rfl (by kernel_rfl) (by kernel_rfl) (by kernel_rfl) (fun _ _ _ h => h) (Or.inr ⟨by kernel_rfl, rfl⟩) hHeld ?_
            simp only [Act.put, List.setIfInBounds_toArray, List.set_cons_zero, List.set_cons_succ]
            refine held_take (i := 39) (v := ?_) (some 145) rfl rfl (by kernel_rfl) (by kernel_rfl) (by kernel_rfl) (fun _ _ _ h => h) (Or.inl ⟨by rfl, ?_⟩) hHeld ?_
            rotate_left
            · intro w hSw
              try dsimp only at hSw
              go_simp
              try with_reducible rfl
            simp only [Act.put, List.setIfInBounds_toArray, List.set_cons_zero, List.set_cons_succ]
            refine held_take (i := 40) (v := ?_) (some 146) rfl rfl (by kernel_rfl) (by kernel_rfl) (by kernel_rfl) (fun _ _ _ h => h) (Or.inl ⟨by rfl, ?_⟩) hHeld ?_
            rotate_left
            · intro w hSw
              try dsimp only at hSw
              go_simp
              try with_reducible rfl
            simp only [Act.put, List.setIfInBounds_toArray, List.set_cons_zero, List.set_cons_succ]
            refine held_take (i := 41) (v := ?_) (some 147) rfl rfl (by kernel_rfl) (by kernel_rfl) (by kernel_rfl) (fun _ _ _ h => h) (Or.inl ⟨by rfl, ?_⟩) hHeld ?_
            rotate_left
            · intro w hSw
              try dsimp only at hSw
              go_simp
              try with_reducible rfl
            simp only [Act.put, List.setIfInBounds_toArray, List.set_cons_zero, List.set_cons_succ]
            refine held_take (i := 42) (v := ?_) (some 148) rfl rfl (by kernel_rfl) (by kernel_rfl) (by kernel_rfl) (fun _ _ _ h => h) (Or.inl ⟨by rfl, ?_⟩) hHeld ?_
            rotate_left
            · intro w hSw
              try dsimp only at hSw
              go_simp
              try with_reducible rfl
            simp only [Act.put, List.setIfInBounds_toArray, List.set_cons_zero, List.set_cons_succ]
            refine held_take (i := 43) (v := ?_) (some 149) rfl rfl (by kernel_rfl) (by kernel_rfl) (by kernel_rfl) (fun _ _ _ h => h) (Or.inl ⟨by rfl, ?_⟩) hHeld ?_
            rotate_left
            · intro w hSw
              try dsimp only at hSw
              go_simp
              try with_reducible rfl
            simp only [Act.put, List.setIfInBounds_toArray, List.set_cons_zero, List.set_cons_succ]
            refine held_take (i := 44) (v := ?_) (some 150) rfl rfl (by kernel_rfl) (by kernel_rfl) (by kernel_rfl) (fun _ _ _ h => h) (Or.inl ⟨by rfl, ?_⟩) hHeld ?_
            rotate_left
            · intro w hSw
              try dsimp only at hSw
              go_simp
              try with_reducible rfl
            simp only [Act.put, List.setIfInBounds_toArray, List.set_cons_zero, List.set_cons_succ]
            refine held_take (i := 45) (v := ?_) (some 151) rfl rfl (by kernel_rfl) (by kernel_rfl) (by kernel_rfl) (fun _ _ _ h => h) (Or.inl ⟨by rfl, ?_⟩) hHeld ?_
            rotate_left
            · intro w hSw
              try dsimp only at hSw
              go_simp
              try with_reducible rfl
            simp only [Act.put, List.setIfInBounds_toArray, List.set_cons_zero, List.set_cons_succ]
            refine held_take (i := 46) (v := undef) (some 152) rfl rfl (by kernel_rfl) (by kernel_rfl) (by kernel_rfl) (fun _ _ _ h => h) (Or.inr ⟨by kernel_rfl, rfl⟩) hHeld ?_
            simp only [Act.put, List.setIfInBounds_toArray, List.set_cons_zero, List.set_cons_succ]
            refine held_take (i := 47) (v := undef) (some 153) rfl rfl (by kernel_rfl) (by kernel_rfl) (by kernel_rfl) (fun _ _ _ h => h) (Or.inr ⟨by kernel_rfl, rfl⟩) hHeld ?_
            simp only [Act.put, List.setIfInBounds_toArray, List.set_cons_zero, List.set_cons_succ]
            refine held_take (i := 48) (v := undef) (some 154) rfl rfl (by kernel_rfl) (by kernel_rfl) (by kernel_rfl) (fun _ _ _ h => h) (Or.inr ⟨by kernel_rfl, rfl⟩) hHeld ?_
            simp only [Act.put, List.setIfInBounds_toArray, List.set_cons_zero, List.set_cons_succ]
            refine held_take (i := 49) (v := ?_) (some 155) rfl rfl (by kernel_rfl) (by kernel_rfl) (by kernel_rfl) (fun _ _ _ h => h) (Or.inl ⟨by rfl, ?_⟩) hHeld ?_
            rotate_left
            · intro w hSw
              try dsimp only at hSw
              go_simp
              try with_reducible rfl
            simp only [Act.put, List.setIfInBounds_toArray, List.set_cons_zero, List.set_cons_succ]
            refine held_take (i := 50) (v := ?_) (some 156) rfl rfl (by kernel_rfl) (by kernel_rfl) (by kernel_rfl) (fun _ _ _ h => h) (Or.inl ⟨by rfl, ?_⟩) hHeld ?_
            rotate_left
            · intro w hSw
              try dsimp only at hSw
              go_simp
              try with_reducible rfl
            simp only [Act.put, List.setIfInBounds_toArray, List.set_cons_zero, List.set_cons_succ]
            refine wpAnyH_done (by kernel_rfl) ?_ _
            have HQ9 := Lib.hid ((below_d1 (m := nq) HQ4.out).trans (hHeld.2.2.2.2.2.2.2.2.mono (below_d1 (m := nq) HQ4.out).size))
            have hcn9 := (HBL.out.below HQ9.out HBL.out.lt).cell n
            rw [HTW.out] at hcn9
            clear hHeld hcn
            by_cases h5 : 5 ≤ n
            · have h5' : (5 : Int) ≤ (n : Int) := by omega
              go_wp2
              go_roundw
              case rel => exact ⟨n + 1, by omega, by omega, by go_num, by rw [HTY.out]; rw [if_pos h5]; go_num, HQ9⟩
              case measure => simp [intOf]; omega
            · have h5' : (n : Int) < 5 := by omega
              go_wp2
              go_roundw
              case rel => exact ⟨n + 1, by omega, by omega, by go_num, by rw [HTY.out]; rw [if_neg h5]; simp, HQ9⟩
              case measure => simp [intOf]; omega
      · have hn12 : n = 12 := by omega
        subst hn12
        have HEND := Lib.hid (HB1.out.trans ((HB3X.out.trans (HI.out.mono HB3X.out.size)).mono HB1.out.size))
        have HGE := Lib.hid (HG.out.next HEND.out)
        have HTE := Lib.hid (HT.out.next HEND.out)
        have hBE := HBL.out.below HI.out HBL.out.lt
        have hty := tyN_end HK8.out
        have c1 := hBE.cell 1
        have c2 := hBE.cell 2
        have c3 := hBE.cell 3
        have c4 := hBE.cell 4
        have c10 := hBE.cell 10
        simp at c1 c2 c3 c4 c10
        clear hBE htl
        rw [if_neg hk0] at hty
        have q1 := val_eq_nil T u
        have e1 : holdB k 1 = true := by simp [holdB, hk0]
        have e4 : holdB k 4 = decide (k = 6) := by simp [holdB, hk0]
        have e10 : holdB k 10 = decide (k = 6) := by simp [holdB, hk0]
        rw [e1] at c1
        rw [e4] at c4
        rw [e10] at c10
        have hbb : (decide (k = 6) == decide (k = 6)) = true := by simp
        have h23 : (holdB k 2 = true ∧ holdB k 3 = false) ∨ (holdB k 2 = false) := by
          by_cases h4 : k ≤ 4
          · exact .inl ⟨by simp [holdB, hk0, h4], by simp [holdB, hk0]; omega⟩
          · exact .inr (by simp [holdB, hk0]; omega)
        generalize decide (k = 6) = b46 at *
        clear hk0 e1 e4 e10
        rcases h23 with ⟨e2, e3⟩ | e2
        · rw [e2] at c2
          rw [e3] at c3
          clear e2 e3
          go_wp2_with fail
          ((with_reducible refine (works_any _ HGE.out HTE.out).mono ?_); rintro e w9 ⟨rfl, hb9⟩)
          have HF9 := Lib.hid (HEND.out.trans (hb9.mono HEND.out.size))
          clear hb9
          go_wp2
          go_ret
          exact ⟨rfl, HF9.out⟩
        · rw [e2] at c2
          clear e2
          go_wp2_with fail
          ((with_reducible refine (works_any _ HGE.out HTE.out).mono ?_); rintro e w9 ⟨rfl, hb9⟩)
          have HF9 := Lib.hid (HEND.out.trans (hb9.mono HEND.out.size))
          clear hb9
          go_wp2
          go_ret
          exact ⟨rfl, HF9.out⟩
end Nd
end Go.Proofs.YtmcmoaeheadihaaGreatDoor
