/-
  The reference's Total and Product of layer 16.
-/
import Derived.Test.YtbajkglacfheiaaGreatDoorTA31
set_option linter.unusedVariables false
set_option maxRecDepth 100000
set_option maxHeartbeats 16000000
namespace Go.Proofs.YtbajkglacfheiaaGreatDoor
open Go.RowKit Mem Utf Ref3 Idx Tok TokC Ieee
namespace Nd
def u64V (x : Nat) : Value := .int .u64 (x : Int)
def cellsU (qs : List (Nat × Nat)) : List Value := qs.flatMap fun q => [u64V q.1, u64V q.2]
theorem cellsU_snoc (qs : List (Nat × Nat)) (q : Nat × Nat) : cellsU (qs ++ [q]) = cellsU qs ++ [u64V q.1, u64V q.2] := by
 unfold cellsU
 rw [List.flatMap_append]
 rfl
theorem cellsU_at : ∀ (qs : List (Nat × Nat)) (k : Nat) (h : k < qs.length), (cellsU qs)[k * 2]? = some (u64V qs[k].1) ∧ (cellsU qs)[k * 2 + 1]? = some (u64V qs[k].2)
 | [], k, h => by cases h
 | q :: qs, 0, h => ⟨rfl, rfl⟩
 | q :: qs, k + 1, h => by
  have ih := cellsU_at qs k (by simpa using h)
  have e : cellsU (q :: qs) = u64V q.1 :: u64V q.2 :: cellsU qs := rfl
  rw [e, show (k + 1) * 2 = k * 2 + 1 + 1 by omega, show k * 2 + 1 + 1 + 1 = (k * 2 + 1) + 1 + 1 by omega]
  simpa using ih
def RTotP (fl : List Nat) (w : World) (e : Ending) (w' : World) : Prop :=
 e = .returned (match sumD fl 0 0 with
  | .inl i => .tuple #[.int .u64 0, .int .i64 (i : Int)]
  | .inr s => .tuple #[.int .u64 (s : Int), .int .i64 (-1)]) ∧ w = w'
theorem rtotP_no {fl : List Nat} {i : Nat} {w : World} (h : sumD fl 0 0 = .inl i) : RTotP fl w (.returned (.tuple #[.int .u64 0, .int .i64 (i : Int)])) w := by
 unfold RTotP
 rw [h]
 exact ⟨rfl, rfl⟩
theorem rtotP_ok {fl : List Nat} {s : Nat} {w : World} (h : sumD fl 0 0 = .inr s) : RTotP fl w (.returned (.tuple #[.int .u64 (s : Int), .int .i64 (-1)])) w := by
 unfold RTotP
 rw [h]
 exact ⟨rfl, rfl⟩
theorem rtotal_any (fl : List Nat) (v : Value) (B : Nat) (w : World) (hown : w.ownsRow B 64 1 v fl.length (fl.map u64V)) (hf : ∀ x ∈ fl, finB x = true ∧ x < 18446744073709551616) (hn : fl.length ≤ 65536) : Calls Tryz.prog 66 #[v] w (RTotP fl w) := by
 have q1 := f64bits
 have q2 := fromBits
 obtain ⟨A, c, rfl⟩ := own_slice hown
 have HOW := Lib.hid hown
 have HF := Lib.hid hf
 have HN := Lib.hid hn
 clear hown hf hn
 go_enter Tryz.func66, Tryz.ntmps66
 go_wp2_with fail
 go_loopw [4, 5] (fun c4 c5 wr => ∃ (k s : Nat), k ≤ fl.length ∧ c4 = .float .f64 s ∧ c5 = .int .i64 (k : Int) ∧ Hid ((finB s = true ∧ s < 18446744073709551616) ∧ sumD fl 0 0 = sumD (fl.drop k) k s ∧ w = wr)) (fun _ c5 _ => fl.length - (intOf c5).toNat)
 case atStart => exact ⟨0, 0, Nat.zero_le _, rfl, rfl, Lib.hid ⟨⟨by decide, by decide⟩, rfl, rfl⟩⟩
 case round =>
  obtain ⟨k, s, hk, rfl, rfl, HI⟩ := hrel
  obtain rfl := HI.out.2.2
  by_cases hlt : k < fl.length
  ·have hlti : (k : Int) < (fl.length : Int) := by omega
   have hkb : (k : Int) ≤ 65536 := by have := HN.out; omega
   have HLT := Lib.hid hlt
   obtain ⟨gf, rfl, _, hc4, hcu⟩ := own_someB HOW.out (by omega)
   have cx : w.cell? ⟨gf, k, none⟩ = some (.int .u64 ((fl[k] : Nat) : Int)) := hcu k (u64V fl[k]) (by rw [List.getElem?_map, List.getElem?_eq_getElem hlt]; rfl)
   obtain ⟨x, hx, hxf, hxl⟩ : ∃ x, fl[k] = x ∧ finB x = true ∧ x < 18446744073709551616 := ⟨_, rfl, HF.out _ (List.getElem_mem hlt)⟩
   rw [hx] at cx
   have e1 : ∀ z, double.add s x = some z → double.add s fl[k] = some z := fun z h => by rw [hx]; exact h
   obtain ⟨y, hy, hyl⟩ := add_some HI.out.1.2 hxl HI.out.1.1 hxf
   have hya := fun W : World => run_float_arith (P := Tryz.prog) W .add 61 .f64 s x y hy
   have HBF := Lib.hid (refFin_any y hyl)
   cases hfy : finB y with
   | true =>
    have HX : Hid ((finB y = true ∧ y < 18446744073709551616) ∧ sumD fl 0 0 = sumD (fl.drop (k + 1)) (k + 1) y) := Lib.hid ⟨⟨hfy, hyl⟩, HI.out.2.1.trans (sumD_yes hlt (e1 _ hy) hfy)⟩
    rw [hfy] at HBF
    clear hcu hxf hxl e1 hx hy hyl hfy hk
    go_wp2_with fail
    ((with_reducible refine (HBF.out _).mono ?_); rintro e w5 ⟨rfl, rfl⟩)
    go_wp2
    go_roundw
    case rel => exact ⟨k + 1, y, HLT.out, rfl, by go_num, Lib.hid ⟨HX.out.1, HX.out.2, (by first | rfl | trivial)⟩⟩
    case measure => have := HLT.out; simp [intOf]; omega
   | false =>
    have HE := Lib.hid (rtotP_no (w := w) (HI.out.2.1.trans (sumD_no hlt (e1 _ hy) hfy)))
    rw [hfy] at HBF
    clear hcu hxf hxl e1 hx hy hyl hfy hk
    go_wp2_with fail
    ((with_reducible refine (HBF.out _).mono ?_); rintro e w5 ⟨rfl, rfl⟩)
    go_wp2
    go_ret2
    exact HE.out
  ·obtain rfl : k = fl.length := by omega
   have HE := Lib.hid (rtotP_ok (w := w) (HI.out.2.1.trans (sumD_end fl s)))
   go_wp2
   go_ret2
   exact HE.out
def RPrdP (qs : List (Nat × Nat)) (w : World) (e : Ending) (w' : World) : Prop :=
 e = .returned (match prodD qs 0 4607182418800017408 0 with
  | .inl i => .tuple #[.int .u64 0, .int .u64 0, .int .i64 (i : Int)]
  | .inr x => .tuple #[.int .u64 (normB x.1 : Int), .int .u64 (normB x.2 : Int), .int .i64 (-1)]) ∧ Below w.heap.size w w'
theorem rprdP_no {qs : List (Nat × Nat)} {i : Nat} {w w' : World} (h : prodD qs 0 4607182418800017408 0 = .inl i) (hb : Below w.heap.size w w') : RPrdP qs w (.returned (.tuple #[.int .u64 0, .int .u64 0, .int .i64 (i : Int)])) w' := by
 unfold RPrdP
 rw [h]
 exact ⟨rfl, hb⟩
theorem rprdP_ok {qs : List (Nat × Nat)} {a b : Nat} {w w' : World} (h : prodD qs 0 4607182418800017408 0 = .inr (a, b)) (hb : Below w.heap.size w w') : RPrdP qs w (.returned (.tuple #[.int .u64 (normB a : Int), .int .u64 (normB b : Int), .int .i64 (-1)])) w' := by
 unfold RPrdP
 rw [h]
 exact ⟨rfl, hb⟩
theorem rplus_norm (b : Nat) (hb : b < 18446744073709551616) (w : World) : Calls Tryz.prog 115 #[.int .u64 (b : Int)] w fun e w' => e = .returned (.int .u64 (normB b : Int)) ∧ w = w' := by
 rw [← plus_norm hb]
 exact rplus_any b w
theorem rprod_any (qs : List (Nat × Nat)) (v : Value) (B : Nat) (w : World) (hown : w.ownsRow B 188 2 v qs.length (cellsU qs)) (hf : ∀ q ∈ qs, (finB q.1 = true ∧ q.1 < 18446744073709551616) ∧ (finB q.2 = true ∧ q.2 < 18446744073709551616)) (hn : qs.length ≤ 65536) : Calls Tryz.prog 69 #[v] w (RPrdP qs w) := by
 have q1 := f64bits
 have q2 := fromBits
 obtain ⟨A, c, rfl⟩ := own_slice hown
 have HOW := Lib.hid hown
 have HFQS := Lib.hid hf
 have HN := Lib.hid hn
 clear hown hf hn
 go_enter Tryz.func69, Tryz.ntmps69
 go_wp2_with fail
 go_loopw [5, 6, 7] (fun c5 c6 c7 wr => ∃ (k a b : Nat), k ≤ qs.length ∧ c5 = .float .f64 a ∧ c6 = .float .f64 b ∧ c7 = .int .i64 (k : Int) ∧ Hid ((finB a = true ∧ a < 18446744073709551616) ∧ (finB b = true ∧ b < 18446744073709551616) ∧ prodD qs 0 4607182418800017408 0 = prodD (qs.drop k) k a b ∧ Below w.heap.size w wr)) (fun _ _ c7 _ => qs.length - (intOf c7).toNat)
 case atStart => exact ⟨0, 4607182418800017408, 0, Nat.zero_le _, rfl, rfl, rfl, Lib.hid ⟨⟨by decide, by decide⟩, ⟨by decide, by decide⟩, rfl, Below.refl _ _⟩⟩
 case round =>
  obtain ⟨k, a, b, hk, rfl, rfl, rfl, HI⟩ := hrel
  by_cases hlt : k < qs.length
  ·have hlti : (k : Int) < (qs.length : Int) := by omega
   have hkb : (k : Int) ≤ 65536 := by have := HN.out; omega
   have HLT := Lib.hid hlt
   obtain ⟨gf, rfl, _, hc4, hcu⟩ := own_some2 HOW.out (by omega)
   have hca := cellsU_at qs k hlt
   have hcx := hcu (k * 2) _ (by omega) hca.1
   have hcy := hcu (k * 2 + 1) _ (by omega) hca.2
   have cx : wr.cell? ⟨gf, k * 2, none⟩ = some (.int .u64 ((qs[k].1 : Nat) : Int)) := (HI.out.2.2.2.cell (World.block_lt_of_cell? _ _ hcx)).trans hcx
   have cy : wr.cell? ⟨gf, k * 2 + 1, none⟩ = some (.int .u64 ((qs[k].2 : Nat) : Int)) := (HI.out.2.2.2.cell (World.block_lt_of_cell? _ _ hcy)).trans hcy
   have hfq := HFQS.out qs[k] (List.getElem_mem hlt)
   have hse0 := fun p1 p2 p3 p4 => @stepD_eq a b qs[k] p1 p2 p3 p4
   obtain ⟨x, hx⟩ : ∃ x, qs[k].1 = x := ⟨_, rfl⟩
   obtain ⟨y, hy⟩ : ∃ y, qs[k].2 = y := ⟨_, rfl⟩
   rw [hx] at cx
   rw [hy] at cy
   have hxf : finB x = true ∧ x < 18446744073709551616 := hx ▸ hfq.1
   have hyf : finB y = true ∧ y < 18446744073709551616 := hy ▸ hfq.2
   obtain ⟨p1, h1, _⟩ := mul_some HI.out.1.2 hxf.2 HI.out.1.1 hxf.1
   obtain ⟨p2, h2, _⟩ := mul_some HI.out.2.1.2 hyf.2 HI.out.2.1.1 hyf.1
   obtain ⟨p3, h3, _⟩ := mul_some HI.out.1.2 hyf.2 HI.out.1.1 hyf.1
   obtain ⟨p4, h4, _⟩ := mul_some HI.out.2.1.2 hxf.2 HI.out.2.1.1 hxf.1
   have HSE := Lib.hid (hse0 p1 p2 p3 p4 (by rw [hx]; exact h1) (by rw [hy]; exact h2) (by rw [hy]; exact h3) (by rw [hx]; exact h4))
   have r1 := fun W : World => run_float_arith (P := Tryz.prog) W .mul 61 .f64 a x p1 h1
   have r2 := fun W : World => run_float_arith (P := Tryz.prog) W .mul 61 .f64 b y p2 h2
   have r3 := fun W : World => run_float_arith (P := Tryz.prog) W .mul 61 .f64 a y p3 h3
   have r4 := fun W : World => run_float_arith (P := Tryz.prog) W .mul 61 .f64 b x p4 h4
   clear hk hca hcx hcy hcu hfq hse0 hx hy hxf hyf h1 h2 h3 h4
   have HBX := Lib.hid (fun n : Nat => HI.out.2.2.2.trans (drewN_below (B := w.heap.size) wr n))
   go_upto_region 5 with fail
   go_quiet (fail)
   cases hsub : double.sub p1 p2 with
   | none =>
    cases hadd : double.add p3 p4 with
    | none =>
     obtain ⟨fr, hfr⟩ := nan_run (.inr rfl) (x := p1) (y := p2) hsub
     have r5 := fun W => (hfr W).1
     have HFR := Lib.hid fun W => refFin_any (fr W) (hfr W).2.1
     have HFQ := Lib.hid fun W => (hfr W).2.2
     obtain ⟨fi, hfi⟩ := nan_run (.inl rfl) (x := p3) (y := p4) hadd
     have r6 := fun W => (hfi W).1
     have HFI := Lib.hid fun W => refFin_any (fi W) (hfi W).2.1
     have HFJ := Lib.hid fun W => (hfi W).2.2
     have HST := Lib.hid (HSE.out.trans (show _ = none by rw [hsub, hadd]))
     clear hsub hadd hfr hfi
     go_wp2_with fail
     ((with_reducible refine (HFR.out _ _).mono ?_); rintro e w5 ⟨rfl, rfl⟩)
     rw [HFQ.out]
     have HE := Lib.hid (fun n : Nat => rprdP_no (HI.out.2.2.1.trans (prodD_no HLT.out HST.out)) (HBX.out n))
     go_wp2
     go_ret3
     exact HE.out _
    | some im =>
     cases hfim : finB im with
     | true =>
      obtain ⟨fr, hfr⟩ := nan_run (.inr rfl) (x := p1) (y := p2) hsub
      have r5 := fun W => (hfr W).1
      have HFR := Lib.hid fun W => refFin_any (fr W) (hfr W).2.1
      have HFQ := Lib.hid fun W => (hfr W).2.2
      have r6 := fun W : World => run_float_arith (P := Tryz.prog) W .add 61 .f64 p3 p4 im hadd
      have HFI := Lib.hid (refFin_any im (Format.add_lt _ hadd))
      rw [hfim] at HFI
      have HST := Lib.hid (HSE.out.trans (show _ = none by rw [hsub, hadd]))
      clear hsub hadd hfr hfim
      go_wp2_with fail
      ((with_reducible refine (HFR.out _ _).mono ?_); rintro e w5 ⟨rfl, rfl⟩)
      rw [HFQ.out]
      have HE := Lib.hid (fun n : Nat => rprdP_no (HI.out.2.2.1.trans (prodD_no HLT.out HST.out)) (HBX.out n))
      go_wp2
      go_ret3
      exact HE.out _
     | false =>
      obtain ⟨fr, hfr⟩ := nan_run (.inr rfl) (x := p1) (y := p2) hsub
      have r5 := fun W => (hfr W).1
      have HFR := Lib.hid fun W => refFin_any (fr W) (hfr W).2.1
      have HFQ := Lib.hid fun W => (hfr W).2.2
      have r6 := fun W : World => run_float_arith (P := Tryz.prog) W .add 61 .f64 p3 p4 im hadd
      have HFI := Lib.hid (refFin_any im (Format.add_lt _ hadd))
      rw [hfim] at HFI
      have HST := Lib.hid (HSE.out.trans (show _ = none by rw [hsub, hadd]))
      clear hsub hadd hfr hfim
      go_wp2_with fail
      ((with_reducible refine (HFR.out _ _).mono ?_); rintro e w5 ⟨rfl, rfl⟩)
      rw [HFQ.out]
      have HE := Lib.hid (fun n : Nat => rprdP_no (HI.out.2.2.1.trans (prodD_no HLT.out HST.out)) (HBX.out n))
      go_wp2
      go_ret3
      exact HE.out _
   | some re =>
    cases hfre : finB re with
    | true =>
     cases hadd : double.add p3 p4 with
     | none =>
      have r5 := fun W : World => run_float_arith (P := Tryz.prog) W .sub 61 .f64 p1 p2 re hsub
      have HFR := Lib.hid (refFin_any re (Format.sub_lt _ hsub))
      rw [hfre] at HFR
      obtain ⟨fi, hfi⟩ := nan_run (.inl rfl) (x := p3) (y := p4) hadd
      have r6 := fun W => (hfi W).1
      have HFI := Lib.hid fun W => refFin_any (fi W) (hfi W).2.1
      have HFJ := Lib.hid fun W => (hfi W).2.2
      have HST := Lib.hid (HSE.out.trans (show _ = none by rw [hsub, hadd]))
      clear hsub hadd hfre hfi
      go_wp2_with fail
      ((with_reducible refine (HFR.out _).mono ?_); rintro e w5 ⟨rfl, rfl⟩)
      go_wp2_with fail
      ((with_reducible refine (HFI.out _ _).mono ?_); rintro e w6 ⟨rfl, rfl⟩)
      rw [HFJ.out]
      have HE := Lib.hid (fun n : Nat => rprdP_no (HI.out.2.2.1.trans (prodD_no HLT.out HST.out)) (HBX.out n))
      go_wp2
      go_ret3
      exact HE.out _
     | some im =>
      cases hfim : finB im with
      | true =>
       have r5 := fun W : World => run_float_arith (P := Tryz.prog) W .sub 61 .f64 p1 p2 re hsub
       have HFR := Lib.hid (refFin_any re (Format.sub_lt _ hsub))
       rw [hfre] at HFR
       have r6 := fun W : World => run_float_arith (P := Tryz.prog) W .add 61 .f64 p3 p4 im hadd
       have HFI := Lib.hid (refFin_any im (Format.add_lt _ hadd))
       rw [hfim] at HFI
       have HST := Lib.hid (HSE.out.trans (show _ = some (re, im) by rw [hsub, hadd]; dsimp only; rw [if_pos ⟨hfre, hfim⟩]))
       have HFF := Lib.hid (And.intro (And.intro hfre (Format.sub_lt _ hsub)) (And.intro hfim (Format.add_lt _ hadd)))
       clear hsub hadd hfre hfim
       go_wp2_with fail
       ((with_reducible refine (HFR.out _).mono ?_); rintro e w5 ⟨rfl, rfl⟩)
       go_wp2_with fail
       ((with_reducible refine (HFI.out _).mono ?_); rintro e w6 ⟨rfl, rfl⟩)
       go_wp2
       go_roundw
       case rel => exact ⟨k + 1, re, im, HLT.out, rfl, rfl, by go_num, Lib.hid ⟨HFF.out.1, HFF.out.2, HI.out.2.2.1.trans (prodD_yes HLT.out HST.out), HBX.out _⟩⟩
       case measure => have := HLT.out; simp [intOf]; omega
      | false =>
       have r5 := fun W : World => run_float_arith (P := Tryz.prog) W .sub 61 .f64 p1 p2 re hsub
       have HFR := Lib.hid (refFin_any re (Format.sub_lt _ hsub))
       rw [hfre] at HFR
       have r6 := fun W : World => run_float_arith (P := Tryz.prog) W .add 61 .f64 p3 p4 im hadd
       have HFI := Lib.hid (refFin_any im (Format.add_lt _ hadd))
       rw [hfim] at HFI
       have HST := Lib.hid (HSE.out.trans (show _ = none by rw [hsub, hadd]; dsimp only; rw [if_neg (by rw [hfre, hfim]; simp)]))
       clear hsub hadd hfre hfim
       go_wp2_with fail
       ((with_reducible refine (HFR.out _).mono ?_); rintro e w5 ⟨rfl, rfl⟩)
       go_wp2_with fail
       ((with_reducible refine (HFI.out _).mono ?_); rintro e w6 ⟨rfl, rfl⟩)
       have HE := Lib.hid (fun n : Nat => rprdP_no (HI.out.2.2.1.trans (prodD_no HLT.out HST.out)) (HBX.out n))
       go_wp2
       go_ret3
       exact HE.out _
    | false =>
     cases hadd : double.add p3 p4 with
     | none =>
      have r5 := fun W : World => run_float_arith (P := Tryz.prog) W .sub 61 .f64 p1 p2 re hsub
      have HFR := Lib.hid (refFin_any re (Format.sub_lt _ hsub))
      rw [hfre] at HFR
      obtain ⟨fi, hfi⟩ := nan_run (.inl rfl) (x := p3) (y := p4) hadd
      have r6 := fun W => (hfi W).1
      have HFI := Lib.hid fun W => refFin_any (fi W) (hfi W).2.1
      have HFJ := Lib.hid fun W => (hfi W).2.2
      have HST := Lib.hid (HSE.out.trans (show _ = none by rw [hsub, hadd]))
      clear hsub hadd hfre hfi
      go_wp2_with fail
      ((with_reducible refine (HFR.out _).mono ?_); rintro e w5 ⟨rfl, rfl⟩)
      have HE := Lib.hid (fun n : Nat => rprdP_no (HI.out.2.2.1.trans (prodD_no HLT.out HST.out)) (HBX.out n))
      go_wp2
      go_ret3
      exact HE.out _
     | some im =>
      cases hfim : finB im with
      | true =>
       have r5 := fun W : World => run_float_arith (P := Tryz.prog) W .sub 61 .f64 p1 p2 re hsub
       have HFR := Lib.hid (refFin_any re (Format.sub_lt _ hsub))
       rw [hfre] at HFR
       have r6 := fun W : World => run_float_arith (P := Tryz.prog) W .add 61 .f64 p3 p4 im hadd
       have HFI := Lib.hid (refFin_any im (Format.add_lt _ hadd))
       rw [hfim] at HFI
       have HST := Lib.hid (HSE.out.trans (show _ = none by rw [hsub, hadd]; dsimp only; rw [if_neg (by rw [hfre, hfim]; simp)]))
       clear hsub hadd hfre hfim
       go_wp2_with fail
       ((with_reducible refine (HFR.out _).mono ?_); rintro e w5 ⟨rfl, rfl⟩)
       have HE := Lib.hid (fun n : Nat => rprdP_no (HI.out.2.2.1.trans (prodD_no HLT.out HST.out)) (HBX.out n))
       go_wp2
       go_ret3
       exact HE.out _
      | false =>
       have r5 := fun W : World => run_float_arith (P := Tryz.prog) W .sub 61 .f64 p1 p2 re hsub
       have HFR := Lib.hid (refFin_any re (Format.sub_lt _ hsub))
       rw [hfre] at HFR
       have r6 := fun W : World => run_float_arith (P := Tryz.prog) W .add 61 .f64 p3 p4 im hadd
       have HFI := Lib.hid (refFin_any im (Format.add_lt _ hadd))
       rw [hfim] at HFI
       have HST := Lib.hid (HSE.out.trans (show _ = none by rw [hsub, hadd]; dsimp only; rw [if_neg (by rw [hfre, hfim]; simp)]))
       clear hsub hadd hfre hfim
       go_wp2_with fail
       ((with_reducible refine (HFR.out _).mono ?_); rintro e w5 ⟨rfl, rfl⟩)
       have HE := Lib.hid (fun n : Nat => rprdP_no (HI.out.2.2.1.trans (prodD_no HLT.out HST.out)) (HBX.out n))
       go_wp2
       go_ret3
       exact HE.out _
  ·obtain rfl : k = qs.length := by omega
   have HE := Lib.hid (rprdP_ok (HI.out.2.2.1.trans (prodD_end qs a b)) HI.out.2.2.2)
   have HP1 := Lib.hid (rplus_norm a HI.out.1.2)
   have HP2 := Lib.hid (rplus_norm b HI.out.2.1.2)
   go_wp2_with fail
   ((with_reducible refine (HP1.out _).mono ?_); rintro e w5 ⟨rfl, rfl⟩)
   go_wp2_with fail
   ((with_reducible refine (HP2.out _).mono ?_); rintro e w6 ⟨rfl, rfl⟩)
   go_wp2
   go_ret3
   exact HE.out
end Nd
end Go.Proofs.YtbajkglacfheiaaGreatDoor
