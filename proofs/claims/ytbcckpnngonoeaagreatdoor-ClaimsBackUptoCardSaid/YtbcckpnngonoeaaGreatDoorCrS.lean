/-
  Walks of package claims: what reads a text, a time.
-/
import Derived.Test.YtbcckpnngonoeaaGreatDoorCrN
import Derived.Test.YtbcckpnngonoeaaGreatDoorGI
import Derived.Test.YtbcckpnngonoeaaGreatDoorFtB
import Derived.Test.YtbcckpnngonoeaaGreatDoorCvA
import Derived.Laws.Externs
namespace Go.Proofs.YtbcckpnngonoeaaGreatDoor
open Go.RowKit Mem Ref3 Cl
set_option linter.unusedVariables false
set_option linter.unusedSimpArgs false
namespace Nd
/-- a trail, as a value -/
def tlV (x : Int × Txt) : Value := .iface 48 (.agg #[.int .i64 x.1, .string ⟨x.2.toArray⟩])
theorem ctrail_any (n : Int) (p : Txt) (w : World) : Calls Tryz.prog 44 #[.int .i64 n, .string ⟨p.toArray⟩] w fun e w' => e = .returned (tlV (n, p)) ∧ w = w' := by
  go_enter Tryz.func44, Tryz.ntmps44
  go_wp2
  go_ret
  exact ⟨rfl, rfl⟩
theorem ref_box (w : World) (v : Value) : Below w.heap.size w (w.alloc (.cells #[v] 140)) := (Below.refl _ _).alloc (Nat.le_refl _) _
theorem blk_some {w : World} {g : Nat} {ty : TypeId} {cs : Array Value} (h : Blk w g ty cs) {o : Nat} (ho : o < cs.size) : ∃ x, w.cell? ⟨g, o, none⟩ = some x := ⟨cs[o], by rw [h.cell o]; simp [ho]⟩
set_option maxRecDepth 100000 in
set_option maxHeartbeats 4000000 in
theorem ctext_ok (v : Value) (g o : Nat) (ty : TypeId) (cs : Array Value) (p : Txt) (w : World) (s : Txt) (h : RdA w (.text s) v) (hB : Blk w g ty cs) (ho : o < cs.size) :
    Calls Tryz.prog 85 #[.pointer (some ⟨g, o, none⟩), .agg #[v], .string ⟨p.toArray⟩] w fun e w' => e = .returned .nilIface ∧ w.grownBy w' (some g) ∧ Blk w' g ty (cs.setIfInBounds o (.string ⟨s.toArray⟩)) := by
  have hx := ref_box w v
  have c1 := (Blk.new w 140 #[v]).cell 0
  have HB := Lib.hid hB
  have HO := Lib.hid ho
  have HH := Lib.hid (rda_below h hx)
  have HX := Lib.hid hx
  clear hB ho h hx
  go_enter Tryz.func85, Tryz.ntmps85
  go_wp2_with fail
  ((with_reducible refine (textr_any (fun _ => True) (.text s) v _ HH.out).mono ?_); rintro e w2 ⟨rfl, hb2⟩)
  dsimp only [Tr.tx, Tr.isTx]
  have HB2 := Lib.hid (HX.out.trans (hb2.mono HX.out.size))
  obtain ⟨x0, hx0⟩ := blk_some (HB.out.below HB2.out HB.out.lt) HO.out
  have hz0 := (HB.out.below HB2.out HB.out.lt).frozen o
  clear hb2 c1
  go_wp2
  go_ret
  exact ⟨rfl, grown_put (grown_of_below HB2.out (some g)) o _, (HB.out.below HB2.out HB.out.lt).put o _⟩
set_option maxRecDepth 100000 in
set_option maxHeartbeats 4000000 in
theorem ctext_no (v : Value) (g o : Nat) (ty : TypeId) (cs : Array Value) (p : Txt) (w : World) (t : Tr) (ht : t.isTx = false) (h : RdA w t v) (hB : Blk w g ty cs) (ho : o < cs.size) :
    Calls Tryz.prog 85 #[.pointer (some ⟨g, o, none⟩), .agg #[v], .string ⟨p.toArray⟩] w fun e w' => e = .returned (tlV (5, p)) ∧ Below w.heap.size w w' := by
  have hx := ref_box w v
  have c1 := (Blk.new w 140 #[v]).cell 0
  have HB := Lib.hid hB
  have HO := Lib.hid ho
  have HH := Lib.hid (rda_below h hx)
  have HX := Lib.hid hx
  clear hB ho h hx
  go_enter Tryz.func85, Tryz.ntmps85
  go_wp2_with fail
  ((with_reducible refine (textr_any (fun _ => True) t v _ HH.out).mono ?_); rintro e w2 ⟨rfl, hb2⟩)
  rw [ht]
  have HB2 := Lib.hid (HX.out.trans (hb2.mono HX.out.size))
  clear hb2 c1 ht
  go_wp2_with fail
  ((with_reducible refine (ctrail_any 5 p _).mono ?_); rintro e w3 ⟨rfl, rfl⟩)
  go_wp2
  go_ret
  exact ⟨rfl, HB2.out⟩
/-- math's whole part of a finite float -/
theorem toI_number {b m : Nat} {s : Bool} {p : Int} (e : Ieee.double.read b = .number s m p) : Go.Extern.MathFloor.toIntegral "math.archTrunc" .zero #[.float .f64 b] = pure (.float .f64 (FloatKind.f64.encode ((Ieee.Datum.number s m p).integral .zero))) := by
  show (match Ieee.double.read b with | .nan s t => _ | d => pure (Value.float .f64 (FloatKind.f64.encode (d.integral .zero)))) = _
  rw [e]
theorem trunc_run (b : Nat) (hf : finB b = true) (W : World) : (Go.Extern.MathFloor.toIntegral "math.archTrunc" .zero #[.float .f64 b]).run Tryz.prog W = .ok (.float .f64 (truncB b)) W := by
  have hfin : b % 9223372036854775808 < 9218868437227405312 := of_decide_eq_true hf
  obtain ⟨m, p, e, _⟩ := read_fin hfin
  rw [toI_number e]
  unfold truncB
  rw [e]
  rfl
theorem arch_trunc (b : Nat) (hf : finB b = true) (W : World) : (callFunc 146 #[.float .f64 b]).run Tryz.prog W = .ok (.value (.float .f64 (truncB b))) W := by
  rw [@run_callFunc_extern Tryz.prog 146 _ (Go.Extern.MathFloor.toIntegral "math.archTrunc" .zero) Tryz.func146 (by kernel_rfl) (by kernel_rfl) (by kernel_rfl) (by kernel_rfl), trunc_run b hf W]
  rfl
theorem trunc_any (b : Nat) (hf : finB b = true) (w : World) : Calls Tryz.prog 127 #[.float .f64 b] w fun e w' => e = .returned (.float .f64 (truncB b)) ∧ w = w' := by
  have h1 := arch_trunc b hf
  go_enter Tryz.func127, Tryz.ntmps127
  go_wp2
  go_ret
  exact ⟨rfl, rfl⟩
theorem fl_ne (x y : Nat) (W : World) : (binOp .neq 203 (.float .f64 x) (.float .f64 y)).run Tryz.prog W = .ok (.bool (!(Ieee.double.order x y == some .eq))) W := by rfl
theorem fl_lt (x y : Nat) (W : World) : (binOp .lss 203 (.float .f64 x) (.float .f64 y)).run Tryz.prog W = .ok (.bool (Ieee.double.order x y == some .lt)) W := by rfl
theorem fl_gt (x y : Nat) (W : World) : (binOp .gtr 203 (.float .f64 x) (.float .f64 y)).run Tryz.prog W = .ok (.bool (Ieee.double.order x y == some .gt)) W := by rfl
theorem fl_conv (b : Nat) (n : Int) (h : floatToIntVal .f64 b .i64 = some n) (W : World) : (convert 203 2 (.float .f64 b)).run Tryz.prog W = .ok (.int .i64 n) W := run_convert_float_int W 203 2 .f64 .i64 b n (by kernel_rfl) (by kernel_rfl) h
set_option maxRecDepth 100000 in
set_option maxHeartbeats 4000000 in
theorem cmoment_ok (v : Value) (g o : Nat) (ty : TypeId) (cs : Array Value) (p : Txt) (w : World) (x : Nat) (hx64 : x < 18446744073709551616) (hfn : finB x = true) (ht : 0 ≤ timeD x) (h : RdA w (.num x) v) (hB : Blk w g ty cs) (ho : o < cs.size) :
    Calls Tryz.prog 88 #[.pointer (some ⟨g, o, none⟩), .agg #[v], .string ⟨p.toArray⟩] w fun e w' => e = .returned .nilIface ∧ w.grownBy w' (some g) ∧ Blk w' g ty (cs.setIfInBounds o (.int .i64 (timeD x))) := by
  obtain ⟨t1, t2, t3, t4, t5⟩ := time_good hx64 ht
  have HFN := Lib.hid hfn
  have q1 := fl_ne x x
  rw [t2] at q1
  have q2 := fl_lt x 0
  rw [t3] at q2
  have q3 := fl_gt x 4845873199050653695
  rw [t4] at q3
  have q4 := fl_conv x _ t5
  have HT1 := Lib.hid t1
  simp only [beq_self_eq_true, Bool.not_true] at q1
  have r2 : FloatKind.f64.format.order x x = some Ordering.eq := t2
  have r3 : ¬ FloatKind.f64.format.order x 0 = some Ordering.lt := fun h => by
    have h' : Ieee.double.order x 0 = some Ordering.lt := h
    rw [h'] at t3
    cases t3
  have r4 : ¬ FloatKind.f64.format.order x 4845873199050653695 = some Ordering.gt := fun h => by
    have h' : Ieee.double.order x 4845873199050653695 = some Ordering.gt := h
    rw [h'] at t4
    cases t4
  have r5 : (FloatKind.f64.format.order x 0 == some Ordering.lt) = false := t3
  have r6 : (FloatKind.f64.format.order x 4845873199050653695 == some Ordering.gt) = false := t4
  clear t1 t2 t3 t4 t5 hx64 hfn ht
  generalize timeD x = tm at *
  have hx := ref_box w v
  have c1 := (Blk.new w 140 #[v]).cell 0
  have HB := Lib.hid hB
  have HO := Lib.hid ho
  have HH := Lib.hid (rda_below h hx)
  have HX := Lib.hid hx
  clear hB ho h hx
  go_enter Tryz.func88, Tryz.ntmps88
  go_wp2_with fail
  ((with_reducible refine (numr_any (fun _ => True) (.num x) v _ HH.out).mono ?_); rintro e w2 ⟨rfl, hb2⟩)
  dsimp only [Tr.nb, Tr.isNb]
  have HB2 := Lib.hid (HX.out.trans (hb2.mono HX.out.size))
  obtain ⟨x0, hx0⟩ := blk_some (HB.out.below HB2.out HB.out.lt) HO.out
  have hz0 := (HB.out.below HB2.out HB.out.lt).frozen o
  clear hb2 c1
  go_wp2_with fail
  ((with_reducible refine (trunc_any x HFN.out _).mono ?_); rintro e w3 ⟨rfl, rfl⟩)
  rw [HT1.out]
  go_wp2
  go_ret
  exact ⟨rfl, grown_put (grown_of_below HB2.out (some g)) o _, (HB.out.below HB2.out HB.out.lt).put o _⟩
set_option maxRecDepth 100000 in
set_option maxHeartbeats 4000000 in
theorem cmoment_a (v : Value) (g o : Nat) (ty : TypeId) (cs : Array Value) (p : Txt) (w : World) (x : Nat) (hfn : finB x = true) (hq : (Ieee.double.order (truncB x) x == some .eq) = false) (h : RdA w (.num x) v) (hB : Blk w g ty cs) (ho : o < cs.size) :
    Calls Tryz.prog 88 #[.pointer (some ⟨g, o, none⟩), .agg #[v], .string ⟨p.toArray⟩] w fun e w' => e = .returned (tlV (250, p)) ∧ Below w.heap.size w w' := by
  have q1 := fl_ne (truncB x) x
  rw [hq] at q1
  have rq1 : (FloatKind.f64.format.order (truncB x) x == some Ordering.eq) = false := hq
  have sq1 : ¬ FloatKind.f64.format.order (truncB x) x = some Ordering.eq := fun h => by
    have h' : Ieee.double.order (truncB x) x = some Ordering.eq := h
    rw [h'] at hq
    cases hq
  simp only [Bool.not_true, Bool.not_false] at q1
  have HFN := Lib.hid hfn
  clear hfn hq
  have hx := ref_box w v
  have c1 := (Blk.new w 140 #[v]).cell 0
  have HB := Lib.hid hB
  have HO := Lib.hid ho
  have HH := Lib.hid (rda_below h hx)
  have HX := Lib.hid hx
  clear hB ho h hx
  go_enter Tryz.func88, Tryz.ntmps88
  go_wp2_with fail
  ((with_reducible refine (numr_any (fun _ => True) (.num x) v _ HH.out).mono ?_); rintro e w2 ⟨rfl, hb2⟩)
  dsimp only [Tr.nb, Tr.isNb]
  have HB2 := Lib.hid (HX.out.trans (hb2.mono HX.out.size))
  clear hb2 c1
  go_wp2_with fail
  ((with_reducible refine (trunc_any x HFN.out _).mono ?_); rintro e w3 ⟨rfl, rfl⟩)
  go_wp2_with fail
  ((with_reducible refine (ctrail_any 250 p _).mono ?_); rintro e w3 ⟨rfl, rfl⟩)
  go_wp2
  go_ret
  exact ⟨rfl, HB2.out⟩
set_option maxRecDepth 100000 in
set_option maxHeartbeats 4000000 in
theorem cmoment_b (v : Value) (g o : Nat) (ty : TypeId) (cs : Array Value) (p : Txt) (w : World) (x : Nat) (hfn : finB x = true) (hq0 : (Ieee.double.order (truncB x) x == some .eq) = true) (hq : (Ieee.double.order x 0 == some .lt) = true) (h : RdA w (.num x) v) (hB : Blk w g ty cs) (ho : o < cs.size) :
    Calls Tryz.prog 88 #[.pointer (some ⟨g, o, none⟩), .agg #[v], .string ⟨p.toArray⟩] w fun e w' => e = .returned (tlV (250, p)) ∧ Below w.heap.size w w' := by
  have q1 := fl_ne (truncB x) x
  rw [hq0] at q1
  have q2 := fl_lt x 0
  rw [hq] at q2
  have rq1 : FloatKind.f64.format.order (truncB x) x = some Ordering.eq := by
    have h' := beq_iff_eq.1 hq0
    exact h'
  have rq2 : FloatKind.f64.format.order x 0 = some Ordering.lt := by
    have h' := beq_iff_eq.1 hq
    exact h'
  simp only [Bool.not_true, Bool.not_false] at q1
  have HFN := Lib.hid hfn
  clear hfn hq0 hq
  have hx := ref_box w v
  have c1 := (Blk.new w 140 #[v]).cell 0
  have HB := Lib.hid hB
  have HO := Lib.hid ho
  have HH := Lib.hid (rda_below h hx)
  have HX := Lib.hid hx
  clear hB ho h hx
  go_enter Tryz.func88, Tryz.ntmps88
  go_wp2_with fail
  ((with_reducible refine (numr_any (fun _ => True) (.num x) v _ HH.out).mono ?_); rintro e w2 ⟨rfl, hb2⟩)
  dsimp only [Tr.nb, Tr.isNb]
  have HB2 := Lib.hid (HX.out.trans (hb2.mono HX.out.size))
  clear hb2 c1
  go_wp2_with fail
  ((with_reducible refine (trunc_any x HFN.out _).mono ?_); rintro e w3 ⟨rfl, rfl⟩)
  go_wp2_with fail
  ((with_reducible refine (ctrail_any 250 p _).mono ?_); rintro e w3 ⟨rfl, rfl⟩)
  go_wp2
  go_ret
  exact ⟨rfl, HB2.out⟩
set_option maxRecDepth 100000 in
set_option maxHeartbeats 4000000 in
theorem cmoment_c (v : Value) (g o : Nat) (ty : TypeId) (cs : Array Value) (p : Txt) (w : World) (x : Nat) (hfn : finB x = true) (hq0 : (Ieee.double.order (truncB x) x == some .eq) = true) (hq1 : (Ieee.double.order x 0 == some .lt) = false) (hq : (Ieee.double.order x 4845873199050653695 == some .gt) = true) (h : RdA w (.num x) v) (hB : Blk w g ty cs) (ho : o < cs.size) :
    Calls Tryz.prog 88 #[.pointer (some ⟨g, o, none⟩), .agg #[v], .string ⟨p.toArray⟩] w fun e w' => e = .returned (tlV (250, p)) ∧ Below w.heap.size w w' := by
  have q1 := fl_ne (truncB x) x
  rw [hq0] at q1
  have q2 := fl_lt x 0
  rw [hq1] at q2
  have q3 := fl_gt x 4845873199050653695
  rw [hq] at q3
  have rq1 : FloatKind.f64.format.order (truncB x) x = some Ordering.eq := by
    have h' := beq_iff_eq.1 hq0
    exact h'
  have rq2 : (FloatKind.f64.format.order x 0 == some Ordering.lt) = false := hq1
  have sq2 : ¬ FloatKind.f64.format.order x 0 = some Ordering.lt := fun h => by
    have h' : Ieee.double.order x 0 = some Ordering.lt := h
    rw [h'] at hq1
    cases hq1
  have rq3 : FloatKind.f64.format.order x 4845873199050653695 = some Ordering.gt := by
    have h' := beq_iff_eq.1 hq
    exact h'
  simp only [Bool.not_true, Bool.not_false] at q1
  have HFN := Lib.hid hfn
  clear hfn hq0 hq1 hq
  have hx := ref_box w v
  have c1 := (Blk.new w 140 #[v]).cell 0
  have HB := Lib.hid hB
  have HO := Lib.hid ho
  have HH := Lib.hid (rda_below h hx)
  have HX := Lib.hid hx
  clear hB ho h hx
  go_enter Tryz.func88, Tryz.ntmps88
  go_wp2_with fail
  ((with_reducible refine (numr_any (fun _ => True) (.num x) v _ HH.out).mono ?_); rintro e w2 ⟨rfl, hb2⟩)
  dsimp only [Tr.nb, Tr.isNb]
  have HB2 := Lib.hid (HX.out.trans (hb2.mono HX.out.size))
  clear hb2 c1
  go_wp2_with fail
  ((with_reducible refine (trunc_any x HFN.out _).mono ?_); rintro e w3 ⟨rfl, rfl⟩)
  go_wp2_with fail
  ((with_reducible refine (ctrail_any 250 p _).mono ?_); rintro e w3 ⟨rfl, rfl⟩)
  go_wp2
  go_ret
  exact ⟨rfl, HB2.out⟩
set_option maxRecDepth 100000 in
set_option maxHeartbeats 4000000 in
theorem cmoment_no (v : Value) (g o : Nat) (ty : TypeId) (cs : Array Value) (p : Txt) (w : World) (t : Tr) (ht : t.isNb = false) (h : RdA w t v) (hB : Blk w g ty cs) (ho : o < cs.size) :
    Calls Tryz.prog 88 #[.pointer (some ⟨g, o, none⟩), .agg #[v], .string ⟨p.toArray⟩] w fun e w' => e = .returned (tlV (5, p)) ∧ Below w.heap.size w w' := by
  have hx := ref_box w v
  have c1 := (Blk.new w 140 #[v]).cell 0
  have HB := Lib.hid hB
  have HO := Lib.hid ho
  have HH := Lib.hid (rda_below h hx)
  have HX := Lib.hid hx
  clear hB ho h hx
  go_enter Tryz.func88, Tryz.ntmps88
  go_wp2_with fail
  ((with_reducible refine (numr_any (fun _ => True) t v _ HH.out).mono ?_); rintro e w2 ⟨rfl, hb2⟩)
  rw [ht]
  have HB2 := Lib.hid (HX.out.trans (hb2.mono HX.out.size))
  clear hb2 c1 ht
  go_wp2_with fail
  ((with_reducible refine (ctrail_any 5 p _).mono ?_); rintro e w3 ⟨rfl, rfl⟩)
  go_wp2
  go_ret
  exact ⟨rfl, HB2.out⟩
theorem cmoment_bad (v : Value) (g o : Nat) (ty : TypeId) (cs : Array Value) (p : Txt) (w : World) (x : Nat) (hx64 : x < 18446744073709551616) (hz : x ≠ 9223372036854775808) (hfn : finB x = true) (ht : timeD x < 0) (h : RdA w (.num x) v) (hB : Blk w g ty cs) (ho : o < cs.size) :
    Calls Tryz.prog 88 #[.pointer (some ⟨g, o, none⟩), .agg #[v], .string ⟨p.toArray⟩] w fun e w' => e = .returned (tlV (250, p)) ∧ Below w.heap.size w w' := by
  by_cases hq0 : (Ieee.double.order (truncB x) x == some .eq) = true
  · by_cases hq1 : (Ieee.double.order x 0 == some .lt) = true
    · exact cmoment_b v g o ty cs p w x hfn hq0 hq1 h hB ho
    · rw [Bool.not_eq_true] at hq1
      refine cmoment_c v g o ty cs p w x hfn hq0 hq1 ?_ h hB ho
      rcases time_bad hx64 hz hfn ht with h1 | h1 | h1
      · rw [hq0] at h1
        cases h1
      · rw [hq1] at h1
        cases h1
      · exact h1
  · rw [Bool.not_eq_true] at hq0
    exact cmoment_a v g o ty cs p w x hfn hq0 h hB ho
end Nd
end Go.Proofs.YtbcckpnngonoeaaGreatDoor

