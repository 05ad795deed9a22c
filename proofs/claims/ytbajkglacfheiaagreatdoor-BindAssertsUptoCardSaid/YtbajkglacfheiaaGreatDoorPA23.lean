/-
  Bind of a complex number; the law's single.
  Walks of package bind: Single, told; Flag of a Ref; bound at the small kinds and at floats, said weakly.
  Walk of package bind: lists of bytes, said weakly.
-/
import Derived.Test.YtbajkglacfheiaaGreatDoorPA22
import Derived.Test.YtbajkglacfheiaaGreatDoorPA9
import Derived.Test.YtbajkglacfheiaaGreatDoorPA1
import Derived.Test.YtbajkglacfheiaaGreatDoorPA20
set_option linter.unusedVariables false
set_option linter.unusedSimpArgs false
set_option maxRecDepth 100000
set_option maxHeartbeats 16000000
namespace Go.Proofs.YtbajkglacfheiaaGreatDoor
open Go.RowKit Mem Utf Ref3 Idx Tok TokC Ieee
namespace Nd
def CplP (p : Tx) (u : Tr) (w : World) (e : Ending) (w' : World) : Prop :=
 (match pairD u p with
  | .inl ev => e = .returned (.tuple #[.nilIface, ev])
  | .inr q => e = .returned (.tuple #[.iface 107 (.complex .f64 q.1 q.2), .nilIface])) ∧ Below w.heap.size w w'
theorem cplP_no {u : Tr} {p : Tx} {w w' : World} {ev : Value} (h : pairD u p = .inl ev) (hb : Below w.heap.size w w') : CplP p u w (.returned (.tuple #[.nilIface, ev])) w' := by
 unfold CplP
 rw [h]
 exact ⟨rfl, hb⟩
theorem cplP_ok {u : Tr} {p : Tx} {w w' : World} {a b : Nat} (h : pairD u p = .inr (a, b)) (hb : Below w.heap.size w w') : CplP p u w (.returned (.tuple #[.iface 107 (.complex .f64 a b), .nilIface])) w' := by
 unfold CplP
 rw [h]
 exact ⟨rfl, hb⟩
theorem bcpl_14 (u : Tr) (v : Value) (p : Tx) (hp : p.length ≤ 8388608) (w : World) (h : RdA w u v) (hT : Tab w) : Calls Tryz.prog 85 #[.agg #[v], .string ⟨p.toArray⟩, .int .i64 14] w (CplP p u w) := by
 have q1 := err_ne_nil
 have q2 := err_ne_held
 have hx := ref_boxB w v
 have c1 := (Blk.new w 58 #[v]).cell 0
 have HX := Lib.hid hx
 have HPR := Lib.hid (bpair_any u v p hp _ (rda_below h hx) (hT.next hx))
 clear hx h hT
 go_enter Tryz.func85, Tryz.ntmps85
 go_wp2_with fail
 ((with_reducible refine (HPR.out).mono ?_); intro e w2 hp2)
 unfold PairP at hp2
 cases hpd : pairD u p with
 | inl ev =>
  rw [hpd] at hp2
  obtain ⟨rfl, hb2⟩ := hp2
  have HP := Lib.hid (cplP_no hpd (HX.out.trans (hb2.mono HX.out.size)))
  obtain ⟨TE, UE, rfl⟩ := pairD_form hpd
  clear hpd hb2 c1 HPR
  go_wp2
  go_ret2
  exact HP.out
 | inr q =>
  obtain ⟨a, b⟩ := q
  rw [hpd] at hp2
  obtain ⟨rfl, hb2⟩ := hp2
  have HP := Lib.hid (cplP_ok hpd (HX.out.trans (hb2.mono HX.out.size)))
  clear hpd hb2 c1 HPR
  dsimp only
  go_wp2
  go_ret2
  exact HP.out
theorem ord_self {b : Nat} (hb : b < 18446744073709551616) (hf : finB b = true) : (double.order b b == some .eq) = true := by
 rw [order_eq hb hb hf hf]
 simp
end Nd
end Go.Proofs.YtbajkglacfheiaaGreatDoor
namespace Go.Proofs.YtbajkglacfheiaaGreatDoor
open Go.RowKit Mem Utf Ref3 Idx Tok TokC Ieee
namespace Nd
theorem conv_ff (src dst : TypeId) (s k : FloatKind) (b : Nat) (ne : ¬ s = k) (hs : (Tryz.prog.underlying src).isSome = true) (hd : Tryz.prog.underlying dst = some (.float k)) :
  (∃ r, (k = .f64 → r < 18446744073709551616) ∧ ∀ W, (convert src dst (.float s b)).run Tryz.prog W = .ok (.float k r) W) ∨ (∃ f : World → Nat, (∀ W, k = .f64 → f W < 18446744073709551616) ∧ ∀ W, (convert src dst (.float s b)).run Tryz.prog W = .ok (.float k (f W)) W.drew) := by
 obtain ⟨u, hs'⟩ := Option.isSome_iff_exists.1 hs
 cases he : s.decode b with
 | nan x y =>
  refine .inr ⟨fun W => (Question.nanConv k b).cut (W.tape W.drawn (.nanConv k b)), fun W hk => ?_, fun W => ?_⟩
  ·subst hk
   simp only [Question.cut, Nat.reducePow, Nat.reduceSub]
   omega
  ·cases u <;> simp [convert, run_underlying hs', run_underlying hd, Conv.floatToFloat, ne, he, Question.forced]
 | infinity sg =>
  refine .inl ⟨k.encode (.infinity sg), fun hk => ?_, fun W => ?_⟩
  ·subst hk
   have := encode_wf (k := .f64) (d := .infinity sg)
   simpa [Lit.wf] using this
  ·cases u <;> simp [convert, run_underlying hs', run_underlying hd, Conv.floatToFloat, ne, he]
 | number sg m e =>
  by_cases ho : (k.decode (k.encode (.number sg m e))).isInfinity = true
  ·refine .inr ⟨fun W => (Question.floatToFloat b).cut (W.tape W.drawn (.floatToFloat b)), fun W hk => ?_, fun W => ?_⟩
   ·simp only [Question.cut, Nat.reducePow]
    omega
   ·cases u <;> simp [convert, run_underlying hs', run_underlying hd, Conv.floatToFloat, ne, he, ho, Question.forced]
  ·refine .inl ⟨k.encode (.number sg m e), fun hk => ?_, fun W => ?_⟩
   ·subst hk
    have := encode_wf (k := .f64) (d := .number sg m e)
    simpa [Lit.wf] using this
   ·cases u <;> simp [convert, run_underlying hs', run_underlying hd, Conv.floatToFloat, ne, he, ho]
def Cvs (g : World → World) (W : World) : Prop := g W = W ∨ g W = W.drew
theorem conv32 (x : Nat) : ∃ (f : World → Nat) (g : World → World), (∀ W, Cvs g W) ∧ ∀ W, (convert 61 157 (.float .f64 x)).run Tryz.prog W = .ok (.float .f32 (f W)) (g W) := by
 rcases conv_ff 61 157 .f64 .f32 x (by decide) (by kernel_rfl) (by kernel_rfl) with ⟨r, _, h⟩ | ⟨f, _, h⟩
 ·exact ⟨fun _ => r, id, fun W => .inl rfl, h⟩
 ·exact ⟨f, World.drew, fun W => .inr rfl, h⟩
theorem conv64 (x : Nat) : ∃ (f : World → Nat) (g : World → World), (∀ W, Cvs g W) ∧ (∀ W, f W < 18446744073709551616) ∧ ∀ W, (convert 157 61 (.float .f32 x)).run Tryz.prog W = .ok (.float .f64 (f W)) (g W) := by
 rcases conv_ff 157 61 .f32 .f64 x (by decide) (by kernel_rfl) (by kernel_rfl) with ⟨r, hb, h⟩ | ⟨f, hb, h⟩
 ·exact ⟨fun _ => r, id, fun W => .inl rfl, fun W => hb rfl, h⟩
 ·exact ⟨f, World.drew, fun W => .inr rfl, fun W => hb W rfl, h⟩
theorem cvs_below {g : World → World} {w W : World} (h : Cvs g W) (hb : Below w.heap.size w W) : Below w.heap.size w (g W) := by
 rcases h with h | h
 ·rw [h]; exact hb
 ·rw [h]; exact hb.trans (drewN_below _ 1)
theorem isinf_all {b : Nat} (hb : b < 18446744073709551616) : ∃ v, ∀ w, Calls Tryz.prog 75 #[.float .f64 b, .int .i64 0] w fun e w' => e = .returned (.bool v) ∧ w = w' :=
 ⟨_, fun w => isinf_any b _ _ (low_bits b hb) rfl w⟩
def SngP (w : World) (e : Ending) (w' : World) : Prop := ((∃ y, e = .returned (.tuple #[.float .f32 y, .nilIface])) ∨ e = .returned (.tuple #[.float .f32 0, errN 161])) ∧ Below w.heap.size w w'
theorem ordt3 {x y : Nat} {o : Ordering} (h : (FloatKind.f32.format.order x y == some o) = true) : FloatKind.f32.format.order x y = some o := by simpa using h
theorem ordf3 {x y : Nat} {o : Ordering} (h : (FloatKind.f32.format.order x y == some o) = false) : ¬ FloatKind.f32.format.order x y = some o := by simpa using h
theorem ordn3 {x y : Nat} {o : Ordering} {b : Bool} (h : (FloatKind.f32.format.order x y == some o) = b) : (FloatKind.f32.format.order x y != some o) = !b := by
 rw [← h]
 rfl
theorem single_weak (x : Nat) (w : World) : Calls Tryz.prog 84 #[.float .f64 x] w (SngP w) := by
 obtain ⟨f, g, hg, h1⟩ := conv32 x
 have HGW := Lib.hid (cvs_below (hg w) (Below.refl w.heap.size w))
 clear hg
 go_enter Tryz.func84, Tryz.ntmps84
 go_upto_region 2 with fail
 generalize f w = y at *
 generalize g w = w1 at *
 clear h1
 obtain ⟨f2, g2, hg2, hf2, h2⟩ := conv64 y
 have HG2 := Lib.hid (cvs_below (hg2 w1) HGW.out)
 obtain ⟨v, hv⟩ := isinf_all (hf2 w1)
 have HV := Lib.hid hv
 have HS1 : Hid (SngP w (.returned (.tuple #[.float .f32 0, errN 161])) w1) := Lib.hid ⟨.inr rfl, HGW.out⟩
 have HS2 : Hid (∀ y, SngP w (.returned (.tuple #[.float .f32 y, .nilIface])) (g2 w1)) := Lib.hid fun y => ⟨.inl ⟨y, rfl⟩, HG2.out⟩
 have HS3 : Hid (SngP w (.returned (.tuple #[.float .f32 0, errN 161])) (g2 w1)) := Lib.hid ⟨.inr rfl, HG2.out⟩
 unfold errN at HS1 HS3
 clear hg2 hf2 hv
 cases b1 : (FloatKind.f32.format.order y y == some Ordering.eq) with
 | false =>
  have r1 := ordf3 b1
  have r2 := ordn3 b1
  simp only [Bool.not_false] at r2
  go_wp2
  go_ret2
  exact HS1.out
 | true =>
  have r1 := ordt3 b1
  have r2 := ordn3 b1
  simp only [Bool.not_true] at r2
  go_wp2_with fail
  generalize f2 w1 = z at *
  generalize g2 w1 = w2 at *
  ((with_reducible refine (HV.out _).mono ?_); rintro e w3 ⟨rfl, rfl⟩)
  clear b1 r1 r2 h2
  cases v with
  | true =>
   go_wp2
   go_ret2
   exact HS3.out
  | false =>
   cases b2 : (FloatKind.f32.format.order y 0 == some Ordering.eq) with
   | true =>
    have r3 := ordt3 b2
    go_wp2
    go_ret2
    exact HS2.out 0
   | false =>
    have r3 := ordf3 b2
    go_wp2
    go_ret2
    exact HS2.out y
theorem flagr_null (S : Nat → Prop) (v : Value) (w : World) (h : RdT S w (.null) v) : Calls Tryz.prog 81 #[.agg #[v]] w fun e w' => (∃ x y, e = .returned (.tuple #[.bool x, .bool y])) ∧ Below w.heap.size w w' := by
 unfold RdT at h
 subst h
 have h2 := ta_0_1
 go_enter Tryz.func81, Tryz.ntmps81
 go_wp2
 go_ret2
 exact ⟨⟨_, _, rfl⟩, (Below.refl _ _).alloc (Nat.le_refl _) _⟩
theorem flagr_flag (b : Bool) (S : Nat → Prop) (v : Value) (w : World) (h : RdT S w (.flag b) v) : Calls Tryz.prog 81 #[.agg #[v]] w fun e w' => (∃ x y, e = .returned (.tuple #[.bool x, .bool y])) ∧ Below w.heap.size w w' := by
 unfold RdT at h
 subst h
 have h2 := ta_1_1 b
 go_enter Tryz.func81, Tryz.ntmps81
 go_wp2
 go_ret2
 exact ⟨⟨_, _, rfl⟩, (Below.refl _ _).alloc (Nat.le_refl _) _⟩
theorem flagr_num (x : Nat) (S : Nat → Prop) (v : Value) (w : World) (h : RdT S w (.num x) v) : Calls Tryz.prog 81 #[.agg #[v]] w fun e w' => (∃ x y, e = .returned (.tuple #[.bool x, .bool y])) ∧ Below w.heap.size w w' := by
 unfold RdT at h
 subst h
 have h2 := ta_2_1 x
 go_enter Tryz.func81, Tryz.ntmps81
 go_wp2
 go_ret2
 exact ⟨⟨_, _, rfl⟩, (Below.refl _ _).alloc (Nat.le_refl _) _⟩
theorem flagr_text (s : Tx) (S : Nat → Prop) (v : Value) (w : World) (h : RdT S w (.text s) v) : Calls Tryz.prog 81 #[.agg #[v]] w fun e w' => (∃ x y, e = .returned (.tuple #[.bool x, .bool y])) ∧ Below w.heap.size w w' := by
 unfold RdT at h
 subst h
 have h2 := ta_3_1 ⟨s.toArray⟩
 go_enter Tryz.func81, Tryz.ntmps81
 go_wp2
 go_ret2
 exact ⟨⟨_, _, rfl⟩, (Below.refl _ _).alloc (Nat.le_refl _) _⟩
theorem flagr_list (l : List Tr) (S : Nat → Prop) (v : Value) (w : World) (h : RdT S w (.list l) v) : Calls Tryz.prog 81 #[.agg #[v]] w fun e w' => (∃ x y, e = .returned (.tuple #[.bool x, .bool y])) ∧ Below w.heap.size w w' := by
 unfold RdT at h
 obtain ⟨g1, A1, c1, vs, rfl, hS1, hB1, hR1, hL1⟩ := h
 clear hB1 hR1 hL1
 have h2 := ta_4_1 (some ⟨g1, 0, none⟩)
 go_enter Tryz.func81, Tryz.ntmps81
 go_wp2
 go_ret2
 exact ⟨⟨_, _, rfl⟩, (Below.refl _ _).alloc (Nat.le_refl _) _⟩
theorem flagr_obj (ks : List Tx) (l : List Tr) (S : Nat → Prop) (v : Value) (w : World) (h : RdT S w (.obj ks l) v) : Calls Tryz.prog 81 #[.agg #[v]] w fun e w' => (∃ x y, e = .returned (.tuple #[.bool x, .bool y])) ∧ Below w.heap.size w w' := by
 unfold RdT at h
 obtain ⟨g1, K1, dk, A1, c1, vs, rfl, hS1, hB1, hK1, hR1, hL1⟩ := h
 clear hB1 hR1 hL1 hK1
 have h2 := ta_5_1 (some ⟨g1, 0, none⟩)
 go_enter Tryz.func81, Tryz.ntmps81
 go_wp2
 go_ret2
 exact ⟨⟨_, _, rfl⟩, (Below.refl _ _).alloc (Nat.le_refl _) _⟩
theorem flagr_any (S : Nat → Prop) (t : Tr) (v : Value) (w : World) (h : RdT S w t v) : Calls Tryz.prog 81 #[.agg #[v]] w fun e w' => (∃ x y, e = .returned (.tuple #[.bool x, .bool y])) ∧ Below w.heap.size w w' := by
 cases t with
 | null => exact flagr_null  S v w h
 | flag b => exact flagr_flag b S v w h
 | num x => exact flagr_num x S v w h
 | text s => exact flagr_text s S v w h
 | list l => exact flagr_list l S v w h
 | obj ks l => exact flagr_obj ks l S v w h
def WkP (T : TypeId) (R : Value → Prop) (w : World) (e : Ending) (w' : World) : Prop := ((∃ T' u, e = .returned (.tuple #[.nilIface, .iface T' u])) ∨ ∃ x, e = .returned (.tuple #[.iface T x, .nilIface]) ∧ R x) ∧ Below w.heap.size w w'
theorem wkP_two {T : TypeId} {R : Value → Prop} {w w' : World} {e : Ending} (h : WkP T R w e w') : ∃ a b, e = .returned (.tuple #[a, b]) := by
 rcases h.1 with ⟨T', u, h⟩ | ⟨x, h, _⟩
 ·exact ⟨_, _, h⟩
 ·exact ⟨_, _, h⟩
theorem wkP_err {T : TypeId} {R : Value → Prop} {w w' : World} (n : Int) (p : Tx) (hb : Below w.heap.size w w') : WkP T R w (.returned (.tuple #[.nilIface, trlV n p])) w' := ⟨.inl ⟨_, _, rfl⟩, hb⟩
theorem wkP_ok {T : TypeId} {R : Value → Prop} {w w' : World} {x : Value} (h : R x) (hb : Below w.heap.size w w') : WkP T R w (.returned (.tuple #[.iface T x, .nilIface])) w' := ⟨.inr ⟨x, rfl, h⟩, hb⟩
theorem told_no (v : Value) (T : TypeId) (u : Value) (w : World) : Calls Tryz.prog 83 #[v, .iface T u] w fun e w' => e = .returned (.tuple #[.nilIface, .iface T u]) ∧ w = w' := by
 have q2 := err_ne_held
 go_enter Tryz.func83, Tryz.ntmps83
 go_wp2
 go_ret2
 exact ⟨rfl, rfl⟩
theorem told_yes (v : Value) (w : World) : Calls Tryz.prog 83 #[v, .nilIface] w fun e w' => e = .returned (.tuple #[v, .nilIface]) ∧ w = w' := by
 have q1 := err_ne_nil
 go_enter Tryz.func83, Tryz.ntmps83
 go_wp2
 go_ret2
 exact ⟨rfl, rfl⟩
theorem bnd_1 (u : Tr) (v : Value) (p : Tx) (w : World) (h : RdA w u v) : Calls Tryz.prog 34 #[.agg #[v], .string ⟨p.toArray⟩, .int .i64 1] w (WkP 155 (fun x => x = .agg #[]) w) := by
 have q1 := err_ne_nil
 have q2 := err_ne_held
 have hx := ref_boxB w v
 have c1 := (Blk.new w 58 #[v]).cell 0
 have HX := Lib.hid hx
 have HR := Lib.hid (rda_below h hx)
 clear hx h
 go_enter Tryz.func34, Tryz.ntmps34
 go_wp2_with fail
 ((with_reducible refine (sort_any (fun _ => True) u v _ HR.out).mono ?_); rintro e w2 ⟨rfl, hb2⟩)
 have HB2 := Lib.hid (HX.out.trans (hb2.mono HX.out.size))
 clear hb2 c1
 by_cases hs : u.srt = 1
 ·have hsi : (((u.srt : Nat) : Int) == 1) = true := by rw [hs]; rfl
  have HE : Hid (WkP 155 (fun x => x = .agg #[]) w (.returned (.tuple #[.iface 155 (.agg #[]), .nilIface])) w2) := Lib.hid (wkP_ok rfl HB2.out)
  clear hs
  go_wp2
  go_ret2
  exact HE.out
 ·have hsi : (((u.srt : Nat) : Int) == 1) = false := by simpa using (show ¬ ((u.srt : Nat) : Int) = 1 by omega)
  clear hs
  go_wp2_with fail
  ((with_reducible refine (btrail_any 5 p _).mono ?_); rintro e w3 ⟨rfl, rfl⟩)
  have HE := Lib.hid (wkP_err (T := 155) (R := (fun x => x = .agg #[])) 5 p HB2.out)
  unfold trlV at HE ⊢
  go_wp2
  go_ret2
  exact HE.out
theorem bnd_2 (u : Tr) (v : Value) (p : Tx) (w : World) (h : RdA w u v) : Calls Tryz.prog 34 #[.agg #[v], .string ⟨p.toArray⟩, .int .i64 2] w (WkP 156 (fun _ => True) w) := by
 have q1 := err_ne_nil
 have q2 := err_ne_held
 have hx := ref_boxB w v
 have c1 := (Blk.new w 58 #[v]).cell 0
 have HX := Lib.hid hx
 have HR := Lib.hid (rda_below h hx)
 clear hx h
 go_enter Tryz.func34, Tryz.ntmps34
 go_wp2_with fail
 ((with_reducible refine (flagr_any (fun _ => True) u v _ HR.out).mono ?_); rintro e w2 ⟨⟨x, y, rfl⟩, hb2⟩)
 have HB2 := Lib.hid (HX.out.trans (hb2.mono HX.out.size))
 clear hb2 c1
 cases y with
 | true =>
  have HE : Hid (WkP 156 (fun _ => True) w (.returned (.tuple #[.iface 156 (.bool x), .nilIface])) w2) := Lib.hid (wkP_ok trivial HB2.out)
  go_wp2
  go_ret2
  exact HE.out
 | false =>
  go_wp2_with fail
  ((with_reducible refine (btrail_any 5 p _).mono ?_); rintro e w3 ⟨rfl, rfl⟩)
  have HE := Lib.hid (wkP_err (T := 156) (R := (fun _ => True)) 5 p HB2.out)
  unfold trlV at HE ⊢
  go_wp2
  go_ret2
  exact HE.out
theorem bnd_12 (u : Tr) (v : Value) (p : Tx) (w : World) (h : RdA w u v) : Calls Tryz.prog 34 #[.agg #[v], .string ⟨p.toArray⟩, .int .i64 12] w (WkP 101 (fun x => x = .float .f64 u.nb ∧ u.isNb = true) w) := by
 have q1 := err_ne_nil
 have q2 := err_ne_held
 have hx := ref_boxB w v
 have c1 := (Blk.new w 58 #[v]).cell 0
 have HX := Lib.hid hx
 have HR := Lib.hid (rda_below h hx)
 clear hx h
 go_enter Tryz.func34, Tryz.ntmps34
 go_wp2_with fail
 ((with_reducible refine (bnumber_any u v p _ HR.out).mono ?_); rintro e w2 ⟨he, hb2⟩)
 have HB2 := Lib.hid (HX.out.trans (hb2.mono HX.out.size))
 clear hb2 c1
 cases hnb : u.isNb with
 | false =>
  rw [hnb] at he
  simp only [Bool.false_eq_true, if_false] at he
  obtain rfl := he
  have HE := Lib.hid (wkP_err (T := 101) (R := (fun x => x = .float .f64 u.nb ∧ u.isNb = true)) 5 p HB2.out)
  unfold trlV at HE ⊢
  clear hnb
  go_wp2_with fail
  ((with_reducible refine (told_no _ _ _ _).mono ?_); rintro e w3 ⟨rfl, rfl⟩)
  go_wp2
  go_ret2
  exact HE.out
 | true =>
  rw [hnb] at he
  simp only [if_true] at he
  obtain rfl := he
  have HE : Hid (WkP 101 (fun x => x = .float .f64 u.nb ∧ u.isNb = true) w (.returned (.tuple #[.iface 101 (.float .f64 u.nb), .nilIface])) w2) := Lib.hid (wkP_ok ⟨rfl, hnb⟩ HB2.out)
  clear hnb
  go_wp2_with fail
  ((with_reducible refine (told_yes _ _).mono ?_); rintro e w3 ⟨rfl, rfl⟩)
  go_wp2
  go_ret2
  exact HE.out
theorem bnd_11 (u : Tr) (v : Value) (p : Tx) (w : World) (h : RdA w u v) : Calls Tryz.prog 34 #[.agg #[v], .string ⟨p.toArray⟩, .int .i64 11] w (WkP 158 (fun _ => True) w) := by
 have q1 := err_ne_nil
 have q2 := err_ne_held
 have hx := ref_boxB w v
 have c1 := (Blk.new w 58 #[v]).cell 0
 have HX := Lib.hid hx
 have HR := Lib.hid (rda_below h hx)
 clear hx h
 go_enter Tryz.func34, Tryz.ntmps34
 go_wp2_with fail
 ((with_reducible refine (bnumber_any u v p _ HR.out).mono ?_); rintro e w2 ⟨he, hb2⟩)
 have HB2 := Lib.hid (HX.out.trans (hb2.mono HX.out.size))
 clear hb2 c1
 cases hnb : u.isNb with
 | false =>
  rw [hnb] at he
  simp only [Bool.false_eq_true, if_false] at he
  obtain rfl := he
  have HE := Lib.hid (wkP_err (T := 158) (R := (fun _ => True)) 5 p HB2.out)
  unfold trlV at HE ⊢
  clear hnb
  go_wp2_with fail
  ((with_reducible refine (told_no _ _ _ _).mono ?_); rintro e w3 ⟨rfl, rfl⟩)
  go_wp2
  go_ret2
  exact HE.out
 | true =>
  rw [hnb] at he
  simp only [if_true] at he
  obtain rfl := he
  clear hnb
  go_wp2_with fail
  ((with_reducible refine (single_weak u.nb _).mono ?_); rintro e w3 ⟨he, hb3⟩)
  have HB3 := Lib.hid (HB2.out.trans (hb3.mono HB2.out.size))
  clear hb3
  rcases he with ⟨y, rfl⟩ | rfl
  ·have HE : Hid (WkP 158 (fun _ => True) w (.returned (.tuple #[.iface 158 (.float .f32 y), .nilIface])) w3) := Lib.hid (wkP_ok trivial HB3.out)
   go_wp2
   go_ret2
   exact HE.out
  ·unfold errN
   go_wp2_with fail
   ((with_reducible refine (btrail_any 161 p _).mono ?_); rintro e w4 ⟨rfl, rfl⟩)
   have HE := Lib.hid (wkP_err (T := 158) (R := (fun _ => True)) 161 p HB3.out)
   unfold trlV at HE ⊢
   go_wp2
   go_ret2
   exact HE.out
theorem cpl_13 (u : Tr) (v : Value) (p : Tx) (hp : p.length ≤ 4194304) (w : World) (h : RdA w u v) (hT : Tab w) : Calls Tryz.prog 85 #[.agg #[v], .string ⟨p.toArray⟩, .int .i64 13] w (WkP 161 (fun _ => True) w) := by
 have q1 := err_ne_nil
 have q2 := err_ne_held
 have hx := ref_boxB w v
 have c1 := (Blk.new w 58 #[v]).cell 0
 have HX := Lib.hid hx
 have HPR := Lib.hid (bpair_any u v p (by omega) _ (rda_below h hx) (hT.next hx))
 have HAT0 : Hid (∀ W, Below w.heap.size w W → Calls Tryz.prog 60 #[.string ⟨p.toArray⟩, .int .i64 0] W fun e w' => e = .returned (.string ⟨(atP p 0).toArray⟩) ∧ Below W.heap.size W w') := Lib.hid (fun W hb => bat_any p (by omega) 0 (by omega) W (hT.next hb))
 have HAT1 : Hid (∀ W, Below w.heap.size w W → Calls Tryz.prog 60 #[.string ⟨p.toArray⟩, .int .i64 1] W fun e w' => e = .returned (.string ⟨(atP p 1).toArray⟩) ∧ Below W.heap.size W w') := Lib.hid (fun W hb => bat_any p (by omega) 1 (by omega) W (hT.next hb))
 have HTR := Lib.hid (fun (i : Nat) (W : World) => btrail_any 161 (atP p i) W)
 clear hx h hT
 go_enter Tryz.func85, Tryz.ntmps85
 go_wp2_with fail
 ((with_reducible refine (HPR.out).mono ?_); intro e w2 hp2)
 unfold PairP at hp2
 cases hpd : pairD u p with
 | inl ev =>
  rw [hpd] at hp2
  obtain ⟨rfl, hb2⟩ := hp2
  obtain ⟨TE, UE, rfl⟩ := pairD_form hpd
  have HP : Hid (WkP 161 (fun _ => True) w (.returned (.tuple #[.nilIface, .iface TE UE])) w2) := Lib.hid ⟨.inl ⟨_, _, rfl⟩, HX.out.trans (hb2.mono HX.out.size)⟩
  clear hpd hb2 c1 HPR
  go_wp2
  go_ret2
  exact HP.out
 | inr q =>
  obtain ⟨a, b⟩ := q
  rw [hpd] at hp2
  obtain ⟨rfl, hb2⟩ := hp2
  have HB2 := Lib.hid (HX.out.trans (hb2.mono HX.out.size))
  clear hpd hb2 c1 HPR
  dsimp only
  go_wp2_with fail
  ((with_reducible refine (single_weak a _).mono ?_); rintro e w3 ⟨he, hb3⟩)
  have HB3 := Lib.hid (HB2.out.trans (hb3.mono HB2.out.size))
  clear hb3
  rcases he with ⟨y, rfl⟩ | rfl
  ·go_wp2_with fail
   ((with_reducible refine (single_weak b _).mono ?_); rintro e w4 ⟨he, hb4⟩)
   have HB4 := Lib.hid (HB3.out.trans (hb4.mono HB3.out.size))
   clear hb4
   rcases he with ⟨z, rfl⟩ | rfl
   ·have HE : Hid (WkP 161 (fun _ => True) w (.returned (.tuple #[.iface 161 (.complex .f32 y z), .nilIface])) w4) := Lib.hid (wkP_ok trivial HB4.out)
    go_wp2
    go_ret2
    exact HE.out
   ·unfold errN
    go_wp2_with fail
    ((with_reducible refine (HAT1.out _ HB4.out).mono ?_); rintro e w5 ⟨rfl, hb5⟩)
    have HB5 := Lib.hid (HB4.out.trans (hb5.mono HB4.out.size))
    clear hb5
    go_wp2_with fail
    ((with_reducible refine (HTR.out 1 _).mono ?_); rintro e w6 ⟨rfl, rfl⟩)
    have HE := Lib.hid (wkP_err (T := 161) (R := (fun _ => True)) 161 (atP p 1) HB5.out)
    unfold trlV at HE ⊢
    go_wp2
    go_ret2
    exact HE.out
  ·unfold errN
   go_wp2_with fail
   ((with_reducible refine (HAT0.out _ HB3.out).mono ?_); rintro e w5 ⟨rfl, hb5⟩)
   have HB5 := Lib.hid (HB3.out.trans (hb5.mono HB3.out.size))
   clear hb5
   go_wp2_with fail
   ((with_reducible refine (HTR.out 0 _).mono ?_); rintro e w6 ⟨rfl, rfl⟩)
   have HE := Lib.hid (wkP_err (T := 161) (R := (fun _ => True)) 161 (atP p 0) HB5.out)
   unfold trlV at HE ⊢
   go_wp2
   go_ret2
   exact HE.out
end Nd
end Go.Proofs.YtbajkglacfheiaaGreatDoor
namespace Go.Proofs.YtbajkglacfheiaaGreatDoor
open Go.RowKit Mem Utf Ref3 Idx Tok TokC Ieee
namespace Nd
theorem info_u8B : (Tryz.prog.info? 5).map (fun i => (i.zero, i.size, i.bytes)) = some (some (.int .u8 0), 1, 1) := by kernel_rfl
theorem ta_u8 (v : Value) (W : World) : (Instr.typeAssert (.iface 260 v) 29 260 true).run Tryz.prog W = .ok (.tuple #[v, .bool true]) W := by kernel_rfl
def ByP (w : World) (e : Ending) (w' : World) : Prop := (∃ a b, e = .returned (.tuple #[a, b]) ∧ ((a = .nilIface ∧ ∃ T u, b = .iface T u) ∨ (b = .nilIface ∧ ∃ z, a = .iface 260 (.int .u8 z)))) ∧ Below w.heap.size w w'
theorem bwhole_by (u : Tr) (v : Value) (p : Tx) (w : World) (h : RdA w u v) (ho : u.Ok) : Calls Tryz.prog 88 #[.agg #[v], .string ⟨p.toArray⟩, .int .i64 7] w (ByP w) := by
 refine (bwholeR 7 (by omega) (by omega) u v p w h ho).mono fun e w' hp => ?_
 unfold WholeR at hp
 split at hp
 ·unfold BwP at hp
  obtain ⟨hp, hb⟩ := hp
  split at hp
  ·exact ⟨⟨_, _, hp, .inl ⟨rfl, _, _, rfl⟩⟩, hb⟩
  ·exact ⟨⟨_, _, hp, .inr ⟨rfl, _, rfl⟩⟩, hb⟩
 ·exact ⟨⟨_, _, hp.1, .inl ⟨rfl, _, _, rfl⟩⟩, hp.2⟩
structure ByS (v : Value) (w : World) (k : Nat) (c : Value) (wr : World) : Prop where
 bl : Below w.heap.size w wr
 ref : Blk wr w.heap.size 58 #[v]
 own : ∃ m xs, m ≤ k ∧ wr.ownsRow (w.heap.size + 1) 5 1 c m xs
theorem bys_step {v : Value} {w wr wp w2 : World} {k m : Nat} {c c' : Value} {xs ys : List Value} (h : ByS v w k c wr) (hm : m ≤ k) (ho1 : wr.ownsRow (w.heap.size + 1) 5 1 c m xs) (hwp : Below wr.heap.size wr wp)
  (ho : w2.ownsRow (w.heap.size + 1) 5 1 c' (m + 1) ys) (hg : wp.grownBy w2 c.ownBlock) : ByS v w (k + 1) c' w2 := by
 have hb := h.bl.trans (hwp.mono h.bl.size)
 have hr := h.ref.below hwp h.ref.lt
 have hne : some w.heap.size ≠ c.ownBlock := fun e => by
  have := (ho1.lt _ e.symm).1
  omega
 exact ⟨hb.grown hg (by have := hb.size; omega) fun j hj => by have := (ho1.lt j hj).1; omega, hr.only hg hne, m + 1, ys, by omega, ho⟩
theorem blists_18 (u : Tr) (v : Value) (p : Tx) (hp : p.length ≤ 4194304) (w : World) (h : RdA w u v) (ho : u.Ok) (hf : u.fit = true) (hT : Tab w) : Calls Tryz.prog 87 #[.agg #[v], .string ⟨p.toArray⟩, .int .i64 18] w (WkP 163 (fun _ => True) w) := by
 have q1 := err_ne_nil
 have q2 := err_ne_held
 have q3 := ta_u8
 obtain ⟨i0, hi0, hz0, hz1, hz2⟩ := info_parts info_u8B
 have hx := ref_boxB w v
 have hbx : Blk (w.alloc (.cells #[v] 58)) w.heap.size 58 #[v] := Blk.new w _ _
 have HX := Lib.hid (And.intro hx hbx)
 have c1 : (w.alloc (.cells #[v] 58)).cell? ⟨w.heap.size, 0, none⟩ = some v := hbx.cell 0
 have HR := Lib.hid h
 have HRX := Lib.hid (rda_below h hx)
 have HT := Lib.hid hT
 have hkl := kids_len (fit_le hf).1
 have HKL := Lib.hid hkl
 have HPL := Lib.hid hp
 have HOK := Lib.hid ho
 clear hx hbx h hT hf hkl hp ho
 go_enter Tryz.func87, Tryz.ntmps87
 go_wp2_with fail
 ((with_reducible refine (sort_any (fun _ => True) u v _ HRX.out).mono ?_); rintro e w2 ⟨rfl, hb2⟩)
 have HB2 := Lib.hid (HX.out.1.trans (hb2.mono HX.out.1.size))
 have HX2 := Lib.hid (HX.out.2.below hb2 HX.out.2.lt)
 clear hb2
 by_cases hs : u.srt = 5
 ·have hsi : ((u.srt : Nat) : Int) = 5 := by omega
  rw [hsi]
  have c1 := HX2.out.cell 0
  simp at c1
  clear hs hsi
  go_wp2_with fail
  ((with_reducible refine (len_any (fun _ => True) u v _ (rda_below HR.out HB2.out)).mono ?_); rintro e w3 ⟨rfl, hb3⟩)
  have HB3 := Lib.hid (HB2.out.trans (hb3.mono HB2.out.size))
  have HX3 := Lib.hid (HX2.out.below hb3 HX2.out.lt)
  clear hb3 c1
  go_wp2_with fail
  go_loopw [8, 27] (fun c8 c27 wr => ∃ k : Nat, k ≤ u.kids.length ∧ c27 = .int .i64 (k : Int) ∧ Hid (ByS v w k c8 wr)) (fun _ c27 _ => u.kids.length - (intOf c27).toNat)
  case atStart => exact ⟨0, Nat.zero_le _, rfl, Lib.hid ⟨HB3.out, HX3.out, 0, [], Nat.le_refl _, World.ownsRow_nil _ _ _ _⟩⟩
  case round =>
   obtain ⟨k, hk, rfl, HI⟩ := hrel
   by_cases hlt : k < u.kids.length
   ·have hlti : (k : Int) < (u.kids.length : Int) := by omega
    have c1 := HI.out.ref.cell 0
    simp at c1
    have HLT := Lib.hid hlt
    obtain ⟨m, zs, hmk, hown0⟩ := HI.out.own
    obtain ⟨A, c, rfl⟩ := own_slice hown0
    have HOWN := Lib.hid (And.intro hmk hown0)
    have HAC := Lib.hid (at_any u v k hlt (by have := HKL.out; omega) w wr HR.out HI.out.bl)
    have HKO := Lib.hid ((okl_iff _).1 (kids_ok HOK.out) _ (List.getElem_mem hlt)).1
    have hkb : (k : Int) ≤ 65536 := by have := HKL.out; omega
    clear hk hmk hown0
    go_wp2_with fail
    ((with_reducible refine (HAC.out).mono ?_); rintro e w5 ⟨⟨tx, ux, rfl, hrk⟩, hb5⟩)
    obtain ⟨w6, hw6⟩ : ∃ w6, w5.alloc (.cells #[.iface tx ux] 58) = w6 := ⟨_, rfl⟩
    have hb56 : Below w5.heap.size w5 w6 := by rw [← hw6]; exact (Below.refl _ _).alloc (Nat.le_refl _) _
    have hbk : Below wr.heap.size wr w6 := hb5.trans (hb56.mono hb5.size)
    have hB6 : Blk w6 w5.heap.size 58 #[.iface tx ux] := by rw [← hw6]; exact Blk.new w5 _ _
    have c11 := hB6.cell 0
    have HBK := Lib.hid hbk
    have HB6 := Lib.hid (HI.out.bl.trans (hbk.mono HI.out.bl.size))
    have HRK := Lib.hid (rda_below hrk HB6.out)
    have HG6 := Lib.hid (HT.out.next HB6.out)
    have HAT := Lib.hid (fun (W : World) (hT : Tab W) => bat_any p (by have := HPL.out; omega) k (by have := HLT.out; have := HKL.out; omega) W hT)
    have HNM := Lib.hid (fun (W : World) (hr : RdA W u.kids[k] (.iface tx ux)) => bwhole_by u.kids[k] (.iface tx ux) (atP p k) W hr HKO.out)
    obtain ⟨pk, hpk⟩ : ∃ pk, atP p k = pk := ⟨_, rfl⟩
    rw [hpk] at HAT HNM
    have HWE := Lib.hid hw6
    simp at c11
    clear hb5 hrk hb56 hbk hB6 hpk hw6
    go_upto_region 9 with fail
    rw [HWE.out]
    unfold ByP at HNM
    go_upto_region 14 with fail
    refine wp_region_held_drew (S := (fun w' => w'.cell? ⟨w5.heap.size, 0, none⟩ = some (.iface tx ux) ∧ Below w6.heap.size w6 w')) (by kernel_rfl) ⟨c11, drewN_below _ 1⟩ (fun hHeld => ?_)
    refine held_take (i := 0) (v := ?_) (some 54) rfl rfl (by kernel_rfl) (by kernel_rfl) (by kernel_rfl) (fun _ _ _ h => h) (Or.inl ⟨by rfl, ?_⟩) hHeld ?_
    rotate_left
    ·intro w hSw
     try dsimp only at hSw
     go_simp
     try with_reducible rfl
    simp only [Act.put, List.setIfInBounds_toArray, List.set_cons_zero, List.set_cons_succ]
    refine held_take (i := 1) (v := ?_) (some 55) rfl rfl (by kernel_rfl) (by kernel_rfl) (by kernel_rfl) (fun _ _ _ h => h) (Or.inl ⟨by rfl, ?_⟩) hHeld ?_
    rotate_left
    ·intro w hSw
     try dsimp only at hSw
     go_simp
     try with_reducible rfl
    simp only [Act.put, List.setIfInBounds_toArray, List.set_cons_zero, List.set_cons_succ]
    refine held_take (i := 2) (v := ?_) (some 56) rfl rfl (by kernel_rfl) (by kernel_rfl) (by kernel_rfl) (fun _ _ _ h => h) (Or.inl ⟨by rfl, ?_⟩) hHeld ?_
    rotate_left
    ·intro w hSw
     try dsimp only at hSw
     go_simp
     try with_reducible rfl
    simp only [Act.put, List.setIfInBounds_toArray, List.set_cons_zero, List.set_cons_succ]
    refine wpAnyH_ready (rs := [3]) (by kernel_rfl) (by simp) ?_
    refine AllReadyH.cons rfl (fun K hK => ?_) AllReadyH.nil
    go_simp
    ((with_reducible refine (HAT.out _ (HG6.out.next hHeld.2)).mono ?_); rintro e w2' ⟨rfl, hb2'⟩; dsimp only)
    replace hHeld := held2B hHeld hb2'
    refine hK.out _ _ hHeld (fun _ => ?_)
    clear hK K
    refine wpAnyH_ready (rs := [4]) (by kernel_rfl) (by simp) ?_
    refine AllReadyH.cons rfl (fun K hK => ?_) AllReadyH.nil
    go_simp
    ((with_reducible refine (HNM.out _ (rda_below HRK.out hHeld.2)).mono ?_); rintro e w2' ⟨⟨ra, rb, rfl, hab⟩, hb2'⟩; dsimp only)
    replace hHeld := held2B hHeld hb2'
    refine hK.out _ _ hHeld (fun _ => ?_)
    clear hK K
    refine held_take (i := 5) (v := ?_) (some 53) rfl rfl (by kernel_rfl) (by kernel_rfl) (by kernel_rfl) (fun _ _ _ h => h) (Or.inl ⟨by rfl, ?_⟩) hHeld ?_
    rotate_left
    ·intro w hSw
     try dsimp only at hSw
     go_simp
     try with_reducible rfl
    simp only [Act.put, List.setIfInBounds_toArray, List.set_cons_zero, List.set_cons_succ]
    refine held_take (i := 6) (v := ?_) (some 59) rfl rfl (by kernel_rfl) (by kernel_rfl) (by kernel_rfl) (fun _ _ _ h => h) (Or.inl ⟨by rfl, ?_⟩) hHeld ?_
    rotate_left
    ·intro w hSw
     try dsimp only at hSw
     go_simp
     try with_reducible rfl
    simp only [Act.put, List.setIfInBounds_toArray, List.set_cons_zero, List.set_cons_succ]
    refine held_take (i := 7) (v := ?_) (some 60) rfl rfl (by kernel_rfl) (by kernel_rfl) (by kernel_rfl) (fun _ _ _ h => h) (Or.inl ⟨by rfl, ?_⟩) hHeld ?_
    rotate_left
    ·intro w hSw
     try dsimp only at hSw
     go_simp
     try with_reducible rfl
    simp only [Act.put, List.setIfInBounds_toArray, List.set_cons_zero, List.set_cons_succ]
    refine held_take (i := 8) (v := ?_) (some 15) rfl rfl (by kernel_rfl) (by kernel_rfl) (by kernel_rfl) (fun _ _ _ h => h) (Or.inl ⟨by rfl, ?_⟩) hHeld ?_
    rotate_left
    ·intro w hSw
     try dsimp only at hSw
     go_simp
     try with_reducible rfl
    simp only [Act.put, List.setIfInBounds_toArray, List.set_cons_zero, List.set_cons_succ]
    refine held_take (i := 9) (v := ?_) (some 16) rfl rfl (by kernel_rfl) (by kernel_rfl) (by kernel_rfl) (fun _ _ _ h => h) (Or.inl ⟨by rfl, ?_⟩) hHeld ?_
    rotate_left
    ·intro w hSw
     try dsimp only at hSw
     go_simp
     try with_reducible rfl
    simp only [Act.put, List.setIfInBounds_toArray, List.set_cons_zero, List.set_cons_succ]
    refine wpAnyH_done (by kernel_rfl) ?_ _
    rcases hab with ⟨rfl, TE, UE, rfl⟩ | ⟨rfl, z, rfl⟩
    ·have HE : Hid (WkP 163 (fun _ => True) w (.returned (.tuple #[.nilIface, .iface TE UE])) _) := Lib.hid ⟨.inl ⟨_, _, rfl⟩, HB6.out.trans (hHeld.2.mono HB6.out.size)⟩
     clear hHeld c11 c1
     go_wp2
     go_ret2
     exact HE.out
    ·have HHD := Lib.hid hHeld
     have hbp : Below wr.heap.size wr _ := HBK.out.trans (HHD.out.2.mono HBK.out.size)
     have hown := own_below HOWN.out.2 hbp
     have hblk := HI.out.bl.size
     have hbps := hbp.size
     have HBP := Lib.hid hbp
     have hkl9 : m ≤ 65536 := by have := HOWN.out.1; have := HKL.out; have := HLT.out; omega
     clear hHeld c11 c1 hbp
     go_wp2_with (at_builtin; refine wpList_append_own_at _ rfl _ _ 163 rfl (w.heap.size + 1) 5 i0 _ 1 1 Tryz.underlying163 hi0 hz0 hz1 hz2 rfl (by omega) (.slice A m c) m zs rfl (hown.alloc _) ⟨_, 0, none⟩ 1 1 [.int .u8 z] rfl rfl (one_new _ _ _) (one_cell _ rfl) ?b1 ?b2 ?b3 ?_; (unfold maxLen; omega); omega; (simp; omega); intro v9 w9 hown9 hgr9 hnil9 hat9)
     have HST := Lib.hid (bys_step HI.out HOWN.out.1 HOWN.out.2 (HBP.out.alloc HBP.out.size _) hown9 hgr9)
     clear hown9 hgr9 hnil9 hat9 hown
     go_wp2
     go_roundw
     case rel => exact ⟨k + 1, HLT.out, by go_num, HST⟩
     case measure => have := HLT.out; simp [intOf]; omega
   ·obtain rfl : k = u.kids.length := by omega
    have HE : Hid (WkP 163 (fun _ => True) w (.returned (.tuple #[.iface 163 u8, .nilIface])) wr) := Lib.hid (wkP_ok trivial HI.out.bl)
    go_wp2
    go_ret2
    exact HE.out
 ·have hsi : ((u.srt : Nat) : Int) ≠ 5 := by omega
  have hsb : (((u.srt : Nat) : Int) != 5) = true := by simp; omega
  have HE := Lib.hid (wkP_err (T := 163) (R := (fun _ => True)) 5 p HB2.out)
  clear hs
  go_wp2_with fail
  ((with_reducible refine (btrail_any 5 p _).mono ?_); rintro e w3 ⟨rfl, rfl⟩)
  unfold trlV at HE ⊢
  go_wp2
  go_ret2
  exact HE.out
end Nd
end Go.Proofs.YtbajkglacfheiaaGreatDoor
