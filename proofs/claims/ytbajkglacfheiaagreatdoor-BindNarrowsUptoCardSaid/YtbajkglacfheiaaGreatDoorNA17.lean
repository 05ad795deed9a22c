/-
  Walks of package node: a Ref's Sort and Len. Two trees alike, in plain terms; slices.Equal of two rows of keys. Walks of package node: a Ref's Same.
  Walks of package bind: number, whole: a number as a kind of whole number.
-/
import Derived.Test.YtbajkglacfheiaaGreatDoorNA16
import Derived.Test.YtbajkglacfheiaaGreatDoorNA6
import Derived.Test.YtbajkglacfheiaaGreatDoorNA15
import Derived.Deep.RegionHeldLaw
import Derived.BigQuiet
set_option linter.unusedVariables false
set_option linter.unusedSimpArgs false
set_option maxRecDepth 100000
set_option maxHeartbeats 16000000
namespace Go.Proofs.YtbajkglacfheiaaGreatDoor
open Go.RowKit Mem
namespace Nd

def Tr.srt : Tr → Nat
 | .null => 1
 | .flag _ => 2
 | .num _ => 3
 | .text _ => 4
 | .list _ => 5
 | .obj _ _ => 6
def IntP (n : Int) (w : World) (e : Ending) (w' : World) : Prop := e = .returned (.int .i64 n) ∧ Below w.heap.size w w'
theorem ms_null (fuel : Nat) (nm : String) (hnm : nm = itemM 1) (W : World) : (method (fuel + 1) 195 (.agg #[]) nm).run Tryz.prog W = .ok (282, (.agg #[])) W := by
 subst hnm
 kernel_rfl
theorem sf_null (w : World) : Calls Tryz.prog 282 #[(.agg #[])] w (IntP 1 w) := by
 go_enter Tryz.func282, Tryz.ntmps282
 go_wp2
 go_ret
 exact ⟨rfl, (Below.refl _ _).alloc (Nat.le_refl _) _⟩
theorem st_null (w : World) : Calls Tryz.prog 41 #[.agg #[.iface 195 (.agg #[])]] w (IntP 1 w) := by
 go_enter Tryz.func41, Tryz.ntmps41
 go_wp2_with fail
 rw [ms_null _ _ ?nm]
 case nm => kernel_rfl
 go_wp2_with fail
 ((with_reducible refine (sf_null _).mono ?_); rintro e w1 ⟨rfl, hb1⟩)
 have hbw := ((Below.refl w.heap.size w).alloc (Nat.le_refl _) (.cells #[.iface 195 (.agg #[])] 58)).trans (hb1.mono (by simp))
 clear hb1
 go_wp2
 go_ret
 exact ⟨rfl, hbw⟩
theorem ms_flag (fuel : Nat) (b : Bool) (nm : String) (hnm : nm = itemM 1) (W : World) : (method (fuel + 1) 196 (.bool b) nm).run Tryz.prog W = .ok (284, (.bool b)) W := by
 subst hnm
 kernel_rfl
theorem sf_flag (b : Bool) (w : World) : Calls Tryz.prog 284 #[(.bool b)] w (IntP 2 w) := by
 go_enter Tryz.func284, Tryz.ntmps284
 go_wp2
 go_ret
 exact ⟨rfl, Below.refl _ _⟩
theorem st_flag (b : Bool) (w : World) : Calls Tryz.prog 41 #[.agg #[.iface 196 (.bool b)]] w (IntP 2 w) := by
 go_enter Tryz.func41, Tryz.ntmps41
 go_wp2_with fail
 rw [ms_flag _ b _ ?nm]
 case nm => kernel_rfl
 go_wp2_with fail
 ((with_reducible refine (sf_flag b _).mono ?_); rintro e w1 ⟨rfl, hb1⟩)
 have hbw := ((Below.refl w.heap.size w).alloc (Nat.le_refl _) (.cells #[.iface 196 (.bool b)] 58)).trans (hb1.mono (by simp))
 clear hb1
 go_wp2
 go_ret
 exact ⟨rfl, hbw⟩
theorem ms_num (fuel : Nat) (x : Nat) (nm : String) (hnm : nm = itemM 1) (W : World) : (method (fuel + 1) 140 (.float .f64 x) nm).run Tryz.prog W = .ok (272, (.float .f64 x)) W := by
 subst hnm
 kernel_rfl
theorem sf_num (x : Nat) (w : World) : Calls Tryz.prog 272 #[(.float .f64 x)] w (IntP 3 w) := by
 go_enter Tryz.func272, Tryz.ntmps272
 go_wp2
 go_ret
 exact ⟨rfl, Below.refl _ _⟩
theorem st_num (x : Nat) (w : World) : Calls Tryz.prog 41 #[.agg #[.iface 140 (.float .f64 x)]] w (IntP 3 w) := by
 go_enter Tryz.func41, Tryz.ntmps41
 go_wp2_with fail
 rw [ms_num _ x _ ?nm]
 case nm => kernel_rfl
 go_wp2_with fail
 ((with_reducible refine (sf_num x _).mono ?_); rintro e w1 ⟨rfl, hb1⟩)
 have hbw := ((Below.refl w.heap.size w).alloc (Nat.le_refl _) (.cells #[.iface 140 (.float .f64 x)] 58)).trans (hb1.mono (by simp))
 clear hb1
 go_wp2
 go_ret
 exact ⟨rfl, hbw⟩
theorem ms_text (fuel : Nat) (s : ByteArray) (nm : String) (hnm : nm = itemM 1) (W : World) : (method (fuel + 1) 199 (.string s) nm).run Tryz.prog W = .ok (286, (.string s)) W := by
 subst hnm
 kernel_rfl
theorem sf_text (s : ByteArray) (w : World) : Calls Tryz.prog 286 #[(.string s)] w (IntP 4 w) := by
 go_enter Tryz.func286, Tryz.ntmps286
 go_wp2
 go_ret
 exact ⟨rfl, Below.refl _ _⟩
theorem st_text (s : ByteArray) (w : World) : Calls Tryz.prog 41 #[.agg #[.iface 199 (.string s)]] w (IntP 4 w) := by
 go_enter Tryz.func41, Tryz.ntmps41
 go_wp2_with fail
 rw [ms_text _ s _ ?nm]
 case nm => kernel_rfl
 go_wp2_with fail
 ((with_reducible refine (sf_text s _).mono ?_); rintro e w1 ⟨rfl, hb1⟩)
 have hbw := ((Below.refl w.heap.size w).alloc (Nat.le_refl _) (.cells #[.iface 199 (.string s)] 58)).trans (hb1.mono (by simp))
 clear hb1
 go_wp2
 go_ret
 exact ⟨rfl, hbw⟩
theorem ms_list (fuel : Nat) (g : Nat) (nm : String) (hnm : nm = itemM 1) (W : World) : (method (fuel + 1) 202 (.pointer (some ⟨g, 0, none⟩)) nm).run Tryz.prog W = .ok (288, (.pointer (some ⟨g, 0, none⟩))) W := by
 subst hnm
 kernel_rfl
theorem sf_list (g : Nat) (w : World) : Calls Tryz.prog 288 #[(.pointer (some ⟨g, 0, none⟩))] w (IntP 5 w) := by
 go_enter Tryz.func288, Tryz.ntmps288
 go_wp2
 go_ret
 exact ⟨rfl, Below.refl _ _⟩
theorem st_list (g : Nat) (w : World) : Calls Tryz.prog 41 #[.agg #[.iface 202 (.pointer (some ⟨g, 0, none⟩))]] w (IntP 5 w) := by
 go_enter Tryz.func41, Tryz.ntmps41
 go_wp2_with fail
 rw [ms_list _ g _ ?nm]
 case nm => kernel_rfl
 go_wp2_with fail
 ((with_reducible refine (sf_list g _).mono ?_); rintro e w1 ⟨rfl, hb1⟩)
 have hbw := ((Below.refl w.heap.size w).alloc (Nat.le_refl _) (.cells #[.iface 202 (.pointer (some ⟨g, 0, none⟩))] 58)).trans (hb1.mono (by simp))
 clear hb1
 go_wp2
 go_ret
 exact ⟨rfl, hbw⟩
theorem ms_obj (fuel : Nat) (g : Nat) (nm : String) (hnm : nm = itemM 1) (W : World) : (method (fuel + 1) 271 (.pointer (some ⟨g, 0, none⟩)) nm).run Tryz.prog W = .ok (313, (.pointer (some ⟨g, 0, none⟩))) W := by
 subst hnm
 kernel_rfl
theorem sf_obj (g : Nat) (w : World) : Calls Tryz.prog 313 #[(.pointer (some ⟨g, 0, none⟩))] w (IntP 6 w) := by
 go_enter Tryz.func313, Tryz.ntmps313
 go_wp2
 go_ret
 exact ⟨rfl, Below.refl _ _⟩
theorem st_obj (g : Nat) (w : World) : Calls Tryz.prog 41 #[.agg #[.iface 271 (.pointer (some ⟨g, 0, none⟩))]] w (IntP 6 w) := by
 go_enter Tryz.func41, Tryz.ntmps41
 go_wp2_with fail
 rw [ms_obj _ g _ ?nm]
 case nm => kernel_rfl
 go_wp2_with fail
 ((with_reducible refine (sf_obj g _).mono ?_); rintro e w1 ⟨rfl, hb1⟩)
 have hbw := ((Below.refl w.heap.size w).alloc (Nat.le_refl _) (.cells #[.iface 271 (.pointer (some ⟨g, 0, none⟩))] 58)).trans (hb1.mono (by simp))
 clear hb1
 go_wp2
 go_ret
 exact ⟨rfl, hbw⟩
theorem sort_any (S : Nat → Prop) (t : Tr) (v : Value) (w : World) (h : RdT S w t v) : Calls Tryz.prog 41 #[.agg #[v]] w (IntP (t.srt : Nat) w) := by
 cases t with
 | null =>
  unfold RdT at h
  subst h
  exact st_null w
 | flag b =>
  unfold RdT at h
  subst h
  exact st_flag b w
 | num x =>
  unfold RdT at h
  subst h
  exact st_num x w
 | text s =>
  unfold RdT at h
  subst h
  exact st_text _ w
 | list l =>
  unfold RdT at h
  obtain ⟨g1, A1, c1, vs, rfl, _⟩ := h
  exact st_list g1 w
 | obj ks l =>
  unfold RdT at h
  obtain ⟨g1, K1, dk, A1, c1, vs, rfl, _⟩ := h
  exact st_obj g1 w
theorem len_itv (S : Nat → Prop) (v : Value) (A : Option Addr) (n c : Nat) (w : World) (h : ItV S w v A n c) : Calls Tryz.prog 62 #[.agg #[v]] w (IntP (n : Nat) w) := by
 have hI : ItV S (w.alloc (.cells #[v] 58)) v A n c := h.move fun j hj hs => ⟨hs, Below.heap_alloc w _ j hj⟩
 have HI := Lib.hid hI
 clear hI h
 go_enter Tryz.func62, Tryz.ntmps62
 go_wp2_with fail
 ((with_reducible refine (itm_any HI.out).mono ?_); rintro e w1 ⟨rfl, hb1⟩)
 have hbw := ((Below.refl w.heap.size w).alloc (Nat.le_refl _) (.cells #[v] 58)).trans (hb1.mono (by simp))
 clear hb1
 go_wp2
 go_ret
 exact ⟨rfl, hbw⟩
theorem len_any (S : Nat → Prop) (t : Tr) (v : Value) (w : World) (h : RdT S w t v) : Calls Tryz.prog 62 #[.agg #[v]] w (IntP (t.kids.length : Nat) w) := by
 obtain ⟨A, c, vs, hI, _, _⟩ := h.itv
 exact len_itv S v A _ c w hI
end Nd
end Go.Proofs.YtbajkglacfheiaaGreatDoor
namespace Go.Proofs.YtbajkglacfheiaaGreatDoor
open Go.RowKit Mem
namespace Nd

end Nd
end Go.Proofs.YtbajkglacfheiaaGreatDoor
namespace Go.Proofs.YtbajkglacfheiaaGreatDoor
open Go.RowKit Mem
namespace Nd

abbrev RdA (w : World) (t : Tr) (v : Value) : Prop := RdT (fun _ => True) w t v
theorem rda_below {w w' : World} {t : Tr} {v : Value} (h : RdA w t v) (hb : Below w.heap.size w w') : RdA w' t v := RdT.move (fun j hj hs => ⟨trivial, hb.block j hj⟩) _ _ h
theorem held_take {P : Program} {md : Region.Mode} {ops : Array Oper} {Q : Exit → Act → World → Prop} {S : World → Prop} {i : Nat} {oi : Oper} {v : Value} (d : Option Tmp) {fuel : Nat} {listed : Array Bool} {a : Act} {w : World} (hi : ops[i]? = some oi) (hd : oi.dst = d)
  (hs : Region.noSelect ops = true) (hf : Region.free md ops listed i = true) (hr : (Region.ready md ops listed).contains i = true)
  (hQ : ∀ c a w, Q (.panic c) (a.put d v) w → Q (.panic c) a w) (hy : YieldsIf P ops S oi v a) (hS : S w)
  (h : wpAnyH P md ops Q S fuel (listed.setIfInBounds i true) (a.put d v) w) : wpAnyH P md ops Q S (fuel + 1) listed a w := by
 subst hd
 exact wpAnyH_take hi hs hf hr hQ hy hS h
theorem itv_below {w w' : World} {v : Value} {A : Option Addr} {n c : Nat} (h : ItV (fun _ => True) w v A n c) (hb : Below w.heap.size w w') : ItV (fun _ => True) w' v A n c := h.move fun j hj _ => ⟨trivial, hb.block j hj⟩
theorem row_at {w wr : World} {A : Option Addr} {c : Nat} {vs : List Value} {l : List Tr} {k : Nat} (hrow : Row (fun _ => True) w 56 (.slice A l.length c) vs) (hl : RdL (fun _ => True) w l vs) (hb : Below w.heap.size w wr) (hk : k < l.length) :
  ∃ g o tx ux, A = some ⟨g, o, none⟩ ∧ wr.cell? ⟨g, o + k, none⟩ = some (.iface tx ux) ∧ RdA wr l[k] (.iface tx ux) := by
 obtain ⟨A', c', e', h'⟩ := hrow
 injection e' with e1 e2 e3
 have hvl := hl.len
 rcases h' with ⟨h', _⟩ | ⟨g, o, cur, hA, hSg, hBg, hc⟩
 ·rw [h'] at hvl
  simp at hvl
  omega
 ·have hvk : vs[k]? = some (vs[k]'(by omega)) := List.getElem?_eq_getElem (by omega)
  have hrd := hl.at (List.getElem?_eq_getElem hk) hvk
  obtain ⟨tx, ux, he⟩ := hrd.iface
  refine ⟨g, o, tx, ux, by rw [e1, hA], (hb.cell (p := ⟨g, o + k, none⟩) hBg.lt).trans ((hBg.cell _).trans (hc k _ (by rw [hvk, he]))), ?_⟩
  rw [he] at hrd
  exact rda_below hrd hb
end Nd
end Go.Proofs.YtbajkglacfheiaaGreatDoor
namespace Go.Proofs.YtbajkglacfheiaaGreatDoor
open Go.RowKit Mem
namespace Nd
theorem ref_boxB (w : World) (v : Value) : Below w.heap.size w (w.alloc (.cells #[v] 58)) := (Below.refl _ _).alloc (Nat.le_refl _) _
theorem bnumber_ok (x : Nat) (v : Value) (p : Tx) (w : World) (h : RdA w (.num x) v) : Calls Tryz.prog 82 #[.agg #[v], .string ⟨p.toArray⟩] w fun e w' => e = .returned (.tuple #[.float .f64 x, .nilIface]) ∧ Below w.heap.size w w' := by
 have hx := ref_boxB w v
 have c1 := (Blk.new w 58 #[v]).cell 0
 have HH := Lib.hid (rda_below h hx)
 have HX := Lib.hid hx
 clear h hx
 go_enter Tryz.func82, Tryz.ntmps82
 go_wp2_with fail
 ((with_reducible refine (numr_any (fun _ => True) (.num x) v _ HH.out).mono ?_); rintro e w2 ⟨rfl, hb2⟩)
 dsimp only [Tr.nb, Tr.isNb]
 have HB2 := Lib.hid (HX.out.trans (hb2.mono HX.out.size))
 clear hb2 c1
 go_wp2
 go_ret2
 exact ⟨rfl, HB2.out⟩
theorem bnumber_no (t : Tr) (ht : t.isNb = false) (v : Value) (p : Tx) (w : World) (h : RdA w t v) : Calls Tryz.prog 82 #[.agg #[v], .string ⟨p.toArray⟩] w fun e w' => e = .returned (.tuple #[.float .f64 0, trlV 5 p]) ∧ Below w.heap.size w w' := by
 have hx := ref_boxB w v
 have c1 := (Blk.new w 58 #[v]).cell 0
 have HH := Lib.hid (rda_below h hx)
 have HX := Lib.hid hx
 clear h hx
 go_enter Tryz.func82, Tryz.ntmps82
 go_wp2_with fail
 ((with_reducible refine (numr_any (fun _ => True) t v _ HH.out).mono ?_); rintro e w2 ⟨rfl, hb2⟩)
 rw [ht]
 have HB2 := Lib.hid (HX.out.trans (hb2.mono HX.out.size))
 clear hb2 c1 ht
 go_wp2_with fail
 ((with_reducible refine (btrail_any 5 p _).mono ?_); rintro e w3 ⟨rfl, rfl⟩)
 unfold trlV
 go_wp2
 go_ret2
 exact ⟨rfl, HB2.out⟩
def intV (k : Nat) (z : Int) : Value :=
 if k = 3 then .iface 257 (.int .i8 z) else
 if k = 4 then .iface 127 (.int .i16 z) else
 if k = 5 then .iface 258 (.int .i32 z) else
 if k = 6 then .iface 259 (.int .i64 z) else
 if k = 7 then .iface 260 (.int .u8 z) else
 if k = 8 then .iface 261 (.int .u16 z) else
 if k = 9 then .iface 262 (.int .u32 z) else
 .iface 263 (.int .u64 z)
def BwP (k : Nat) (p : Tx) (r : Int ⊕ Int) (w : World) (e : Ending) (w' : World) : Prop :=
 (match r with
  | .inl n => e = .returned (.tuple #[.nilIface, trlV n p])
  | .inr z => e = .returned (.tuple #[intV k z, .nilIface])) ∧ Below w.heap.size w w'
theorem bwhole3 (x : Nat) (v : Value) (p : Tx) (w : World) (h : RdA w (.num x) v) (hb : x < 18446744073709551616) (hf : finB x = true) : Calls Tryz.prog 88 #[.agg #[v], .string ⟨p.toArray⟩, .int .i64 3] w (BwP 3 p (intD 3 x) w) := by
 have hx := ref_boxB w v
 have c1 := (Blk.new w 58 #[v]).cell 0
 have HH := Lib.hid (rda_below h hx)
 have HX := Lib.hid hx
 have HB := Lib.hid (And.intro hb hf)
 have q1 := err_ne_nil
 have q2 := err_ne_held
 clear h hx hb hf
 obtain ⟨r, hr⟩ : ∃ r, intD 3 x = r := ⟨_, rfl⟩
 have HW := Lib.hid (within3_any x HB.out.1 HB.out.2)
 rw [hr] at HW ⊢
 go_enter Tryz.func88, Tryz.ntmps88
 go_wp2_with fail
 ((with_reducible refine (bnumber_ok x v p _ HH.out).mono ?_); rintro e w2 ⟨rfl, hb2⟩)
 have HB2 := Lib.hid (HX.out.trans (hb2.mono HX.out.size))
 clear hb2 c1 hr
 go_wp2_with fail
 ((with_reducible refine (HW.out _).mono ?_); rintro e w3 ⟨he, rfl⟩)
 cases r with
 | inl n =>
  obtain rfl := he
  unfold errN
  go_wp2_with fail
  ((with_reducible refine (btrail_any n p _).mono ?_); rintro e w3 ⟨rfl, rfl⟩)
  unfold trlV
  go_wp2
  go_ret2
  exact ⟨rfl, HB2.out⟩
 | inr z =>
  obtain rfl := he
  go_wp2
  go_ret2
  exact ⟨rfl, HB2.out⟩
theorem bwhole4 (x : Nat) (v : Value) (p : Tx) (w : World) (h : RdA w (.num x) v) (hb : x < 18446744073709551616) (hf : finB x = true) : Calls Tryz.prog 88 #[.agg #[v], .string ⟨p.toArray⟩, .int .i64 4] w (BwP 4 p (intD 4 x) w) := by
 have hx := ref_boxB w v
 have c1 := (Blk.new w 58 #[v]).cell 0
 have HH := Lib.hid (rda_below h hx)
 have HX := Lib.hid hx
 have HB := Lib.hid (And.intro hb hf)
 have q1 := err_ne_nil
 have q2 := err_ne_held
 clear h hx hb hf
 obtain ⟨r, hr⟩ : ∃ r, intD 4 x = r := ⟨_, rfl⟩
 have HW := Lib.hid (within4_any x HB.out.1 HB.out.2)
 rw [hr] at HW ⊢
 go_enter Tryz.func88, Tryz.ntmps88
 go_wp2_with fail
 ((with_reducible refine (bnumber_ok x v p _ HH.out).mono ?_); rintro e w2 ⟨rfl, hb2⟩)
 have HB2 := Lib.hid (HX.out.trans (hb2.mono HX.out.size))
 clear hb2 c1 hr
 go_wp2_with fail
 ((with_reducible refine (HW.out _).mono ?_); rintro e w3 ⟨he, rfl⟩)
 cases r with
 | inl n =>
  obtain rfl := he
  unfold errN
  go_wp2_with fail
  ((with_reducible refine (btrail_any n p _).mono ?_); rintro e w3 ⟨rfl, rfl⟩)
  unfold trlV
  go_wp2
  go_ret2
  exact ⟨rfl, HB2.out⟩
 | inr z =>
  obtain rfl := he
  go_wp2
  go_ret2
  exact ⟨rfl, HB2.out⟩
theorem bwhole5 (x : Nat) (v : Value) (p : Tx) (w : World) (h : RdA w (.num x) v) (hb : x < 18446744073709551616) (hf : finB x = true) : Calls Tryz.prog 88 #[.agg #[v], .string ⟨p.toArray⟩, .int .i64 5] w (BwP 5 p (intD 5 x) w) := by
 have hx := ref_boxB w v
 have c1 := (Blk.new w 58 #[v]).cell 0
 have HH := Lib.hid (rda_below h hx)
 have HX := Lib.hid hx
 have HB := Lib.hid (And.intro hb hf)
 have q1 := err_ne_nil
 have q2 := err_ne_held
 clear h hx hb hf
 obtain ⟨r, hr⟩ : ∃ r, intD 5 x = r := ⟨_, rfl⟩
 have HW := Lib.hid (within5_any x HB.out.1 HB.out.2)
 rw [hr] at HW ⊢
 go_enter Tryz.func88, Tryz.ntmps88
 go_wp2_with fail
 ((with_reducible refine (bnumber_ok x v p _ HH.out).mono ?_); rintro e w2 ⟨rfl, hb2⟩)
 have HB2 := Lib.hid (HX.out.trans (hb2.mono HX.out.size))
 clear hb2 c1 hr
 go_wp2_with fail
 ((with_reducible refine (HW.out _).mono ?_); rintro e w3 ⟨he, rfl⟩)
 cases r with
 | inl n =>
  obtain rfl := he
  unfold errN
  go_wp2_with fail
  ((with_reducible refine (btrail_any n p _).mono ?_); rintro e w3 ⟨rfl, rfl⟩)
  unfold trlV
  go_wp2
  go_ret2
  exact ⟨rfl, HB2.out⟩
 | inr z =>
  obtain rfl := he
  go_wp2
  go_ret2
  exact ⟨rfl, HB2.out⟩
theorem bwhole6 (x : Nat) (v : Value) (p : Tx) (w : World) (h : RdA w (.num x) v) (hb : x < 18446744073709551616) (hf : finB x = true) : Calls Tryz.prog 88 #[.agg #[v], .string ⟨p.toArray⟩, .int .i64 6] w (BwP 6 p (intD 6 x) w) := by
 have hx := ref_boxB w v
 have c1 := (Blk.new w 58 #[v]).cell 0
 have HH := Lib.hid (rda_below h hx)
 have HX := Lib.hid hx
 have HB := Lib.hid (And.intro hb hf)
 have q1 := err_ne_nil
 have q2 := err_ne_held
 clear h hx hb hf
 obtain ⟨r, hr⟩ : ∃ r, intD 6 x = r := ⟨_, rfl⟩
 have HW := Lib.hid (within6_any x HB.out.1 HB.out.2)
 rw [hr] at HW ⊢
 go_enter Tryz.func88, Tryz.ntmps88
 go_wp2_with fail
 ((with_reducible refine (bnumber_ok x v p _ HH.out).mono ?_); rintro e w2 ⟨rfl, hb2⟩)
 have HB2 := Lib.hid (HX.out.trans (hb2.mono HX.out.size))
 clear hb2 c1 hr
 go_wp2_with fail
 ((with_reducible refine (HW.out _).mono ?_); rintro e w3 ⟨he, rfl⟩)
 cases r with
 | inl n =>
  obtain rfl := he
  unfold errN
  go_wp2_with fail
  ((with_reducible refine (btrail_any n p _).mono ?_); rintro e w3 ⟨rfl, rfl⟩)
  unfold trlV
  go_wp2
  go_ret2
  exact ⟨rfl, HB2.out⟩
 | inr z =>
  obtain rfl := he
  go_wp2
  go_ret2
  exact ⟨rfl, HB2.out⟩
theorem bwhole7 (x : Nat) (v : Value) (p : Tx) (w : World) (h : RdA w (.num x) v) (hb : x < 18446744073709551616) (hf : finB x = true) : Calls Tryz.prog 88 #[.agg #[v], .string ⟨p.toArray⟩, .int .i64 7] w (BwP 7 p (intD 7 x) w) := by
 have hx := ref_boxB w v
 have c1 := (Blk.new w 58 #[v]).cell 0
 have HH := Lib.hid (rda_below h hx)
 have HX := Lib.hid hx
 have HB := Lib.hid (And.intro hb hf)
 have q1 := err_ne_nil
 have q2 := err_ne_held
 clear h hx hb hf
 obtain ⟨r, hr⟩ : ∃ r, intD 7 x = r := ⟨_, rfl⟩
 have HW := Lib.hid (counted7_any x HB.out.1 HB.out.2)
 rw [hr] at HW ⊢
 go_enter Tryz.func88, Tryz.ntmps88
 go_wp2_with fail
 ((with_reducible refine (bnumber_ok x v p _ HH.out).mono ?_); rintro e w2 ⟨rfl, hb2⟩)
 have HB2 := Lib.hid (HX.out.trans (hb2.mono HX.out.size))
 clear hb2 c1 hr
 go_wp2_with fail
 ((with_reducible refine (HW.out _).mono ?_); rintro e w3 ⟨he, rfl⟩)
 cases r with
 | inl n =>
  obtain rfl := he
  unfold errN
  go_wp2_with fail
  ((with_reducible refine (btrail_any n p _).mono ?_); rintro e w3 ⟨rfl, rfl⟩)
  unfold trlV
  go_wp2
  go_ret2
  exact ⟨rfl, HB2.out⟩
 | inr z =>
  obtain rfl := he
  go_wp2
  go_ret2
  exact ⟨rfl, HB2.out⟩
theorem bwhole8 (x : Nat) (v : Value) (p : Tx) (w : World) (h : RdA w (.num x) v) (hb : x < 18446744073709551616) (hf : finB x = true) : Calls Tryz.prog 88 #[.agg #[v], .string ⟨p.toArray⟩, .int .i64 8] w (BwP 8 p (intD 8 x) w) := by
 have hx := ref_boxB w v
 have c1 := (Blk.new w 58 #[v]).cell 0
 have HH := Lib.hid (rda_below h hx)
 have HX := Lib.hid hx
 have HB := Lib.hid (And.intro hb hf)
 have q1 := err_ne_nil
 have q2 := err_ne_held
 clear h hx hb hf
 obtain ⟨r, hr⟩ : ∃ r, intD 8 x = r := ⟨_, rfl⟩
 have HW := Lib.hid (counted8_any x HB.out.1 HB.out.2)
 rw [hr] at HW ⊢
 go_enter Tryz.func88, Tryz.ntmps88
 go_wp2_with fail
 ((with_reducible refine (bnumber_ok x v p _ HH.out).mono ?_); rintro e w2 ⟨rfl, hb2⟩)
 have HB2 := Lib.hid (HX.out.trans (hb2.mono HX.out.size))
 clear hb2 c1 hr
 go_wp2_with fail
 ((with_reducible refine (HW.out _).mono ?_); rintro e w3 ⟨he, rfl⟩)
 cases r with
 | inl n =>
  obtain rfl := he
  unfold errN
  go_wp2_with fail
  ((with_reducible refine (btrail_any n p _).mono ?_); rintro e w3 ⟨rfl, rfl⟩)
  unfold trlV
  go_wp2
  go_ret2
  exact ⟨rfl, HB2.out⟩
 | inr z =>
  obtain rfl := he
  go_wp2
  go_ret2
  exact ⟨rfl, HB2.out⟩
theorem bwhole9 (x : Nat) (v : Value) (p : Tx) (w : World) (h : RdA w (.num x) v) (hb : x < 18446744073709551616) (hf : finB x = true) : Calls Tryz.prog 88 #[.agg #[v], .string ⟨p.toArray⟩, .int .i64 9] w (BwP 9 p (intD 9 x) w) := by
 have hx := ref_boxB w v
 have c1 := (Blk.new w 58 #[v]).cell 0
 have HH := Lib.hid (rda_below h hx)
 have HX := Lib.hid hx
 have HB := Lib.hid (And.intro hb hf)
 have q1 := err_ne_nil
 have q2 := err_ne_held
 clear h hx hb hf
 obtain ⟨r, hr⟩ : ∃ r, intD 9 x = r := ⟨_, rfl⟩
 have HW := Lib.hid (counted9_any x HB.out.1 HB.out.2)
 rw [hr] at HW ⊢
 go_enter Tryz.func88, Tryz.ntmps88
 go_wp2_with fail
 ((with_reducible refine (bnumber_ok x v p _ HH.out).mono ?_); rintro e w2 ⟨rfl, hb2⟩)
 have HB2 := Lib.hid (HX.out.trans (hb2.mono HX.out.size))
 clear hb2 c1 hr
 go_wp2_with fail
 ((with_reducible refine (HW.out _).mono ?_); rintro e w3 ⟨he, rfl⟩)
 cases r with
 | inl n =>
  obtain rfl := he
  unfold errN
  go_wp2_with fail
  ((with_reducible refine (btrail_any n p _).mono ?_); rintro e w3 ⟨rfl, rfl⟩)
  unfold trlV
  go_wp2
  go_ret2
  exact ⟨rfl, HB2.out⟩
 | inr z =>
  obtain rfl := he
  go_wp2
  go_ret2
  exact ⟨rfl, HB2.out⟩
theorem bwhole10 (x : Nat) (v : Value) (p : Tx) (w : World) (h : RdA w (.num x) v) (hb : x < 18446744073709551616) (hf : finB x = true) : Calls Tryz.prog 88 #[.agg #[v], .string ⟨p.toArray⟩, .int .i64 10] w (BwP 10 p (intD 10 x) w) := by
 have hx := ref_boxB w v
 have c1 := (Blk.new w 58 #[v]).cell 0
 have HH := Lib.hid (rda_below h hx)
 have HX := Lib.hid hx
 have HB := Lib.hid (And.intro hb hf)
 have q1 := err_ne_nil
 have q2 := err_ne_held
 clear h hx hb hf
 obtain ⟨r, hr⟩ : ∃ r, intD 10 x = r := ⟨_, rfl⟩
 have HW := Lib.hid (counted10_any x HB.out.1 HB.out.2)
 rw [hr] at HW ⊢
 go_enter Tryz.func88, Tryz.ntmps88
 go_wp2_with fail
 ((with_reducible refine (bnumber_ok x v p _ HH.out).mono ?_); rintro e w2 ⟨rfl, hb2⟩)
 have HB2 := Lib.hid (HX.out.trans (hb2.mono HX.out.size))
 clear hb2 c1 hr
 go_wp2_with fail
 ((with_reducible refine (HW.out _).mono ?_); rintro e w3 ⟨he, rfl⟩)
 cases r with
 | inl n =>
  obtain rfl := he
  unfold errN
  go_wp2_with fail
  ((with_reducible refine (btrail_any n p _).mono ?_); rintro e w3 ⟨rfl, rfl⟩)
  unfold trlV
  go_wp2
  go_ret2
  exact ⟨rfl, HB2.out⟩
 | inr z =>
  obtain rfl := he
  go_wp2
  go_ret2
  exact ⟨rfl, HB2.out⟩
theorem bwhole_no (k : Int) (t : Tr) (ht : t.isNb = false) (v : Value) (p : Tx) (w : World) (h : RdA w t v) : Calls Tryz.prog 88 #[.agg #[v], .string ⟨p.toArray⟩, .int .i64 k] w fun e w' => e = .returned (.tuple #[.nilIface, trlV 5 p]) ∧ Below w.heap.size w w' := by
 have hx := ref_boxB w v
 have c1 := (Blk.new w 58 #[v]).cell 0
 have HH := Lib.hid (rda_below h hx)
 have HX := Lib.hid hx
 have HT := Lib.hid ht
 have q2 := err_ne_held
 clear h hx ht
 go_enter Tryz.func88, Tryz.ntmps88
 go_wp2_with fail
 ((with_reducible refine (bnumber_no t HT.out v p _ HH.out).mono ?_); rintro e w2 ⟨rfl, hb2⟩)
 have HB2 := Lib.hid (HX.out.trans (hb2.mono HX.out.size))
 clear hb2 c1
 unfold trlV
 go_wp2
 go_ret2
 exact ⟨rfl, HB2.out⟩
theorem bwhole_k (k : Nat) (h3 : 3 ≤ k) (h10 : k ≤ 10) (x : Nat) (v : Value) (p : Tx) (w : World) (h : RdA w (.num x) v) (hb : x < 18446744073709551616) (hf : finB x = true) : Calls Tryz.prog 88 #[.agg #[v], .string ⟨p.toArray⟩, .int .i64 (k : Int)] w (BwP k p (intD k x) w) := by
 rcases (by omega : k = 3 ∨ k = 4 ∨ k = 5 ∨ k = 6 ∨ k = 7 ∨ k = 8 ∨ k = 9 ∨ k = 10) with rfl | rfl | rfl | rfl | rfl | rfl | rfl | rfl
 ·exact bwhole3 x v p w h hb hf
 ·exact bwhole4 x v p w h hb hf
 ·exact bwhole5 x v p w h hb hf
 ·exact bwhole6 x v p w h hb hf
 ·exact bwhole7 x v p w h hb hf
 ·exact bwhole8 x v p w h hb hf
 ·exact bwhole9 x v p w h hb hf
 ·exact bwhole10 x v p w h hb hf
end Nd
end Go.Proofs.YtbajkglacfheiaaGreatDoor
