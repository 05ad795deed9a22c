/-
  Walks of package node: a Ref's Sort and Len.
  Two trees alike, in plain terms; slices.Equal of two rows of keys.
  Walks of package node: a Ref's Same.
-/
import Derived.Test.YtbajkglacfheiaaGreatDoorGH
import Derived.Test.YtbajkglacfheiaaGreatDoorShelf
import Derived.Deep.RegionHeldLaw
import Derived.BigQuiet
namespace Go.Proofs.YtbajkglacfheiaaGreatDoor
open Go.RowKit Mem
set_option linter.unusedVariables false
namespace Nd

def Tr.srt : Tr → Nat
  | .null => 1
  | .flag _ => 2
  | .num _ => 3
  | .text _ => 4
  | .list _ => 5
  | .obj _ _ => 6
def IntP (n : Int) (w : World) (e : Ending) (w' : World) : Prop := e = .returned (.int .i64 n) ∧ Below w.heap.size w w'
set_option maxRecDepth 100000 in
theorem ms_null (fuel : Nat) (nm : String) (hnm : nm = itemM 1) (W : World) : (method (fuel + 1) 195 (.agg #[]) nm).run Tryz.prog W = .ok (282, (.agg #[])) W := by
  subst hnm
  kernel_rfl
theorem sf_null (w : World) : Calls Tryz.prog 282 #[(.agg #[])] w (IntP 1 w) := by
  go_enter Tryz.func282, Tryz.ntmps282
  go_wp2
  go_ret
  exact ⟨rfl, (Below.refl _ _).alloc (Nat.le_refl _) _⟩
set_option maxRecDepth 100000 in
set_option maxHeartbeats 4000000 in
theorem st_null (w : World) : Calls Tryz.prog 41 #[.agg #[.iface 195 (.agg #[])]] w (IntP 1 w) := by
  go_enter Tryz.func41, Tryz.ntmps41
  go_wp2_with fail
  rw [ms_null _ _ ?nm]
  case nm => kernel_rfl
  go_wp2_with fail
  ((with_reducible refine (sf_null _).mono ?_); rintro e w1 ⟨rfl, hb1⟩)
  have hbw := ((Below.refl w.heap.size w).alloc (Nat.le_refl _) (.cells #[.iface 195 (.agg #[])] 58)).trans (hb1.mono (by simp))
  clear hb1
  go_wp2
  go_ret
  exact ⟨rfl, hbw⟩
set_option maxRecDepth 100000 in
theorem ms_flag (fuel : Nat) (b : Bool) (nm : String) (hnm : nm = itemM 1) (W : World) : (method (fuel + 1) 196 (.bool b) nm).run Tryz.prog W = .ok (284, (.bool b)) W := by
  subst hnm
  kernel_rfl
theorem sf_flag (b : Bool) (w : World) : Calls Tryz.prog 284 #[(.bool b)] w (IntP 2 w) := by
  go_enter Tryz.func284, Tryz.ntmps284
  go_wp2
  go_ret
  exact ⟨rfl, Below.refl _ _⟩
set_option maxRecDepth 100000 in
set_option maxHeartbeats 4000000 in
theorem st_flag (b : Bool) (w : World) : Calls Tryz.prog 41 #[.agg #[.iface 196 (.bool b)]] w (IntP 2 w) := by
  go_enter Tryz.func41, Tryz.ntmps41
  go_wp2_with fail
  rw [ms_flag _ b _ ?nm]
  case nm => kernel_rfl
  go_wp2_with fail
  ((with_reducible refine (sf_flag b _).mono ?_); rintro e w1 ⟨rfl, hb1⟩)
  have hbw := ((Below.refl w.heap.size w).alloc (Nat.le_refl _) (.cells #[.iface 196 (.bool b)] 58)).trans (hb1.mono (by simp))
  clear hb1
  go_wp2
  go_ret
  exact ⟨rfl, hbw⟩
set_option maxRecDepth 100000 in
theorem ms_num (fuel : Nat) (x : Nat) (nm : String) (hnm : nm = itemM 1) (W : World) : (method (fuel + 1) 140 (.float .f64 x) nm).run Tryz.prog W = .ok (272, (.float .f64 x)) W := by
  subst hnm
  kernel_rfl
theorem sf_num (x : Nat) (w : World) : Calls Tryz.prog 272 #[(.float .f64 x)] w (IntP 3 w) := by
  go_enter Tryz.func272, Tryz.ntmps272
  go_wp2
  go_ret
  exact ⟨rfl, Below.refl _ _⟩
set_option maxRecDepth 100000 in
set_option maxHeartbeats 4000000 in
theorem st_num (x : Nat) (w : World) : Calls Tryz.prog 41 #[.agg #[.iface 140 (.float .f64 x)]] w (IntP 3 w) := by
  go_enter Tryz.func41, Tryz.ntmps41
  go_wp2_with fail
  rw [ms_num _ x _ ?nm]
  case nm => kernel_rfl
  go_wp2_with fail
  ((with_reducible refine (sf_num x _).mono ?_); rintro e w1 ⟨rfl, hb1⟩)
  have hbw := ((Below.refl w.heap.size w).alloc (Nat.le_refl _) (.cells #[.iface 140 (.float .f64 x)] 58)).trans (hb1.mono (by simp))
  clear hb1
  go_wp2
  go_ret
  exact ⟨rfl, hbw⟩
set_option maxRecDepth 100000 in
theorem ms_text (fuel : Nat) (s : ByteArray) (nm : String) (hnm : nm = itemM 1) (W : World) : (method (fuel + 1) 199 (.string s) nm).run Tryz.prog W = .ok (286, (.string s)) W := by
  subst hnm
  kernel_rfl
theorem sf_text (s : ByteArray) (w : World) : Calls Tryz.prog 286 #[(.string s)] w (IntP 4 w) := by
  go_enter Tryz.func286, Tryz.ntmps286
  go_wp2
  go_ret
  exact ⟨rfl, Below.refl _ _⟩
set_option maxRecDepth 100000 in
set_option maxHeartbeats 4000000 in
theorem st_text (s : ByteArray) (w : World) : Calls Tryz.prog 41 #[.agg #[.iface 199 (.string s)]] w (IntP 4 w) := by
  go_enter Tryz.func41, Tryz.ntmps41
  go_wp2_with fail
  rw [ms_text _ s _ ?nm]
  case nm => kernel_rfl
  go_wp2_with fail
  ((with_reducible refine (sf_text s _).mono ?_); rintro e w1 ⟨rfl, hb1⟩)
  have hbw := ((Below.refl w.heap.size w).alloc (Nat.le_refl _) (.cells #[.iface 199 (.string s)] 58)).trans (hb1.mono (by simp))
  clear hb1
  go_wp2
  go_ret
  exact ⟨rfl, hbw⟩
set_option maxRecDepth 100000 in
theorem ms_list (fuel : Nat) (g : Nat) (nm : String) (hnm : nm = itemM 1) (W : World) : (method (fuel + 1) 202 (.pointer (some ⟨g, 0, none⟩)) nm).run Tryz.prog W = .ok (288, (.pointer (some ⟨g, 0, none⟩))) W := by
  subst hnm
  kernel_rfl
theorem sf_list (g : Nat) (w : World) : Calls Tryz.prog 288 #[(.pointer (some ⟨g, 0, none⟩))] w (IntP 5 w) := by
  go_enter Tryz.func288, Tryz.ntmps288
  go_wp2
  go_ret
  exact ⟨rfl, Below.refl _ _⟩
set_option maxRecDepth 100000 in
set_option maxHeartbeats 4000000 in
theorem st_list (g : Nat) (w : World) : Calls Tryz.prog 41 #[.agg #[.iface 202 (.pointer (some ⟨g, 0, none⟩))]] w (IntP 5 w) := by
  go_enter Tryz.func41, Tryz.ntmps41
  go_wp2_with fail
  rw [ms_list _ g _ ?nm]
  case nm => kernel_rfl
  go_wp2_with fail
  ((with_reducible refine (sf_list g _).mono ?_); rintro e w1 ⟨rfl, hb1⟩)
  have hbw := ((Below.refl w.heap.size w).alloc (Nat.le_refl _) (.cells #[.iface 202 (.pointer (some ⟨g, 0, none⟩))] 58)).trans (hb1.mono (by simp))
  clear hb1
  go_wp2
  go_ret
  exact ⟨rfl, hbw⟩
set_option maxRecDepth 100000 in
theorem ms_obj (fuel : Nat) (g : Nat) (nm : String) (hnm : nm = itemM 1) (W : World) : (method (fuel + 1) 271 (.pointer (some ⟨g, 0, none⟩)) nm).run Tryz.prog W = .ok (313, (.pointer (some ⟨g, 0, none⟩))) W := by
  subst hnm
  kernel_rfl
theorem sf_obj (g : Nat) (w : World) : Calls Tryz.prog 313 #[(.pointer (some ⟨g, 0, none⟩))] w (IntP 6 w) := by
  go_enter Tryz.func313, Tryz.ntmps313
  go_wp2
  go_ret
  exact ⟨rfl, Below.refl _ _⟩
set_option maxRecDepth 100000 in
set_option maxHeartbeats 4000000 in
theorem st_obj (g : Nat) (w : World) : Calls Tryz.prog 41 #[.agg #[.iface 271 (.pointer (some ⟨g, 0, none⟩))]] w (IntP 6 w) := by
  go_enter Tryz.func41, Tryz.ntmps41
  go_wp2_with fail
  rw [ms_obj _ g _ ?nm]
  case nm => kernel_rfl
  go_wp2_with fail
  ((with_reducible refine (sf_obj g _).mono ?_); rintro e w1 ⟨rfl, hb1⟩)
  have hbw := ((Below.refl w.heap.size w).alloc (Nat.le_refl _) (.cells #[.iface 271 (.pointer (some ⟨g, 0, none⟩))] 58)).trans (hb1.mono (by simp))
  clear hb1
  go_wp2
  go_ret
  exact ⟨rfl, hbw⟩
theorem sort_nil (w : World) : Calls Tryz.prog 41 #[.agg #[.nilIface]] w (IntP 0 w) := by
  go_enter Tryz.func41, Tryz.ntmps41
  go_wp2
  go_ret
  exact ⟨rfl, (Below.refl _ _).alloc (Nat.le_refl _) _⟩
theorem sort_any (S : Nat → Prop) (t : Tr) (v : Value) (w : World) (h : RdT S w t v) : Calls Tryz.prog 41 #[.agg #[v]] w (IntP (t.srt : Nat) w) := by
  cases t with
  | null =>
    unfold RdT at h
    subst h
    exact st_null w
  | flag b =>
    unfold RdT at h
    subst h
    exact st_flag b w
  | num x =>
    unfold RdT at h
    subst h
    exact st_num x w
  | text s =>
    unfold RdT at h
    subst h
    exact st_text _ w
  | list l =>
    unfold RdT at h
    obtain ⟨g1, A1, c1, vs, rfl, _⟩ := h
    exact st_list g1 w
  | obj ks l =>
    unfold RdT at h
    obtain ⟨g1, K1, dk, A1, c1, vs, rfl, _⟩ := h
    exact st_obj g1 w
set_option maxRecDepth 100000 in
set_option maxHeartbeats 4000000 in
theorem len_itv (S : Nat → Prop) (v : Value) (A : Option Addr) (n c : Nat) (w : World) (h : ItV S w v A n c) : Calls Tryz.prog 62 #[.agg #[v]] w (IntP (n : Nat) w) := by
  have hI : ItV S (w.alloc (.cells #[v] 58)) v A n c := h.move fun j hj hs => ⟨hs, Below.heap_alloc w _ j hj⟩
  have HI := Lib.hid hI
  clear hI h
  go_enter Tryz.func62, Tryz.ntmps62
  go_wp2_with fail
  ((with_reducible refine (itm_any HI.out).mono ?_); rintro e w1 ⟨rfl, hb1⟩)
  have hbw := ((Below.refl w.heap.size w).alloc (Nat.le_refl _) (.cells #[v] 58)).trans (hb1.mono (by simp))
  clear hb1
  go_wp2
  go_ret
  exact ⟨rfl, hbw⟩
theorem len_any (S : Nat → Prop) (t : Tr) (v : Value) (w : World) (h : RdT S w t v) : Calls Tryz.prog 62 #[.agg #[v]] w (IntP (t.kids.length : Nat) w) := by
  obtain ⟨A, c, vs, hI, _, _⟩ := h.itv
  exact len_itv S v A _ c w hI
theorem tnl_4 (W : World) : (Instr.typeAssert .nilIface 56 202 true).run Tryz.prog W = .ok (.tuple #[.pointer none, .bool false]) W := by kernel_rfl
theorem tnl_5 (W : World) : (Instr.typeAssert .nilIface 56 271 true).run Tryz.prog W = .ok (.tuple #[.pointer none, .bool false]) W := by kernel_rfl
set_option maxRecDepth 100000 in
set_option maxHeartbeats 4000000 in
theorem itm_nil (w : World) : Calls Tryz.prog 113 #[.agg #[.nilIface]] w fun e w' => e = .returned (.slice none 0 0) ∧ Below w.heap.size w w' := by
  have h4 := tnl_4
  have h5 := tnl_5
  go_enter Tryz.func113, Tryz.ntmps113
  go_wp2
  go_ret
  exact ⟨rfl, (Below.refl _ _).alloc (Nat.le_refl _) _⟩
set_option maxRecDepth 100000 in
set_option maxHeartbeats 4000000 in
theorem key_nil (w : World) : Calls Tryz.prog 141 #[.agg #[.nilIface]] w fun e w' => e = .returned (.slice none 0 0) ∧ Below w.heap.size w w' := by
  have h5 := tnl_5
  go_enter Tryz.func141, Tryz.ntmps141
  go_wp2
  go_ret
  exact ⟨rfl, (Below.refl _ _).alloc (Nat.le_refl _) _⟩
theorem len_nil (w : World) : Calls Tryz.prog 62 #[.agg #[.nilIface]] w (IntP 0 w) := by
  go_enter Tryz.func62, Tryz.ntmps62
  go_wp2_with fail
  ((with_reducible refine (itm_nil _).mono ?_); rintro e w1 ⟨rfl, hb1⟩)
  have hbw := ((Below.refl w.heap.size w).alloc (Nat.le_refl _) (.cells #[.nilIface] 58)).trans (hb1.mono (by simp))
  clear hb1
  go_wp2
  go_ret
  exact ⟨rfl, hbw⟩
end Nd
end Go.Proofs.YtbajkglacfheiaaGreatDoor
namespace Go.Proofs.YtbajkglacfheiaaGreatDoor
open Go.RowKit Mem
set_option linter.unusedVariables false
namespace Nd

mutual
def eqT : Tr → Tr → Bool
  | .null, u => match u with | .null => true | _ => false
  | .flag a, u => match u with | .flag b => a == b | _ => false
  | .num x, u => match u with | .num y => Ieee.double.order x y == some .eq | _ => false
  | .text s, u => match u with | .text t => decide (s = t) | _ => false
  | .list l, u => match u with | .list m => eqL l m | _ => false
  | .obj ks l, u => match u with | .obj js m => decide (ks = js) && eqL l m | _ => false
def eqL : List Tr → List Tr → Bool
  | [], m => m.isEmpty
  | t :: l, m => match m with | u :: m => eqT t u && eqL l m | [] => false
end
theorem eqL_iff : ∀ l m : List Tr, eqL l m = true ↔ l.length = m.length ∧ ∀ j (h1 : j < l.length) (h2 : j < m.length), eqT l[j] m[j] = true
  | [], m => by
    cases m with
    | nil => simp [eqL]
    | cons u m => simp [eqL]
  | t :: l, m => by
    cases m with
    | nil => simp [eqL]
    | cons u m =>
      simp only [eqL, Bool.and_eq_true, eqL_iff l m]
      constructor
      · rintro ⟨h1, h2, h3⟩
        refine ⟨by simp [h2], fun j hj hk => ?_⟩
        cases j with
        | zero => exact h1
        | succ j => exact h3 j (by simpa using hj) (by simpa using hk)
      · rintro ⟨h1, h2⟩
        refine ⟨h2 0 (by simp) (by simp), by simpa using h1, fun j hj hk => h2 (j + 1) (by simpa using hj) (by simpa using hk)⟩
theorem eqT_head {t u : Tr} (h : eqT t u = true) : t.srt = u.srt ∧ t.kids.length = u.kids.length ∧ t.kn = u.kn := by
  cases t <;> cases u <;> simp only [eqT, Bool.false_eq_true] at h <;> simp [Tr.srt, Tr.kids, Tr.kn]
  · exact ((eqL_iff _ _).1 h).1
  · simp only [Bool.and_eq_true, decide_eq_true_eq] at h
    exact ⟨((eqL_iff _ _).1 h.2).1, h.1⟩
theorem eqT_refl (t : Tr) : t.Ok → eqT t t = true := by
  induction t using Tr.ind with
  | h0 => exact fun _ => by simp [eqT]
  | h1 b => exact fun _ => by simp [eqT]
  | h2 x =>
    intro h
    unfold Tr.Ok at h
    have hf : x % 9223372036854775808 < 9218868437227405312 := by simpa [finB] using h.1
    simp only [eqT]
    rw [order_self (by omega)]
    rfl
  | h3 s => exact fun _ => by simp [eqT]
  | h4 l ih =>
    intro h
    unfold Tr.Ok at h
    simp only [eqT]
    exact (eqL_iff l l).2 ⟨rfl, fun j h1 _ => ih _ (List.getElem_mem h1) ((okl_iff l).1 h _ (List.getElem_mem h1)).1⟩
  | h5 ks l ih =>
    intro h
    unfold Tr.Ok at h
    simp only [eqT, decide_true, Bool.true_and]
    exact (eqL_iff l l).2 ⟨rfl, fun j h1 _ => ih _ (List.getElem_mem h1) ((okl_iff l).1 h.2.2.2 _ (List.getElem_mem h1)).1⟩
def bsOf (ks : List Tx) : List ByteArray := ks.map fun k => ⟨k.toArray⟩
theorem bsOf_inj {a b : List Tx} (h : bsOf a = bsOf b) : a = b := by
  unfold bsOf at h
  refine (List.map_inj_right (f := fun k : Tx => (⟨k.toArray⟩ : ByteArray)) ?_).1 h
  intro x y h
  have := congrArg (fun b : ByteArray => b.data.toList) h
  simpa using this
end Nd
end Go.Proofs.YtbajkglacfheiaaGreatDoor
namespace Go.Proofs.YtbajkglacfheiaaGreatDoor
open Go.RowKit Mem
set_option linter.unusedVariables false
set_option linter.unusedSimpArgs false
namespace Nd

abbrev RdA (w : World) (t : Tr) (v : Value) : Prop := RdT (fun _ => True) w t v
theorem RdT.toA {S : Nat → Prop} {w : World} {t : Tr} {v : Value} (h : RdT S w t v) : RdA w t v := RdT.move (fun j hj hs => ⟨trivial, rfl⟩) _ _ h
theorem rda_below {w w' : World} {t : Tr} {v : Value} (h : RdA w t v) (hb : Below w.heap.size w w') : RdA w' t v := RdT.move (fun j hj hs => ⟨trivial, hb.block j hj⟩) _ _ h
/-- two boxes lie as they lay -/
def Two (b2 b3 : Nat) (x y : Value) (W0 W : World) : Prop := W.cell? ⟨b2, 0, none⟩ = some x ∧ W.cell? ⟨b3, 0, none⟩ = some y ∧ Below W0.heap.size W0 W
theorem two_below {b2 b3 : Nat} {x y : Value} {W0 W W' : World} (h : W.cell? ⟨b2, 0, none⟩ = some x ∧ W.cell? ⟨b3, 0, none⟩ = some y ∧ Below W0.heap.size W0 W) (hb : Below W.heap.size W W') : W'.cell? ⟨b2, 0, none⟩ = some x ∧ W'.cell? ⟨b3, 0, none⟩ = some y ∧ Below W0.heap.size W0 W' :=
  ⟨((old hb).1 _ _ (World.block_lt_of_cell? _ _ h.1)).trans h.1, ((old hb).1 _ _ (World.block_lt_of_cell? _ _ h.2.1)).trans h.2.1, h.2.2.trans (hb.mono h.2.2.size)⟩
theorem two_boxes (w : World) (ty : TypeId) (a b : Value) : ((w.alloc (.cells #[a] ty)).alloc (.cells #[b] ty)).cell? ⟨w.heap.size, 0, none⟩ = some a ∧ ((w.alloc (.cells #[a] ty)).alloc (.cells #[b] ty)).cell? ⟨w.heap.size + 1, 0, none⟩ = some b ∧ Below w.heap.size w ((w.alloc (.cells #[a] ty)).alloc (.cells #[b] ty)) := by
  have hc2 := (Blk.new w ty #[a])
  have hc3 := (Blk.new (w.alloc (.cells #[a] ty)) ty #[b])
  rw [World.size_alloc] at hc3
  exact ⟨(hc2.alloc _).cell 0, hc3.cell 0, ((Below.refl _ w).alloc (Nat.le_refl _) _).alloc (by simp) _⟩
theorem held_take {P : Program} {md : Region.Mode} {ops : Array Oper} {Q : Exit → Act → World → Prop} {S : World → Prop} {i : Nat} {oi : Oper} {v : Value} (d : Option Tmp) {fuel : Nat} {listed : Array Bool} {a : Act} {w : World} (hi : ops[i]? = some oi) (hd : oi.dst = d)
    (hs : Region.noSelect ops = true) (hf : Region.free md ops listed i = true) (hr : (Region.ready md ops listed).contains i = true)
    (hQ : ∀ c a w, Q (.panic c) (a.put d v) w → Q (.panic c) a w) (hy : YieldsIf P ops S oi v a) (hS : S w)
    (h : wpAnyH P md ops Q S fuel (listed.setIfInBounds i true) (a.put d v) w) : wpAnyH P md ops Q S (fuel + 1) listed a w := by
  subst hd
  exact wpAnyH_take hi hs hf hr hQ hy hS h
theorem itv_below {w w' : World} {v : Value} {A : Option Addr} {n c : Nat} (h : ItV (fun _ => True) w v A n c) (hb : Below w.heap.size w w') : ItV (fun _ => True) w' v A n c := h.move fun j hj _ => ⟨trivial, hb.block j hj⟩
theorem row_at {w wr : World} {A : Option Addr} {c : Nat} {vs : List Value} {l : List Tr} {k : Nat} (hrow : Row (fun _ => True) w 56 (.slice A l.length c) vs) (hl : RdL (fun _ => True) w l vs) (hb : Below w.heap.size w wr) (hk : k < l.length) :
    ∃ g o tx ux, A = some ⟨g, o, none⟩ ∧ wr.cell? ⟨g, o + k, none⟩ = some (.iface tx ux) ∧ RdA wr l[k] (.iface tx ux) := by
  obtain ⟨A', c', e', h'⟩ := hrow
  injection e' with e1 e2 e3
  have hvl := hl.len
  rcases h' with ⟨h', _⟩ | ⟨g, o, cur, hA, hSg, hBg, hc⟩
  · rw [h'] at hvl
    simp at hvl
    omega
  · have hvk : vs[k]? = some (vs[k]'(by omega)) := List.getElem?_eq_getElem (by omega)
    have hrd := hl.at (List.getElem?_eq_getElem hk) hvk
    obtain ⟨tx, ux, he⟩ := hrd.iface
    refine ⟨g, o, tx, ux, by rw [e1, hA], (hb.cell (p := ⟨g, o + k, none⟩) hBg.lt).trans ((hBg.cell _).trans (hc k _ (by rw [hvk, he]))), ?_⟩
    rw [he] at hrd
    exact rda_below hrd hb
end Nd
end Go.Proofs.YtbajkglacfheiaaGreatDoor

