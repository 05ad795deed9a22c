/-
  Walks of package node: a Ref's Sort and Len.
  Two trees alike, in plain terms; slices.Equal of two rows of keys.
  Walks of package node: a Ref's Same.
-/
import Derived.Test.YtbcckpnngonoeaaGreatDoorGH
import Derived.Test.YtbcckpnngonoeaaGreatDoorShelf
import Derived.Deep.RegionHeldLaw
import Derived.BigQuiet
namespace Go.Proofs.YtbcckpnngonoeaaGreatDoor
open Go.RowKit Mem
set_option linter.unusedVariables false
namespace Nd

def Tr.srt : Tr → Nat
  | .null => 1
  | .flag _ => 2
  | .num _ => 3
  | .text _ => 4
  | .list _ => 5
  | .obj _ _ => 6
def IntP (n : Int) (w : World) (e : Ending) (w' : World) : Prop := e = .returned (.int .i64 n) ∧ Below w.heap.size w w'
set_option maxRecDepth 100000 in
theorem ms_null (fuel : Nat) (nm : String) (hnm : nm = itemM 1) (W : World) : (method (fuel + 1) 201 (.agg #[]) nm).run Tryz.prog W = .ok (240, (.agg #[])) W := by
  subst hnm
  kernel_rfl
theorem sf_null (w : World) : Calls Tryz.prog 240 #[(.agg #[])] w (IntP 1 w) := by
  go_enter Tryz.func240, Tryz.ntmps240
  go_wp2
  go_ret
  exact ⟨rfl, (Below.refl _ _).alloc (Nat.le_refl _) _⟩
set_option maxRecDepth 100000 in
set_option maxHeartbeats 4000000 in
theorem st_null (w : World) : Calls Tryz.prog 43 #[.agg #[.iface 201 (.agg #[])]] w (IntP 1 w) := by
  go_enter Tryz.func43, Tryz.ntmps43
  go_wp2_with fail
  rw [ms_null _ _ ?nm]
  case nm => kernel_rfl
  go_wp2_with fail
  ((with_reducible refine (sf_null _).mono ?_); rintro e w1 ⟨rfl, hb1⟩)
  have hbw := ((Below.refl w.heap.size w).alloc (Nat.le_refl _) (.cells #[.iface 201 (.agg #[])] 140)).trans (hb1.mono (by simp))
  clear hb1
  go_wp2
  go_ret
  exact ⟨rfl, hbw⟩
set_option maxRecDepth 100000 in
theorem ms_flag (fuel : Nat) (b : Bool) (nm : String) (hnm : nm = itemM 1) (W : World) : (method (fuel + 1) 202 (.bool b) nm).run Tryz.prog W = .ok (242, (.bool b)) W := by
  subst hnm
  kernel_rfl
theorem sf_flag (b : Bool) (w : World) : Calls Tryz.prog 242 #[(.bool b)] w (IntP 2 w) := by
  go_enter Tryz.func242, Tryz.ntmps242
  go_wp2
  go_ret
  exact ⟨rfl, Below.refl _ _⟩
set_option maxRecDepth 100000 in
set_option maxHeartbeats 4000000 in
theorem st_flag (b : Bool) (w : World) : Calls Tryz.prog 43 #[.agg #[.iface 202 (.bool b)]] w (IntP 2 w) := by
  go_enter Tryz.func43, Tryz.ntmps43
  go_wp2_with fail
  rw [ms_flag _ b _ ?nm]
  case nm => kernel_rfl
  go_wp2_with fail
  ((with_reducible refine (sf_flag b _).mono ?_); rintro e w1 ⟨rfl, hb1⟩)
  have hbw := ((Below.refl w.heap.size w).alloc (Nat.le_refl _) (.cells #[.iface 202 (.bool b)] 140)).trans (hb1.mono (by simp))
  clear hb1
  go_wp2
  go_ret
  exact ⟨rfl, hbw⟩
set_option maxRecDepth 100000 in
theorem ms_num (fuel : Nat) (x : Nat) (nm : String) (hnm : nm = itemM 1) (W : World) : (method (fuel + 1) 207 (.float .f64 x) nm).run Tryz.prog W = .ok (244, (.float .f64 x)) W := by
  subst hnm
  kernel_rfl
theorem sf_num (x : Nat) (w : World) : Calls Tryz.prog 244 #[(.float .f64 x)] w (IntP 3 w) := by
  go_enter Tryz.func244, Tryz.ntmps244
  go_wp2
  go_ret
  exact ⟨rfl, Below.refl _ _⟩
set_option maxRecDepth 100000 in
set_option maxHeartbeats 4000000 in
theorem st_num (x : Nat) (w : World) : Calls Tryz.prog 43 #[.agg #[.iface 207 (.float .f64 x)]] w (IntP 3 w) := by
  go_enter Tryz.func43, Tryz.ntmps43
  go_wp2_with fail
  rw [ms_num _ x _ ?nm]
  case nm => kernel_rfl
  go_wp2_with fail
  ((with_reducible refine (sf_num x _).mono ?_); rintro e w1 ⟨rfl, hb1⟩)
  have hbw := ((Below.refl w.heap.size w).alloc (Nat.le_refl _) (.cells #[.iface 207 (.float .f64 x)] 140)).trans (hb1.mono (by simp))
  clear hb1
  go_wp2
  go_ret
  exact ⟨rfl, hbw⟩
set_option maxRecDepth 100000 in
theorem ms_text (fuel : Nat) (s : ByteArray) (nm : String) (hnm : nm = itemM 1) (W : World) : (method (fuel + 1) 209 (.string s) nm).run Tryz.prog W = .ok (246, (.string s)) W := by
  subst hnm
  kernel_rfl
theorem sf_text (s : ByteArray) (w : World) : Calls Tryz.prog 246 #[(.string s)] w (IntP 4 w) := by
  go_enter Tryz.func246, Tryz.ntmps246
  go_wp2
  go_ret
  exact ⟨rfl, Below.refl _ _⟩
set_option maxRecDepth 100000 in
set_option maxHeartbeats 4000000 in
theorem st_text (s : ByteArray) (w : World) : Calls Tryz.prog 43 #[.agg #[.iface 209 (.string s)]] w (IntP 4 w) := by
  go_enter Tryz.func43, Tryz.ntmps43
  go_wp2_with fail
  rw [ms_text _ s _ ?nm]
  case nm => kernel_rfl
  go_wp2_with fail
  ((with_reducible refine (sf_text s _).mono ?_); rintro e w1 ⟨rfl, hb1⟩)
  have hbw := ((Below.refl w.heap.size w).alloc (Nat.le_refl _) (.cells #[.iface 209 (.string s)] 140)).trans (hb1.mono (by simp))
  clear hb1
  go_wp2
  go_ret
  exact ⟨rfl, hbw⟩
set_option maxRecDepth 100000 in
theorem ms_list (fuel : Nat) (g : Nat) (nm : String) (hnm : nm = itemM 1) (W : World) : (method (fuel + 1) 212 (.pointer (some ⟨g, 0, none⟩)) nm).run Tryz.prog W = .ok (248, (.pointer (some ⟨g, 0, none⟩))) W := by
  subst hnm
  kernel_rfl
theorem sf_list (g : Nat) (w : World) : Calls Tryz.prog 248 #[(.pointer (some ⟨g, 0, none⟩))] w (IntP 5 w) := by
  go_enter Tryz.func248, Tryz.ntmps248
  go_wp2
  go_ret
  exact ⟨rfl, Below.refl _ _⟩
set_option maxRecDepth 100000 in
set_option maxHeartbeats 4000000 in
theorem st_list (g : Nat) (w : World) : Calls Tryz.prog 43 #[.agg #[.iface 212 (.pointer (some ⟨g, 0, none⟩))]] w (IntP 5 w) := by
  go_enter Tryz.func43, Tryz.ntmps43
  go_wp2_with fail
  rw [ms_list _ g _ ?nm]
  case nm => kernel_rfl
  go_wp2_with fail
  ((with_reducible refine (sf_list g _).mono ?_); rintro e w1 ⟨rfl, hb1⟩)
  have hbw := ((Below.refl w.heap.size w).alloc (Nat.le_refl _) (.cells #[.iface 212 (.pointer (some ⟨g, 0, none⟩))] 140)).trans (hb1.mono (by simp))
  clear hb1
  go_wp2
  go_ret
  exact ⟨rfl, hbw⟩
set_option maxRecDepth 100000 in
theorem ms_obj (fuel : Nat) (g : Nat) (nm : String) (hnm : nm = itemM 1) (W : World) : (method (fuel + 1) 260 (.pointer (some ⟨g, 0, none⟩)) nm).run Tryz.prog W = .ok (260, (.pointer (some ⟨g, 0, none⟩))) W := by
  subst hnm
  kernel_rfl
theorem sf_obj (g : Nat) (w : World) : Calls Tryz.prog 260 #[(.pointer (some ⟨g, 0, none⟩))] w (IntP 6 w) := by
  go_enter Tryz.func260, Tryz.ntmps260
  go_wp2
  go_ret
  exact ⟨rfl, Below.refl _ _⟩
set_option maxRecDepth 100000 in
set_option maxHeartbeats 4000000 in
theorem st_obj (g : Nat) (w : World) : Calls Tryz.prog 43 #[.agg #[.iface 260 (.pointer (some ⟨g, 0, none⟩))]] w (IntP 6 w) := by
  go_enter Tryz.func43, Tryz.ntmps43
  go_wp2_with fail
  rw [ms_obj _ g _ ?nm]
  case nm => kernel_rfl
  go_wp2_with fail
  ((with_reducible refine (sf_obj g _).mono ?_); rintro e w1 ⟨rfl, hb1⟩)
  have hbw := ((Below.refl w.heap.size w).alloc (Nat.le_refl _) (.cells #[.iface 260 (.pointer (some ⟨g, 0, none⟩))] 140)).trans (hb1.mono (by simp))
  clear hb1
  go_wp2
  go_ret
  exact ⟨rfl, hbw⟩
theorem sort_nil (w : World) : Calls Tryz.prog 43 #[.agg #[.nilIface]] w (IntP 0 w) := by
  go_enter Tryz.func43, Tryz.ntmps43
  go_wp2
  go_ret
  exact ⟨rfl, (Below.refl _ _).alloc (Nat.le_refl _) _⟩
theorem sort_any (S : Nat → Prop) (t : Tr) (v : Value) (w : World) (h : RdT S w t v) : Calls Tryz.prog 43 #[.agg #[v]] w (IntP (t.srt : Nat) w) := by
  cases t with
  | null =>
    unfold RdT at h
    subst h
    exact st_null w
  | flag b =>
    unfold RdT at h
    subst h
    exact st_flag b w
  | num x =>
    unfold RdT at h
    subst h
    exact st_num x w
  | text s =>
    unfold RdT at h
    subst h
    exact st_text _ w
  | list l =>
    unfold RdT at h
    obtain ⟨g1, A1, c1, vs, rfl, _⟩ := h
    exact st_list g1 w
  | obj ks l =>
    unfold RdT at h
    obtain ⟨g1, K1, dk, A1, c1, vs, rfl, _⟩ := h
    exact st_obj g1 w
set_option maxRecDepth 100000 in
set_option maxHeartbeats 4000000 in
theorem len_itv (S : Nat → Prop) (v : Value) (A : Option Addr) (n c : Nat) (w : World) (h : ItV S w v A n c) : Calls Tryz.prog 117 #[.agg #[v]] w (IntP (n : Nat) w) := by
  have hI : ItV S (w.alloc (.cells #[v] 140)) v A n c := h.move fun j hj hs => ⟨hs, Below.heap_alloc w _ j hj⟩
  have HI := Lib.hid hI
  clear hI h
  go_enter Tryz.func117, Tryz.ntmps117
  go_wp2_with fail
  ((with_reducible refine (itm_any HI.out).mono ?_); rintro e w1 ⟨rfl, hb1⟩)
  have hbw := ((Below.refl w.heap.size w).alloc (Nat.le_refl _) (.cells #[v] 140)).trans (hb1.mono (by simp))
  clear hb1
  go_wp2
  go_ret
  exact ⟨rfl, hbw⟩
theorem len_any (S : Nat → Prop) (t : Tr) (v : Value) (w : World) (h : RdT S w t v) : Calls Tryz.prog 117 #[.agg #[v]] w (IntP (t.kids.length : Nat) w) := by
  obtain ⟨A, c, vs, hI, _, _⟩ := h.itv
  exact len_itv S v A _ c w hI
theorem tnl_4 (W : World) : (Instr.typeAssert .nilIface 106 212 true).run Tryz.prog W = .ok (.tuple #[.pointer none, .bool false]) W := by kernel_rfl
theorem tnl_5 (W : World) : (Instr.typeAssert .nilIface 106 260 true).run Tryz.prog W = .ok (.tuple #[.pointer none, .bool false]) W := by kernel_rfl
set_option maxRecDepth 100000 in
set_option maxHeartbeats 4000000 in
theorem itm_nil (w : World) : Calls Tryz.prog 119 #[.agg #[.nilIface]] w fun e w' => e = .returned (.slice none 0 0) ∧ Below w.heap.size w w' := by
  have h4 := tnl_4
  have h5 := tnl_5
  go_enter Tryz.func119, Tryz.ntmps119
  go_wp2
  go_ret
  exact ⟨rfl, (Below.refl _ _).alloc (Nat.le_refl _) _⟩
set_option maxRecDepth 100000 in
set_option maxHeartbeats 4000000 in
theorem key_nil (w : World) : Calls Tryz.prog 101 #[.agg #[.nilIface]] w fun e w' => e = .returned (.slice none 0 0) ∧ Below w.heap.size w w' := by
  have h5 := tnl_5
  go_enter Tryz.func101, Tryz.ntmps101
  go_wp2
  go_ret
  exact ⟨rfl, (Below.refl _ _).alloc (Nat.le_refl _) _⟩
theorem len_nil (w : World) : Calls Tryz.prog 117 #[.agg #[.nilIface]] w (IntP 0 w) := by
  go_enter Tryz.func117, Tryz.ntmps117
  go_wp2_with fail
  ((with_reducible refine (itm_nil _).mono ?_); rintro e w1 ⟨rfl, hb1⟩)
  have hbw := ((Below.refl w.heap.size w).alloc (Nat.le_refl _) (.cells #[.nilIface] 140)).trans (hb1.mono (by simp))
  clear hb1
  go_wp2
  go_ret
  exact ⟨rfl, hbw⟩
end Nd
end Go.Proofs.YtbcckpnngonoeaaGreatDoor
namespace Go.Proofs.YtbcckpnngonoeaaGreatDoor
open Go.RowKit Mem
set_option linter.unusedVariables false
namespace Nd

mutual
def eqT : Tr → Tr → Bool
  | .null, u => match u with | .null => true | _ => false
  | .flag a, u => match u with | .flag b => a == b | _ => false
  | .num x, u => match u with | .num y => Ieee.double.order x y == some .eq | _ => false
  | .text s, u => match u with | .text t => decide (s = t) | _ => false
  | .list l, u => match u with | .list m => eqL l m | _ => false
  | .obj ks l, u => match u with | .obj js m => decide (ks = js) && eqL l m | _ => false
def eqL : List Tr → List Tr → Bool
  | [], m => m.isEmpty
  | t :: l, m => match m with | u :: m => eqT t u && eqL l m | [] => false
end
theorem eqL_iff : ∀ l m : List Tr, eqL l m = true ↔ l.length = m.length ∧ ∀ j (h1 : j < l.length) (h2 : j < m.length), eqT l[j] m[j] = true
  | [], m => by
    cases m with
    | nil => simp [eqL]
    | cons u m => simp [eqL]
  | t :: l, m => by
    cases m with
    | nil => simp [eqL]
    | cons u m =>
      simp only [eqL, Bool.and_eq_true, eqL_iff l m]
      constructor
      · rintro ⟨h1, h2, h3⟩
        refine ⟨by simp [h2], fun j hj hk => ?_⟩
        cases j with
        | zero => exact h1
        | succ j => exact h3 j (by simpa using hj) (by simpa using hk)
      · rintro ⟨h1, h2⟩
        refine ⟨h2 0 (by simp) (by simp), by simpa using h1, fun j hj hk => h2 (j + 1) (by simpa using hj) (by simpa using hk)⟩
theorem eqT_head {t u : Tr} (h : eqT t u = true) : t.srt = u.srt ∧ t.kids.length = u.kids.length ∧ t.kn = u.kn := by
  cases t <;> cases u <;> simp only [eqT, Bool.false_eq_true] at h <;> simp [Tr.srt, Tr.kids, Tr.kn]
  · exact ((eqL_iff _ _).1 h).1
  · simp only [Bool.and_eq_true, decide_eq_true_eq] at h
    exact ⟨((eqL_iff _ _).1 h.2).1, h.1⟩
theorem eqT_refl (t : Tr) : t.Ok → eqT t t = true := by
  induction t using Tr.ind with
  | h0 => exact fun _ => by simp [eqT]
  | h1 b => exact fun _ => by simp [eqT]
  | h2 x =>
    intro h
    unfold Tr.Ok at h
    have hf : x % 9223372036854775808 < 9218868437227405312 := by simpa [finB] using h.1
    simp only [eqT]
    rw [order_self (by omega)]
    rfl
  | h3 s => exact fun _ => by simp [eqT]
  | h4 l ih =>
    intro h
    unfold Tr.Ok at h
    simp only [eqT]
    exact (eqL_iff l l).2 ⟨rfl, fun j h1 _ => ih _ (List.getElem_mem h1) ((okl_iff l).1 h _ (List.getElem_mem h1)).1⟩
  | h5 ks l ih =>
    intro h
    unfold Tr.Ok at h
    simp only [eqT, decide_true, Bool.true_and]
    exact (eqL_iff l l).2 ⟨rfl, fun j h1 _ => ih _ (List.getElem_mem h1) ((okl_iff l).1 h.2.2.2 _ (List.getElem_mem h1)).1⟩
def bsOf (ks : List Tx) : List ByteArray := ks.map fun k => ⟨k.toArray⟩
theorem bsOf_inj {a b : List Tx} (h : bsOf a = bsOf b) : a = b := by
  unfold bsOf at h
  refine (List.map_inj_right (f := fun k : Tx => (⟨k.toArray⟩ : ByteArray)) ?_).1 h
  intro x y h
  have := congrArg (fun b : ByteArray => b.data.toList) h
  simpa using this
theorem keys_equal (ks js : List Tx) (v1 v2 : Value) (w : World) (h1 : RdK w v1 ks) (h2 : RdK w v2 js) (hl : ks.length = js.length) (hn : ks.length ≤ 1048576) :
    Calls Tryz.prog 118 #[v1, v2] w fun e w' => e = .returned (.bool (decide (ks = js))) ∧ Below w.heap.size w w' := by
  obtain ⟨A1, c1, rfl, h1⟩ := h1
  obtain ⟨A2, c2, rfl, h2⟩ := h2
  cases hk : ks with
  | nil =>
    rw [hk] at hl
    have hj : js = [] := List.length_eq_zero_iff.1 hl.symm
    rw [hj]
    refine (Tryz.slices_Equal_string_empty A1 A2 c1 0 c2 w (by omega)).mono ?_
    rintro e w' ⟨rfl, rfl⟩
    exact ⟨rfl, Below.refl _ _⟩
  | cons k0 kr =>
    rw [← hk]
    have hne : ks ≠ [] := by rw [hk]; simp
    have hnj : js ≠ [] := fun e => hne (List.length_eq_zero_iff.1 (by rw [hl, e]; rfl))
    rcases h1 with h1 | ⟨g1, o1, rfl, h1⟩
    · exact absurd h1 hne
    rcases h2 with h2 | ⟨g2, o2, rfl, h2⟩
    · exact absurd h2 hnj
    have hc : ∀ (xs : List Tx) g o, (∀ (j : Nat) (t : Tx), xs[j]? = some t → w.cell? ⟨g, o + j, none⟩ = some (txV t)) → ∀ j, j < (bsOf xs).length → w.cell? ⟨g, o + j, none⟩ = some (.string ((bsOf xs).getD j ByteArray.empty)) := by
      intro xs g o h j hj
      have hjx : j < xs.length := by unfold bsOf at hj; simpa using hj
      rw [h j _ (List.getElem?_eq_getElem hjx)]
      unfold txV bsOf
      rw [List.getD_eq_getElem?_getD, List.getElem?_map, List.getElem?_eq_getElem hjx]
      rfl
    have hb1 : (bsOf ks).length = ks.length := by unfold bsOf; simp
    have hb2 : (bsOf js).length = js.length := by unfold bsOf; simp
    refine (Tryz.slices_Equal_string g1 o1 ks.length c1 g2 o2 js.length c2 (bsOf ks) (bsOf js) w (by omega) (by omega) (by omega) (by omega) (hc ks g1 o1 h1) (hc js g2 o2 h2)).mono ?_
    rintro e w' ⟨rfl, q, rfl⟩
    refine ⟨?_, drewN_below _ _⟩
    rw [List.take_of_length_le (by omega), List.take_of_length_le (by omega)]
    congr 2
    exact decide_eq_decide.2 ⟨bsOf_inj, fun h => by rw [h]⟩
end Nd
end Go.Proofs.YtbcckpnngonoeaaGreatDoor
namespace Go.Proofs.YtbcckpnngonoeaaGreatDoor
open Go.RowKit Mem
set_option linter.unusedVariables false
set_option linter.unusedSimpArgs false
namespace Nd

abbrev RdA (w : World) (t : Tr) (v : Value) : Prop := RdT (fun _ => True) w t v
theorem RdT.toA {S : Nat → Prop} {w : World} {t : Tr} {v : Value} (h : RdT S w t v) : RdA w t v := RdT.move (fun j hj hs => ⟨trivial, rfl⟩) _ _ h
theorem rda_below {w w' : World} {t : Tr} {v : Value} (h : RdA w t v) (hb : Below w.heap.size w w') : RdA w' t v := RdT.move (fun j hj hs => ⟨trivial, hb.block j hj⟩) _ _ h
/-- two boxes lie as they lay -/
def Two (b2 b3 : Nat) (x y : Value) (W0 W : World) : Prop := W.cell? ⟨b2, 0, none⟩ = some x ∧ W.cell? ⟨b3, 0, none⟩ = some y ∧ Below W0.heap.size W0 W
theorem two_below {b2 b3 : Nat} {x y : Value} {W0 W W' : World} (h : W.cell? ⟨b2, 0, none⟩ = some x ∧ W.cell? ⟨b3, 0, none⟩ = some y ∧ Below W0.heap.size W0 W) (hb : Below W.heap.size W W') : W'.cell? ⟨b2, 0, none⟩ = some x ∧ W'.cell? ⟨b3, 0, none⟩ = some y ∧ Below W0.heap.size W0 W' :=
  ⟨((old hb).1 _ _ (World.block_lt_of_cell? _ _ h.1)).trans h.1, ((old hb).1 _ _ (World.block_lt_of_cell? _ _ h.2.1)).trans h.2.1, h.2.2.trans (hb.mono h.2.2.size)⟩
theorem two_boxes (w : World) (ty : TypeId) (a b : Value) : ((w.alloc (.cells #[a] ty)).alloc (.cells #[b] ty)).cell? ⟨w.heap.size, 0, none⟩ = some a ∧ ((w.alloc (.cells #[a] ty)).alloc (.cells #[b] ty)).cell? ⟨w.heap.size + 1, 0, none⟩ = some b ∧ Below w.heap.size w ((w.alloc (.cells #[a] ty)).alloc (.cells #[b] ty)) := by
  have hc2 := (Blk.new w ty #[a])
  have hc3 := (Blk.new (w.alloc (.cells #[a] ty)) ty #[b])
  rw [World.size_alloc] at hc3
  exact ⟨(hc2.alloc _).cell 0, hc3.cell 0, ((Below.refl _ w).alloc (Nat.le_refl _) _).alloc (by simp) _⟩
theorem held_take {P : Program} {md : Region.Mode} {ops : Array Oper} {Q : Exit → Act → World → Prop} {S : World → Prop} {i : Nat} {oi : Oper} {v : Value} (d : Option Tmp) {fuel : Nat} {listed : Array Bool} {a : Act} {w : World} (hi : ops[i]? = some oi) (hd : oi.dst = d)
    (hs : Region.noSelect ops = true) (hf : Region.free md ops listed i = true) (hr : (Region.ready md ops listed).contains i = true)
    (hQ : ∀ c a w, Q (.panic c) (a.put d v) w → Q (.panic c) a w) (hy : YieldsIf P ops S oi v a) (hS : S w)
    (h : wpAnyH P md ops Q S fuel (listed.setIfInBounds i true) (a.put d v) w) : wpAnyH P md ops Q S (fuel + 1) listed a w := by
  subst hd
  exact wpAnyH_take hi hs hf hr hQ hy hS h
set_option maxRecDepth 100000 in
set_option maxHeartbeats 8000000 in
theorem same_ne (t u : Tr) (a b : Value) (w : World) (ht : RdA w t a) (hu : RdA w u b) (hs : t.srt ≠ u.srt) :
    Calls Tryz.prog 68 #[.agg #[a], .agg #[b]] w fun e w' => e = .returned (.bool false) ∧ Below w.heap.size w w' := by
  have hsn : ((t.srt : Int) != (u.srt : Int)) = true := by simp only [bne_iff_ne, ne_eq]; omega
  obtain ⟨c2, c3, hB0⟩ := two_boxes w 140 a b
  have HT1 := rda_below ht hB0
  have HU1 := rda_below hu hB0
  obtain ⟨W0, hW0⟩ : ∃ W0, W0 = (w.alloc (.cells #[a] 140)).alloc (.cells #[b] 140) := ⟨_, rfl⟩
  rw [← hW0] at c2 c3 hB0 HT1 HU1
  have HT := Lib.hid HT1
  have HU := Lib.hid HU1
  clear HT1 HU1
  have hd0 : Below W0.heap.size W0 W0.drew := drewN_below W0 1
  go_enter Tryz.func68, Tryz.ntmps68
  go_upto_region 1 with fail
  rw [← hW0]
  clear hW0
  refine wp_region_held_drew (S := (fun w' => w'.cell? ⟨w.heap.size, 0, none⟩ = some a ∧ w'.cell? ⟨w.heap.size + 1, 0, none⟩ = some b ∧ Below W0.heap.size W0 w')) (by kernel_rfl) ⟨c2, c3, hd0⟩ (fun hHeld => ?_)
  refine held_take (i := 0) (v := ?_) (some 10) rfl rfl (by kernel_rfl) (by kernel_rfl) (by kernel_rfl) (fun _ _ _ h => h) (Or.inl ⟨by rfl, ?_⟩) hHeld ?_
  rotate_left
  · intro w hSw
    try dsimp only at hSw
    go_simp
    try with_reducible rfl
  simp only [Act.put, List.setIfInBounds_toArray, List.set_cons_zero, List.set_cons_succ]
  refine held_take (i := 2) (v := ?_) (some 12) rfl rfl (by kernel_rfl) (by kernel_rfl) (by kernel_rfl) (fun _ _ _ h => h) (Or.inl ⟨by rfl, ?_⟩) hHeld ?_
  rotate_left
  · intro w hSw
    try dsimp only at hSw
    go_simp
    try with_reducible rfl
  simp only [Act.put, List.setIfInBounds_toArray, List.set_cons_zero, List.set_cons_succ]
  refine wpAnyH_ready (rs := [1]) (by kernel_rfl) (by simp) ?_
  refine AllReadyH.cons rfl (fun K hK => ?_) AllReadyH.nil
  go_simp
  go_at_call 43
  ((with_reducible refine (sort_any _ t a _ (rda_below HT.out hHeld.2.2)).mono ?_); rintro e w2 ⟨rfl, hb2⟩; dsimp only)
  replace hHeld := two_below hHeld hb2
  refine hK.out _ _ hHeld (fun _ => ?_)
  clear hK K
  refine wpAnyH_ready (rs := [3]) (by kernel_rfl) (by simp) ?_
  refine AllReadyH.cons rfl (fun K hK => ?_) AllReadyH.nil
  go_simp
  go_at_call 43
  ((with_reducible refine (sort_any _ u b _ (rda_below HU.out hHeld.2.2)).mono ?_); rintro e w2 ⟨rfl, hb2⟩; dsimp only)
  replace hHeld := two_below hHeld hb2
  refine hK.out _ _ hHeld (fun _ => ?_)
  clear hK K
  refine held_take (i := 4) (v := ?_) (some 14) rfl rfl (by kernel_rfl) (by kernel_rfl) (by kernel_rfl) (fun _ _ _ h => h) (Or.inl ⟨by rfl, ?_⟩) hHeld ?_
  rotate_left
  · intro w hSw
    try dsimp only at hSw
    go_simp
    try with_reducible rfl
  simp only [Act.put, List.setIfInBounds_toArray, List.set_cons_zero, List.set_cons_succ]
  refine held_take (i := 5) (v := ?_) (some 15) rfl rfl (by kernel_rfl) (by kernel_rfl) (by kernel_rfl) (fun _ _ _ h => h) (Or.inl ⟨by rfl, ?_⟩) hHeld ?_
  rotate_left
  · intro w hSw
    try dsimp only at hSw
    go_simp
    try with_reducible rfl
  simp only [Act.put, List.setIfInBounds_toArray, List.set_cons_zero, List.set_cons_succ]
  refine held_take (i := 6) (v := undef) (some 16) rfl rfl (by kernel_rfl) (by kernel_rfl) (by kernel_rfl) (fun _ _ _ h => h) (Or.inr ⟨by kernel_rfl, rfl⟩) hHeld ?_
  simp only [Act.put, List.setIfInBounds_toArray, List.set_cons_zero, List.set_cons_succ]
  refine held_take (i := 7) (v := undef) (some 17) rfl rfl (by kernel_rfl) (by kernel_rfl) (by kernel_rfl) (fun _ _ _ h => h) (Or.inr ⟨by kernel_rfl, rfl⟩) hHeld ?_
  simp only [Act.put, List.setIfInBounds_toArray, List.set_cons_zero, List.set_cons_succ]
  refine held_take (i := 8) (v := undef) (some 18) rfl rfl (by kernel_rfl) (by kernel_rfl) (by kernel_rfl) (fun _ _ _ h => h) (Or.inr ⟨by kernel_rfl, rfl⟩) hHeld ?_
  simp only [Act.put, List.setIfInBounds_toArray, List.set_cons_zero, List.set_cons_succ]
  refine held_take (i := 9) (v := undef) (some 19) rfl rfl (by kernel_rfl) (by kernel_rfl) (by kernel_rfl) (fun _ _ _ h => h) (Or.inr ⟨by kernel_rfl, rfl⟩) hHeld ?_
  simp only [Act.put, List.setIfInBounds_toArray, List.set_cons_zero, List.set_cons_succ]
  refine held_take (i := 10) (v := undef) (some 20) rfl rfl (by kernel_rfl) (by kernel_rfl) (by kernel_rfl) (fun _ _ _ h => h) (Or.inr ⟨by kernel_rfl, rfl⟩) hHeld ?_
  simp only [Act.put, List.setIfInBounds_toArray, List.set_cons_zero, List.set_cons_succ]
  refine held_take (i := 11) (v := ?_) (some 21) rfl rfl (by kernel_rfl) (by kernel_rfl) (by kernel_rfl) (fun _ _ _ h => h) (Or.inl ⟨by rfl, ?_⟩) hHeld ?_
  rotate_left
  · intro w hSw
    try dsimp only at hSw
    go_simp
    try with_reducible rfl
  simp only [Act.put, List.setIfInBounds_toArray, List.set_cons_zero, List.set_cons_succ]
  refine held_take (i := 12) (v := ?_) (some 22) rfl rfl (by kernel_rfl) (by kernel_rfl) (by kernel_rfl) (fun _ _ _ h => h) (Or.inl ⟨by rfl, ?_⟩) hHeld ?_
  rotate_left
  · intro w hSw
    try dsimp only at hSw
    go_simp
    try with_reducible rfl
  simp only [Act.put, List.setIfInBounds_toArray, List.set_cons_zero, List.set_cons_succ]
  refine held_take (i := 13) (v := undef) (some 23) rfl rfl (by kernel_rfl) (by kernel_rfl) (by kernel_rfl) (fun _ _ _ h => h) (Or.inr ⟨by kernel_rfl, rfl⟩) hHeld ?_
  simp only [Act.put, List.setIfInBounds_toArray, List.set_cons_zero, List.set_cons_succ]
  refine held_take (i := 14) (v := undef) (some 24) rfl rfl (by kernel_rfl) (by kernel_rfl) (by kernel_rfl) (fun _ _ _ h => h) (Or.inr ⟨by kernel_rfl, rfl⟩) hHeld ?_
  simp only [Act.put, List.setIfInBounds_toArray, List.set_cons_zero, List.set_cons_succ]
  refine held_take (i := 15) (v := undef) (some 25) rfl rfl (by kernel_rfl) (by kernel_rfl) (by kernel_rfl) (fun _ _ _ h => h) (Or.inr ⟨by kernel_rfl, rfl⟩) hHeld ?_
  simp only [Act.put, List.setIfInBounds_toArray, List.set_cons_zero, List.set_cons_succ]
  refine held_take (i := 16) (v := undef) (some 26) rfl rfl (by kernel_rfl) (by kernel_rfl) (by kernel_rfl) (fun _ _ _ h => h) (Or.inr ⟨by kernel_rfl, rfl⟩) hHeld ?_
  simp only [Act.put, List.setIfInBounds_toArray, List.set_cons_zero, List.set_cons_succ]
  refine held_take (i := 17) (v := undef) (some 27) rfl rfl (by kernel_rfl) (by kernel_rfl) (by kernel_rfl) (fun _ _ _ h => h) (Or.inr ⟨by kernel_rfl, rfl⟩) hHeld ?_
  simp only [Act.put, List.setIfInBounds_toArray, List.set_cons_zero, List.set_cons_succ]
  refine held_take (i := 18) (v := undef) (some 28) rfl rfl (by kernel_rfl) (by kernel_rfl) (by kernel_rfl) (fun _ _ _ h => h) (Or.inr ⟨by kernel_rfl, rfl⟩) hHeld ?_
  simp only [Act.put, List.setIfInBounds_toArray, List.set_cons_zero, List.set_cons_succ]
  refine held_take (i := 19) (v := ?_) (some 29) rfl rfl (by kernel_rfl) (by kernel_rfl) (by kernel_rfl) (fun _ _ _ h => h) (Or.inl ⟨by rfl, ?_⟩) hHeld ?_
  rotate_left
  · intro w hSw
    try dsimp only at hSw
    go_simp
    try with_reducible rfl
  simp only [Act.put, List.setIfInBounds_toArray, List.set_cons_zero, List.set_cons_succ]
  refine wpAnyH_done (by kernel_rfl) ?_ _
  have hbw := hB0.trans (hHeld.2.2.mono hB0.size)
  clear hHeld
  go_wp2
  go_ret
  exact ⟨rfl, hbw⟩
set_option maxRecDepth 100000 in
set_option maxHeartbeats 8000000 in
theorem same_len (t u : Tr) (a b : Value) (w : World) (ht : RdA w t a) (hu : RdA w u b) (hs : t.srt = u.srt) (hl : t.kids.length ≠ u.kids.length) :
    Calls Tryz.prog 68 #[.agg #[a], .agg #[b]] w fun e w' => e = .returned (.bool false) ∧ Below w.heap.size w w' := by
  have hsn : ((t.srt : Int) != (u.srt : Int)) = false := by rw [hs]; simp
  have hln : ((t.kids.length : Int) != (u.kids.length : Int)) = true := by simp only [bne_iff_ne, ne_eq]; omega
  obtain ⟨c2, c3, hB0⟩ := two_boxes w 140 a b
  have HT1 := rda_below ht hB0
  have HU1 := rda_below hu hB0
  obtain ⟨W0, hW0⟩ : ∃ W0, W0 = (w.alloc (.cells #[a] 140)).alloc (.cells #[b] 140) := ⟨_, rfl⟩
  rw [← hW0] at c2 c3 hB0 HT1 HU1
  have HT := Lib.hid HT1
  have HU := Lib.hid HU1
  clear HT1 HU1
  have hd0 : Below W0.heap.size W0 W0.drew := drewN_below W0 1
  go_enter Tryz.func68, Tryz.ntmps68
  go_upto_region 1 with fail
  rw [← hW0]
  clear hW0
  refine wp_region_held_drew (S := (fun w' => w'.cell? ⟨w.heap.size, 0, none⟩ = some a ∧ w'.cell? ⟨w.heap.size + 1, 0, none⟩ = some b ∧ Below W0.heap.size W0 w')) (by kernel_rfl) ⟨c2, c3, hd0⟩ (fun hHeld => ?_)
  refine held_take (i := 0) (v := ?_) (some 10) rfl rfl (by kernel_rfl) (by kernel_rfl) (by kernel_rfl) (fun _ _ _ h => h) (Or.inl ⟨by rfl, ?_⟩) hHeld ?_
  rotate_left
  · intro w hSw
    try dsimp only at hSw
    go_simp
    try with_reducible rfl
  simp only [Act.put, List.setIfInBounds_toArray, List.set_cons_zero, List.set_cons_succ]
  refine held_take (i := 2) (v := ?_) (some 12) rfl rfl (by kernel_rfl) (by kernel_rfl) (by kernel_rfl) (fun _ _ _ h => h) (Or.inl ⟨by rfl, ?_⟩) hHeld ?_
  rotate_left
  · intro w hSw
    try dsimp only at hSw
    go_simp
    try with_reducible rfl
  simp only [Act.put, List.setIfInBounds_toArray, List.set_cons_zero, List.set_cons_succ]
  refine wpAnyH_ready (rs := [1]) (by kernel_rfl) (by simp) ?_
  refine AllReadyH.cons rfl (fun K hK => ?_) AllReadyH.nil
  go_simp
  go_at_call 43
  ((with_reducible refine (sort_any _ t a _ (rda_below HT.out hHeld.2.2)).mono ?_); rintro e w2 ⟨rfl, hb2⟩; dsimp only)
  replace hHeld := two_below hHeld hb2
  refine hK.out _ _ hHeld (fun _ => ?_)
  clear hK K
  refine wpAnyH_ready (rs := [3]) (by kernel_rfl) (by simp) ?_
  refine AllReadyH.cons rfl (fun K hK => ?_) AllReadyH.nil
  go_simp
  go_at_call 43
  ((with_reducible refine (sort_any _ u b _ (rda_below HU.out hHeld.2.2)).mono ?_); rintro e w2 ⟨rfl, hb2⟩; dsimp only)
  replace hHeld := two_below hHeld hb2
  refine hK.out _ _ hHeld (fun _ => ?_)
  clear hK K
  refine held_take (i := 4) (v := ?_) (some 14) rfl rfl (by kernel_rfl) (by kernel_rfl) (by kernel_rfl) (fun _ _ _ h => h) (Or.inl ⟨by rfl, ?_⟩) hHeld ?_
  rotate_left
  · intro w hSw
    try dsimp only at hSw
    go_simp
    try with_reducible rfl
  simp only [Act.put, List.setIfInBounds_toArray, List.set_cons_zero, List.set_cons_succ]
  refine held_take (i := 5) (v := ?_) (some 15) rfl rfl (by kernel_rfl) (by kernel_rfl) (by kernel_rfl) (fun _ _ _ h => h) (Or.inl ⟨by rfl, ?_⟩) hHeld ?_
  rotate_left
  · intro w hSw
    try dsimp only at hSw
    go_simp
    try with_reducible rfl
  simp only [Act.put, List.setIfInBounds_toArray, List.set_cons_zero, List.set_cons_succ]
  refine held_take (i := 6) (v := ?_) (some 16) rfl rfl (by kernel_rfl) (by kernel_rfl) (by kernel_rfl) (fun _ _ _ h => h) (Or.inl ⟨by rfl, ?_⟩) hHeld ?_
  rotate_left
  · intro w hSw
    try dsimp only at hSw
    go_simp
    try with_reducible rfl
  simp only [Act.put, List.setIfInBounds_toArray, List.set_cons_zero, List.set_cons_succ]
  refine held_take (i := 8) (v := ?_) (some 18) rfl rfl (by kernel_rfl) (by kernel_rfl) (by kernel_rfl) (fun _ _ _ h => h) (Or.inl ⟨by rfl, ?_⟩) hHeld ?_
  rotate_left
  · intro w hSw
    try dsimp only at hSw
    go_simp
    try with_reducible rfl
  simp only [Act.put, List.setIfInBounds_toArray, List.set_cons_zero, List.set_cons_succ]
  refine wpAnyH_ready (rs := [7]) (by kernel_rfl) (by simp) ?_
  refine AllReadyH.cons rfl (fun K hK => ?_) AllReadyH.nil
  go_simp
  go_at_call 117
  ((with_reducible refine (len_any _ t a _ (rda_below HT.out hHeld.2.2)).mono ?_); rintro e w2 ⟨rfl, hb2⟩; dsimp only)
  replace hHeld := two_below hHeld hb2
  refine hK.out _ _ hHeld (fun _ => ?_)
  clear hK K
  refine wpAnyH_ready (rs := [9]) (by kernel_rfl) (by simp) ?_
  refine AllReadyH.cons rfl (fun K hK => ?_) AllReadyH.nil
  go_simp
  go_at_call 117
  ((with_reducible refine (len_any _ u b _ (rda_below HU.out hHeld.2.2)).mono ?_); rintro e w2 ⟨rfl, hb2⟩; dsimp only)
  replace hHeld := two_below hHeld hb2
  refine hK.out _ _ hHeld (fun _ => ?_)
  clear hK K
  refine held_take (i := 10) (v := ?_) (some 20) rfl rfl (by kernel_rfl) (by kernel_rfl) (by kernel_rfl) (fun _ _ _ h => h) (Or.inl ⟨by rfl, ?_⟩) hHeld ?_
  rotate_left
  · intro w hSw
    try dsimp only at hSw
    go_simp
    try with_reducible rfl
  simp only [Act.put, List.setIfInBounds_toArray, List.set_cons_zero, List.set_cons_succ]
  refine held_take (i := 11) (v := ?_) (some 21) rfl rfl (by kernel_rfl) (by kernel_rfl) (by kernel_rfl) (fun _ _ _ h => h) (Or.inl ⟨by rfl, ?_⟩) hHeld ?_
  rotate_left
  · intro w hSw
    try dsimp only at hSw
    go_simp
    try with_reducible rfl
  simp only [Act.put, List.setIfInBounds_toArray, List.set_cons_zero, List.set_cons_succ]
  refine held_take (i := 12) (v := ?_) (some 22) rfl rfl (by kernel_rfl) (by kernel_rfl) (by kernel_rfl) (fun _ _ _ h => h) (Or.inl ⟨by rfl, ?_⟩) hHeld ?_
  rotate_left
  · intro w hSw
    try dsimp only at hSw
    go_simp
    try with_reducible rfl
  simp only [Act.put, List.setIfInBounds_toArray, List.set_cons_zero, List.set_cons_succ]
  refine held_take (i := 13) (v := undef) (some 23) rfl rfl (by kernel_rfl) (by kernel_rfl) (by kernel_rfl) (fun _ _ _ h => h) (Or.inr ⟨by kernel_rfl, rfl⟩) hHeld ?_
  simp only [Act.put, List.setIfInBounds_toArray, List.set_cons_zero, List.set_cons_succ]
  refine held_take (i := 14) (v := undef) (some 24) rfl rfl (by kernel_rfl) (by kernel_rfl) (by kernel_rfl) (fun _ _ _ h => h) (Or.inr ⟨by kernel_rfl, rfl⟩) hHeld ?_
  simp only [Act.put, List.setIfInBounds_toArray, List.set_cons_zero, List.set_cons_succ]
  refine held_take (i := 15) (v := undef) (some 25) rfl rfl (by kernel_rfl) (by kernel_rfl) (by kernel_rfl) (fun _ _ _ h => h) (Or.inr ⟨by kernel_rfl, rfl⟩) hHeld ?_
  simp only [Act.put, List.setIfInBounds_toArray, List.set_cons_zero, List.set_cons_succ]
  refine held_take (i := 16) (v := undef) (some 26) rfl rfl (by kernel_rfl) (by kernel_rfl) (by kernel_rfl) (fun _ _ _ h => h) (Or.inr ⟨by kernel_rfl, rfl⟩) hHeld ?_
  simp only [Act.put, List.setIfInBounds_toArray, List.set_cons_zero, List.set_cons_succ]
  refine held_take (i := 17) (v := undef) (some 27) rfl rfl (by kernel_rfl) (by kernel_rfl) (by kernel_rfl) (fun _ _ _ h => h) (Or.inr ⟨by kernel_rfl, rfl⟩) hHeld ?_
  simp only [Act.put, List.setIfInBounds_toArray, List.set_cons_zero, List.set_cons_succ]
  refine held_take (i := 18) (v := undef) (some 28) rfl rfl (by kernel_rfl) (by kernel_rfl) (by kernel_rfl) (fun _ _ _ h => h) (Or.inr ⟨by kernel_rfl, rfl⟩) hHeld ?_
  simp only [Act.put, List.setIfInBounds_toArray, List.set_cons_zero, List.set_cons_succ]
  refine held_take (i := 19) (v := ?_) (some 29) rfl rfl (by kernel_rfl) (by kernel_rfl) (by kernel_rfl) (fun _ _ _ h => h) (Or.inl ⟨by rfl, ?_⟩) hHeld ?_
  rotate_left
  · intro w hSw
    try dsimp only at hSw
    go_simp
    try with_reducible rfl
  simp only [Act.put, List.setIfInBounds_toArray, List.set_cons_zero, List.set_cons_succ]
  refine wpAnyH_done (by kernel_rfl) ?_ _
  have hbw := hB0.trans (hHeld.2.2.mono hB0.size)
  clear hHeld
  go_wp2
  go_ret
  exact ⟨rfl, hbw⟩
set_option maxRecDepth 100000 in
set_option maxHeartbeats 8000000 in
theorem same_kn (t u : Tr) (a b : Value) (w : World) (ht : RdA w t a) (hu : RdA w u b) (hs : t.srt = u.srt) (hl : t.kids.length = u.kids.length) (hkl : t.kn.length = u.kn.length) (hkn : t.kn.length ≤ 1048576) (hk : t.kn ≠ u.kn) :
    Calls Tryz.prog 68 #[.agg #[a], .agg #[b]] w fun e w' => e = .returned (.bool false) ∧ Below w.heap.size w w' := by
  have hsn : ((t.srt : Int) != (u.srt : Int)) = false := by rw [hs]; simp
  have hln : ((t.kids.length : Int) != (u.kids.length : Int)) = false := by rw [hl]; simp
  have hkd : decide (t.kn = u.kn) = false := decide_eq_false hk
  have HKL := Lib.hid hkl
  have HKN := Lib.hid hkn
  clear hkl hkn hl hs hk
  obtain ⟨c2, c3, hB0⟩ := two_boxes w 140 a b
  have HT1 := rda_below ht hB0
  have HU1 := rda_below hu hB0
  obtain ⟨W0, hW0⟩ : ∃ W0, W0 = (w.alloc (.cells #[a] 140)).alloc (.cells #[b] 140) := ⟨_, rfl⟩
  rw [← hW0] at c2 c3 hB0 HT1 HU1
  have HT := Lib.hid HT1
  have HU := Lib.hid HU1
  clear HT1 HU1
  have hd0 : Below W0.heap.size W0 W0.drew := drewN_below W0 1
  go_enter Tryz.func68, Tryz.ntmps68
  go_upto_region 1 with fail
  rw [← hW0]
  clear hW0
  refine wp_region_held_drew (S := (fun w' => w'.cell? ⟨w.heap.size, 0, none⟩ = some a ∧ w'.cell? ⟨w.heap.size + 1, 0, none⟩ = some b ∧ Below W0.heap.size W0 w')) (by kernel_rfl) ⟨c2, c3, hd0⟩ (fun hHeld => ?_)
  refine held_take (i := 0) (v := ?_) (some 10) rfl rfl (by kernel_rfl) (by kernel_rfl) (by kernel_rfl) (fun _ _ _ h => h) (Or.inl ⟨by rfl, ?_⟩) hHeld ?_
  rotate_left
  · intro w hSw
    try dsimp only at hSw
    go_simp
    try with_reducible rfl
  simp only [Act.put, List.setIfInBounds_toArray, List.set_cons_zero, List.set_cons_succ]
  refine held_take (i := 2) (v := ?_) (some 12) rfl rfl (by kernel_rfl) (by kernel_rfl) (by kernel_rfl) (fun _ _ _ h => h) (Or.inl ⟨by rfl, ?_⟩) hHeld ?_
  rotate_left
  · intro w hSw
    try dsimp only at hSw
    go_simp
    try with_reducible rfl
  simp only [Act.put, List.setIfInBounds_toArray, List.set_cons_zero, List.set_cons_succ]
  refine wpAnyH_ready (rs := [1]) (by kernel_rfl) (by simp) ?_
  refine AllReadyH.cons rfl (fun K hK => ?_) AllReadyH.nil
  go_simp
  go_at_call 43
  ((with_reducible refine (sort_any _ t a _ (rda_below HT.out hHeld.2.2)).mono ?_); rintro e w2 ⟨rfl, hb2⟩; dsimp only)
  replace hHeld := two_below hHeld hb2
  refine hK.out _ _ hHeld (fun _ => ?_)
  clear hK K
  refine wpAnyH_ready (rs := [3]) (by kernel_rfl) (by simp) ?_
  refine AllReadyH.cons rfl (fun K hK => ?_) AllReadyH.nil
  go_simp
  go_at_call 43
  ((with_reducible refine (sort_any _ u b _ (rda_below HU.out hHeld.2.2)).mono ?_); rintro e w2 ⟨rfl, hb2⟩; dsimp only)
  replace hHeld := two_below hHeld hb2
  refine hK.out _ _ hHeld (fun _ => ?_)
  clear hK K
  refine held_take (i := 4) (v := ?_) (some 14) rfl rfl (by kernel_rfl) (by kernel_rfl) (by kernel_rfl) (fun _ _ _ h => h) (Or.inl ⟨by rfl, ?_⟩) hHeld ?_
  rotate_left
  · intro w hSw
    try dsimp only at hSw
    go_simp
    try with_reducible rfl
  simp only [Act.put, List.setIfInBounds_toArray, List.set_cons_zero, List.set_cons_succ]
  refine held_take (i := 5) (v := ?_) (some 15) rfl rfl (by kernel_rfl) (by kernel_rfl) (by kernel_rfl) (fun _ _ _ h => h) (Or.inl ⟨by rfl, ?_⟩) hHeld ?_
  rotate_left
  · intro w hSw
    try dsimp only at hSw
    go_simp
    try with_reducible rfl
  simp only [Act.put, List.setIfInBounds_toArray, List.set_cons_zero, List.set_cons_succ]
  refine held_take (i := 6) (v := ?_) (some 16) rfl rfl (by kernel_rfl) (by kernel_rfl) (by kernel_rfl) (fun _ _ _ h => h) (Or.inl ⟨by rfl, ?_⟩) hHeld ?_
  rotate_left
  · intro w hSw
    try dsimp only at hSw
    go_simp
    try with_reducible rfl
  simp only [Act.put, List.setIfInBounds_toArray, List.set_cons_zero, List.set_cons_succ]
  refine held_take (i := 8) (v := ?_) (some 18) rfl rfl (by kernel_rfl) (by kernel_rfl) (by kernel_rfl) (fun _ _ _ h => h) (Or.inl ⟨by rfl, ?_⟩) hHeld ?_
  rotate_left
  · intro w hSw
    try dsimp only at hSw
    go_simp
    try with_reducible rfl
  simp only [Act.put, List.setIfInBounds_toArray, List.set_cons_zero, List.set_cons_succ]
  refine wpAnyH_ready (rs := [7]) (by kernel_rfl) (by simp) ?_
  refine AllReadyH.cons rfl (fun K hK => ?_) AllReadyH.nil
  go_simp
  go_at_call 117
  ((with_reducible refine (len_any _ t a _ (rda_below HT.out hHeld.2.2)).mono ?_); rintro e w2 ⟨rfl, hb2⟩; dsimp only)
  replace hHeld := two_below hHeld hb2
  refine hK.out _ _ hHeld (fun _ => ?_)
  clear hK K
  refine wpAnyH_ready (rs := [9]) (by kernel_rfl) (by simp) ?_
  refine AllReadyH.cons rfl (fun K hK => ?_) AllReadyH.nil
  go_simp
  go_at_call 117
  ((with_reducible refine (len_any _ u b _ (rda_below HU.out hHeld.2.2)).mono ?_); rintro e w2 ⟨rfl, hb2⟩; dsimp only)
  replace hHeld := two_below hHeld hb2
  refine hK.out _ _ hHeld (fun _ => ?_)
  clear hK K
  refine held_take (i := 10) (v := ?_) (some 20) rfl rfl (by kernel_rfl) (by kernel_rfl) (by kernel_rfl) (fun _ _ _ h => h) (Or.inl ⟨by rfl, ?_⟩) hHeld ?_
  rotate_left
  · intro w hSw
    try dsimp only at hSw
    go_simp
    try with_reducible rfl
  simp only [Act.put, List.setIfInBounds_toArray, List.set_cons_zero, List.set_cons_succ]
  refine held_take (i := 11) (v := ?_) (some 21) rfl rfl (by kernel_rfl) (by kernel_rfl) (by kernel_rfl) (fun _ _ _ h => h) (Or.inl ⟨by rfl, ?_⟩) hHeld ?_
  rotate_left
  · intro w hSw
    try dsimp only at hSw
    go_simp
    try with_reducible rfl
  simp only [Act.put, List.setIfInBounds_toArray, List.set_cons_zero, List.set_cons_succ]
  refine held_take (i := 12) (v := ?_) (some 22) rfl rfl (by kernel_rfl) (by kernel_rfl) (by kernel_rfl) (fun _ _ _ h => h) (Or.inl ⟨by rfl, ?_⟩) hHeld ?_
  rotate_left
  · intro w hSw
    try dsimp only at hSw
    go_simp
    try with_reducible rfl
  simp only [Act.put, List.setIfInBounds_toArray, List.set_cons_zero, List.set_cons_succ]
  refine held_take (i := 13) (v := ?_) (some 23) rfl rfl (by kernel_rfl) (by kernel_rfl) (by kernel_rfl) (fun _ _ _ h => h) (Or.inl ⟨by rfl, ?_⟩) hHeld ?_
  rotate_left
  · intro w hSw
    try dsimp only at hSw
    go_simp
    try with_reducible rfl
  simp only [Act.put, List.setIfInBounds_toArray, List.set_cons_zero, List.set_cons_succ]
  refine held_take (i := 15) (v := ?_) (some 25) rfl rfl (by kernel_rfl) (by kernel_rfl) (by kernel_rfl) (fun _ _ _ h => h) (Or.inl ⟨by rfl, ?_⟩) hHeld ?_
  rotate_left
  · intro w hSw
    try dsimp only at hSw
    go_simp
    try with_reducible rfl
  simp only [Act.put, List.setIfInBounds_toArray, List.set_cons_zero, List.set_cons_succ]
  refine wpAnyH_ready (rs := [14]) (by kernel_rfl) (by simp) ?_
  refine AllReadyH.cons rfl (fun K hK => ?_) AllReadyH.nil
  go_simp
  go_at_call 101
  ((with_reducible refine (keysr_any _ t a _ (rda_below HT.out hHeld.2.2)).mono ?_); rintro e w2 ⟨⟨A1, q1, rfl, hkA1⟩, hb2⟩; dsimp only)
  replace hkA1 := hkA1.below hb2
  replace hHeld := two_below hHeld hb2
  refine hK.out _ _ hHeld (fun _ => ?_)
  clear hK K
  refine wpAnyH_ready (rs := [16]) (by kernel_rfl) (by simp) ?_
  refine AllReadyH.cons rfl (fun K hK => ?_) AllReadyH.nil
  go_simp
  go_at_call 101
  ((with_reducible refine (keysr_any _ u b _ (rda_below HU.out hHeld.2.2)).mono ?_); rintro e w2 ⟨⟨A2, q2, rfl, hkA2⟩, hb2⟩; dsimp only)
  replace hkA1 := hkA1.below hb2
  replace hkA2 := hkA2.below hb2
  replace hHeld := two_below hHeld hb2
  refine hK.out _ _ hHeld (fun _ => ?_)
  clear hK K
  refine wpAnyH_ready (rs := [17]) (by kernel_rfl) (by simp) ?_
  refine AllReadyH.cons rfl (fun K hK => ?_) AllReadyH.nil
  go_simp
  go_at_call 118
  ((with_reducible refine (keys_equal t.kn u.kn _ _ _ hkA1 hkA2 HKL.out HKN.out).mono ?_); rintro e w3 ⟨rfl, hb3⟩; dsimp only)
  replace hHeld := two_below hHeld hb3
  refine hK.out _ _ hHeld (fun _ => ?_)
  clear hK K
  refine held_take (i := 18) (v := ?_) (some 28) rfl rfl (by kernel_rfl) (by kernel_rfl) (by kernel_rfl) (fun _ _ _ h => h) (Or.inl ⟨by rfl, ?_⟩) hHeld ?_
  rotate_left
  · intro w hSw
    try dsimp only at hSw
    go_simp
    try with_reducible rfl
  simp only [Act.put, List.setIfInBounds_toArray, List.set_cons_zero, List.set_cons_succ]
  refine held_take (i := 19) (v := ?_) (some 29) rfl rfl (by kernel_rfl) (by kernel_rfl) (by kernel_rfl) (fun _ _ _ h => h) (Or.inl ⟨by rfl, ?_⟩) hHeld ?_
  rotate_left
  · intro w hSw
    try dsimp only at hSw
    go_simp
    try with_reducible rfl
  simp only [Act.put, List.setIfInBounds_toArray, List.set_cons_zero, List.set_cons_succ]
  refine wpAnyH_done (by kernel_rfl) ?_ _
  have hbw := hB0.trans (hHeld.2.2.mono hB0.size)
  clear hHeld
  go_wp2
  go_ret
  exact ⟨rfl, hbw⟩
theorem itv_below {w w' : World} {v : Value} {A : Option Addr} {n c : Nat} (h : ItV (fun _ => True) w v A n c) (hb : Below w.heap.size w w') : ItV (fun _ => True) w' v A n c := h.move fun j hj _ => ⟨trivial, hb.block j hj⟩
theorem row_at {w wr : World} {A : Option Addr} {c : Nat} {vs : List Value} {l : List Tr} {k : Nat} (hrow : Row (fun _ => True) w 106 (.slice A l.length c) vs) (hl : RdL (fun _ => True) w l vs) (hb : Below w.heap.size w wr) (hk : k < l.length) :
    ∃ g o tx ux, A = some ⟨g, o, none⟩ ∧ wr.cell? ⟨g, o + k, none⟩ = some (.iface tx ux) ∧ RdA wr l[k] (.iface tx ux) := by
  obtain ⟨A', c', e', h'⟩ := hrow
  injection e' with e1 e2 e3
  have hvl := hl.len
  rcases h' with ⟨h', _⟩ | ⟨g, o, cur, hA, hSg, hBg, hc⟩
  · rw [h'] at hvl
    simp at hvl
    omega
  · have hvk : vs[k]? = some (vs[k]'(by omega)) := List.getElem?_eq_getElem (by omega)
    have hrd := hl.at (List.getElem?_eq_getElem hk) hvk
    obtain ⟨tx, ux, he⟩ := hrd.iface
    refine ⟨g, o, tx, ux, by rw [e1, hA], (hb.cell (p := ⟨g, o + k, none⟩) hBg.lt).trans ((hBg.cell _).trans (hc k _ (by rw [hvk, he]))), ?_⟩
    rw [he] at hrd
    exact rda_below hrd hb
end Nd
end Go.Proofs.YtbcckpnngonoeaaGreatDoor

