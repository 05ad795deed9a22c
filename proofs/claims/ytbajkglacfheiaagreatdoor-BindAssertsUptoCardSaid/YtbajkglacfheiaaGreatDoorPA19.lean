/-
  Plain: where tokens lead in a tree; what a search in rising keys comes to. Walks: a search in rising keys; the value at a place; the value of a key. Walks: the value of a key; where a token leads on to. Walks: tokens in a row, token by token. Walks of package pointer: Find and Look. Told values behind an interface: Sort, the assertion to a Lost, nil. Walks of package pointer: Look.
-/
import Derived.Test.YtbajkglacfheiaaGreatDoorPA9
import Derived.Test.YtbajkglacfheiaaGreatDoorPA16
import Derived.Test.YtbajkglacfheiaaGreatDoorPA10
import Derived.Test.YtbajkglacfheiaaGreatDoorPA8
import Derived.Test.YtbajkglacfheiaaGreatDoorPA12
set_option linter.unusedVariables false
set_option linter.unusedSimpArgs false
set_option maxRecDepth 100000
set_option maxHeartbeats 16000000
namespace Go.Proofs.YtbajkglacfheiaaGreatDoor
open Go Idx
namespace Nd
def onT (x : Tx) : Tr → Option Tr
 | .list l => (idxC x (l.length : Int)).bind fun v => l[v.toNat]?
 | .obj ks l => if x ∈ ks then l[ks.idxOf x]? else none
 | _ => none
def leadT : Tr → List Tx → Nat → Sum Nat Tr
 | t, [], _ => .inr t
 | t, x :: r, i => match onT x t with
  | none => .inl i
  | some u => leadT u r (i + 1)
theorem idxC_range {l : List UInt8} {n v : Int} (h : idxC l n = some v) : 0 ≤ v ∧ v < n := by
 unfold idxC at h
 split at h
 ·split at h
  ·cases h
  ·injection h with h
   omega
 ·cases h
theorem onT_list (x : Tx) (l : List Tr) : onT x (.list l) = (idxC x (l.length : Int)).bind fun v => l[v.toNat]? := rfl
theorem onT_obj (x : Tx) (ks : List Tx) (l : List Tr) : onT x (.obj ks l) = if x ∈ ks then l[ks.idxOf x]? else none := rfl
theorem onT_kid {x : Tx} {t u : Tr} (h : onT x t = some u) : u ∈ t.kids := by
 cases t with
 | list l =>
  rw [onT_list] at h
  cases hx : idxC x (l.length : Int) with
  | none => rw [hx] at h; cases h
  | some v =>
   rw [hx] at h
   exact List.mem_of_getElem? h
 | obj ks l =>
  rw [onT_obj] at h
  by_cases hm : x ∈ ks
  ·rw [if_pos hm] at h
   exact List.mem_of_getElem? h
  ·rw [if_neg hm] at h
   cases h
 | null => cases h
 | flag b => cases h
 | num x => cases h
 | text s => cases h
theorem kids_ok {t : Tr} (h : t.Ok) : OkL t.kids := by
 cases t with
 | list l => unfold Tr.Ok at h; exact h
 | obj ks l => unfold Tr.Ok at h; exact h.2.2.2
 | null => unfold Tr.kids OkL; trivial
 | flag b => unfold Tr.kids OkL; trivial
 | num x => unfold Tr.kids OkL; trivial
 | text s => unfold Tr.kids OkL; trivial
theorem onT_ok {x : Tx} {t u : Tr} (ht : t.Ok) (h : onT x t = some u) : u.Ok ∧ u.fit = true := okl_mem (kids_ok ht) (onT_kid h)
theorem lead_cons (t : Tr) (x : Tx) (r : List Tx) (i : Nat) : leadT t (x :: r) i = match onT x t with
  | none => .inl i
  | some u => leadT u r (i + 1) := by rw [leadT]
theorem lead_nil (t : Tr) (i : Nat) : leadT t [] i = .inr t := by rw [leadT]
theorem lead_none {t : Tr} {x : Tx} {r : List Tx} {i : Nat} (h : onT x t = none) : leadT t (x :: r) i = .inl i := by
 rw [lead_cons, h]
theorem lead_some {t u : Tr} {x : Tx} {r : List Tx} {i : Nat} (h : onT x t = some u) : leadT t (x :: r) i = leadT u r (i + 1) := by
 rw [lead_cons, h]
theorem lead_ok : ∀ (ts : List Tx) (t u : Tr) (i : Nat), t.Ok → t.fit = true → leadT t ts i = .inr u → u.Ok ∧ u.fit = true
 | [], t, u, i, ho, hf, h => by
  rw [lead_nil] at h
  injection h with h
  subst h
  exact ⟨ho, hf⟩
 | x :: r, t, u, i, ho, hf, h => by
  cases hx : onT x t with
  | none =>
   rw [lead_none hx] at h
   cases h
  | some v =>
   rw [lead_some hx] at h
   have := onT_ok ho hx
   exact lead_ok r v u (i + 1) this.1 this.2 h
theorem lead_lt : ∀ (ts : List Tx) (t : Tr) (i n : Nat), leadT t ts i = .inl n → i ≤ n ∧ n < i + ts.length ∧ ∃ u, leadT t (ts.take (n - i)) i = .inr u
 | [], t, i, n, h => by
  rw [lead_nil] at h
  cases h
 | x :: r, t, i, n, h => by
  cases hx : onT x t with
  | none =>
   rw [lead_none hx] at h
   injection h with h
   subst h
   exact ⟨Nat.le_refl _, by simp, t, by rw [Nat.sub_self, List.take_zero, lead_nil]⟩
  | some v =>
   rw [lead_some hx] at h
   obtain ⟨h1, h2, u, h3⟩ := lead_lt r v (i + 1) n h
   refine ⟨by omega, by simp; omega, u, ?_⟩
   rw [show n - i = (n - (i + 1)) + 1 by omega, List.take_succ_cons, lead_some hx]
   exact h3
theorem rise_nodup {ks : List Tx} (hr : Rise ks) : ks.Nodup := List.Pairwise.imp (fun h e => by rw [e, cmp_self] at h; omega) hr
theorem bs_in {ks : List Tx} (hr : Rise ks) {tok : Tx} {i : Nat} (hi : i < ks.length) (h : cmpL ks[i] tok = 0) : tok ∈ ks ∧ ks.idxOf tok = i := by
 have := cmp_zero _ _ h
 rw [← this]
 exact ⟨List.getElem_mem _, idxOf_at ks (rise_nodup hr) i hi⟩
theorem bs_out {ks : List Tx} (hr : Rise ks) {tok : Tx} {i : Nat} (h1 : ∀ t (ht : t < ks.length), t < i → cmpL ks[t] tok < 0) (h2 : ∀ t (ht : t < ks.length), i ≤ t → 0 ≤ cmpL ks[t] tok) (h : ∀ h : i < ks.length, ¬ cmpL ks[i] tok = 0) : tok ∉ ks := by
 intro hm
 obtain ⟨m, hml, hme⟩ := List.getElem_of_mem hm
 clear hm
 subst hme
 by_cases hlt : m < i
 ·have := h1 m hml hlt
  rw [cmp_self] at this
  omega
 ·by_cases e : m = i
  ·subst e
   exact h hml (cmp_self _)
  ·have : cmpL ks[i] ks[m] < 0 := List.pairwise_iff_getElem.1 hr i m (by omega) hml (by omega)
   have := h2 i (by omega) (Nat.le_refl _)
   omega
theorem bs_step1 {ks : List Tx} (hr : Rise ks) {tok : Tx} {h : Nat} (hh : h < ks.length) (hc : cmpL ks[h] tok < 0) : ∀ t (ht : t < ks.length), t < h + 1 → cmpL ks[t] tok < 0 := by
 intro t ht hl
 by_cases e : t = h
 ·subst e
  exact hc
 ·exact lt_trans _ _ _ (List.pairwise_iff_getElem.1 hr t h ht hh (by omega)) hc
theorem bs_step2 {ks : List Tx} (hr : Rise ks) {tok : Tx} {h : Nat} (hh : h < ks.length) (hc : 0 ≤ cmpL ks[h] tok) : ∀ t (ht : t < ks.length), h ≤ t → 0 ≤ cmpL ks[t] tok := by
 intro t ht hl
 by_cases e : t = h
 ·subst e
  exact hc
 ·refine Int.not_lt.1 fun hn => ?_
  have := lt_trans _ _ _ (List.pairwise_iff_getElem.1 hr h t hh ht (by omega)) hn
  omega
end Nd
end Go.Proofs.YtbajkglacfheiaaGreatDoor
namespace Go.Proofs.YtbajkglacfheiaaGreatDoor
open Go.RowKit Mem
namespace Nd
def SearchP (ks : List Tx) (x : Tx) (w : World) (e : Ending) (w' : World) : Prop :=
 (∃ i : Nat, (e = .returned (.tuple #[.int .i64 i, .bool true]) ∧ i < ks.length ∧ x ∈ ks ∧ ks.idxOf x = i) ∨ (e = .returned (.tuple #[.int .i64 i, .bool false]) ∧ x ∉ ks)) ∧ Below w.heap.size w w'
theorem rdk_cell {w : World} {A : Option Addr} {c : Nat} {ks : List Tx} (h : RdK w (.slice A ks.length c) ks) {i : Nat} (hi : i < ks.length) : ∃ g o, A = some ⟨g, o, none⟩ ∧ w.cell? ⟨g, o + i, none⟩ = some (.string ⟨ks[i].toArray⟩) := by
 obtain ⟨A', c', e', h'⟩ := h
 injection e' with e1 e2 e3
 rcases h' with h' | ⟨g, o, hA, hc⟩
 ·rw [h'] at hi
  simp at hi
 ·exact ⟨g, o, by rw [e1, hA], hc i _ (List.getElem?_eq_getElem hi)⟩
theorem search_any (A : Option Addr) (c : Nat) (ks : List Tx) (x : Tx) (w : World) (hK : RdK w (.slice A ks.length c) ks) (hr : Rise ks) (ha : ks.all rightB = true) (hx : rightB x = true) (hl : ∀ k ∈ ks, k.length ≤ 1099511627776) (hlx : x.length ≤ 1099511627776) (hn : ks.length ≤ 1048576) :
  Calls Tryz.prog 140 #[.slice A ks.length c, .string ⟨x.toArray⟩, .func (.func 121) #[] #[]] w (SearchP ks x w) := by
 have HK := Lib.hid hK
 have HR := Lib.hid hr
 have HA := Lib.hid (List.all_eq_true.1 ha)
 have HX := Lib.hid hx
 have HL := Lib.hid hl
 have HN := Lib.hid hn
 have HLX := Lib.hid hlx
 obtain ⟨n, hn0⟩ : ∃ n, ks.length = n := ⟨_, rfl⟩
 rw [hn0] at hn
 rw [hn0]
 have HN0 := Lib.hid hn0
 clear hK hr ha hx hl hlx hn0
 go_enter Tryz.func140, Tryz.ntmps140
 go_wp2_with fail
 go_loopw [9, 10] (fun c9 c10 wr => ∃ lo hi : Nat, c9 = .int .i64 lo ∧ c10 = .int .i64 hi ∧ lo ≤ hi ∧ hi ≤ n ∧ Hid ((∀ t (ht : t < ks.length), t < lo → cmpL ks[t] x < 0) ∧ ∀ t (ht : t < ks.length), hi ≤ t → 0 ≤ cmpL ks[t] x) ∧ Hid (Below w.heap.size w wr)) (fun c9 c10 _ => (intOf c10).toNat - (intOf c9).toNat)
 case atStart => exact ⟨0, n, rfl, rfl, Nat.zero_le _, Nat.le_refl _, Lib.hid ⟨fun t _ h => by omega, fun t ht h => by have := HN0.out; omega⟩, Lib.hid (Below.refl _ _)⟩
 case round =>
  obtain ⟨lo, hi, rfl, rfl, hlh, hin, HI, HB⟩ := hrel
  by_cases hlt : lo < hi
  ·have hm : (lo + hi) / 2 < ks.length := by have := HN0.out; omega
   obtain ⟨g, o, rfl, hc⟩ := rdk_cell HK.out hm
   have hcw := (HB.out.cell (p := ⟨g, o + (lo + hi) / 2, none⟩) (World.block_lt_of_cell? w _ hc)).trans hc
   obtain ⟨y, hy⟩ : ∃ y, ks[(lo + hi) / 2] = y := ⟨_, rfl⟩
   have hmem : y ∈ ks := by rw [← hy]; exact List.getElem_mem hm
   rw [hy] at hcw
   have HC := Lib.hid (And.intro (HA.out y hmem) (HL.out y hmem))
   have HM := Lib.hid hm
   have HY : Hid (∀ h : (lo + hi) / 2 < ks.length, ks[(lo + hi) / 2]'h = y) := Lib.hid (fun _ => hy)
   obtain ⟨d, hd⟩ : ∃ d, cmpL y x = d := ⟨_, rfl⟩
   have HD := Lib.hid hd
   clear hm hd hc hy hmem
   by_cases hneg : d < 0
   ·go_wp2_with (go_at_call 121; (refine (compare_right y x _ HC.out.1 HX.out HC.out.2 HLX.out).mono ?_; rw [HD.out]; rintro e w2 ⟨rfl, hb2⟩))
    have HB2 := Lib.hid (HB.out.trans (hb2.toBelow.mono HB.out.size))
    clear hb2
    go_roundw
    case rel =>
     exact ⟨(lo + hi) / 2 + 1, hi, by rw [show ((lo : Int) + (hi : Int)) / 2 + 1 = (((lo + hi) / 2 + 1 : Nat) : Int) by omega], rfl, by omega, hin, Lib.hid ⟨bs_step1 HR.out HM.out (by rw [HY.out HM.out, HD.out]; exact hneg), HI.out.2⟩, HB2⟩
    case measure => simp [intOf]; omega
   ·go_wp2_with (go_at_call 121; (refine (compare_right y x _ HC.out.1 HX.out HC.out.2 HLX.out).mono ?_; rw [HD.out]; rintro e w2 ⟨rfl, hb2⟩))
    have HB2 := Lib.hid (HB.out.trans (hb2.toBelow.mono HB.out.size))
    clear hb2
    go_roundw
    case rel =>
     exact ⟨lo, (lo + hi) / 2, rfl, by rw [show ((lo : Int) + (hi : Int)) / 2 = (((lo + hi) / 2 : Nat) : Int) by omega], by omega, by omega, Lib.hid ⟨HI.out.1, bs_step2 HR.out HM.out (by rw [HY.out HM.out, HD.out]; omega)⟩, HB2⟩
    case measure => simp [intOf]; omega
  ·obtain rfl : hi = lo := by omega
   by_cases hend : hi < n
   ·have hm : hi < ks.length := by have := HN0.out; omega
    obtain ⟨g, o, rfl, hc⟩ := rdk_cell HK.out hm
    have hcw := (HB.out.cell (p := ⟨g, o + hi, none⟩) (World.block_lt_of_cell? w _ hc)).trans hc
    obtain ⟨y, hy⟩ : ∃ y, ks[hi] = y := ⟨_, rfl⟩
    have hmem : y ∈ ks := by rw [← hy]; exact List.getElem_mem hm
    rw [hy] at hcw
    have HC := Lib.hid (And.intro (HA.out y hmem) (HL.out y hmem))
    have HM := Lib.hid hm
    have HY : Hid (∀ h : hi < ks.length, ks[hi]'h = y) := Lib.hid (fun _ => hy)
    obtain ⟨d, hd⟩ : ∃ d, cmpL y x = d := ⟨_, rfl⟩
    have HD := Lib.hid hd
    clear hm hd hc hy hmem
    by_cases hz : d = 0
    ·have hz1 : (d == 0) = true := by rw [hz]; rfl
     have HZ := Lib.hid hz
     clear hz
     go_wp2_with (go_at_call 121; (refine (compare_right y x _ HC.out.1 HX.out HC.out.2 HLX.out).mono ?_; rw [HD.out]; rintro e w2 ⟨rfl, hb2⟩))
     have HB2 := Lib.hid (HB.out.trans (hb2.toBelow.mono HB.out.size))
     clear hb2
     go_ret2
     exact ⟨⟨hi, .inl ⟨rfl, HM.out, bs_in HR.out HM.out (by rw [HY.out HM.out, HD.out]; exact HZ.out)⟩⟩, HB2.out⟩
    ·have hz1 : (d == 0) = false := by simpa using hz
     have HZ := Lib.hid hz
     clear hz
     go_wp2_with (go_at_call 121; (refine (compare_right y x _ HC.out.1 HX.out HC.out.2 HLX.out).mono ?_; rw [HD.out]; rintro e w2 ⟨rfl, hb2⟩))
     have HB2 := Lib.hid (HB.out.trans (hb2.toBelow.mono HB.out.size))
     clear hb2
     go_ret2
     exact ⟨⟨hi, .inr ⟨rfl, bs_out HR.out HI.out.1 HI.out.2 (fun h => by rw [HY.out HM.out, HD.out]; exact HZ.out)⟩⟩, HB2.out⟩
   ·go_wp2
    go_ret2
    exact ⟨⟨hi, .inr ⟨rfl, bs_out HR.out HI.out.1 HI.out.2 (fun h => absurd h (by have := HN0.out; omega))⟩⟩, HB.out⟩
theorem below_put {w w' : World} {g i : Nat} {u : Value} (h : Below w.heap.size w w') (hg : w.heap.size ≤ g) : Below w.heap.size w (w'.setCell ⟨g, i, none⟩ u) := below_of_grown (grown_put (grown_of_below h (some g)) i u) hg (Nat.le_refl _)
def OnP (w0 : World) (o : Option Tr) (w : World) (e : Ending) (w' : World) : Prop :=
 (match o with
  | none => e = .returned (.tuple #[.agg #[.nilIface], .bool false])
  | some u => ∃ tx ux, e = .returned (.tuple #[.agg #[.iface tx ux], .bool true]) ∧ RdA w0 u (.iface tx ux)) ∧ Below w.heap.size w w'
theorem at_any (t : Tr) (v : Value) (i : Nat) (hi : i < t.kids.length) (hn : t.kids.length ≤ 1048576) (w0 w : World) (h : RdA w0 t v) (hb0 : Below w0.heap.size w0 w) : Calls Tryz.prog 63 #[.agg #[v], .int .i64 i] w (OnP w0 (some t.kids[i]) w) := by
 have hba : Below w.heap.size w (w.alloc (.cells #[v] 58)) := (Below.refl _ _).alloc (Nat.le_refl _) _
 have hbb : Below w.heap.size w ((w.alloc (.cells #[v] 58)).alloc (.cells #[.nilIface] 58)) := hba.alloc hba.size _
 have hB4 : Blk ((w.alloc (.cells #[v] 58)).alloc (.cells #[.nilIface] 58)) (w.heap.size + 1) 58 #[.nilIface] := by
  have := Blk.new (w.alloc (.cells #[v] 58)) 58 #[.nilIface]
  simpa using this
 obtain ⟨A, c, vs, hI, hrow, hrl⟩ := RdT.itv h
 obtain ⟨g, o, tx, ux, rfl, hcell, hrd⟩ := row_at hrow hrl (Below.refl _ _) hi
 have HI := Lib.hid (itv_below (itv_below hI hb0) hbb)
 have HC := Lib.hid ((hb0.cell (p := ⟨g, o + i, none⟩) (World.block_lt_of_cell? w0 _ hcell)).trans hcell)
 have HRD := Lib.hid hrd
 have HBB := Lib.hid hbb
 have HB4 := Lib.hid hB4
 have hd0 : decide ((i : Int) < 0) = false := decide_eq_false (by omega)
 clear h hb0 hba hbb hB4 hI hrow hrl hcell hrd
 go_enter Tryz.func63, Tryz.ntmps63
 go_wp2_with fail
 ((with_reducible refine (itm_any HI.out).mono ?_); rintro e w1 ⟨rfl, hb⟩)
 have hbw := HBB.out.trans (hb.mono HBB.out.size)
 have hb4 := HB4.out.below hb HB4.out.lt
 have c4 := hb4.cell 0
 have f4 := hb4.frozen 0
 have d4 := (hb4.put 0 (.iface tx ux)).cell 0
 have hcw := (hbw.cell (p := ⟨g, o + i, none⟩) (World.block_lt_of_cell? w _ HC.out)).trans HC.out
 have HBW := Lib.hid (below_put (u := .iface tx ux) (i := 0) hbw (show w.heap.size ≤ w.heap.size + 1 by omega))
 have hd1 : decide ((t.kids.length : Int) ≤ (i : Int)) = false := decide_eq_false (by omega)
 have hi1 : (i : Int) < (t.kids.length : Int) := by omega
 have hi2 : (0 : Int) ≤ (i : Int) := by omega
 clear hb hb4 hbw
 simp at c4 d4
 go_wp2
 refine bodyPost_ret (v := .tuple #[.agg #[.iface tx ux], .bool true]) ?_ rfl ⟨⟨tx, ux, rfl, HRD.out⟩, HBW.out⟩
 simp [results, Tryz.results63, go_sem, d4]
end Nd
end Go.Proofs.YtbajkglacfheiaaGreatDoor
namespace Go.Proofs.YtbajkglacfheiaaGreatDoor
open Go.RowKit Mem Idx
namespace Nd
theorem lens_key {ks : List Tx} {l : List Tr} (h : (Tr.obj ks l).fit = true) : ∀ k ∈ ks, k.length ≤ 1099511627776 := by
 intro k hk
 obtain ⟨i, hi, rfl⟩ := List.getElem_of_mem hk
 have h1 := lens_at ks i hi
 have h2 := (fit_le h).2.1
 unfold Tr.bytes at h2
 omega
theorem kids_le {t : Tr} (h : t.fit = true) : t.kids.length ≤ 65536 := by
 have h0 := (fit_le h).1
 have h1 := nodes_len t.kids
 have h2 : nodesL t.kids ≤ t.nodes := by cases t <;> simp [Tr.kids, Tr.nodes, nodesL]
 omega
theorem keys_obj (ks : List Tx) (l : List Tr) (v : Value) (w : World) (h : RdA w (.obj ks l) v) : Calls Tryz.prog 141 #[.agg #[v]] w fun e w' => (∃ A c, e = .returned (.slice A ks.length c) ∧ RdK w (.slice A ks.length c) ks) ∧ Below w.heap.size w w' := keysr_any (fun _ => True) (.obj ks l) v w h
theorem find_any (ks : List Tx) (l : List Tr) (v : Value) (x : Tx) (w0 w : World) (h : RdA w0 (.obj ks l) v) (hb0 : Below w0.heap.size w0 w) (ho : (Tr.obj ks l).Ok) (hf : (Tr.obj ks l).fit = true) (hx : rightB x = true) (hlx : x.length ≤ 1099511627776) :
  Calls Tryz.prog 101 #[.agg #[v], .string ⟨x.toArray⟩] w (OnP w0 (onT x (.obj ks l)) w) := by
 have hba : Below w.heap.size w (w.alloc (.cells #[v] 58)) := (Below.refl _ _).alloc (Nat.le_refl _) _
 have hbb : Below w.heap.size w ((w.alloc (.cells #[v] 58)).alloc (.cells #[.nilIface] 58)) := hba.alloc hba.size _
 have hB2 : Blk ((w.alloc (.cells #[v] 58)).alloc (.cells #[.nilIface] 58)) w.heap.size 58 #[v] := (Blk.new w 58 #[v]).alloc _
 have hB4 : Blk ((w.alloc (.cells #[v] 58)).alloc (.cells #[.nilIface] 58)) (w.heap.size + 1) 58 #[.nilIface] := by
  have := Blk.new (w.alloc (.cells #[v] 58)) 58 #[.nilIface]
  simpa using this
 have hkl := kids_le hf
 have hks : ks.length = l.length ∧ Rise ks ∧ ks.all rightB = true := by unfold Tr.Ok at ho; exact ⟨ho.1, ho.2.1, ho.2.2.1⟩
 have HKS := Lib.hid hks
 have HKL := Lib.hid (show l.length ≤ 65536 from hkl)
 have HLK := Lib.hid (lens_key hf)
 have HX := Lib.hid (And.intro hx hlx)
 have HR := Lib.hid h
 have HB0 := Lib.hid hb0
 have HBB := Lib.hid hbb
 have HB2 := Lib.hid hB2
 have HB4 := Lib.hid hB4
 obtain ⟨q, hq⟩ : ∃ q, onT x (.obj ks l) = q := ⟨_, rfl⟩
 rw [hq]
 have HQ := Lib.hid hq
 clear h hb0 ho hf hx hlx hba hbb hB2 hB4 hkl hks hq
 go_enter Tryz.func101, Tryz.ntmps101
 go_wp2_with fail
 ((with_reducible refine (keys_obj ks l v _ (rda_below (rda_below HR.out HB0.out) HBB.out)).mono ?_); rintro e w1 ⟨⟨A, c, rfl, hk⟩, hb⟩)
 have hbw := HBB.out.trans (hb.mono HBB.out.size)
 have HK1 := Lib.hid (hk.below hb)
 have HB21 := Lib.hid (HB2.out.below hb HB2.out.lt)
 have HB41 := Lib.hid (HB4.out.below hb HB4.out.lt)
 have HBW := Lib.hid hbw
 clear hk hb hbw
 go_wp2_with fail
 ((with_reducible refine (search_any A c ks x _ HK1.out HKS.out.2.1 HKS.out.2.2 HX.out.1 HLK.out HX.out.2 (by have := HKS.out.1; have := HKL.out; omega)).mono ?_); rintro e w2 ⟨⟨i, hi⟩, hb2⟩)
 have hbw2 := HBW.out.trans (hb2.mono HBW.out.size)
 have hB22 := HB21.out.below hb2 HB21.out.lt
 have hB42 := HB41.out.below hb2 HB41.out.lt
 rcases hi with ⟨rfl, hil, hxm, hxi⟩ | ⟨rfl, hxm⟩
 ·have hil2 : i < l.length := by have := HKS.out.1; omega
  have hq : q = some l[i] := by rw [← HQ.out, onT_obj, if_pos hxm, hxi, List.getElem?_eq_getElem hil2]
  subst hq
  have HB42 := Lib.hid hB42
  have HBW2 := Lib.hid hbw2
  have c2 := hB22.cell 0
  simp at c2
  have HAT := Lib.hid (at_any (.obj ks l) v i hil2 (by have := HKL.out; show l.length ≤ _; omega) w0 w2 HR.out (HB0.out.trans (hbw2.mono HB0.out.size)))
  clear hB22 hB42 hxm hxi hbw2 hb2
  go_wp2_with fail
  ((with_reducible refine HAT.out.mono ?_); rintro e w3 ⟨⟨tx, ux, rfl, hrd⟩, hb3⟩)
  have hbw3 := HBW2.out.trans (hb3.mono HBW2.out.size)
  have hb4 := HB42.out.below hb3 HB42.out.lt
  have c4 := hb4.cell 0
  have f4 := hb4.frozen 0
  have d4 := (hb4.put 0 (.iface tx ux)).cell 0
  have HBW3 := Lib.hid (below_put (u := .iface tx ux) (i := 0) hbw3 (show w.heap.size ≤ w.heap.size + 1 by omega))
  simp at c4 d4
  clear hb4 hb3 hbw3
  have HRD := Lib.hid hrd
  clear hrd
  go_wp2
  refine bodyPost_ret (v := .tuple #[.agg #[.iface tx ux], .bool true]) ?_ rfl ⟨⟨tx, ux, rfl, HRD.out⟩, HBW3.out⟩
  simp [results, Tryz.results101, go_sem, d4]
 ·have hq : q = none := by rw [← HQ.out, onT_obj, if_neg hxm]
  subst hq
  have c4 := hB42.cell 0
  have f4 := hB42.frozen 0
  have d4 := (hB42.put 0 .nilIface).cell 0
  have HBW3 := Lib.hid (below_put (u := .nilIface) (i := 0) hbw2 (show w.heap.size ≤ w.heap.size + 1 by omega))
  simp at c4 d4
  clear hB22 hB42 hxm hb2
  go_wp2
  refine bodyPost_ret (v := .tuple #[.agg #[.nilIface], .bool false]) ?_ rfl ⟨rfl, HBW3.out⟩
  simp [results, Tryz.results101, go_sem, d4]
theorem srt_list (t : Tr) (h : (t.srt : Int) = 5) : ∃ l, t = .list l := by
 cases t <;> simp [Tr.srt] at h
 exact ⟨_, rfl⟩
theorem srt_obj (t : Tr) (h : (t.srt : Int) = 6) : ∃ ks l, t = .obj ks l := by
 cases t <;> simp [Tr.srt] at h
 exact ⟨_, _, rfl⟩
theorem onT_no {x : Tx} {t : Tr} (h1 : ¬ (t.srt : Int) = 5) (h2 : ¬ (t.srt : Int) = 6) : onT x t = none := by
 cases t <;> simp [Tr.srt] at h1 h2 <;> rfl
theorem on_any (t : Tr) (v : Value) (x : Tx) (w0 w : World) (h : RdA w0 t v) (hb0 : Below w0.heap.size w0 w) (ho : t.Ok) (hf : t.fit = true) (hx : rightB x = true) (hlx : x.length ≤ 1099511627776) (hT : Tab w) :
  Calls Tryz.prog 96 #[.agg #[v], .string ⟨x.toArray⟩] w (OnP w0 (onT x t) w) := by
 have hba : Below w.heap.size w (w.alloc (.cells #[v] 58)) := (Below.refl _ _).alloc (Nat.le_refl _) _
 have hbb : Below w.heap.size w ((w.alloc (.cells #[v] 58)).alloc (.cells #[.nilIface] 58)) := hba.alloc hba.size _
 have hB2 : Blk ((w.alloc (.cells #[v] 58)).alloc (.cells #[.nilIface] 58)) w.heap.size 58 #[v] := (Blk.new w 58 #[v]).alloc _
 have hB4 : Blk ((w.alloc (.cells #[v] 58)).alloc (.cells #[.nilIface] 58)) (w.heap.size + 1) 58 #[.nilIface] := by
  have := Blk.new (w.alloc (.cells #[v] 58)) 58 #[.nilIface]
  simpa using this
 have hkl := kids_le hf
 have HKL := Lib.hid hkl
 have HO := Lib.hid (And.intro ho hf)
 have HX := Lib.hid (And.intro hx hlx)
 have HR := Lib.hid h
 have HB0 := Lib.hid hb0
 have HBB := Lib.hid hbb
 have HB2 := Lib.hid hB2
 have HB4 := Lib.hid hB4
 have HT := Lib.hid hT
 obtain ⟨q, hq⟩ : ∃ q, onT x t = q := ⟨_, rfl⟩
 rw [hq]
 have HQ := Lib.hid hq
 clear h hb0 ho hf hx hlx hba hbb hB2 hB4 hkl hq hT
 go_enter Tryz.func96, Tryz.ntmps96
 go_wp2_with fail
 ((with_reducible refine (sort_any (fun _ => True) t v _ (rda_below (rda_below HR.out HB0.out) HBB.out)).mono ?_); rintro e w1 ⟨rfl, hb⟩)
 have hbw := HBB.out.trans (hb.mono HBB.out.size)
 have HB21 := Lib.hid (HB2.out.below hb HB2.out.lt)
 have HB41 := Lib.hid (HB4.out.below hb HB4.out.lt)
 have HBW := Lib.hid hbw
 clear hb hbw
 by_cases h5 : (t.srt : Int) = 5
 ·obtain ⟨l, rfl⟩ := srt_list t h5
  have h5b : (((Tr.list l).srt : Int) == 5) = true := by simp [h5]
  have c2 := HB21.out.cell 0
  simp at c2
  clear h5
  go_wp2_with fail
  ((with_reducible refine (len_any (fun _ => True) (.list l) v _ (rda_below (rda_below HR.out HB0.out) HBW.out)).mono ?_); rintro e w2 ⟨rfl, hb2⟩)
  have HBW2 := Lib.hid (HBW.out.trans (hb2.mono HBW.out.size))
  have HB22 := Lib.hid (HB21.out.below hb2 HB21.out.lt)
  have HB42 := Lib.hid (HB41.out.below hb2 HB41.out.lt)
  clear hb2 c2
  go_wp2_with fail
  ((with_reducible refine (index_any x _ (by have := HX.out.2; omega) _ (HT.out.next HBW2.out)).mono ?_); rintro e w3 ⟨rfl, hb3⟩)
  have HBW3 := Lib.hid (HBW2.out.trans (hb3.mono HBW2.out.size))
  have HB23 := Lib.hid (HB22.out.below hb3 HB22.out.lt)
  have HB43 := Lib.hid (HB42.out.below hb3 HB42.out.lt)
  clear hb3
  cases hi : idxC x (((Tr.list l).kids.length : Nat) : Int) with
  | none =>
   have hq : q = none := by rw [← HQ.out, onT_list, show idxC x (l.length : Int) = none from hi]; rfl
   subst hq
   unfold idxV
   have c4 := HB43.out.cell 0
   have f4 := HB43.out.frozen 0
   have d4 := (HB43.out.put 0 .nilIface).cell 0
   have HBW4 := Lib.hid (below_put (u := .nilIface) (i := 0) HBW3.out (show w.heap.size ≤ w.heap.size + 1 by omega))
   simp at c4 d4
   clear hi
   go_wp2
   refine bodyPost_ret (v := .tuple #[.agg #[.nilIface], .bool false]) ?_ rfl ⟨rfl, HBW4.out⟩
   simp [results, Tryz.results96, go_sem, d4]
  | some n =>
   obtain ⟨hn0, hn1⟩ := idxC_range hi
   obtain ⟨i, rfl⟩ : ∃ i : Nat, n = (i : Int) := ⟨n.toNat, by omega⟩
   have hil : i < l.length := by have : ((Tr.list l).kids.length : Int) = (l.length : Int) := rfl; omega
   have hq : q = some l[i] := by rw [← HQ.out, onT_list, show idxC x (l.length : Int) = some (i : Int) from hi]; show l[((i : Nat) : Int).toNat]? = _; rw [Int.toNat_natCast, List.getElem?_eq_getElem hil]
   subst hq
   unfold idxV
   have c2 := HB23.out.cell 0
   simp at c2
   have HAT := Lib.hid (at_any (.list l) v i hil (by have := HKL.out; omega) w0 w3 HR.out (HB0.out.trans (HBW3.out.mono HB0.out.size)))
   clear hi hn0 hn1
   go_wp2_with fail
   ((with_reducible refine HAT.out.mono ?_); rintro e w4 ⟨⟨tx, ux, rfl, hrd⟩, hb4⟩)
   have hbw4 := HBW3.out.trans (hb4.mono HBW3.out.size)
   have hB4 := HB43.out.below hb4 HB43.out.lt
   have c4 := hB4.cell 0
   have f4 := hB4.frozen 0
   have d4 := (hB4.put 0 (.iface tx ux)).cell 0
   have HBW4 := Lib.hid (below_put (u := .iface tx ux) (i := 0) hbw4 (show w.heap.size ≤ w.heap.size + 1 by omega))
   have HRD := Lib.hid hrd
   simp at c4 d4
   clear hB4 hb4 hbw4 hrd
   go_wp2
   refine bodyPost_ret (v := .tuple #[.agg #[.iface tx ux], .bool true]) ?_ rfl ⟨⟨tx, ux, rfl, HRD.out⟩, HBW4.out⟩
   simp [results, Tryz.results96, go_sem, d4]
 ·have h5b : ((t.srt : Int) == 5) = false := by simpa using h5
  by_cases h6 : (t.srt : Int) = 6
  ·obtain ⟨ks, l, rfl⟩ := srt_obj t h6
   have h6b : (((Tr.obj ks l).srt : Int) == 6) = true := by simp [h6]
   have c2 := HB21.out.cell 0
   simp at c2
   have HF := Lib.hid (find_any ks l v x w0 w1 HR.out (HB0.out.trans (HBW.out.mono HB0.out.size)) HO.out.1 HO.out.2 HX.out.1 HX.out.2)
   rw [HQ.out] at HF
   clear h5 h6
   go_wp2_with fail
   ((with_reducible refine HF.out.mono ?_); rintro e w4 ⟨he, hb4⟩)
   have hbw4 := HBW.out.trans (hb4.mono HBW.out.size)
   have hB4 := HB41.out.below hb4 HB41.out.lt
   have c4 := hB4.cell 0
   have f4 := hB4.frozen 0
   simp at c4
   cases q with
   | none =>
    obtain rfl := he
    have d4 := (hB4.put 0 .nilIface).cell 0
    have HBW4 := Lib.hid (below_put (u := .nilIface) (i := 0) hbw4 (show w.heap.size ≤ w.heap.size + 1 by omega))
    simp at d4
    clear hB4 hb4 hbw4
    go_wp2
    refine bodyPost_ret (v := .tuple #[.agg #[.nilIface], .bool false]) ?_ rfl ⟨rfl, HBW4.out⟩
    simp [results, Tryz.results96, go_sem, d4]
   | some u =>
    obtain ⟨tx, ux, rfl, hrd⟩ := he
    have d4 := (hB4.put 0 (.iface tx ux)).cell 0
    have HBW4 := Lib.hid (below_put (u := .iface tx ux) (i := 0) hbw4 (show w.heap.size ≤ w.heap.size + 1 by omega))
    have HRD := Lib.hid hrd
    simp at d4
    clear hB4 hb4 hbw4 hrd
    go_wp2
    refine bodyPost_ret (v := .tuple #[.agg #[.iface tx ux], .bool true]) ?_ rfl ⟨⟨tx, ux, rfl, HRD.out⟩, HBW4.out⟩
    simp [results, Tryz.results96, go_sem, d4]
  ·have h6b : ((t.srt : Int) == 6) = false := by simpa using h6
   have hq : q = none := by rw [← HQ.out]; exact onT_no h5 h6
   subst hq
   have c4 := HB41.out.cell 0
   have f4 := HB41.out.frozen 0
   have d4 := (HB41.out.put 0 .nilIface).cell 0
   have HBW4 := Lib.hid (below_put (u := .nilIface) (i := 0) HBW.out (show w.heap.size ≤ w.heap.size + 1 by omega))
   simp at c4 d4
   clear h5 h6
   go_wp2
   refine bodyPost_ret (v := .tuple #[.agg #[.nilIface], .bool false]) ?_ rfl ⟨rfl, HBW4.out⟩
   simp [results, Tryz.results96, go_sem, d4]
end Nd
end Go.Proofs.YtbajkglacfheiaaGreatDoor
namespace Go.Proofs.YtbajkglacfheiaaGreatDoor
open Go.RowKit Mem Idx Tok
namespace Nd
def LeadP (w0 : World) (t : Tr) (ts : List Tx) (w : World) (e : Ending) (w' : World) : Prop :=
 (match leadT t ts 0 with
  | .inl n => e = .returned (.tuple #[.agg #[.nilIface], .int .i64 n])
  | .inr u => ∃ tx ux, e = .returned (.tuple #[.agg #[.iface tx ux], .int .i64 ts.length]) ∧ RdA w0 u (.iface tx ux) ∧ u.Ok ∧ u.fit = true) ∧ Below w.heap.size w w'
theorem leadP_none {w0 : World} {t : Tr} {ts : List Tx} {w w' : World} {k : Nat} (h : leadT t ts 0 = .inl k) (hb : Below w.heap.size w w') : LeadP w0 t ts w (.returned (.tuple #[.agg #[.nilIface], .int .i64 k])) w' := by
 unfold LeadP
 rw [h]
 exact ⟨rfl, hb⟩
theorem leadP_some {w0 : World} {t u : Tr} {ts : List Tx} {w w' : World} {n : Nat} {tx : TypeId} {ux : Value} (h : leadT t ts 0 = .inr u) (hr : RdA w0 u (.iface tx ux)) (ho : u.Ok ∧ u.fit = true) (hn : ts.length = n) (hb : Below w.heap.size w w') : LeadP w0 t ts w (.returned (.tuple #[.agg #[.iface tx ux], .int .i64 n])) w' := by
 unfold LeadP
 rw [h]
 subst hn
 exact ⟨⟨tx, ux, rfl, hr, ho⟩, hb⟩
theorem rd_at {w : World} {A : Option Addr} {n c : Nat} {xs : List Tx} (h : Rd w (.slice A n c) xs) {j : Nat} (hj : j < xs.length) : ∃ g o, A = some ⟨g, o, none⟩ ∧ w.cell? ⟨g, o + j, none⟩ = some (.string ⟨xs[j].toArray⟩) := by
 obtain ⟨A', c', e', h'⟩ := h
 injection e' with e1 e2 e3
 obtain ⟨g, o, hA, _, hc⟩ := h' j hj
 refine ⟨g, o, by rw [e1, hA], ?_⟩
 rw [hc]
 first | rfl | simp [strV]
theorem lead_any (g : Nat) (t : Tr) (v : Value) (A : Option Addr) (c : Nat) (ts : List Tx) (w0 w : World) (hB : Blk w0 g 123 #[v]) (h : RdA w0 t v) (hb0 : Below w0.heap.size w0 w) (ho : t.Ok) (hf : t.fit = true)
  (hR : Rd w (.slice A ts.length c) ts) (hx : ∀ x ∈ ts, rightB x = true ∧ x.length ≤ 1099511627776) (hn : ts.length ≤ 65536) (hT : Tab w) :
  Calls Tryz.prog 38 #[.pointer (some ⟨g, 0, none⟩), .slice A ts.length c] w (LeadP w0 t ts w) := by
 obtain ⟨tx, ux, rfl⟩ := RdT.iface h
 have hba : Below w.heap.size w (w.alloc (.cells #[.nilIface] 58)) := (Below.refl _ _).alloc (Nat.le_refl _) _
 have HBT : Hid (Blk (w.alloc (.cells #[.nilIface] 58)) g 123 #[.iface tx ux]) := Lib.hid ((hB.below hb0 hB.lt).alloc _)
 have HB4 : Hid (Blk (w.alloc (.cells #[.nilIface] 58)) w.heap.size 58 #[.nilIface]) := Lib.hid (Blk.new w 58 #[.nilIface])
 have HBA := Lib.hid hba
 have HR := Lib.hid h
 have HB0 := Lib.hid hb0
 have HO := Lib.hid (And.intro ho hf)
 have HTS := Lib.hid hR
 have HX := Lib.hid hx
 have HT := Lib.hid hT
 obtain ⟨n, hn0⟩ : ∃ n, ts.length = n := ⟨_, rfl⟩
 rw [hn0] at hn
 have HN0 := Lib.hid hn0
 rw [hn0]
 clear hB h hb0 ho hf hR hx hT hba hn0
 go_enter Tryz.func38, Tryz.ntmps38
 go_wp2_with fail
 ((with_reducible refine (root_any g _ tx ux _ HBT.out).mono ?_); rintro e w1 ⟨rfl, hb1⟩)
 have hB41 := HB4.out.below hb1 HB4.out.lt
 have hbw1 := HBA.out.trans (hb1.mono HBA.out.size)
 have hs1 : w.heap.size + 1 ≤ w1.heap.size := by have := hb1.size; simpa using this
 have HB41 := Lib.hid hB41
 have HBW1 := Lib.hid hbw1
 have hsz : (w1.alloc (.cells #[.iface tx ux] 58)).heap.size = w1.heap.size + 1 := by simp
 have HB62 : Hid (Blk (w1.alloc (.cells #[.iface tx ux] 58)) w1.heap.size 58 #[.iface tx ux]) := Lib.hid (Blk.new w1 58 #[.iface tx ux])
 have HB42 : Hid (Blk (w1.alloc (.cells #[.iface tx ux] 58)) w.heap.size 58 #[.nilIface]) := Lib.hid (hB41.alloc _)
 have HBW2 : Hid (Below w.heap.size w (w1.alloc (.cells #[.iface tx ux] 58))) := Lib.hid (hbw1.alloc (by omega) _)
 clear hb1 hB41 hbw1 HB41 HBW1
 go_wp2_with fail
 generalize w1.alloc (.cells #[.iface tx ux] 58) = w2 at *
 obtain ⟨b6, hb6⟩ : ∃ b6, w1.heap.size = b6 := ⟨_, rfl⟩
 rw [hb6] at HB62 hs1 ⊢
 clear hb6 hsz HBT HB4 HBA
 go_loopw [15] (fun c15 wr => ∃ (k : Nat) (u : Tr) (ty : TypeId) (uy : Value), k ≤ n ∧ c15 = .int .i64 k ∧ Hid (leadT t ts 0 = leadT u (ts.drop k) k) ∧ Hid ((u.Ok ∧ u.fit = true) ∧ RdA w0 u (.iface ty uy)) ∧ Hid (Blk wr b6 58 #[.iface ty uy] ∧ Blk wr w.heap.size 58 #[.nilIface] ∧ Below w.heap.size w wr)) (fun c15 _ => n - (intOf c15).toNat)
 case atStart => exact ⟨0, t, tx, ux, Nat.zero_le _, rfl, Lib.hid rfl, Lib.hid ⟨HO.out, HR.out⟩, Lib.hid ⟨HB62.out, HB42.out, HBW2.out⟩⟩
 case round =>
  clear HB62 HB42 HBW2 HO HR
  obtain ⟨k, u, ty, uy, hk, rfl, HL, HU, HI⟩ := hrel
  have c6 := HI.out.1.cell 0
  simp at c6
  by_cases hlt : k < n
  ·have hkt : k < ts.length := by have := HN0.out; omega
   obtain ⟨g', o, rfl, hc⟩ := rd_at HTS.out hkt
   have hcw := (HI.out.2.2.cell (p := ⟨g', o + k, none⟩) (World.block_lt_of_cell? w _ hc)).trans hc
   have hxk := HX.out _ (List.getElem_mem hkt)
   have hl := HL.out
   rw [List.drop_eq_getElem_cons hkt, lead_cons] at hl
   generalize ts[k] = x at hcw hxk hl
   have hon := on_any u (.iface ty uy) x w0 wr HU.out.2 (HB0.out.trans (HI.out.2.2.mono HB0.out.size)) HU.out.1.1 HU.out.1.2 hxk.1 hxk.2 (HT.out.next HI.out.2.2)
   have huo : ∀ v, onT x u = some v → v.Ok ∧ v.fit = true := fun v hv => onT_ok HU.out.1.1 hv
   generalize onT x u = q at hon hl huo
   have HON := Lib.hid hon
   have HLN := Lib.hid hl
   have HUO := Lib.hid huo
   clear hc hxk hl hon huo hkt
   go_wp2_with fail
   ((with_reducible refine HON.out.mono ?_); rintro e w3 ⟨he, hb3⟩)
   have hbw3 := HI.out.2.2.trans (hb3.mono HI.out.2.2.size)
   have hs3 := hb3.size
   have hB6 := HI.out.1.below hb3 HI.out.1.lt
   have hB4 := HI.out.2.1.below hb3 HI.out.2.1.lt
   have hs4 := hB4.lt
   have hs6 := hB6.lt
   cases q with
   | none =>
    obtain rfl := he
    have hB44 := (hB4.put 0 .nilIface).alloc (.cells #[.nilIface] 58)
    have c4 := hB4.cell 0
    have f4 := hB4.frozen 0
    have d4 := hB44.cell 0
    have HBW4 := Lib.hid ((below_put (u := .nilIface) (i := 0) hbw3 (Nat.le_refl w.heap.size)).alloc (by simp; omega) (.cells #[.nilIface] 58))
    simp at c4 d4
    clear hB44 hB4 hB6 hb3 hbw3 c6
    go_wp2
    refine bodyPost_ret (v := .tuple #[.agg #[.nilIface], .int .i64 k]) ?_ rfl (leadP_none HLN.out HBW4.out)
    simp [results, Tryz.results38, go_sem, d4]
   | some y =>
    obtain ⟨tz, uz, rfl, hrd⟩ := he
    have hB66 := (hB6.put 0 (.iface tz uz)).alloc (.cells #[.iface tz uz] 58)
    have c66 := hB6.cell 0
    have f66 := hB6.frozen 0
    simp at c66
    have HN6 := Lib.hid hB66
    have HN4 := Lib.hid ((hB4.far (p := ⟨b6, 0, none⟩) (show w.heap.size ≠ b6 by omega) (.iface tz uz)).alloc (.cells #[.iface tz uz] 58))
    have HBW4 := Lib.hid ((below_put (u := .iface tz uz) (i := 0) hbw3 (show w.heap.size ≤ b6 by omega)).alloc (by simp; omega) (.cells #[.iface tz uz] 58))
    have HRD := Lib.hid hrd
    clear hB66 hB4 hB6 hb3 hbw3 hrd c6
    go_wp2
    go_roundw
    case rel => exact ⟨k + 1, y, tz, uz, by omega, by go_num, Lib.hid HLN.out, Lib.hid ⟨HUO.out y rfl, HRD.out⟩, Lib.hid ⟨HN6.out, HN4.out, HBW4.out⟩⟩
    case measure => simp [intOf]; omega
  ·obtain rfl : k = n := by omega
   have c4 := HI.out.2.1.cell 0
   have f4 := HI.out.2.1.frozen 0
   have d4 := (HI.out.2.1.put 0 (.iface ty uy)).cell 0
   have HBW4 := Lib.hid (below_put (u := .iface ty uy) (i := 0) HI.out.2.2 (Nat.le_refl w.heap.size))
   have HLE : Hid (leadT t ts 0 = .inr u) := Lib.hid (by rw [HL.out, List.drop_of_length_le (by have := HN0.out; omega), lead_nil])
   simp at c4 d4
   go_wp2
   refine bodyPost_ret (v := .tuple #[.agg #[.iface ty uy], .int .i64 k]) ?_ rfl (leadP_some HLE.out HU.out.2 HU.out.1 HN0.out HBW4.out)
   simp [results, Tryz.results38, go_sem, d4]
end Nd
end Go.Proofs.YtbajkglacfheiaaGreatDoor
namespace Go.Proofs.YtbajkglacfheiaaGreatDoor
open Go.RowKit Mem Utf Ref3 Idx Tok TokC
namespace Nd
theorem escs_long : ∀ t : List UInt8, t.length ≤ (escs t).length
 | [] => Nat.le_refl _
 | c :: t => by
  rw [escs_cons, List.length_append, List.length_cons]
  have := escs_long t
  have : 1 ≤ (esc c).length := by
   unfold esc
   split
   ·simp
   ·split <;> simp
  omega
theorem bulk_printed : ∀ ts : List (List UInt8), bulkS ts ≤ (printS ts).length
 | [] => Nat.le_refl _
 | t :: ts => by
  rw [print_cons, List.length_cons, List.length_append, bulkS]
  have := bulk_printed ts
  have := escs_long t
  omega
theorem rd_take {w : World} {A : Option Addr} {n c : Nat} {xs : List (List UInt8)} (h : Rd w (.slice A n c) xs) {k : Nat} (hk : k ≤ xs.length) (c' : Nat) : Rd w (.slice A k c') (xs.take k) := by
 obtain ⟨A, c, e, hc⟩ := h
 injection e with e1 _ _
 subst e1
 have hl : (xs.take k).length = k := by rw [List.length_take]; omega
 refine ⟨_, c', by rw [hl], fun j hj => ?_⟩
 obtain ⟨g, o, rfl, hl, hcell⟩ := hc j (by omega)
 exact ⟨g, o, rfl, hl, by rw [List.getElem_take]; exact hcell⟩
theorem own_capP {w : World} {base n : Nat} {e : TypeId} {A : Option Addr} {m c : Nat} {xs : List Value} (h : w.ownsRow base e 1 (.slice A m c) n xs) : m ≤ c := by
 rcases h.2 with ⟨h', h0⟩ | ⟨g, cap, cur, h', _, _, hn, _⟩
 ·injection h' with _ h1 h2
  omega
 ·injection h' with _ h1 h2
  omega
theorem toks_fine {l : List UInt8} {ts : List (List UInt8)} (h : parseS (wrong l) l = .ok ts) : (∀ x ∈ ts, rightB x = true ∧ x.length ≤ l.length) ∧ ts.length ≤ 65536 ∧ bulkS ts ≤ l.length := by
 obtain ⟨h1, h2, h3⟩ := parse_print h
 have hb := bulk_printed ts
 rw [h2] at hb
 refine ⟨fun x hx => ⟨(right_wrong x).trans (decide_eq_true ((parse_back h).2 x hx)), ?_⟩, h3, hb⟩
 obtain ⟨k, hk, rfl⟩ := List.getElem_of_mem hx
 have := bulk_at ts k hk
 omega
theorem print_front {l : List UInt8} {ts : List (List UInt8)} (h : parseS (wrong l) l = .ok ts) (n : Nat) : printR wrong (ts.take n) = .ok (printS (ts.take n)) ∧ parseS (wrong (printS (ts.take n))) (printS (ts.take n)) = .ok (ts.take n) := by
 have hr : ∀ t ∈ ts.take n, (wrong t).1 = 0 := fun t ht => (parse_back h).2 t (List.mem_of_mem_take ht)
 have hl : (ts.take n).length ≤ 65536 := by rw [List.length_take]; have := (toks_fine h).2.1; omega
 refine ⟨?_, parse_of_print ((right_print _).2 hr) hl⟩
 unfold printR
 rw [if_neg (by omega), (badI_none _ 0).2 hr]
def FindP (w0 : World) (t : Tr) (l : List UInt8) (w : World) (e : Ending) (w' : World) : Prop :=
 (match parseS (wrong l) l with
  | .error x => e = .returned (.tuple #[.agg #[.nilIface], Go.Proofs.YtbajkglacfheiaaGreatDoor.errV x.1 x.2])
  | .ok ts => match leadT t ts 0 with
   | .inl n => e = .returned (.tuple #[.agg #[.nilIface], .iface 139 (.agg #[.int .i64 4, .string ⟨(printS (ts.take n)).toArray⟩])])
   | .inr u => ∃ tx ux, e = .returned (.tuple #[.agg #[.iface tx ux], .nilIface]) ∧ RdA w0 u (.iface tx ux) ∧ u.Ok ∧ u.fit = true) ∧ Below w.heap.size w w'
theorem findP_err {w0 : World} {t : Tr} {l : List UInt8} {w w' : World} {x : Int × Int} (h : parseS (wrong l) l = .error x) (hb : Below w.heap.size w w') : FindP w0 t l w (.returned (.tuple #[.agg #[.nilIface], Go.Proofs.YtbajkglacfheiaaGreatDoor.errV x.1 x.2])) w' := by
 unfold FindP
 rw [h]
 exact ⟨rfl, hb⟩
theorem findP_none {w0 : World} {t : Tr} {l : List UInt8} {w w' : World} {ts : List (List UInt8)} {n : Nat} (h : parseS (wrong l) l = .ok ts) (h2 : leadT t ts 0 = .inl n) (hb : Below w.heap.size w w') : FindP w0 t l w (.returned (.tuple #[.agg #[.nilIface], .iface 139 (.agg #[.int .i64 4, .string ⟨(printS (ts.take n)).toArray⟩])])) w' := by
 unfold FindP
 rw [h]
 dsimp only
 rw [h2]
 exact ⟨rfl, hb⟩
theorem findP_some {w0 : World} {t u : Tr} {l : List UInt8} {w w' : World} {ts : List (List UInt8)} {tx : TypeId} {ux : Value} (h : parseS (wrong l) l = .ok ts) (h2 : leadT t ts 0 = .inr u) (hr : RdA w0 u (.iface tx ux)) (ho : u.Ok ∧ u.fit = true) (hb : Below w.heap.size w w') : FindP w0 t l w (.returned (.tuple #[.agg #[.iface tx ux], .nilIface])) w' := by
 unfold FindP
 rw [h]
 dsimp only
 rw [h2]
 exact ⟨⟨tx, ux, rfl, hr, ho⟩, hb⟩
theorem errV_form (n a : Int) : ∃ T u, Go.Proofs.YtbajkglacfheiaaGreatDoor.errV n a = .iface T u := by
 unfold Go.Proofs.YtbajkglacfheiaaGreatDoor.errV
 split
 ·exact ⟨_, _, rfl⟩
 ·exact ⟨_, _, rfl⟩
theorem lead_of_toks {t : Tr} {ts : List Tx} {n : Nat} (h : leadT t ts 0 = .inl n) : n < ts.length := by
 have := lead_lt ts t 0 n h
 omega
theorem pfind_any (g : Nat) (t : Tr) (v : Value) (l : List UInt8) (w0 w : World) (hB : Blk w0 g 123 #[v]) (h : RdA w0 t v) (hb0 : Below w0.heap.size w0 w) (ho : t.Ok) (hf : t.fit = true) (hl : l.length ≤ 4194304) (hG : Glob w) (hT : Tab w) :
  Calls Tryz.prog 13 #[.pointer (some ⟨g, 0, none⟩), .string ⟨l.toArray⟩] w (FindP w0 t l w) := by
 have hba : Below w.heap.size w (w.alloc (.cells #[.nilIface] 58)) := (Below.refl _ _).alloc (Nat.le_refl _) _
 have HB4 : Hid (Blk (w.alloc (.cells #[.nilIface] 58)) w.heap.size 58 #[.nilIface]) := Lib.hid (Blk.new w 58 #[.nilIface])
 have HBA := Lib.hid hba
 have HB := Lib.hid hB
 have HR := Lib.hid h
 have HB0 := Lib.hid hb0
 have HO := Lib.hid (And.intro ho hf)
 have HL := Lib.hid hl
 have HG := Lib.hid hG
 have HT := Lib.hid hT
 have q1 := err_ne_nil
 have q2 := err_ne_held
 have hsz0 : (ByteArray.mk l.toArray).size ≤ 2147483648 := by show l.toArray.size ≤ _; rw [List.size_toArray]; omega
 clear hB h hb0 ho hf hl hG hT hba
 go_enter Tryz.func13, Tryz.ntmps13
 go_wp2_with fail
 ((with_reducible refine (parse_any ⟨l.toArray⟩ hsz0 _ (HG.out.next HBA.out)).mono ?_); rintro e w1 ⟨hb1, he, hok⟩)
 have he' : ∀ x, parseS (wrong l) l = .error x → e = .returned (.tuple #[.slice none 0 0, Go.Proofs.YtbajkglacfheiaaGreatDoor.errV x.1 x.2]) := he
 have hok' : ∀ ts, parseS (wrong l) l = .ok ts → ∃ v, e = .returned (.tuple #[v, .nilIface]) ∧ w1.ownsRow _ 9 1 v ts.length (ts.map strV) := hok
 clear he hok
 have hB41 := HB4.out.below hb1 HB4.out.lt
 have hbw1 := HBA.out.trans (hb1.mono HBA.out.size)
 cases hp : parseS (wrong l) l with
 | error x =>
  obtain rfl := he' x hp
  clear he' hok' hb1
  have HP := Lib.hid hp
  clear hp
  have HF := Lib.hid (findP_err (w0 := w0) (t := t) HP.out (below_put (u := .nilIface) (i := 0) hbw1 (Nat.le_refl w.heap.size)))
  obtain ⟨T, u, hTu⟩ := errV_form x.1 x.2
  rw [hTu] at HF ⊢
  clear hTu
  have c4 := hB41.cell 0
  have f4 := hB41.frozen 0
  have d4 := (hB41.put 0 .nilIface).cell 0
  simp at c4 d4
  clear hB41 hbw1
  go_wp2
  refine bodyPost_ret (v := .tuple #[.agg #[.nilIface], .iface T u]) ?_ rfl HF.out
  simp [results, Tryz.results13, go_sem, d4]
 | ok ts =>
  obtain ⟨tv, rfl, hown⟩ := hok' ts hp
  clear he' hok' hb1
  obtain ⟨A, c, rfl⟩ := own_slice hown
  have hrd : Rd w1 (.slice A ts.length c) ts := Rd.of_own hown
  have htf := toks_fine hp
  have HP := Lib.hid hp
  have HTF := Lib.hid htf
  have HRD := Lib.hid hrd
  have HOWN := Lib.hid hown
  have HB41 := Lib.hid hB41
  have HBW1 := Lib.hid hbw1
  have HLD := Lib.hid (lead_any g t v A c ts w0 w1 HB.out HR.out (HB0.out.trans (hbw1.mono HB0.out.size)) HO.out.1 HO.out.2 hrd (fun x hx => ⟨(htf.1 x hx).1, by have := (htf.1 x hx).2; have := HL.out; omega⟩) htf.2.1 (HT.out.next hbw1))
  have hn := htf.2.1
  clear hp hown htf hrd hB41 hbw1
  go_wp2_with fail
  ((with_reducible refine HLD.out.mono ?_); rintro e w2 ⟨he, hb2⟩)
  have HB42 := Lib.hid (HB41.out.below hb2 HB41.out.lt)
  have HBW2 := Lib.hid (HBW1.out.trans (hb2.mono HBW1.out.size))
  have HRD2 := Lib.hid (HRD.out.below hb2)
  have hs2 := hb2.size
  clear hb2 HLD
  cases hle : leadT t ts 0 with
  | inl n =>
   rw [hle] at he
   obtain rfl := he
   have hnl := lead_of_toks hle
   have HLE := Lib.hid hle
   have hnc : ts.length ≤ c := own_capP HOWN.out
   have hba8 : Below w2.heap.size w2 (w2.alloc (.cells #[.nilIface] 58)) := (Below.refl _ _).alloc (Nat.le_refl _) _
   have HPR := Lib.hid (print_front HP.out n)
   have HB43 : Hid (Blk (w2.alloc (.cells #[.nilIface] 58)) w.heap.size 58 #[.nilIface]) := Lib.hid (HB42.out.alloc _)
   have HBW3 := Lib.hid (HBW2.out.trans (hba8.mono HBW2.out.size))
   have HPA := Lib.hid (print_any (.slice A n c) (ts.take n) (w2.alloc (.cells #[.nilIface] 58)) (rd_take (HRD2.out.below hba8) (by omega) c) (by have := bulk_le ts n; have := HTF.out.2.2; have := HL.out; omega) (HG.out.next HBW3.out))
   have hnt : (n : Int) < (ts.length : Int) := by omega
   have hnc2 : (n : Int) ≤ (c : Int) := by omega
   have hnc3 : n ≤ c := by omega
   clear hle hba8 hnc
   go_wp2_with fail
   ((with_reducible refine HPA.out.mono ?_); rintro e w3 ⟨hb3, _, hpo⟩)
   obtain rfl := hpo _ HPR.out.1
   have hB44 := HB43.out.below hb3 HB43.out.lt
   have HBW4 := HBW3.out.trans (hb3.mono HBW3.out.size)
   have c4 := hB44.cell 0
   have f4 := hB44.frozen 0
   have d4 := (hB44.put 0 .nilIface).cell 0
   have hs4 := hB44.lt
   have HF := Lib.hid (findP_none (w0 := w0) HP.out HLE.out (below_put (u := .nilIface) (i := 0) HBW4 (Nat.le_refl w.heap.size)))
   simp at c4 d4
   clear hB44 hb3 hpo HBW4 HPA
   go_wp2
   refine bodyPost_ret (v := .tuple #[.agg #[.nilIface], .iface 139 (.agg #[.int .i64 4, .string ⟨(printS (ts.take n)).toArray⟩])]) ?_ rfl HF.out
   simp [results, Tryz.results13, go_sem, d4]
  | inr u =>
   rw [hle] at he
   obtain ⟨tx, ux, rfl, hrd, huo⟩ := he
   have HLE := Lib.hid hle
   have hs4 := HB42.out.lt
   have hB43 := (HB42.out.put 0 (.iface tx ux)).alloc (.cells #[.iface tx ux] 58)
   have c4 := HB42.out.cell 0
   have f4 := HB42.out.frozen 0
   have d4 := hB43.cell 0
   have HF := Lib.hid (findP_some (w0 := w0) HP.out HLE.out hrd huo ((below_put (u := .iface tx ux) (i := 0) HBW2.out (Nat.le_refl w.heap.size)).alloc (by have := HBW2.out.size; simp; omega) (.cells #[.iface tx ux] 58)))
   simp at c4 d4
   clear hle hB43 hrd huo
   go_wp2
   refine bodyPost_ret (v := .tuple #[.agg #[.iface tx ux], .nilIface]) ?_ rfl HF.out
   simp [results, Tryz.results13, go_sem, d4]
end Nd
end Go.Proofs.YtbajkglacfheiaaGreatDoor
namespace Go.Proofs.YtbajkglacfheiaaGreatDoor
open Go.RowKit Mem
namespace Nd
end Nd
end Go.Proofs.YtbajkglacfheiaaGreatDoor
namespace Go.Proofs.YtbajkglacfheiaaGreatDoor
open Go.RowKit Mem Utf Ref3 Idx Tok TokC
namespace Nd
end Nd
end Go.Proofs.YtbajkglacfheiaaGreatDoor
