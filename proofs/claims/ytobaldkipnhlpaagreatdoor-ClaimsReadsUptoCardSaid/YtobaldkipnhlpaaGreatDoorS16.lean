/-
  Plain: where tokens lead in a tree; what a search in rising keys comes to. Walks: a search in rising keys; the value at a place; the value of a key. Walks: the value of a key; where a token leads on to. Walks: tokens in a row, token by token. Walks of package pointer: Find and Look. Told values behind an interface: Sort, the assertion to a Lost, nil. Walks of package pointer: Look.
-/
import Derived.Test.YtobaldkipnhlpaaGreatDoorS8
import Derived.Test.YtobaldkipnhlpaaGreatDoorS15
import Derived.Test.YtobaldkipnhlpaaGreatDoorS10
import Derived.Test.YtobaldkipnhlpaaGreatDoorS7
set_option linter.unusedVariables false
set_option linter.unusedSimpArgs false
set_option maxRecDepth 100000
set_option maxHeartbeats 16000000
namespace Go.Proofs.YtobaldkipnhlpaaGreatDoor
open Go Idx
namespace Nd
def onT (x : Tx) : Tr → Option Tr
 | .list l => (idxC x (l.length : Int)).bind fun v => l[v.toNat]?
 | .obj ks l => if x ∈ ks then l[ks.idxOf x]? else none
 | _ => none
def leadT : Tr → List Tx → Nat → Sum Nat Tr
 | t, [], _ => .inr t
 | t, x :: r, i => match onT x t with
  | none => .inl i
  | some u => leadT u r (i + 1)
theorem idxC_range {l : List UInt8} {n v : Int} (h : idxC l n = some v) : 0 ≤ v ∧ v < n := by
 unfold idxC at h
 split at h
 ·split at h
  ·cases h
  ·injection h with h
   omega
 ·cases h
theorem onT_list (x : Tx) (l : List Tr) : onT x (.list l) = (idxC x (l.length : Int)).bind fun v => l[v.toNat]? := rfl
theorem onT_obj (x : Tx) (ks : List Tx) (l : List Tr) : onT x (.obj ks l) = if x ∈ ks then l[ks.idxOf x]? else none := rfl
theorem onT_kid {x : Tx} {t u : Tr} (h : onT x t = some u) : u ∈ t.kids := by
 cases t with
 | list l =>
  rw [onT_list] at h
  cases hx : idxC x (l.length : Int) with
  | none => rw [hx] at h; cases h
  | some v =>
   rw [hx] at h
   exact List.mem_of_getElem? h
 | obj ks l =>
  rw [onT_obj] at h
  by_cases hm : x ∈ ks
  ·rw [if_pos hm] at h
   exact List.mem_of_getElem? h
  ·rw [if_neg hm] at h
   cases h
 | null => cases h
 | flag b => cases h
 | num x => cases h
 | text s => cases h
theorem kids_ok {t : Tr} (h : t.Ok) : OkL t.kids := by
 cases t with
 | list l => unfold Tr.Ok at h; exact h
 | obj ks l => unfold Tr.Ok at h; exact h.2.2.2
 | null => unfold Tr.kids OkL; trivial
 | flag b => unfold Tr.kids OkL; trivial
 | num x => unfold Tr.kids OkL; trivial
 | text s => unfold Tr.kids OkL; trivial
theorem onT_ok {x : Tx} {t u : Tr} (ht : t.Ok) (h : onT x t = some u) : u.Ok ∧ u.fit = true := okl_mem (kids_ok ht) (onT_kid h)
theorem rise_nodup {ks : List Tx} (hr : Rise ks) : ks.Nodup := List.Pairwise.imp (fun h e => by rw [e, cmp_self] at h; omega) hr
theorem bs_in {ks : List Tx} (hr : Rise ks) {tok : Tx} {i : Nat} (hi : i < ks.length) (h : cmpL ks[i] tok = 0) : tok ∈ ks ∧ ks.idxOf tok = i := by
 have := cmp_zero _ _ h
 rw [← this]
 exact ⟨List.getElem_mem _, idxOf_at ks (rise_nodup hr) i hi⟩
theorem bs_out {ks : List Tx} (hr : Rise ks) {tok : Tx} {i : Nat} (h1 : ∀ t (ht : t < ks.length), t < i → cmpL ks[t] tok < 0) (h2 : ∀ t (ht : t < ks.length), i ≤ t → 0 ≤ cmpL ks[t] tok) (h : ∀ h : i < ks.length, ¬ cmpL ks[i] tok = 0) : tok ∉ ks := by
 intro hm
 obtain ⟨m, hml, hme⟩ := List.getElem_of_mem hm
 clear hm
 subst hme
 by_cases hlt : m < i
 ·have := h1 m hml hlt
  rw [cmp_self] at this
  omega
 ·by_cases e : m = i
  ·subst e
   exact h hml (cmp_self _)
  ·have : cmpL ks[i] ks[m] < 0 := List.pairwise_iff_getElem.1 hr i m (by omega) hml (by omega)
   have := h2 i (by omega) (Nat.le_refl _)
   omega
theorem bs_step1 {ks : List Tx} (hr : Rise ks) {tok : Tx} {h : Nat} (hh : h < ks.length) (hc : cmpL ks[h] tok < 0) : ∀ t (ht : t < ks.length), t < h + 1 → cmpL ks[t] tok < 0 := by
 intro t ht hl
 by_cases e : t = h
 ·subst e
  exact hc
 ·exact lt_trans _ _ _ (List.pairwise_iff_getElem.1 hr t h ht hh (by omega)) hc
theorem bs_step2 {ks : List Tx} (hr : Rise ks) {tok : Tx} {h : Nat} (hh : h < ks.length) (hc : 0 ≤ cmpL ks[h] tok) : ∀ t (ht : t < ks.length), h ≤ t → 0 ≤ cmpL ks[t] tok := by
 intro t ht hl
 by_cases e : t = h
 ·subst e
  exact hc
 ·refine Int.not_lt.1 fun hn => ?_
  have := lt_trans _ _ _ (List.pairwise_iff_getElem.1 hr h t hh ht (by omega)) hn
  omega
end Nd
end Go.Proofs.YtobaldkipnhlpaaGreatDoor
namespace Go.Proofs.YtobaldkipnhlpaaGreatDoor
open Go.RowKit Mem
namespace Nd
def SearchP (ks : List Tx) (x : Tx) (w : World) (e : Ending) (w' : World) : Prop :=
 (∃ i : Nat, (e = .returned (.tuple #[.int .i64 i, .bool true]) ∧ i < ks.length ∧ x ∈ ks ∧ ks.idxOf x = i) ∨ (e = .returned (.tuple #[.int .i64 i, .bool false]) ∧ x ∉ ks)) ∧ Below w.heap.size w w'
theorem rdk_cell {w : World} {A : Option Addr} {c : Nat} {ks : List Tx} (h : RdK w (.slice A ks.length c) ks) {i : Nat} (hi : i < ks.length) : ∃ g o, A = some ⟨g, o, none⟩ ∧ w.cell? ⟨g, o + i, none⟩ = some (.string ⟨ks[i].toArray⟩) := by
 obtain ⟨A', c', e', h'⟩ := h
 injection e' with e1 e2 e3
 rcases h' with h' | ⟨g, o, hA, hc⟩
 ·rw [h'] at hi
  simp at hi
 ·exact ⟨g, o, by rw [e1, hA], hc i _ (List.getElem?_eq_getElem hi)⟩
theorem search_any (A : Option Addr) (c : Nat) (ks : List Tx) (x : Tx) (w : World) (hK : RdK w (.slice A ks.length c) ks) (hr : Rise ks) (ha : ks.all rightB = true) (hx : rightB x = true) (hl : ∀ k ∈ ks, k.length ≤ 1099511627776) (hlx : x.length ≤ 1099511627776) (hn : ks.length ≤ 1048576) :
  Calls Tryz.prog 65 #[.slice A ks.length c, .string ⟨x.toArray⟩, .func (.func 67) #[] #[]] w (SearchP ks x w) := by
 have HK := Lib.hid hK
 have HR := Lib.hid hr
 have HA := Lib.hid (List.all_eq_true.1 ha)
 have HX := Lib.hid hx
 have HL := Lib.hid hl
 have HN := Lib.hid hn
 have HLX := Lib.hid hlx
 obtain ⟨n, hn0⟩ : ∃ n, ks.length = n := ⟨_, rfl⟩
 rw [hn0] at hn
 rw [hn0]
 have HN0 := Lib.hid hn0
 clear hK hr ha hx hl hlx hn0
 go_enter Tryz.func65, Tryz.ntmps65
 go_wp2_with fail
 go_loopw [9, 10] (fun c9 c10 wr => ∃ lo hi : Nat, c9 = .int .i64 lo ∧ c10 = .int .i64 hi ∧ lo ≤ hi ∧ hi ≤ n ∧ Hid ((∀ t (ht : t < ks.length), t < lo → cmpL ks[t] x < 0) ∧ ∀ t (ht : t < ks.length), hi ≤ t → 0 ≤ cmpL ks[t] x) ∧ Hid (Below w.heap.size w wr)) (fun c9 c10 _ => (intOf c10).toNat - (intOf c9).toNat)
 case atStart => exact ⟨0, n, rfl, rfl, Nat.zero_le _, Nat.le_refl _, Lib.hid ⟨fun t _ h => by omega, fun t ht h => by have := HN0.out; omega⟩, Lib.hid (Below.refl _ _)⟩
 case round =>
  obtain ⟨lo, hi, rfl, rfl, hlh, hin, HI, HB⟩ := hrel
  by_cases hlt : lo < hi
  ·have hm : (lo + hi) / 2 < ks.length := by have := HN0.out; omega
   obtain ⟨g, o, rfl, hc⟩ := rdk_cell HK.out hm
   have hcw := (HB.out.cell (p := ⟨g, o + (lo + hi) / 2, none⟩) (World.block_lt_of_cell? w _ hc)).trans hc
   obtain ⟨y, hy⟩ : ∃ y, ks[(lo + hi) / 2] = y := ⟨_, rfl⟩
   have hmem : y ∈ ks := by rw [← hy]; exact List.getElem_mem hm
   rw [hy] at hcw
   have HC := Lib.hid (And.intro (HA.out y hmem) (HL.out y hmem))
   have HM := Lib.hid hm
   have HY : Hid (∀ h : (lo + hi) / 2 < ks.length, ks[(lo + hi) / 2]'h = y) := Lib.hid (fun _ => hy)
   obtain ⟨d, hd⟩ : ∃ d, cmpL y x = d := ⟨_, rfl⟩
   have HD := Lib.hid hd
   clear hm hd hc hy hmem
   by_cases hneg : d < 0
   ·go_wp2_with (go_at_call 67; (refine (compare_right y x _ HC.out.1 HX.out HC.out.2 HLX.out).mono ?_; rw [HD.out]; rintro e w2 ⟨rfl, hb2⟩))
    have HB2 := Lib.hid (HB.out.trans (hb2.toBelow.mono HB.out.size))
    clear hb2
    go_roundw
    case rel =>
     exact ⟨(lo + hi) / 2 + 1, hi, by rw [show ((lo : Int) + (hi : Int)) / 2 + 1 = (((lo + hi) / 2 + 1 : Nat) : Int) by omega], rfl, by omega, hin, Lib.hid ⟨bs_step1 HR.out HM.out (by rw [HY.out HM.out, HD.out]; exact hneg), HI.out.2⟩, HB2⟩
    case measure => simp [intOf]; omega
   ·go_wp2_with (go_at_call 67; (refine (compare_right y x _ HC.out.1 HX.out HC.out.2 HLX.out).mono ?_; rw [HD.out]; rintro e w2 ⟨rfl, hb2⟩))
    have HB2 := Lib.hid (HB.out.trans (hb2.toBelow.mono HB.out.size))
    clear hb2
    go_roundw
    case rel =>
     exact ⟨lo, (lo + hi) / 2, rfl, by rw [show ((lo : Int) + (hi : Int)) / 2 = (((lo + hi) / 2 : Nat) : Int) by omega], by omega, by omega, Lib.hid ⟨HI.out.1, bs_step2 HR.out HM.out (by rw [HY.out HM.out, HD.out]; omega)⟩, HB2⟩
    case measure => simp [intOf]; omega
  ·obtain rfl : hi = lo := by omega
   by_cases hend : hi < n
   ·have hm : hi < ks.length := by have := HN0.out; omega
    obtain ⟨g, o, rfl, hc⟩ := rdk_cell HK.out hm
    have hcw := (HB.out.cell (p := ⟨g, o + hi, none⟩) (World.block_lt_of_cell? w _ hc)).trans hc
    obtain ⟨y, hy⟩ : ∃ y, ks[hi] = y := ⟨_, rfl⟩
    have hmem : y ∈ ks := by rw [← hy]; exact List.getElem_mem hm
    rw [hy] at hcw
    have HC := Lib.hid (And.intro (HA.out y hmem) (HL.out y hmem))
    have HM := Lib.hid hm
    have HY : Hid (∀ h : hi < ks.length, ks[hi]'h = y) := Lib.hid (fun _ => hy)
    obtain ⟨d, hd⟩ : ∃ d, cmpL y x = d := ⟨_, rfl⟩
    have HD := Lib.hid hd
    clear hm hd hc hy hmem
    by_cases hz : d = 0
    ·have hz1 : (d == 0) = true := by rw [hz]; rfl
     have HZ := Lib.hid hz
     clear hz
     go_wp2_with (go_at_call 67; (refine (compare_right y x _ HC.out.1 HX.out HC.out.2 HLX.out).mono ?_; rw [HD.out]; rintro e w2 ⟨rfl, hb2⟩))
     have HB2 := Lib.hid (HB.out.trans (hb2.toBelow.mono HB.out.size))
     clear hb2
     go_ret2
     exact ⟨⟨hi, .inl ⟨rfl, HM.out, bs_in HR.out HM.out (by rw [HY.out HM.out, HD.out]; exact HZ.out)⟩⟩, HB2.out⟩
    ·have hz1 : (d == 0) = false := by simpa using hz
     have HZ := Lib.hid hz
     clear hz
     go_wp2_with (go_at_call 67; (refine (compare_right y x _ HC.out.1 HX.out HC.out.2 HLX.out).mono ?_; rw [HD.out]; rintro e w2 ⟨rfl, hb2⟩))
     have HB2 := Lib.hid (HB.out.trans (hb2.toBelow.mono HB.out.size))
     clear hb2
     go_ret2
     exact ⟨⟨hi, .inr ⟨rfl, bs_out HR.out HI.out.1 HI.out.2 (fun h => by rw [HY.out HM.out, HD.out]; exact HZ.out)⟩⟩, HB2.out⟩
   ·go_wp2
    go_ret2
    exact ⟨⟨hi, .inr ⟨rfl, bs_out HR.out HI.out.1 HI.out.2 (fun h => absurd h (by have := HN0.out; omega))⟩⟩, HB.out⟩
theorem below_put {w w' : World} {g i : Nat} {u : Value} (h : Below w.heap.size w w') (hg : w.heap.size ≤ g) : Below w.heap.size w (w'.setCell ⟨g, i, none⟩ u) := below_of_grown (grown_put (grown_of_below h (some g)) i u) hg (Nat.le_refl _)
def OnP (w0 : World) (o : Option Tr) (w : World) (e : Ending) (w' : World) : Prop :=
 (match o with
  | none => e = .returned (.tuple #[.agg #[.nilIface], .bool false])
  | some u => ∃ tx ux, e = .returned (.tuple #[.agg #[.iface tx ux], .bool true]) ∧ RdA w0 u (.iface tx ux)) ∧ Below w.heap.size w w'
theorem at_any (t : Tr) (v : Value) (i : Nat) (hi : i < t.kids.length) (hn : t.kids.length ≤ 1048576) (w0 w : World) (h : RdA w0 t v) (hb0 : Below w0.heap.size w0 w) : Calls Tryz.prog 68 #[.agg #[v], .int .i64 i] w (OnP w0 (some t.kids[i]) w) := by
 have hba : Below w.heap.size w (w.alloc (.cells #[v] 93)) := (Below.refl _ _).alloc (Nat.le_refl _) _
 have hbb : Below w.heap.size w ((w.alloc (.cells #[v] 93)).alloc (.cells #[.nilIface] 93)) := hba.alloc hba.size _
 have hB4 : Blk ((w.alloc (.cells #[v] 93)).alloc (.cells #[.nilIface] 93)) (w.heap.size + 1) 93 #[.nilIface] := by
  have := Blk.new (w.alloc (.cells #[v] 93)) 93 #[.nilIface]
  simpa using this
 obtain ⟨A, c, vs, hI, hrow, hrl⟩ := RdT.itv h
 obtain ⟨g, o, tx, ux, rfl, hcell, hrd⟩ := row_at hrow hrl (Below.refl _ _) hi
 have HI := Lib.hid (itv_below (itv_below hI hb0) hbb)
 have HC := Lib.hid ((hb0.cell (p := ⟨g, o + i, none⟩) (World.block_lt_of_cell? w0 _ hcell)).trans hcell)
 have HRD := Lib.hid hrd
 have HBB := Lib.hid hbb
 have HB4 := Lib.hid hB4
 have hd0 : decide ((i : Int) < 0) = false := decide_eq_false (by omega)
 clear h hb0 hba hbb hB4 hI hrow hrl hcell hrd
 go_enter Tryz.func68, Tryz.ntmps68
 go_wp2_with fail
 ((with_reducible refine (itm_any HI.out).mono ?_); rintro e w1 ⟨rfl, hb⟩)
 have hbw := HBB.out.trans (hb.mono HBB.out.size)
 have hb4 := HB4.out.below hb HB4.out.lt
 have c4 := hb4.cell 0
 have f4 := hb4.frozen 0
 have d4 := (hb4.put 0 (.iface tx ux)).cell 0
 have hcw := (hbw.cell (p := ⟨g, o + i, none⟩) (World.block_lt_of_cell? w _ HC.out)).trans HC.out
 have HBW := Lib.hid (below_put (u := .iface tx ux) (i := 0) hbw (show w.heap.size ≤ w.heap.size + 1 by omega))
 have hd1 : decide ((t.kids.length : Int) ≤ (i : Int)) = false := decide_eq_false (by omega)
 have hi1 : (i : Int) < (t.kids.length : Int) := by omega
 have hi2 : (0 : Int) ≤ (i : Int) := by omega
 clear hb hb4 hbw
 simp at c4 d4
 go_wp2
 refine bodyPost_ret (v := .tuple #[.agg #[.iface tx ux], .bool true]) ?_ rfl ⟨⟨tx, ux, rfl, HRD.out⟩, HBW.out⟩
 simp [results, Tryz.results68, go_sem, d4]
end Nd
end Go.Proofs.YtobaldkipnhlpaaGreatDoor
namespace Go.Proofs.YtobaldkipnhlpaaGreatDoor
open Go.RowKit Mem Idx
namespace Nd
theorem lens_key {ks : List Tx} {l : List Tr} (h : (Tr.obj ks l).fit = true) : ∀ k ∈ ks, k.length ≤ 1099511627776 := by
 intro k hk
 obtain ⟨i, hi, rfl⟩ := List.getElem_of_mem hk
 have h1 := lens_at ks i hi
 have h2 := (fit_le h).2.1
 unfold Tr.bytes at h2
 omega
theorem kids_le {t : Tr} (h : t.fit = true) : t.kids.length ≤ 65536 := by
 have h0 := (fit_le h).1
 have h1 := nodes_len t.kids
 have h2 : nodesL t.kids ≤ t.nodes := by cases t <;> simp [Tr.kids, Tr.nodes, nodesL]
 omega
theorem keys_obj (ks : List Tx) (l : List Tr) (v : Value) (w : World) (h : RdA w (.obj ks l) v) : Calls Tryz.prog 66 #[.agg #[v]] w fun e w' => (∃ A c, e = .returned (.slice A ks.length c) ∧ RdK w (.slice A ks.length c) ks) ∧ Below w.heap.size w w' := keysr_any (fun _ => True) (.obj ks l) v w h
theorem find_any (ks : List Tx) (l : List Tr) (v : Value) (x : Tx) (w0 w : World) (h : RdA w0 (.obj ks l) v) (hb0 : Below w0.heap.size w0 w) (ho : (Tr.obj ks l).Ok) (hf : (Tr.obj ks l).fit = true) (hx : rightB x = true) (hlx : x.length ≤ 1099511627776) :
  Calls Tryz.prog 25 #[.agg #[v], .string ⟨x.toArray⟩] w (OnP w0 (onT x (.obj ks l)) w) := by
 have hba : Below w.heap.size w (w.alloc (.cells #[v] 93)) := (Below.refl _ _).alloc (Nat.le_refl _) _
 have hbb : Below w.heap.size w ((w.alloc (.cells #[v] 93)).alloc (.cells #[.nilIface] 93)) := hba.alloc hba.size _
 have hB2 : Blk ((w.alloc (.cells #[v] 93)).alloc (.cells #[.nilIface] 93)) w.heap.size 93 #[v] := (Blk.new w 93 #[v]).alloc _
 have hB4 : Blk ((w.alloc (.cells #[v] 93)).alloc (.cells #[.nilIface] 93)) (w.heap.size + 1) 93 #[.nilIface] := by
  have := Blk.new (w.alloc (.cells #[v] 93)) 93 #[.nilIface]
  simpa using this
 have hkl := kids_le hf
 have hks : ks.length = l.length ∧ Rise ks ∧ ks.all rightB = true := by unfold Tr.Ok at ho; exact ⟨ho.1, ho.2.1, ho.2.2.1⟩
 have HKS := Lib.hid hks
 have HKL := Lib.hid (show l.length ≤ 65536 from hkl)
 have HLK := Lib.hid (lens_key hf)
 have HX := Lib.hid (And.intro hx hlx)
 have HR := Lib.hid h
 have HB0 := Lib.hid hb0
 have HBB := Lib.hid hbb
 have HB2 := Lib.hid hB2
 have HB4 := Lib.hid hB4
 obtain ⟨q, hq⟩ : ∃ q, onT x (.obj ks l) = q := ⟨_, rfl⟩
 rw [hq]
 have HQ := Lib.hid hq
 clear h hb0 ho hf hx hlx hba hbb hB2 hB4 hkl hks hq
 go_enter Tryz.func25, Tryz.ntmps25
 go_wp2_with fail
 ((with_reducible refine (keys_obj ks l v _ (rda_below (rda_below HR.out HB0.out) HBB.out)).mono ?_); rintro e w1 ⟨⟨A, c, rfl, hk⟩, hb⟩)
 have hbw := HBB.out.trans (hb.mono HBB.out.size)
 have HK1 := Lib.hid (hk.below hb)
 have HB21 := Lib.hid (HB2.out.below hb HB2.out.lt)
 have HB41 := Lib.hid (HB4.out.below hb HB4.out.lt)
 have HBW := Lib.hid hbw
 clear hk hb hbw
 go_wp2_with fail
 ((with_reducible refine (search_any A c ks x _ HK1.out HKS.out.2.1 HKS.out.2.2 HX.out.1 HLK.out HX.out.2 (by have := HKS.out.1; have := HKL.out; omega)).mono ?_); rintro e w2 ⟨⟨i, hi⟩, hb2⟩)
 have hbw2 := HBW.out.trans (hb2.mono HBW.out.size)
 have hB22 := HB21.out.below hb2 HB21.out.lt
 have hB42 := HB41.out.below hb2 HB41.out.lt
 rcases hi with ⟨rfl, hil, hxm, hxi⟩ | ⟨rfl, hxm⟩
 ·have hil2 : i < l.length := by have := HKS.out.1; omega
  have hq : q = some l[i] := by rw [← HQ.out, onT_obj, if_pos hxm, hxi, List.getElem?_eq_getElem hil2]
  subst hq
  have HB42 := Lib.hid hB42
  have HBW2 := Lib.hid hbw2
  have c2 := hB22.cell 0
  simp at c2
  have HAT := Lib.hid (at_any (.obj ks l) v i hil2 (by have := HKL.out; show l.length ≤ _; omega) w0 w2 HR.out (HB0.out.trans (hbw2.mono HB0.out.size)))
  clear hB22 hB42 hxm hxi hbw2 hb2
  go_wp2_with fail
  ((with_reducible refine HAT.out.mono ?_); rintro e w3 ⟨⟨tx, ux, rfl, hrd⟩, hb3⟩)
  have hbw3 := HBW2.out.trans (hb3.mono HBW2.out.size)
  have hb4 := HB42.out.below hb3 HB42.out.lt
  have c4 := hb4.cell 0
  have f4 := hb4.frozen 0
  have d4 := (hb4.put 0 (.iface tx ux)).cell 0
  have HBW3 := Lib.hid (below_put (u := .iface tx ux) (i := 0) hbw3 (show w.heap.size ≤ w.heap.size + 1 by omega))
  simp at c4 d4
  clear hb4 hb3 hbw3
  have HRD := Lib.hid hrd
  clear hrd
  go_wp2
  refine bodyPost_ret (v := .tuple #[.agg #[.iface tx ux], .bool true]) ?_ rfl ⟨⟨tx, ux, rfl, HRD.out⟩, HBW3.out⟩
  simp [results, Tryz.results25, go_sem, d4]
 ·have hq : q = none := by rw [← HQ.out, onT_obj, if_neg hxm]
  subst hq
  have c4 := hB42.cell 0
  have f4 := hB42.frozen 0
  have d4 := (hB42.put 0 .nilIface).cell 0
  have HBW3 := Lib.hid (below_put (u := .nilIface) (i := 0) hbw2 (show w.heap.size ≤ w.heap.size + 1 by omega))
  simp at c4 d4
  clear hB22 hB42 hxm hb2
  go_wp2
  refine bodyPost_ret (v := .tuple #[.agg #[.nilIface], .bool false]) ?_ rfl ⟨rfl, HBW3.out⟩
  simp [results, Tryz.results25, go_sem, d4]
end Nd
end Go.Proofs.YtobaldkipnhlpaaGreatDoor
namespace Go.Proofs.YtobaldkipnhlpaaGreatDoor
open Go.RowKit Mem Idx Tok
namespace Nd
end Nd
end Go.Proofs.YtobaldkipnhlpaaGreatDoor
namespace Go.Proofs.YtobaldkipnhlpaaGreatDoor
open Go.RowKit Mem Utf Ref3 Idx Tok TokC
namespace Nd
end Nd
end Go.Proofs.YtobaldkipnhlpaaGreatDoor
namespace Go.Proofs.YtobaldkipnhlpaaGreatDoor
open Go.RowKit Mem
namespace Nd
end Nd
end Go.Proofs.YtobaldkipnhlpaaGreatDoor
namespace Go.Proofs.YtobaldkipnhlpaaGreatDoor
open Go.RowKit Mem Utf Ref3 Idx Tok TokC
namespace Nd
end Nd
end Go.Proofs.YtobaldkipnhlpaaGreatDoor
