/-
  Walks: a search in rising keys; the value at a place; the value of a key.
-/
import Derived.Test.YtfhchnkoggdilaaGreatDoorPkA
import Derived.Test.YtfhchnkoggdilaaGreatDoorGE
import Derived.Test.YtfhchnkoggdilaaGreatDoorGH
import Derived.Test.YtfhchnkoggdilaaGreatDoorGI
namespace Go.Proofs.YtfhchnkoggdilaaGreatDoor
open Go.RowKit Mem
set_option linter.unusedVariables false
namespace Nd
/-- what the search answers -/
def SearchP (ks : List Tx) (x : Tx) (w : World) (e : Ending) (w' : World) : Prop :=
  (∃ i : Nat, (e = .returned (.tuple #[.int .i64 i, .bool true]) ∧ i < ks.length ∧ x ∈ ks ∧ ks.idxOf x = i) ∨ (e = .returned (.tuple #[.int .i64 i, .bool false]) ∧ x ∉ ks)) ∧ Below w.heap.size w w'
theorem rdk_cell {w : World} {A : Option Addr} {c : Nat} {ks : List Tx} (h : RdK w (.slice A ks.length c) ks) {i : Nat} (hi : i < ks.length) : ∃ g o, A = some ⟨g, o, none⟩ ∧ w.cell? ⟨g, o + i, none⟩ = some (.string ⟨ks[i].toArray⟩) := by
  obtain ⟨A', c', e', h'⟩ := h
  injection e' with e1 e2 e3
  rcases h' with h' | ⟨g, o, hA, hc⟩
  · rw [h'] at hi
    simp at hi
  · exact ⟨g, o, by rw [e1, hA], hc i _ (List.getElem?_eq_getElem hi)⟩
set_option maxRecDepth 100000 in
set_option maxHeartbeats 8000000 in
theorem search_any (A : Option Addr) (c : Nat) (ks : List Tx) (x : Tx) (w : World) (hK : RdK w (.slice A ks.length c) ks) (hr : Rise ks) (ha : ks.all rightB = true) (hx : rightB x = true) (hl : ∀ k ∈ ks, k.length ≤ 1099511627776) (hlx : x.length ≤ 1099511627776) (hn : ks.length ≤ 1048576) :
    Calls Tryz.prog 99 #[.slice A ks.length c, .string ⟨x.toArray⟩, .func (.func 67) #[] #[]] w (SearchP ks x w) := by
  have HK := Lib.hid hK
  have HR := Lib.hid hr
  have HA := Lib.hid (List.all_eq_true.1 ha)
  have HX := Lib.hid hx
  have HL := Lib.hid hl
  have HN := Lib.hid hn
  have HLX := Lib.hid hlx
  obtain ⟨n, hn0⟩ : ∃ n, ks.length = n := ⟨_, rfl⟩
  rw [hn0] at hn
  rw [hn0]
  have HN0 := Lib.hid hn0
  clear hK hr ha hx hl hlx hn0
  go_enter Tryz.func99, Tryz.ntmps99
  go_wp2_with fail
  go_loopw [9, 10] (fun c9 c10 wr => ∃ lo hi : Nat, c9 = .int .i64 lo ∧ c10 = .int .i64 hi ∧ lo ≤ hi ∧ hi ≤ n ∧ Hid ((∀ t (ht : t < ks.length), t < lo → cmpL ks[t] x < 0) ∧ ∀ t (ht : t < ks.length), hi ≤ t → 0 ≤ cmpL ks[t] x) ∧ Hid (Below w.heap.size w wr)) (fun c9 c10 _ => (intOf c10).toNat - (intOf c9).toNat)
  case atStart => exact ⟨0, n, rfl, rfl, Nat.zero_le _, Nat.le_refl _, Lib.hid ⟨fun t _ h => by omega, fun t ht h => by have := HN0.out; omega⟩, Lib.hid (Below.refl _ _)⟩
  case round =>
    obtain ⟨lo, hi, rfl, rfl, hlh, hin, HI, HB⟩ := hrel
    by_cases hlt : lo < hi
    · have hm : (lo + hi) / 2 < ks.length := by have := HN0.out; omega
      obtain ⟨g, o, rfl, hc⟩ := rdk_cell HK.out hm
      have hcw := (HB.out.cell (p := ⟨g, o + (lo + hi) / 2, none⟩) (World.block_lt_of_cell? w _ hc)).trans hc
      obtain ⟨y, hy⟩ : ∃ y, ks[(lo + hi) / 2] = y := ⟨_, rfl⟩
      have hmem : y ∈ ks := by rw [← hy]; exact List.getElem_mem hm
      rw [hy] at hcw
      have HC := Lib.hid (And.intro (HA.out y hmem) (HL.out y hmem))
      have HM := Lib.hid hm
      have HY : Hid (∀ h : (lo + hi) / 2 < ks.length, ks[(lo + hi) / 2]'h = y) := Lib.hid (fun _ => hy)
      obtain ⟨d, hd⟩ : ∃ d, cmpL y x = d := ⟨_, rfl⟩
      have HD := Lib.hid hd
      clear hm hd hc hy hmem
      by_cases hneg : d < 0
      · go_wp2_with (go_at_call 67; (refine (compare_right y x _ HC.out.1 HX.out HC.out.2 HLX.out).mono ?_; rw [HD.out]; rintro e w2 ⟨rfl, hb2⟩))
        have HB2 := Lib.hid (HB.out.trans (hb2.toBelow.mono HB.out.size))
        clear hb2
        go_roundw
        case rel =>
          exact ⟨(lo + hi) / 2 + 1, hi, by rw [show ((lo : Int) + (hi : Int)) / 2 + 1 = (((lo + hi) / 2 + 1 : Nat) : Int) by omega], rfl, by omega, hin, Lib.hid ⟨bs_step1 HR.out HM.out (by rw [HY.out HM.out, HD.out]; exact hneg), HI.out.2⟩, HB2⟩
        case measure => simp [intOf]; omega
      · go_wp2_with (go_at_call 67; (refine (compare_right y x _ HC.out.1 HX.out HC.out.2 HLX.out).mono ?_; rw [HD.out]; rintro e w2 ⟨rfl, hb2⟩))
        have HB2 := Lib.hid (HB.out.trans (hb2.toBelow.mono HB.out.size))
        clear hb2
        go_roundw
        case rel =>
          exact ⟨lo, (lo + hi) / 2, rfl, by rw [show ((lo : Int) + (hi : Int)) / 2 = (((lo + hi) / 2 : Nat) : Int) by omega], by omega, by omega, Lib.hid ⟨HI.out.1, bs_step2 HR.out HM.out (by rw [HY.out HM.out, HD.out]; omega)⟩, HB2⟩
        case measure => simp [intOf]; omega
    · obtain rfl : hi = lo := by omega
      by_cases hend : hi < n
      · have hm : hi < ks.length := by have := HN0.out; omega
        obtain ⟨g, o, rfl, hc⟩ := rdk_cell HK.out hm
        have hcw := (HB.out.cell (p := ⟨g, o + hi, none⟩) (World.block_lt_of_cell? w _ hc)).trans hc
        obtain ⟨y, hy⟩ : ∃ y, ks[hi] = y := ⟨_, rfl⟩
        have hmem : y ∈ ks := by rw [← hy]; exact List.getElem_mem hm
        rw [hy] at hcw
        have HC := Lib.hid (And.intro (HA.out y hmem) (HL.out y hmem))
        have HM := Lib.hid hm
        have HY : Hid (∀ h : hi < ks.length, ks[hi]'h = y) := Lib.hid (fun _ => hy)
        obtain ⟨d, hd⟩ : ∃ d, cmpL y x = d := ⟨_, rfl⟩
        have HD := Lib.hid hd
        clear hm hd hc hy hmem
        by_cases hz : d = 0
        · have hz1 : (d == 0) = true := by rw [hz]; rfl
          have HZ := Lib.hid hz
          clear hz
          go_wp2_with (go_at_call 67; (refine (compare_right y x _ HC.out.1 HX.out HC.out.2 HLX.out).mono ?_; rw [HD.out]; rintro e w2 ⟨rfl, hb2⟩))
          have HB2 := Lib.hid (HB.out.trans (hb2.toBelow.mono HB.out.size))
          clear hb2
          go_ret2
          exact ⟨⟨hi, .inl ⟨rfl, HM.out, bs_in HR.out HM.out (by rw [HY.out HM.out, HD.out]; exact HZ.out)⟩⟩, HB2.out⟩
        · have hz1 : (d == 0) = false := by simpa using hz
          have HZ := Lib.hid hz
          clear hz
          go_wp2_with (go_at_call 67; (refine (compare_right y x _ HC.out.1 HX.out HC.out.2 HLX.out).mono ?_; rw [HD.out]; rintro e w2 ⟨rfl, hb2⟩))
          have HB2 := Lib.hid (HB.out.trans (hb2.toBelow.mono HB.out.size))
          clear hb2
          go_ret2
          exact ⟨⟨hi, .inr ⟨rfl, bs_out HR.out HI.out.1 HI.out.2 (fun h => by rw [HY.out HM.out, HD.out]; exact HZ.out)⟩⟩, HB2.out⟩
      · go_wp2
        go_ret2
        exact ⟨⟨hi, .inr ⟨rfl, bs_out HR.out HI.out.1 HI.out.2 (fun h => absurd h (by have := HN0.out; omega))⟩⟩, HB.out⟩
theorem below_put {w w' : World} {g i : Nat} {u : Value} (h : Below w.heap.size w w') (hg : w.heap.size ≤ g) : Below w.heap.size w (w'.setCell ⟨g, i, none⟩ u) := below_of_grown (grown_put (grown_of_below h (some g)) i u) hg (Nat.le_refl _)
/-- a value, or none, and whether there is one -/
def OnP (w0 : World) (o : Option Tr) (w : World) (e : Ending) (w' : World) : Prop :=
  (match o with
    | none => e = .returned (.tuple #[.agg #[.nilIface], .bool false])
    | some u => ∃ tx ux, e = .returned (.tuple #[.agg #[.iface tx ux], .bool true]) ∧ RdA w0 u (.iface tx ux)) ∧ Below w.heap.size w w'
set_option maxRecDepth 100000 in
set_option maxHeartbeats 8000000 in
theorem at_any (t : Tr) (v : Value) (i : Nat) (hi : i < t.kids.length) (hn : t.kids.length ≤ 1048576) (w0 w : World) (h : RdA w0 t v) (hb0 : Below w0.heap.size w0 w) : Calls Tryz.prog 78 #[.agg #[v], .int .i64 i] w (OnP w0 (some t.kids[i]) w) := by
  have hba : Below w.heap.size w (w.alloc (.cells #[v] 38)) := (Below.refl _ _).alloc (Nat.le_refl _) _
  have hbb : Below w.heap.size w ((w.alloc (.cells #[v] 38)).alloc (.cells #[.nilIface] 38)) := hba.alloc hba.size _
  have hB4 : Blk ((w.alloc (.cells #[v] 38)).alloc (.cells #[.nilIface] 38)) (w.heap.size + 1) 38 #[.nilIface] := by
    have := Blk.new (w.alloc (.cells #[v] 38)) 38 #[.nilIface]
    simpa using this
  obtain ⟨A, c, vs, hI, hrow, hrl⟩ := RdT.itv h
  obtain ⟨g, o, tx, ux, rfl, hcell, hrd⟩ := row_at hrow hrl (Below.refl _ _) hi
  have HI := Lib.hid (itv_below (itv_below hI hb0) hbb)
  have HC := Lib.hid ((hb0.cell (p := ⟨g, o + i, none⟩) (World.block_lt_of_cell? w0 _ hcell)).trans hcell)
  have HRD := Lib.hid hrd
  have HBB := Lib.hid hbb
  have HB4 := Lib.hid hB4
  have hd0 : decide ((i : Int) < 0) = false := decide_eq_false (by omega)
  clear h hb0 hba hbb hB4 hI hrow hrl hcell hrd
  go_enter Tryz.func78, Tryz.ntmps78
  go_wp2_with fail
  ((with_reducible refine (itm_any HI.out).mono ?_); rintro e w1 ⟨rfl, hb⟩)
  have hbw := HBB.out.trans (hb.mono HBB.out.size)
  have hb4 := HB4.out.below hb HB4.out.lt
  have c4 := hb4.cell 0
  have f4 := hb4.frozen 0
  have d4 := (hb4.put 0 (.iface tx ux)).cell 0
  have hcw := (hbw.cell (p := ⟨g, o + i, none⟩) (World.block_lt_of_cell? w _ HC.out)).trans HC.out
  have HBW := Lib.hid (below_put (u := .iface tx ux) (i := 0) hbw (show w.heap.size ≤ w.heap.size + 1 by omega))
  have hd1 : decide ((t.kids.length : Int) ≤ (i : Int)) = false := decide_eq_false (by omega)
  have hi1 : (i : Int) < (t.kids.length : Int) := by omega
  have hi2 : (0 : Int) ≤ (i : Int) := by omega
  clear hb hb4 hbw
  simp at c4 d4
  go_wp2
  refine bodyPost_ret (v := .tuple #[.agg #[.iface tx ux], .bool true]) ?_ rfl ⟨⟨tx, ux, rfl, HRD.out⟩, HBW.out⟩
  simp [results, Tryz.results78, go_sem, d4]
end Nd
end Go.Proofs.YtfhchnkoggdilaaGreatDoor
