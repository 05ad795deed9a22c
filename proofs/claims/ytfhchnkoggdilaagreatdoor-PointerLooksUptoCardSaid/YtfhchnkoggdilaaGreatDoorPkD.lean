/-
  Walks: tokens in a row, token by token.
-/
import Derived.Test.YtfhchnkoggdilaaGreatDoorPkC
import Derived.Test.YtfhchnkoggdilaaGreatDoorPvL
import Derived.Test.YtfhchnkoggdilaaGreatDoorGF
namespace Go.Proofs.YtfhchnkoggdilaaGreatDoor
open Go.RowKit Mem Idx Tok
set_option linter.unusedVariables false
namespace Nd
/-- what lead answers -/
def LeadP (w0 : World) (t : Tr) (ts : List Tx) (w : World) (e : Ending) (w' : World) : Prop :=
  (match leadT t ts 0 with
    | .inl n => e = .returned (.tuple #[.agg #[.nilIface], .int .i64 n])
    | .inr u => ∃ tx ux, e = .returned (.tuple #[.agg #[.iface tx ux], .int .i64 ts.length]) ∧ RdA w0 u (.iface tx ux) ∧ u.Ok ∧ u.fit = true) ∧ Below w.heap.size w w'
theorem leadP_none {w0 : World} {t : Tr} {ts : List Tx} {w w' : World} {k : Nat} (h : leadT t ts 0 = .inl k) (hb : Below w.heap.size w w') : LeadP w0 t ts w (.returned (.tuple #[.agg #[.nilIface], .int .i64 k])) w' := by
  unfold LeadP
  rw [h]
  exact ⟨rfl, hb⟩
theorem leadP_some {w0 : World} {t u : Tr} {ts : List Tx} {w w' : World} {n : Nat} {tx : TypeId} {ux : Value} (h : leadT t ts 0 = .inr u) (hr : RdA w0 u (.iface tx ux)) (ho : u.Ok ∧ u.fit = true) (hn : ts.length = n) (hb : Below w.heap.size w w') : LeadP w0 t ts w (.returned (.tuple #[.agg #[.iface tx ux], .int .i64 n])) w' := by
  unfold LeadP
  rw [h]
  subst hn
  exact ⟨⟨tx, ux, rfl, hr, ho⟩, hb⟩
theorem rd_at {w : World} {A : Option Addr} {n c : Nat} {xs : List Tx} (h : Rd w (.slice A n c) xs) {j : Nat} (hj : j < xs.length) : ∃ g o, A = some ⟨g, o, none⟩ ∧ w.cell? ⟨g, o + j, none⟩ = some (.string ⟨xs[j].toArray⟩) := by
  obtain ⟨A', c', e', h'⟩ := h
  injection e' with e1 e2 e3
  obtain ⟨g, o, hA, _, hc⟩ := h' j hj
  refine ⟨g, o, by rw [e1, hA], ?_⟩
  rw [hc]
  first | rfl | simp [strV]
set_option maxRecDepth 100000 in
set_option maxHeartbeats 8000000 in
theorem lead_any (g : Nat) (t : Tr) (v : Value) (A : Option Addr) (c : Nat) (ts : List Tx) (w0 w : World) (hB : Blk w0 g 80 #[v]) (h : RdA w0 t v) (hb0 : Below w0.heap.size w0 w) (ho : t.Ok) (hf : t.fit = true)
    (hR : Rd w (.slice A ts.length c) ts) (hx : ∀ x ∈ ts, rightB x = true ∧ x.length ≤ 1099511627776) (hn : ts.length ≤ 65536) (hT : Tab w) :
    Calls Tryz.prog 22 #[.pointer (some ⟨g, 0, none⟩), .slice A ts.length c] w (LeadP w0 t ts w) := by
  obtain ⟨tx, ux, rfl⟩ := RdT.iface h
  have hba : Below w.heap.size w (w.alloc (.cells #[.nilIface] 38)) := (Below.refl _ _).alloc (Nat.le_refl _) _
  have HBT : Hid (Blk (w.alloc (.cells #[.nilIface] 38)) g 80 #[.iface tx ux]) := Lib.hid ((hB.below hb0 hB.lt).alloc _)
  have HB4 : Hid (Blk (w.alloc (.cells #[.nilIface] 38)) w.heap.size 38 #[.nilIface]) := Lib.hid (Blk.new w 38 #[.nilIface])
  have HBA := Lib.hid hba
  have HR := Lib.hid h
  have HB0 := Lib.hid hb0
  have HO := Lib.hid (And.intro ho hf)
  have HTS := Lib.hid hR
  have HX := Lib.hid hx
  have HT := Lib.hid hT
  obtain ⟨n, hn0⟩ : ∃ n, ts.length = n := ⟨_, rfl⟩
  rw [hn0] at hn
  have HN0 := Lib.hid hn0
  rw [hn0]
  clear hB h hb0 ho hf hR hx hT hba hn0
  go_enter Tryz.func22, Tryz.ntmps22
  go_wp2_with fail
  ((with_reducible refine (root_any g _ tx ux _ HBT.out).mono ?_); rintro e w1 ⟨rfl, hb1⟩)
  have hB41 := HB4.out.below hb1 HB4.out.lt
  have hbw1 := HBA.out.trans (hb1.mono HBA.out.size)
  have hs1 : w.heap.size + 1 ≤ w1.heap.size := by have := hb1.size; simpa using this
  have HB41 := Lib.hid hB41
  have HBW1 := Lib.hid hbw1
  have hsz : (w1.alloc (.cells #[.iface tx ux] 38)).heap.size = w1.heap.size + 1 := by simp
  have HB62 : Hid (Blk (w1.alloc (.cells #[.iface tx ux] 38)) w1.heap.size 38 #[.iface tx ux]) := Lib.hid (Blk.new w1 38 #[.iface tx ux])
  have HB42 : Hid (Blk (w1.alloc (.cells #[.iface tx ux] 38)) w.heap.size 38 #[.nilIface]) := Lib.hid (hB41.alloc _)
  have HBW2 : Hid (Below w.heap.size w (w1.alloc (.cells #[.iface tx ux] 38))) := Lib.hid (hbw1.alloc (by omega) _)
  clear hb1 hB41 hbw1 HB41 HBW1
  go_wp2_with fail
  generalize w1.alloc (.cells #[.iface tx ux] 38) = w2 at *
  obtain ⟨b6, hb6⟩ : ∃ b6, w1.heap.size = b6 := ⟨_, rfl⟩
  rw [hb6] at HB62 hs1 ⊢
  clear hb6 hsz HBT HB4 HBA
  go_loopw [15] (fun c15 wr => ∃ (k : Nat) (u : Tr) (ty : TypeId) (uy : Value), k ≤ n ∧ c15 = .int .i64 k ∧ Hid (leadT t ts 0 = leadT u (ts.drop k) k) ∧ Hid ((u.Ok ∧ u.fit = true) ∧ RdA w0 u (.iface ty uy)) ∧ Hid (Blk wr b6 38 #[.iface ty uy] ∧ Blk wr w.heap.size 38 #[.nilIface] ∧ Below w.heap.size w wr)) (fun c15 _ => n - (intOf c15).toNat)
  case atStart => exact ⟨0, t, tx, ux, Nat.zero_le _, rfl, Lib.hid rfl, Lib.hid ⟨HO.out, HR.out⟩, Lib.hid ⟨HB62.out, HB42.out, HBW2.out⟩⟩
  case round =>
    clear HB62 HB42 HBW2 HO HR
    obtain ⟨k, u, ty, uy, hk, rfl, HL, HU, HI⟩ := hrel
    have c6 := HI.out.1.cell 0
    simp at c6
    by_cases hlt : k < n
    · have hkt : k < ts.length := by have := HN0.out; omega
      obtain ⟨g', o, rfl, hc⟩ := rd_at HTS.out hkt
      have hcw := (HI.out.2.2.cell (p := ⟨g', o + k, none⟩) (World.block_lt_of_cell? w _ hc)).trans hc
      have hxk := HX.out _ (List.getElem_mem hkt)
      have hl := HL.out
      rw [List.drop_eq_getElem_cons hkt, lead_cons] at hl
      generalize ts[k] = x at hcw hxk hl
      have hon := on_any u (.iface ty uy) x w0 wr HU.out.2 (HB0.out.trans (HI.out.2.2.mono HB0.out.size)) HU.out.1.1 HU.out.1.2 hxk.1 hxk.2 (HT.out.next HI.out.2.2)
      have huo : ∀ v, onT x u = some v → v.Ok ∧ v.fit = true := fun v hv => onT_ok HU.out.1.1 hv
      generalize onT x u = q at hon hl huo
      have HON := Lib.hid hon
      have HLN := Lib.hid hl
      have HUO := Lib.hid huo
      clear hc hxk hl hon huo hkt
      go_wp2_with fail
      ((with_reducible refine HON.out.mono ?_); rintro e w3 ⟨he, hb3⟩)
      have hbw3 := HI.out.2.2.trans (hb3.mono HI.out.2.2.size)
      have hs3 := hb3.size
      have hB6 := HI.out.1.below hb3 HI.out.1.lt
      have hB4 := HI.out.2.1.below hb3 HI.out.2.1.lt
      have hs4 := hB4.lt
      have hs6 := hB6.lt
      cases q with
      | none =>
        obtain rfl := he
        have hB44 := (hB4.put 0 .nilIface).alloc (.cells #[.nilIface] 38)
        have c4 := hB4.cell 0
        have f4 := hB4.frozen 0
        have d4 := hB44.cell 0
        have HBW4 := Lib.hid ((below_put (u := .nilIface) (i := 0) hbw3 (Nat.le_refl w.heap.size)).alloc (by simp; omega) (.cells #[.nilIface] 38))
        simp at c4 d4
        clear hB44 hB4 hB6 hb3 hbw3 c6
        go_wp2
        refine bodyPost_ret (v := .tuple #[.agg #[.nilIface], .int .i64 k]) ?_ rfl (leadP_none HLN.out HBW4.out)
        simp [results, Tryz.results22, go_sem, d4]
      | some y =>
        obtain ⟨tz, uz, rfl, hrd⟩ := he
        have hB66 := (hB6.put 0 (.iface tz uz)).alloc (.cells #[.iface tz uz] 38)
        have c66 := hB6.cell 0
        have f66 := hB6.frozen 0
        simp at c66
        have HN6 := Lib.hid hB66
        have HN4 := Lib.hid ((hB4.far (p := ⟨b6, 0, none⟩) (show w.heap.size ≠ b6 by omega) (.iface tz uz)).alloc (.cells #[.iface tz uz] 38))
        have HBW4 := Lib.hid ((below_put (u := .iface tz uz) (i := 0) hbw3 (show w.heap.size ≤ b6 by omega)).alloc (by simp; omega) (.cells #[.iface tz uz] 38))
        have HRD := Lib.hid hrd
        clear hB66 hB4 hB6 hb3 hbw3 hrd c6
        go_wp2
        go_roundw
        case rel => exact ⟨k + 1, y, tz, uz, by omega, by go_num, Lib.hid HLN.out, Lib.hid ⟨HUO.out y rfl, HRD.out⟩, Lib.hid ⟨HN6.out, HN4.out, HBW4.out⟩⟩
        case measure => simp [intOf]; omega
    · obtain rfl : k = n := by omega
      have c4 := HI.out.2.1.cell 0
      have f4 := HI.out.2.1.frozen 0
      have d4 := (HI.out.2.1.put 0 (.iface ty uy)).cell 0
      have HBW4 := Lib.hid (below_put (u := .iface ty uy) (i := 0) HI.out.2.2 (Nat.le_refl w.heap.size))
      have HLE : Hid (leadT t ts 0 = .inr u) := Lib.hid (by rw [HL.out, List.drop_of_length_le (by have := HN0.out; omega), lead_nil])
      simp at c4 d4
      go_wp2
      refine bodyPost_ret (v := .tuple #[.agg #[.iface ty uy], .int .i64 k]) ?_ rfl (leadP_some HLE.out HU.out.2 HU.out.1 HN0.out HBW4.out)
      simp [results, Tryz.results22, go_sem, d4]
end Nd
end Go.Proofs.YtfhchnkoggdilaaGreatDoor
