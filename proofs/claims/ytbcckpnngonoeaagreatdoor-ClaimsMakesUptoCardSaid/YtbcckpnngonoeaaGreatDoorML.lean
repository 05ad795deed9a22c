/-
  Walk of the reference of layer 10: the steps of a value.
  The steps of what claims: by the reference, and as the law takes them.
  The statement ClaimsMakes of layer 25: the region that lends (printed by wip/gen_cmj.py).
  The law ClaimsMakes: its walk.
  The size of the object that claims make.
-/
import Derived.Test.YtbcckpnngonoeaaGreatDoorHEs
import Derived.Test.YtbcckpnngonoeaaGreatDoorHG
import Derived.Deep.AppendLies
import Derived.Test.YtbcckpnngonoeaaGreatDoorMK
import Derived.Test.YtbcckpnngonoeaaGreatDoorCvGa
import Derived.Deep.MidRow
import Derived.Deep.RegionHeld3
import Derived.Test.YtbcckpnngonoeaaGreatDoorCmGs
import Derived.Test.YtbcckpnngonoeaaGreatDoorCvO
import Derived.Test.YtbcckpnngonoeaaGreatDoorCvT
import Derived.Test.YtbcckpnngonoeaaGreatDoorGJ
import Derived.Test.YtbcckpnngonoeaaGreatDoorGF
import Derived.Test.YtbcckpnngonoeaaGreatDoorHDs
import Derived.Test.YtbcckpnngonoeaaGreatDoorCrP
import Derived.Test.YtbcckpnngonoeaaGreatDoorCvOpen
namespace Go.Proofs.YtbcckpnngonoeaaGreatDoor
open Go.RowKit Mem
set_option linter.unusedVariables false
set_option linter.unusedSimpArgs false
namespace Nd
/-- a step's keys read as they must, in the world w; they lie ahead of block B -/
def KeyC (B : Nat) (w : World) (e : E6) : Prop := (e.1.keys = [] ∨ ∃ g o, e.2.1 = some ⟨g, o, none⟩ ∧ g < B ∧ ∀ (j : Nat) (t : Tx), e.1.keys[j]? = some t → w.cell? ⟨g, o + j, none⟩ = some (txV t)) ∧ e.1.keys.length ≤ e.2.2
theorem KeyC.below {B : Nat} {w w' : World} {e : E6} (h : KeyC B w e) (hb : Below B w w') : KeyC B w' e :=
  ⟨h.1.imp id fun ⟨g, o, h1, h2, h3⟩ => ⟨g, o, h1, h2, fun j t ht => (hb.cell (p := ⟨g, o + j, none⟩) h2).trans (h3 j t ht)⟩, h.2⟩
theorem KeyC.rdk {B : Nat} {w : World} {e : E6} (h : KeyC B w e) : RdK w (.slice e.2.1 e.1.keys.length e.2.2) e.1.keys :=
  ⟨e.2.1, e.2.2, rfl, h.1.imp id fun ⟨g, o, h1, _, h3⟩ => ⟨g, o, h1, h3⟩⟩
/-- what Steps comes to -/
def RStP (B : Nat) (t : Tr) (w : World) (e : Ending) (w' : World) : Prop :=
  ∃ v' es, e = .returned v' ∧ es.map (·.1) = stepsT t ∧ w'.ownsRow w.heap.size 177 6 v' (stepsT t).length (cellsE es) ∧ (∀ e ∈ es, KeyC B w' e) ∧ Below w.heap.size w w'
/-- the loop over what lies within -/
structure RsL (B : Nat) (w1 : World) (ss : List Stp) (v : Value) (es : List E6) (w : World) : Prop where
  fst : es.map (·.1) = ss
  own : w.ownsRow w1.heap.size 177 6 v ss.length (cellsE es)
  key : ∀ e ∈ es, KeyC B w e
  le : B ≤ w1.heap.size
  fr : Below w1.heap.size w1 w
theorem own_fields (t : Tr) : (ownS t).sort = (t.srt : Int) ∧ (ownS t).flag = t.fl ∧ (ownS t).bits = t.bi ∧ (ownS t).text = t.tx ∧ (ownS t).keys = t.kn ∧ (ownS t).count = (if (t.srt : Int) = 5 then (t.kids.length : Int) else 0) := by
  cases t <;> simp [ownS, nullS, flagS, numS, textS, listS, objS, Tr.srt, Tr.fl, Tr.bi, Tr.tx, Tr.kn, Tr.kids]
theorem own_form {w : World} {B n : Nat} {e : TypeId} {v : Value} {xs : List Value} (h : w.ownsRow B e 6 v n xs) (hn : 0 < n) (hx : xs.length = n * 6) : ∃ g c, v = .slice (some ⟨g, 0, none⟩) n c ∧ g < w.heap.size ∧ ∀ j u, xs[j]? = some u → w.cell? ((⟨g, 0, none⟩ : Addr).add j) = some u := by
  rcases h.2 with ⟨_, h0⟩ | ⟨g, cap, cur, hv, _, hg, _, _, hs, ht⟩
  · omega
  · refine ⟨g, cap, hv, (Array.getElem?_eq_some_iff.1 hg).1, fun j u hu => ?_⟩
    have e1 : (⟨g, 0, none⟩ : Addr).add j = ⟨g, j, none⟩ := by
      unfold Addr.add
      split <;> simp_all
    rw [e1, cell_of_row w g _ cur _ _ hg]
    have hj : j < n * 6 := by rw [← hx]; exact (List.getElem?_eq_some_iff.1 hu).1
    rw [← ht, List.getElem?_take, if_pos hj] at hu
    simpa using hu
theorem nodesL_take (l : List Tr) (k : Nat) : nodesL (l.take k) ≤ nodesL l := by
  have := nodesL_app (l.take k) (l.drop k)
  rw [List.take_append_drop] at this
  omega
theorem cellsE_oneR (es : List E6) : ∀ u ∈ cellsE es, u.oneCell' = true := by
  intro u hu
  unfold cellsE at hu
  obtain ⟨e, _, he⟩ := List.mem_flatMap.1 hu
  exact cell6_one _ _ _ u he
theorem RsL.next {B : Nat} {w1 wr w5 w9 : World} {ss s' : List Stp} {A3 : Option Addr} {q3 g9 q9 : Nat} {es es5 : List E6} {ss2 : List Stp} (h : RsL B w1 ss (.slice A3 ss.length q3) es wr) (hs : ss2 = ss ++ s') (hb : Below wr.heap.size wr w5) (hk : ∀ e ∈ es5, KeyC B w5 e) (hf : es5.map (·.1) = s')
    (ho3 : w5.ownsRow w1.heap.size 177 6 (.slice A3 ss.length q3) ss.length (cellsE es))
    (ho : w9.ownsRow w1.heap.size 177 6 (.slice (some ⟨g9, 0, none⟩) (ss.length + s'.length) q9) (ss.length + s'.length) (cellsE es ++ cellsE es5)) (hg : w5.grownBy w9 (Value.slice A3 ss.length q3).ownBlock) : RsL B w1 ss2 (.slice (some ⟨g9, 0, none⟩) (ss.length + s'.length) q9) (es ++ es5) w9 := by
  subst hs
  have hsz := h.fr.size
  have hsz5 := hb.size
  have hle := h.le
  have hb9 : Below w1.heap.size w5 w9 := (Below.refl w1.heap.size w5).grown hg (by omega) (fun g hg' => (ho3.lt g hg').1)
  have hkk : ∀ e, KeyC B w5 e → KeyC B w9 e := fun e hke => hke.below (hb9.mono hle)
  refine ⟨by rw [List.map_append, h.fst, hf], ?_, fun e he => ?_, ?_, ?_⟩
  · rw [List.length_append]
    have e1 : cellsE (es ++ es5) = cellsE es ++ cellsE es5 := by unfold cellsE; rw [List.flatMap_append]
    rw [e1]
    exact ho
  · rcases List.mem_append.1 he with he | he
    · exact hkk e ((h.key e he).below (hb.mono (by omega)))
    · exact hkk e (hk e he)
  · exact hle
  · exact (h.fr.trans (hb.mono hsz)).trans hb9
theorem own_baseW {w : World} {B B' n : Nat} {e : TypeId} {v : Value} {xs : List Value} (h : w.ownsRow B e 6 v n xs) (hB : B' ≤ B) : w.ownsRow B' e 6 v n xs :=
  ⟨h.1, h.2.imp id fun ⟨g, cap, cur, e1, e2, e3⟩ => ⟨g, cap, cur, e1, Nat.le_trans hB e2, e3⟩⟩
theorem RsL.fin {B : Nat} {w1 wr wz w9 : World} {A3 : Option Addr} {q3 g9 q9 d : Nat} {K : Option Addr} {es : List E6} {ob : Obj} (t : Tr) (h : RsL B w1 (stepsL t.kids) (.slice A3 (stepsL t.kids).length q3) es wr) (hb : Below wr.heap.size wr wz) (hk : KeyC B wr (ownS t, K, d))
    (ho3 : (wz.alloc ob).ownsRow w1.heap.size 177 6 (.slice A3 (stepsL t.kids).length q3) (stepsL t.kids).length (cellsE es))
    (ho : w9.ownsRow w1.heap.size 177 6 (.slice (some ⟨g9, 0, none⟩) ((stepsL t.kids).length + 1) q9) ((stepsL t.kids).length + 1) (cellsE es ++ cell6 (ownS t) K d)) (hg : (wz.alloc ob).grownBy w9 (Value.slice A3 (stepsL t.kids).length q3).ownBlock) : RsL B w1 (stepsT t) (.slice (some ⟨g9, 0, none⟩) ((stepsL t.kids).length + 1) q9) (es ++ [(ownS t, K, d)]) w9 := by
  have hkid : t.kid = t.kids := by cases t <;> rfl
  have hb2 : Below wr.heap.size wr (wz.alloc ob) := hb.alloc hb.size _
  have := h.next (s' := [ownS t]) (ss2 := stepsT t) (es5 := [(ownS t, K, d)]) (g9 := g9) (q9 := q9) (w9 := w9) (by rw [stepsT_kids, hkid]) hb2 (fun e he => by
    rw [List.mem_singleton.1 he]
    exact hk.below (hb2.mono (by have := h.le; have := h.fr.size; omega))) rfl ho3 (by
    have e1 : cellsE [(ownS t, K, d)] = cell6 (ownS t) K d := by simp [cellsE]
    rw [e1]
    exact ho) hg
  exact this
theorem kid_steps_pos (t : Tr) : 0 < (stepsT t).length := by rw [stepsT_len, kid_nodes]; omega
set_option maxRecDepth 100000 in
set_option maxHeartbeats 16000000 in
theorem rsteps_core (t : Tr) (A : Option Addr) (c : Nat) (K : Option Addr) (d : Nat) (B : Nat) (w : World) (hB : B ≤ w.heap.size) (h : RdV (fun k => k < B) w t ((A, c), (K, d))) (hd : t.kn.length ≤ d) (hn : t.nodes ≤ 1048576)
    (ih : ∀ x, x ∈ t.kids → ∀ (A : Option Addr) (c : Nat) (K : Option Addr) (d : Nat) (w : World), B ≤ w.heap.size → RdV (fun k => k < B) w x ((A, c), (K, d)) → Calls Tryz.prog 67 #[valV x A c K d] w (RStP B x w)) :
    Calls Tryz.prog 67 #[valV t A c K d] w (RStP B t w) := by
  have hba : Below w.heap.size w (w.alloc (.cells #[.int .i64 (t.srt : Nat), .bool t.fl, .int .u64 (t.bi : Nat), .string ⟨t.tx.toArray⟩, .slice A t.kids.length c, .slice K t.kn.length d] 61)) := (Below.refl _ _).alloc (Nat.le_refl _) _
  have hb1 := Blk.new w 61 #[.int .i64 (t.srt : Nat), .bool t.fl, .int .u64 (t.bi : Nat), .string ⟨t.tx.toArray⟩, .slice A t.kids.length c, .slice K t.kn.length d]
  have hsz : (w.alloc (.cells #[.int .i64 (t.srt : Nat), .bool t.fl, .int .u64 (t.bi : Nat), .string ⟨t.tx.toArray⟩, .slice A t.kids.length c, .slice K t.kn.length d] 61)).heap.size = w.heap.size + 1 := by simp
  have HB := Lib.hid hba
  have HBX := Lib.hid hb1
  have HV := Lib.hid (RdV.move (w' := (w.alloc (.cells #[.int .i64 (t.srt : Nat), .bool t.fl, .int .u64 (t.bi : Nat), .string ⟨t.tx.toArray⟩, .slice A t.kids.length c, .slice K t.kn.length d] 61))) (S' := fun k => k < B) (fun k hk hs => ⟨hs, hba.block k hk⟩) _ _ h)
  have HD := Lib.hid hd
  have HIH := Lib.hid ih
  have HNK := Lib.hid (show nodesL t.kids + 1 ≤ 1048576 by have := kid_nodes t; have e : t.kid = t.kids := (by cases t <;> rfl); rw [e] at this; omega)
  have HBB := Lib.hid hB
  clear h hd ih hn hba hb1 hB
  obtain ⟨i0, hi0, hz0, hz1, hz2⟩ := info_parts info_rstep
  go_enter Tryz.func67, Tryz.ntmps67
  go_wp2_with fail
  generalize (w.alloc (.cells #[.int .i64 (t.srt : Nat), .bool t.fl, .int .u64 (t.bi : Nat), .string ⟨t.tx.toArray⟩, .slice A t.kids.length c, .slice K t.kn.length d] 61)) = w1 at *
  go_loopw [3, 4] (fun c3 c4 wr => ∃ (j : Nat) (es : List E6), j ≤ t.kids.length ∧ c4 = .int .i64 j ∧ Hid (RsL B w1 (stepsL (t.kids.take j)) c3 es wr)) (fun _ c4 _ => t.kids.length - (intOf c4).toNat)
  case atStart => exact ⟨0, [], Nat.zero_le _, rfl, Lib.hid ⟨by simp [stepsL], World.ownsRow_nil _ _ _ _, (fun e he => by cases he), by have := HBB.out; omega, Below.refl _ _⟩⟩
  case round =>
    obtain ⟨j, es, hj, rfl, HL⟩ := hrel
    have hBX := HBX.out.below HL.out.fr HBX.out.lt
    obtain ⟨b0, b1, b2, b3, b4, b5⟩ : wr.cell? ⟨w.heap.size, 0, none⟩ = some (.int .i64 (t.srt : Nat)) ∧ wr.cell? ⟨w.heap.size, 1, none⟩ = some (.bool t.fl) ∧ wr.cell? ⟨w.heap.size, 2, none⟩ = some (.int .u64 (t.bi : Nat)) ∧ wr.cell? ⟨w.heap.size, 3, none⟩ = some (.string ⟨t.tx.toArray⟩) ∧ wr.cell? ⟨w.heap.size, 4, none⟩ = some (.slice A t.kids.length c) ∧ wr.cell? ⟨w.heap.size, 5, none⟩ = some (.slice K t.kn.length d) := ⟨hBX.cell 0, hBX.cell 1, hBX.cell 2, hBX.cell 3, hBX.cell 4, hBX.cell 5⟩
    have hws := HL.out.fr.size
    have hBl := hBX.lt
    obtain ⟨A3, q3, rfl⟩ := own_slice HL.out.own
    have HNN := Lib.hid (show (stepsL (t.kids.take j)).length ≤ nodesL t.kids by
      rw [stepsL_len]
      exact nodesL_take t.kids j)
    have hnk := HNK.out
    have hkl : t.kids.length ≤ nodesL t.kids := nodes_len t.kids
    by_cases hlt : j < t.kids.length
    · obtain ⟨xs, hC, hL⟩ := HV.out.kids
      obtain ⟨g, o, x, rfl, _, hxk, hcv, hrv⟩ := cells_at hC hL hlt
      obtain ⟨e0, e1, e2, e3, e4, e5⟩ := hcv.below HL.out.fr
      obtain ⟨⟨Ax, qx⟩, Kx, dx⟩ := x
      simp only at e4 e5
      have hm := HIH.out t.kids[j] (List.getElem_mem hlt)
      have hsn := stepsL_snoc t.kids j hlt
      have HRV := Lib.hid (RdV.move (w' := wr) (S' := fun k => k < B) (fun k hk hs => ⟨hs, HL.out.fr.block k hk⟩) _ _ hrv)
      have HM := Lib.hid hm
      have HSN := Lib.hid hsn
      have HN2 := Lib.hid (show (stepsL (t.kids.take (j + 1))).length ≤ nodesL t.kids by
        rw [stepsL_len]
        exact nodesL_take t.kids (j + 1))
      clear hm hsn hC hL hxk hcv hrv
      generalize t.kids[j] = tk at *
      go_wp2_with fail
      ((with_reducible refine (HM.out Ax qx Kx dx wr (by have := HBB.out; omega) HRV.out).mono ?_); rintro e w5 ⟨v5, es5, rfl, hf5, ho5, hk5, hb5⟩)
      obtain ⟨g5, c5, rfl, hg5, hn5⟩ := own_form ho5 (kid_steps_pos tk) (by rw [cellsE_len, ← List.length_map (f := fun e : E6 => e.1), hf5])
      have hsum : (stepsL (t.kids.take (j + 1))).length = (stepsL (t.kids.take j)).length + (stepsT tk).length := by rw [HSN.out, List.length_append]
      have HB5 := Lib.hid hb5
      have HK5 := Lib.hid hk5
      have HF5 := Lib.hid hf5
      have HSUM := Lib.hid hsum
      have hle2 := HN2.out
      rw [hsum] at hle2
      have hm5 := kid_steps_pos tk
      clear b0 b1 b2 b3 b4 b5 e0 e1 e2 e3 e4 e5 hk5 hf5 hsum
      have ho3 := own_below HL.out.own hb5
      have hws5 := hb5.size
      clear hb5
      go_wp2_with (at_builtin; refine wpList_append_lies _ rfl (.tmp 13) (.tmp 19) _ rfl w1.heap.size 177 i0 _ 6 72 Tryz.underlying175 hi0 hz0 hz1 hz2 rfl (by omega) (.slice A3 (stepsL (t.kids.take j)).length q3) (stepsL (t.kids.take j)).length (cellsE es) rfl ho3 ⟨g5, 0, none⟩ (stepsT tk).length c5 (cellsE es5) rfl (by rw [cellsE_len, ← List.length_map (f := fun e : E6 => e.1), HF5.out]) hn5 (cellsE_oneR es5) hm5 (by unfold maxLen; omega) (by omega) (by omega) _ rfl ?_; intro g9 q9 w9 hown9 hgr9 hat9 hlt9)
      have HN : Hid (RsL B w1 (stepsL (t.kids.take (j + 1))) (.slice (some ⟨g9, 0, none⟩) ((stepsL (t.kids.take j)).length + (stepsT tk).length) q9) (es ++ es5) w9) := Lib.hid (HL.out.next HSN.out HB5.out HK5.out HF5.out ho3 hown9 hgr9)
      clear hown9 hgr9 hat9 hlt9
      go_wp2
      go_roundw
      case rel => exact ⟨j + 1, _, by omega, by go_num, HN⟩
      case measure => simp [intOf]; omega
    · obtain rfl : j = t.kids.length := by omega
      have hE : Hid (KeyC B wr (ownS t, K, d)) := Lib.hid ⟨by
          have hk := HV.out.keys
          rw [show (ownS t).keys = t.kn from (own_fields t).2.2.2.2.1]
          rcases hk with hk | ⟨g, o, hA, hS, hc⟩
          · exact .inl (List.map_eq_nil_iff.1 hk)
          · refine .inr ⟨g, o, hA, hS, fun i u hu => ?_⟩
            have hlt1 : g < w1.heap.size := by have := HBB.out; omega
            exact ((old HL.out.fr).1 _ _ hlt1).trans (hc i (txV u) (by rw [List.getElem?_map, hu]; rfl)), by
          rw [show (ownS t).keys = t.kn from (own_fields t).2.2.2.2.1]
          exact HD.out⟩
      have hcut : t.kids.take t.kids.length = t.kids := List.take_of_length_le (Nat.le_refl _)
      have HLL : Hid (RsL B w1 (stepsL t.kids) (.slice A3 (stepsL t.kids).length q3) es wr) := Lib.hid (by have := HL.out; rwa [hcut] at this)
      rw [hcut]
      have HNN2 := Lib.hid (show (stepsL t.kids).length ≤ nodesL t.kids from Nat.le_of_eq (stepsL_len _))
      clear hcut HL HNN
      by_cases h5 : (t.srt : Int) = 5
      · have h5' : ((t.srt : Int) == 5) = true := by simpa using h5
        have hblk : Blk (wr.alloc (.cells #[.int .i64 5, .bool t.fl, .int .u64 (t.bi : Nat), .string ⟨t.tx.toArray⟩, .int .i64 (t.kids.length : Int), .slice K t.kn.length d] 177)) wr.heap.size 177 (cell6 (ownS t) K d).toArray := by
          have := Blk.new wr 177 #[.int .i64 5, .bool t.fl, .int .u64 (t.bi : Nat), .string ⟨t.tx.toArray⟩, .int .i64 (t.kids.length : Int), .slice K t.kn.length d]
          obtain ⟨f1, f2, f3, f4, f5, f6⟩ := own_fields t
          rw [if_pos h5] at f6
          unfold cell6
          rw [f1, f2, f3, f4, f5, f6, h5]
          exact this
        have hbz : Below wr.heap.size wr (wr.alloc (.cells #[.int .i64 5, .bool t.fl, .int .u64 (t.bi : Nat), .string ⟨t.tx.toArray⟩, .int .i64 (t.kids.length : Int), .slice K t.kn.length d] 177)) := (Below.refl _ _).alloc (Nat.le_refl _) _
        go_upto_region 9 with fail
        generalize (wr.alloc (.cells #[.int .i64 5, .bool t.fl, .int .u64 (t.bi : Nat), .string ⟨t.tx.toArray⟩, .int .i64 (t.kids.length : Int), .slice K t.kn.length d] 177)) = wz at *
        have y0 : wz.cell? ⟨wr.heap.size, 0, none⟩ = some (.int .i64 (ownS t).sort) := hblk.cell 0
        have y1 : wz.cell? ⟨wr.heap.size, 1, none⟩ = some (.bool (ownS t).flag) := hblk.cell 1
        have y2 : wz.cell? ⟨wr.heap.size, 2, none⟩ = some (.int .u64 ((ownS t).bits : Int)) := hblk.cell 2
        have y3 : wz.cell? ⟨wr.heap.size, 3, none⟩ = some (.string ⟨(ownS t).text.toArray⟩) := hblk.cell 3
        have y4 : wz.cell? ⟨wr.heap.size, 4, none⟩ = some (.int .i64 (ownS t).count) := hblk.cell 4
        have y5 : wz.cell? ⟨wr.heap.size, 5, none⟩ = some (.slice K (ownS t).keys.length d) := hblk.cell 5
        have hwz := hbz.size
        have HOZ := Lib.hid (own_below HLL.out.own hbz)
        have HBZ := Lib.hid hbz
        have HEE := hE
        have hnz := HNN2.out
        clear b0 b1 b2 b3 b4 b5 hblk hbz hE h5' h5
        go_wp2_with (at_builtin; go_loud (refine wpList_append_lies _ rfl (.tmp 39) (.tmp 41) _ rfl w1.heap.size 177 i0 _ 6 72 Tryz.underlying175 hi0 hz0 hz1 hz2 rfl (by omega) (.slice A3 (stepsL t.kids).length q3) (stepsL t.kids).length (cellsE es) rfl (HOZ.out.alloc _) ⟨wz.heap.size, 0, none⟩ 1 1 (cell6 (ownS t) K d) rfl rfl (cells_new wz _ _) (cell6_one _ _ _) (by omega) (by unfold maxLen; omega) (by omega) (by simp; omega) _ rfl ?_); intro g9 q9 w9 hown9 hgr9 hat9 hlt9)
        have HF : Hid (RsL B w1 (stepsT t) (.slice (some ⟨g9, 0, none⟩) ((stepsL t.kids).length + 1) q9) (es ++ [(ownS t, K, d)]) w9) := Lib.hid (HLL.out.fin t HBZ.out HEE.out (HOZ.out.alloc _) hown9 hgr9)
        clear hown9 hgr9 hat9 hlt9
        go_wp2
        go_ret
        exact ⟨_, _, rfl, HF.out.fst, own_baseW HF.out.own (by omega), HF.out.key, HB.out.trans (HF.out.fr.mono (by omega))⟩
      · have h5' : ((t.srt : Int) == 5) = false := by simpa using h5
        have hblk : Blk (wr.alloc (.cells #[.int .i64 (t.srt : Nat), .bool t.fl, .int .u64 (t.bi : Nat), .string ⟨t.tx.toArray⟩, .int .i64 0, .slice K t.kn.length d] 177)) wr.heap.size 177 (cell6 (ownS t) K d).toArray := by
          have := Blk.new wr 177 #[.int .i64 (t.srt : Nat), .bool t.fl, .int .u64 (t.bi : Nat), .string ⟨t.tx.toArray⟩, .int .i64 0, .slice K t.kn.length d]
          obtain ⟨f1, f2, f3, f4, f5, f6⟩ := own_fields t
          rw [if_neg h5] at f6
          unfold cell6
          rw [f1, f2, f3, f4, f5, f6]
          exact this
        have hbz : Below wr.heap.size wr (wr.alloc (.cells #[.int .i64 (t.srt : Nat), .bool t.fl, .int .u64 (t.bi : Nat), .string ⟨t.tx.toArray⟩, .int .i64 0, .slice K t.kn.length d] 177)) := (Below.refl _ _).alloc (Nat.le_refl _) _
        go_upto_region 9 with fail
        generalize (wr.alloc (.cells #[.int .i64 (t.srt : Nat), .bool t.fl, .int .u64 (t.bi : Nat), .string ⟨t.tx.toArray⟩, .int .i64 0, .slice K t.kn.length d] 177)) = wz at *
        have y0 : wz.cell? ⟨wr.heap.size, 0, none⟩ = some (.int .i64 (ownS t).sort) := hblk.cell 0
        have y1 : wz.cell? ⟨wr.heap.size, 1, none⟩ = some (.bool (ownS t).flag) := hblk.cell 1
        have y2 : wz.cell? ⟨wr.heap.size, 2, none⟩ = some (.int .u64 ((ownS t).bits : Int)) := hblk.cell 2
        have y3 : wz.cell? ⟨wr.heap.size, 3, none⟩ = some (.string ⟨(ownS t).text.toArray⟩) := hblk.cell 3
        have y4 : wz.cell? ⟨wr.heap.size, 4, none⟩ = some (.int .i64 (ownS t).count) := hblk.cell 4
        have y5 : wz.cell? ⟨wr.heap.size, 5, none⟩ = some (.slice K (ownS t).keys.length d) := hblk.cell 5
        have hwz := hbz.size
        have HOZ := Lib.hid (own_below HLL.out.own hbz)
        have HBZ := Lib.hid hbz
        have HEE := hE
        have hnz := HNN2.out
        clear b0 b1 b2 b3 b4 b5 hblk hbz hE h5' h5
        go_wp2_with (at_builtin; go_loud (refine wpList_append_lies _ rfl (.tmp 39) (.tmp 41) _ rfl w1.heap.size 177 i0 _ 6 72 Tryz.underlying175 hi0 hz0 hz1 hz2 rfl (by omega) (.slice A3 (stepsL t.kids).length q3) (stepsL t.kids).length (cellsE es) rfl (HOZ.out.alloc _) ⟨wz.heap.size, 0, none⟩ 1 1 (cell6 (ownS t) K d) rfl rfl (cells_new wz _ _) (cell6_one _ _ _) (by omega) (by unfold maxLen; omega) (by omega) (by simp; omega) _ rfl ?_); intro g9 q9 w9 hown9 hgr9 hat9 hlt9)
        have HF : Hid (RsL B w1 (stepsT t) (.slice (some ⟨g9, 0, none⟩) ((stepsL t.kids).length + 1) q9) (es ++ [(ownS t, K, d)]) w9) := Lib.hid (HLL.out.fin t HBZ.out HEE.out (HOZ.out.alloc _) hown9 hgr9)
        clear hown9 hgr9 hat9 hlt9
        go_wp2
        go_ret
        exact ⟨_, _, rfl, HF.out.fst, own_baseW HF.out.own (by omega), HF.out.key, HB.out.trans (HF.out.fr.mono (by omega))⟩
end Nd
end Go.Proofs.YtbcckpnngonoeaaGreatDoor
namespace Go.Proofs.YtbcckpnngonoeaaGreatDoor
open Go.RowKit Mem
set_option linter.unusedVariables false
set_option linter.unusedSimpArgs false
namespace Nd
open Cl
theorem rsteps_leaf (t : Tr) (hk : t.kids = []) (hkn : t.kn = []) (A : Option Addr) (c : Nat) (K : Option Addr) (d : Nat) (B : Nat) (w : World) (hB : B ≤ w.heap.size) (h : RdV (fun k => k < B) w t ((A, c), (K, d))) : Calls Tryz.prog 67 #[valV t A c K d] w (RStP B t w) := by
  refine rsteps_core t A c K d B w hB h (by rw [hkn]; simp) ?_ (fun x hx => by rw [hk] at hx; cases hx)
  have := kid_nodes t
  have e : t.kid = t.kids := by cases t <;> rfl
  rw [e, hk] at this
  rw [this]
  decide
theorem rsteps_texts (l : List Txt) (hn : l.length ≤ 1048575) (A : Option Addr) (c : Nat) (K : Option Addr) (d : Nat) (B : Nat) (w : World) (hB : B ≤ w.heap.size) (h : RdV (fun k => k < B) w (.list (l.map .text)) ((A, c), (K, d))) : Calls Tryz.prog 67 #[valV (.list (l.map .text)) A c K d] w (RStP B (.list (l.map .text)) w) := by
  refine rsteps_core _ A c K d B w hB h (Nat.zero_le _) ?_ (fun x hx => ?_)
  · rw [kid_nodes]
    have e : ∀ l : List Txt, nodesL (l.map Tr.text) = l.length := by
      intro l
      induction l with
      | nil => rfl
      | cons x l ih => rw [List.map_cons, nodesL, ih, List.length_cons]; unfold Tr.nodes; omega
    show nodesL (l.map Tr.text) + 1 ≤ _
    rw [e]
    omega
  · obtain ⟨s, _, rfl⟩ := List.mem_map.1 (show x ∈ l.map Tr.text from hx)
    intro A c K d w hB h
    exact rsteps_leaf (.text s) rfl rfl A c K d B w hB h
theorem rsteps_claims {c : C} (hm : mayB c = true) (hf : (objC c).fit = true) (A : Option Addr) (n : Nat) (K : Option Addr) (d : Nat) (B : Nat) (w : World) (hB : B ≤ w.heap.size) (h : RdV (fun k => k < B) w (objC c) ((A, n), (K, d))) (hd : (objC c).kn.length ≤ d) : Calls Tryz.prog 67 #[valV (objC c) A n K d] w (RStP B (objC c) w) := by
  have hfit := fit_le hf
  refine rsteps_core _ A n K d B w hB h hd (by omega) (fun x hx => ?_)
  have hxf : x.fit = true := kid_fit (t := objC c) hf hx
  obtain ⟨j, hj, rfl⟩ := List.mem_map.1 (show x ∈ (placesK c 8).map (valK c) from hx)
  intro A c' K d w hB h
  rcases valK_kinds hm (places_lt hj).1 with ⟨s, hv, _⟩ | ⟨t, hv, _⟩ | ⟨ts, hv, _⟩ <;> rw [hv] at h hxf ⊢
  · exact rsteps_leaf (.text s) rfl rfl A c' K d B w hB h
  · exact rsteps_leaf (.num _) rfl rfl A c' K d B w hB h
  · refine rsteps_texts ts ?_ A c' K d B w hB h
    have h1 := (fit_le hxf).1
    have h2 : ts.length ≤ nodesL (ts.map Tr.text) := by have := nodes_len (ts.map Tr.text); rwa [List.length_map] at this
    rw [kid_nodes] at h1
    have h3 : nodesL (ts.map Tr.text) + 1 ≤ 65536 := h1
    omega
/-- what the law's steps come to -/
def LStP (t : Tr) (w : World) (e : Ending) (w' : World) : Prop := ∃ v', e = .returned v' ∧ RdS w' v' (stepsT t) ∧ Below w.heap.size w w'
set_option maxRecDepth 100000 in
set_option maxHeartbeats 16000000 in
theorem lsteps_any (t : Tr) (A : Option Addr) (c : Nat) (K : Option Addr) (d : Nat) (w : World) (hn : t.nodes ≤ 1048576)
    (hst : ∀ w', w'.heap.size = w.heap.size + 1 → Below w.heap.size w w' → Calls Tryz.prog 67 #[valV t A c K d] w' (RStP w.heap.size t w')) :
    Calls Tryz.prog 32 #[valV t A c K d] w (LStP t w) := by
  have hba : Below w.heap.size w (w.alloc (.cells #[.int .i64 (t.srt : Nat), .bool t.fl, .int .u64 (t.bi : Nat), .string ⟨t.tx.toArray⟩, .slice A t.kids.length c, .slice K t.kn.length d] 61)) := (Below.refl _ _).alloc (Nat.le_refl _) _
  have hsz : (w.alloc (.cells #[.int .i64 (t.srt : Nat), .bool t.fl, .int .u64 (t.bi : Nat), .string ⟨t.tx.toArray⟩, .slice A t.kids.length c, .slice K t.kn.length d] 61)).heap.size = w.heap.size + 1 := by simp
  have HST := Lib.hid (hst _ hsz hba)
  have HB := Lib.hid hba
  have HNN := Lib.hid (show (stepsT t).length ≤ 1048576 by rw [stepsT_len]; exact hn)
  clear hst hba hn
  obtain ⟨i0, hi0, hz0, hz1, hz2⟩ := info_parts info_step
  go_enter Tryz.func32, Tryz.ntmps32
  go_wp2_with fail
  generalize (w.alloc (.cells #[.int .i64 (t.srt : Nat), .bool t.fl, .int .u64 (t.bi : Nat), .string ⟨t.tx.toArray⟩, .slice A t.kids.length c, .slice K t.kn.length d] 61)) = w0 at *
  ((with_reducible refine HST.out.mono ?_); rintro e w1 ⟨v1, es0, rfl, hf0, ho0, hk0, hb0⟩)
  have hS1 : RdS w1 v1 (stepsT t) := by
    have := own_rds ho0 (fun e he => ⟨(hk0 e he).rdk, (hk0 e he).2⟩)
    rwa [hf0] at this
  have HBW := Lib.hid (HB.out.trans (hb0.mono HB.out.size))
  have HK0 := Lib.hid (show ∀ e ∈ es0, KeyC w.heap.size w1 e from hk0)
  have HF0 := Lib.hid hf0
  clear hf0 ho0 hk0 hb0 HST
  obtain ⟨ss, hss⟩ : ∃ ss, stepsT t = ss := ⟨_, rfl⟩
  rw [hss] at hS1 HF0 HNN
  have HSS := Lib.hid hss
  clear hss
  obtain ⟨A1, c1, rfl, _⟩ := id hS1
  obtain ⟨es, hes, hec⟩ := rds_es hS1
  have hel : es.length = ss.length := by rw [← hes]; simp
  have HES := Lib.hid (And.intro hes hec)
  have HEL := Lib.hid hel
  have hnn := HNN.out
  clear hS1 hes hec hel
  go_wp2_with fail
  go_loopw [3, 9] (fun c3 c9 wr => ∃ k : Nat, k ≤ ss.length ∧ c9 = .int .i64 k ∧ Hid (wr.ownsRow w1.heap.size 101 6 c3 k (cellsE (es.take k)) ∧ Below w1.heap.size w1 wr)) (fun _ c9 _ => ss.length - (intOf c9).toNat)
  case atStart => exact ⟨0, Nat.zero_le _, rfl, Lib.hid ⟨World.ownsRow_nil _ _ _ _, Below.refl _ _⟩⟩
  case round =>
    obtain ⟨k, hk, rfl, HI⟩ := hrel
    have hbs := HI.out.2.size
    by_cases hlt : k < ss.length
    · obtain ⟨g, o, K9, q, rfl, hC, hek⟩ := HES.out.2 k hlt
      have hsn := cellsE_snoc es k _ hek
      obtain ⟨c0, c1, c2, c3, c4, c5, ck⟩ := hC.below HI.out.2
      have HSN := Lib.hid hsn
      clear ck hC hek hsn
      generalize ss[k] = s at *
      obtain ⟨A3, q3, rfl⟩ := own_slice HI.out.1
      have hba : Below wr.heap.size wr (wr.alloc (.cells #[.int .i64 s.sort, .bool s.flag, .int .u64 (s.bits : Int), .string ⟨s.text.toArray⟩, .int .i64 s.count, .slice K9 s.keys.length q] 177)) := (Below.refl _ _).alloc (Nat.le_refl _) _
      have ho9 : ((wr.alloc (.cells #[.int .i64 s.sort, .bool s.flag, .int .u64 (s.bits : Int), .string ⟨s.text.toArray⟩, .int .i64 s.count, .slice K9 s.keys.length q] 177)).alloc (.cells #[.int .i64 s.sort, .bool s.flag, .int .u64 (s.bits : Int), .string ⟨s.text.toArray⟩, .int .i64 s.count, .slice K9 s.keys.length q] 101)).ownsRow w1.heap.size 101 6 (.slice A3 k q3) k (cellsE (es.take k)) := own_below (own_below HI.out.1 hba) ((Below.refl _ _).alloc (Nat.le_refl _) _)
      have hcn := cells_new (wr.alloc (.cells #[.int .i64 s.sort, .bool s.flag, .int .u64 (s.bits : Int), .string ⟨s.text.toArray⟩, .int .i64 s.count, .slice K9 s.keys.length q] 177)) (cell6 s K9 q) 101
      rw [World.size_alloc] at hcn
      have HBB := Lib.hid (HI.out.2.trans ((hba.alloc hba.size (.cells #[.int .i64 s.sort, .bool s.flag, .int .u64 (s.bits : Int), .string ⟨s.text.toArray⟩, .int .i64 s.count, .slice K9 s.keys.length q] 101)).mono hbs))
      go_wp2_with (at_builtin; refine wpList_append_own_at _ rfl _ _ 25 rfl w1.heap.size 101 i0 _ 6 72 Tryz.underlying25 hi0 hz0 hz1 hz2 rfl (by omega) (.slice A3 k q3) k (cellsE (es.take k)) rfl ho9 ⟨wr.heap.size + 1, 0, none⟩ 1 1 (cell6 s K9 q) rfl rfl hcn (cell6_one s K9 q) ?b1 ?b2 ?b3 ?_; (unfold maxLen; omega); omega; (simp; omega); intro v9 w9 hown9 hgr9 hnil9 hat9)
      have hb9 : Below w1.heap.size w1 w9 := HBB.out.grown hgr9 (by simp; omega) (fun j hj => (own_typed ho9 j hj).1)
      have HN : Hid (w9.ownsRow w1.heap.size 101 6 v9 (k + 1) (cellsE (es.take (k + 1))) ∧ Below w1.heap.size w1 w9) := Lib.hid ⟨by rw [HSN.out]; exact hown9, hb9⟩
      clear hown9 hgr9 hnil9 hat9 hb9 ho9
      go_wp2
      go_roundw
      case rel => exact ⟨k + 1, by omega, by go_num, HN⟩
      case measure => simp [intOf]; omega
    · obtain rfl : k = ss.length := by omega
      have hfin : RdS wr u3 ss := by
        have h1 := HI.out.1
        rw [← HEL.out, List.take_of_length_le (Nat.le_refl _)] at h1
        have h2 := own_rds h1 (fun e he => by
          obtain ⟨j, hj, hje⟩ := List.getElem_of_mem he
          obtain ⟨g, o, K, q, _, hC, hek⟩ := HES.out.2 j (by rw [← HEL.out]; exact hj)
          rw [List.getElem?_eq_getElem hj, hje] at hek
          injection hek with hek
          rw [hek]
          exact ⟨hC.ks.below HI.out.2, hC.kc⟩)
        rw [HES.out.1] at h2
        exact h2
      have HFI := Lib.hid hfin
      have HBF := Lib.hid (HBW.out.trans (HI.out.2.mono HBW.out.size))
      clear hfin
      go_wp2
      go_ret
      exact ⟨_, rfl, by rw [HSS.out]; exact HFI.out, HBF.out⟩
end Nd
end Go.Proofs.YtbcckpnngonoeaaGreatDoor
namespace Go.Proofs.YtbcckpnngonoeaaGreatDoor
open Go.RowKit Mem Utf Ref3 Tok Cl
set_option linter.unusedVariables false

def firstOf : Code → Code
  | .seq a _ => a
  | c => c
def nextOf : Code → Code
  | .seq _ b => b
  | c => c
def opsOf : Code → Array Oper
  | .region _ ops _ => ops
  | _ => #[]
theorem wpAnyH_listed {P : Program} {md : Region.Mode} {ops : Array Oper} {Q : Exit → Act → World → Prop} {S : World → Prop} {n : Nat} {l : Array Bool} {a : Act} {w : World} (l' : Array Bool) (a' : Act) (hl : l = l') (ha : a = a') (h : wpAnyH P md ops Q S n l' a' w) : wpAnyH P md ops Q S n l a w := by
  rw [hl, ha]
  exact h
theorem yields_addr {ops : Array Oper} {S : World → Prop} {o : Oper} {a : Act} (hg : o.guard = none) (t : TypeId) (x : Operand) (k : Nat) (ho : o.op = .fieldAddr t x k) (u v : Value) (hx : a.eval x = u) (hr : ∀ W, (Instr.fieldAt t u k).run Tryz.prog W = .ok v W) : YieldsIf Tryz.prog ops S o v a :=
  .inl ⟨by simp [Region.wanted, hg], fun W _ => by
    unfold execOp
    simp only [ho, hx, Sem.run_bind, hr, Result.andThen_ok, Sem.run_pure]⟩
theorem yields_load1 {ops : Array Oper} {S : World → Prop} {o : Oper} {a : Act} (hg : o.guard = none) (t : TypeId) (x : Operand) (ho : o.op = .load t x) (u v : Value) (hx : a.eval x = u) (hr : ∀ W, S W → (Instr.loadAt t u).run Tryz.prog W = .ok v W) : YieldsIf Tryz.prog ops S o v a :=
  .inl ⟨by simp [Region.wanted, hg], fun W hW => by
    unfold execOp
    simp only [ho, hx, Sem.run_bind, hr W hW, Result.andThen_ok, Sem.run_pure]⟩
theorem yields_assign {ops : Array Oper} {S : World → Prop} {o : Oper} {a : Act} (hg : o.guard = none) (x : Operand) (ho : o.op = .assign x) (v : Value) (hx : a.eval x = v) : YieldsIf Tryz.prog ops S o v a :=
  .inl ⟨by simp [Region.wanted, hg], fun W _ => by
    unfold execOp
    simp only [ho, hx, Sem.run_pure]⟩
theorem step_call1 {ops : Array Oper} {o : Oper} {a : Act} {W : World} {K : Act → World → Prop} {Q : Exit → Act → World → Prop} {E : Prop} (hg : o.guard = none) (f : FuncId) (x : Operand) (ts : Array TypeId) (hop : o.op = .call { callee := .value (.func f), args := #[x], argTypes := ts })
    (u : Value) (hx : a.eval x = u) (hcf : ∀ args W, (callFunc f args).run Tryz.prog W = .ok (.enter f args) W) (h : Calls Tryz.prog f #[u] W fun e w' => ∃ z, e = .returned z ∧ K (a.put o.dst z) w') : if Region.wanted o (yielded ops a.tmps) = true then Oper.wp Tryz.prog o a W K Q else E := by
  rw [if_pos (by simp [Region.wanted, hg])]
  unfold Oper.wp
  have hf : a.eval (.func f) = .func (.func f) #[] #[] := rfl
  have hd : (Deferred.ofValue (.func (.func f) #[] #[]) #[u]).run Tryz.prog W = .ok { target := .fn (.func f) #[], args := #[u] } W := rfl
  simp [execOp, hop, resolve, invoke, hx, hf, hd, hcf, Result.andThen, Oper.upon]
  refine h.mono ?_
  rintro e w' ⟨z, rfl, hk⟩
  exact hk
theorem step_store1 {ops : Array Oper} {o : Oper} {a : Act} {W : World} {K : Act → World → Prop} {Q : Exit → Act → World → Prop} {E : Prop} (hg : o.guard = none) (p x : Operand) (hop : o.op = .store 22 p x) (hd : o.dst = none)
    (g k : Nat) (t : TypeId) (cs : Array Value) (A : Option Addr) (n q : Nat) (hp : a.eval p = .pointer (some ⟨g, k, none⟩)) (hx : a.eval x = .slice A n q) (hB : Blk W g t cs) (hk : k < cs.size)
    (h : K a (W.setCell ⟨g, k, none⟩ (.slice A n q))) : if Region.wanted o (yielded ops a.tmps) = true then Oper.wp Tryz.prog o a W K Q else E := by
  rw [if_pos (by simp [Region.wanted, hg])]
  have hc : W.cell? ⟨g, k, none⟩ = some cs[k] := by rw [hB.cell k, Array.getElem?_eq_getElem hk]
  have hf := hB.frozen k
  have hst : (Instr.storeAt 22 (.pointer (some ⟨g, k, none⟩)) (.slice A n q)).run Tryz.prog W = .ok () (W.setCell ⟨g, k, none⟩ (.slice A n q)) := by
    simp [Instr.storeAt, Instr.sureAddr, go_sem, hc, hf]
  unfold Oper.wp execOp
  simp only [hop, hp, hx, Sem.run_bind, Sem.run_pure, Result.andThen_ok, hst]
  have e : a.put o.dst undef = a := by rw [hd]; rfl
  show K (a.put o.dst undef) _
  rw [e]
  exact h
theorem callL (args : Array Value) (W : World) : (callFunc 27 args).run Tryz.prog W = .ok (.enter 27 args) W := by
  kernel_rfl
def cmFrame (z0 z1 z2 z3 z4 z5 z6 z7 z8 z9 z10 z11 z12 z13 z14 z15 z16 z17 z18 z19 z20 z21 z22 z23 z24 z25 z26 z27 z28 z29 z30 z31 z32 z33 z34 z35 z36 z37 z38 z39 z40 z41 z42 z43 z44 z45 z46 z47 z48 z49 z50 z51 z52 z53 z54 z55 z56 z57 z58 z59 z60 z61 z62 z63 z64 z65 z66 z67 z68 z69 z70 z71 z72 z73 z74 z75 z76 z77 z78 z79 z80 z81 z82 z83 z84 z85 z86 z87 z88 z89 z90 z91 z92 z93 z94 z95 z96 z97 z98 z99 : Value) : Act := { tmps := (z0 :: z1 :: z2 :: z3 :: z4 :: z5 :: z6 :: z7 :: z8 :: z9 :: z10 :: z11 :: z12 :: z13 :: z14 :: z15 :: z16 :: z17 :: z18 :: z19 :: z20 :: z21 :: z22 :: z23 :: z24 :: z25 :: z26 :: z27 :: z28 :: z29 :: z30 :: z31 :: z32 :: z33 :: z34 :: z35 :: z36 :: z37 :: z38 :: z39 :: z40 :: z41 :: z42 :: z43 :: z44 :: z45 :: z46 :: z47 :: z48 :: z49 :: z50 :: z51 :: z52 :: z53 :: z54 :: z55 :: z56 :: z57 :: z58 :: z59 :: z60 :: z61 :: z62 :: z63 :: z64 :: z65 :: z66 :: z67 :: z68 :: z69 :: z70 :: z71 :: z72 :: z73 :: z74 :: z75 :: z76 :: z77 :: z78 :: z79 :: z80 :: z81 :: z82 :: z83 :: z84 :: z85 :: z86 :: z87 :: z88 :: z89 :: z90 :: z91 :: z92 :: z93 :: z94 :: z95 :: z96 :: z97 :: z98 :: z99 :: []).toArray, defers := [] }
theorem cm_put13 (z0 z1 z2 z3 z4 z5 z6 z7 z8 z9 z10 z11 z12 z13 z14 z15 z16 z17 z18 z19 z20 z21 z22 z23 z24 z25 z26 z27 z28 z29 z30 z31 z32 z33 z34 z35 z36 z37 z38 z39 z40 z41 z42 z43 z44 z45 z46 z47 z48 z49 z50 z51 z52 z53 z54 z55 z56 z57 z58 z59 z60 z61 z62 z63 z64 z65 z66 z67 z68 z69 z70 z71 z72 z73 z74 z75 z76 z77 z78 z79 z80 z81 z82 z83 z84 z85 z86 z87 z88 z89 z90 z91 z92 z93 z94 z95 z96 z97 z98 z99 v : Value) : (cmFrame z0 z1 z2 z3 z4 z5 z6 z7 z8 z9 z10 z11 z12 z13 z14 z15 z16 z17 z18 z19 z20 z21 z22 z23 z24 z25 z26 z27 z28 z29 z30 z31 z32 z33 z34 z35 z36 z37 z38 z39 z40 z41 z42 z43 z44 z45 z46 z47 z48 z49 z50 z51 z52 z53 z54 z55 z56 z57 z58 z59 z60 z61 z62 z63 z64 z65 z66 z67 z68 z69 z70 z71 z72 z73 z74 z75 z76 z77 z78 z79 z80 z81 z82 z83 z84 z85 z86 z87 z88 z89 z90 z91 z92 z93 z94 z95 z96 z97 z98 z99).put (some 13) v = cmFrame z0 z1 z2 z3 z4 z5 z6 z7 z8 z9 z10 z11 z12 v z14 z15 z16 z17 z18 z19 z20 z21 z22 z23 z24 z25 z26 z27 z28 z29 z30 z31 z32 z33 z34 z35 z36 z37 z38 z39 z40 z41 z42 z43 z44 z45 z46 z47 z48 z49 z50 z51 z52 z53 z54 z55 z56 z57 z58 z59 z60 z61 z62 z63 z64 z65 z66 z67 z68 z69 z70 z71 z72 z73 z74 z75 z76 z77 z78 z79 z80 z81 z82 z83 z84 z85 z86 z87 z88 z89 z90 z91 z92 z93 z94 z95 z96 z97 z98 z99 := by kernel_rfl
theorem cm_put14 (z0 z1 z2 z3 z4 z5 z6 z7 z8 z9 z10 z11 z12 z13 z14 z15 z16 z17 z18 z19 z20 z21 z22 z23 z24 z25 z26 z27 z28 z29 z30 z31 z32 z33 z34 z35 z36 z37 z38 z39 z40 z41 z42 z43 z44 z45 z46 z47 z48 z49 z50 z51 z52 z53 z54 z55 z56 z57 z58 z59 z60 z61 z62 z63 z64 z65 z66 z67 z68 z69 z70 z71 z72 z73 z74 z75 z76 z77 z78 z79 z80 z81 z82 z83 z84 z85 z86 z87 z88 z89 z90 z91 z92 z93 z94 z95 z96 z97 z98 z99 v : Value) : (cmFrame z0 z1 z2 z3 z4 z5 z6 z7 z8 z9 z10 z11 z12 z13 z14 z15 z16 z17 z18 z19 z20 z21 z22 z23 z24 z25 z26 z27 z28 z29 z30 z31 z32 z33 z34 z35 z36 z37 z38 z39 z40 z41 z42 z43 z44 z45 z46 z47 z48 z49 z50 z51 z52 z53 z54 z55 z56 z57 z58 z59 z60 z61 z62 z63 z64 z65 z66 z67 z68 z69 z70 z71 z72 z73 z74 z75 z76 z77 z78 z79 z80 z81 z82 z83 z84 z85 z86 z87 z88 z89 z90 z91 z92 z93 z94 z95 z96 z97 z98 z99).put (some 14) v = cmFrame z0 z1 z2 z3 z4 z5 z6 z7 z8 z9 z10 z11 z12 z13 v z15 z16 z17 z18 z19 z20 z21 z22 z23 z24 z25 z26 z27 z28 z29 z30 z31 z32 z33 z34 z35 z36 z37 z38 z39 z40 z41 z42 z43 z44 z45 z46 z47 z48 z49 z50 z51 z52 z53 z54 z55 z56 z57 z58 z59 z60 z61 z62 z63 z64 z65 z66 z67 z68 z69 z70 z71 z72 z73 z74 z75 z76 z77 z78 z79 z80 z81 z82 z83 z84 z85 z86 z87 z88 z89 z90 z91 z92 z93 z94 z95 z96 z97 z98 z99 := by kernel_rfl
theorem cm_put15 (z0 z1 z2 z3 z4 z5 z6 z7 z8 z9 z10 z11 z12 z13 z14 z15 z16 z17 z18 z19 z20 z21 z22 z23 z24 z25 z26 z27 z28 z29 z30 z31 z32 z33 z34 z35 z36 z37 z38 z39 z40 z41 z42 z43 z44 z45 z46 z47 z48 z49 z50 z51 z52 z53 z54 z55 z56 z57 z58 z59 z60 z61 z62 z63 z64 z65 z66 z67 z68 z69 z70 z71 z72 z73 z74 z75 z76 z77 z78 z79 z80 z81 z82 z83 z84 z85 z86 z87 z88 z89 z90 z91 z92 z93 z94 z95 z96 z97 z98 z99 v : Value) : (cmFrame z0 z1 z2 z3 z4 z5 z6 z7 z8 z9 z10 z11 z12 z13 z14 z15 z16 z17 z18 z19 z20 z21 z22 z23 z24 z25 z26 z27 z28 z29 z30 z31 z32 z33 z34 z35 z36 z37 z38 z39 z40 z41 z42 z43 z44 z45 z46 z47 z48 z49 z50 z51 z52 z53 z54 z55 z56 z57 z58 z59 z60 z61 z62 z63 z64 z65 z66 z67 z68 z69 z70 z71 z72 z73 z74 z75 z76 z77 z78 z79 z80 z81 z82 z83 z84 z85 z86 z87 z88 z89 z90 z91 z92 z93 z94 z95 z96 z97 z98 z99).put (some 15) v = cmFrame z0 z1 z2 z3 z4 z5 z6 z7 z8 z9 z10 z11 z12 z13 z14 v z16 z17 z18 z19 z20 z21 z22 z23 z24 z25 z26 z27 z28 z29 z30 z31 z32 z33 z34 z35 z36 z37 z38 z39 z40 z41 z42 z43 z44 z45 z46 z47 z48 z49 z50 z51 z52 z53 z54 z55 z56 z57 z58 z59 z60 z61 z62 z63 z64 z65 z66 z67 z68 z69 z70 z71 z72 z73 z74 z75 z76 z77 z78 z79 z80 z81 z82 z83 z84 z85 z86 z87 z88 z89 z90 z91 z92 z93 z94 z95 z96 z97 z98 z99 := by kernel_rfl
theorem cm_put16 (z0 z1 z2 z3 z4 z5 z6 z7 z8 z9 z10 z11 z12 z13 z14 z15 z16 z17 z18 z19 z20 z21 z22 z23 z24 z25 z26 z27 z28 z29 z30 z31 z32 z33 z34 z35 z36 z37 z38 z39 z40 z41 z42 z43 z44 z45 z46 z47 z48 z49 z50 z51 z52 z53 z54 z55 z56 z57 z58 z59 z60 z61 z62 z63 z64 z65 z66 z67 z68 z69 z70 z71 z72 z73 z74 z75 z76 z77 z78 z79 z80 z81 z82 z83 z84 z85 z86 z87 z88 z89 z90 z91 z92 z93 z94 z95 z96 z97 z98 z99 v : Value) : (cmFrame z0 z1 z2 z3 z4 z5 z6 z7 z8 z9 z10 z11 z12 z13 z14 z15 z16 z17 z18 z19 z20 z21 z22 z23 z24 z25 z26 z27 z28 z29 z30 z31 z32 z33 z34 z35 z36 z37 z38 z39 z40 z41 z42 z43 z44 z45 z46 z47 z48 z49 z50 z51 z52 z53 z54 z55 z56 z57 z58 z59 z60 z61 z62 z63 z64 z65 z66 z67 z68 z69 z70 z71 z72 z73 z74 z75 z76 z77 z78 z79 z80 z81 z82 z83 z84 z85 z86 z87 z88 z89 z90 z91 z92 z93 z94 z95 z96 z97 z98 z99).put (some 16) v = cmFrame z0 z1 z2 z3 z4 z5 z6 z7 z8 z9 z10 z11 z12 z13 z14 z15 v z17 z18 z19 z20 z21 z22 z23 z24 z25 z26 z27 z28 z29 z30 z31 z32 z33 z34 z35 z36 z37 z38 z39 z40 z41 z42 z43 z44 z45 z46 z47 z48 z49 z50 z51 z52 z53 z54 z55 z56 z57 z58 z59 z60 z61 z62 z63 z64 z65 z66 z67 z68 z69 z70 z71 z72 z73 z74 z75 z76 z77 z78 z79 z80 z81 z82 z83 z84 z85 z86 z87 z88 z89 z90 z91 z92 z93 z94 z95 z96 z97 z98 z99 := by kernel_rfl
theorem cm_put17 (z0 z1 z2 z3 z4 z5 z6 z7 z8 z9 z10 z11 z12 z13 z14 z15 z16 z17 z18 z19 z20 z21 z22 z23 z24 z25 z26 z27 z28 z29 z30 z31 z32 z33 z34 z35 z36 z37 z38 z39 z40 z41 z42 z43 z44 z45 z46 z47 z48 z49 z50 z51 z52 z53 z54 z55 z56 z57 z58 z59 z60 z61 z62 z63 z64 z65 z66 z67 z68 z69 z70 z71 z72 z73 z74 z75 z76 z77 z78 z79 z80 z81 z82 z83 z84 z85 z86 z87 z88 z89 z90 z91 z92 z93 z94 z95 z96 z97 z98 z99 v : Value) : (cmFrame z0 z1 z2 z3 z4 z5 z6 z7 z8 z9 z10 z11 z12 z13 z14 z15 z16 z17 z18 z19 z20 z21 z22 z23 z24 z25 z26 z27 z28 z29 z30 z31 z32 z33 z34 z35 z36 z37 z38 z39 z40 z41 z42 z43 z44 z45 z46 z47 z48 z49 z50 z51 z52 z53 z54 z55 z56 z57 z58 z59 z60 z61 z62 z63 z64 z65 z66 z67 z68 z69 z70 z71 z72 z73 z74 z75 z76 z77 z78 z79 z80 z81 z82 z83 z84 z85 z86 z87 z88 z89 z90 z91 z92 z93 z94 z95 z96 z97 z98 z99).put (some 17) v = cmFrame z0 z1 z2 z3 z4 z5 z6 z7 z8 z9 z10 z11 z12 z13 z14 z15 z16 v z18 z19 z20 z21 z22 z23 z24 z25 z26 z27 z28 z29 z30 z31 z32 z33 z34 z35 z36 z37 z38 z39 z40 z41 z42 z43 z44 z45 z46 z47 z48 z49 z50 z51 z52 z53 z54 z55 z56 z57 z58 z59 z60 z61 z62 z63 z64 z65 z66 z67 z68 z69 z70 z71 z72 z73 z74 z75 z76 z77 z78 z79 z80 z81 z82 z83 z84 z85 z86 z87 z88 z89 z90 z91 z92 z93 z94 z95 z96 z97 z98 z99 := by kernel_rfl
theorem cm_put18 (z0 z1 z2 z3 z4 z5 z6 z7 z8 z9 z10 z11 z12 z13 z14 z15 z16 z17 z18 z19 z20 z21 z22 z23 z24 z25 z26 z27 z28 z29 z30 z31 z32 z33 z34 z35 z36 z37 z38 z39 z40 z41 z42 z43 z44 z45 z46 z47 z48 z49 z50 z51 z52 z53 z54 z55 z56 z57 z58 z59 z60 z61 z62 z63 z64 z65 z66 z67 z68 z69 z70 z71 z72 z73 z74 z75 z76 z77 z78 z79 z80 z81 z82 z83 z84 z85 z86 z87 z88 z89 z90 z91 z92 z93 z94 z95 z96 z97 z98 z99 v : Value) : (cmFrame z0 z1 z2 z3 z4 z5 z6 z7 z8 z9 z10 z11 z12 z13 z14 z15 z16 z17 z18 z19 z20 z21 z22 z23 z24 z25 z26 z27 z28 z29 z30 z31 z32 z33 z34 z35 z36 z37 z38 z39 z40 z41 z42 z43 z44 z45 z46 z47 z48 z49 z50 z51 z52 z53 z54 z55 z56 z57 z58 z59 z60 z61 z62 z63 z64 z65 z66 z67 z68 z69 z70 z71 z72 z73 z74 z75 z76 z77 z78 z79 z80 z81 z82 z83 z84 z85 z86 z87 z88 z89 z90 z91 z92 z93 z94 z95 z96 z97 z98 z99).put (some 18) v = cmFrame z0 z1 z2 z3 z4 z5 z6 z7 z8 z9 z10 z11 z12 z13 z14 z15 z16 z17 v z19 z20 z21 z22 z23 z24 z25 z26 z27 z28 z29 z30 z31 z32 z33 z34 z35 z36 z37 z38 z39 z40 z41 z42 z43 z44 z45 z46 z47 z48 z49 z50 z51 z52 z53 z54 z55 z56 z57 z58 z59 z60 z61 z62 z63 z64 z65 z66 z67 z68 z69 z70 z71 z72 z73 z74 z75 z76 z77 z78 z79 z80 z81 z82 z83 z84 z85 z86 z87 z88 z89 z90 z91 z92 z93 z94 z95 z96 z97 z98 z99 := by kernel_rfl
theorem cm_put19 (z0 z1 z2 z3 z4 z5 z6 z7 z8 z9 z10 z11 z12 z13 z14 z15 z16 z17 z18 z19 z20 z21 z22 z23 z24 z25 z26 z27 z28 z29 z30 z31 z32 z33 z34 z35 z36 z37 z38 z39 z40 z41 z42 z43 z44 z45 z46 z47 z48 z49 z50 z51 z52 z53 z54 z55 z56 z57 z58 z59 z60 z61 z62 z63 z64 z65 z66 z67 z68 z69 z70 z71 z72 z73 z74 z75 z76 z77 z78 z79 z80 z81 z82 z83 z84 z85 z86 z87 z88 z89 z90 z91 z92 z93 z94 z95 z96 z97 z98 z99 v : Value) : (cmFrame z0 z1 z2 z3 z4 z5 z6 z7 z8 z9 z10 z11 z12 z13 z14 z15 z16 z17 z18 z19 z20 z21 z22 z23 z24 z25 z26 z27 z28 z29 z30 z31 z32 z33 z34 z35 z36 z37 z38 z39 z40 z41 z42 z43 z44 z45 z46 z47 z48 z49 z50 z51 z52 z53 z54 z55 z56 z57 z58 z59 z60 z61 z62 z63 z64 z65 z66 z67 z68 z69 z70 z71 z72 z73 z74 z75 z76 z77 z78 z79 z80 z81 z82 z83 z84 z85 z86 z87 z88 z89 z90 z91 z92 z93 z94 z95 z96 z97 z98 z99).put (some 19) v = cmFrame z0 z1 z2 z3 z4 z5 z6 z7 z8 z9 z10 z11 z12 z13 z14 z15 z16 z17 z18 v z20 z21 z22 z23 z24 z25 z26 z27 z28 z29 z30 z31 z32 z33 z34 z35 z36 z37 z38 z39 z40 z41 z42 z43 z44 z45 z46 z47 z48 z49 z50 z51 z52 z53 z54 z55 z56 z57 z58 z59 z60 z61 z62 z63 z64 z65 z66 z67 z68 z69 z70 z71 z72 z73 z74 z75 z76 z77 z78 z79 z80 z81 z82 z83 z84 z85 z86 z87 z88 z89 z90 z91 z92 z93 z94 z95 z96 z97 z98 z99 := by kernel_rfl
theorem cm_put20 (z0 z1 z2 z3 z4 z5 z6 z7 z8 z9 z10 z11 z12 z13 z14 z15 z16 z17 z18 z19 z20 z21 z22 z23 z24 z25 z26 z27 z28 z29 z30 z31 z32 z33 z34 z35 z36 z37 z38 z39 z40 z41 z42 z43 z44 z45 z46 z47 z48 z49 z50 z51 z52 z53 z54 z55 z56 z57 z58 z59 z60 z61 z62 z63 z64 z65 z66 z67 z68 z69 z70 z71 z72 z73 z74 z75 z76 z77 z78 z79 z80 z81 z82 z83 z84 z85 z86 z87 z88 z89 z90 z91 z92 z93 z94 z95 z96 z97 z98 z99 v : Value) : (cmFrame z0 z1 z2 z3 z4 z5 z6 z7 z8 z9 z10 z11 z12 z13 z14 z15 z16 z17 z18 z19 z20 z21 z22 z23 z24 z25 z26 z27 z28 z29 z30 z31 z32 z33 z34 z35 z36 z37 z38 z39 z40 z41 z42 z43 z44 z45 z46 z47 z48 z49 z50 z51 z52 z53 z54 z55 z56 z57 z58 z59 z60 z61 z62 z63 z64 z65 z66 z67 z68 z69 z70 z71 z72 z73 z74 z75 z76 z77 z78 z79 z80 z81 z82 z83 z84 z85 z86 z87 z88 z89 z90 z91 z92 z93 z94 z95 z96 z97 z98 z99).put (some 20) v = cmFrame z0 z1 z2 z3 z4 z5 z6 z7 z8 z9 z10 z11 z12 z13 z14 z15 z16 z17 z18 z19 v z21 z22 z23 z24 z25 z26 z27 z28 z29 z30 z31 z32 z33 z34 z35 z36 z37 z38 z39 z40 z41 z42 z43 z44 z45 z46 z47 z48 z49 z50 z51 z52 z53 z54 z55 z56 z57 z58 z59 z60 z61 z62 z63 z64 z65 z66 z67 z68 z69 z70 z71 z72 z73 z74 z75 z76 z77 z78 z79 z80 z81 z82 z83 z84 z85 z86 z87 z88 z89 z90 z91 z92 z93 z94 z95 z96 z97 z98 z99 := by kernel_rfl
theorem cm_put21 (z0 z1 z2 z3 z4 z5 z6 z7 z8 z9 z10 z11 z12 z13 z14 z15 z16 z17 z18 z19 z20 z21 z22 z23 z24 z25 z26 z27 z28 z29 z30 z31 z32 z33 z34 z35 z36 z37 z38 z39 z40 z41 z42 z43 z44 z45 z46 z47 z48 z49 z50 z51 z52 z53 z54 z55 z56 z57 z58 z59 z60 z61 z62 z63 z64 z65 z66 z67 z68 z69 z70 z71 z72 z73 z74 z75 z76 z77 z78 z79 z80 z81 z82 z83 z84 z85 z86 z87 z88 z89 z90 z91 z92 z93 z94 z95 z96 z97 z98 z99 v : Value) : (cmFrame z0 z1 z2 z3 z4 z5 z6 z7 z8 z9 z10 z11 z12 z13 z14 z15 z16 z17 z18 z19 z20 z21 z22 z23 z24 z25 z26 z27 z28 z29 z30 z31 z32 z33 z34 z35 z36 z37 z38 z39 z40 z41 z42 z43 z44 z45 z46 z47 z48 z49 z50 z51 z52 z53 z54 z55 z56 z57 z58 z59 z60 z61 z62 z63 z64 z65 z66 z67 z68 z69 z70 z71 z72 z73 z74 z75 z76 z77 z78 z79 z80 z81 z82 z83 z84 z85 z86 z87 z88 z89 z90 z91 z92 z93 z94 z95 z96 z97 z98 z99).put (some 21) v = cmFrame z0 z1 z2 z3 z4 z5 z6 z7 z8 z9 z10 z11 z12 z13 z14 z15 z16 z17 z18 z19 z20 v z22 z23 z24 z25 z26 z27 z28 z29 z30 z31 z32 z33 z34 z35 z36 z37 z38 z39 z40 z41 z42 z43 z44 z45 z46 z47 z48 z49 z50 z51 z52 z53 z54 z55 z56 z57 z58 z59 z60 z61 z62 z63 z64 z65 z66 z67 z68 z69 z70 z71 z72 z73 z74 z75 z76 z77 z78 z79 z80 z81 z82 z83 z84 z85 z86 z87 z88 z89 z90 z91 z92 z93 z94 z95 z96 z97 z98 z99 := by kernel_rfl
theorem cm_put22 (z0 z1 z2 z3 z4 z5 z6 z7 z8 z9 z10 z11 z12 z13 z14 z15 z16 z17 z18 z19 z20 z21 z22 z23 z24 z25 z26 z27 z28 z29 z30 z31 z32 z33 z34 z35 z36 z37 z38 z39 z40 z41 z42 z43 z44 z45 z46 z47 z48 z49 z50 z51 z52 z53 z54 z55 z56 z57 z58 z59 z60 z61 z62 z63 z64 z65 z66 z67 z68 z69 z70 z71 z72 z73 z74 z75 z76 z77 z78 z79 z80 z81 z82 z83 z84 z85 z86 z87 z88 z89 z90 z91 z92 z93 z94 z95 z96 z97 z98 z99 v : Value) : (cmFrame z0 z1 z2 z3 z4 z5 z6 z7 z8 z9 z10 z11 z12 z13 z14 z15 z16 z17 z18 z19 z20 z21 z22 z23 z24 z25 z26 z27 z28 z29 z30 z31 z32 z33 z34 z35 z36 z37 z38 z39 z40 z41 z42 z43 z44 z45 z46 z47 z48 z49 z50 z51 z52 z53 z54 z55 z56 z57 z58 z59 z60 z61 z62 z63 z64 z65 z66 z67 z68 z69 z70 z71 z72 z73 z74 z75 z76 z77 z78 z79 z80 z81 z82 z83 z84 z85 z86 z87 z88 z89 z90 z91 z92 z93 z94 z95 z96 z97 z98 z99).put (some 22) v = cmFrame z0 z1 z2 z3 z4 z5 z6 z7 z8 z9 z10 z11 z12 z13 z14 z15 z16 z17 z18 z19 z20 z21 v z23 z24 z25 z26 z27 z28 z29 z30 z31 z32 z33 z34 z35 z36 z37 z38 z39 z40 z41 z42 z43 z44 z45 z46 z47 z48 z49 z50 z51 z52 z53 z54 z55 z56 z57 z58 z59 z60 z61 z62 z63 z64 z65 z66 z67 z68 z69 z70 z71 z72 z73 z74 z75 z76 z77 z78 z79 z80 z81 z82 z83 z84 z85 z86 z87 z88 z89 z90 z91 z92 z93 z94 z95 z96 z97 z98 z99 := by kernel_rfl
theorem cm_put23 (z0 z1 z2 z3 z4 z5 z6 z7 z8 z9 z10 z11 z12 z13 z14 z15 z16 z17 z18 z19 z20 z21 z22 z23 z24 z25 z26 z27 z28 z29 z30 z31 z32 z33 z34 z35 z36 z37 z38 z39 z40 z41 z42 z43 z44 z45 z46 z47 z48 z49 z50 z51 z52 z53 z54 z55 z56 z57 z58 z59 z60 z61 z62 z63 z64 z65 z66 z67 z68 z69 z70 z71 z72 z73 z74 z75 z76 z77 z78 z79 z80 z81 z82 z83 z84 z85 z86 z87 z88 z89 z90 z91 z92 z93 z94 z95 z96 z97 z98 z99 v : Value) : (cmFrame z0 z1 z2 z3 z4 z5 z6 z7 z8 z9 z10 z11 z12 z13 z14 z15 z16 z17 z18 z19 z20 z21 z22 z23 z24 z25 z26 z27 z28 z29 z30 z31 z32 z33 z34 z35 z36 z37 z38 z39 z40 z41 z42 z43 z44 z45 z46 z47 z48 z49 z50 z51 z52 z53 z54 z55 z56 z57 z58 z59 z60 z61 z62 z63 z64 z65 z66 z67 z68 z69 z70 z71 z72 z73 z74 z75 z76 z77 z78 z79 z80 z81 z82 z83 z84 z85 z86 z87 z88 z89 z90 z91 z92 z93 z94 z95 z96 z97 z98 z99).put (some 23) v = cmFrame z0 z1 z2 z3 z4 z5 z6 z7 z8 z9 z10 z11 z12 z13 z14 z15 z16 z17 z18 z19 z20 z21 z22 v z24 z25 z26 z27 z28 z29 z30 z31 z32 z33 z34 z35 z36 z37 z38 z39 z40 z41 z42 z43 z44 z45 z46 z47 z48 z49 z50 z51 z52 z53 z54 z55 z56 z57 z58 z59 z60 z61 z62 z63 z64 z65 z66 z67 z68 z69 z70 z71 z72 z73 z74 z75 z76 z77 z78 z79 z80 z81 z82 z83 z84 z85 z86 z87 z88 z89 z90 z91 z92 z93 z94 z95 z96 z97 z98 z99 := by kernel_rfl
theorem cm_put24 (z0 z1 z2 z3 z4 z5 z6 z7 z8 z9 z10 z11 z12 z13 z14 z15 z16 z17 z18 z19 z20 z21 z22 z23 z24 z25 z26 z27 z28 z29 z30 z31 z32 z33 z34 z35 z36 z37 z38 z39 z40 z41 z42 z43 z44 z45 z46 z47 z48 z49 z50 z51 z52 z53 z54 z55 z56 z57 z58 z59 z60 z61 z62 z63 z64 z65 z66 z67 z68 z69 z70 z71 z72 z73 z74 z75 z76 z77 z78 z79 z80 z81 z82 z83 z84 z85 z86 z87 z88 z89 z90 z91 z92 z93 z94 z95 z96 z97 z98 z99 v : Value) : (cmFrame z0 z1 z2 z3 z4 z5 z6 z7 z8 z9 z10 z11 z12 z13 z14 z15 z16 z17 z18 z19 z20 z21 z22 z23 z24 z25 z26 z27 z28 z29 z30 z31 z32 z33 z34 z35 z36 z37 z38 z39 z40 z41 z42 z43 z44 z45 z46 z47 z48 z49 z50 z51 z52 z53 z54 z55 z56 z57 z58 z59 z60 z61 z62 z63 z64 z65 z66 z67 z68 z69 z70 z71 z72 z73 z74 z75 z76 z77 z78 z79 z80 z81 z82 z83 z84 z85 z86 z87 z88 z89 z90 z91 z92 z93 z94 z95 z96 z97 z98 z99).put (some 24) v = cmFrame z0 z1 z2 z3 z4 z5 z6 z7 z8 z9 z10 z11 z12 z13 z14 z15 z16 z17 z18 z19 z20 z21 z22 z23 v z25 z26 z27 z28 z29 z30 z31 z32 z33 z34 z35 z36 z37 z38 z39 z40 z41 z42 z43 z44 z45 z46 z47 z48 z49 z50 z51 z52 z53 z54 z55 z56 z57 z58 z59 z60 z61 z62 z63 z64 z65 z66 z67 z68 z69 z70 z71 z72 z73 z74 z75 z76 z77 z78 z79 z80 z81 z82 z83 z84 z85 z86 z87 z88 z89 z90 z91 z92 z93 z94 z95 z96 z97 z98 z99 := by kernel_rfl
theorem Lent.form {B : Nat} {w : World} {v : Value} {l : List Txt} (h : Lent B w v l) : ∃ A n q, v = .slice A n q := by
  obtain ⟨g, cap, e, _⟩ := h
  exact ⟨_, _, _, e⟩
theorem Lent.put {B : Nat} {w : World} {v : Value} {l : List Txt} (h : Lent B w v l) {g : Nat} (hg : g < B) (k : Nat) (u : Value) : Lent B (w.setCell ⟨g, k, none⟩ u) v l := by
  obtain ⟨g1, cap, e, h1, h2, hown⟩ := h
  exact ⟨g1, cap, e, h1, h2, hown.kept (grown_put (grown_refl w (some g)) k _) (.inr (by intro e; have := (hown.lt _ e).1; omega))⟩
theorem load_txts {W : World} {b k : Nat} {v : Value} (h : W.cell? ⟨b, k, none⟩ = some v) : (Instr.loadAt 22 (.pointer (some ⟨b, k, none⟩))).run Tryz.prog W = .ok v W := by
  simp [Instr.loadAt, Instr.sureAddr, go_sem, h]
theorem atC_0 (b : Nat) (W : World) : (Instr.fieldAt 24 (.pointer (some ⟨b, 0, none⟩)) 0).run Tryz.prog W = .ok (.pointer (some ⟨b, 0, none⟩)) W := by kernel_rfl
theorem atC_4 (b : Nat) (W : World) : (Instr.fieldAt 24 (.pointer (some ⟨b, 0, none⟩)) 4).run Tryz.prog W = .ok (.pointer (some ⟨b, 4, none⟩)) W := by kernel_rfl
theorem atC_7 (b : Nat) (W : World) : (Instr.fieldAt 24 (.pointer (some ⟨b, 0, none⟩)) 7).run Tryz.prog W = .ok (.pointer (some ⟨b, 7, none⟩)) W := by kernel_rfl
noncomputable def cmO2 : Array Oper := opsOf (firstOf (nextOf (nextOf (Tryz.f6.body.getD .skip))))
theorem cmO2_0 : ∃ o , cmO2[0]? = some o ∧ o.guard = none ∧ o.op = .fieldAddr 24 (.tmp 1) 0 ∧ o.dst = some 13 := ⟨_, rfl, rfl, rfl, rfl⟩
theorem cmO2_1 : ∃ o , cmO2[1]? = some o ∧ o.guard = none ∧ o.op = .load 22 (.tmp 13) ∧ o.dst = some 14 := ⟨_, rfl, rfl, rfl, rfl⟩
theorem cmO2_2 : ∃ o ts , cmO2[2]? = some o ∧ o.guard = none ∧ o.op = .call { callee := .value (.func 27), args := #[.tmp 14], argTypes := ts } ∧ o.dst = some 15 := ⟨_, _, rfl, rfl, rfl, rfl⟩
theorem cmO2_3 : ∃ o , cmO2[3]? = some o ∧ o.guard = none ∧ o.op = .fieldAddr 24 (.tmp 1) 4 ∧ o.dst = some 16 := ⟨_, rfl, rfl, rfl, rfl⟩
theorem cmO2_4 : ∃ o , cmO2[4]? = some o ∧ o.guard = none ∧ o.op = .load 22 (.tmp 16) ∧ o.dst = some 17 := ⟨_, rfl, rfl, rfl, rfl⟩
theorem cmO2_5 : ∃ o ts , cmO2[5]? = some o ∧ o.guard = none ∧ o.op = .call { callee := .value (.func 27), args := #[.tmp 17], argTypes := ts } ∧ o.dst = some 18 := ⟨_, _, rfl, rfl, rfl, rfl⟩
theorem cmO2_6 : ∃ o , cmO2[6]? = some o ∧ o.guard = none ∧ o.op = .fieldAddr 24 (.tmp 1) 7 ∧ o.dst = some 19 := ⟨_, rfl, rfl, rfl, rfl⟩
theorem cmO2_7 : ∃ o , cmO2[7]? = some o ∧ o.guard = none ∧ o.op = .load 22 (.tmp 19) ∧ o.dst = some 20 := ⟨_, rfl, rfl, rfl, rfl⟩
theorem cmO2_8 : ∃ o ts , cmO2[8]? = some o ∧ o.guard = none ∧ o.op = .call { callee := .value (.func 27), args := #[.tmp 20], argTypes := ts } ∧ o.dst = some 21 := ⟨_, _, rfl, rfl, rfl, rfl⟩
theorem cmO2_9 : ∃ o , cmO2[9]? = some o ∧ o.guard = none ∧ o.op = .fieldAddr 24 (.tmp 3) 0 ∧ o.dst = some 22 := ⟨_, rfl, rfl, rfl, rfl⟩
theorem cmO2_10 : ∃ o , cmO2[10]? = some o ∧ o.guard = none ∧ o.op = .store 22 (.tmp 22) (.tmp 15) ∧ o.dst = none := ⟨_, rfl, rfl, rfl, rfl⟩
theorem cmO2_11 : ∃ o , cmO2[11]? = some o ∧ o.guard = none ∧ o.op = .fieldAddr 24 (.tmp 3) 4 ∧ o.dst = some 23 := ⟨_, rfl, rfl, rfl, rfl⟩
theorem cmO2_12 : ∃ o , cmO2[12]? = some o ∧ o.guard = none ∧ o.op = .store 22 (.tmp 23) (.tmp 18) ∧ o.dst = none := ⟨_, rfl, rfl, rfl, rfl⟩
theorem cmO2_13 : ∃ o , cmO2[13]? = some o ∧ o.guard = none ∧ o.op = .fieldAddr 24 (.tmp 3) 7 ∧ o.dst = some 24 := ⟨_, rfl, rfl, rfl, rfl⟩
theorem cmO2_14 : ∃ o , cmO2[14]? = some o ∧ o.guard = none ∧ o.op = .store 22 (.tmp 24) (.tmp 21) ∧ o.dst = none := ⟨_, rfl, rfl, rfl, rfl⟩
set_option maxRecDepth 100000 in
set_option maxHeartbeats 4000000 in
theorem cm_lend (ga gq : Nat) (CC QQ : Array Value) (v1 v2 v3 : Value) (l1 l2 l3 : List Txt) (W0 : World) (Inv : World → Prop) (Kq : Exit → Act → World → Prop) (hqs : QQ.size = 9) (hne : ga ≠ gq) (hgq : gq < W0.heap.size) (hv1 : CC[0]? = some v1) (hv2 : CC[4]? = some v2) (hv3 : CC[7]? = some v3) (hn1 : l1.length ≤ 1099511627776) (hn2 : l2.length ≤ 1099511627776) (hn3 : l3.length ≤ 1099511627776) (hr1 : ∀ W, Inv W → Rd W v1 l1) (hr2 : ∀ W, Inv W → Rd W v2 l2) (hr3 : ∀ W, Inv W → Rd W v3 l3) (hI1 : ∀ W W', Inv W → Below W.heap.size W W' → Inv W') (hI2 : ∀ W k v, Inv W → Inv (W.setCell ⟨gq, k, none⟩ v)) (z0 z2 z4 z5 z6 z7 z8 z9 z10 z11 z12 z13 z14 z15 z16 z17 z18 z19 z20 z21 z22 z23 z24 z25 z26 z27 z28 z29 z30 z31 z32 z33 z34 z35 z36 z37 z38 z39 z40 z41 z42 z43 z44 z45 z46 z47 z48 z49 z50 z51 z52 z53 z54 z55 z56 z57 z58 z59 z60 z61 z62 z63 z64 z65 z66 z67 z68 z69 z70 z71 z72 z73 z74 z75 z76 z77 z78 z79 z80 z81 z82 z83 z84 z85 z86 z87 z88 z89 z90 z91 z92 z93 z94 z95 z96 z97 z98 z99 : Value)
    (hK : ∀ A1 n1 q1 A2 n2 q2 A3 n3 q3 W, Inv W → Lent W0.heap.size W (.slice A1 n1 q1) l1 → Lent W0.heap.size W (.slice A2 n2 q2) l2 → Lent W0.heap.size W (.slice A3 n3 q3) l3 → Blk W gq 24 (((QQ.setIfInBounds 0 (.slice A1 n1 q1)).setIfInBounds 4 (.slice A2 n2 q2)).setIfInBounds 7 (.slice A3 n3 q3)) → Kq .normal (cmFrame z0 (.pointer (some ⟨ga, 0, none⟩)) z2 (.pointer (some ⟨gq, 0, none⟩)) z4 z5 z6 z7 z8 z9 z10 z11 z12 (.pointer (some ⟨ga, 0, none⟩)) v1 (.slice A1 n1 q1) (.pointer (some ⟨ga, 4, none⟩)) v2 (.slice A2 n2 q2) (.pointer (some ⟨ga, 7, none⟩)) v3 (.slice A3 n3 q3) (.pointer (some ⟨gq, 0, none⟩)) (.pointer (some ⟨gq, 4, none⟩)) (.pointer (some ⟨gq, 7, none⟩)) z25 z26 z27 z28 z29 z30 z31 z32 z33 z34 z35 z36 z37 z38 z39 z40 z41 z42 z43 z44 z45 z46 z47 z48 z49 z50 z51 z52 z53 z54 z55 z56 z57 z58 z59 z60 z61 z62 z63 z64 z65 z66 z67 z68 z69 z70 z71 z72 z73 z74 z75 z76 z77 z78 z79 z80 z81 z82 z83 z84 z85 z86 z87 z88 z89 z90 z91 z92 z93 z94 z95 z96 z97 z98 z99) W) (W : World) (hW0 : W0.heap.size = W.heap.size) (hI : Inv W) (hQ : Blk W gq 24 QQ) (hS : (fun W => Blk W ga 24 CC) W) :
    wpAnyH Tryz.prog .any cmO2 (NoPanic Kq) (fun W => (fun W => Blk W ga 24 CC) W) 15 #[false, false, false, false, false, false, false, false, false, false, false, false, false, false, false] (cmFrame z0 (.pointer (some ⟨ga, 0, none⟩)) z2 (.pointer (some ⟨gq, 0, none⟩)) z4 z5 z6 z7 z8 z9 z10 z11 z12 z13 z14 z15 z16 z17 z18 z19 z20 z21 z22 z23 z24 z25 z26 z27 z28 z29 z30 z31 z32 z33 z34 z35 z36 z37 z38 z39 z40 z41 z42 z43 z44 z45 z46 z47 z48 z49 z50 z51 z52 z53 z54 z55 z56 z57 z58 z59 z60 z61 z62 z63 z64 z65 z66 z67 z68 z69 z70 z71 z72 z73 z74 z75 z76 z77 z78 z79 z80 z81 z82 z83 z84 z85 z86 z87 z88 z89 z90 z91 z92 z93 z94 z95 z96 z97 z98 z99) W := by
  rw [hW0] at hgq hK
  replace hS : Blk W ga 24 CC := hS
  obtain ⟨op1, hop1, hg, hop, hd⟩ := cmO2_0
  refine wpAnyH_take (i := 0) (v := (.pointer (some ⟨ga, 0, none⟩))) hop1 (by kernel_rfl) (by kernel_rfl) (by kernel_rfl) (fun _ _ _ h => h.elim) (yields_addr hg 24 _ 0 hop _ _ rfl (atC_0 _)) hS ?_
  refine wpAnyH_listed #[true, false, false, false, false, false, false, false, false, false, false, false, false, false, false] (cmFrame z0 (.pointer (some ⟨ga, 0, none⟩)) z2 (.pointer (some ⟨gq, 0, none⟩)) z4 z5 z6 z7 z8 z9 z10 z11 z12 (.pointer (some ⟨ga, 0, none⟩)) z14 z15 z16 z17 z18 z19 z20 z21 z22 z23 z24 z25 z26 z27 z28 z29 z30 z31 z32 z33 z34 z35 z36 z37 z38 z39 z40 z41 z42 z43 z44 z45 z46 z47 z48 z49 z50 z51 z52 z53 z54 z55 z56 z57 z58 z59 z60 z61 z62 z63 z64 z65 z66 z67 z68 z69 z70 z71 z72 z73 z74 z75 z76 z77 z78 z79 z80 z81 z82 z83 z84 z85 z86 z87 z88 z89 z90 z91 z92 z93 z94 z95 z96 z97 z98 z99) (by kernel_rfl) (by rw [hd]; exact cm_put13 _ _ _ _ _ _ _ _ _ _ _ _ _ _ _ _ _ _ _ _ _ _ _ _ _ _ _ _ _ _ _ _ _ _ _ _ _ _ _ _ _ _ _ _ _ _ _ _ _ _ _ _ _ _ _ _ _ _ _ _ _ _ _ _ _ _ _ _ _ _ _ _ _ _ _ _ _ _ _ _ _ _ _ _ _ _ _ _ _ _ _ _ _ _ _ _ _ _ _ _ _) ?_
  clear hd hop hg hop1
  obtain ⟨op1, hop1, hg, hop, hd⟩ := cmO2_1
  refine wpAnyH_take (i := 1) (v := v1) hop1 (by kernel_rfl) (by kernel_rfl) (by kernel_rfl) (fun _ _ _ h => h.elim) (yields_load1 hg 22 _ hop _ _ rfl (fun W hW => load_txts (by rw [hW.cell 0]; exact hv1))) hS ?_
  refine wpAnyH_listed #[true, true, false, false, false, false, false, false, false, false, false, false, false, false, false] (cmFrame z0 (.pointer (some ⟨ga, 0, none⟩)) z2 (.pointer (some ⟨gq, 0, none⟩)) z4 z5 z6 z7 z8 z9 z10 z11 z12 (.pointer (some ⟨ga, 0, none⟩)) v1 z15 z16 z17 z18 z19 z20 z21 z22 z23 z24 z25 z26 z27 z28 z29 z30 z31 z32 z33 z34 z35 z36 z37 z38 z39 z40 z41 z42 z43 z44 z45 z46 z47 z48 z49 z50 z51 z52 z53 z54 z55 z56 z57 z58 z59 z60 z61 z62 z63 z64 z65 z66 z67 z68 z69 z70 z71 z72 z73 z74 z75 z76 z77 z78 z79 z80 z81 z82 z83 z84 z85 z86 z87 z88 z89 z90 z91 z92 z93 z94 z95 z96 z97 z98 z99) (by kernel_rfl) (by rw [hd]; exact cm_put14 _ _ _ _ _ _ _ _ _ _ _ _ _ _ _ _ _ _ _ _ _ _ _ _ _ _ _ _ _ _ _ _ _ _ _ _ _ _ _ _ _ _ _ _ _ _ _ _ _ _ _ _ _ _ _ _ _ _ _ _ _ _ _ _ _ _ _ _ _ _ _ _ _ _ _ _ _ _ _ _ _ _ _ _ _ _ _ _ _ _ _ _ _ _ _ _ _ _ _ _ _) ?_
  clear hd hop hg hop1
  obtain ⟨op1, hop1, hg, hop, hd⟩ := cmO2_3
  refine wpAnyH_take (i := 3) (v := (.pointer (some ⟨ga, 4, none⟩))) hop1 (by kernel_rfl) (by kernel_rfl) (by kernel_rfl) (fun _ _ _ h => h.elim) (yields_addr hg 24 _ 4 hop _ _ rfl (atC_4 _)) hS ?_
  refine wpAnyH_listed #[true, true, false, true, false, false, false, false, false, false, false, false, false, false, false] (cmFrame z0 (.pointer (some ⟨ga, 0, none⟩)) z2 (.pointer (some ⟨gq, 0, none⟩)) z4 z5 z6 z7 z8 z9 z10 z11 z12 (.pointer (some ⟨ga, 0, none⟩)) v1 z15 (.pointer (some ⟨ga, 4, none⟩)) z17 z18 z19 z20 z21 z22 z23 z24 z25 z26 z27 z28 z29 z30 z31 z32 z33 z34 z35 z36 z37 z38 z39 z40 z41 z42 z43 z44 z45 z46 z47 z48 z49 z50 z51 z52 z53 z54 z55 z56 z57 z58 z59 z60 z61 z62 z63 z64 z65 z66 z67 z68 z69 z70 z71 z72 z73 z74 z75 z76 z77 z78 z79 z80 z81 z82 z83 z84 z85 z86 z87 z88 z89 z90 z91 z92 z93 z94 z95 z96 z97 z98 z99) (by kernel_rfl) (by rw [hd]; exact cm_put16 _ _ _ _ _ _ _ _ _ _ _ _ _ _ _ _ _ _ _ _ _ _ _ _ _ _ _ _ _ _ _ _ _ _ _ _ _ _ _ _ _ _ _ _ _ _ _ _ _ _ _ _ _ _ _ _ _ _ _ _ _ _ _ _ _ _ _ _ _ _ _ _ _ _ _ _ _ _ _ _ _ _ _ _ _ _ _ _ _ _ _ _ _ _ _ _ _ _ _ _ _) ?_
  clear hd hop hg hop1
  obtain ⟨op1, hop1, hg, hop, hd⟩ := cmO2_4
  refine wpAnyH_take (i := 4) (v := v2) hop1 (by kernel_rfl) (by kernel_rfl) (by kernel_rfl) (fun _ _ _ h => h.elim) (yields_load1 hg 22 _ hop _ _ rfl (fun W hW => load_txts (by rw [hW.cell 4]; exact hv2))) hS ?_
  refine wpAnyH_listed #[true, true, false, true, true, false, false, false, false, false, false, false, false, false, false] (cmFrame z0 (.pointer (some ⟨ga, 0, none⟩)) z2 (.pointer (some ⟨gq, 0, none⟩)) z4 z5 z6 z7 z8 z9 z10 z11 z12 (.pointer (some ⟨ga, 0, none⟩)) v1 z15 (.pointer (some ⟨ga, 4, none⟩)) v2 z18 z19 z20 z21 z22 z23 z24 z25 z26 z27 z28 z29 z30 z31 z32 z33 z34 z35 z36 z37 z38 z39 z40 z41 z42 z43 z44 z45 z46 z47 z48 z49 z50 z51 z52 z53 z54 z55 z56 z57 z58 z59 z60 z61 z62 z63 z64 z65 z66 z67 z68 z69 z70 z71 z72 z73 z74 z75 z76 z77 z78 z79 z80 z81 z82 z83 z84 z85 z86 z87 z88 z89 z90 z91 z92 z93 z94 z95 z96 z97 z98 z99) (by kernel_rfl) (by rw [hd]; exact cm_put17 _ _ _ _ _ _ _ _ _ _ _ _ _ _ _ _ _ _ _ _ _ _ _ _ _ _ _ _ _ _ _ _ _ _ _ _ _ _ _ _ _ _ _ _ _ _ _ _ _ _ _ _ _ _ _ _ _ _ _ _ _ _ _ _ _ _ _ _ _ _ _ _ _ _ _ _ _ _ _ _ _ _ _ _ _ _ _ _ _ _ _ _ _ _ _ _ _ _ _ _ _) ?_
  clear hd hop hg hop1
  obtain ⟨op1, hop1, hg, hop, hd⟩ := cmO2_6
  refine wpAnyH_take (i := 6) (v := (.pointer (some ⟨ga, 7, none⟩))) hop1 (by kernel_rfl) (by kernel_rfl) (by kernel_rfl) (fun _ _ _ h => h.elim) (yields_addr hg 24 _ 7 hop _ _ rfl (atC_7 _)) hS ?_
  refine wpAnyH_listed #[true, true, false, true, true, false, true, false, false, false, false, false, false, false, false] (cmFrame z0 (.pointer (some ⟨ga, 0, none⟩)) z2 (.pointer (some ⟨gq, 0, none⟩)) z4 z5 z6 z7 z8 z9 z10 z11 z12 (.pointer (some ⟨ga, 0, none⟩)) v1 z15 (.pointer (some ⟨ga, 4, none⟩)) v2 z18 (.pointer (some ⟨ga, 7, none⟩)) z20 z21 z22 z23 z24 z25 z26 z27 z28 z29 z30 z31 z32 z33 z34 z35 z36 z37 z38 z39 z40 z41 z42 z43 z44 z45 z46 z47 z48 z49 z50 z51 z52 z53 z54 z55 z56 z57 z58 z59 z60 z61 z62 z63 z64 z65 z66 z67 z68 z69 z70 z71 z72 z73 z74 z75 z76 z77 z78 z79 z80 z81 z82 z83 z84 z85 z86 z87 z88 z89 z90 z91 z92 z93 z94 z95 z96 z97 z98 z99) (by kernel_rfl) (by rw [hd]; exact cm_put19 _ _ _ _ _ _ _ _ _ _ _ _ _ _ _ _ _ _ _ _ _ _ _ _ _ _ _ _ _ _ _ _ _ _ _ _ _ _ _ _ _ _ _ _ _ _ _ _ _ _ _ _ _ _ _ _ _ _ _ _ _ _ _ _ _ _ _ _ _ _ _ _ _ _ _ _ _ _ _ _ _ _ _ _ _ _ _ _ _ _ _ _ _ _ _ _ _ _ _ _ _) ?_
  clear hd hop hg hop1
  obtain ⟨op1, hop1, hg, hop, hd⟩ := cmO2_7
  refine wpAnyH_take (i := 7) (v := v3) hop1 (by kernel_rfl) (by kernel_rfl) (by kernel_rfl) (fun _ _ _ h => h.elim) (yields_load1 hg 22 _ hop _ _ rfl (fun W hW => load_txts (by rw [hW.cell 7]; exact hv3))) hS ?_
  refine wpAnyH_listed #[true, true, false, true, true, false, true, true, false, false, false, false, false, false, false] (cmFrame z0 (.pointer (some ⟨ga, 0, none⟩)) z2 (.pointer (some ⟨gq, 0, none⟩)) z4 z5 z6 z7 z8 z9 z10 z11 z12 (.pointer (some ⟨ga, 0, none⟩)) v1 z15 (.pointer (some ⟨ga, 4, none⟩)) v2 z18 (.pointer (some ⟨ga, 7, none⟩)) v3 z21 z22 z23 z24 z25 z26 z27 z28 z29 z30 z31 z32 z33 z34 z35 z36 z37 z38 z39 z40 z41 z42 z43 z44 z45 z46 z47 z48 z49 z50 z51 z52 z53 z54 z55 z56 z57 z58 z59 z60 z61 z62 z63 z64 z65 z66 z67 z68 z69 z70 z71 z72 z73 z74 z75 z76 z77 z78 z79 z80 z81 z82 z83 z84 z85 z86 z87 z88 z89 z90 z91 z92 z93 z94 z95 z96 z97 z98 z99) (by kernel_rfl) (by rw [hd]; exact cm_put20 _ _ _ _ _ _ _ _ _ _ _ _ _ _ _ _ _ _ _ _ _ _ _ _ _ _ _ _ _ _ _ _ _ _ _ _ _ _ _ _ _ _ _ _ _ _ _ _ _ _ _ _ _ _ _ _ _ _ _ _ _ _ _ _ _ _ _ _ _ _ _ _ _ _ _ _ _ _ _ _ _ _ _ _ _ _ _ _ _ _ _ _ _ _ _ _ _ _ _ _ _) ?_
  clear hd hop hg hop1
  obtain ⟨op1, ts, hop1, hg, hop, hd⟩ := cmO2_2
  refine wpAnyH_all (rs := [2]) (by kernel_rfl) (by decide) (fun i hi => ?_)
  obtain rfl : i = 2 := by simpa using hi
  refine wpOp_step hop1 ?_
  intro K' hK'
  refine step_call1 hg 27 _ _ hop v1 rfl callL ((lent_any _ l1 W (hr1 _ hI) hn1).mono ?_)
  rintro e w1 ⟨⟨z1, rfl, hL1⟩, hb1⟩
  obtain ⟨A1, n1, q1, rfl⟩ := hL1.form
  refine ⟨_, rfl, hK' _ _ ⟨hS.below hb1 hS.lt, ?_⟩⟩
  refine wpAnyH_listed #[true, true, true, true, true, false, true, true, false, false, false, false, false, false, false] (cmFrame z0 (.pointer (some ⟨ga, 0, none⟩)) z2 (.pointer (some ⟨gq, 0, none⟩)) z4 z5 z6 z7 z8 z9 z10 z11 z12 (.pointer (some ⟨ga, 0, none⟩)) v1 (.slice A1 n1 q1) (.pointer (some ⟨ga, 4, none⟩)) v2 z18 (.pointer (some ⟨ga, 7, none⟩)) v3 z21 z22 z23 z24 z25 z26 z27 z28 z29 z30 z31 z32 z33 z34 z35 z36 z37 z38 z39 z40 z41 z42 z43 z44 z45 z46 z47 z48 z49 z50 z51 z52 z53 z54 z55 z56 z57 z58 z59 z60 z61 z62 z63 z64 z65 z66 z67 z68 z69 z70 z71 z72 z73 z74 z75 z76 z77 z78 z79 z80 z81 z82 z83 z84 z85 z86 z87 z88 z89 z90 z91 z92 z93 z94 z95 z96 z97 z98 z99) (by kernel_rfl) (by rw [hd]; exact cm_put15 _ _ _ _ _ _ _ _ _ _ _ _ _ _ _ _ _ _ _ _ _ _ _ _ _ _ _ _ _ _ _ _ _ _ _ _ _ _ _ _ _ _ _ _ _ _ _ _ _ _ _ _ _ _ _ _ _ _ _ _ _ _ _ _ _ _ _ _ _ _ _ _ _ _ _ _ _ _ _ _ _ _ _ _ _ _ _ _ _ _ _ _ _ _ _ _ _ _ _ _ _) ?_
  replace hS := hS.below hb1 hS.lt
  clear hd hop hg hop1 hK' K'
  replace hI := hI1 _ _ hI hb1
  replace hQ := hQ.below hb1 hQ.lt
  have hsz := hb1.size
  clear hb1
  obtain ⟨op1, hop1, hg, hop, hd⟩ := cmO2_9
  refine wpAnyH_take (i := 9) (v := (.pointer (some ⟨gq, 0, none⟩))) hop1 (by kernel_rfl) (by kernel_rfl) (by kernel_rfl) (fun _ _ _ h => h.elim) (yields_addr hg 24 _ 0 hop _ _ rfl (atC_0 _)) hS ?_
  refine wpAnyH_listed #[true, true, true, true, true, false, true, true, false, true, false, false, false, false, false] (cmFrame z0 (.pointer (some ⟨ga, 0, none⟩)) z2 (.pointer (some ⟨gq, 0, none⟩)) z4 z5 z6 z7 z8 z9 z10 z11 z12 (.pointer (some ⟨ga, 0, none⟩)) v1 (.slice A1 n1 q1) (.pointer (some ⟨ga, 4, none⟩)) v2 z18 (.pointer (some ⟨ga, 7, none⟩)) v3 z21 (.pointer (some ⟨gq, 0, none⟩)) z23 z24 z25 z26 z27 z28 z29 z30 z31 z32 z33 z34 z35 z36 z37 z38 z39 z40 z41 z42 z43 z44 z45 z46 z47 z48 z49 z50 z51 z52 z53 z54 z55 z56 z57 z58 z59 z60 z61 z62 z63 z64 z65 z66 z67 z68 z69 z70 z71 z72 z73 z74 z75 z76 z77 z78 z79 z80 z81 z82 z83 z84 z85 z86 z87 z88 z89 z90 z91 z92 z93 z94 z95 z96 z97 z98 z99) (by kernel_rfl) (by rw [hd]; exact cm_put22 _ _ _ _ _ _ _ _ _ _ _ _ _ _ _ _ _ _ _ _ _ _ _ _ _ _ _ _ _ _ _ _ _ _ _ _ _ _ _ _ _ _ _ _ _ _ _ _ _ _ _ _ _ _ _ _ _ _ _ _ _ _ _ _ _ _ _ _ _ _ _ _ _ _ _ _ _ _ _ _ _ _ _ _ _ _ _ _ _ _ _ _ _ _ _ _ _ _ _ _ _) ?_
  clear hd hop hg hop1
  obtain ⟨op1, ts, hop1, hg, hop, hd⟩ := cmO2_5
  refine wpAnyH_all (rs := [5]) (by kernel_rfl) (by decide) (fun i hi => ?_)
  obtain rfl : i = 5 := by simpa using hi
  refine wpOp_step hop1 ?_
  intro K' hK'
  refine step_call1 hg 27 _ _ hop v2 rfl callL ((lent_any _ l2 w1 (hr2 _ hI) hn2).mono ?_)
  rintro e w2 ⟨⟨z2, rfl, hL2⟩, hb2⟩
  obtain ⟨A2, n2, q2, rfl⟩ := hL2.form
  refine ⟨_, rfl, hK' _ _ ⟨hS.below hb2 hS.lt, ?_⟩⟩
  refine wpAnyH_listed #[true, true, true, true, true, true, true, true, false, true, false, false, false, false, false] (cmFrame z0 (.pointer (some ⟨ga, 0, none⟩)) z2 (.pointer (some ⟨gq, 0, none⟩)) z4 z5 z6 z7 z8 z9 z10 z11 z12 (.pointer (some ⟨ga, 0, none⟩)) v1 (.slice A1 n1 q1) (.pointer (some ⟨ga, 4, none⟩)) v2 (.slice A2 n2 q2) (.pointer (some ⟨ga, 7, none⟩)) v3 z21 (.pointer (some ⟨gq, 0, none⟩)) z23 z24 z25 z26 z27 z28 z29 z30 z31 z32 z33 z34 z35 z36 z37 z38 z39 z40 z41 z42 z43 z44 z45 z46 z47 z48 z49 z50 z51 z52 z53 z54 z55 z56 z57 z58 z59 z60 z61 z62 z63 z64 z65 z66 z67 z68 z69 z70 z71 z72 z73 z74 z75 z76 z77 z78 z79 z80 z81 z82 z83 z84 z85 z86 z87 z88 z89 z90 z91 z92 z93 z94 z95 z96 z97 z98 z99) (by kernel_rfl) (by rw [hd]; exact cm_put18 _ _ _ _ _ _ _ _ _ _ _ _ _ _ _ _ _ _ _ _ _ _ _ _ _ _ _ _ _ _ _ _ _ _ _ _ _ _ _ _ _ _ _ _ _ _ _ _ _ _ _ _ _ _ _ _ _ _ _ _ _ _ _ _ _ _ _ _ _ _ _ _ _ _ _ _ _ _ _ _ _ _ _ _ _ _ _ _ _ _ _ _ _ _ _ _ _ _ _ _ _) ?_
  replace hS := hS.below hb2 hS.lt
  clear hd hop hg hop1 hK' K'
  replace hI := hI1 _ _ hI hb2
  replace hQ := hQ.below hb2 hQ.lt
  replace hL1 := hL1.below hb2
  replace hL2 := hL2.base hsz
  replace hsz := Nat.le_trans hsz hb2.size
  clear hb2
  obtain ⟨op1, ts, hop1, hg, hop, hd⟩ := cmO2_8
  refine wpAnyH_all (rs := [8]) (by kernel_rfl) (by decide) (fun i hi => ?_)
  obtain rfl : i = 8 := by simpa using hi
  refine wpOp_step hop1 ?_
  intro K' hK'
  refine step_call1 hg 27 _ _ hop v3 rfl callL ((lent_any _ l3 w2 (hr3 _ hI) hn3).mono ?_)
  rintro e w3 ⟨⟨z3, rfl, hL3⟩, hb3⟩
  obtain ⟨A3, n3, q3, rfl⟩ := hL3.form
  refine ⟨_, rfl, hK' _ _ ⟨hS.below hb3 hS.lt, ?_⟩⟩
  refine wpAnyH_listed #[true, true, true, true, true, true, true, true, true, true, false, false, false, false, false] (cmFrame z0 (.pointer (some ⟨ga, 0, none⟩)) z2 (.pointer (some ⟨gq, 0, none⟩)) z4 z5 z6 z7 z8 z9 z10 z11 z12 (.pointer (some ⟨ga, 0, none⟩)) v1 (.slice A1 n1 q1) (.pointer (some ⟨ga, 4, none⟩)) v2 (.slice A2 n2 q2) (.pointer (some ⟨ga, 7, none⟩)) v3 (.slice A3 n3 q3) (.pointer (some ⟨gq, 0, none⟩)) z23 z24 z25 z26 z27 z28 z29 z30 z31 z32 z33 z34 z35 z36 z37 z38 z39 z40 z41 z42 z43 z44 z45 z46 z47 z48 z49 z50 z51 z52 z53 z54 z55 z56 z57 z58 z59 z60 z61 z62 z63 z64 z65 z66 z67 z68 z69 z70 z71 z72 z73 z74 z75 z76 z77 z78 z79 z80 z81 z82 z83 z84 z85 z86 z87 z88 z89 z90 z91 z92 z93 z94 z95 z96 z97 z98 z99) (by kernel_rfl) (by rw [hd]; exact cm_put21 _ _ _ _ _ _ _ _ _ _ _ _ _ _ _ _ _ _ _ _ _ _ _ _ _ _ _ _ _ _ _ _ _ _ _ _ _ _ _ _ _ _ _ _ _ _ _ _ _ _ _ _ _ _ _ _ _ _ _ _ _ _ _ _ _ _ _ _ _ _ _ _ _ _ _ _ _ _ _ _ _ _ _ _ _ _ _ _ _ _ _ _ _ _ _ _ _ _ _ _ _) ?_
  replace hS := hS.below hb3 hS.lt
  clear hd hop hg hop1 hK' K'
  replace hI := hI1 _ _ hI hb3
  replace hQ := hQ.below hb3 hQ.lt
  replace hL1 := hL1.below hb3
  replace hL2 := hL2.below hb3
  replace hL3 := hL3.base hsz
  replace hsz := Nat.le_trans hsz hb3.size
  clear hb3
  obtain ⟨op1, hop1, hg, hop, hd⟩ := cmO2_10
  refine wpAnyH_all (rs := [10]) (by kernel_rfl) (by decide) (fun i hi => ?_)
  obtain rfl : i = 10 := by simpa using hi
  refine wpOp_step hop1 ?_
  intro K' hK'
  refine step_store1 hg _ _ hop hd gq 0 24 QQ _ _ _ rfl rfl hQ (by first | omega | (simp; omega)) (hK' _ _ ⟨hS.far (p := ⟨gq, 0, none⟩) hne (.slice A1 n1 q1), ?_⟩)
  refine wpAnyH_listed #[true, true, true, true, true, true, true, true, true, true, true, false, false, false, false] _ (by kernel_rfl) rfl ?_
  replace hS := hS.far (p := ⟨gq, 0, none⟩) hne (.slice A1 n1 q1)
  clear hd hop hg hop1 hK' K'
  replace hI := hI2 _ 0 (.slice A1 n1 q1) hI
  replace hQ := hQ.put 0 (.slice A1 n1 q1)
  replace hL1 := hL1.put hgq 0 (.slice A1 n1 q1)
  replace hL2 := hL2.put hgq 0 (.slice A1 n1 q1)
  replace hL3 := hL3.put hgq 0 (.slice A1 n1 q1)
  generalize w3.setCell ⟨gq, 0, none⟩ (.slice A1 n1 q1) = u1 at *
  obtain ⟨op1, hop1, hg, hop, hd⟩ := cmO2_11
  refine wpAnyH_take (i := 11) (v := (.pointer (some ⟨gq, 4, none⟩))) hop1 (by kernel_rfl) (by kernel_rfl) (by kernel_rfl) (fun _ _ _ h => h.elim) (yields_addr hg 24 _ 4 hop _ _ rfl (atC_4 _)) hS ?_
  refine wpAnyH_listed #[true, true, true, true, true, true, true, true, true, true, true, true, false, false, false] (cmFrame z0 (.pointer (some ⟨ga, 0, none⟩)) z2 (.pointer (some ⟨gq, 0, none⟩)) z4 z5 z6 z7 z8 z9 z10 z11 z12 (.pointer (some ⟨ga, 0, none⟩)) v1 (.slice A1 n1 q1) (.pointer (some ⟨ga, 4, none⟩)) v2 (.slice A2 n2 q2) (.pointer (some ⟨ga, 7, none⟩)) v3 (.slice A3 n3 q3) (.pointer (some ⟨gq, 0, none⟩)) (.pointer (some ⟨gq, 4, none⟩)) z24 z25 z26 z27 z28 z29 z30 z31 z32 z33 z34 z35 z36 z37 z38 z39 z40 z41 z42 z43 z44 z45 z46 z47 z48 z49 z50 z51 z52 z53 z54 z55 z56 z57 z58 z59 z60 z61 z62 z63 z64 z65 z66 z67 z68 z69 z70 z71 z72 z73 z74 z75 z76 z77 z78 z79 z80 z81 z82 z83 z84 z85 z86 z87 z88 z89 z90 z91 z92 z93 z94 z95 z96 z97 z98 z99) (by kernel_rfl) (by rw [hd]; exact cm_put23 _ _ _ _ _ _ _ _ _ _ _ _ _ _ _ _ _ _ _ _ _ _ _ _ _ _ _ _ _ _ _ _ _ _ _ _ _ _ _ _ _ _ _ _ _ _ _ _ _ _ _ _ _ _ _ _ _ _ _ _ _ _ _ _ _ _ _ _ _ _ _ _ _ _ _ _ _ _ _ _ _ _ _ _ _ _ _ _ _ _ _ _ _ _ _ _ _ _ _ _ _) ?_
  clear hd hop hg hop1
  obtain ⟨op1, hop1, hg, hop, hd⟩ := cmO2_12
  refine wpAnyH_all (rs := [12]) (by kernel_rfl) (by decide) (fun i hi => ?_)
  obtain rfl : i = 12 := by simpa using hi
  refine wpOp_step hop1 ?_
  intro K' hK'
  refine step_store1 hg _ _ hop hd gq 4 24 (QQ.setIfInBounds 0 (.slice A1 n1 q1)) _ _ _ rfl rfl hQ (by first | omega | (simp; omega)) (hK' _ _ ⟨hS.far (p := ⟨gq, 4, none⟩) hne (.slice A2 n2 q2), ?_⟩)
  refine wpAnyH_listed #[true, true, true, true, true, true, true, true, true, true, true, true, true, false, false] _ (by kernel_rfl) rfl ?_
  replace hS := hS.far (p := ⟨gq, 4, none⟩) hne (.slice A2 n2 q2)
  clear hd hop hg hop1 hK' K'
  replace hI := hI2 _ 4 (.slice A2 n2 q2) hI
  replace hQ := hQ.put 4 (.slice A2 n2 q2)
  replace hL1 := hL1.put hgq 4 (.slice A2 n2 q2)
  replace hL2 := hL2.put hgq 4 (.slice A2 n2 q2)
  replace hL3 := hL3.put hgq 4 (.slice A2 n2 q2)
  generalize u1.setCell ⟨gq, 4, none⟩ (.slice A2 n2 q2) = u2 at *
  obtain ⟨op1, hop1, hg, hop, hd⟩ := cmO2_13
  refine wpAnyH_take (i := 13) (v := (.pointer (some ⟨gq, 7, none⟩))) hop1 (by kernel_rfl) (by kernel_rfl) (by kernel_rfl) (fun _ _ _ h => h.elim) (yields_addr hg 24 _ 7 hop _ _ rfl (atC_7 _)) hS ?_
  refine wpAnyH_listed #[true, true, true, true, true, true, true, true, true, true, true, true, true, true, false] (cmFrame z0 (.pointer (some ⟨ga, 0, none⟩)) z2 (.pointer (some ⟨gq, 0, none⟩)) z4 z5 z6 z7 z8 z9 z10 z11 z12 (.pointer (some ⟨ga, 0, none⟩)) v1 (.slice A1 n1 q1) (.pointer (some ⟨ga, 4, none⟩)) v2 (.slice A2 n2 q2) (.pointer (some ⟨ga, 7, none⟩)) v3 (.slice A3 n3 q3) (.pointer (some ⟨gq, 0, none⟩)) (.pointer (some ⟨gq, 4, none⟩)) (.pointer (some ⟨gq, 7, none⟩)) z25 z26 z27 z28 z29 z30 z31 z32 z33 z34 z35 z36 z37 z38 z39 z40 z41 z42 z43 z44 z45 z46 z47 z48 z49 z50 z51 z52 z53 z54 z55 z56 z57 z58 z59 z60 z61 z62 z63 z64 z65 z66 z67 z68 z69 z70 z71 z72 z73 z74 z75 z76 z77 z78 z79 z80 z81 z82 z83 z84 z85 z86 z87 z88 z89 z90 z91 z92 z93 z94 z95 z96 z97 z98 z99) (by kernel_rfl) (by rw [hd]; exact cm_put24 _ _ _ _ _ _ _ _ _ _ _ _ _ _ _ _ _ _ _ _ _ _ _ _ _ _ _ _ _ _ _ _ _ _ _ _ _ _ _ _ _ _ _ _ _ _ _ _ _ _ _ _ _ _ _ _ _ _ _ _ _ _ _ _ _ _ _ _ _ _ _ _ _ _ _ _ _ _ _ _ _ _ _ _ _ _ _ _ _ _ _ _ _ _ _ _ _ _ _ _ _) ?_
  clear hd hop hg hop1
  obtain ⟨op1, hop1, hg, hop, hd⟩ := cmO2_14
  refine wpAnyH_all (rs := [14]) (by kernel_rfl) (by decide) (fun i hi => ?_)
  obtain rfl : i = 14 := by simpa using hi
  refine wpOp_step hop1 ?_
  intro K' hK'
  refine step_store1 hg _ _ hop hd gq 7 24 ((QQ.setIfInBounds 0 (.slice A1 n1 q1)).setIfInBounds 4 (.slice A2 n2 q2)) _ _ _ rfl rfl hQ (by first | omega | (simp; omega)) (hK' _ _ ⟨hS.far (p := ⟨gq, 7, none⟩) hne (.slice A3 n3 q3), ?_⟩)
  refine wpAnyH_listed #[true, true, true, true, true, true, true, true, true, true, true, true, true, true, true] _ (by kernel_rfl) rfl ?_
  replace hS := hS.far (p := ⟨gq, 7, none⟩) hne (.slice A3 n3 q3)
  clear hd hop hg hop1 hK' K'
  replace hI := hI2 _ 7 (.slice A3 n3 q3) hI
  replace hQ := hQ.put 7 (.slice A3 n3 q3)
  replace hL1 := hL1.put hgq 7 (.slice A3 n3 q3)
  replace hL2 := hL2.put hgq 7 (.slice A3 n3 q3)
  replace hL3 := hL3.put hgq 7 (.slice A3 n3 q3)
  generalize u2.setCell ⟨gq, 7, none⟩ (.slice A3 n3 q3) = u3 at *
  refine wpAnyH_done (by kernel_rfl) ?_ _
  refine NoPanic.normal ?_
  exact hK _ _ _ _ _ _ _ _ _ _ hI hL1 hL2 hL3 hQ
end Go.Proofs.YtbcckpnngonoeaaGreatDoor
namespace Go.Proofs.YtbcckpnngonoeaaGreatDoor
open Go.RowKit Mem Utf Ref3 Tok Cl
set_option linter.unusedVariables false
set_option linter.unusedSimpArgs false
namespace Nd
def TrueK (w : World) (e : Ending) (w' : World) : Prop := e = .returned (.bool true) ∧ Below w.heap.size w w'
theorem lent_at {w W : World} {B : Nat} {c : C} {v0 v4 v7 z1 z4 z7 : Value} (hC : ClAt w c v0 v4 v7) (h1 : Lent B W z1 c.has) (h4 : Lent B W z4 c.for_) (h7 : Lent B W z7 c.may_) : ClAt W c z1 z4 z7 := by
  have cap : ∀ {z : Value} {l : List Txt}, Lent B W z l → ∀ A n, z = .slice A l.length n → l.length ≤ n ∧ n ≤ 9223372036854775807 := fun h A n e => by
    obtain ⟨g, cap, h1, h2, h3, _⟩ := h
    rw [h1] at e
    injection e with _ _ e
    omega
  exact ⟨h1.rd, h4.rd, h7.rd, hC.nhas, hC.nfor, hC.nmay, hC.tabout, hC.tby, hC.tid, hC.efor, hC.emay, cap h4, cap h7⟩
theorem pt_nil (w : World) : (binOp .eql 28 (.pointer none) (.pointer none)).run Tryz.prog w = .ok (.bool true) w := by kernel_rfl
theorem pt_some (a : Addr) (w : World) : (binOp .eql 28 (.pointer (some a)) (.pointer none)).run Tryz.prog w = .ok (.bool false) w := by kernel_rfl
theorem kf_objC (c : C) : (objC c).Kf := by
  unfold objC
  unfold Tr.Kf
  refine ⟨by simp, (kfl_iff _).2 fun x hx => ?_⟩
  obtain ⟨k, _, rfl⟩ := List.mem_map.1 hx
  have h : ∀ l : List Txt, KfL (l.map Tr.text) := fun l => (kfl_iff _).2 fun x hx => by
    obtain ⟨s, _, rfl⟩ := List.mem_map.1 hx
    unfold Tr.Kf
    trivial
  unfold valK
  split <;> unfold Tr.Kf <;> first | trivial | exact h _
theorem TreeAt.below {B g : Nat} {t : Tr} {W W' : World} (h : TreeAt B W g t) (hb : Below W.heap.size W W') : TreeAt B W' g t := by
  obtain ⟨h1, h2, v, hB, hr⟩ := h
  exact ⟨h1, h2, v, hB.below hb hB.lt, RdT.move (fun k hk hs => ⟨hs, hb.block k hk⟩) _ _ hr⟩
theorem blk_storedK {W : World} {g : Nat} {t : TypeId} {cs ds : Array Value} (h : Blk W g t cs) (hs : ds.size = cs.size) : Blk (putCells W g ds.toList 0) g t ds := by
  have := putCells_blk ds.toList _ 0 _ h
  rwa [putList_all hs] at this
/-- the state behind Make: what was lent, what is kept -/
structure KSt (c : C) (v0 v4 v7 z1 z4 z7 : Value) (w : World) (B b4 : Nat) (W : World) : Prop where
  bel : Below w.heap.size w W
  bc : Blk W w.heap.size 24 (clCells c v0 v4 v7)
  bo : Blk W b4 24 (clCells c z1 z4 z7)
  l1 : Lent B W z1 c.has
  l4 : Lent B W z4 c.for_
  l7 : Lent B W z7 c.may_
theorem KSt.below {c : C} {v0 v4 v7 z1 z4 z7 : Value} {w : World} {B b4 : Nat} {W W' : World} (h : KSt c v0 v4 v7 z1 z4 z7 w B b4 W) (hb : Below W.heap.size W W') : KSt c v0 v4 v7 z1 z4 z7 w B b4 W' :=
  ⟨h.bel.trans (hb.mono h.bel.size), h.bc.below hb h.bc.lt, h.bo.below hb h.bo.lt, h.l1.below hb, h.l4.below hb, h.l7.below hb⟩
set_option maxRecDepth 100000 in
set_option maxHeartbeats 16000000 in
theorem makes_any (c : C) (v0 v4 v7 : Value) (w : World) (hC : ClAt w c v0 v4 v7) (hz : SzC c) (hn : (objC c).nodes ≤ 1099511627776) (hbt : (objC c).bytes ≤ 4398046511104) :
    Calls Tryz.prog 6 #[.agg #[v0, .string ⟨c.about.toArray⟩, .int .i64 c.at_, .string ⟨c.by_.toArray⟩, v4, .int .i64 c.from_, .string ⟨c.id_.toArray⟩, v7, .int .i64 c.until_]] w (TrueK w) := by
  obtain ⟨A0, k0, hx0, _⟩ := id hC.has
  subst hx0
  obtain ⟨A4, k4, hx4, _⟩ := id hC.for_
  subst hx4
  obtain ⟨A7, k7, hx7, _⟩ := id hC.may
  subst hx7
  have hba : Below w.heap.size w ((w.alloc (.cells #[.slice A0 c.has.length k0, .string ⟨c.about.toArray⟩, .int .i64 c.at_, .string ⟨c.by_.toArray⟩, .slice A4 c.for_.length k4, .int .i64 c.from_, .string ⟨c.id_.toArray⟩, .slice A7 c.may_.length k7, .int .i64 c.until_] 24)).alloc (.cells #[.slice A0 c.has.length k0, .string ⟨c.about.toArray⟩, .int .i64 c.at_, .string ⟨c.by_.toArray⟩, .slice A4 c.for_.length k4, .int .i64 c.from_, .string ⟨c.id_.toArray⟩, .slice A7 c.may_.length k7, .int .i64 c.until_] 24)) := ((Below.refl _ _).alloc (Nat.le_refl _) _).alloc (by simp) _
  have hb1 : Blk ((w.alloc (.cells #[.slice A0 c.has.length k0, .string ⟨c.about.toArray⟩, .int .i64 c.at_, .string ⟨c.by_.toArray⟩, .slice A4 c.for_.length k4, .int .i64 c.from_, .string ⟨c.id_.toArray⟩, .slice A7 c.may_.length k7, .int .i64 c.until_] 24)).alloc (.cells #[.slice A0 c.has.length k0, .string ⟨c.about.toArray⟩, .int .i64 c.at_, .string ⟨c.by_.toArray⟩, .slice A4 c.for_.length k4, .int .i64 c.from_, .string ⟨c.id_.toArray⟩, .slice A7 c.may_.length k7, .int .i64 c.until_] 24)) w.heap.size 24 #[.slice A0 c.has.length k0, .string ⟨c.about.toArray⟩, .int .i64 c.at_, .string ⟨c.by_.toArray⟩, .slice A4 c.for_.length k4, .int .i64 c.from_, .string ⟨c.id_.toArray⟩, .slice A7 c.may_.length k7, .int .i64 c.until_] := (Blk.new w 24 #[.slice A0 c.has.length k0, .string ⟨c.about.toArray⟩, .int .i64 c.at_, .string ⟨c.by_.toArray⟩, .slice A4 c.for_.length k4, .int .i64 c.from_, .string ⟨c.id_.toArray⟩, .slice A7 c.may_.length k7, .int .i64 c.until_]).alloc _
  have hb3 : Blk ((w.alloc (.cells #[.slice A0 c.has.length k0, .string ⟨c.about.toArray⟩, .int .i64 c.at_, .string ⟨c.by_.toArray⟩, .slice A4 c.for_.length k4, .int .i64 c.from_, .string ⟨c.id_.toArray⟩, .slice A7 c.may_.length k7, .int .i64 c.until_] 24)).alloc (.cells #[.slice A0 c.has.length k0, .string ⟨c.about.toArray⟩, .int .i64 c.at_, .string ⟨c.by_.toArray⟩, .slice A4 c.for_.length k4, .int .i64 c.from_, .string ⟨c.id_.toArray⟩, .slice A7 c.may_.length k7, .int .i64 c.until_] 24)) (w.heap.size + 1) 24 #[.slice A0 c.has.length k0, .string ⟨c.about.toArray⟩, .int .i64 c.at_, .string ⟨c.by_.toArray⟩, .slice A4 c.for_.length k4, .int .i64 c.from_, .string ⟨c.id_.toArray⟩, .slice A7 c.may_.length k7, .int .i64 c.until_] := by
    have := Blk.new (w.alloc (.cells #[.slice A0 c.has.length k0, .string ⟨c.about.toArray⟩, .int .i64 c.at_, .string ⟨c.by_.toArray⟩, .slice A4 c.for_.length k4, .int .i64 c.from_, .string ⟨c.id_.toArray⟩, .slice A7 c.may_.length k7, .int .i64 c.until_] 24)) 24 #[.slice A0 c.has.length k0, .string ⟨c.about.toArray⟩, .int .i64 c.at_, .string ⟨c.by_.toArray⟩, .slice A4 c.for_.length k4, .int .i64 c.from_, .string ⟨c.id_.toArray⟩, .slice A7 c.may_.length k7, .int .i64 c.until_]
    rwa [World.size_alloc] at this
  have HC := Lib.hid hC
  have HSZ := Lib.hid hz
  have HN := Lib.hid (And.intro hn hbt)
  have HB := Lib.hid hba
  have H1 := Lib.hid hb1
  have H3 := Lib.hid hb3
  have q1 := err_ne_nil
  have q2 := err_ne_held
  have q3 := err_eq_nil
  have q4 := err_eq_held
  have q5 := pt_nil
  have q6 := pt_some
  clear hC hz hn hbt hba hb1 hb3
  go_enter Tryz.func6, Tryz.ntmps6
  go_upto_region 2 with fail
  generalize ((w.alloc (.cells #[.slice A0 c.has.length k0, .string ⟨c.about.toArray⟩, .int .i64 c.at_, .string ⟨c.by_.toArray⟩, .slice A4 c.for_.length k4, .int .i64 c.from_, .string ⟨c.id_.toArray⟩, .slice A7 c.may_.length k7, .int .i64 c.until_] 24)).alloc (.cells #[.slice A0 c.has.length k0, .string ⟨c.about.toArray⟩, .int .i64 c.at_, .string ⟨c.by_.toArray⟩, .slice A4 c.for_.length k4, .int .i64 c.from_, .string ⟨c.id_.toArray⟩, .slice A7 c.may_.length k7, .int .i64 c.until_] 24)) = wa at *
  refine wp_region_noPanic ?_
  refine wp_region_held (S := fun W => Blk W w.heap.size 24 #[.slice A0 c.has.length k0, .string ⟨c.about.toArray⟩, .int .i64 c.at_, .string ⟨c.by_.toArray⟩, .slice A4 c.for_.length k4, .int .i64 c.from_, .string ⟨c.id_.toArray⟩, .slice A7 c.may_.length k7, .int .i64 c.until_]) (by kernel_rfl) ?_
  refine cm_lend w.heap.size (w.heap.size + 1) #[.slice A0 c.has.length k0, .string ⟨c.about.toArray⟩, .int .i64 c.at_, .string ⟨c.by_.toArray⟩, .slice A4 c.for_.length k4, .int .i64 c.from_, .string ⟨c.id_.toArray⟩, .slice A7 c.may_.length k7, .int .i64 c.until_] #[.slice A0 c.has.length k0, .string ⟨c.about.toArray⟩, .int .i64 c.at_, .string ⟨c.by_.toArray⟩, .slice A4 c.for_.length k4, .int .i64 c.from_, .string ⟨c.id_.toArray⟩, .slice A7 c.may_.length k7, .int .i64 c.until_] (.slice A0 c.has.length k0) (.slice A4 c.for_.length k4) (.slice A7 c.may_.length k7) c.has c.for_ c.may_ wa (fun W => Below w.heap.size w W ∧ Blk W w.heap.size 24 #[.slice A0 c.has.length k0, .string ⟨c.about.toArray⟩, .int .i64 c.at_, .string ⟨c.by_.toArray⟩, .slice A4 c.for_.length k4, .int .i64 c.from_, .string ⟨c.id_.toArray⟩, .slice A7 c.may_.length k7, .int .i64 c.until_]) _ rfl (by omega) H3.out.lt rfl rfl rfl HC.out.nhas HC.out.nfor HC.out.nmay (fun W hW => HC.out.has.below hW.1) (fun W hW => HC.out.for_.below hW.1) (fun W hW => HC.out.may.below hW.1) (fun W W' hW hb => ⟨hW.1.trans (hb.mono hW.1.size), hW.2.below hb hW.2.lt⟩) (fun W k v hW => ⟨hW.1.setCell (by show w.heap.size ≤ w.heap.size + 1; omega) _, hW.2.far (p := ⟨w.heap.size + 1, k, none⟩) (by show w.heap.size ≠ w.heap.size + 1; omega) _⟩) _ _ _ _ _ _ _ _ _ _ _ _ _ _ _ _ _ _ _ _ _ _ _ _ _ _ _ _ _ _ _ _ _ _ _ _ _ _ _ _ _ _ _ _ _ _ _ _ _ _ _ _ _ _ _ _ _ _ _ _ _ _ _ _ _ _ _ _ _ _ _ _ _ _ _ _ _ _ _ _ _ _ _ _ _ _ _ _ _ _ _ _ _ _ _ _ _ _ ?_ _ rfl ⟨HB.out.drew, H1.out⟩ H3.out H1.out
  intro D1 n1 m1 D4 n4 m4 D7 n7 m7 W hI hL1 hL4 hL7 hQ
  obtain ⟨g1, p1, hx1, _⟩ := id hL1
  injection hx1 with hx1 hx2 hx3
  subst hx1 hx2 hx3
  obtain ⟨g4, p4, hx1, _⟩ := id hL4
  injection hx1 with hx1 hx2 hx3
  subst hx1 hx2 hx3
  obtain ⟨g7, p7, hx1, _⟩ := id hL7
  injection hx1 with hx1 hx2 hx3
  subst hx1 hx2 hx3
  have hQ2 : Blk W (w.heap.size + 1) 24 #[.slice (some ⟨g1, 0, none⟩) c.has.length m1, .string ⟨c.about.toArray⟩, .int .i64 c.at_, .string ⟨c.by_.toArray⟩, .slice (some ⟨g4, 0, none⟩) c.for_.length m4, .int .i64 c.from_, .string ⟨c.id_.toArray⟩, .slice (some ⟨g7, 0, none⟩) c.may_.length m7, .int .i64 c.until_] := by simpa using hQ
  have hb : Below W.heap.size W (W.alloc (.cells #[.slice (some ⟨g1, 0, none⟩) c.has.length m1, .string ⟨c.about.toArray⟩, .int .i64 c.at_, .string ⟨c.by_.toArray⟩, .slice (some ⟨g4, 0, none⟩) c.for_.length m4, .int .i64 c.from_, .string ⟨c.id_.toArray⟩, .slice (some ⟨g7, 0, none⟩) c.may_.length m7, .int .i64 c.until_] 24)) := (Below.refl _ _).alloc (Nat.le_refl _) _
  have hlW := hQ2.lt
  have HK0 := Lib.hid (show KSt c (.slice A0 c.has.length k0) (.slice A4 c.for_.length k4) (.slice A7 c.may_.length k7) (.slice (some ⟨g1, 0, none⟩) c.has.length m1) (.slice (some ⟨g4, 0, none⟩) c.for_.length m4) (.slice (some ⟨g7, 0, none⟩) c.may_.length m7) w wa.heap.size W.heap.size (W.alloc (.cells #[.slice (some ⟨g1, 0, none⟩) c.has.length m1, .string ⟨c.about.toArray⟩, .int .i64 c.at_, .string ⟨c.by_.toArray⟩, .slice (some ⟨g4, 0, none⟩) c.for_.length m4, .int .i64 c.from_, .string ⟨c.id_.toArray⟩, .slice (some ⟨g7, 0, none⟩) c.may_.length m7, .int .i64 c.until_] 24)) from ⟨hI.1.trans (hb.mono hI.1.size), hI.2.below hb hI.2.lt, Blk.new W 24 #[.slice (some ⟨g1, 0, none⟩) c.has.length m1, .string ⟨c.about.toArray⟩, .int .i64 c.at_, .string ⟨c.by_.toArray⟩, .slice (some ⟨g4, 0, none⟩) c.for_.length m4, .int .i64 c.from_, .string ⟨c.id_.toArray⟩, .slice (some ⟨g7, 0, none⟩) c.may_.length m7, .int .i64 c.until_], hL1.below hb, hL4.below hb, hL7.below hb⟩)
  obtain ⟨x0, x1, x2, x3, x4, x5, x6, x7, x8⟩ := C9 hQ2
  clear hI hL1 hL4 hL7 hQ hQ2 hb HB H1 H3
  unfold cmFrame
  go_wp2_with fail
  clear x0 x1 x2 x3 x4 x5 x6 x7 x8 hlW
  generalize (W.alloc (.cells #[.slice (some ⟨g1, 0, none⟩) c.has.length m1, .string ⟨c.about.toArray⟩, .int .i64 c.at_, .string ⟨c.by_.toArray⟩, .slice (some ⟨g4, 0, none⟩) c.for_.length m4, .int .i64 c.from_, .string ⟨c.id_.toArray⟩, .slice (some ⟨g7, 0, none⟩) c.may_.length m7, .int .i64 c.until_] 24)) = W4 at *
  generalize W.heap.size = b4 at *
  generalize wa.heap.size = B at *
  ((with_reducible refine (make_any c (.slice (some ⟨g1, 0, none⟩) c.has.length m1) (.slice (some ⟨g4, 0, none⟩) c.for_.length m4) (.slice (some ⟨g7, 0, none⟩) c.may_.length m7) W4 (lent_at HC.out HK0.out.l1 HK0.out.l4 HK0.out.l7) HSZ.out).mono ?_); rintro e W5 ⟨hb, he⟩)
  have HK := Lib.hid (HK0.out.below hb)
  clear hb HK0
  rcases he with ⟨hm, rfl⟩ | ⟨hm, hf, rfl⟩ | ⟨hm, gt, rfl, hT⟩
  · have HM := Lib.hid hm
    clear hm
    obtain ⟨e0, e1, e2, e3, e4, e5, e6, e7, e8⟩ := C9 HK.out.bc
    obtain ⟨o0, o1, o2, o3, o4, o5, o6, o7, o8⟩ := C9 HK.out.bo
    go_wp2_with fail
    clear e0 e1 e2 e3 e4 e5 e6 e7 e8 o0 o1 o2 o3 o4 o5 o6 o7 o8
    ((with_reducible refine (twin_any c (.slice A0 c.has.length k0) (.slice A4 c.for_.length k4) (.slice A7 c.may_.length k7) W5 (HC.out.below HK.out.bel)).mono ?_); rintro e W6 ⟨rfl, hb⟩)
    rw [show mayB c = false from HM.out]
    replace HK := Lib.hid (HK.out.below hb)
    clear hb
    have hZ := Blk.new W6 70 #[.bool false, .bool false, .bool false, .bool false, .bool false, .bool false, .bool false, .bool false, .string ⟨#[]⟩, .string ⟨#[]⟩, .string ⟨#[]⟩, .string ⟨#[]⟩, .string ⟨#[]⟩, .string ⟨#[]⟩, .string ⟨#[]⟩, .string ⟨#[]⟩, .int .i64 0, .int .i64 0, .int .i64 0, .int .i64 0, .int .i64 0, .int .i64 0, .int .i64 0, .int .i64 0, .slice none 0 0, .slice none 0 0, .slice none 0 0, .slice none 0 0, .slice none 0 0, .slice none 0 0, .slice none 0 0, .slice none 0 0]
    have hone : ∀ v ∈ (dCells (is c) c (.slice A4 c.for_.length k4) (.slice A7 c.may_.length k7)).toList, v.oneCell' = true := by simp [dCells, Value.oneCell']
    have hzs : (dCells (is c) c (.slice A4 c.for_.length k4) (.slice A7 c.may_.length k7)).size = (#[.bool false, .bool false, .bool false, .bool false, .bool false, .bool false, .bool false, .bool false, .string ⟨#[]⟩, .string ⟨#[]⟩, .string ⟨#[]⟩, .string ⟨#[]⟩, .string ⟨#[]⟩, .string ⟨#[]⟩, .string ⟨#[]⟩, .string ⟨#[]⟩, .int .i64 0, .int .i64 0, .int .i64 0, .int .i64 0, .int .i64 0, .int .i64 0, .int .i64 0, .int .i64 0, .slice none 0 0, .slice none 0 0, .slice none 0 0, .slice none 0 0, .slice none 0 0, .slice none 0 0, .slice none 0 0, .slice none 0 0] : Array Value).size := rfl
    have hzi : (Tryz.prog.info? 70).map (·.size) = some (dCells (is c) c (.slice A4 c.for_.length k4) (.slice A7 c.may_.length k7)).size := by kernel_rfl
    generalize hD : dCells (is c) c (.slice A4 c.for_.length k4) (.slice A7 c.may_.length k7) = ds at *
    go_upto_region 6 with (refine wpList_store_row rfl 70 (.tmp 7) (.tmp 34) rfl W6.heap.size 70 #[.bool false, .bool false, .bool false, .bool false, .bool false, .bool false, .bool false, .bool false, .string ⟨#[]⟩, .string ⟨#[]⟩, .string ⟨#[]⟩, .string ⟨#[]⟩, .string ⟨#[]⟩, .string ⟨#[]⟩, .string ⟨#[]⟩, .string ⟨#[]⟩, .int .i64 0, .int .i64 0, .int .i64 0, .int .i64 0, .int .i64 0, .int .i64 0, .int .i64 0, .int .i64 0, .slice none 0 0, .slice none 0 0, .slice none 0 0, .slice none 0 0, .slice none 0 0, .slice none 0 0, .slice none 0 0, .slice none 0 0] ds rfl rfl hZ hzs hone hzi rfl ?_)
    have hZ2 := blk_storedK hZ hzs
    have hb : Below W6.heap.size W6 (putCells (W6.alloc (.cells #[.bool false, .bool false, .bool false, .bool false, .bool false, .bool false, .bool false, .bool false, .string ⟨#[]⟩, .string ⟨#[]⟩, .string ⟨#[]⟩, .string ⟨#[]⟩, .string ⟨#[]⟩, .string ⟨#[]⟩, .string ⟨#[]⟩, .string ⟨#[]⟩, .int .i64 0, .int .i64 0, .int .i64 0, .int .i64 0, .int .i64 0, .int .i64 0, .int .i64 0, .int .i64 0, .slice none 0 0, .slice none 0 0, .slice none 0 0, .slice none 0 0, .slice none 0 0, .slice none 0 0, .slice none 0 0, .slice none 0 0] 70)) W6.heap.size ds.toList 0) := putCells_below (Nat.le_refl _) _ _ _ _ ((Below.refl _ _).alloc (Nat.le_refl _) _)
    have HDE := Lib.hid hD
    have HZI := Lib.hid hzi
    have HD7 := Lib.hid hZ2
    clear hZ hone hzs hzi hD hZ2
    generalize putCells (W6.alloc (.cells #[.bool false, .bool false, .bool false, .bool false, .bool false, .bool false, .bool false, .bool false, .string ⟨#[]⟩, .string ⟨#[]⟩, .string ⟨#[]⟩, .string ⟨#[]⟩, .string ⟨#[]⟩, .string ⟨#[]⟩, .string ⟨#[]⟩, .string ⟨#[]⟩, .int .i64 0, .int .i64 0, .int .i64 0, .int .i64 0, .int .i64 0, .int .i64 0, .int .i64 0, .int .i64 0, .slice none 0 0, .slice none 0 0, .slice none 0 0, .slice none 0 0, .slice none 0 0, .slice none 0 0, .slice none 0 0, .slice none 0 0] 70)) W6.heap.size ds.toList 0 = W7 at *
    replace HK := Lib.hid (HK.out.below hb)
    clear hb
    obtain ⟨e0, e1, e2, e3, e4, e5, e6, e7, e8⟩ := C9 HK.out.bc
    obtain ⟨o0, o1, o2, o3, o4, o5, o6, o7, o8⟩ := C9 HK.out.bo
    go_wp2_with fail
    clear e0 e1 e2 e3 e4 e5 e6 e7 e8 o0 o1 o2 o3 o4 o5 o6 o7 o8
    ((with_reducible refine (kept_any B (.slice (some ⟨g1, 0, none⟩) c.has.length m1) (.slice A0 c.has.length k0) c.has _ HK.out.l1 (HC.out.has.below HK.out.bel) HC.out.nhas).mono ?_); rintro e W8 ⟨rfl, hb⟩)
    replace HD7 := Lib.hid (HD7.out.below hb HD7.out.lt)
    replace HK := Lib.hid (HK.out.below hb)
    clear hb
    obtain ⟨e0, e1, e2, e3, e4, e5, e6, e7, e8⟩ := C9 HK.out.bc
    obtain ⟨o0, o1, o2, o3, o4, o5, o6, o7, o8⟩ := C9 HK.out.bo
    go_wp2_with fail
    clear e0 e1 e2 e3 e4 e5 e6 e7 e8 o0 o1 o2 o3 o4 o5 o6 o7 o8
    ((with_reducible refine (kept_any B (.slice (some ⟨g4, 0, none⟩) c.for_.length m4) (.slice A4 c.for_.length k4) c.for_ _ HK.out.l4 (HC.out.for_.below HK.out.bel) HC.out.nfor).mono ?_); rintro e W8 ⟨rfl, hb⟩)
    replace HD7 := Lib.hid (HD7.out.below hb HD7.out.lt)
    replace HK := Lib.hid (HK.out.below hb)
    clear hb
    obtain ⟨e0, e1, e2, e3, e4, e5, e6, e7, e8⟩ := C9 HK.out.bc
    obtain ⟨o0, o1, o2, o3, o4, o5, o6, o7, o8⟩ := C9 HK.out.bo
    go_wp2_with fail
    clear e0 e1 e2 e3 e4 e5 e6 e7 e8 o0 o1 o2 o3 o4 o5 o6 o7 o8
    ((with_reducible refine (kept_any B (.slice (some ⟨g7, 0, none⟩) c.may_.length m7) (.slice A7 c.may_.length k7) c.may_ _ HK.out.l7 (HC.out.may.below HK.out.bel) HC.out.nmay).mono ?_); rintro e W8 ⟨rfl, hb⟩)
    replace HD7 := Lib.hid (HD7.out.below hb HD7.out.lt)
    replace HK := Lib.hid (HK.out.below hb)
    clear hb
    go_wp2_with fail
    ((with_reducible refine (wakes25_any _).mono ?_); rintro e W11 ⟨rfl, hb⟩)
    replace HD7 := Lib.hid (HD7.out.below hb HD7.out.lt)
    replace HK := Lib.hid (HK.out.below hb)
    clear hb
    go_wp2_with fail
    ((with_reducible refine (number25_any 2 _).mono ?_); rintro e W12 ⟨rfl, rfl⟩)
    go_wp2
    go_ret
    exact ⟨rfl, HK.out.bel⟩
  · have HM := Lib.hid hm
    have HFT := Lib.hid hf
    clear hm hf
    obtain ⟨e0, e1, e2, e3, e4, e5, e6, e7, e8⟩ := C9 HK.out.bc
    obtain ⟨o0, o1, o2, o3, o4, o5, o6, o7, o8⟩ := C9 HK.out.bo
    go_wp2_with fail
    clear e0 e1 e2 e3 e4 e5 e6 e7 e8 o0 o1 o2 o3 o4 o5 o6 o7 o8
    ((with_reducible refine (twin_any c (.slice A0 c.has.length k0) (.slice A4 c.for_.length k4) (.slice A7 c.may_.length k7) W5 (HC.out.below HK.out.bel)).mono ?_); rintro e W6 ⟨rfl, hb⟩)
    rw [show mayB c = true from HM.out]
    replace HK := Lib.hid (HK.out.below hb)
    clear hb
    have hZ := Blk.new W6 70 #[.bool false, .bool false, .bool false, .bool false, .bool false, .bool false, .bool false, .bool false, .string ⟨#[]⟩, .string ⟨#[]⟩, .string ⟨#[]⟩, .string ⟨#[]⟩, .string ⟨#[]⟩, .string ⟨#[]⟩, .string ⟨#[]⟩, .string ⟨#[]⟩, .int .i64 0, .int .i64 0, .int .i64 0, .int .i64 0, .int .i64 0, .int .i64 0, .int .i64 0, .int .i64 0, .slice none 0 0, .slice none 0 0, .slice none 0 0, .slice none 0 0, .slice none 0 0, .slice none 0 0, .slice none 0 0, .slice none 0 0]
    have hone : ∀ v ∈ (dCells (is c) c (.slice A4 c.for_.length k4) (.slice A7 c.may_.length k7)).toList, v.oneCell' = true := by simp [dCells, Value.oneCell']
    have hzs : (dCells (is c) c (.slice A4 c.for_.length k4) (.slice A7 c.may_.length k7)).size = (#[.bool false, .bool false, .bool false, .bool false, .bool false, .bool false, .bool false, .bool false, .string ⟨#[]⟩, .string ⟨#[]⟩, .string ⟨#[]⟩, .string ⟨#[]⟩, .string ⟨#[]⟩, .string ⟨#[]⟩, .string ⟨#[]⟩, .string ⟨#[]⟩, .int .i64 0, .int .i64 0, .int .i64 0, .int .i64 0, .int .i64 0, .int .i64 0, .int .i64 0, .int .i64 0, .slice none 0 0, .slice none 0 0, .slice none 0 0, .slice none 0 0, .slice none 0 0, .slice none 0 0, .slice none 0 0, .slice none 0 0] : Array Value).size := rfl
    have hzi : (Tryz.prog.info? 70).map (·.size) = some (dCells (is c) c (.slice A4 c.for_.length k4) (.slice A7 c.may_.length k7)).size := by kernel_rfl
    generalize hD : dCells (is c) c (.slice A4 c.for_.length k4) (.slice A7 c.may_.length k7) = ds at *
    go_upto_region 6 with (refine wpList_store_row rfl 70 (.tmp 7) (.tmp 34) rfl W6.heap.size 70 #[.bool false, .bool false, .bool false, .bool false, .bool false, .bool false, .bool false, .bool false, .string ⟨#[]⟩, .string ⟨#[]⟩, .string ⟨#[]⟩, .string ⟨#[]⟩, .string ⟨#[]⟩, .string ⟨#[]⟩, .string ⟨#[]⟩, .string ⟨#[]⟩, .int .i64 0, .int .i64 0, .int .i64 0, .int .i64 0, .int .i64 0, .int .i64 0, .int .i64 0, .int .i64 0, .slice none 0 0, .slice none 0 0, .slice none 0 0, .slice none 0 0, .slice none 0 0, .slice none 0 0, .slice none 0 0, .slice none 0 0] ds rfl rfl hZ hzs hone hzi rfl ?_)
    have hZ2 := blk_storedK hZ hzs
    have hb : Below W6.heap.size W6 (putCells (W6.alloc (.cells #[.bool false, .bool false, .bool false, .bool false, .bool false, .bool false, .bool false, .bool false, .string ⟨#[]⟩, .string ⟨#[]⟩, .string ⟨#[]⟩, .string ⟨#[]⟩, .string ⟨#[]⟩, .string ⟨#[]⟩, .string ⟨#[]⟩, .string ⟨#[]⟩, .int .i64 0, .int .i64 0, .int .i64 0, .int .i64 0, .int .i64 0, .int .i64 0, .int .i64 0, .int .i64 0, .slice none 0 0, .slice none 0 0, .slice none 0 0, .slice none 0 0, .slice none 0 0, .slice none 0 0, .slice none 0 0, .slice none 0 0] 70)) W6.heap.size ds.toList 0) := putCells_below (Nat.le_refl _) _ _ _ _ ((Below.refl _ _).alloc (Nat.le_refl _) _)
    have HDE := Lib.hid hD
    have HZI := Lib.hid hzi
    have HD7 := Lib.hid hZ2
    clear hZ hone hzs hzi hD hZ2
    generalize putCells (W6.alloc (.cells #[.bool false, .bool false, .bool false, .bool false, .bool false, .bool false, .bool false, .bool false, .string ⟨#[]⟩, .string ⟨#[]⟩, .string ⟨#[]⟩, .string ⟨#[]⟩, .string ⟨#[]⟩, .string ⟨#[]⟩, .string ⟨#[]⟩, .string ⟨#[]⟩, .int .i64 0, .int .i64 0, .int .i64 0, .int .i64 0, .int .i64 0, .int .i64 0, .int .i64 0, .int .i64 0, .slice none 0 0, .slice none 0 0, .slice none 0 0, .slice none 0 0, .slice none 0 0, .slice none 0 0, .slice none 0 0, .slice none 0 0] 70)) W6.heap.size ds.toList 0 = W7 at *
    replace HK := Lib.hid (HK.out.below hb)
    clear hb
    obtain ⟨e0, e1, e2, e3, e4, e5, e6, e7, e8⟩ := C9 HK.out.bc
    obtain ⟨o0, o1, o2, o3, o4, o5, o6, o7, o8⟩ := C9 HK.out.bo
    go_wp2_with fail
    clear e0 e1 e2 e3 e4 e5 e6 e7 e8 o0 o1 o2 o3 o4 o5 o6 o7 o8
    ((with_reducible refine (kept_any B (.slice (some ⟨g1, 0, none⟩) c.has.length m1) (.slice A0 c.has.length k0) c.has _ HK.out.l1 (HC.out.has.below HK.out.bel) HC.out.nhas).mono ?_); rintro e W8 ⟨rfl, hb⟩)
    replace HD7 := Lib.hid (HD7.out.below hb HD7.out.lt)
    replace HK := Lib.hid (HK.out.below hb)
    clear hb
    obtain ⟨e0, e1, e2, e3, e4, e5, e6, e7, e8⟩ := C9 HK.out.bc
    obtain ⟨o0, o1, o2, o3, o4, o5, o6, o7, o8⟩ := C9 HK.out.bo
    go_wp2_with fail
    clear e0 e1 e2 e3 e4 e5 e6 e7 e8 o0 o1 o2 o3 o4 o5 o6 o7 o8
    ((with_reducible refine (kept_any B (.slice (some ⟨g4, 0, none⟩) c.for_.length m4) (.slice A4 c.for_.length k4) c.for_ _ HK.out.l4 (HC.out.for_.below HK.out.bel) HC.out.nfor).mono ?_); rintro e W8 ⟨rfl, hb⟩)
    replace HD7 := Lib.hid (HD7.out.below hb HD7.out.lt)
    replace HK := Lib.hid (HK.out.below hb)
    clear hb
    obtain ⟨e0, e1, e2, e3, e4, e5, e6, e7, e8⟩ := C9 HK.out.bc
    obtain ⟨o0, o1, o2, o3, o4, o5, o6, o7, o8⟩ := C9 HK.out.bo
    go_wp2_with fail
    clear e0 e1 e2 e3 e4 e5 e6 e7 e8 o0 o1 o2 o3 o4 o5 o6 o7 o8
    ((with_reducible refine (kept_any B (.slice (some ⟨g7, 0, none⟩) c.may_.length m7) (.slice A7 c.may_.length k7) c.may_ _ HK.out.l7 (HC.out.may.below HK.out.bel) HC.out.nmay).mono ?_); rintro e W8 ⟨rfl, hb⟩)
    replace HD7 := Lib.hid (HD7.out.below hb HD7.out.lt)
    replace HK := Lib.hid (HK.out.below hb)
    clear hb
    go_wp2_with fail
    ((with_reducible refine (wakes25_any _).mono ?_); rintro e W11 ⟨rfl, hb⟩)
    replace HD7 := Lib.hid (HD7.out.below hb HD7.out.lt)
    replace HK := Lib.hid (HK.out.below hb)
    clear hb
    have HJ := refMake_any c (.slice A0 c.has.length k0) (.slice A4 c.for_.length k4) (.slice A7 c.may_.length k7) W11 (HC.out.below HK.out.bel) HM.out
    rw [HDE.out] at HJ
    have hDD := HD7.out
    unfold Blk at hDD
    have hzi := HZI.out
    go_wp2_with (refine wpList_load_row rfl 70 (.tmp 7) rfl _ rfl 70 _ (0, 0) _ hDD Tryz.underlying70 rfl hzi ?_)
    refine HJ.mono ?_
    rintro e W12 ⟨⟨AI, cI, AK, cK, rfl, hrv, hck⟩, hb⟩
    have HRV := Lib.hid (RdV.move (w' := W12) (S' := fun _ => True) (fun k hk hs => ⟨trivial, rfl⟩) _ _ hrv)
    have HCK := Lib.hid hck
    clear HJ hDD hzi hrv hck
    replace HK := Lib.hid (HK.out.below hb)
    clear hb
    have hb : Below W12.heap.size W12 (W12.alloc (.cells #[.int .i64 ((objC c).srt : Nat), .bool (objC c).fl, .int .u64 ((objC c).bi : Nat), .string ⟨(objC c).tx.toArray⟩, .slice AI (objC c).kids.length cI, .slice AK (objC c).kn.length cK] 61)) := (Below.refl _ _).alloc (Nat.le_refl _) _
    have HVB := Lib.hid (Blk.new W12 61 #[.int .i64 ((objC c).srt : Nat), .bool (objC c).fl, .int .u64 ((objC c).bi : Nat), .string ⟨(objC c).tx.toArray⟩, .slice AI (objC c).kids.length cI, .slice AK (objC c).kn.length cK])
    replace HRV := Lib.hid (RdV.move (w' := (W12.alloc (.cells #[.int .i64 ((objC c).srt : Nat), .bool (objC c).fl, .int .u64 ((objC c).bi : Nat), .string ⟨(objC c).tx.toArray⟩, .slice AI (objC c).kids.length cI, .slice AK (objC c).kn.length cK] 61))) (S' := fun _ => True) (fun k hk hs => ⟨trivial, hb.block k hk⟩) _ _ HRV.out)
    replace HK := Lib.hid (HK.out.below hb)
    clear hb
    go_wp2_with fail
    generalize (W12.alloc (.cells #[.int .i64 ((objC c).srt : Nat), .bool (objC c).fl, .int .u64 ((objC c).bi : Nat), .string ⟨(objC c).tx.toArray⟩, .slice AI (objC c).kids.length cI, .slice AK (objC c).kn.length cK] 61)) = W13 at *
    ((with_reducible refine (within_any (objC c) (kf_objC c) HN.out.1 HN.out.2 AI cI AK cK W13 HRV.out).mono ?_); rintro e W14 ⟨rfl, hb⟩)
    rw [show (objC c).fit = false from HFT.out]
    replace HRV := Lib.hid (RdV.move (w' := W14) (S' := fun _ => True) (fun k hk hs => ⟨trivial, hb.block k hk⟩) _ _ HRV.out)
    replace HVB := Lib.hid (HVB.out.below hb HVB.out.lt)
    replace HK := Lib.hid (HK.out.below hb)
    clear hb
    go_wp2_with fail
    ((with_reducible refine (number25_any 3 _).mono ?_); rintro e W15 ⟨rfl, rfl⟩)
    go_wp2
    go_ret
    exact ⟨rfl, HK.out.bel⟩
  · have HM := Lib.hid hm
    have HTA := Lib.hid hT
    have HFT := Lib.hid hT.2.1
    clear hm hT
    obtain ⟨e0, e1, e2, e3, e4, e5, e6, e7, e8⟩ := C9 HK.out.bc
    obtain ⟨o0, o1, o2, o3, o4, o5, o6, o7, o8⟩ := C9 HK.out.bo
    go_wp2_with fail
    clear e0 e1 e2 e3 e4 e5 e6 e7 e8 o0 o1 o2 o3 o4 o5 o6 o7 o8
    ((with_reducible refine (twin_any c (.slice A0 c.has.length k0) (.slice A4 c.for_.length k4) (.slice A7 c.may_.length k7) W5 (HC.out.below HK.out.bel)).mono ?_); rintro e W6 ⟨rfl, hb⟩)
    rw [show mayB c = true from HM.out]
    replace HK := Lib.hid (HK.out.below hb)
    replace HTA := Lib.hid (HTA.out.below hb)
    clear hb
    have hZ := Blk.new W6 70 #[.bool false, .bool false, .bool false, .bool false, .bool false, .bool false, .bool false, .bool false, .string ⟨#[]⟩, .string ⟨#[]⟩, .string ⟨#[]⟩, .string ⟨#[]⟩, .string ⟨#[]⟩, .string ⟨#[]⟩, .string ⟨#[]⟩, .string ⟨#[]⟩, .int .i64 0, .int .i64 0, .int .i64 0, .int .i64 0, .int .i64 0, .int .i64 0, .int .i64 0, .int .i64 0, .slice none 0 0, .slice none 0 0, .slice none 0 0, .slice none 0 0, .slice none 0 0, .slice none 0 0, .slice none 0 0, .slice none 0 0]
    have hone : ∀ v ∈ (dCells (is c) c (.slice A4 c.for_.length k4) (.slice A7 c.may_.length k7)).toList, v.oneCell' = true := by simp [dCells, Value.oneCell']
    have hzs : (dCells (is c) c (.slice A4 c.for_.length k4) (.slice A7 c.may_.length k7)).size = (#[.bool false, .bool false, .bool false, .bool false, .bool false, .bool false, .bool false, .bool false, .string ⟨#[]⟩, .string ⟨#[]⟩, .string ⟨#[]⟩, .string ⟨#[]⟩, .string ⟨#[]⟩, .string ⟨#[]⟩, .string ⟨#[]⟩, .string ⟨#[]⟩, .int .i64 0, .int .i64 0, .int .i64 0, .int .i64 0, .int .i64 0, .int .i64 0, .int .i64 0, .int .i64 0, .slice none 0 0, .slice none 0 0, .slice none 0 0, .slice none 0 0, .slice none 0 0, .slice none 0 0, .slice none 0 0, .slice none 0 0] : Array Value).size := rfl
    have hzi : (Tryz.prog.info? 70).map (·.size) = some (dCells (is c) c (.slice A4 c.for_.length k4) (.slice A7 c.may_.length k7)).size := by kernel_rfl
    generalize hD : dCells (is c) c (.slice A4 c.for_.length k4) (.slice A7 c.may_.length k7) = ds at *
    go_upto_region 6 with (refine wpList_store_row rfl 70 (.tmp 7) (.tmp 34) rfl W6.heap.size 70 #[.bool false, .bool false, .bool false, .bool false, .bool false, .bool false, .bool false, .bool false, .string ⟨#[]⟩, .string ⟨#[]⟩, .string ⟨#[]⟩, .string ⟨#[]⟩, .string ⟨#[]⟩, .string ⟨#[]⟩, .string ⟨#[]⟩, .string ⟨#[]⟩, .int .i64 0, .int .i64 0, .int .i64 0, .int .i64 0, .int .i64 0, .int .i64 0, .int .i64 0, .int .i64 0, .slice none 0 0, .slice none 0 0, .slice none 0 0, .slice none 0 0, .slice none 0 0, .slice none 0 0, .slice none 0 0, .slice none 0 0] ds rfl rfl hZ hzs hone hzi rfl ?_)
    have hZ2 := blk_storedK hZ hzs
    have hb : Below W6.heap.size W6 (putCells (W6.alloc (.cells #[.bool false, .bool false, .bool false, .bool false, .bool false, .bool false, .bool false, .bool false, .string ⟨#[]⟩, .string ⟨#[]⟩, .string ⟨#[]⟩, .string ⟨#[]⟩, .string ⟨#[]⟩, .string ⟨#[]⟩, .string ⟨#[]⟩, .string ⟨#[]⟩, .int .i64 0, .int .i64 0, .int .i64 0, .int .i64 0, .int .i64 0, .int .i64 0, .int .i64 0, .int .i64 0, .slice none 0 0, .slice none 0 0, .slice none 0 0, .slice none 0 0, .slice none 0 0, .slice none 0 0, .slice none 0 0, .slice none 0 0] 70)) W6.heap.size ds.toList 0) := putCells_below (Nat.le_refl _) _ _ _ _ ((Below.refl _ _).alloc (Nat.le_refl _) _)
    have HDE := Lib.hid hD
    have HZI := Lib.hid hzi
    have HD7 := Lib.hid hZ2
    clear hZ hone hzs hzi hD hZ2
    generalize putCells (W6.alloc (.cells #[.bool false, .bool false, .bool false, .bool false, .bool false, .bool false, .bool false, .bool false, .string ⟨#[]⟩, .string ⟨#[]⟩, .string ⟨#[]⟩, .string ⟨#[]⟩, .string ⟨#[]⟩, .string ⟨#[]⟩, .string ⟨#[]⟩, .string ⟨#[]⟩, .int .i64 0, .int .i64 0, .int .i64 0, .int .i64 0, .int .i64 0, .int .i64 0, .int .i64 0, .int .i64 0, .slice none 0 0, .slice none 0 0, .slice none 0 0, .slice none 0 0, .slice none 0 0, .slice none 0 0, .slice none 0 0, .slice none 0 0] 70)) W6.heap.size ds.toList 0 = W7 at *
    replace HK := Lib.hid (HK.out.below hb)
    replace HTA := Lib.hid (HTA.out.below hb)
    clear hb
    obtain ⟨e0, e1, e2, e3, e4, e5, e6, e7, e8⟩ := C9 HK.out.bc
    obtain ⟨o0, o1, o2, o3, o4, o5, o6, o7, o8⟩ := C9 HK.out.bo
    go_wp2_with fail
    clear e0 e1 e2 e3 e4 e5 e6 e7 e8 o0 o1 o2 o3 o4 o5 o6 o7 o8
    ((with_reducible refine (kept_any B (.slice (some ⟨g1, 0, none⟩) c.has.length m1) (.slice A0 c.has.length k0) c.has _ HK.out.l1 (HC.out.has.below HK.out.bel) HC.out.nhas).mono ?_); rintro e W8 ⟨rfl, hb⟩)
    replace HD7 := Lib.hid (HD7.out.below hb HD7.out.lt)
    replace HK := Lib.hid (HK.out.below hb)
    replace HTA := Lib.hid (HTA.out.below hb)
    clear hb
    obtain ⟨e0, e1, e2, e3, e4, e5, e6, e7, e8⟩ := C9 HK.out.bc
    obtain ⟨o0, o1, o2, o3, o4, o5, o6, o7, o8⟩ := C9 HK.out.bo
    go_wp2_with fail
    clear e0 e1 e2 e3 e4 e5 e6 e7 e8 o0 o1 o2 o3 o4 o5 o6 o7 o8
    ((with_reducible refine (kept_any B (.slice (some ⟨g4, 0, none⟩) c.for_.length m4) (.slice A4 c.for_.length k4) c.for_ _ HK.out.l4 (HC.out.for_.below HK.out.bel) HC.out.nfor).mono ?_); rintro e W8 ⟨rfl, hb⟩)
    replace HD7 := Lib.hid (HD7.out.below hb HD7.out.lt)
    replace HK := Lib.hid (HK.out.below hb)
    replace HTA := Lib.hid (HTA.out.below hb)
    clear hb
    obtain ⟨e0, e1, e2, e3, e4, e5, e6, e7, e8⟩ := C9 HK.out.bc
    obtain ⟨o0, o1, o2, o3, o4, o5, o6, o7, o8⟩ := C9 HK.out.bo
    go_wp2_with fail
    clear e0 e1 e2 e3 e4 e5 e6 e7 e8 o0 o1 o2 o3 o4 o5 o6 o7 o8
    ((with_reducible refine (kept_any B (.slice (some ⟨g7, 0, none⟩) c.may_.length m7) (.slice A7 c.may_.length k7) c.may_ _ HK.out.l7 (HC.out.may.below HK.out.bel) HC.out.nmay).mono ?_); rintro e W8 ⟨rfl, hb⟩)
    replace HD7 := Lib.hid (HD7.out.below hb HD7.out.lt)
    replace HK := Lib.hid (HK.out.below hb)
    replace HTA := Lib.hid (HTA.out.below hb)
    clear hb
    go_wp2_with fail
    ((with_reducible refine (wakes25_any _).mono ?_); rintro e W11 ⟨rfl, hb⟩)
    replace HD7 := Lib.hid (HD7.out.below hb HD7.out.lt)
    replace HK := Lib.hid (HK.out.below hb)
    replace HTA := Lib.hid (HTA.out.below hb)
    clear hb
    have HJ := refMake_any c (.slice A0 c.has.length k0) (.slice A4 c.for_.length k4) (.slice A7 c.may_.length k7) W11 (HC.out.below HK.out.bel) HM.out
    rw [HDE.out] at HJ
    have hDD := HD7.out
    unfold Blk at hDD
    have hzi := HZI.out
    go_wp2_with (refine wpList_load_row rfl 70 (.tmp 7) rfl _ rfl 70 _ (0, 0) _ hDD Tryz.underlying70 rfl hzi ?_)
    refine HJ.mono ?_
    rintro e W12 ⟨⟨AI, cI, AK, cK, rfl, hrv, hck⟩, hb⟩
    have HRV := Lib.hid (RdV.move (w' := W12) (S' := fun _ => True) (fun k hk hs => ⟨trivial, rfl⟩) _ _ hrv)
    have HCK := Lib.hid hck
    clear HJ hDD hzi hrv hck
    replace HK := Lib.hid (HK.out.below hb)
    replace HTA := Lib.hid (HTA.out.below hb)
    clear hb
    have hb : Below W12.heap.size W12 (W12.alloc (.cells #[.int .i64 ((objC c).srt : Nat), .bool (objC c).fl, .int .u64 ((objC c).bi : Nat), .string ⟨(objC c).tx.toArray⟩, .slice AI (objC c).kids.length cI, .slice AK (objC c).kn.length cK] 61)) := (Below.refl _ _).alloc (Nat.le_refl _) _
    have HVB := Lib.hid (Blk.new W12 61 #[.int .i64 ((objC c).srt : Nat), .bool (objC c).fl, .int .u64 ((objC c).bi : Nat), .string ⟨(objC c).tx.toArray⟩, .slice AI (objC c).kids.length cI, .slice AK (objC c).kn.length cK])
    replace HRV := Lib.hid (RdV.move (w' := (W12.alloc (.cells #[.int .i64 ((objC c).srt : Nat), .bool (objC c).fl, .int .u64 ((objC c).bi : Nat), .string ⟨(objC c).tx.toArray⟩, .slice AI (objC c).kids.length cI, .slice AK (objC c).kn.length cK] 61))) (S' := fun _ => True) (fun k hk hs => ⟨trivial, hb.block k hk⟩) _ _ HRV.out)
    replace HK := Lib.hid (HK.out.below hb)
    replace HTA := Lib.hid (HTA.out.below hb)
    clear hb
    go_wp2_with fail
    generalize (W12.alloc (.cells #[.int .i64 ((objC c).srt : Nat), .bool (objC c).fl, .int .u64 ((objC c).bi : Nat), .string ⟨(objC c).tx.toArray⟩, .slice AI (objC c).kids.length cI, .slice AK (objC c).kn.length cK] 61)) = W13 at *
    ((with_reducible refine (within_any (objC c) (kf_objC c) HN.out.1 HN.out.2 AI cI AK cK W13 HRV.out).mono ?_); rintro e W14 ⟨rfl, hb⟩)
    rw [show (objC c).fit = true from HFT.out]
    replace HRV := Lib.hid (RdV.move (w' := W14) (S' := fun _ => True) (fun k hk hs => ⟨trivial, hb.block k hk⟩) _ _ HRV.out)
    replace HVB := Lib.hid (HVB.out.below hb HVB.out.lt)
    replace HK := Lib.hid (HK.out.below hb)
    replace HTA := Lib.hid (HTA.out.below hb)
    clear hb
    have y0 := HVB.out.cell 0
    have y1 := HVB.out.cell 1
    have y2 := HVB.out.cell 2
    have y3 := HVB.out.cell 3
    have y4 := HVB.out.cell 4
    have y5 := HVB.out.cell 5
    simp at y0 y1 y2 y3 y4 y5
    go_wp2_with fail
    clear y0 y1 y2 y3 y4 y5
    ((with_reducible refine (lsteps_any (objC c) AI cI AK cK W14 (by have := (fit_le HFT.out).1; omega) (fun W' hs hb => rsteps_claims HM.out HFT.out AI cI AK cK W14.heap.size W' (by omega) (RdV.move (fun k hk _ => ⟨hk, hb.block k hk⟩) _ _ HRV.out) HCK.out)).mono ?_); rintro e W15 ⟨v15, rfl, hS15, hb⟩)
    have HS15 := Lib.hid hS15
    clear hS15
    replace HK := Lib.hid (HK.out.below hb)
    replace HTA := Lib.hid (HTA.out.below hb)
    clear hb
    go_wp2_with fail
    ((with_reducible refine (build_all v15 (stepsT (objC c)) W15 HS15.out (steps_fine (objC c) (objC_ok HM.out HFT.out) HFT.out)).mono ?_); rintro e W16 ⟨hb, he⟩)
    rw [build_steps (objC_ok HM.out HFT.out) HFT.out] at he
    obtain ⟨gu, rfl, hTU⟩ := he
    have HTU := Lib.hid hTU
    clear hTU
    replace HK := Lib.hid (HK.out.below hb)
    replace HTA := Lib.hid (HTA.out.below hb)
    clear hb
    go_wp2_with fail
    ((with_reducible refine (tsame_any _ _ gu gt (objC c) (objC c) W16 HTU.out HTA.out (objC_ok HM.out HFT.out) (objC_ok HM.out HFT.out)).mono ?_); rintro e W17 ⟨rfl, hb⟩)
    rw [eqT_refl (objC c) (objC_ok HM.out HFT.out)]
    replace HK := Lib.hid (HK.out.below hb)
    clear hb
    go_wp2
    go_ret
    exact ⟨rfl, HK.out.bel⟩
end Nd
end Go.Proofs.YtbcckpnngonoeaaGreatDoor
namespace Go.Proofs.YtbcckpnngonoeaaGreatDoor
open Go.RowKit Mem Utf Ref3 Tok Cl
namespace Nd
theorem nodes_texts : ∀ l : List Txt, nodesL (l.map Tr.text) = l.length
  | [] => by unfold nodesL; rfl
  | x :: l => by
    have := nodes_texts l
    rw [List.map_cons]
    unfold nodesL Tr.nodes
    rw [this, List.length_cons]
    omega
theorem bytes_texts (M : Nat) : ∀ l : List Txt, (∀ t ∈ l, t.length ≤ M) → bytesL (l.map Tr.text) ≤ l.length * M
  | [], _ => by unfold bytesL; exact Nat.zero_le _
  | x :: l, h => by
    have h1 := bytes_texts M l fun t ht => h t (List.mem_cons_of_mem _ ht)
    have h2 := h x List.mem_cons_self
    rw [List.map_cons]
    unfold bytesL Tr.bytes
    rw [List.length_cons, Nat.add_mul]
    omega
theorem nodes_filter (f : Nat → Tr) (p : Nat → Bool) : ∀ l : List Nat, nodesL ((l.filter p).map f) ≤ nodesL (l.map f)
  | [] => Nat.le_refl _
  | x :: l => by
    have h := nodes_filter f p l
    rw [List.filter_cons, List.map_cons]
    have e : ∀ (t : Tr) (r : List Tr), nodesL (t :: r) = t.nodes + nodesL r := fun t r => by rw [nodesL]
    split
    · rw [List.map_cons, e, e]
      omega
    · rw [e]
      omega
theorem bytes_filter (f : Nat → Tr) (p : Nat → Bool) : ∀ l : List Nat, bytesL ((l.filter p).map f) ≤ bytesL (l.map f)
  | [] => Nat.le_refl _
  | x :: l => by
    have h := bytes_filter f p l
    rw [List.filter_cons, List.map_cons]
    have e : ∀ (t : Tr) (r : List Tr), bytesL (t :: r) = t.bytes + bytesL r := fun t r => by rw [bytesL]
    split
    · rw [List.map_cons, e, e]
      omega
    · rw [e]
      omega
theorem lens_filter (f : Nat → Txt) (p : Nat → Bool) : ∀ l : List Nat, lens ((l.filter p).map f) ≤ lens (l.map f)
  | [] => Nat.le_refl _
  | x :: l => by
    have h := lens_filter f p l
    rw [List.filter_cons, List.map_cons]
    have e : ∀ (t : Txt) (r : List Txt), lens (t :: r) = t.length + lens r := fun t r => by rw [lens]
    split
    · rw [List.map_cons, e, e]
      omega
    · rw [e]
      omega
theorem objC_nodes {c : C} (h : SzQ c) : (objC c).nodes ≤ 1099511627776 := by
  have h0 := nodes_filter (valK c) (fun j => is c j) (List.range 8)
  have e : nodesL ((List.range 8).map (valK c)) = 1 + (1 + (1 + ((1 + c.for_.length) + (1 + (1 + ((1 + c.may_.length) + (1 + 0))))))) := by
    show nodesL [.text c.about, .num _, .text c.by_, .list (c.for_.map .text), .num _, .text c.id_, .list (c.may_.map .text), .num _] = _
    simp only [nodesL, Tr.nodes, nodes_texts]
  have e2 : (objC c).nodes = 1 + nodesL ((placesK c 8).map (valK c)) := by unfold objC; rw [Tr.nodes]
  have := h.nfor
  have := h.nmay
  rw [e2]
  unfold placesK
  omega
theorem objC_bytes {c : C} (h : SzQ c) : (objC c).bytes ≤ 4398046511104 := by
  have h0 := bytes_filter (valK c) (fun j => is c j) (List.range 8)
  have h1 := lens_filter key (fun j => is c j) (List.range 8)
  have e : bytesL ((List.range 8).map (valK c)) = c.about.length + (0 + (c.by_.length + (bytesL (c.for_.map .text) + (0 + (c.id_.length + (bytesL (c.may_.map .text) + (0 + 0))))))) := by
    show bytesL [.text c.about, .num _, .text c.by_, .list (c.for_.map .text), .num _, .text c.id_, .list (c.may_.map .text), .num _] = _
    simp only [bytesL, Tr.bytes]
  have e2 : (objC c).bytes = lens ((placesK c 8).map key) + bytesL ((placesK c 8).map (valK c)) := by unfold objC; rw [Tr.bytes]
  have e3 : lens ((List.range 8).map key) ≤ 100 := by decide
  have f1 := bytes_texts 1048576 c.for_ h.for_
  have f2 := bytes_texts 1048576 c.may_ h.may_
  have g1 : c.for_.length * 1048576 ≤ 1048576 * 1048576 := Nat.mul_le_mul_right _ h.nfor
  have g2 : c.may_.length * 1048576 ≤ 1048576 * 1048576 := Nat.mul_le_mul_right _ h.nmay
  have := h.about
  have := h.by_
  have := h.id_
  rw [e2]
  unfold placesK
  omega
end Nd
end Go.Proofs.YtbcckpnngonoeaaGreatDoor
