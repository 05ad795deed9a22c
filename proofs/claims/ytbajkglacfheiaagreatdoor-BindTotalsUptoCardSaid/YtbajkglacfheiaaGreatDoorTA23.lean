/-
  Walks of the reference of layer 10: Size, Within. Walks of the reference of layer 10: ordered.
-/
import Derived.Test.YtbajkglacfheiaaGreatDoorTA22
import Derived.Test.YtbajkglacfheiaaGreatDoorTA9
import Derived.BigQuiet
set_option linter.unusedVariables false
set_option maxRecDepth 100000
set_option maxHeartbeats 16000000
namespace Go.Proofs.YtbajkglacfheiaaGreatDoor
open Go.RowKit Mem
namespace Nd
abbrev RdVA (w : World) (t : Tr) (x : X4) : Prop := RdV (fun _ => True) w t x
theorem rdva_below {w w' : World} {t : Tr} {x : X4} (h : RdVA w t x) (hb : Below w.heap.size w w') : RdVA w' t x := RdV.move (fun j hj hs => ⟨trivial, hb.block j hj⟩) _ _ h
theorem RdV.toA {S : Nat → Prop} {w : World} {t : Tr} {x : X4} (h : RdV S w t x) : RdVA w t x := RdV.move (fun j hj hs => ⟨trivial, rfl⟩) _ _ h
theorem CellsV.below {w w' : World} {g o : Nat} {t : Tr} {x : X4} (h : CellsV w g o t x) (hb : Below w.heap.size w w') : CellsV w' g o t x := by
 have hlt : g < w.heap.size := World.block_lt_of_cell? w _ h.c0
 have ho := (old hb).1
 exact ⟨(ho _ _ hlt).trans h.c0, (ho _ _ hlt).trans h.c1, (ho _ _ hlt).trans h.c2, (ho _ _ hlt).trans h.c3, (ho _ _ hlt).trans h.c4, (ho _ _ hlt).trans h.c5⟩
theorem kids_nodes (t : Tr) : t.nodes = 1 + nodesL t.kids := by
 cases t <;> simp [Tr.nodes, Tr.kids, nodesL]
theorem kids_bytes (t : Tr) : t.bytes = t.tx.length + lens t.kn + bytesL t.kids := by
 cases t <;> simp [Tr.bytes, Tr.kids, Tr.kn, Tr.tx, bytesL, lens]
theorem kids_depth (t : Tr) : t.depth = depthL t.kids + 1 := by
 cases t <;> simp [Tr.depth, Tr.kids, depthL]
theorem sums_snoc (l : List Tr) (k : Nat) (h : k < l.length) : nodesL (l.take (k + 1)) = nodesL (l.take k) + l[k].nodes ∧ bytesL (l.take (k + 1)) = bytesL (l.take k) + l[k].bytes ∧ depthL (l.take (k + 1)) = max (depthL (l.take k)) l[k].depth := by
 rw [List.take_succ_eq_append_getElem h, nodesL_app, bytesL_app, depthL_app]
 simp [nodesL, bytesL, depthL]
theorem sums_to (l : List Tr) (k : Nat) : nodesL (l.take k) ≤ nodesL l ∧ bytesL (l.take k) ≤ bytesL l := by
 have h1 := nodesL_app (l.take k) (l.drop k)
 have h2 := bytesL_app (l.take k) (l.drop k)
 rw [List.take_append_drop] at h1 h2
 omega
mutual
def Tr.Kf : Tr → Prop
 | .list l => KfL l
 | .obj ks l => ks.length ≤ l.length ∧ KfL l
 | _ => True
def KfL : List Tr → Prop
 | [] => True
 | t :: l => t.Kf ∧ KfL l
end
theorem kfl_iff : ∀ l : List Tr, KfL l ↔ ∀ t ∈ l, t.Kf
 | [] => by unfold KfL; simp
 | t :: l => by
  unfold KfL
  rw [kfl_iff l]
  simp
theorem Tr.Kf.kids {t : Tr} (h : t.Kf) : t.kn.length ≤ t.kids.length ∧ ∀ x ∈ t.kids, x.Kf := by
 cases t with
 | list l =>
  unfold Tr.Kf at h
  exact ⟨Nat.zero_le _, (kfl_iff l).1 h⟩
 | obj ks l =>
  unfold Tr.Kf at h
  exact ⟨h.1, (kfl_iff l).1 h.2⟩
 | _ => exact ⟨Nat.le_refl _, fun x hx => by cases hx⟩
theorem nodes_one (t : Tr) : 1 ≤ t.nodes := by
 rw [kids_nodes]
 omega
theorem nodesL_len : ∀ l : List Tr, l.length ≤ nodesL l
 | [] => Nat.le_refl _
 | t :: l => by
  have := nodesL_len l
  have := nodes_one t
  simp only [List.length_cons, nodesL]
  omega
theorem results_tmp3 {fn : Func} {t u v : Tmp} (h : fn.results = #[.tmp t, .tmp u, .tmp v]) (tmps : Array Value) (P : Program) (w : World) :
  (results fn tmps).run P w = .ok (.tuple #[tmps.getD t undef, tmps.getD u undef, tmps.getD v undef]) w := by simp [results, h]
def SizeV (t : Tr) (w : World) (e : Ending) (w' : World) : Prop := e = .returned (.tuple #[.int .i64 (t.nodes : Int), .int .i64 (t.bytes : Int), .int .i64 (t.depth : Int)]) ∧ Below w.heap.size w w'
theorem depth_nodes : ∀ t : Tr, t.depth ≤ t.nodes := by
 intro t
 induction t using Tr.ind with
 | h0 => decide
 | h1 b => exact Nat.le_refl _
 | h2 b => exact Nat.le_refl _
 | h3 b => exact Nat.le_refl _
 | h4 l ih =>
  have : depthL l ≤ nodesL l := by
   induction l with
   | nil => exact Nat.le_refl _
   | cons x l ihl =>
    have h1 := ih x (by simp)
    have h2 := ihl fun y hy => ih y (by simp [hy])
    simp only [depthL, nodesL]
    omega
  simp only [Tr.depth, Tr.nodes]
  omega
 | h5 ks l ih =>
  have : depthL l ≤ nodesL l := by
   induction l with
   | nil => exact Nat.le_refl _
   | cons x l ihl =>
    have h1 := ih x (by simp)
    have h2 := ihl fun y hy => ih y (by simp [hy])
    simp only [depthL, nodesL]
    omega
  simp only [Tr.depth, Tr.nodes]
  omega
theorem size_step (t : Tr) (A : Option Addr) (c : Nat) (K : Option Addr) (d : Nat) (w : World) (h : RdVA w t ((A, c), (K, d))) (hn : t.nodes ≤ 1099511627776) (hb : t.bytes ≤ 4398046511104) (hkf : t.Kf)
  (ih : ∀ x ∈ t.kids, ∀ (A : Option Addr) (c : Nat) (K : Option Addr) (d : Nat) (w : World), RdVA w x ((A, c), (K, d)) → x.Kf → x.nodes ≤ 1099511627776 → x.bytes ≤ 4398046511104 → Calls Tryz.prog 204 #[valV x A c K d] w (SizeV x w)) :
  Calls Tryz.prog 204 #[valV t A c K d] w (SizeV t w) := by
 have hkn := kids_nodes t
 have hkl : t.kids.length ≤ 1099511627776 := by have := nodesL_len t.kids; omega
 have hnl : t.kn.length ≤ 1099511627776 := by have := hkf.kids.1; omega
 have HKF := Lib.hid hkf.kids.2
 have hkb := kids_bytes t
 have hkd := kids_depth t
 have hB := Blk.new w 79 #[.int .i64 (t.srt : Nat), .bool t.fl, .int .u64 (t.bi : Nat), .string ⟨t.tx.toArray⟩, .slice A t.kids.length c, .slice K t.kn.length d]
 have hba : Below w.heap.size w (w.alloc (.cells #[.int .i64 (t.srt : Nat), .bool t.fl, .int .u64 (t.bi : Nat), .string ⟨t.tx.toArray⟩, .slice A t.kids.length c, .slice K t.kn.length d] 79)) := (Below.refl _ _).alloc (Nat.le_refl _) _
 have hbox : CellsV (w.alloc (.cells #[.int .i64 (t.srt : Nat), .bool t.fl, .int .u64 (t.bi : Nat), .string ⟨t.tx.toArray⟩, .slice A t.kids.length c, .slice K t.kn.length d] 79)) w.heap.size 0 t ((A, c), (K, d)) := ⟨hB.cell 0, hB.cell 1, hB.cell 2, hB.cell 3, hB.cell 4, hB.cell 5⟩
 have hrd := rdva_below h hba
 have HHN := Lib.hid hn
 have HHB := Lib.hid hb
 have HKN := Lib.hid hkn
 have HKB := Lib.hid hkb
 have HKD := Lib.hid hkd
 have HIH := Lib.hid ih
 have HDN := Lib.hid (depth_nodes t)
 clear h hn hb hkn hkb hkd ih hB hkf
 go_enter Tryz.func204, Tryz.ntmps204
 go_upto_region 1 with fail
 generalize w.alloc (.cells #[.int .i64 (t.srt : Nat), .bool t.fl, .int .u64 (t.bi : Nat), .string ⟨t.tx.toArray⟩, .slice A t.kids.length c, .slice K t.kn.length d] 79) = w1 at *
 have c3 : w1.cell? ⟨w.heap.size, 3, none⟩ = some (.string ⟨t.tx.toArray⟩) := hbox.c3
 have hrd2 : ∀ n, RdVA (w1.drewN n) t ((A, c), (K, d)) := fun n => rdva_below hrd (drewN_below _ _)
 have hbox2 : ∀ n, CellsV (w1.drewN n) w.heap.size 0 t ((A, c), (K, d)) := fun n => hbox.below (drewN_below _ _)
 have hba2 : ∀ n, Below w.heap.size w (w1.drewN n) := fun n => hba.trans (drewN_below _ _)
 have HRD := Lib.hid hrd2
 have HBOX := Lib.hid hbox2
 have HBA := Lib.hid hba2
 clear hrd hbox hba hrd2 hbox2 hba2
 go_quiet (fail)
 have hrd := HRD.out nq
 have hbox := HBOX.out nq
 have hba := HBA.out nq
 clear HRD HBOX HBA c3
 generalize w1.drewN nq = W at *
 obtain ⟨b0, b1, b2, b3, b4, b5⟩ := hbox
 have HBOX : Hid (CellsV W w.heap.size 0 t ((A, c), (K, d))) := Lib.hid ⟨b0, b1, b2, b3, b4, b5⟩
 simp only [Nat.zero_add] at b0 b1 b2 b3 b4 b5
 have HRD := Lib.hid hrd
 have HBA := Lib.hid hba
 clear hrd hba b0 b1 b2
 go_wp2_with fail
 go_loop [6, 8] (fun c6 c8 => ∃ k : Nat, k ≤ t.kn.length ∧ c8 = .int .i64 k ∧ c6 = .int .i64 ((t.tx.length + lens (t.kn.take k) : Nat) : Int)) (fun _ c8 => t.kn.length - (intOf c8).toNat)
 case atStart => exact ⟨0, Nat.zero_le _, rfl, by simp [lens]⟩
 case round =>
  obtain ⟨k, hk, rfl, rfl⟩ := hrel
  by_cases hlt : k < t.kn.length
  ·obtain ⟨g, o, rfl, _, hc⟩ := keys_at HRD.out.keys hlt
   have hsn := lens_snoc t.kn k hlt
   have hle := lens_le t.kn (k + 1)
   have hbd := HHB.out
   have hkb := HKB.out
   obtain ⟨S, hS⟩ : ∃ S, t.tx.length + lens (t.kn.take k) = S := ⟨_, rfl⟩
   have hS2 : t.tx.length + lens (t.kn.take (k + 1)) = S + t.kn[k].length := by omega
   have hS3 : IntKind.i64.wrap ((S : Int) + (t.kn[k].length : Int)) = ((S + t.kn[k].length : Nat) : Int) := by rw [IntWalk.i64_in _ (by omega)]; omega
   have HS2 := Lib.hid hS2
   rw [hS]
   clear hsn hle hbd hkb hS hS2
   generalize t.kn[k] = y at *
   go_wp2
   go_round
   case rel => exact ⟨k + 1, by omega, by go_num, by rw [HS2.out]; exact congrArg _ (by omega)⟩
   case measure => simp [intOf]; omega
  ·obtain rfl : k = t.kn.length := by omega
   rw [List.take_of_length_le (Nat.le_refl _)]
   obtain ⟨S0, hS0⟩ : ∃ S0, t.tx.length + lens t.kn = S0 := ⟨_, rfl⟩
   rw [hS0]
   have HS0 := Lib.hid hS0
   clear hS0
   go_wp2
   go_loopw [5, 6, 7, 9] (fun c5 c6 c7 c9 wr => ∃ (k N B D : Nat), k ≤ t.kids.length ∧ c9 = .int .i64 k ∧ c5 = .int .i64 N ∧ c6 = .int .i64 B ∧ c7 = .int .i64 D ∧ Hid (N = 1 + nodesL (t.kids.take k) ∧ B = S0 + bytesL (t.kids.take k) ∧ D = depthL (t.kids.take k)) ∧ Hid (Below W.heap.size W wr)) (fun _ _ _ c9 _ => t.kids.length - (intOf c9).toNat)
   case atStart => exact ⟨0, 1, S0, 0, Nat.zero_le _, rfl, rfl, rfl, rfl, Lib.hid ⟨by simp [nodesL], by simp [bytesL], by simp [depthL]⟩, Lib.hid (Below.refl _ _)⟩
   case round =>
    obtain ⟨k, N, B, D, hk, rfl, rfl, rfl, rfl, HS, HB⟩ := hrel
    obtain ⟨b0, b1, b2, b3, b4, b5⟩ := HBOX.out.below HB.out
    simp only [Nat.zero_add] at b0 b1 b2 b3 b4 b5
    clear b0 b1 b2 b3 b5
    by_cases hlt : k < t.kids.length
    ·obtain ⟨xs, hC, hL⟩ := (rdva_below HRD.out HB.out).kids
     obtain ⟨g, o, x, rfl, _, _, hcl, hrx⟩ := cells_at hC hL hlt
     obtain ⟨⟨A', c'⟩, K', d'⟩ := x
     have hsn := sums_snoc t.kids k hlt
     have hto := sums_to t.kids (k + 1)
     have hkn := HKN.out
     have hkb := HKB.out
     have hhn := HHN.out
     have hhb := HHB.out
     have hkx := HKF.out _ (List.getElem_mem hlt)
     have hix := HIH.out _ (List.getElem_mem hlt)
     have hdx := depth_nodes t.kids[k]
     clear hC hL
     generalize t.kids[k] = y at *
     obtain ⟨e0, e1, e2, e3, e4, e5⟩ := hcl
     have hS := HS.out
     have hS0 := HS0.out
     have hDN : D ≤ N := by
      have h1 : depthL (t.kids.take k) ≤ nodesL (t.kids.take k) := by
       have := depth_nodes (.list (t.kids.take k))
       simp only [Tr.depth, Tr.nodes] at this
       omega
      omega
     have hq1 : N + y.nodes ≤ 1099511627776 := by omega
     have hq2 : B + y.bytes ≤ 4398046511104 := by omega
     have HNX : Hid (N + y.nodes = 1 + nodesL (t.kids.take (k + 1)) ∧ B + y.bytes = S0 + bytesL (t.kids.take (k + 1)) ∧ max D y.depth = depthL (t.kids.take (k + 1))) := Lib.hid (by omega)
     have HC := Lib.hid (hix A' c' K' d' wr hrx hkx (by omega) (by omega))
     clear hsn hto hkn hkb hhn hhb hkx hix hS hS0 hrx
     simp only at e4 e5
     go_wp2_with fail
     refine HC.out.mono ?_
     rintro e w2 ⟨rfl, hb2⟩
     have HB2 : Hid (Below W.heap.size W w2) := Lib.hid (HB.out.trans (hb2.mono HB.out.size))
     clear hb2 e0 e1 e2 e3 e4 e5 HC
     generalize y.nodes = N2 at *
     generalize y.bytes = B2 at *
     generalize y.depth = D2 at *
     by_cases hD : D < D2
     ·have hd : ((D : Int) < (D2 : Int)) = True := eq_true (by omega)
      have HM : Hid (max D D2 = D2) := Lib.hid (by omega)
      clear hD
      go_wp2
      go_roundw
      case rel => exact ⟨k + 1, N + N2, B + B2, D2, by omega, by go_num, by go_num, by go_num, rfl, by rw [HM.out] at HNX; exact HNX, HB2⟩
      case measure => simp [intOf]; omega
     ·have hd : ((D : Int) < (D2 : Int)) = False := eq_false (by omega)
      have HM : Hid (max D D2 = D) := Lib.hid (by omega)
      clear hD
      go_wp2
      go_roundw
      case rel => exact ⟨k + 1, N + N2, B + B2, D, by omega, by go_num, by go_num, by go_num, rfl, by rw [HM.out] at HNX; exact HNX, HB2⟩
      case measure => simp [intOf]; omega
    ·obtain rfl : k = t.kids.length := by omega
     rw [List.take_of_length_le (Nat.le_refl _)] at HS
     have hS := HS.out
     have hS0 := HS0.out
     have hkn := HKN.out
     have hkb := HKB.out
     have hkd := HKD.out
     have hdn := HDN.out
     have hhn := HHN.out
     have hr1 : N = t.nodes := by omega
     have hr2 : B = t.bytes := by omega
     have hr3 : D + 1 = t.depth := by omega
     have hDb : D ≤ 1099511627776 := by omega
     have HR := Lib.hid (And.intro hr1 (And.intro hr2 hr3))
     clear hS hS0 hkn hkb hkd hdn hhn hr1 hr2 hr3
     go_wp2
     refine bodyPost_ret (results_tmp3 (t := 2) (u := 3) (v := 4) rfl _ _ _) rfl ⟨?_, HBA.out.trans (HB.out.mono HBA.out.size)⟩
     rw [← HR.out.1, ← HR.out.2.1, ← HR.out.2.2]
     rfl
theorem size_any (t : Tr) : t.Kf → t.nodes ≤ 1099511627776 → t.bytes ≤ 4398046511104 → ∀ (A : Option Addr) (c : Nat) (K : Option Addr) (d : Nat) (w : World), RdVA w t ((A, c), (K, d)) → Calls Tryz.prog 204 #[valV t A c K d] w (SizeV t w) := by
 induction t using Tr.ind with
 | h0 => exact fun hk hn hb A c K d w h => size_step _ A c K d w h hn hb hk fun x hx => by cases hx
 | h1 b => exact fun hk hn hb A c K d w h => size_step _ A c K d w h hn hb hk fun x hx => by cases hx
 | h2 b => exact fun hk hn hb A c K d w h => size_step _ A c K d w h hn hb hk fun x hx => by cases hx
 | h3 b => exact fun hk hn hb A c K d w h => size_step _ A c K d w h hn hb hk fun x hx => by cases hx
 | h4 l ih => exact fun hk hn hb A c K d w h => size_step _ A c K d w h hn hb hk fun x hx A c K d w h hk hn hb => ih x hx hk hn hb A c K d w h
 | h5 ks l ih => exact fun hk hn hb A c K d w h => size_step _ A c K d w h hn hb hk fun x hx A c K d w h hk hn hb => ih x hx hk hn hb A c K d w h
theorem within_any (t : Tr) (hk : t.Kf) (hn : t.nodes ≤ 1099511627776) (hb : t.bytes ≤ 4398046511104) (A : Option Addr) (c : Nat) (K : Option Addr) (d : Nat) (w : World) (h : RdVA w t ((A, c), (K, d))) :
  Calls Tryz.prog 173 #[valV t A c K d] w fun e w' => e = .returned (.bool t.fit) ∧ Below w.heap.size w w' := by
 have hba : Below w.heap.size w (w.alloc (.cells #[.int .i64 (t.srt : Nat), .bool t.fl, .int .u64 (t.bi : Nat), .string ⟨t.tx.toArray⟩, .slice A t.kids.length c, .slice K t.kn.length d] 79)) := (Below.refl _ _).alloc (Nat.le_refl _) _
 have HC := Lib.hid (size_any t hk hn hb A c K d _ (rdva_below h hba))
 have HBA := Lib.hid hba
 clear hk hn hb h hba
 obtain ⟨p1, h1⟩ : ∃ p, decide (t.nodes ≤ 65536) = p := ⟨_, rfl⟩
 obtain ⟨p2, h2⟩ : ∃ p, decide (t.bytes ≤ 2097152) = p := ⟨_, rfl⟩
 obtain ⟨p3, h3⟩ : ∃ p, decide (t.depth ≤ 512) = p := ⟨_, rfl⟩
 have HF : Hid (t.fit = (p1 && p2 && p3)) := Lib.hid (by rw [← h1, ← h2, ← h3]; rfl)
 have g1 : decide ((t.nodes : Int) ≤ 65536) = p1 := by rw [← h1]; exact decide_eq_decide.2 (by omega)
 have g2 : decide ((t.bytes : Int) ≤ 2097152) = p2 := by rw [← h2]; exact decide_eq_decide.2 (by omega)
 have g3 : decide ((t.depth : Int) ≤ 512) = p3 := by rw [← h3]; exact decide_eq_decide.2 (by omega)
 clear h1 h2 h3
 go_enter Tryz.func173, Tryz.ntmps173
 go_wp2_with fail
 refine HC.out.mono ?_
 rintro e w2 ⟨rfl, hb2⟩
 have HB2 := Lib.hid (HBA.out.trans (hb2.mono HBA.out.size))
 clear hb2 HC
 cases p1 with
 | false =>
  go_wp2
  go_ret
  exact ⟨by rw [HF.out]; rfl, HB2.out⟩
 | true =>
  cases p2 with
  | false =>
   go_wp2
   go_ret
   exact ⟨by rw [HF.out]; rfl, HB2.out⟩
  | true =>
   cases p3 with
   | false =>
    go_wp2
    go_ret
    exact ⟨by rw [HF.out]; rfl, HB2.out⟩
   | true =>
    go_wp2
    go_ret
    exact ⟨by rw [HF.out]; rfl, HB2.out⟩
end Nd
end Go.Proofs.YtbajkglacfheiaaGreatDoor
namespace Go.Proofs.YtbajkglacfheiaaGreatDoor
open Go.RowKit Mem Ref3
namespace Nd
abbrev E7 := M2 × X4
def cell7 (e : E7) : List Value := txV e.1.1 :: cellV e.1.2 e.2
def cells7 (es : List E7) : List Value := es.flatMap cell7
theorem cell7_len (e : E7) : (cell7 e).length = 7 := rfl
theorem cells7_len (es : List E7) : (cells7 es).length = es.length * 7 := by
 induction es with
 | nil => rfl
 | cons e es ih =>
  unfold cells7 at ih ⊢
  rw [List.flatMap_cons, List.length_append, ih, cell7_len, List.length_cons]
  omega
theorem cells7_at : ∀ (es : List E7) (j : Nat) (e : E7), es[j]? = some e → ∀ i, i < 7 → (cells7 es)[j * 7 + i]? = (cell7 e)[i]?
 | [], j, e, h, i, hi => by simp at h
 | x :: es, 0, e, h, i, hi => by
  simp at h
  subst h
  unfold cells7
  rw [List.flatMap_cons, Nat.zero_mul, Nat.zero_add, List.getElem?_append_left (by rw [cell7_len]; omega)]
 | x :: es, j + 1, e, h, i, hi => by
  have ih := cells7_at es j e (by simpa using h) i hi
  unfold cells7 at ih ⊢
  rw [List.flatMap_cons, List.getElem?_append_right (by rw [cell7_len]; omega), ← ih, cell7_len]
  congr 1
  omega
theorem cells7_snoc (es : List E7) (e : E7) : cells7 (es ++ [e]) = cells7 es ++ cell7 e := by
 unfold cells7
 rw [List.flatMap_append]
 simp
theorem cells7_drop : ∀ (k : Nat) (es : List E7), cells7 (es.drop k) = (cells7 es).drop (k * 7)
 | 0, es => by simp
 | k + 1, [] => by simp [cells7]
 | k + 1, e :: es => by
  have := cells7_drop k es
  unfold cells7 at this ⊢
  rw [List.drop_succ_cons, this, List.flatMap_cons, List.drop_append, cell7_len, show (k + 1) * 7 - 7 = k * 7 from by omega]
  rw [show (cell7 e).drop ((k + 1) * 7) = [] from List.drop_eq_nil_of_le (by rw [cell7_len]; omega), List.nil_append]
theorem cells7_take : ∀ (k : Nat) (es : List E7), cells7 (es.take k) = (cells7 es).take (k * 7)
 | 0, es => by simp [cells7]
 | k + 1, [] => by simp [cells7]
 | k + 1, e :: es => by
  have := cells7_take k es
  unfold cells7 at this ⊢
  rw [List.take_succ_cons, List.flatMap_cons, this, List.flatMap_cons, List.take_append, cell7_len, show (k + 1) * 7 - 7 = k * 7 from by omega]
  rw [show (cell7 e).take ((k + 1) * 7) = cell7 e from List.take_of_length_le (by rw [cell7_len]; omega)]
theorem cell7_one (e : E7) : ∀ u ∈ cell7 e, u.oneCell' = true := by
 intro u hu
 rcases List.mem_cons.1 hu with rfl | hu
 ·rfl
 ·exact cellV_one _ _ u hu
structure RdM (S : Nat → Prop) (w : World) (A : Option Addr) (n c : Nat) (es : List E7) : Prop where
 len : es.length = n
 cap : n ≤ c
 cells : Cells (fun _ => True) w A (cells7 es)
 vals : ∀ e ∈ es, RdV S w e.1.2 e.2
theorem RdM.below {S : Nat → Prop} {w w' : World} {A : Option Addr} {n c : Nat} {es : List E7} (h : RdM S w A n c es) (hb : Below w.heap.size w w') : RdM S w' A n c es :=
 ⟨h.len, h.cap, h.cells.move fun k hk hs => ⟨trivial, hb.block k hk⟩, fun e he => RdV.move (fun k hk hs => ⟨hs, hb.block k hk⟩) _ _ (h.vals e he)⟩
theorem cells7_some {w : World} {A : Option Addr} {es : List E7} (h : Cells (fun _ => True) w A (cells7 es)) (hp : 0 < es.length) : ∃ g o, A = some ⟨g, o, none⟩ ∧ ∀ i u, (cells7 es)[i]? = some u → w.cell? ⟨g, o + i, none⟩ = some u := by
 rcases h with h | ⟨g, o, hA, _, hc⟩
 ·have := cells7_len es
  rw [h] at this
  simp at this
  omega
 ·exact ⟨g, o, hA, hc⟩
theorem RdM.next {S : Nat → Prop} {W : World} {g o c n : Nat} {e : E7} {es : List E7} (h : RdM S W (some ⟨g, o, none⟩) n c (e :: es)) : RdM S W (if c = 1 then some ⟨g, o, none⟩ else some ⟨g, o + 7, none⟩) (n - 1) (c - 1) es := by
 have hl := h.len
 have hc := h.cap
 simp only [List.length_cons] at hl
 refine ⟨by omega, by omega, ?_, fun x hx => h.vals x (by simp [hx])⟩
 obtain ⟨g', o', e', hcell⟩ := cells7_some h.cells (by simp)
 injection e' with e'
 injection e' with e1 e2 _
 subst e1 e2
 by_cases h1 : c = 1
 ·have : es = [] := List.length_eq_zero_iff.1 (by omega)
  subst this
  exact .inl rfl
 ·rw [if_neg h1]
  refine .inr ⟨g, o + 7, rfl, trivial, fun i u hi => ?_⟩
  rw [Nat.add_assoc]
  refine hcell (7 + i) u ?_
  have e1 : cells7 (e :: es) = cell7 e ++ cells7 es := by unfold cells7; rw [List.flatMap_cons]
  rw [e1, List.getElem?_append_right (by rw [cell7_len]; omega), cell7_len]
  rw [show 7 + i - 7 = i from by omega]
  exact hi
structure Cell7At (w : World) (g o : Nat) (k : Tx) (t : Tr) (A : Option Addr) (c : Nat) (K : Option Addr) (d : Nat) : Prop where
 c0 : w.cell? ⟨g, o, none⟩ = some (.string ⟨k.toArray⟩)
 c1 : w.cell? ⟨g, o + 1, none⟩ = some (.int .i64 (t.srt : Nat))
 c2 : w.cell? ⟨g, o + 2, none⟩ = some (.bool t.fl)
 c3 : w.cell? ⟨g, o + 3, none⟩ = some (.int .u64 (t.bi : Nat))
 c4 : w.cell? ⟨g, o + 4, none⟩ = some (.string ⟨t.tx.toArray⟩)
 c5 : w.cell? ⟨g, o + 5, none⟩ = some (.slice A t.kids.length c)
 c6 : w.cell? ⟨g, o + 6, none⟩ = some (.slice K t.kn.length d)
theorem Cell7At.below {w w' : World} {g o : Nat} {k : Tx} {t : Tr} {A : Option Addr} {c : Nat} {K : Option Addr} {d : Nat} (h : Cell7At w g o k t A c K d) (hb : Below w.heap.size w w') : Cell7At w' g o k t A c K d := by
 have hlt : g < w.heap.size := World.block_lt_of_cell? w _ h.c0
 have ho := (old hb).1
 exact ⟨(ho _ _ hlt).trans h.c0, (ho _ _ hlt).trans h.c1, (ho _ _ hlt).trans h.c2, (ho _ _ hlt).trans h.c3, (ho _ _ hlt).trans h.c4, (ho _ _ hlt).trans h.c5, (ho _ _ hlt).trans h.c6⟩
theorem cells7_cell {w : World} {g o : Nat} {es : List E7} (hc : ∀ i u, (cells7 es)[i]? = some u → w.cell? ⟨g, o + i, none⟩ = some u) {j : Nat} {k : Tx} {t : Tr} {A : Option Addr} {c : Nat} {K : Option Addr} {d : Nat} (hj : es[j]? = some ((k, t), ((A, c), (K, d)))) : Cell7At w g (o + j * 7) k t A c K d := by
 have hi : ∀ i u, (cell7 ((k, t), ((A, c), (K, d))))[i]? = some u → i < 7 → w.cell? ⟨g, o + j * 7 + i, none⟩ = some u := fun i u hu hi => by
  rw [Nat.add_assoc]
  exact hc _ _ ((cells7_at es j _ hj i hi).trans hu)
 exact ⟨hi 0 _ rfl (by omega), hi 1 _ rfl (by omega), hi 2 _ rfl (by omega), hi 3 _ rfl (by omega), hi 4 _ rfl (by omega), hi 5 _ rfl (by omega), hi 6 _ rfl (by omega)⟩
theorem RdM.head {S : Nat → Prop} {W wr : World} {A : Option Addr} {c n : Nat} {k : Tx} {t : Tr} {A2 : Option Addr} {c2 : Nat} {K : Option Addr} {d : Nat} {es : List E7} (h : RdM S W A n c (((k, t), ((A2, c2), (K, d))) :: es)) (hb : Below W.heap.size W wr) : ∃ g o, A = some ⟨g, o, none⟩ ∧ Cell7At wr g o k t A2 c2 K d := by
 obtain ⟨g, o, hA, hc⟩ := cells7_some h.cells (by simp)
 have := cells7_cell hc (j := 0) rfl
 rw [Nat.zero_mul, Nat.add_zero] at this
 exact ⟨g, o, hA, this.below hb⟩
theorem own_cells7 {w : World} {B n c : Nat} {A : Option Addr} {es : List E7} (h : w.ownsRow B 357 7 (.slice A n c) n (cells7 es)) : es.length = n ∧ n ≤ c ∧ Cells (fun _ => True) w A (cells7 es) := by
 have hl := h.1
 rw [cells7_len] at hl
 rcases h.2 with ⟨hv, h0⟩ | ⟨g, cap, cur, hv, _, hg, hc, _, hs, ht⟩
 ·refine ⟨by omega, by omega, .inl ?_⟩
  have : es = [] := List.length_eq_zero_iff.1 (by omega)
  subst this
  rfl
 ·injection hv with hA _ h3
  refine ⟨by omega, by omega, .inr ⟨g, 0, hA, trivial, fun i u hi => ?_⟩⟩
  rw [cell_of_row w g _ cur _ _ hg, Nat.zero_add]
  have hil : i < n * 7 := by
   rcases Nat.lt_or_ge i (n * 7) with h | h
   ·exact h
   ·rw [List.getElem?_eq_none (by rw [cells7_len]; omega)] at hi
    cases hi
  rw [← ht, List.getElem?_take, if_pos hil] at hi
  simpa using hi
theorem info_mem : (Tryz.prog.info? 357).map (fun i => (i.zero, i.size, i.bytes)) = some (some (.agg #[.string ⟨#[]⟩, .int .i64 0, .bool false, .int .u64 0, .string ⟨#[]⟩, .slice none 0 0, .slice none 0 0]), 7, 104) := by kernel_rfl
abbrev fsts (es : List E7) : List M2 := es.map (·.1)
def OrdP (S : Nat → Prop) (es : List E7) (n : Nat) (w : World) (e : Ending) (w' : World) : Prop := (∃ A' c' es', e = .returned (.slice A' n c') ∧ RdM S w' A' n c' es' ∧ fsts es' = ordM (fsts es)) ∧ Below w.heap.size w w'
theorem ordered_few (S : Nat → Prop) (A : Option Addr) (n c : Nat) (es : List E7) (w : World) (h : RdM S w A n c es) (hn : n < 2) : Calls Tryz.prog 203 #[.slice A n c] w (OrdP S es n w) := by
 have hs : Hid (fsts es = ordM (fsts es)) := Lib.hid (ordM_few (by simp [h.len]; omega)).symm
 have H := Lib.hid h
 have hd : ((n : Int) < 2) = True := eq_true (by omega)
 clear h hn
 go_enter Tryz.func203, Tryz.ntmps203
 go_wp2
 go_ret
 exact ⟨⟨A, c, es, rfl, H.out, hs.out⟩, Below.refl _ _⟩
structure MrgM (S : Nat → Prop) (l : List M2) (W : World) (xs ys zs : List E7) (nx ny : Nat) (A B : Option Addr) (ca cb : Nat) (c5 : Value) (wr : World) : Prop where
 rx : RdM S W A nx ca xs
 ry : RdM S W B ny cb ys
 out : wr.ownsRow W.heap.size 357 7 c5 zs.length (cells7 zs)
 vals : ∀ e ∈ zs, RdV S W e.1.2 e.2
 bl : Below W.heap.size W wr
 eq : fsts zs ++ List.merge (fsts xs) (fsts ys) leM = ordM l
section
variable {S : Nat → Prop} {l : List M2} {W : World} {xs ys zs : List E7} {nx ny : Nat} {A B : Option Addr} {ca cb : Nat} {c5 : Value} {wr : World}
theorem MrgM.len (h : MrgM S l W xs ys zs nx ny A B ca cb c5 wr) : zs.length + (nx + ny) = l.length := by
 have h1 := congrArg List.length h.eq
 have h2 := h.rx.len
 have h3 := h.ry.len
 rw [List.length_append, ordM_len, (List.merge_perm_append leM).length_eq, List.length_append, List.length_map, List.length_map, List.length_map] at h1
 omega
theorem MrgM.mem (h : MrgM S l W xs ys zs nx ny A B ca cb c5 wr) {x : E7} (hx : x ∈ xs ∨ x ∈ ys) : x.1 ∈ l := by
 have h1 : x.1 ∈ ordM l := by
  rw [← h.eq, List.mem_append]
  right
  rw [(List.merge_perm_append leM).mem_iff, List.mem_append]
  exact hx.imp (fun h => List.mem_map.2 ⟨x, h, rfl⟩) (fun h => List.mem_map.2 ⟨x, h, rfl⟩)
 exact (ordM_perm l).mem_iff.1 h1
theorem MrgM.left {x : E7} {A' : Option Addr} {ca' : Nat} {c9 : Value} {wX w9 : World} {ob : Obj} (h : MrgM S l W (x :: xs) ys zs nx ny A B ca cb c5 wr) (hle : List.merge (fsts (x :: xs)) (fsts ys) leM = x.1 :: List.merge (fsts xs) (fsts ys) leM) (hX : Below wr.heap.size wr wX)
  (ho : w9.ownsRow W.heap.size 357 7 c9 (zs.length + 1) (cells7 zs ++ cell7 x)) (hg : (wX.alloc ob).grownBy w9 c5.ownBlock) (hr : RdM S W A' (nx - 1) ca' xs) : MrgM S l W xs ys (zs ++ [x]) (nx - 1) ny A' B ca' cb c9 w9 := by
 have hs := h.bl.size
 have hs2 := hX.size
 refine ⟨hr, h.ry, by rw [cells7_snoc]; simpa using ho, fun e he => ?_, ((h.bl.trans (hX.mono hs)).alloc (by omega) _).grown hg (by simp; omega) (fun g hg => own_base h.out g hg), ?_⟩
 ·rcases List.mem_append.1 he with he | he
  ·exact h.vals e he
  ·rw [List.mem_singleton] at he
   subst he
   exact h.rx.vals _ (by simp)
 ·rw [← h.eq, hle]
  simp
theorem MrgM.right {y : E7} {B' : Option Addr} {cb' : Nat} {c9 : Value} {wX w9 : World} {ob : Obj} (h : MrgM S l W xs (y :: ys) zs nx ny A B ca cb c5 wr) (hle : List.merge (fsts xs) (fsts (y :: ys)) leM = y.1 :: List.merge (fsts xs) (fsts ys) leM) (hX : Below wr.heap.size wr wX)
  (ho : w9.ownsRow W.heap.size 357 7 c9 (zs.length + 1) (cells7 zs ++ cell7 y)) (hg : (wX.alloc ob).grownBy w9 c5.ownBlock) (hr : RdM S W B' (ny - 1) cb' ys) : MrgM S l W xs ys (zs ++ [y]) nx (ny - 1) A B' ca cb' c9 w9 := by
 have hs := h.bl.size
 have hs2 := hX.size
 refine ⟨h.rx, hr, by rw [cells7_snoc]; simpa using ho, fun e he => ?_, ((h.bl.trans (hX.mono hs)).alloc (by omega) _).grown hg (by simp; omega) (fun g hg => own_base h.out g hg), ?_⟩
 ·rcases List.mem_append.1 he with he | he
  ·exact h.vals e he
  ·rw [List.mem_singleton] at he
   subst he
   exact h.ry.vals _ (by simp)
 ·rw [← h.eq, hle]
  simp
end
theorem mergeM_left {x : M2} {xs ys : List M2} (h : ys = [] ∨ ∃ y t, ys = y :: t ∧ leM x y = true) : List.merge (x :: xs) ys leM = x :: List.merge xs ys leM := by
 rcases h with rfl | ⟨y, t, rfl, h⟩
 ·rw [List.merge_right, List.merge_right]
 ·rw [List.cons_merge_cons, if_pos h]
theorem mergeM_right {y : M2} {xs ys : List M2} (h : xs = [] ∨ ∃ x t, xs = x :: t ∧ leM x y = false) : List.merge xs (y :: ys) leM = y :: List.merge xs ys leM := by
 rcases h with rfl | ⟨x, t, rfl, h⟩
 ·rw [List.nil_merge, List.nil_merge]
 ·rw [List.cons_merge_cons, if_neg (by simp [h])]
theorem ordered_more (S : Nat → Prop) (g o c n : Nat) (es : List E7) (w : World) (h2 : 2 ≤ n) (hr : RdM S w (some ⟨g, o, none⟩) n c es) (hok : ∀ m ∈ fsts es, rightB m.1 = true ∧ m.1.length ≤ 1099511627776) (hnd : ((fsts es).map (·.1)).Nodup) (hm : n ≤ 1048576)
  (ih : ∀ (A : Option Addr) (m q : Nat) (js : List E7) (W : World), m < n → RdM S W A m q js → (∀ m ∈ fsts js, rightB m.1 = true ∧ m.1.length ≤ 1099511627776) → ((fsts js).map (·.1)).Nodup → Calls Tryz.prog 203 #[.slice A m q] W (OrdP S js m W)) :
  Calls Tryz.prog 203 #[.slice (some ⟨g, o, none⟩) n c] w (OrdP S es n w) := by
 obtain ⟨i0, hi0, hz0, hz1, hz2⟩ := info_parts info_mem
 have hn := hr.len
 have hc := hr.cap
 obtain ⟨g', o', e', hcell⟩ := cells7_some hr.cells (by omega)
 injection e' with e'
 injection e' with e1 e2 _
 subst e1 e2
 obtain ⟨m, hm1, hm2, hm3⟩ : ∃ m, m = n / 2 ∧ m < n ∧ 0 < m := ⟨n / 2, rfl, by omega, by omega⟩
 have hq : IntKind.i64.wrap ((n : Int) / 2) = (m : Int) := by
  rw [IntWalk.i64_in _ (by omega)]
  omega
 have hcm : (c = m) = False := eq_false (by omega)
 have hk1 : RdM S w (some ⟨g, o, none⟩) m c (es.take m) := ⟨by rw [List.length_take]; omega, by omega, .inr ⟨g, o, rfl, trivial, fun i u hi => by
  rw [cells7_take, List.getElem?_take] at hi
  split at hi
  ·exact hcell i u hi
  ·cases hi⟩, fun e he => hr.vals e (List.mem_of_mem_take he)⟩
 have hk2 : RdM S w (some ⟨g, o + m * 7, none⟩) (n - m) (c - m) (es.drop m) := ⟨by rw [List.length_drop]; omega, by omega, .inr ⟨g, o + m * 7, rfl, trivial, fun i u hi => by
  rw [cells7_drop, List.getElem?_drop] at hi
  rw [Nat.add_assoc]
  exact hcell _ u hi⟩, fun e he => hr.vals e (List.mem_of_mem_drop he)⟩
 have ho1 : ∀ x ∈ fsts (es.take m), rightB x.1 = true ∧ x.1.length ≤ 1099511627776 := fun x hx => hok x (by
  obtain ⟨e, he, rfl⟩ := List.mem_map.1 hx
  exact List.mem_map.2 ⟨e, List.mem_of_mem_take he, rfl⟩)
 have ho2 : ∀ x ∈ fsts (es.drop m), rightB x.1 = true ∧ x.1.length ≤ 1099511627776 := fun x hx => hok x (by
  obtain ⟨e, he, rfl⟩ := List.mem_map.1 hx
  exact List.mem_map.2 ⟨e, List.mem_of_mem_drop he, rfl⟩)
 have happ : fsts (es.take m) ++ fsts (es.drop m) = fsts es := by rw [← List.map_append, List.take_append_drop]
 have hnd' := hnd
 rw [← happ, List.map_append, List.nodup_append] at hnd'
 have C1 := Lib.hid (fun W (hb : Below w.heap.size w W) => ih _ m c (es.take m) W hm2 (hk1.below hb) ho1 hnd'.1)
 have C2 := Lib.hid (fun W (hb : Below w.heap.size w W) => ih _ (n - m) (c - m) (es.drop m) W (by omega) (hk2.below hb) ho2 hnd'.2.1)
 have HOK := Lib.hid hok
 have HE : Hid (List.merge (ordM (fsts (es.take m))) (ordM (fsts (es.drop m))) leM = ordM (fsts es)) := Lib.hid (by
  rw [ordM_merge _ _ (by rw [happ]; exact hnd), happ])
 have HN : Hid ((fsts es).length = n) := Lib.hid (by rw [List.length_map]; exact hn)
 clear ho1 ho2 hk1 hk2 hr hcell hok ih hn hm1 hnd hnd' happ
 have hlt2 : ((n : Int) < 2) = False := eq_false (by omega)
 have hmc : ((m : Int) ≤ (c : Int)) = True := eq_true (by omega)
 have hmn : ((m : Int) ≤ (n : Int)) = True := eq_true (by omega)
 go_enter Tryz.func203, Tryz.ntmps203
 go_upto_region 3 with fail
 refine wp_region_held_drew (S := (fun w' => Below w.heap.size w w')) (by kernel_rfl) (drewN_below w 1) (fun hHeld => ?_)
 refine held_take (i := 0) (v := ?_) (some 10) rfl rfl (by kernel_rfl) (by kernel_rfl) (by kernel_rfl) (fun _ _ _ h => h) (Or.inl ⟨by rfl, ?_⟩) hHeld ?_
 rotate_left
 ·intro w hSw
  try dsimp only at hSw
  go_simp
  try with_reducible rfl
 simp only [Act.put, List.setIfInBounds_toArray, List.set_cons_zero, List.set_cons_succ]
 refine held_take (i := 1) (v := ?_) (some 11) rfl rfl (by kernel_rfl) (by kernel_rfl) (by kernel_rfl) (fun _ _ _ h => h) (Or.inl ⟨by rfl, ?_⟩) hHeld ?_
 rotate_left
 ·intro w hSw
  try dsimp only at hSw
  go_simp
  try with_reducible rfl
 simp only [Act.put, List.setIfInBounds_toArray, List.set_cons_zero, List.set_cons_succ]
 refine held_take (i := 2) (v := ?_) (some 12) rfl rfl (by kernel_rfl) (by kernel_rfl) (by kernel_rfl) (fun _ _ _ h => h) (Or.inl ⟨by rfl, ?_⟩) hHeld ?_
 rotate_left
 ·intro w hSw
  try dsimp only at hSw
  go_simp
  try with_reducible rfl
 simp only [Act.put, List.setIfInBounds_toArray, List.set_cons_zero, List.set_cons_succ]
 refine held_take (i := 3) (v := ?_) (some 13) rfl rfl (by kernel_rfl) (by kernel_rfl) (by kernel_rfl) (fun _ _ _ h => h) (Or.inl ⟨by rfl, ?_⟩) hHeld ?_
 rotate_left
 ·intro w hSw
  try dsimp only at hSw
  go_simp
  try with_reducible rfl
 simp only [Act.put, List.setIfInBounds_toArray, List.set_cons_zero, List.set_cons_succ]
 refine held_take (i := 4) (v := ?_) (some 14) rfl rfl (by kernel_rfl) (by kernel_rfl) (by kernel_rfl) (fun _ _ _ h => h) (Or.inl ⟨by rfl, ?_⟩) hHeld ?_
 rotate_left
 ·intro w hSw
  try dsimp only at hSw
  go_simp
  try with_reducible rfl
 simp only [Act.put, List.setIfInBounds_toArray, List.set_cons_zero, List.set_cons_succ]
 refine held_take (i := 6) (v := ?_) (some 16) rfl rfl (by kernel_rfl) (by kernel_rfl) (by kernel_rfl) (fun _ _ _ h => h) (Or.inl ⟨by rfl, ?_⟩) hHeld ?_
 rotate_left
 ·intro w hSw
  try dsimp only at hSw
  go_simp
  try with_reducible rfl
 simp only [Act.put, List.setIfInBounds_toArray, List.set_cons_zero, List.set_cons_succ]
 refine held_take (i := 7) (v := ?_) (some 17) rfl rfl (by kernel_rfl) (by kernel_rfl) (by kernel_rfl) (fun _ _ _ h => h) (Or.inl ⟨by rfl, ?_⟩) hHeld ?_
 rotate_left
 ·intro w hSw
  try dsimp only at hSw
  go_simp
  try with_reducible rfl
 simp only [Act.put, List.setIfInBounds_toArray, List.set_cons_zero, List.set_cons_succ]
 refine held_take (i := 8) (v := ?_) (some 18) rfl rfl (by kernel_rfl) (by kernel_rfl) (by kernel_rfl) (fun _ _ _ h => h) (Or.inl ⟨by rfl, ?_⟩) hHeld ?_
 rotate_left
 ·intro w hSw
  try dsimp only at hSw
  go_simp
  try with_reducible rfl
 simp only [Act.put, List.setIfInBounds_toArray, List.set_cons_zero, List.set_cons_succ]
 refine held_take (i := 9) (v := ?_) (some 19) rfl rfl (by kernel_rfl) (by kernel_rfl) (by kernel_rfl) (fun _ _ _ h => h) (Or.inl ⟨by rfl, ?_⟩) hHeld ?_
 rotate_left
 ·intro w hSw
  try dsimp only at hSw
  go_simp
  try with_reducible rfl
 simp only [Act.put, List.setIfInBounds_toArray, List.set_cons_zero, List.set_cons_succ]
 refine held_take (i := 10) (v := ?_) (some 20) rfl rfl (by kernel_rfl) (by kernel_rfl) (by kernel_rfl) (fun _ _ _ h => h) (Or.inl ⟨by rfl, ?_⟩) hHeld ?_
 rotate_left
 ·intro w hSw
  try dsimp only at hSw
  go_simp
  try with_reducible rfl
 simp only [Act.put, List.setIfInBounds_toArray, List.set_cons_zero, List.set_cons_succ]
 refine wpAnyH_ready (rs := [5]) (by kernel_rfl) (by simp) ?_
 refine AllReadyH.cons rfl (fun K hK => ?_) AllReadyH.nil
 go_simp
 go_at_call 203
 ((with_reducible refine (C1.out _ hHeld).mono ?_); rintro e w2 ⟨⟨A1, q1, es1, rfl, hoA, heA⟩, hb2⟩; dsimp only)
 replace hHeld := hHeld.trans (hb2.mono hHeld.size)
 refine hK.out _ _ hHeld (fun _ => ?_)
 clear hK K
 refine wpAnyH_ready (rs := [11]) (by kernel_rfl) (by simp) ?_
 refine AllReadyH.cons rfl (fun K hK => ?_) AllReadyH.nil
 go_simp
 go_at_call 203
 ((with_reducible refine (C2.out _ hHeld).mono ?_); rintro e w2 ⟨⟨A2, q2, es2, rfl, hoB, heB⟩, hb2⟩; dsimp only)
 replace hoA := hoA.below hb2
 replace hHeld := hHeld.trans (hb2.mono hHeld.size)
 refine hK.out _ _ hHeld (fun _ => ?_)
 clear hK K
 refine held_take (i := 12) (v := ?_) (some 3) rfl rfl (by kernel_rfl) (by kernel_rfl) (by kernel_rfl) (fun _ _ _ h => h) (Or.inl ⟨by rfl, ?_⟩) hHeld ?_
 rotate_left
 ·intro w hSw
  try dsimp only at hSw
  go_simp
  try with_reducible rfl
 simp only [Act.put, List.setIfInBounds_toArray, List.set_cons_zero, List.set_cons_succ]
 refine held_take (i := 13) (v := ?_) (some 4) rfl rfl (by kernel_rfl) (by kernel_rfl) (by kernel_rfl) (fun _ _ _ h => h) (Or.inl ⟨by rfl, ?_⟩) hHeld ?_
 rotate_left
 ·intro w hSw
  try dsimp only at hSw
  go_simp
  try with_reducible rfl
 simp only [Act.put, List.setIfInBounds_toArray, List.set_cons_zero, List.set_cons_succ]
 refine wpAnyH_done (by kernel_rfl) ?_ _
 have hsz := hHeld.size
 have HS0 : Hid (MrgM S (fsts es) w2 es1 es2 [] m (n - m) A1 A2 q1 q2 (.slice none 0 0) w2) := Lib.hid ⟨hoA, hoB, World.ownsRow_nil _ _ _ _, fun e he => (by cases he), Below.refl _ _, by rw [heA, heB]; exact HE.out⟩
 have HB2 := Lib.hid hHeld
 clear hoA hoB heA heB hHeld hb2 C1 C2 HE
 go_wp2_with fail
 go_loopw [3, 4, 5] (fun c3 c4 c5 wr => ∃ (xs ys zs : List E7) (nx ny : Nat) (A B : Option Addr) (ca cb : Nat), c3 = .slice A nx ca ∧ c4 = .slice B ny cb ∧ Hid (MrgM S (fsts es) w2 xs ys zs nx ny A B ca cb c5 wr)) (fun c3 c4 _ _ => lenOf c3 + lenOf c4)
 case atStart => exact ⟨_, _, _, _, _, _, _, _, _, rfl, rfl, HS0⟩
 case round =>
  obtain ⟨xs, ys, zs, nx, ny, A, B, ca, cb, rfl, rfl, HS⟩ := hrel
  clear HS0
  have hlen := HS.out.len
  rw [HN.out] at hlen
  obtain ⟨A5, q5, rfl⟩ := own_slice HS.out.out
  have H5 := Lib.hid HS.out.out
  rcases xs with _ | ⟨x, xs⟩
  ·obtain rfl : nx = 0 := HS.out.rx.len.symm
   rcases ys with _ | ⟨y, ys⟩
   ·obtain rfl : ny = 0 := HS.out.ry.len.symm
    have hz : fsts zs = ordM (fsts es) := by have := HS.out.eq; rw [show fsts ([] : List E7) = [] from rfl, List.nil_merge, List.append_nil] at this; exact this
    have hzl : zs.length = n := by omega
    subst hzl
    have HZ := Lib.hid hz
    clear hz
    go_wp2_with fail
    go_ret
    obtain ⟨e1, e2, e3⟩ := own_cells7 H5.out
    exact ⟨⟨A5, q5, zs, rfl, ⟨rfl, e2, e3, fun e he => RdV.move (fun k hk hs => ⟨hs, HS.out.bl.block k hk⟩) _ _ (HS.out.vals e he)⟩, HZ.out⟩, HB2.out.trans (HS.out.bl.mono hsz)⟩
   ·obtain ⟨⟨ky, ty⟩, ⟨Ay, qy⟩, Ky, dy⟩ := y
    have hny : 0 < ny := by have := HS.out.ry.len; simp at this; omega
    obtain ⟨g2, o2, rfl, hC2⟩ := HS.out.ry.head HS.out.bl
    have C2 := Lib.hid hC2
    clear hC2
    have hy1 : ((0 : Int) < (ny : Int)) = True := eq_true (by omega)
    have hy2 : ((ny : Int) == 0) = false := by simp; omega
    have hy3 : ((1 : Int) ≤ (ny : Int)) = True := eq_true (by omega)
    go_upto_region 6 with fail
    refine wp_region_held_drew (S := (fun w' => Below wr.heap.size wr w')) (by kernel_rfl) (drewN_below wr 1) (fun hHeld => ?_)
    refine held_take (i := 0) (v := ?_) (some 30) rfl rfl (by kernel_rfl) (by kernel_rfl) (by kernel_rfl) (fun _ _ _ h => h) (Or.inl ⟨by rfl, ?_⟩) hHeld ?_
    rotate_left
    ·intro w hSw
     try dsimp only at hSw
     go_simp
     try with_reducible rfl
    simp only [Act.put, List.setIfInBounds_toArray, List.set_cons_zero, List.set_cons_succ]
    refine held_take (i := 1) (v := ?_) (some 31) rfl rfl (by kernel_rfl) (by kernel_rfl) (by kernel_rfl) (fun _ _ _ h => h) (Or.inl ⟨by rfl, ?_⟩) hHeld ?_
    rotate_left
    ·intro w hSw
     try dsimp only at hSw
     go_simp
     try with_reducible rfl
    simp only [Act.put, List.setIfInBounds_toArray, List.set_cons_zero, List.set_cons_succ]
    refine held_take (i := 2) (v := ?_) (some 32) rfl rfl (by kernel_rfl) (by kernel_rfl) (by kernel_rfl) (fun _ _ _ h => h) (Or.inl ⟨by rfl, ?_⟩) hHeld ?_
    rotate_left
    ·intro w hSw
     try dsimp only at hSw
     go_simp
     try with_reducible rfl
    simp only [Act.put, List.setIfInBounds_toArray, List.set_cons_zero, List.set_cons_succ]
    refine held_take (i := 3) (v := ?_) (some 33) rfl rfl (by kernel_rfl) (by kernel_rfl) (by kernel_rfl) (fun _ _ _ h => h) (Or.inl ⟨by rfl, ?_⟩) hHeld ?_
    rotate_left
    ·intro w hSw
     try dsimp only at hSw
     go_simp
     try with_reducible rfl
    simp only [Act.put, List.setIfInBounds_toArray, List.set_cons_zero, List.set_cons_succ]
    refine held_take (i := 4) (v := ?_) (some 34) rfl rfl (by kernel_rfl) (by kernel_rfl) (by kernel_rfl) (fun _ _ _ h => h) (Or.inl ⟨by rfl, ?_⟩) hHeld ?_
    rotate_left
    ·intro w hSw
     try dsimp only at hSw
     go_simp
     try with_reducible rfl
    simp only [Act.put, List.setIfInBounds_toArray, List.set_cons_zero, List.set_cons_succ]
    refine held_take (i := 5) (v := ?_) (some 35) rfl rfl (by kernel_rfl) (by kernel_rfl) (by kernel_rfl) (fun _ _ _ h => h) (Or.inl ⟨by rfl, ?_⟩) hHeld ?_
    rotate_left
    ·intro w hSw
     try dsimp only at hSw
     go_simp
     try with_reducible rfl
    simp only [Act.put, List.setIfInBounds_toArray, List.set_cons_zero, List.set_cons_succ]
    refine held_take (i := 6) (v := ?_) (some 36) rfl rfl (by kernel_rfl) (by kernel_rfl) (by kernel_rfl) (fun _ _ _ h => h) (Or.inl ⟨by rfl, ?_⟩) hHeld ?_
    rotate_left
    ·intro w hSw
     try dsimp only at hSw
     go_simp
     try with_reducible rfl
    simp only [Act.put, List.setIfInBounds_toArray, List.set_cons_zero, List.set_cons_succ]
    refine held_take (i := 7) (v := ?_) (some 37) rfl rfl (by kernel_rfl) (by kernel_rfl) (by kernel_rfl) (fun _ _ _ h => h) (Or.inl ⟨by rfl, ?_⟩) hHeld ?_
    rotate_left
    ·intro w hSw
     try dsimp only at hSw
     go_simp
     try with_reducible rfl
    simp only [Act.put, List.setIfInBounds_toArray, List.set_cons_zero, List.set_cons_succ]
    refine held_take (i := 8) (v := undef) (some 38) rfl rfl (by kernel_rfl) (by kernel_rfl) (by kernel_rfl) (fun _ _ _ h => h) (Or.inr ⟨by kernel_rfl, rfl⟩) hHeld ?_
    simp only [Act.put, List.setIfInBounds_toArray, List.set_cons_zero, List.set_cons_succ]
    refine held_take (i := 9) (v := undef) (some 39) rfl rfl (by kernel_rfl) (by kernel_rfl) (by kernel_rfl) (fun _ _ _ h => h) (Or.inr ⟨by kernel_rfl, rfl⟩) hHeld ?_
    simp only [Act.put, List.setIfInBounds_toArray, List.set_cons_zero, List.set_cons_succ]
    refine held_take (i := 10) (v := undef) (some 40) rfl rfl (by kernel_rfl) (by kernel_rfl) (by kernel_rfl) (fun _ _ _ h => h) (Or.inr ⟨by kernel_rfl, rfl⟩) hHeld ?_
    simp only [Act.put, List.setIfInBounds_toArray, List.set_cons_zero, List.set_cons_succ]
    refine held_take (i := 11) (v := undef) (some 41) rfl rfl (by kernel_rfl) (by kernel_rfl) (by kernel_rfl) (fun _ _ _ h => h) (Or.inr ⟨by kernel_rfl, rfl⟩) hHeld ?_
    simp only [Act.put, List.setIfInBounds_toArray, List.set_cons_zero, List.set_cons_succ]
    refine held_take (i := 12) (v := undef) (some 42) rfl rfl (by kernel_rfl) (by kernel_rfl) (by kernel_rfl) (fun _ _ _ h => h) (Or.inr ⟨by kernel_rfl, rfl⟩) hHeld ?_
    simp only [Act.put, List.setIfInBounds_toArray, List.set_cons_zero, List.set_cons_succ]
    refine held_take (i := 13) (v := undef) (some 43) rfl rfl (by kernel_rfl) (by kernel_rfl) (by kernel_rfl) (fun _ _ _ h => h) (Or.inr ⟨by kernel_rfl, rfl⟩) hHeld ?_
    simp only [Act.put, List.setIfInBounds_toArray, List.set_cons_zero, List.set_cons_succ]
    refine held_take (i := 14) (v := undef) (some 44) rfl rfl (by kernel_rfl) (by kernel_rfl) (by kernel_rfl) (fun _ _ _ h => h) (Or.inr ⟨by kernel_rfl, rfl⟩) hHeld ?_
    simp only [Act.put, List.setIfInBounds_toArray, List.set_cons_zero, List.set_cons_succ]
    refine held_take (i := 15) (v := undef) (some 45) rfl rfl (by kernel_rfl) (by kernel_rfl) (by kernel_rfl) (fun _ _ _ h => h) (Or.inr ⟨by kernel_rfl, rfl⟩) hHeld ?_
    simp only [Act.put, List.setIfInBounds_toArray, List.set_cons_zero, List.set_cons_succ]
    refine held_take (i := 16) (v := undef) (some 46) rfl rfl (by kernel_rfl) (by kernel_rfl) (by kernel_rfl) (fun _ _ _ h => h) (Or.inr ⟨by kernel_rfl, rfl⟩) hHeld ?_
    simp only [Act.put, List.setIfInBounds_toArray, List.set_cons_zero, List.set_cons_succ]
    refine held_take (i := 17) (v := undef) (some 47) rfl rfl (by kernel_rfl) (by kernel_rfl) (by kernel_rfl) (fun _ _ _ h => h) (Or.inr ⟨by kernel_rfl, rfl⟩) hHeld ?_
    simp only [Act.put, List.setIfInBounds_toArray, List.set_cons_zero, List.set_cons_succ]
    refine held_take (i := 18) (v := ?_) (some 48) rfl rfl (by kernel_rfl) (by kernel_rfl) (by kernel_rfl) (fun _ _ _ h => h) (Or.inl ⟨by rfl, ?_⟩) hHeld ?_
    rotate_left
    ·intro w hSw
     try dsimp only at hSw
     go_simp
     try with_reducible rfl
    simp only [Act.put, List.setIfInBounds_toArray, List.set_cons_zero, List.set_cons_succ]
    refine held_take (i := 19) (v := ?_) (some 49) rfl rfl (by kernel_rfl) (by kernel_rfl) (by kernel_rfl) (fun _ _ _ h => h) (Or.inl ⟨by rfl, ?_⟩) hHeld ?_
    rotate_left
    ·intro w hSw
     try dsimp only at hSw
     go_simp
     try with_reducible rfl
    simp only [Act.put, List.setIfInBounds_toArray, List.set_cons_zero, List.set_cons_succ]
    refine wpAnyH_done (by kernel_rfl) ?_ _
    have hX := hHeld
    clear hHeld
    obtain ⟨c0, c1, c2, c3, c4, c5, c6⟩ := C2.out.below hX
    go_wp2_with (at_builtin; refine wpList_append_own_at _ rfl _ _ 355 rfl w2.heap.size 357 i0 _ 7 104 Tryz.underlying355 hi0 hz0 hz1 hz2 rfl (by omega) (.slice A5 zs.length q5) zs.length (cells7 zs) rfl ((own_below H5.out hX).alloc _) ⟨wr.drew.heap.size, 0, none⟩ 1 1 (cell7 ((ky, ty), ((Ay, qy), (Ky, dy)))) rfl rfl (row_new wr.drew (cell7 ((ky, ty), ((Ay, qy), (Ky, dy)))) _) (cell7_one ((ky, ty), ((Ay, qy), (Ky, dy)))) (by unfold maxLen; omega) (by omega) (by have := HS.out.bl.size; have := hX.size; simp; omega) ?_; intro v9 w9 hown9 hgr9 hnil9 hat9)
    have HN := Lib.hid (HS.out.right (mergeM_right (.inl rfl)) hX hown9 hgr9 HS.out.ry.next)
    clear hown9 hgr9 hnil9 hat9 hX c0 c1 c2 c3 c4 c5 c6
    go_roundw
    case rel => exact ⟨_, ys, zs ++ [((ky, ty), ((Ay, qy), (Ky, dy)))], 0, ny - 1, _, _, ca, cb - 1, rfl, rfl, HN⟩
    case measure => simp [lenOf]; omega
  ·obtain ⟨⟨kx, tx⟩, ⟨Ax, qx⟩, Kx, dx⟩ := x
   have hnx : 0 < nx := by have := HS.out.rx.len; simp at this; omega
   obtain ⟨g1, o1, rfl, hC1⟩ := HS.out.rx.head HS.out.bl
   have C1 := Lib.hid hC1
   clear hC1
   have hx1 : ((0 : Int) < (nx : Int)) = True := eq_true (by omega)
   have hx2 : ((nx : Int) == 0) = false := by simp; omega
   have hx3 : ((1 : Int) ≤ (nx : Int)) = True := eq_true (by omega)
   rcases ys with _ | ⟨y, ys⟩
   ·obtain rfl : ny = 0 := HS.out.ry.len.symm
    go_upto_region 6 with fail
    refine wp_region_held_drew (S := (fun w' => Below wr.heap.size wr w')) (by kernel_rfl) (drewN_below wr 1) (fun hHeld => ?_)
    refine held_take (i := 0) (v := ?_) (some 30) rfl rfl (by kernel_rfl) (by kernel_rfl) (by kernel_rfl) (fun _ _ _ h => h) (Or.inl ⟨by rfl, ?_⟩) hHeld ?_
    rotate_left
    ·intro w hSw
     try dsimp only at hSw
     go_simp
     try with_reducible rfl
    simp only [Act.put, List.setIfInBounds_toArray, List.set_cons_zero, List.set_cons_succ]
    refine held_take (i := 1) (v := ?_) (some 31) rfl rfl (by kernel_rfl) (by kernel_rfl) (by kernel_rfl) (fun _ _ _ h => h) (Or.inl ⟨by rfl, ?_⟩) hHeld ?_
    rotate_left
    ·intro w hSw
     try dsimp only at hSw
     go_simp
     try with_reducible rfl
    simp only [Act.put, List.setIfInBounds_toArray, List.set_cons_zero, List.set_cons_succ]
    refine held_take (i := 2) (v := ?_) (some 32) rfl rfl (by kernel_rfl) (by kernel_rfl) (by kernel_rfl) (fun _ _ _ h => h) (Or.inl ⟨by rfl, ?_⟩) hHeld ?_
    rotate_left
    ·intro w hSw
     try dsimp only at hSw
     go_simp
     try with_reducible rfl
    simp only [Act.put, List.setIfInBounds_toArray, List.set_cons_zero, List.set_cons_succ]
    refine held_take (i := 3) (v := ?_) (some 33) rfl rfl (by kernel_rfl) (by kernel_rfl) (by kernel_rfl) (fun _ _ _ h => h) (Or.inl ⟨by rfl, ?_⟩) hHeld ?_
    rotate_left
    ·intro w hSw
     try dsimp only at hSw
     go_simp
     try with_reducible rfl
    simp only [Act.put, List.setIfInBounds_toArray, List.set_cons_zero, List.set_cons_succ]
    refine held_take (i := 4) (v := undef) (some 34) rfl rfl (by kernel_rfl) (by kernel_rfl) (by kernel_rfl) (fun _ _ _ h => h) (Or.inr ⟨by kernel_rfl, rfl⟩) hHeld ?_
    simp only [Act.put, List.setIfInBounds_toArray, List.set_cons_zero, List.set_cons_succ]
    refine held_take (i := 5) (v := undef) (some 35) rfl rfl (by kernel_rfl) (by kernel_rfl) (by kernel_rfl) (fun _ _ _ h => h) (Or.inr ⟨by kernel_rfl, rfl⟩) hHeld ?_
    simp only [Act.put, List.setIfInBounds_toArray, List.set_cons_zero, List.set_cons_succ]
    refine held_take (i := 6) (v := undef) (some 36) rfl rfl (by kernel_rfl) (by kernel_rfl) (by kernel_rfl) (fun _ _ _ h => h) (Or.inr ⟨by kernel_rfl, rfl⟩) hHeld ?_
    simp only [Act.put, List.setIfInBounds_toArray, List.set_cons_zero, List.set_cons_succ]
    refine held_take (i := 7) (v := undef) (some 37) rfl rfl (by kernel_rfl) (by kernel_rfl) (by kernel_rfl) (fun _ _ _ h => h) (Or.inr ⟨by kernel_rfl, rfl⟩) hHeld ?_
    simp only [Act.put, List.setIfInBounds_toArray, List.set_cons_zero, List.set_cons_succ]
    refine held_take (i := 8) (v := undef) (some 38) rfl rfl (by kernel_rfl) (by kernel_rfl) (by kernel_rfl) (fun _ _ _ h => h) (Or.inr ⟨by kernel_rfl, rfl⟩) hHeld ?_
    simp only [Act.put, List.setIfInBounds_toArray, List.set_cons_zero, List.set_cons_succ]
    refine held_take (i := 9) (v := undef) (some 39) rfl rfl (by kernel_rfl) (by kernel_rfl) (by kernel_rfl) (fun _ _ _ h => h) (Or.inr ⟨by kernel_rfl, rfl⟩) hHeld ?_
    simp only [Act.put, List.setIfInBounds_toArray, List.set_cons_zero, List.set_cons_succ]
    refine held_take (i := 10) (v := undef) (some 40) rfl rfl (by kernel_rfl) (by kernel_rfl) (by kernel_rfl) (fun _ _ _ h => h) (Or.inr ⟨by kernel_rfl, rfl⟩) hHeld ?_
    simp only [Act.put, List.setIfInBounds_toArray, List.set_cons_zero, List.set_cons_succ]
    refine held_take (i := 11) (v := undef) (some 41) rfl rfl (by kernel_rfl) (by kernel_rfl) (by kernel_rfl) (fun _ _ _ h => h) (Or.inr ⟨by kernel_rfl, rfl⟩) hHeld ?_
    simp only [Act.put, List.setIfInBounds_toArray, List.set_cons_zero, List.set_cons_succ]
    refine held_take (i := 12) (v := undef) (some 42) rfl rfl (by kernel_rfl) (by kernel_rfl) (by kernel_rfl) (fun _ _ _ h => h) (Or.inr ⟨by kernel_rfl, rfl⟩) hHeld ?_
    simp only [Act.put, List.setIfInBounds_toArray, List.set_cons_zero, List.set_cons_succ]
    refine held_take (i := 13) (v := undef) (some 43) rfl rfl (by kernel_rfl) (by kernel_rfl) (by kernel_rfl) (fun _ _ _ h => h) (Or.inr ⟨by kernel_rfl, rfl⟩) hHeld ?_
    simp only [Act.put, List.setIfInBounds_toArray, List.set_cons_zero, List.set_cons_succ]
    refine held_take (i := 14) (v := undef) (some 44) rfl rfl (by kernel_rfl) (by kernel_rfl) (by kernel_rfl) (fun _ _ _ h => h) (Or.inr ⟨by kernel_rfl, rfl⟩) hHeld ?_
    simp only [Act.put, List.setIfInBounds_toArray, List.set_cons_zero, List.set_cons_succ]
    refine held_take (i := 15) (v := undef) (some 45) rfl rfl (by kernel_rfl) (by kernel_rfl) (by kernel_rfl) (fun _ _ _ h => h) (Or.inr ⟨by kernel_rfl, rfl⟩) hHeld ?_
    simp only [Act.put, List.setIfInBounds_toArray, List.set_cons_zero, List.set_cons_succ]
    refine held_take (i := 16) (v := undef) (some 46) rfl rfl (by kernel_rfl) (by kernel_rfl) (by kernel_rfl) (fun _ _ _ h => h) (Or.inr ⟨by kernel_rfl, rfl⟩) hHeld ?_
    simp only [Act.put, List.setIfInBounds_toArray, List.set_cons_zero, List.set_cons_succ]
    refine held_take (i := 17) (v := undef) (some 47) rfl rfl (by kernel_rfl) (by kernel_rfl) (by kernel_rfl) (fun _ _ _ h => h) (Or.inr ⟨by kernel_rfl, rfl⟩) hHeld ?_
    simp only [Act.put, List.setIfInBounds_toArray, List.set_cons_zero, List.set_cons_succ]
    refine held_take (i := 18) (v := undef) (some 48) rfl rfl (by kernel_rfl) (by kernel_rfl) (by kernel_rfl) (fun _ _ _ h => h) (Or.inr ⟨by kernel_rfl, rfl⟩) hHeld ?_
    simp only [Act.put, List.setIfInBounds_toArray, List.set_cons_zero, List.set_cons_succ]
    refine held_take (i := 19) (v := ?_) (some 49) rfl rfl (by kernel_rfl) (by kernel_rfl) (by kernel_rfl) (fun _ _ _ h => h) (Or.inl ⟨by rfl, ?_⟩) hHeld ?_
    rotate_left
    ·intro w hSw
     try dsimp only at hSw
     go_simp
     try with_reducible rfl
    simp only [Act.put, List.setIfInBounds_toArray, List.set_cons_zero, List.set_cons_succ]
    refine wpAnyH_done (by kernel_rfl) ?_ _
    have hX := hHeld
    clear hHeld
    obtain ⟨c0, c1, c2, c3, c4, c5, c6⟩ := C1.out.below hX
    go_wp2_with (at_builtin; refine wpList_append_own_at _ rfl _ _ 355 rfl w2.heap.size 357 i0 _ 7 104 Tryz.underlying355 hi0 hz0 hz1 hz2 rfl (by omega) (.slice A5 zs.length q5) zs.length (cells7 zs) rfl ((own_below H5.out hX).alloc _) ⟨wr.drew.heap.size, 0, none⟩ 1 1 (cell7 ((kx, tx), ((Ax, qx), (Kx, dx)))) rfl rfl (row_new wr.drew (cell7 ((kx, tx), ((Ax, qx), (Kx, dx)))) _) (cell7_one ((kx, tx), ((Ax, qx), (Kx, dx)))) (by unfold maxLen; omega) (by omega) (by have := HS.out.bl.size; have := hX.size; simp; omega) ?_; intro v9 w9 hown9 hgr9 hnil9 hat9)
    have HN := Lib.hid (HS.out.left (mergeM_left (.inl rfl)) hX hown9 hgr9 HS.out.rx.next)
    clear hown9 hgr9 hnil9 hat9 hX c0 c1 c2 c3 c4 c5 c6
    go_roundw
    case rel => exact ⟨xs, _, zs ++ [((kx, tx), ((Ax, qx), (Kx, dx)))], nx - 1, 0, _, _, ca - 1, cb, rfl, rfl, HN⟩
    case measure => simp [lenOf]; omega
   ·obtain ⟨⟨ky, ty⟩, ⟨Ay, qy⟩, Ky, dy⟩ := y
    have hny : 0 < ny := by have := HS.out.ry.len; simp at this; omega
    obtain ⟨g2, o2, rfl, hC2⟩ := HS.out.ry.head HS.out.bl
    have C2 := Lib.hid hC2
    clear hC2
    have hy1 : ((0 : Int) < (ny : Int)) = True := eq_true (by omega)
    have hy2 : ((ny : Int) == 0) = false := by simp; omega
    have hy3 : ((1 : Int) ≤ (ny : Int)) = True := eq_true (by omega)
    have hxo := HOK.out _ (HS.out.mem (x := ((kx, tx), ((Ax, qx), (Kx, dx)))) (.inl (by simp)))
    have hyo := HOK.out _ (HS.out.mem (x := ((ky, ty), ((Ay, qy), (Ky, dy)))) (.inr (by simp)))
    have HCM := Lib.hid (refCompare_tx kx ky hxo.2 hyo.2 hxo.1 hyo.1)
    clear hxo hyo
    by_cases hxy : cmpL kx ky ≤ 0
    ·have HLE := Lib.hid (leL_iff.2 hxy)
     have hd : (cmpL kx ky ≤ 0) = True := eq_true hxy
     clear hxy
     go_upto_region 6 with fail
     refine wp_region_held_drew (S := (fun w' => w'.cell? ⟨g1, o1, none⟩ = some (.string ⟨kx.toArray⟩) ∧ w'.cell? ⟨g2, o2, none⟩ = some (.string ⟨ky.toArray⟩) ∧ Below wr.heap.size wr w')) (by kernel_rfl) ⟨C1.out.c0, C2.out.c0, drewN_below wr 1⟩ (fun hHeld => ?_)
     refine held_take (i := 0) (v := ?_) (some 30) rfl rfl (by kernel_rfl) (by kernel_rfl) (by kernel_rfl) (fun _ _ _ h => h) (Or.inl ⟨by rfl, ?_⟩) hHeld ?_
     rotate_left
     ·intro w hSw
      try dsimp only at hSw
      go_simp
      try with_reducible rfl
     simp only [Act.put, List.setIfInBounds_toArray, List.set_cons_zero, List.set_cons_succ]
     refine held_take (i := 1) (v := ?_) (some 31) rfl rfl (by kernel_rfl) (by kernel_rfl) (by kernel_rfl) (fun _ _ _ h => h) (Or.inl ⟨by rfl, ?_⟩) hHeld ?_
     rotate_left
     ·intro w hSw
      try dsimp only at hSw
      go_simp
      try with_reducible rfl
     simp only [Act.put, List.setIfInBounds_toArray, List.set_cons_zero, List.set_cons_succ]
     refine held_take (i := 2) (v := ?_) (some 32) rfl rfl (by kernel_rfl) (by kernel_rfl) (by kernel_rfl) (fun _ _ _ h => h) (Or.inl ⟨by rfl, ?_⟩) hHeld ?_
     rotate_left
     ·intro w hSw
      try dsimp only at hSw
      go_simp
      try with_reducible rfl
     simp only [Act.put, List.setIfInBounds_toArray, List.set_cons_zero, List.set_cons_succ]
     refine held_take (i := 3) (v := ?_) (some 33) rfl rfl (by kernel_rfl) (by kernel_rfl) (by kernel_rfl) (fun _ _ _ h => h) (Or.inl ⟨by rfl, ?_⟩) hHeld ?_
     rotate_left
     ·intro w hSw
      try dsimp only at hSw
      go_simp
      try with_reducible rfl
     simp only [Act.put, List.setIfInBounds_toArray, List.set_cons_zero, List.set_cons_succ]
     refine held_take (i := 4) (v := ?_) (some 34) rfl rfl (by kernel_rfl) (by kernel_rfl) (by kernel_rfl) (fun _ _ _ h => h) (Or.inl ⟨by rfl, ?_⟩) hHeld ?_
     rotate_left
     ·intro w hSw
      try dsimp only at hSw
      go_simp
      try with_reducible rfl
     simp only [Act.put, List.setIfInBounds_toArray, List.set_cons_zero, List.set_cons_succ]
     refine held_take (i := 5) (v := ?_) (some 35) rfl rfl (by kernel_rfl) (by kernel_rfl) (by kernel_rfl) (fun _ _ _ h => h) (Or.inl ⟨by rfl, ?_⟩) hHeld ?_
     rotate_left
     ·intro w hSw
      try dsimp only at hSw
      go_simp
      try with_reducible rfl
     simp only [Act.put, List.setIfInBounds_toArray, List.set_cons_zero, List.set_cons_succ]
     refine held_take (i := 6) (v := ?_) (some 36) rfl rfl (by kernel_rfl) (by kernel_rfl) (by kernel_rfl) (fun _ _ _ h => h) (Or.inl ⟨by rfl, ?_⟩) hHeld ?_
     rotate_left
     ·intro w hSw
      try dsimp only at hSw
      go_simp
      try with_reducible rfl
     simp only [Act.put, List.setIfInBounds_toArray, List.set_cons_zero, List.set_cons_succ]
     refine held_take (i := 7) (v := ?_) (some 37) rfl rfl (by kernel_rfl) (by kernel_rfl) (by kernel_rfl) (fun _ _ _ h => h) (Or.inl ⟨by rfl, ?_⟩) hHeld ?_
     rotate_left
     ·intro w hSw
      try dsimp only at hSw
      go_simp
      try with_reducible rfl
     simp only [Act.put, List.setIfInBounds_toArray, List.set_cons_zero, List.set_cons_succ]
     refine held_take (i := 8) (v := ?_) (some 38) rfl rfl (by kernel_rfl) (by kernel_rfl) (by kernel_rfl) (fun _ _ _ h => h) (Or.inl ⟨by rfl, ?_⟩) hHeld ?_
     rotate_left
     ·intro w hSw
      try dsimp only at hSw
      go_simp
      try with_reducible rfl
     simp only [Act.put, List.setIfInBounds_toArray, List.set_cons_zero, List.set_cons_succ]
     refine held_take (i := 9) (v := ?_) (some 39) rfl rfl (by kernel_rfl) (by kernel_rfl) (by kernel_rfl) (fun _ _ _ h => h) (Or.inl ⟨by rfl, ?_⟩) hHeld ?_
     rotate_left
     ·intro w hSw
      try dsimp only at hSw
      go_simp
      try with_reducible rfl
     simp only [Act.put, List.setIfInBounds_toArray, List.set_cons_zero, List.set_cons_succ]
     refine held_take (i := 10) (v := ?_) (some 40) rfl rfl (by kernel_rfl) (by kernel_rfl) (by kernel_rfl) (fun _ _ _ h => h) (Or.inl ⟨by rfl, ?_⟩) hHeld ?_
     rotate_left
     ·intro w hSw
      try dsimp only at hSw
      go_simp
      try with_reducible rfl
     simp only [Act.put, List.setIfInBounds_toArray, List.set_cons_zero, List.set_cons_succ]
     refine held_take (i := 11) (v := ?_) (some 41) rfl rfl (by kernel_rfl) (by kernel_rfl) (by kernel_rfl) (fun _ _ _ h => h) (Or.inl ⟨by rfl, ?_⟩) hHeld ?_
     rotate_left
     ·intro w hSw
      try dsimp only at hSw
      go_simp
      try with_reducible rfl
     simp only [Act.put, List.setIfInBounds_toArray, List.set_cons_zero, List.set_cons_succ]
     refine held_take (i := 12) (v := ?_) (some 42) rfl rfl (by kernel_rfl) (by kernel_rfl) (by kernel_rfl) (fun _ _ _ h => h) (Or.inl ⟨by rfl, ?_⟩) hHeld ?_
     rotate_left
     ·intro w hSw
      try dsimp only at hSw
      go_simp
      try with_reducible rfl
     simp only [Act.put, List.setIfInBounds_toArray, List.set_cons_zero, List.set_cons_succ]
     refine held_take (i := 13) (v := ?_) (some 43) rfl rfl (by kernel_rfl) (by kernel_rfl) (by kernel_rfl) (fun _ _ _ h => h) (Or.inl ⟨by rfl, ?_⟩) hHeld ?_
     rotate_left
     ·intro w hSw
      try dsimp only at hSw
      go_simp
      try with_reducible rfl
     simp only [Act.put, List.setIfInBounds_toArray, List.set_cons_zero, List.set_cons_succ]
     refine held_take (i := 14) (v := ?_) (some 44) rfl rfl (by kernel_rfl) (by kernel_rfl) (by kernel_rfl) (fun _ _ _ h => h) (Or.inl ⟨by rfl, ?_⟩) hHeld ?_
     rotate_left
     ·intro w hSw
      try dsimp only at hSw
      go_simp
      try with_reducible rfl
     simp only [Act.put, List.setIfInBounds_toArray, List.set_cons_zero, List.set_cons_succ]
     refine held_take (i := 15) (v := ?_) (some 45) rfl rfl (by kernel_rfl) (by kernel_rfl) (by kernel_rfl) (fun _ _ _ h => h) (Or.inl ⟨by rfl, ?_⟩) hHeld ?_
     rotate_left
     ·intro w hSw
      try dsimp only at hSw
      go_simp
      try with_reducible rfl
     simp only [Act.put, List.setIfInBounds_toArray, List.set_cons_zero, List.set_cons_succ]
     refine wpAnyH_ready (rs := [16]) (by kernel_rfl) (by simp) ?_
     refine AllReadyH.cons rfl (fun K hK => ?_) AllReadyH.nil
     go_simp
     go_at_call 224
     ((with_reducible refine (HCM.out _).mono ?_); rintro e w3 ⟨rfl, hb2⟩; dsimp only)
     replace hHeld := cc_below hHeld hb2
     refine hK.out _ _ hHeld (fun _ => ?_)
     clear hK K
     refine held_take (i := 17) (v := ?_) (some 47) rfl rfl (by kernel_rfl) (by kernel_rfl) (by kernel_rfl) (fun _ _ _ h => h) (Or.inl ⟨by rfl, ?_⟩) hHeld ?_
     rotate_left
     ·intro w hSw
      try dsimp only at hSw
      go_simp
      try with_reducible rfl
     simp only [Act.put, List.setIfInBounds_toArray, List.set_cons_zero, List.set_cons_succ]
     refine held_take (i := 18) (v := ?_) (some 48) rfl rfl (by kernel_rfl) (by kernel_rfl) (by kernel_rfl) (fun _ _ _ h => h) (Or.inl ⟨by rfl, ?_⟩) hHeld ?_
     rotate_left
     ·intro w hSw
      try dsimp only at hSw
      go_simp
      try with_reducible rfl
     simp only [Act.put, List.setIfInBounds_toArray, List.set_cons_zero, List.set_cons_succ]
     refine held_take (i := 19) (v := ?_) (some 49) rfl rfl (by kernel_rfl) (by kernel_rfl) (by kernel_rfl) (fun _ _ _ h => h) (Or.inl ⟨by rfl, ?_⟩) hHeld ?_
     rotate_left
     ·intro w hSw
      try dsimp only at hSw
      go_simp
      try with_reducible rfl
     simp only [Act.put, List.setIfInBounds_toArray, List.set_cons_zero, List.set_cons_succ]
     refine wpAnyH_done (by kernel_rfl) ?_ _
     obtain ⟨_, _, hX⟩ := hHeld
     obtain ⟨c0, c1, c2, c3, c4, c5, c6⟩ := C1.out.below hX
     go_wp2_with (at_builtin; refine wpList_append_own_at _ rfl _ _ 355 rfl w2.heap.size 357 i0 _ 7 104 Tryz.underlying355 hi0 hz0 hz1 hz2 rfl (by omega) (.slice A5 zs.length q5) zs.length (cells7 zs) rfl ((own_below H5.out hX).alloc _) ⟨w3.heap.size, 0, none⟩ 1 1 (cell7 ((kx, tx), ((Ax, qx), (Kx, dx)))) rfl rfl (row_new w3 (cell7 ((kx, tx), ((Ax, qx), (Kx, dx)))) _) (cell7_one ((kx, tx), ((Ax, qx), (Kx, dx)))) (by unfold maxLen; omega) (by omega) (by have := HS.out.bl.size; have := hX.size; simp; omega) ?_; intro v9 w9 hown9 hgr9 hnil9 hat9)
     have HN := Lib.hid (HS.out.left (mergeM_left (.inr ⟨_, _, rfl, HLE.out⟩)) hX hown9 hgr9 HS.out.rx.next)
     clear hown9 hgr9 hnil9 hat9 hX c0 c1 c2 c3 c4 c5 c6
     go_roundw
     case rel => exact ⟨xs, _, zs ++ [((kx, tx), ((Ax, qx), (Kx, dx)))], nx - 1, ny, _, _, ca - 1, cb, rfl, rfl, HN⟩
     case measure => simp [lenOf]; omega
    ·have HLE : Hid (leL kx ky = false) := Lib.hid (by cases h : leL kx ky with | false => rfl | true => exact absurd (leL_iff.1 h) hxy)
     have hd : (cmpL kx ky ≤ 0) = False := eq_false hxy
     clear hxy
     go_upto_region 6 with fail
     refine wp_region_held_drew (S := (fun w' => w'.cell? ⟨g1, o1, none⟩ = some (.string ⟨kx.toArray⟩) ∧ w'.cell? ⟨g2, o2, none⟩ = some (.string ⟨ky.toArray⟩) ∧ Below wr.heap.size wr w')) (by kernel_rfl) ⟨C1.out.c0, C2.out.c0, drewN_below wr 1⟩ (fun hHeld => ?_)
     refine held_take (i := 0) (v := ?_) (some 30) rfl rfl (by kernel_rfl) (by kernel_rfl) (by kernel_rfl) (fun _ _ _ h => h) (Or.inl ⟨by rfl, ?_⟩) hHeld ?_
     rotate_left
     ·intro w hSw
      try dsimp only at hSw
      go_simp
      try with_reducible rfl
     simp only [Act.put, List.setIfInBounds_toArray, List.set_cons_zero, List.set_cons_succ]
     refine held_take (i := 1) (v := ?_) (some 31) rfl rfl (by kernel_rfl) (by kernel_rfl) (by kernel_rfl) (fun _ _ _ h => h) (Or.inl ⟨by rfl, ?_⟩) hHeld ?_
     rotate_left
     ·intro w hSw
      try dsimp only at hSw
      go_simp
      try with_reducible rfl
     simp only [Act.put, List.setIfInBounds_toArray, List.set_cons_zero, List.set_cons_succ]
     refine held_take (i := 2) (v := ?_) (some 32) rfl rfl (by kernel_rfl) (by kernel_rfl) (by kernel_rfl) (fun _ _ _ h => h) (Or.inl ⟨by rfl, ?_⟩) hHeld ?_
     rotate_left
     ·intro w hSw
      try dsimp only at hSw
      go_simp
      try with_reducible rfl
     simp only [Act.put, List.setIfInBounds_toArray, List.set_cons_zero, List.set_cons_succ]
     refine held_take (i := 3) (v := ?_) (some 33) rfl rfl (by kernel_rfl) (by kernel_rfl) (by kernel_rfl) (fun _ _ _ h => h) (Or.inl ⟨by rfl, ?_⟩) hHeld ?_
     rotate_left
     ·intro w hSw
      try dsimp only at hSw
      go_simp
      try with_reducible rfl
     simp only [Act.put, List.setIfInBounds_toArray, List.set_cons_zero, List.set_cons_succ]
     refine held_take (i := 4) (v := ?_) (some 34) rfl rfl (by kernel_rfl) (by kernel_rfl) (by kernel_rfl) (fun _ _ _ h => h) (Or.inl ⟨by rfl, ?_⟩) hHeld ?_
     rotate_left
     ·intro w hSw
      try dsimp only at hSw
      go_simp
      try with_reducible rfl
     simp only [Act.put, List.setIfInBounds_toArray, List.set_cons_zero, List.set_cons_succ]
     refine held_take (i := 5) (v := ?_) (some 35) rfl rfl (by kernel_rfl) (by kernel_rfl) (by kernel_rfl) (fun _ _ _ h => h) (Or.inl ⟨by rfl, ?_⟩) hHeld ?_
     rotate_left
     ·intro w hSw
      try dsimp only at hSw
      go_simp
      try with_reducible rfl
     simp only [Act.put, List.setIfInBounds_toArray, List.set_cons_zero, List.set_cons_succ]
     refine held_take (i := 6) (v := ?_) (some 36) rfl rfl (by kernel_rfl) (by kernel_rfl) (by kernel_rfl) (fun _ _ _ h => h) (Or.inl ⟨by rfl, ?_⟩) hHeld ?_
     rotate_left
     ·intro w hSw
      try dsimp only at hSw
      go_simp
      try with_reducible rfl
     simp only [Act.put, List.setIfInBounds_toArray, List.set_cons_zero, List.set_cons_succ]
     refine held_take (i := 7) (v := ?_) (some 37) rfl rfl (by kernel_rfl) (by kernel_rfl) (by kernel_rfl) (fun _ _ _ h => h) (Or.inl ⟨by rfl, ?_⟩) hHeld ?_
     rotate_left
     ·intro w hSw
      try dsimp only at hSw
      go_simp
      try with_reducible rfl
     simp only [Act.put, List.setIfInBounds_toArray, List.set_cons_zero, List.set_cons_succ]
     refine held_take (i := 8) (v := ?_) (some 38) rfl rfl (by kernel_rfl) (by kernel_rfl) (by kernel_rfl) (fun _ _ _ h => h) (Or.inl ⟨by rfl, ?_⟩) hHeld ?_
     rotate_left
     ·intro w hSw
      try dsimp only at hSw
      go_simp
      try with_reducible rfl
     simp only [Act.put, List.setIfInBounds_toArray, List.set_cons_zero, List.set_cons_succ]
     refine held_take (i := 9) (v := ?_) (some 39) rfl rfl (by kernel_rfl) (by kernel_rfl) (by kernel_rfl) (fun _ _ _ h => h) (Or.inl ⟨by rfl, ?_⟩) hHeld ?_
     rotate_left
     ·intro w hSw
      try dsimp only at hSw
      go_simp
      try with_reducible rfl
     simp only [Act.put, List.setIfInBounds_toArray, List.set_cons_zero, List.set_cons_succ]
     refine held_take (i := 10) (v := ?_) (some 40) rfl rfl (by kernel_rfl) (by kernel_rfl) (by kernel_rfl) (fun _ _ _ h => h) (Or.inl ⟨by rfl, ?_⟩) hHeld ?_
     rotate_left
     ·intro w hSw
      try dsimp only at hSw
      go_simp
      try with_reducible rfl
     simp only [Act.put, List.setIfInBounds_toArray, List.set_cons_zero, List.set_cons_succ]
     refine held_take (i := 11) (v := ?_) (some 41) rfl rfl (by kernel_rfl) (by kernel_rfl) (by kernel_rfl) (fun _ _ _ h => h) (Or.inl ⟨by rfl, ?_⟩) hHeld ?_
     rotate_left
     ·intro w hSw
      try dsimp only at hSw
      go_simp
      try with_reducible rfl
     simp only [Act.put, List.setIfInBounds_toArray, List.set_cons_zero, List.set_cons_succ]
     refine held_take (i := 12) (v := ?_) (some 42) rfl rfl (by kernel_rfl) (by kernel_rfl) (by kernel_rfl) (fun _ _ _ h => h) (Or.inl ⟨by rfl, ?_⟩) hHeld ?_
     rotate_left
     ·intro w hSw
      try dsimp only at hSw
      go_simp
      try with_reducible rfl
     simp only [Act.put, List.setIfInBounds_toArray, List.set_cons_zero, List.set_cons_succ]
     refine held_take (i := 13) (v := ?_) (some 43) rfl rfl (by kernel_rfl) (by kernel_rfl) (by kernel_rfl) (fun _ _ _ h => h) (Or.inl ⟨by rfl, ?_⟩) hHeld ?_
     rotate_left
     ·intro w hSw
      try dsimp only at hSw
      go_simp
      try with_reducible rfl
     simp only [Act.put, List.setIfInBounds_toArray, List.set_cons_zero, List.set_cons_succ]
     refine held_take (i := 14) (v := ?_) (some 44) rfl rfl (by kernel_rfl) (by kernel_rfl) (by kernel_rfl) (fun _ _ _ h => h) (Or.inl ⟨by rfl, ?_⟩) hHeld ?_
     rotate_left
     ·intro w hSw
      try dsimp only at hSw
      go_simp
      try with_reducible rfl
     simp only [Act.put, List.setIfInBounds_toArray, List.set_cons_zero, List.set_cons_succ]
     refine held_take (i := 15) (v := ?_) (some 45) rfl rfl (by kernel_rfl) (by kernel_rfl) (by kernel_rfl) (fun _ _ _ h => h) (Or.inl ⟨by rfl, ?_⟩) hHeld ?_
     rotate_left
     ·intro w hSw
      try dsimp only at hSw
      go_simp
      try with_reducible rfl
     simp only [Act.put, List.setIfInBounds_toArray, List.set_cons_zero, List.set_cons_succ]
     refine wpAnyH_ready (rs := [16]) (by kernel_rfl) (by simp) ?_
     refine AllReadyH.cons rfl (fun K hK => ?_) AllReadyH.nil
     go_simp
     go_at_call 224
     ((with_reducible refine (HCM.out _).mono ?_); rintro e w3 ⟨rfl, hb2⟩; dsimp only)
     replace hHeld := cc_below hHeld hb2
     refine hK.out _ _ hHeld (fun _ => ?_)
     clear hK K
     refine held_take (i := 17) (v := ?_) (some 47) rfl rfl (by kernel_rfl) (by kernel_rfl) (by kernel_rfl) (fun _ _ _ h => h) (Or.inl ⟨by rfl, ?_⟩) hHeld ?_
     rotate_left
     ·intro w hSw
      try dsimp only at hSw
      go_simp
      try with_reducible rfl
     simp only [Act.put, List.setIfInBounds_toArray, List.set_cons_zero, List.set_cons_succ]
     refine held_take (i := 18) (v := ?_) (some 48) rfl rfl (by kernel_rfl) (by kernel_rfl) (by kernel_rfl) (fun _ _ _ h => h) (Or.inl ⟨by rfl, ?_⟩) hHeld ?_
     rotate_left
     ·intro w hSw
      try dsimp only at hSw
      go_simp
      try with_reducible rfl
     simp only [Act.put, List.setIfInBounds_toArray, List.set_cons_zero, List.set_cons_succ]
     refine held_take (i := 19) (v := ?_) (some 49) rfl rfl (by kernel_rfl) (by kernel_rfl) (by kernel_rfl) (fun _ _ _ h => h) (Or.inl ⟨by rfl, ?_⟩) hHeld ?_
     rotate_left
     ·intro w hSw
      try dsimp only at hSw
      go_simp
      try with_reducible rfl
     simp only [Act.put, List.setIfInBounds_toArray, List.set_cons_zero, List.set_cons_succ]
     refine wpAnyH_done (by kernel_rfl) ?_ _
     obtain ⟨_, _, hX⟩ := hHeld
     obtain ⟨c0, c1, c2, c3, c4, c5, c6⟩ := C2.out.below hX
     go_wp2_with (at_builtin; refine wpList_append_own_at _ rfl _ _ 355 rfl w2.heap.size 357 i0 _ 7 104 Tryz.underlying355 hi0 hz0 hz1 hz2 rfl (by omega) (.slice A5 zs.length q5) zs.length (cells7 zs) rfl ((own_below H5.out hX).alloc _) ⟨w3.heap.size, 0, none⟩ 1 1 (cell7 ((ky, ty), ((Ay, qy), (Ky, dy)))) rfl rfl (row_new w3 (cell7 ((ky, ty), ((Ay, qy), (Ky, dy)))) _) (cell7_one ((ky, ty), ((Ay, qy), (Ky, dy)))) (by unfold maxLen; omega) (by omega) (by have := HS.out.bl.size; have := hX.size; simp; omega) ?_; intro v9 w9 hown9 hgr9 hnil9 hat9)
     have HN := Lib.hid (HS.out.right (mergeM_right (.inr ⟨_, _, rfl, HLE.out⟩)) hX hown9 hgr9 HS.out.ry.next)
     clear hown9 hgr9 hnil9 hat9 hX c0 c1 c2 c3 c4 c5 c6
     go_roundw
     case rel => exact ⟨_, ys, zs ++ [((ky, ty), ((Ay, qy), (Ky, dy)))], nx, ny - 1, _, _, ca, cb - 1, rfl, rfl, HN⟩
     case measure => simp [lenOf]; omega
theorem ordered_any (S : Nat → Prop) : ∀ (n : Nat) (A : Option Addr) (c : Nat) (es : List E7) (w : World), RdM S w A n c es → (∀ m ∈ fsts es, rightB m.1 = true ∧ m.1.length ≤ 1099511627776) → ((fsts es).map (·.1)).Nodup → n ≤ 1048576 → Calls Tryz.prog 203 #[.slice A n c] w (OrdP S es n w) := by
 intro n
 induction n using Nat.strongRecOn with
 | ind n ih =>
  intro A c es w hr hok hnd hm
  rcases Nat.lt_or_ge n 2 with h | h
  ·exact ordered_few S A n c es w hr h
  ·obtain ⟨g, o, rfl, _⟩ := cells7_some hr.cells (by have := hr.len; omega)
   exact ordered_more S g o c n es w h hr hok hnd hm fun A m q js W h1 h2 h3 h4 => ih m h1 A q js W h2 h3 h4 (by omega)
end Nd
end Go.Proofs.YtbajkglacfheiaaGreatDoor
