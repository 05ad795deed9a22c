/-
  Walks of the reference of layer 10: Size, Within.
  Walks of the reference of layer 10: ordered.
-/
import Derived.Test.YtbcckpnngonoeaaGreatDoorHCs
import Derived.Test.YtbcckpnngonoeaaGreatDoorGF
import Derived.BigQuiet
namespace Go.Proofs.YtbcckpnngonoeaaGreatDoor
open Go.RowKit Mem
set_option linter.unusedVariables false
namespace Nd
abbrev RdVA (w : World) (t : Tr) (x : X4) : Prop := RdV (fun _ => True) w t x
theorem rdva_below {w w' : World} {t : Tr} {x : X4} (h : RdVA w t x) (hb : Below w.heap.size w w') : RdVA w' t x := RdV.move (fun j hj hs => ⟨trivial, hb.block j hj⟩) _ _ h
theorem CellsV.below {w w' : World} {g o : Nat} {t : Tr} {x : X4} (h : CellsV w g o t x) (hb : Below w.heap.size w w') : CellsV w' g o t x := by
  have hlt : g < w.heap.size := World.block_lt_of_cell? w _ h.c0
  have ho := (old hb).1
  exact ⟨(ho _ _ hlt).trans h.c0, (ho _ _ hlt).trans h.c1, (ho _ _ hlt).trans h.c2, (ho _ _ hlt).trans h.c3, (ho _ _ hlt).trans h.c4, (ho _ _ hlt).trans h.c5⟩
theorem kids_nodes (t : Tr) : t.nodes = 1 + nodesL t.kids := by
  cases t <;> simp [Tr.nodes, Tr.kids, nodesL]
theorem kids_bytes (t : Tr) : t.bytes = t.tx.length + lens t.kn + bytesL t.kids := by
  cases t <;> simp [Tr.bytes, Tr.kids, Tr.kn, Tr.tx, bytesL, lens]
theorem kids_depth (t : Tr) : t.depth = depthL t.kids + 1 := by
  cases t <;> simp [Tr.depth, Tr.kids, depthL]
theorem sums_snoc (l : List Tr) (k : Nat) (h : k < l.length) : nodesL (l.take (k + 1)) = nodesL (l.take k) + l[k].nodes ∧ bytesL (l.take (k + 1)) = bytesL (l.take k) + l[k].bytes ∧ depthL (l.take (k + 1)) = max (depthL (l.take k)) l[k].depth := by
  rw [List.take_succ_eq_append_getElem h, nodesL_app, bytesL_app, depthL_app]
  simp [nodesL, bytesL, depthL]
theorem sums_to (l : List Tr) (k : Nat) : nodesL (l.take k) ≤ nodesL l ∧ bytesL (l.take k) ≤ bytesL l := by
  have h1 := nodesL_app (l.take k) (l.drop k)
  have h2 := bytesL_app (l.take k) (l.drop k)
  rw [List.take_append_drop] at h1 h2
  omega
mutual
/-- no object has more keys than values -/
def Tr.Kf : Tr → Prop
  | .list l => KfL l
  | .obj ks l => ks.length ≤ l.length ∧ KfL l
  | _ => True
def KfL : List Tr → Prop
  | [] => True
  | t :: l => t.Kf ∧ KfL l
end
theorem kfl_iff : ∀ l : List Tr, KfL l ↔ ∀ t ∈ l, t.Kf
  | [] => by unfold KfL; simp
  | t :: l => by
    unfold KfL
    rw [kfl_iff l]
    simp
theorem Tr.Kf.kids {t : Tr} (h : t.Kf) : t.kn.length ≤ t.kids.length ∧ ∀ x ∈ t.kids, x.Kf := by
  cases t with
  | list l =>
    unfold Tr.Kf at h
    exact ⟨Nat.zero_le _, (kfl_iff l).1 h⟩
  | obj ks l =>
    unfold Tr.Kf at h
    exact ⟨h.1, (kfl_iff l).1 h.2⟩
  | _ => exact ⟨Nat.le_refl _, fun x hx => by cases hx⟩
theorem nodes_one (t : Tr) : 1 ≤ t.nodes := by
  rw [kids_nodes]
  omega
theorem nodesL_len : ∀ l : List Tr, l.length ≤ nodesL l
  | [] => Nat.le_refl _
  | t :: l => by
    have := nodesL_len l
    have := nodes_one t
    simp only [List.length_cons, nodesL]
    omega
theorem results_tmp3 {fn : Func} {t u v : Tmp} (h : fn.results = #[.tmp t, .tmp u, .tmp v]) (tmps : Array Value) (P : Program) (w : World) :
    (results fn tmps).run P w = .ok (.tuple #[tmps.getD t undef, tmps.getD u undef, tmps.getD v undef]) w := by simp [results, h]
def SizeV (t : Tr) (w : World) (e : Ending) (w' : World) : Prop := e = .returned (.tuple #[.int .i64 (t.nodes : Int), .int .i64 (t.bytes : Int), .int .i64 (t.depth : Int)]) ∧ Below w.heap.size w w'
theorem depth_nodes : ∀ t : Tr, t.depth ≤ t.nodes := by
  intro t
  induction t using Tr.ind with
  | h0 => decide
  | h1 b => exact Nat.le_refl _
  | h2 b => exact Nat.le_refl _
  | h3 b => exact Nat.le_refl _
  | h4 l ih =>
    have : depthL l ≤ nodesL l := by
      induction l with
      | nil => exact Nat.le_refl _
      | cons x l ihl =>
        have h1 := ih x (by simp)
        have h2 := ihl fun y hy => ih y (by simp [hy])
        simp only [depthL, nodesL]
        omega
    simp only [Tr.depth, Tr.nodes]
    omega
  | h5 ks l ih =>
    have : depthL l ≤ nodesL l := by
      induction l with
      | nil => exact Nat.le_refl _
      | cons x l ihl =>
        have h1 := ih x (by simp)
        have h2 := ihl fun y hy => ih y (by simp [hy])
        simp only [depthL, nodesL]
        omega
    simp only [Tr.depth, Tr.nodes]
    omega
set_option maxRecDepth 100000 in
set_option maxHeartbeats 8000000 in
theorem size_step (t : Tr) (A : Option Addr) (c : Nat) (K : Option Addr) (d : Nat) (w : World) (h : RdVA w t ((A, c), (K, d))) (hn : t.nodes ≤ 1099511627776) (hb : t.bytes ≤ 4398046511104) (hkf : t.Kf)
    (ih : ∀ x ∈ t.kids, ∀ (A : Option Addr) (c : Nat) (K : Option Addr) (d : Nat) (w : World), RdVA w x ((A, c), (K, d)) → x.Kf → x.nodes ≤ 1099511627776 → x.bytes ≤ 4398046511104 → Calls Tryz.prog 66 #[valV x A c K d] w (SizeV x w)) :
    Calls Tryz.prog 66 #[valV t A c K d] w (SizeV t w) := by
  have hkn := kids_nodes t
  have hkl : t.kids.length ≤ 1099511627776 := by have := nodesL_len t.kids; omega
  have hnl : t.kn.length ≤ 1099511627776 := by have := hkf.kids.1; omega
  have HKF := Lib.hid hkf.kids.2
  have hkb := kids_bytes t
  have hkd := kids_depth t
  have hB := Blk.new w 61 #[.int .i64 (t.srt : Nat), .bool t.fl, .int .u64 (t.bi : Nat), .string ⟨t.tx.toArray⟩, .slice A t.kids.length c, .slice K t.kn.length d]
  have hba : Below w.heap.size w (w.alloc (.cells #[.int .i64 (t.srt : Nat), .bool t.fl, .int .u64 (t.bi : Nat), .string ⟨t.tx.toArray⟩, .slice A t.kids.length c, .slice K t.kn.length d] 61)) := (Below.refl _ _).alloc (Nat.le_refl _) _
  have hbox : CellsV (w.alloc (.cells #[.int .i64 (t.srt : Nat), .bool t.fl, .int .u64 (t.bi : Nat), .string ⟨t.tx.toArray⟩, .slice A t.kids.length c, .slice K t.kn.length d] 61)) w.heap.size 0 t ((A, c), (K, d)) := ⟨hB.cell 0, hB.cell 1, hB.cell 2, hB.cell 3, hB.cell 4, hB.cell 5⟩
  have hrd := rdva_below h hba
  have HHN := Lib.hid hn
  have HHB := Lib.hid hb
  have HKN := Lib.hid hkn
  have HKB := Lib.hid hkb
  have HKD := Lib.hid hkd
  have HIH := Lib.hid ih
  have HDN := Lib.hid (depth_nodes t)
  clear h hn hb hkn hkb hkd ih hB hkf
  go_enter Tryz.func66, Tryz.ntmps66
  go_upto_region 1 with fail
  generalize w.alloc (.cells #[.int .i64 (t.srt : Nat), .bool t.fl, .int .u64 (t.bi : Nat), .string ⟨t.tx.toArray⟩, .slice A t.kids.length c, .slice K t.kn.length d] 61) = w1 at *
  have c3 : w1.cell? ⟨w.heap.size, 3, none⟩ = some (.string ⟨t.tx.toArray⟩) := hbox.c3
  have hrd2 : ∀ n, RdVA (w1.drewN n) t ((A, c), (K, d)) := fun n => rdva_below hrd (drewN_below _ _)
  have hbox2 : ∀ n, CellsV (w1.drewN n) w.heap.size 0 t ((A, c), (K, d)) := fun n => hbox.below (drewN_below _ _)
  have hba2 : ∀ n, Below w.heap.size w (w1.drewN n) := fun n => hba.trans (drewN_below _ _)
  have HRD := Lib.hid hrd2
  have HBOX := Lib.hid hbox2
  have HBA := Lib.hid hba2
  clear hrd hbox hba hrd2 hbox2 hba2
  go_quiet (fail)
  have hrd := HRD.out nq
  have hbox := HBOX.out nq
  have hba := HBA.out nq
  clear HRD HBOX HBA c3
  generalize w1.drewN nq = W at *
  obtain ⟨b0, b1, b2, b3, b4, b5⟩ := hbox
  have HBOX : Hid (CellsV W w.heap.size 0 t ((A, c), (K, d))) := Lib.hid ⟨b0, b1, b2, b3, b4, b5⟩
  simp only [Nat.zero_add] at b0 b1 b2 b3 b4 b5
  have HRD := Lib.hid hrd
  have HBA := Lib.hid hba
  clear hrd hba b0 b1 b2
  go_wp2_with fail
  go_loop [6, 8] (fun c6 c8 => ∃ k : Nat, k ≤ t.kn.length ∧ c8 = .int .i64 k ∧ c6 = .int .i64 ((t.tx.length + lens (t.kn.take k) : Nat) : Int)) (fun _ c8 => t.kn.length - (intOf c8).toNat)
  case atStart => exact ⟨0, Nat.zero_le _, rfl, by simp [lens]⟩
  case round =>
    obtain ⟨k, hk, rfl, rfl⟩ := hrel
    by_cases hlt : k < t.kn.length
    · obtain ⟨g, o, rfl, _, hc⟩ := keys_at HRD.out.keys hlt
      have hsn := lens_snoc t.kn k hlt
      have hle := lens_le t.kn (k + 1)
      have hbd := HHB.out
      have hkb := HKB.out
      obtain ⟨S, hS⟩ : ∃ S, t.tx.length + lens (t.kn.take k) = S := ⟨_, rfl⟩
      have hS2 : t.tx.length + lens (t.kn.take (k + 1)) = S + t.kn[k].length := by omega
      have hS3 : IntKind.i64.wrap ((S : Int) + (t.kn[k].length : Int)) = ((S + t.kn[k].length : Nat) : Int) := by rw [IntWalk.i64_in _ (by omega)]; omega
      have HS2 := Lib.hid hS2
      rw [hS]
      clear hsn hle hbd hkb hS hS2
      generalize t.kn[k] = y at *
      go_wp2
      go_round
      case rel => exact ⟨k + 1, by omega, by go_num, by rw [HS2.out]; exact congrArg _ (by omega)⟩
      case measure => simp [intOf]; omega
    · obtain rfl : k = t.kn.length := by omega
      rw [List.take_of_length_le (Nat.le_refl _)]
      obtain ⟨S0, hS0⟩ : ∃ S0, t.tx.length + lens t.kn = S0 := ⟨_, rfl⟩
      rw [hS0]
      have HS0 := Lib.hid hS0
      clear hS0
      go_wp2
      go_loopw [5, 6, 7, 9] (fun c5 c6 c7 c9 wr => ∃ (k N B D : Nat), k ≤ t.kids.length ∧ c9 = .int .i64 k ∧ c5 = .int .i64 N ∧ c6 = .int .i64 B ∧ c7 = .int .i64 D ∧ Hid (N = 1 + nodesL (t.kids.take k) ∧ B = S0 + bytesL (t.kids.take k) ∧ D = depthL (t.kids.take k)) ∧ Hid (Below W.heap.size W wr)) (fun _ _ _ c9 _ => t.kids.length - (intOf c9).toNat)
      case atStart => exact ⟨0, 1, S0, 0, Nat.zero_le _, rfl, rfl, rfl, rfl, Lib.hid ⟨by simp [nodesL], by simp [bytesL], by simp [depthL]⟩, Lib.hid (Below.refl _ _)⟩
      case round =>
        obtain ⟨k, N, B, D, hk, rfl, rfl, rfl, rfl, HS, HB⟩ := hrel
        obtain ⟨b0, b1, b2, b3, b4, b5⟩ := HBOX.out.below HB.out
        simp only [Nat.zero_add] at b0 b1 b2 b3 b4 b5
        clear b0 b1 b2 b3 b5
        by_cases hlt : k < t.kids.length
        · obtain ⟨xs, hC, hL⟩ := (rdva_below HRD.out HB.out).kids
          obtain ⟨g, o, x, rfl, _, _, hcl, hrx⟩ := cells_at hC hL hlt
          obtain ⟨⟨A', c'⟩, K', d'⟩ := x
          have hsn := sums_snoc t.kids k hlt
          have hto := sums_to t.kids (k + 1)
          have hkn := HKN.out
          have hkb := HKB.out
          have hhn := HHN.out
          have hhb := HHB.out
          have hkx := HKF.out _ (List.getElem_mem hlt)
          have hix := HIH.out _ (List.getElem_mem hlt)
          have hdx := depth_nodes t.kids[k]
          clear hC hL
          generalize t.kids[k] = y at *
          obtain ⟨e0, e1, e2, e3, e4, e5⟩ := hcl
          have hS := HS.out
          have hS0 := HS0.out
          have hDN : D ≤ N := by
            have h1 : depthL (t.kids.take k) ≤ nodesL (t.kids.take k) := by
              have := depth_nodes (.list (t.kids.take k))
              simp only [Tr.depth, Tr.nodes] at this
              omega
            omega
          have hq1 : N + y.nodes ≤ 1099511627776 := by omega
          have hq2 : B + y.bytes ≤ 4398046511104 := by omega
          have HNX : Hid (N + y.nodes = 1 + nodesL (t.kids.take (k + 1)) ∧ B + y.bytes = S0 + bytesL (t.kids.take (k + 1)) ∧ max D y.depth = depthL (t.kids.take (k + 1))) := Lib.hid (by omega)
          have HC := Lib.hid (hix A' c' K' d' wr hrx hkx (by omega) (by omega))
          clear hsn hto hkn hkb hhn hhb hkx hix hS hS0 hrx
          simp only at e4 e5
          go_wp2_with fail
          refine HC.out.mono ?_
          rintro e w2 ⟨rfl, hb2⟩
          have HB2 : Hid (Below W.heap.size W w2) := Lib.hid (HB.out.trans (hb2.mono HB.out.size))
          clear hb2 e0 e1 e2 e3 e4 e5 HC
          generalize y.nodes = N2 at *
          generalize y.bytes = B2 at *
          generalize y.depth = D2 at *
          by_cases hD : D < D2
          · have hd : ((D : Int) < (D2 : Int)) = True := eq_true (by omega)
            have HM : Hid (max D D2 = D2) := Lib.hid (by omega)
            clear hD
            go_wp2
            go_roundw
            case rel => exact ⟨k + 1, N + N2, B + B2, D2, by omega, by go_num, by go_num, by go_num, rfl, by rw [HM.out] at HNX; exact HNX, HB2⟩
            case measure => simp [intOf]; omega
          · have hd : ((D : Int) < (D2 : Int)) = False := eq_false (by omega)
            have HM : Hid (max D D2 = D) := Lib.hid (by omega)
            clear hD
            go_wp2
            go_roundw
            case rel => exact ⟨k + 1, N + N2, B + B2, D, by omega, by go_num, by go_num, by go_num, rfl, by rw [HM.out] at HNX; exact HNX, HB2⟩
            case measure => simp [intOf]; omega
        · obtain rfl : k = t.kids.length := by omega
          rw [List.take_of_length_le (Nat.le_refl _)] at HS
          have hS := HS.out
          have hS0 := HS0.out
          have hkn := HKN.out
          have hkb := HKB.out
          have hkd := HKD.out
          have hdn := HDN.out
          have hhn := HHN.out
          have hr1 : N = t.nodes := by omega
          have hr2 : B = t.bytes := by omega
          have hr3 : D + 1 = t.depth := by omega
          have hDb : D ≤ 1099511627776 := by omega
          have HR := Lib.hid (And.intro hr1 (And.intro hr2 hr3))
          clear hS hS0 hkn hkb hkd hdn hhn hr1 hr2 hr3
          go_wp2
          refine bodyPost_ret (results_tmp3 (t := 2) (u := 3) (v := 4) rfl _ _ _) rfl ⟨?_, HBA.out.trans (HB.out.mono HBA.out.size)⟩
          rw [← HR.out.1, ← HR.out.2.1, ← HR.out.2.2]
          rfl
theorem size_any (t : Tr) : t.Kf → t.nodes ≤ 1099511627776 → t.bytes ≤ 4398046511104 → ∀ (A : Option Addr) (c : Nat) (K : Option Addr) (d : Nat) (w : World), RdVA w t ((A, c), (K, d)) → Calls Tryz.prog 66 #[valV t A c K d] w (SizeV t w) := by
  induction t using Tr.ind with
  | h0 => exact fun hk hn hb A c K d w h => size_step _ A c K d w h hn hb hk fun x hx => by cases hx
  | h1 b => exact fun hk hn hb A c K d w h => size_step _ A c K d w h hn hb hk fun x hx => by cases hx
  | h2 b => exact fun hk hn hb A c K d w h => size_step _ A c K d w h hn hb hk fun x hx => by cases hx
  | h3 b => exact fun hk hn hb A c K d w h => size_step _ A c K d w h hn hb hk fun x hx => by cases hx
  | h4 l ih => exact fun hk hn hb A c K d w h => size_step _ A c K d w h hn hb hk fun x hx A c K d w h hk hn hb => ih x hx hk hn hb A c K d w h
  | h5 ks l ih => exact fun hk hn hb A c K d w h => size_step _ A c K d w h hn hb hk fun x hx A c K d w h hk hn hb => ih x hx hk hn hb A c K d w h
set_option maxHeartbeats 4000000 in
theorem within_any (t : Tr) (hk : t.Kf) (hn : t.nodes ≤ 1099511627776) (hb : t.bytes ≤ 4398046511104) (A : Option Addr) (c : Nat) (K : Option Addr) (d : Nat) (w : World) (h : RdVA w t ((A, c), (K, d))) :
    Calls Tryz.prog 31 #[valV t A c K d] w fun e w' => e = .returned (.bool t.fit) ∧ Below w.heap.size w w' := by
  have hba : Below w.heap.size w (w.alloc (.cells #[.int .i64 (t.srt : Nat), .bool t.fl, .int .u64 (t.bi : Nat), .string ⟨t.tx.toArray⟩, .slice A t.kids.length c, .slice K t.kn.length d] 61)) := (Below.refl _ _).alloc (Nat.le_refl _) _
  have HC := Lib.hid (size_any t hk hn hb A c K d _ (rdva_below h hba))
  have HBA := Lib.hid hba
  clear hk hn hb h hba
  obtain ⟨p1, h1⟩ : ∃ p, decide (t.nodes ≤ 65536) = p := ⟨_, rfl⟩
  obtain ⟨p2, h2⟩ : ∃ p, decide (t.bytes ≤ 2097152) = p := ⟨_, rfl⟩
  obtain ⟨p3, h3⟩ : ∃ p, decide (t.depth ≤ 512) = p := ⟨_, rfl⟩
  have HF : Hid (t.fit = (p1 && p2 && p3)) := Lib.hid (by rw [← h1, ← h2, ← h3]; rfl)
  have g1 : decide ((t.nodes : Int) ≤ 65536) = p1 := by rw [← h1]; exact decide_eq_decide.2 (by omega)
  have g2 : decide ((t.bytes : Int) ≤ 2097152) = p2 := by rw [← h2]; exact decide_eq_decide.2 (by omega)
  have g3 : decide ((t.depth : Int) ≤ 512) = p3 := by rw [← h3]; exact decide_eq_decide.2 (by omega)
  clear h1 h2 h3
  go_enter Tryz.func31, Tryz.ntmps31
  go_wp2_with fail
  refine HC.out.mono ?_
  rintro e w2 ⟨rfl, hb2⟩
  have HB2 := Lib.hid (HBA.out.trans (hb2.mono HBA.out.size))
  clear hb2 HC
  cases p1 with
  | false =>
    go_wp2
    go_ret
    exact ⟨by rw [HF.out]; rfl, HB2.out⟩
  | true =>
    cases p2 with
    | false =>
      go_wp2
      go_ret
      exact ⟨by rw [HF.out]; rfl, HB2.out⟩
    | true =>
      cases p3 with
      | false =>
        go_wp2
        go_ret
        exact ⟨by rw [HF.out]; rfl, HB2.out⟩
      | true =>
        go_wp2
        go_ret
        exact ⟨by rw [HF.out]; rfl, HB2.out⟩
end Nd
end Go.Proofs.YtbcckpnngonoeaaGreatDoor
namespace Go.Proofs.YtbcckpnngonoeaaGreatDoor
open Go.RowKit Mem Ref3
set_option linter.unusedVariables false
set_option linter.unusedSimpArgs false
namespace Nd
/-- a member and where its value's values and keys lie -/
abbrev E7 := M2 × X4
section
variable {S : Nat → Prop} {l : List M2} {W : World} {xs ys zs : List E7} {nx ny : Nat} {A B : Option Addr} {ca cb : Nat} {c5 : Value} {wr : World}
end
end Nd
end Go.Proofs.YtbcckpnngonoeaaGreatDoor

