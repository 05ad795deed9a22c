/-
  The law's same of layer 14: scalars, lists.
-/
import Derived.Test.YtlailcmhpnnidaaGreatDoorS25
set_option linter.unusedVariables false
set_option linter.unusedSimpArgs false
set_option maxRecDepth 100000
set_option maxHeartbeats 16000000
namespace Go.Proofs.YtlailcmhpnnidaaGreatDoor
open Go.RowKit Mem
namespace Nd
theorem same14_null (A : Option Addr) (c : Nat) (K : Option Addr) (d : Nat) (w : World) :
  Calls Tryz.prog 18 #[.iface 103 (.agg #[]), .agg #[.int .i64 1, .bool false, .int .u64 0, .string ⟨#[]⟩, .slice A 0 c, .slice K 0 d]] w (ToldP w) := by
 have t0 := tv_0_0 
 have hb1 : Below w.heap.size w (w.alloc (.cells #[.int .i64 1, .bool false, .int .u64 0, .string ⟨#[]⟩, .slice A 0 c, .slice K 0 d] 28)) := (Below.refl _ _).alloc (Nat.le_refl _) _
 have hB := Blk.new w 28 #[.int .i64 1, .bool false, .int .u64 0, .string ⟨#[]⟩, .slice A 0 c, .slice K 0 d]
 have HB := Lib.hid hb1
 have b0 : (w.alloc (.cells #[.int .i64 1, .bool false, .int .u64 0, .string ⟨#[]⟩, .slice A 0 c, .slice K 0 d] 28)).cell? ⟨w.heap.size, 0, none⟩ = some (.int .i64 1) := hB.cell 0
 clear hb1 hB

 go_enter Tryz.func18, Tryz.ntmps18
 go_wp2
 go_ret
 exact ⟨rfl, HB.out.alloc HB.out.size _⟩
theorem same14_flag (b : Bool) (A : Option Addr) (c : Nat) (K : Option Addr) (d : Nat) (w : World) :
  Calls Tryz.prog 18 #[.iface 104 (.bool b), .agg #[.int .i64 2, .bool b, .int .u64 0, .string ⟨#[]⟩, .slice A 0 c, .slice K 0 d]] w (ToldP w) := by
 have t0 := tv_1_0 b
 have t1 := tv_1_1 b
 have hb1 : Below w.heap.size w (w.alloc (.cells #[.int .i64 2, .bool b, .int .u64 0, .string ⟨#[]⟩, .slice A 0 c, .slice K 0 d] 28)) := (Below.refl _ _).alloc (Nat.le_refl _) _
 have hB := Blk.new w 28 #[.int .i64 2, .bool b, .int .u64 0, .string ⟨#[]⟩, .slice A 0 c, .slice K 0 d]
 have HB := Lib.hid hb1
 have b0 : (w.alloc (.cells #[.int .i64 2, .bool b, .int .u64 0, .string ⟨#[]⟩, .slice A 0 c, .slice K 0 d] 28)).cell? ⟨w.heap.size, 0, none⟩ = some (.int .i64 2) := hB.cell 0
 clear hb1 hB
 have e1 : (b == b) = true := by simp
 go_enter Tryz.func18, Tryz.ntmps18
 go_wp2
 go_ret
 exact ⟨rfl, HB.out⟩
theorem same14_num (x : Nat) (A : Option Addr) (c : Nat) (K : Option Addr) (d : Nat) (w : World) :
  Calls Tryz.prog 18 #[.iface 106 (.float .f64 x), .agg #[.int .i64 3, .bool false, .int .u64 (x : Int), .string ⟨#[]⟩, .slice A 0 c, .slice K 0 d]] w (ToldP w) := by
 have t0 := tv_2_0 x
 have t1 := tv_2_1 x
 have t2 := tv_2_2 x
 have hb1 : Below w.heap.size w (w.alloc (.cells #[.int .i64 3, .bool false, .int .u64 (x : Int), .string ⟨#[]⟩, .slice A 0 c, .slice K 0 d] 28)) := (Below.refl _ _).alloc (Nat.le_refl _) _
 have hB := Blk.new w 28 #[.int .i64 3, .bool false, .int .u64 (x : Int), .string ⟨#[]⟩, .slice A 0 c, .slice K 0 d]
 have HB := Lib.hid hb1
 have b0 : (w.alloc (.cells #[.int .i64 3, .bool false, .int .u64 (x : Int), .string ⟨#[]⟩, .slice A 0 c, .slice K 0 d] 28)).cell? ⟨w.heap.size, 0, none⟩ = some (.int .i64 3) := hB.cell 0
 clear hb1 hB

 have hfb := f64bits x
 have e1 : ((x : Int) == (x : Int)) = true := by simp
 go_enter Tryz.func18, Tryz.ntmps18
 go_upto_region 10 with fail
 go_quiet (fail)
 go_wp2
 go_ret
 exact ⟨rfl, HB.out.trans (drewN_below _ _)⟩
theorem same14_text (s : Tx) (A : Option Addr) (c : Nat) (K : Option Addr) (d : Nat) (w : World) :
  Calls Tryz.prog 18 #[.iface 108 (.string ⟨s.toArray⟩), .agg #[.int .i64 4, .bool false, .int .u64 0, .string ⟨s.toArray⟩, .slice A 0 c, .slice K 0 d]] w (ToldP w) := by
 have t0 := tv_3_0 ⟨s.toArray⟩
 have t1 := tv_3_1 ⟨s.toArray⟩
 have t2 := tv_3_2 ⟨s.toArray⟩
 have t3 := tv_3_3 ⟨s.toArray⟩
 have hb1 : Below w.heap.size w (w.alloc (.cells #[.int .i64 4, .bool false, .int .u64 0, .string ⟨s.toArray⟩, .slice A 0 c, .slice K 0 d] 28)) := (Below.refl _ _).alloc (Nat.le_refl _) _
 have hB := Blk.new w 28 #[.int .i64 4, .bool false, .int .u64 0, .string ⟨s.toArray⟩, .slice A 0 c, .slice K 0 d]
 have HB := Lib.hid hb1
 have b0 : (w.alloc (.cells #[.int .i64 4, .bool false, .int .u64 0, .string ⟨s.toArray⟩, .slice A 0 c, .slice K 0 d] 28)).cell? ⟨w.heap.size, 0, none⟩ = some (.int .i64 4) := hB.cell 0
 clear hb1 hB
 have e1 : (s == s) = true := by simp
 go_enter Tryz.func18, Tryz.ntmps18
 go_wp2
 go_ret
 exact ⟨rfl, HB.out⟩
theorem en_same (args : Array Value) (w : World) : (callFunc 18 args).run Tryz.prog w = .ok (.enter 18 args) w := by kernel_rfl
theorem eqf_list (l : List Tr) (X : Option Addr) (xc : Nat) (vs : List Value) (A : Option Addr) (c : Nat) (xs : List X4) (w : World)
  (hrow : Row (fun _ => True) w 35 (.slice X l.length xc) vs) (htl : TdL (fun _ => True) w l vs) (hcs : Cells (fun _ => True) w A (cellsV l xs)) (hrl : RdVL (fun _ => True) w l xs) (hn : l.length ≤ 1048576)
  (ih : ∀ (k : Nat) (h : k < l.length) (x : Value) (y : X4) (W : World), TdA W l[k] x → RdVA W l[k] y → Calls Tryz.prog 18 #[x, valV l[k] y.1.1 y.1.2 y.2.1 y.2.2] W (ToldP W)) :
  Calls Tryz.prog 40 #[.slice X l.length xc, .slice A l.length c, .func (.func 18) #[] #[]] w (ToldP w) := by
 have hen := en_same
 have HROW := Lib.hid (And.intro hrow (And.intro htl (And.intro hcs hrl)))
 have HIH0 := Lib.hid ih
 have e1 : ((l.length : Int) != (l.length : Int)) = false := by simp
 clear hrow htl hcs hrl ih
 go_enter Tryz.func40, Tryz.ntmps40
 go_wp2_with fail
 go_loopw [17] (fun c17 wr => ∃ k : Nat, k ≤ l.length ∧ c17 = .int .i64 (k : Nat) ∧ Hid (Below w.heap.size w wr)) (fun c17 _ => l.length - (intOf c17).toNat)
 case atStart => exact ⟨0, Nat.zero_le _, rfl, Lib.hid (Below.refl _ _)⟩
 case round =>
  obtain ⟨k, hk, rfl, HI⟩ := hrel
  by_cases hlt : k < l.length
  ·obtain ⟨g1, o1, T1, U1, rfl, hc0, htd⟩ := trow_at HROW.out.1 HROW.out.2.1 hlt
   obtain ⟨g2, o2, ⟨⟨A3, c3⟩, K3, d3⟩, rfl, _, _, hcv0, hrv⟩ := cells_at HROW.out.2.2.1 HROW.out.2.2.2 hlt
   have hbw := HI.out
   have hcv := (hbw.cell (p := ⟨g1, o1 + k, none⟩) (World.block_lt_of_cell? w _ hc0)).trans hc0
   obtain ⟨r0, r1, r2, r3, r4, r5⟩ := hcv0.below hbw
   have HTD := Lib.hid (tda_below htd hbw)
   have HRV := Lib.hid (rdva_below hrv hbw)
   obtain ⟨u, hu⟩ : ∃ u, l[k] = u := ⟨_, rfl⟩
   have hih := fun (W : World) (a : TdA W l[k] (.iface T1 U1)) (b : RdVA W l[k] ((A3, c3), (K3, d3))) => HIH0.out k hlt _ ((A3, c3), (K3, d3)) W a b
   rw [hu] at hih HTD HRV r0 r1 r2 r3 r4 r5
   have HIH : Hid (∀ (W : World), TdA W u (.iface T1 U1) → RdVA W u ((A3, c3), (K3, d3)) → Calls Tryz.prog 18 #[.iface T1 U1, .agg #[.int .i64 (u.srt : Nat), .bool u.fl, .int .u64 (u.bi : Nat), .string ⟨u.tx.toArray⟩, .slice A3 u.kids.length c3, .slice K3 u.kn.length d3]] W (ToldP W)) := Lib.hid hih
   have hk1 : (k : Int) < (l.length : Int) := by omega
   have hk2 : (0 : Int) ≤ (k : Int) := by omega
   have hba : Below wr.heap.size wr (wr.alloc (.cells #[.int .i64 (u.srt : Nat), .bool u.fl, .int .u64 (u.bi : Nat), .string ⟨u.tx.toArray⟩, .slice A3 u.kids.length c3, .slice K3 u.kn.length d3] 28)) := (Below.refl _ _).alloc (Nat.le_refl _) _
   have HBA := Lib.hid hba
   clear hu hih hc0 htd hcv0 hrv hbw hba
   go_wp2_with fail
   ((with_reducible refine (HIH.out _ (tda_below HTD.out HBA.out) (rdva_below HRV.out HBA.out)).mono ?_); rintro e w5 ⟨rfl, hb⟩)
   have HN := Lib.hid (HI.out.trans ((HBA.out.trans (hb.mono HBA.out.size)).mono HI.out.size))
   clear hb
   go_wp2
   go_roundw
   case rel => exact ⟨k + 1, by omega, by go_num, HN⟩
   case measure => simp [intOf]; omega
  ·obtain rfl : k = l.length := by omega
   go_wp2
   go_ret
   exact ⟨rfl, HI.out⟩
end Nd
end Go.Proofs.YtlailcmhpnnidaaGreatDoor
