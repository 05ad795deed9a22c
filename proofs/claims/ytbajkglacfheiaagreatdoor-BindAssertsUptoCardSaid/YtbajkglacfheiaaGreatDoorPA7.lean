/-
  Walks of package node: the steps that make a list.
-/
import Derived.Test.YtbajkglacfheiaaGreatDoorPA2
set_option linter.unusedVariables false
set_option linter.unusedSimpArgs false
set_option maxRecDepth 100000
set_option maxHeartbeats 16000000
namespace Go.Proofs.YtbajkglacfheiaaGreatDoor
open Go.RowKit Mem
namespace Nd

theorem do_list_few (c : Int) (A : Option Addr) (n q : Nat) (p : Nat) (ty : TypeId) (B : Nat) (l : List Tr) (v : Value) (xs : List Value) (w : World) (hR : Rw p ty B (fun _ => False) l v xs w) (hus : usedB 5 false 0 [] c n = true) (hlen : l.length ≤ 65536) (hc : (l.length : Int) < c) :
  Calls Tryz.prog 32 #[.pointer (some ⟨p, 0, none⟩), .agg #[.int .i64 5, .bool false, .int .u64 0, .string ⟨([] : Tx).toArray⟩, .int .i64 c, .slice A n q]] w fun e w' => e = .returned (errN 102) ∧ RwX p ty B l w' ∧ Apart p B w w' := by
 have hmf : ∀ (fn : Fn) (first cap : Array Value) (w : World), (Instr.makeFunc fn first cap).run Tryz.prog w = .ok (.func fn first cap) w := fun _ _ _ _ => rfl
 have HR := Lib.hid hR
 clear hR
 go_enter_defers Tryz.func32, Tryz.ntmps32
 go_wp2_with fail
 refine (used_any 5 false 0 [] c A n q _).mono ?_
 rw [hus]
 rintro e w1 ⟨rfl, hb1⟩
 obtain ⟨hbw, hS1, hE1, hsz⟩ := head_blocks w _ hb1
 clear hb1
 have c0 : w1.cell? ⟨w.heap.size, 0, none⟩ = some (.int .i64 5) := hS1.cell 0
 have c1 : w1.cell? ⟨w.heap.size, 1, none⟩ = some (.bool false) := hS1.cell 1
 have c2 : w1.cell? ⟨w.heap.size, 2, none⟩ = some (.int .u64 0) := hS1.cell 2
 have c3 : w1.cell? ⟨w.heap.size, 3, none⟩ = some (.string ⟨([] : Tx).toArray⟩) := hS1.cell 3
 have c4 : w1.cell? ⟨w.heap.size, 4, none⟩ = some (.int .i64 c) := hS1.cell 4
 have c5 : w1.cell? ⟨w.heap.size, 5, none⟩ = some (.slice A n q) := hS1.cell 5
 clear hS1
 go_wp2_with fail
 refine (refuse_yes 2 _).mono ?_
 rintro e w' ⟨rfl, rfl⟩
 obtain ⟨A1, q1, hv1⟩ := own_slice HR.out.own
 have hBv := (HR.out.below hbw).bl
 rw [hv1] at hBv
 go_wp2_with fail
 refine (take_few p ty A1 l.length q1 c _ hBv hc).mono ?_
 rintro e w' ⟨rfl, rfl⟩
 obtain ⟨⟨hc, hz⟩, hc2, hrx, hbp⟩ := fin_err 102 HR.out hbw (by omega) hsz hE1 (Below.refl _ _)
 go_wp2
 refine leaves_cons (f := 70) (args := #[.pointer (some ⟨w.heap.size + 1, 0, none⟩)]) (by simp) (by simp [go_sem]) ?_
 refine (catch_panicking ⟨w.heap.size + 1, 0, none⟩ _ 102 [] _ hc hz).mono ?_
 rintro e u' w'' ⟨rfl, rfl, rfl⟩
 unfold errN at hc2 hrx hbp ⊢
 simp [Leaves, settle, results, Tryz.results32, go_sem, hc2]
 exact ⟨hrx, hbp⟩
theorem do_list_long (k : Nat) (A : Option Addr) (n q : Nat) (p : Nat) (ty : TypeId) (B : Nat) (l : List Tr) (v : Value) (xs : List Value) (w : World) (hR : Rw p ty B (fun _ => False) l v xs w) (hus : usedB 5 false 0 [] (k : Int) n = true) (hlen : l.length ≤ 65536) (hk : k ≤ l.length) (hf : (Tr.list (l.drop (l.length - k))).fit = false) :
  Calls Tryz.prog 32 #[.pointer (some ⟨p, 0, none⟩), .agg #[.int .i64 5, .bool false, .int .u64 0, .string ⟨([] : Tx).toArray⟩, .int .i64 (k : Int), .slice A n q]] w fun e w' => e = .returned (errN 3) ∧ RwX p ty B l w' ∧ Apart p B w w' := by
 have hmf : ∀ (fn : Fn) (first cap : Array Value) (w : World), (Instr.makeFunc fn first cap).run Tryz.prog w = .ok (.func fn first cap) w := fun _ _ _ _ => rfl
 have HR := Lib.hid hR
 clear hR
 go_enter_defers Tryz.func32, Tryz.ntmps32
 go_wp2_with fail
 refine (used_any 5 false 0 [] (k : Int) A n q _).mono ?_
 rw [hus]
 rintro e w1 ⟨rfl, hb1⟩
 obtain ⟨hbw, hS1, hE1, hsz⟩ := head_blocks w _ hb1
 clear hb1
 have c0 : w1.cell? ⟨w.heap.size, 0, none⟩ = some (.int .i64 5) := hS1.cell 0
 have c1 : w1.cell? ⟨w.heap.size, 1, none⟩ = some (.bool false) := hS1.cell 1
 have c2 : w1.cell? ⟨w.heap.size, 2, none⟩ = some (.int .u64 0) := hS1.cell 2
 have c3 : w1.cell? ⟨w.heap.size, 3, none⟩ = some (.string ⟨([] : Tx).toArray⟩) := hS1.cell 3
 have c4 : w1.cell? ⟨w.heap.size, 4, none⟩ = some (.int .i64 (k : Int)) := hS1.cell 4
 have c5 : w1.cell? ⟨w.heap.size, 5, none⟩ = some (.slice A n q) := hS1.cell 5
 clear hS1
 go_wp2_with fail
 refine (refuse_yes 2 _).mono ?_
 rintro e w' ⟨rfl, rfl⟩
 have hRX := ((HR.out.avoid (X' := fun k => k = w.heap.size + 1) fun k hk => .inr (by omega)).below hbw)
 have HRX := Lib.hid hRX
 clear hRX
 go_wp2_with fail
 refine (take_ok p ty B v l.length k xs _ HRX.out.bl HRX.out.own hk (by omega) HRX.out.rd.ones).mono ?_
 rintro e w2 ⟨v2, rfl, ho2, hb2⟩
 obtain ⟨A2, q2, rfl⟩ := own_slice ho2
 have hs2 := hb2.size
 have hxl : (xs.drop (l.length - k)).length = k := by have := ho2.1; simpa using this
 have hdl : (l.drop (l.length - k)).length = k := by rw [List.length_drop]; omega
 have hSx : ∀ j, (Value.slice A2 k q2).ownBlock = some j → Sx B (fun k => k = w.heap.size + 1) v j := by
  intro j hj
  have h1 := ho2.lt j hj
  have h2 := HR.out.le
  refine ⟨by omega, by omega, fun e => ?_⟩
  have := (HR.out.vlt j e.symm).2
  omega
 have hRow : Row (Sx B (fun k => k = w.heap.size + 1) v) w2 56 (.slice A2 k q2) (xs.drop (l.length - k)) := by
  have h := row_of_own ho2
  exact h.mono hSx
 have hRd := (HRX.out.below hb2).rd.drop (l.length - k)
 have HRow := Lib.hid hRow
 have HRd := Lib.hid hRd
 have HSx := Lib.hid hSx
 have HXL := Lib.hid hxl
 have HDL := Lib.hid hdl
 clear hRow hRd hSx ho2 hxl hdl
 go_wp2_with fail
 refine (summed_any _ _ _ (l.drop (l.length - k)) 0 _ HRow.out HRd.out (by omega) (by rw [HDL.out]; omega) (fun t ht => HR.out.fit t (List.mem_of_mem_drop ht))).mono ?_
 rintro e w3 ⟨rfl, hb3⟩
 have hs3 := hb3.size
 have hN : RdT (Sx B (fun k => k = w.heap.size + 1) v) (w3.alloc (.cells #[.int .i64 ((1 + nodesL (l.drop (l.length - k)) : Nat) : Int), .int .i64 ((0 + bytesL (l.drop (l.length - k)) : Nat) : Int), .int .i64 ((depthL (l.drop (l.length - k)) + 1 : Nat) : Int), .slice A2 k q2] 207)) (.list (l.drop (l.length - k))) (.iface 202 (.pointer (some ⟨w3.heap.size, 0, none⟩))) := by
  have h1 : Row (Sx B (fun k => k = w.heap.size + 1) v) w3 56 (.slice A2 (l.drop (l.length - k)).length q2) (xs.drop (l.length - k)) := by
   rw [HDL.out]
   exact HRow.out.move fun j hj hs => ⟨hs, hb3.block j hj⟩
  have h := new_list h1 (HRd.out.move fun j hj hs => ⟨hs, hb3.block j hj⟩) ⟨by have := HR.out.le; omega, by omega, fun e => by have := (HR.out.vlt _ e.symm).2; omega⟩ ((0 + bytesL (l.drop (l.length - k)) : Nat) : Int) (by rw [Nat.zero_add]; rfl)
  rw [HDL.out] at h
  exact h
 have hB4 := Blk.new w3 207 #[.int .i64 ((1 + nodesL (l.drop (l.length - k)) : Nat) : Int), .int .i64 ((0 + bytesL (l.drop (l.length - k)) : Nat) : Int), .int .i64 ((depthL (l.drop (l.length - k)) + 1 : Nat) : Int), .slice A2 k q2]
 have HM := Lib.hid (fun fuel nm hnm => method_list fuel w3.heap.size _ _ _ _ nm hnm (hB4.cell 0) (hB4.cell 1) (hB4.cell 2))
 have hwi : withinB ((1 + nodesL (l.drop (l.length - k)) : Nat) : Int) ((0 + bytesL (l.drop (l.length - k)) : Nat) : Int) ((depthL (l.drop (l.length - k)) + 1 : Nat) : Int) = false := by
  have h := fit_within (t := .list (l.drop (l.length - k)))
  rw [hf] at h
  rw [Nat.zero_add]
  exact h
 have hb24 : Below w1.heap.size w1 (w3.alloc (.cells #[.int .i64 ((1 + nodesL (l.drop (l.length - k)) : Nat) : Int), .int .i64 ((0 + bytesL (l.drop (l.length - k)) : Nat) : Int), .int .i64 ((depthL (l.drop (l.length - k)) + 1 : Nat) : Int), .slice A2 k q2] 207)) :=
  (hb2.trans (hb3.mono (by omega))).alloc (by omega) _
 have HN := Lib.hid hN
 have HW := Lib.hid hwi
 have HB24 := Lib.hid hb24
 clear hN hB4 hwi hb24
 have hbw4 := below_chain hbw (by omega) HB24.out
 have hE4 := hE1.below HB24.out hsz
 have hsz4 : w.heap.size + 1 < (w3.alloc (.cells #[.int .i64 ((1 + nodesL (l.drop (l.length - k)) : Nat) : Int), .int .i64 ((0 + bytesL (l.drop (l.length - k)) : Nat) : Int), .int .i64 ((depthL (l.drop (l.length - k)) + 1 : Nat) : Int), .slice A2 k q2] 207)).heap.size := by simp; omega
 have HBW4 := Lib.hid hbw4
 have HE4 := Lib.hid hE4
 have HSZ4 := Lib.hid hsz4
 clear hbw4 hE4 hsz4
 generalize ((1 + nodesL (l.drop (l.length - k)) : Nat) : Int) = n1 at *
 generalize ((0 + bytesL (l.drop (l.length - k)) : Nat) : Int) = b1 at *
 generalize ((depthL (l.drop (l.length - k)) + 1 : Nat) : Int) = e1 at *
 go_wp2_with fail
 refine (group_long _ _ _ _ n1 b1 e1 _ HM.out HW.out).mono ?_
 rintro e w5 ⟨rfl, hb5⟩
 obtain ⟨⟨hc, hz⟩, hc2, hrx, hbp⟩ := fin_err 3 HR.out HBW4.out (by omega) HSZ4.out HE4.out hb5
 go_wp2
 refine leaves_cons (f := 70) (args := #[.pointer (some ⟨w.heap.size + 1, 0, none⟩)]) (by simp) (by simp [go_sem]) ?_
 refine (catch_panicking ⟨w.heap.size + 1, 0, none⟩ _ 3 [] _ hc hz).mono ?_
 rintro e u' w'' ⟨rfl, rfl, rfl⟩
 unfold errN at hc2 hrx hbp ⊢
 simp [Leaves, settle, results, Tryz.results32, go_sem, hc2]
 exact ⟨hrx, hbp⟩
theorem do_list_ok (k : Nat) (A : Option Addr) (n q : Nat) (p : Nat) (ty : TypeId) (B : Nat) (l : List Tr) (v : Value) (xs : List Value) (w : World) (hR : Rw p ty B (fun _ => False) l v xs w) (hus : usedB 5 false 0 [] (k : Int) n = true) (hlen : l.length ≤ 65536) (hk : k ≤ l.length) (hf : (Tr.list (l.drop (l.length - k))).fit = true) :
  Calls Tryz.prog 32 #[.pointer (some ⟨p, 0, none⟩), .agg #[.int .i64 5, .bool false, .int .u64 0, .string ⟨([] : Tx).toArray⟩, .int .i64 (k : Int), .slice A n q]] w fun e w' => e = .returned .nilIface ∧ RwX p ty B (l.take (l.length - k) ++ [.list (l.drop (l.length - k))]) w' ∧ Apart p B w w' := by
 have hmf : ∀ (fn : Fn) (first cap : Array Value) (w : World), (Instr.makeFunc fn first cap).run Tryz.prog w = .ok (.func fn first cap) w := fun _ _ _ _ => rfl
 have HR := Lib.hid hR
 clear hR
 go_enter_defers Tryz.func32, Tryz.ntmps32
 go_wp2_with fail
 refine (used_any 5 false 0 [] (k : Int) A n q _).mono ?_
 rw [hus]
 rintro e w1 ⟨rfl, hb1⟩
 obtain ⟨hbw, hS1, hE1, hsz⟩ := head_blocks w _ hb1
 clear hb1
 have c0 : w1.cell? ⟨w.heap.size, 0, none⟩ = some (.int .i64 5) := hS1.cell 0
 have c1 : w1.cell? ⟨w.heap.size, 1, none⟩ = some (.bool false) := hS1.cell 1
 have c2 : w1.cell? ⟨w.heap.size, 2, none⟩ = some (.int .u64 0) := hS1.cell 2
 have c3 : w1.cell? ⟨w.heap.size, 3, none⟩ = some (.string ⟨([] : Tx).toArray⟩) := hS1.cell 3
 have c4 : w1.cell? ⟨w.heap.size, 4, none⟩ = some (.int .i64 (k : Int)) := hS1.cell 4
 have c5 : w1.cell? ⟨w.heap.size, 5, none⟩ = some (.slice A n q) := hS1.cell 5
 clear hS1
 go_wp2_with fail
 refine (refuse_yes 2 _).mono ?_
 rintro e w' ⟨rfl, rfl⟩
 have hRX := ((HR.out.avoid (X' := fun k => k = w.heap.size + 1) fun k hk => .inr (by omega)).below hbw)
 have HRX := Lib.hid hRX
 clear hRX
 go_wp2_with fail
 refine (take_ok p ty B v l.length k xs _ HRX.out.bl HRX.out.own hk (by omega) HRX.out.rd.ones).mono ?_
 rintro e w2 ⟨v2, rfl, ho2, hb2⟩
 obtain ⟨A2, q2, rfl⟩ := own_slice ho2
 have hs2 := hb2.size
 have hxl : (xs.drop (l.length - k)).length = k := by have := ho2.1; simpa using this
 have hdl : (l.drop (l.length - k)).length = k := by rw [List.length_drop]; omega
 have hSx : ∀ j, (Value.slice A2 k q2).ownBlock = some j → Sx B (fun k => k = w.heap.size + 1) v j := by
  intro j hj
  have h1 := ho2.lt j hj
  have h2 := HR.out.le
  refine ⟨by omega, by omega, fun e => ?_⟩
  have := (HR.out.vlt j e.symm).2
  omega
 have hRow : Row (Sx B (fun k => k = w.heap.size + 1) v) w2 56 (.slice A2 k q2) (xs.drop (l.length - k)) := by
  have h := row_of_own ho2
  exact h.mono hSx
 have hRd := (HRX.out.below hb2).rd.drop (l.length - k)
 have HRow := Lib.hid hRow
 have HRd := Lib.hid hRd
 have HSx := Lib.hid hSx
 have HXL := Lib.hid hxl
 have HDL := Lib.hid hdl
 clear hRow hRd hSx ho2 hxl hdl
 go_wp2_with fail
 refine (summed_any _ _ _ (l.drop (l.length - k)) 0 _ HRow.out HRd.out (by omega) (by rw [HDL.out]; omega) (fun t ht => HR.out.fit t (List.mem_of_mem_drop ht))).mono ?_
 rintro e w3 ⟨rfl, hb3⟩
 have hs3 := hb3.size
 have hN : RdT (Sx B (fun k => k = w.heap.size + 1) v) (w3.alloc (.cells #[.int .i64 ((1 + nodesL (l.drop (l.length - k)) : Nat) : Int), .int .i64 ((0 + bytesL (l.drop (l.length - k)) : Nat) : Int), .int .i64 ((depthL (l.drop (l.length - k)) + 1 : Nat) : Int), .slice A2 k q2] 207)) (.list (l.drop (l.length - k))) (.iface 202 (.pointer (some ⟨w3.heap.size, 0, none⟩))) := by
  have h1 : Row (Sx B (fun k => k = w.heap.size + 1) v) w3 56 (.slice A2 (l.drop (l.length - k)).length q2) (xs.drop (l.length - k)) := by
   rw [HDL.out]
   exact HRow.out.move fun j hj hs => ⟨hs, hb3.block j hj⟩
  have h := new_list h1 (HRd.out.move fun j hj hs => ⟨hs, hb3.block j hj⟩) ⟨by have := HR.out.le; omega, by omega, fun e => by have := (HR.out.vlt _ e.symm).2; omega⟩ ((0 + bytesL (l.drop (l.length - k)) : Nat) : Int) (by rw [Nat.zero_add]; rfl)
  rw [HDL.out] at h
  exact h
 have hB4 := Blk.new w3 207 #[.int .i64 ((1 + nodesL (l.drop (l.length - k)) : Nat) : Int), .int .i64 ((0 + bytesL (l.drop (l.length - k)) : Nat) : Int), .int .i64 ((depthL (l.drop (l.length - k)) + 1 : Nat) : Int), .slice A2 k q2]
 have HM := Lib.hid (fun fuel nm hnm => method_list fuel w3.heap.size _ _ _ _ nm hnm (hB4.cell 0) (hB4.cell 1) (hB4.cell 2))
 have hwi : withinB ((1 + nodesL (l.drop (l.length - k)) : Nat) : Int) ((0 + bytesL (l.drop (l.length - k)) : Nat) : Int) ((depthL (l.drop (l.length - k)) + 1 : Nat) : Int) = true := by
  have h := fit_within (t := .list (l.drop (l.length - k)))
  rw [hf] at h
  rw [Nat.zero_add]
  exact h
 have hb24 : Below w1.heap.size w1 (w3.alloc (.cells #[.int .i64 ((1 + nodesL (l.drop (l.length - k)) : Nat) : Int), .int .i64 ((0 + bytesL (l.drop (l.length - k)) : Nat) : Int), .int .i64 ((depthL (l.drop (l.length - k)) + 1 : Nat) : Int), .slice A2 k q2] 207)) :=
  (hb2.trans (hb3.mono (by omega))).alloc (by omega) _
 have HN := Lib.hid hN
 have HW := Lib.hid hwi
 have HB24 := Lib.hid hb24
 clear hN hB4 hwi hb24
 have hbw4 := below_chain hbw (by omega) HB24.out
 have hE4 := hE1.below HB24.out hsz
 have hsz4 : w.heap.size + 1 < (w3.alloc (.cells #[.int .i64 ((1 + nodesL (l.drop (l.length - k)) : Nat) : Int), .int .i64 ((0 + bytesL (l.drop (l.length - k)) : Nat) : Int), .int .i64 ((depthL (l.drop (l.length - k)) + 1 : Nat) : Int), .slice A2 k q2] 207)).heap.size := by simp; omega
 have HBW4 := Lib.hid hbw4
 have HE4 := Lib.hid hE4
 have HSZ4 := Lib.hid hsz4
 clear hbw4 hE4 hsz4
 generalize ((1 + nodesL (l.drop (l.length - k)) : Nat) : Int) = n1 at *
 generalize ((0 + bytesL (l.drop (l.length - k)) : Nat) : Int) = b1 at *
 generalize ((depthL (l.drop (l.length - k)) + 1 : Nat) : Int) = e1 at *
 go_wp2_with fail
 refine (group_ok k _ _ n1 b1 e1 (HRX.out.below HB24.out) hk (by omega) HM.out HW.out rfl).mono ?_
 rintro e w5 ⟨rfl, hP⟩
 obtain ⟨v5, xs5, hR5, hob5, hb5, hk5⟩ := hP.rw (HRX.out.below HB24.out) hk HN.out hf
 obtain ⟨⟨hc, hz⟩, hc2, hrx, hbp⟩ := fin_ok HR.out HBW4.out (by omega) HSZ4.out HE4.out hR5 hob5 hb5 hk5
 go_wp2
 refine leaves_cons (f := 70) (args := #[.pointer (some ⟨w.heap.size + 1, 0, none⟩)]) (by simp) (by simp [go_sem]) ?_
 refine (catch_idle ⟨w.heap.size + 1, 0, none⟩ _).mono ?_
 rintro e u' w'' ⟨rfl, rfl, rfl⟩
 simp [Leaves, settle, results, Tryz.results32, go_sem, hc2]
 exact ⟨hrx, hbp⟩
end Nd
end Go.Proofs.YtbajkglacfheiaaGreatDoor
