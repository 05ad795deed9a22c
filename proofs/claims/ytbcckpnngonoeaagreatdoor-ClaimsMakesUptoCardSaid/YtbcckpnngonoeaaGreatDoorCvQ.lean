/-
  Walks of the statements' own functions of layer 25: rules, number, broken, verdict (printed by wip/gen_clq.py).
-/
import Derived.Test.YtbcckpnngonoeaaGreatDoorCvM
namespace Go.Proofs.YtbcckpnngonoeaaGreatDoor
open Go.RowKit Mem Utf Ref3 Tok Cl
set_option linter.unusedVariables false


set_option maxRecDepth 100000 in
set_option maxHeartbeats 4000000 in
theorem rules_any (r : R) (A1 A2 A3 : Option Addr) (n1 n2 n3 c1 c2 c3 : Nat) (w : World) :
    Calls Tryz.prog 23 #[.agg #[.int .i64 r.now, .int .i64 r.slack, .string ⟨r.who.toArray⟩, .slice A1 n1 c1, .slice A2 n2 c2, .slice A3 n3 c3]] w
      fun e w' => e = .returned (.tuple #[.agg #[.int .i64 r.now, .int .i64 r.slack, .string ⟨r.who.toArray⟩, .slice A1 n1 c1, .slice A2 n2 c2, .slice A3 n3 c3], .bool (Cl.isTime r.now && Cl.isTime r.slack)]) ∧ Below w.heap.size w w' := by
  have HA : Hid (∀ t : Int, Cl.isTime t = decide (0 ≤ t ∧ t ≤ 9007199254740991)) := Lib.hid fun t => rfl
  generalize r.now = a
  generalize r.slack = b
  generalize r.who = s
  by_cases h1 : 0 ≤ a
  · by_cases h2 : a ≤ 9007199254740991
    · by_cases h3 : 0 ≤ b
      · by_cases h4 : b ≤ 9007199254740991
        ·
          have HV : Hid ((Cl.isTime a && Cl.isTime b) = true) := Lib.hid (by rw [HA.out, HA.out]; simp; omega)
          clear HA
          go_enter Tryz.func23, Tryz.ntmps23
          go_wp2
          refine bodyPost_ret (v := .tuple #[.agg #[.int .i64 a, .int .i64 b, .string ⟨s.toArray⟩, .slice A1 n1 c1, .slice A2 n2 c2, .slice A3 n3 c3], .bool true]) (by simp [results, Tryz.results23, go_sem]) rfl ⟨by rw [HV.out], ?_⟩
          exact ((Below.refl _ _).alloc (Nat.le_refl _) _).alloc (by simp) _
        ·
          have HV : Hid ((Cl.isTime a && Cl.isTime b) = false) := Lib.hid (by rw [HA.out, HA.out]; simp; omega)
          clear HA
          go_enter Tryz.func23, Tryz.ntmps23
          go_wp2
          refine bodyPost_ret (v := .tuple #[.agg #[.int .i64 a, .int .i64 b, .string ⟨s.toArray⟩, .slice A1 n1 c1, .slice A2 n2 c2, .slice A3 n3 c3], .bool false]) (by simp [results, Tryz.results23, go_sem]) rfl ⟨by rw [HV.out], ?_⟩
          exact ((Below.refl _ _).alloc (Nat.le_refl _) _).alloc (by simp) _
      ·
        have HV : Hid ((Cl.isTime a && Cl.isTime b) = false) := Lib.hid (by rw [HA.out, HA.out]; simp; omega)
        clear HA
        go_enter Tryz.func23, Tryz.ntmps23
        go_wp2
        refine bodyPost_ret (v := .tuple #[.agg #[.int .i64 a, .int .i64 b, .string ⟨s.toArray⟩, .slice A1 n1 c1, .slice A2 n2 c2, .slice A3 n3 c3], .bool false]) (by simp [results, Tryz.results23, go_sem]) rfl ⟨by rw [HV.out], ?_⟩
        exact ((Below.refl _ _).alloc (Nat.le_refl _) _).alloc (by simp) _
    ·
      have HV : Hid ((Cl.isTime a && Cl.isTime b) = false) := Lib.hid (by rw [HA.out, HA.out]; simp; omega)
      clear HA
      go_enter Tryz.func23, Tryz.ntmps23
      go_wp2
      refine bodyPost_ret (v := .tuple #[.agg #[.int .i64 a, .int .i64 b, .string ⟨s.toArray⟩, .slice A1 n1 c1, .slice A2 n2 c2, .slice A3 n3 c3], .bool false]) (by simp [results, Tryz.results23, go_sem]) rfl ⟨by rw [HV.out], ?_⟩
      exact ((Below.refl _ _).alloc (Nat.le_refl _) _).alloc (by simp) _
  ·
    have HV : Hid ((Cl.isTime a && Cl.isTime b) = false) := Lib.hid (by rw [HA.out, HA.out]; simp; omega)
    clear HA
    go_enter Tryz.func23, Tryz.ntmps23
    go_wp2
    refine bodyPost_ret (v := .tuple #[.agg #[.int .i64 a, .int .i64 b, .string ⟨s.toArray⟩, .slice A1 n1 c1, .slice A2 n2 c2, .slice A3 n3 c3], .bool false]) (by simp [results, Tryz.results23, go_sem]) rfl ⟨by rw [HV.out], ?_⟩
    exact ((Below.refl _ _).alloc (Nat.le_refl _) _).alloc (by simp) _

theorem tb_ok (v : Value) (w : World) : (Instr.typeAssert (.iface 42 v) 34 42 true).run Tryz.prog w = .ok (.tuple #[v, .bool true]) w := by kernel_rfl
theorem tn_ok (v : Value) (w : World) : (Instr.typeAssert (.iface 46 v) 30 46 true).run Tryz.prog w = .ok (.tuple #[v, .bool true]) w := by kernel_rfl
set_option maxHeartbeats 1000000 in
theorem number25_any (n : Int) (w : World) : Calls Tryz.prog 14 #[.iface 46 (.int .i64 n), .int .i64 n] w fun e w' => e = .returned (.bool true) ∧ w = w' := by
  have t1 := tn_ok
  have e1 : (n == n) = true := by simp
  go_enter Tryz.func14, Tryz.ntmps14
  go_wp2
  go_ret
  exact ⟨rfl, rfl⟩
theorem ptr_ne (a : Addr) (w : World) : (binOp .neq 42 (.pointer (some a)) (.pointer none)).run Tryz.prog w = .ok (.bool true) w := by kernel_rfl
set_option maxRecDepth 100000 in
set_option maxHeartbeats 1000000 in
theorem broken_any (b : Nat) (w : World) (h : Blk w b 50 #[.iface 46 (.int .i64 2)]) :
    Calls Tryz.prog 24 #[.iface 42 (.pointer (some ⟨b, 0, none⟩)), .int .i64 2] w fun e w' => e = .returned (.bool true) ∧ Below w.heap.size w w' := by
  have t1 := tb_ok
  have p1 := ptr_ne
  have c0 := h.cell 0
  have c1 : w.cell? ⟨b, 0, none⟩ = some (.iface 46 (.int .i64 2)) := c0
  clear c0
  go_enter Tryz.func24, Tryz.ntmps24
  go_wp2_with fail
  refine (number25_any 2 _).mono ?_
  rintro e w' ⟨rfl, rfl⟩
  go_wp2
  go_ret
  exact ⟨rfl, Below.refl _ _⟩
theorem tv_0_0 (v : Value) (w : World) : (Instr.typeAssert (.iface 110 v) 34 110 true).run Tryz.prog w = .ok (.tuple #[v, .bool true]) w := by kernel_rfl
theorem tv_1_0 (v : Value) (w : World) : (Instr.typeAssert (.iface 125 v) 34 110 true).run Tryz.prog w = .ok (.tuple #[.agg #[.int .i64 0], .bool false]) w := by kernel_rfl
theorem tv_1_1 (v : Value) (w : World) : (Instr.typeAssert (.iface 125 v) 34 125 true).run Tryz.prog w = .ok (.tuple #[v, .bool true]) w := by kernel_rfl
theorem tv_2_0 (v : Value) (w : World) : (Instr.typeAssert (.iface 112 v) 34 110 true).run Tryz.prog w = .ok (.tuple #[.agg #[.int .i64 0], .bool false]) w := by kernel_rfl
theorem tv_2_1 (v : Value) (w : World) : (Instr.typeAssert (.iface 112 v) 34 125 true).run Tryz.prog w = .ok (.tuple #[.agg #[.int .i64 0], .bool false]) w := by kernel_rfl
theorem tv_2_2 (v : Value) (w : World) : (Instr.typeAssert (.iface 112 v) 34 112 true).run Tryz.prog w = .ok (.tuple #[v, .bool true]) w := by kernel_rfl
theorem tv_3_0 (v : Value) (w : World) : (Instr.typeAssert (.iface 127 v) 34 110 true).run Tryz.prog w = .ok (.tuple #[.agg #[.int .i64 0], .bool false]) w := by kernel_rfl
theorem tv_3_1 (v : Value) (w : World) : (Instr.typeAssert (.iface 127 v) 34 125 true).run Tryz.prog w = .ok (.tuple #[.agg #[.int .i64 0], .bool false]) w := by kernel_rfl
theorem tv_3_2 (v : Value) (w : World) : (Instr.typeAssert (.iface 127 v) 34 112 true).run Tryz.prog w = .ok (.tuple #[.agg #[.int .i64 0], .bool false]) w := by kernel_rfl
theorem tv_3_3 (v : Value) (w : World) : (Instr.typeAssert (.iface 127 v) 34 127 true).run Tryz.prog w = .ok (.tuple #[v, .bool true]) w := by kernel_rfl
theorem tv_4_0 (v : Value) (w : World) : (Instr.typeAssert (.iface 129 v) 34 110 true).run Tryz.prog w = .ok (.tuple #[.agg #[.int .i64 0], .bool false]) w := by kernel_rfl
theorem tv_4_1 (v : Value) (w : World) : (Instr.typeAssert (.iface 129 v) 34 125 true).run Tryz.prog w = .ok (.tuple #[.agg #[.int .i64 0], .bool false]) w := by kernel_rfl
theorem tv_4_2 (v : Value) (w : World) : (Instr.typeAssert (.iface 129 v) 34 112 true).run Tryz.prog w = .ok (.tuple #[.agg #[.int .i64 0], .bool false]) w := by kernel_rfl
theorem tv_4_3 (v : Value) (w : World) : (Instr.typeAssert (.iface 129 v) 34 127 true).run Tryz.prog w = .ok (.tuple #[.agg #[.string ⟨#[]⟩], .bool false]) w := by kernel_rfl
theorem tv_4_4 (v : Value) (w : World) : (Instr.typeAssert (.iface 129 v) 34 129 true).run Tryz.prog w = .ok (.tuple #[v, .bool true]) w := by kernel_rfl
theorem tv_5_0 (v : Value) (w : World) : (Instr.typeAssert (.iface 131 v) 34 110 true).run Tryz.prog w = .ok (.tuple #[.agg #[.int .i64 0], .bool false]) w := by kernel_rfl
theorem tv_5_1 (v : Value) (w : World) : (Instr.typeAssert (.iface 131 v) 34 125 true).run Tryz.prog w = .ok (.tuple #[.agg #[.int .i64 0], .bool false]) w := by kernel_rfl
theorem tv_5_2 (v : Value) (w : World) : (Instr.typeAssert (.iface 131 v) 34 112 true).run Tryz.prog w = .ok (.tuple #[.agg #[.int .i64 0], .bool false]) w := by kernel_rfl
theorem tv_5_3 (v : Value) (w : World) : (Instr.typeAssert (.iface 131 v) 34 127 true).run Tryz.prog w = .ok (.tuple #[.agg #[.string ⟨#[]⟩], .bool false]) w := by kernel_rfl
theorem tv_5_4 (v : Value) (w : World) : (Instr.typeAssert (.iface 131 v) 34 129 true).run Tryz.prog w = .ok (.tuple #[.agg #[.string ⟨#[]⟩], .bool false]) w := by kernel_rfl
theorem tv_5_5 (v : Value) (w : World) : (Instr.typeAssert (.iface 131 v) 34 131 true).run Tryz.prog w = .ok (.tuple #[v, .bool true]) w := by kernel_rfl
theorem tv_6_0 (v : Value) (w : World) : (Instr.typeAssert (.iface 133 v) 34 110 true).run Tryz.prog w = .ok (.tuple #[.agg #[.int .i64 0], .bool false]) w := by kernel_rfl
theorem tv_6_1 (v : Value) (w : World) : (Instr.typeAssert (.iface 133 v) 34 125 true).run Tryz.prog w = .ok (.tuple #[.agg #[.int .i64 0], .bool false]) w := by kernel_rfl
theorem tv_6_2 (v : Value) (w : World) : (Instr.typeAssert (.iface 133 v) 34 112 true).run Tryz.prog w = .ok (.tuple #[.agg #[.int .i64 0], .bool false]) w := by kernel_rfl
theorem tv_6_3 (v : Value) (w : World) : (Instr.typeAssert (.iface 133 v) 34 127 true).run Tryz.prog w = .ok (.tuple #[.agg #[.string ⟨#[]⟩], .bool false]) w := by kernel_rfl
theorem tv_6_4 (v : Value) (w : World) : (Instr.typeAssert (.iface 133 v) 34 129 true).run Tryz.prog w = .ok (.tuple #[.agg #[.string ⟨#[]⟩], .bool false]) w := by kernel_rfl
theorem tv_6_5 (v : Value) (w : World) : (Instr.typeAssert (.iface 133 v) 34 131 true).run Tryz.prog w = .ok (.tuple #[.agg #[.slice none 0 0], .bool false]) w := by kernel_rfl
theorem tv_6_6 (v : Value) (w : World) : (Instr.typeAssert (.iface 133 v) 34 133 true).run Tryz.prog w = .ok (.tuple #[v, .bool true]) w := by kernel_rfl
/-- a verdict as the document has it -/
def VerdR (w : World) (v : Value) (x : Verd) : Prop := ∃ s, v = .agg #[.int .i64 (x.kind : Int), .int .i64 x.time, .string ⟨x.text.toArray⟩, s] ∧ Rd w s x.list

set_option maxRecDepth 100000 in
set_option maxHeartbeats 2000000 in
theorem verdict1_any (t : Int) (x : ByteArray) (A : Option Addr) (n q : Nat) (w : World) : Calls Tryz.prog 25 #[.iface 110 (.agg #[.int .i64 t]), .agg #[.int .i64 1, .int .i64 t, .string x, .slice A n q]] w fun e w' => e = .returned (.bool true) ∧ Below w.heap.size w w' := by
  have t0 := tv_0_0
  have e1 : (t == t) = true := by simp
  go_enter Tryz.func25, Tryz.ntmps25
  go_wp2
  go_ret
  exact ⟨rfl, ((Below.refl _ _).alloc (Nat.le_refl _) _).alloc (by simp) _⟩

set_option maxRecDepth 100000 in
set_option maxHeartbeats 2000000 in
theorem verdict2_any (t : Int) (x : ByteArray) (A : Option Addr) (n q : Nat) (w : World) : Calls Tryz.prog 25 #[.iface 125 (.agg #[.int .i64 t]), .agg #[.int .i64 2, .int .i64 t, .string x, .slice A n q]] w fun e w' => e = .returned (.bool true) ∧ Below w.heap.size w w' := by
  have t0 := tv_1_0
  have t1 := tv_1_1
  have e1 : (t == t) = true := by simp
  go_enter Tryz.func25, Tryz.ntmps25
  go_wp2
  go_ret
  exact ⟨rfl, ((Below.refl _ _).alloc (Nat.le_refl _) _).alloc (by simp) _⟩

set_option maxRecDepth 100000 in
set_option maxHeartbeats 2000000 in
theorem verdict3_any (t : Int) (x : ByteArray) (A : Option Addr) (n q : Nat) (w : World) : Calls Tryz.prog 25 #[.iface 112 (.agg #[.int .i64 t]), .agg #[.int .i64 3, .int .i64 t, .string x, .slice A n q]] w fun e w' => e = .returned (.bool true) ∧ Below w.heap.size w w' := by
  have t0 := tv_2_0
  have t1 := tv_2_1
  have t2 := tv_2_2
  have e1 : (t == t) = true := by simp
  go_enter Tryz.func25, Tryz.ntmps25
  go_wp2
  go_ret
  exact ⟨rfl, ((Below.refl _ _).alloc (Nat.le_refl _) _).alloc (by simp) _⟩

set_option maxRecDepth 100000 in
set_option maxHeartbeats 2000000 in
theorem verdict4_any (t : Int) (x : Txt) (A : Option Addr) (n q : Nat) (w : World) : Calls Tryz.prog 25 #[.iface 127 (.agg #[.string ⟨x.toArray⟩]), .agg #[.int .i64 4, .int .i64 t, .string ⟨x.toArray⟩, .slice A n q]] w fun e w' => e = .returned (.bool true) ∧ Below w.heap.size w w' := by
  have t0 := tv_3_0
  have t1 := tv_3_1
  have t2 := tv_3_2
  have t3 := tv_3_3
  have e1 : (x == x) = true := by simp
  go_enter Tryz.func25, Tryz.ntmps25
  go_wp2
  go_ret
  exact ⟨rfl, ((Below.refl _ _).alloc (Nat.le_refl _) _).alloc (by simp) _⟩

set_option maxRecDepth 100000 in
set_option maxHeartbeats 2000000 in
theorem verdict5_any (t : Int) (x : Txt) (A : Option Addr) (n q : Nat) (w : World) : Calls Tryz.prog 25 #[.iface 129 (.agg #[.string ⟨x.toArray⟩]), .agg #[.int .i64 5, .int .i64 t, .string ⟨x.toArray⟩, .slice A n q]] w fun e w' => e = .returned (.bool true) ∧ Below w.heap.size w w' := by
  have t0 := tv_4_0
  have t1 := tv_4_1
  have t2 := tv_4_2
  have t3 := tv_4_3
  have t4 := tv_4_4
  have e1 : (x == x) = true := by simp
  go_enter Tryz.func25, Tryz.ntmps25
  go_wp2
  go_ret
  exact ⟨rfl, ((Below.refl _ _).alloc (Nat.le_refl _) _).alloc (by simp) _⟩

set_option maxRecDepth 100000 in
set_option maxHeartbeats 2000000 in
theorem verdict6_any (t : Int) (x : ByteArray) (A A' : Option Addr) (q q' : Nat) (l : List Txt) (w : World) (h1 : Rd w (.slice A l.length q) l) (h2 : Rd w (.slice A' l.length q') l) (hl : l.length ≤ 1099511627776) :
    Calls Tryz.prog 25 #[.iface 131 (.agg #[.slice A l.length q]), .agg #[.int .i64 6, .int .i64 t, .string x, .slice A' l.length q']] w fun e w' => e = .returned (.bool true) ∧ Below w.heap.size w w' := by
  have t0 := tv_5_0
  have t1 := tv_5_1
  have t2 := tv_5_2
  have t3 := tv_5_3
  have t4 := tv_5_4
  have t5 := tv_5_5
  have hb : ∀ cs ds, Below w.heap.size w ((w.alloc (.cells cs 84)).alloc (.cells ds 131)) := fun cs ds => ((Below.refl _ _).alloc (Nat.le_refl _) _).alloc (by simp) _
  go_enter Tryz.func25, Tryz.ntmps25
  go_wp2_with fail
  refine (texts25_any _ _ l l _ (h1.below (hb _ _)) (h2.below (hb _ _)) (by omega) (by omega)).mono ?_
  rintro e w' ⟨rfl, hb2⟩
  rw [decide_eq_true rfl]
  have hb3 := below_chain (hb _ _) (hb _ _).size hb2
  clear hb hb2
  go_wp2
  go_ret
  exact ⟨rfl, hb3⟩

set_option maxRecDepth 100000 in
set_option maxHeartbeats 2000000 in
theorem verdict7_any (t : Int) (x : ByteArray) (A A' : Option Addr) (q q' : Nat) (l : List Txt) (w : World) (h1 : Rd w (.slice A l.length q) l) (h2 : Rd w (.slice A' l.length q') l) (hl : l.length ≤ 1099511627776) :
    Calls Tryz.prog 25 #[.iface 133 (.agg #[.slice A l.length q]), .agg #[.int .i64 7, .int .i64 t, .string x, .slice A' l.length q']] w fun e w' => e = .returned (.bool true) ∧ Below w.heap.size w w' := by
  have t0 := tv_6_0
  have t1 := tv_6_1
  have t2 := tv_6_2
  have t3 := tv_6_3
  have t4 := tv_6_4
  have t5 := tv_6_5
  have t6 := tv_6_6
  have hb : ∀ cs ds, Below w.heap.size w ((w.alloc (.cells cs 84)).alloc (.cells ds 133)) := fun cs ds => ((Below.refl _ _).alloc (Nat.le_refl _) _).alloc (by simp) _
  go_enter Tryz.func25, Tryz.ntmps25
  go_wp2_with fail
  refine (texts25_any _ _ l l _ (h1.below (hb _ _)) (h2.below (hb _ _)) (by omega) (by omega)).mono ?_
  rintro e w' ⟨rfl, hb2⟩
  rw [decide_eq_true rfl]
  have hb3 := below_chain (hb _ _) (hb _ _).size hb2
  clear hb hb2
  go_wp2
  go_ret
  exact ⟨rfl, hb3⟩

theorem verdict_any (B : Nat) (v u : Value) (x : Verd) (w : World) (hv : VerdV B w v x) (hu : VerdR w u x) (hk : 1 ≤ x.kind ∧ x.kind ≤ 7) (hl : x.list.length ≤ 1099511627776) :
    Calls Tryz.prog 25 #[v, u] w fun e w' => e = .returned (.bool true) ∧ Below w.heap.size w w' := by
  obtain ⟨k, t, s, l⟩ := x
  obtain ⟨sl, rfl, hr⟩ := hu
  obtain ⟨A, q, rfl, hA⟩ := hr
  have hr : Rd w (.slice A l.length q) l := ⟨A, q, rfl, hA⟩
  clear hA
  simp only [] at hk hl hv
  have h8 : k = 1 ∨ k = 2 ∨ k = 3 ∨ k = 4 ∨ k = 5 ∨ k = 6 ∨ k = 7 := by omega
  rcases h8 with rfl | rfl | rfl | rfl | rfl | rfl | rfl
  · obtain rfl : v = _ := hv
    exact verdict1_any t ⟨s.toArray⟩ A l.length q w
  · obtain rfl : v = _ := hv
    exact verdict2_any t ⟨s.toArray⟩ A l.length q w
  · obtain rfl : v = _ := hv
    exact verdict3_any t ⟨s.toArray⟩ A l.length q w
  · obtain rfl : v = _ := hv
    exact verdict4_any t s A l.length q w
  · obtain rfl : v = _ := hv
    exact verdict5_any t s A l.length q w
  · obtain ⟨y, rfl, ho⟩ := (hv : ∃ s, v = .iface 131 (.agg #[s]) ∧ w.ownsRow B 9 1 s l.length (l.map strV))
    have h1 := Rd.of_own ho
    obtain ⟨A', q', rfl⟩ := own_sliceP ho
    exact verdict6_any t ⟨s.toArray⟩ A' A q' q l w h1 hr hl
  · obtain ⟨y, rfl, ho⟩ := (hv : ∃ s, v = .iface 133 (.agg #[s]) ∧ w.ownsRow B 9 1 s l.length (l.map strV))
    have h1 := Rd.of_own ho
    obtain ⟨A', q', rfl⟩ := own_sliceP ho
    exact verdict7_any t ⟨s.toArray⟩ A' A q' q l w h1 hr hl
end Go.Proofs.YtbcckpnngonoeaaGreatDoor

