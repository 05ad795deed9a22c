/-
  Walks of package node: the step that puts a null.
-/
import Derived.Test.YtfhfkggkbeahbaaNdC
namespace Go.Proofs.Ytfhfkggkbeahbaa
open Go.RowKit Mem
set_option linter.unusedVariables false

set_option maxRecDepth 100000 in
set_option maxHeartbeats 4000000 in
theorem do_null (p : Nat) (ty : TypeId) (B : Nat) (v : Value) (n : Nat) (xs : List Value) (w : World) (hB : Blk w p ty #[v]) (hown : w.ownsRow B 46 1 v n xs) (hp : p < B) (hn : n ≤ 1099511627776) (hBw : B ≤ w.heap.size) :
    Calls Try.prog 27 #[.pointer (some ⟨p, 0, none⟩), .agg #[.int .i64 1, .bool false, .int .u64 0, .string ⟨#[]⟩, .int .i64 0, .slice none 0 0]] w fun e w' => e = .returned .nilIface ∧ ∃ v', Blk w' p ty #[v'] ∧ w'.ownsRow B 46 1 v' (n + 1) (xs ++ [nullV]) ∧ Below p w w' := by
  have hmf : ∀ (fn : Fn) (first cap : Array Value) (w : World), (Instr.makeFunc fn first cap).run Try.prog w = .ok (.func fn first cap) w := fun _ _ _ _ => rfl
  have hus : usedB 1 false 0 [] 0 0 = true := by decide
  have hb0 : ∀ o1 o2, Below w.heap.size w ((w.alloc o1).alloc o2) := fun o1 o2 => ((Below.refl _ _).alloc (Nat.le_refl _) _).alloc (by simp) _
  go_enter_defers Try.func27, Try.ntmps27
  go_wp2_with fail
  refine (used_any 1 false 0 [] 0 none 0 0 _).mono ?_
  rw [hus]
  rintro e w1 ⟨rfl, hb1⟩
  have hsz : ((w.alloc (.cells #[.int .i64 1, .bool false, .int .u64 0, .string ⟨#[]⟩, .int .i64 0, .slice none 0 0] 42)).alloc (.cells #[.nilIface] 27)).heap.size = w.heap.size + 2 := by simp
  have hS1 := ((Blk.new w 42 #[.int .i64 1, .bool false, .int .u64 0, .string ⟨#[]⟩, .int .i64 0, .slice none 0 0]).alloc (.cells #[.nilIface] 27)).below hb1 (by rw [hsz]; omega)
  have hE1 := (Blk.new (w.alloc (.cells #[.int .i64 1, .bool false, .int .u64 0, .string ⟨#[]⟩, .int .i64 0, .slice none 0 0] 42)) 27 #[.nilIface]).below hb1 (by simp)
  have hb1' := below_chain (hb0 _ _) (by rw [hsz]; omega) hb1
  have hB1 := hB.below hb1' hB.lt
  have hown1 := own_below hown hb1'
  have hbp1 : Below p w w1 := hb1'.mono (by omega)
  have hs1 := hb1'.size
  have hlt : ∀ k, v.ownBlock = some k → k < w.heap.size := fun k e => (hown.lt k e).2
  have HLT := Lib.hid hlt
  have hq : (w.alloc (.cells #[.int .i64 1, .bool false, .int .u64 0, .string ⟨#[]⟩, .int .i64 0, .slice none 0 0] 42)).heap.size = w.heap.size + 1 := by simp
  rw [hq] at hE1
  clear hb1 hb1' hB hown hb0 hsz hlt hq
  have c0 : w1.cell? ⟨w.heap.size, 0, none⟩ = some (.int .i64 1) := hS1.cell 0
  go_wp2_with fail
  refine (refuse_yes 2 _).mono ?_
  rintro e w' ⟨rfl, rfl⟩
  go_wp2_with fail
  refine (put_null p ty B v n xs _ hB1 hown1 hp hn (by omega)).mono ?_
  rintro e w2 ⟨rfl, v2, hB2, hown2, hbp2, hk2⟩
  have hE2 := hk2 _ _ _ (by omega) (by intro e; have := HLT.out _ e.symm; omega) hE1
  have cE : w2.cell? ⟨w.heap.size + 1, 0, none⟩ = some .nilIface := hE2.cell 0
  have fE := hE2.frozen 0
  have hne : v2.ownBlock ≠ some (w.heap.size + 1) := by
    intro e
    rcases hown2.2 with ⟨rfl, _⟩ | ⟨g', cap, cur, rfl, _, hh, _⟩
    · cases e
    · injection e with e
      have e' : g' = w.heap.size + 1 := e
      subst e'
      have := hh.symm.trans hE2
      injection this with this
      injection this with _ this
      exact absurd this (by decide)
  have hB3 := hB2.far (p := ⟨w.heap.size + 1, 0, none⟩) (by show p ≠ w.heap.size + 1; omega) .nilIface
  have hown3 : (w2.setCell ⟨w.heap.size + 1, 0, none⟩ .nilIface).ownsRow B 46 1 v2 (n + 1) (xs ++ [nullV]) := hown2.kept (grown_put (grown_refl w2 (some (w.heap.size + 1))) 0 _) (.inr hne)
  have hbp3 : Below p w (w2.setCell ⟨w.heap.size + 1, 0, none⟩ .nilIface) := (hbp1.trans hbp2).setCell (by show p ≤ w.heap.size + 1; omega) _
  have cE3 : (w2.setCell ⟨w.heap.size + 1, 0, none⟩ .nilIface).cell? ⟨w.heap.size + 1, 0, none⟩ = some .nilIface := (hE2.put 0 _).cell 0
  go_wp2
  refine leaves_cons (f := 32) (args := #[.pointer (some ⟨w.heap.size + 1, 0, none⟩)]) (by simp) (by simp [go_sem]) ?_
  refine (catch_idle ⟨w.heap.size + 1, 0, none⟩ _).mono ?_
  rintro e u' w'' ⟨rfl, rfl, rfl⟩
  simp [Leaves, settle, results, Try.results27, go_sem, cE3]
  exact ⟨v2, hB3, hown3, hbp3⟩
end Go.Proofs.Ytfhfkggkbeahbaa
