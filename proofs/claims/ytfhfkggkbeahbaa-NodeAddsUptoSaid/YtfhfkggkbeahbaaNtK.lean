/-
  Walks of package node: a list's items as a tree; group over a row of trees.
-/
import Derived.Test.YtfhfkggkbeahbaaNtH
import Derived.Test.YtfhfkggkbeahbaaNtC
namespace Go.Proofs.Ytfhfkggkbeahbaa
open Go.RowKit Mem
set_option linter.unusedVariables false
namespace Nd

theorem group_ok {p : Nat} {ty : TypeId} {B : Nat} {X : Nat → Prop} {l0 : List Tr} {v : Value} {xs : List Value} {w : World} (k : Nat) (tx : TypeId) (ux : Value) (n1 b1 e1 : Int) (hR : Rw p ty B X l0 v xs w) (hk : k ≤ l0.length) (hlen : l0.length ≤ 1048576)
    (hm : ∀ fuel nm, nm = itemM 0 → (method (fuel + 1) tx ux nm).run Try.prog w = .ok (109, .agg #[.int .i64 n1, .int .i64 b1, .int .i64 e1]) w) (hwi : withinB n1 b1 e1 = true) (hone : (Value.iface tx ux).oneCell' = true) :
    Calls Try.prog 41 #[.pointer (some ⟨p, 0, none⟩), .int .i64 k, .iface tx ux] w fun e w' => e = .returned (.tuple #[]) ∧ PutV p ty B v (l0.length - k + 1) (xs.take (l0.length - k) ++ [.iface tx ux]) w w' := by
  obtain ⟨hBl, hown, hrd, hfit, hlt, hle⟩ := hR
  rcases hown.2 with ⟨rfl, h0⟩ | ⟨g, cap, cur, rfl, _⟩
  · have hx : xs = [] := by
      have := hown.1
      rw [h0] at this
      exact List.length_eq_zero_iff.1 (by simpa using this)
    have hk0 : k = 0 := by omega
    subst hk0
    subst hx
    rw [h0]
    exact group_nil p ty B tx ux n1 b1 e1 w hBl hlt hle hm hwi hone
  · exact group_some p ty B l0.length cap g k xs tx ux n1 b1 e1 w hBl hown hlt hle hk hlen _ rfl hm hwi hone
theorem Row.mono {S S' : Nat → Prop} {w : World} {e : TypeId} {v : Value} {xs : List Value} (h : Row S w e v xs) (hm : ∀ k, S k → S' k) : Row S' w e v xs := h.move fun k _ hs => ⟨hm k hs, rfl⟩
/-- a list that was laid a moment ago -/
theorem new_list {S : Nat → Prop} {w : World} {A : Option Addr} {c : Nat} {l : List Tr} {vs : List Value} (hR : Row S w 46 (.slice A l.length c) vs) (hL : RdL S w l vs) (hS : S w.heap.size) (b : Int) (hb : b = ((Tr.list l).bytes : Int)) :
    RdT S (w.alloc (.cells #[.int .i64 ((1 + nodesL l : Nat) : Int), .int .i64 b, .int .i64 ((depthL l + 1 : Nat) : Int), .slice A l.length c] 124)) (.list l) (.iface 121 (.pointer (some ⟨w.heap.size, 0, none⟩))) := by
  unfold RdT
  subst hb
  refine ⟨w.heap.size, A, c, vs, rfl, hS, Blk.new _ _ _, hR.move fun k hk hs => ⟨hs, Below.heap_alloc w _ k hk⟩, hL.move fun k hk hs => ⟨hs, Below.heap_alloc w _ k hk⟩⟩
theorem new_obj {S : Nat → Prop} {w : World} {A K : Option Addr} {c d : Nat} {ks : List Tx} {l : List Tr} {vs : List Value} (hK : Row S w 9 (.slice K ks.length d) (ks.map txV)) (hR : Row S w 46 (.slice A l.length c) vs) (hL : RdL S w l vs) (g : Nat) (hS : S g)
    (hB : Blk w g 128 #[.int .i64 ((Tr.obj ks l).nodes : Int), .int .i64 ((Tr.obj ks l).bytes : Int), .int .i64 ((Tr.obj ks l).depth : Int), .slice K ks.length d, .slice A l.length c]) :
    RdT S w (.obj ks l) (.iface 126 (.pointer (some ⟨g, 0, none⟩))) := by
  unfold RdT
  exact ⟨g, K, d, A, c, vs, rfl, hS, hB, hK, hR, hL⟩
end Nd
end Go.Proofs.Ytfhfkggkbeahbaa
