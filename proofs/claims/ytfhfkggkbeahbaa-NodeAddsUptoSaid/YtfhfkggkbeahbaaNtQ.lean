/-
  Plain laws of sizes: bounds, what a prefix has.
-/
import Derived.Test.YtfhfkggkbeahbaaNtP
namespace Go.Proofs.Ytfhfkggkbeahbaa
set_option linter.unusedVariables false
namespace Nd

theorem nodesL_app : ∀ a b, nodesL (a ++ b) = nodesL a + nodesL b
  | [], b => by simp [nodesL]
  | t :: a, b => by simp [nodesL, nodesL_app a b, Nat.add_assoc]
theorem bytesL_app : ∀ a b, bytesL (a ++ b) = bytesL a + bytesL b
  | [], b => by simp [bytesL]
  | t :: a, b => by simp [bytesL, bytesL_app a b, Nat.add_assoc]
theorem depthL_app : ∀ a b, depthL (a ++ b) = max (depthL a) (depthL b)
  | [], b => by simp [depthL]
  | t :: a, b => by simp [depthL, depthL_app a b, Nat.max_assoc]
theorem fit_le {t : Tr} (h : t.fit = true) : t.nodes ≤ 65536 ∧ t.bytes ≤ 2097152 ∧ t.depth ≤ 512 := by
  simp [Tr.fit] at h
  omega
theorem sums_le : ∀ l : List Tr, (∀ t ∈ l, t.fit = true) → nodesL l ≤ 65536 * l.length ∧ bytesL l ≤ 2097152 * l.length ∧ depthL l ≤ 512
  | [], _ => by simp [nodesL, bytesL, depthL]
  | t :: l, h => by
    have h1 := fit_le (h t (by simp))
    have h2 := sums_le l fun u hu => h u (by simp [hu])
    simp only [nodesL, bytesL, depthL, List.length_cons]
    omega
theorem take_snoc (l : List Tr) (k : Nat) (h : k < l.length) : l.take (k + 1) = l.take k ++ [l[k]] := by
  rw [List.take_succ_eq_append_getElem h]
theorem nodesL_snoc (l : List Tr) (k : Nat) (h : k < l.length) : nodesL (l.take (k + 1)) = nodesL (l.take k) + l[k].nodes := by
  rw [take_snoc l k h, nodesL_app]
  simp [nodesL]
theorem bytesL_snoc (l : List Tr) (k : Nat) (h : k < l.length) : bytesL (l.take (k + 1)) = bytesL (l.take k) + l[k].bytes := by
  rw [take_snoc l k h, bytesL_app]
  simp [bytesL]
theorem depthL_snoc (l : List Tr) (k : Nat) (h : k < l.length) : depthL (l.take (k + 1)) = max (depthL (l.take k)) l[k].depth := by
  rw [take_snoc l k h, depthL_app]
  simp [depthL]
theorem sums_at (l : List Tr) (k : Nat) (h : ∀ t ∈ l, t.fit = true) (hl : l.length ≤ 65536) : nodesL (l.take k) ≤ 4294967296 ∧ bytesL (l.take k) ≤ 137438953472 ∧ depthL (l.take k) ≤ 512 := by
  have := sums_le (l.take k) fun t ht => h t (List.mem_of_mem_take ht)
  have h2 : (l.take k).length ≤ 65536 := by
    have := List.length_take_le k l
    rw [List.length_take]
    omega
  omega
end Nd
end Go.Proofs.Ytfhfkggkbeahbaa
