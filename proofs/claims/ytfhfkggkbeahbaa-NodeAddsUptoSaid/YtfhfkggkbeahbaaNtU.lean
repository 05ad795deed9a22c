/-
  The map of keys to their places, in plain terms.
-/
import Derived.Test.YtfhfkggkbeahbaaNtS
import Derived.Maps.OwnSet
import Derived.Maps.OwnOps
namespace Go.Proofs.Ytfhfkggkbeahbaa
open Go.RowKit Mem
open Go.Maps (Keyed string_keyed)
set_option linter.unusedVariables false
namespace Nd

def klit (t : Tx) : Lit := .string t
/-- the map behind k keys -/
def mapD (ks : List Tx) : Nat → DataW Unit
  | 0 => .map []
  | k + 1 => (mapD ks k).put (klit (ks.getD k [])) (.lit (.int .i64 (k : Int)))
theorem isKey (t : Tx) : WideAt.IsKeyLit (klit t) := by trivial
theorem mapD_isMap (ks : List Tx) : ∀ k, Maps.IsMap (mapD ks k)
  | 0 => Maps.isMap_empty
  | k + 1 => (mapD_isMap ks k).put _ _
theorem klit_ne {a b : Tx} (h : a ≠ b) : klit a ≠ klit b := by
  intro e
  unfold klit at e
  injection e with e
  exact h e
theorem mapD_has (ks : List Tx) (t : Tx) : ∀ k, k ≤ ks.length → Maps.has (mapD ks k) (klit t) = decide (t ∈ ks.take k)
  | 0, _ => by simp [mapD]; rfl
  | k + 1, h => by
    have hk : k < ks.length := by omega
    have hg : ks.getD k [] = ks[k] := by rw [List.getD_eq_getElem?_getD, List.getElem?_eq_getElem hk]; rfl
    rw [List.take_succ_eq_append_getElem hk]
    unfold mapD
    rw [hg]
    by_cases e : t = ks[k]
    · rw [← e, Maps.has_put_same (mapD_isMap ks k) (isKey t)]
      exact (decide_eq_true (List.mem_append.2 (.inr (List.mem_singleton.2 rfl)))).symm
    · rw [Maps.has_put_other (klit_ne e), mapD_has ks t k (by omega)]
      have hi : t ∈ ks.take k ++ [ks[k]] ↔ t ∈ ks.take k := by
        rw [List.mem_append, List.mem_singleton]
        exact ⟨fun h => h.resolve_right e, .inl⟩
      exact decide_eq_decide.2 hi.symm
theorem mapD_at (ks : List Tx) (hn : ks.Nodup) (z : DataW Unit) : ∀ k, k ≤ ks.length → ∀ i (hi : i < k) (h : i < ks.length), (mapD ks k).atKey (klit ks[i]) z = .lit (.int .i64 (i : Int))
  | 0, _, i, hi, _ => by omega
  | k + 1, h, i, hi, hil => by
    have hk : k < ks.length := by omega
    have hg : ks.getD k [] = ks[k] := by rw [List.getD_eq_getElem?_getD, List.getElem?_eq_getElem hk]; rfl
    unfold mapD
    rw [hg]
    by_cases e : i = k
    · subst e
      rw [Maps.atKey_put_same (mapD_isMap ks i) (isKey _)]
    · have hne : ks[i] ≠ ks[k] := fun he => by
        have := List.pairwise_iff_getElem.1 hn i k hil hk (by omega)
        exact this he
      rw [Maps.atKey_put_other (klit_ne hne)]
      exact mapD_at ks hn z k (by omega) i (by omega) hil
theorem str_law : Keyed Try.prog 9 := string_keyed Try.underlying9
theorem zero_int (w : World) : (zeroValue 3).run Try.prog w = .ok (.int .i64 0) w := by kernel_rfl
theorem key_of (t : Tx) (h : t.length ≤ 1099511627776) : keyOf Try.prog 9 (.string ⟨t.toArray⟩) = some (klit t) :=
  WideMaps.keyOf_string_mk Try.underlying9 (s := ⟨t.toArray⟩) (by show t.toArray.size ≤ maxLen; unfold maxLen; simp; omega)
end Nd
end Go.Proofs.Ytfhfkggkbeahbaa
