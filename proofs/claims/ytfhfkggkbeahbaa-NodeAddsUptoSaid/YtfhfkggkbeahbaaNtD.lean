/-
  Walks of package node: slices.Clone of items; take.
-/
import Derived.Test.YtfhfkggkbeahbaaNtB
import Derived.Deep.AppendLies
import Derived.Lib.SliceRun
namespace Go.Proofs.Ytfhfkggkbeahbaa
open Go.RowKit Mem
set_option linter.unusedVariables false
namespace Nd

set_option maxRecDepth 100000 in
set_option maxHeartbeats 4000000 in
theorem clone_some (b off n c : Nat) (news : List Value) (w : World) (hl : news.length = n) (hn : n ≤ 1099511627776) (hc : ∀ j u, news[j]? = some u → w.cell? ⟨b, off + j, none⟩ = some u) (h1 : ∀ u ∈ news, u.oneCell' = true) :
    Calls Try.prog 48 #[.slice (some ⟨b, off, none⟩) n c] w fun e w' => ∃ v', e = .returned v' ∧ w'.ownsRow w.heap.size 46 1 v' n news ∧ Below w.heap.size w w' := by
  have q22 : ∀ (w : World) (a : Option Addr) (n c n' c' : Nat), (binOp .eql 70 (.slice a n c) (.slice none n' c')).run Try.prog w = .ok (.bool a.isNone) w := fun w a n c n' c' => Lib.run_eql_slice_nil w _ _ a n c n' c' Try.underlying70
  obtain ⟨i0, hi0, hz0, hz1, hz2⟩ := info_parts info_item
  have HC := Lib.hid hc
  clear hc
  go_enter Try.func48, Try.ntmps48
  go_wp2_with (at_builtin; refine wpList_append_own _ rfl _ _ 70 rfl w.heap.size 46 i0 _ 1 16 Try.underlying70 hi0 hz0 hz1 hz2 rfl (by omega) _ _ _ rfl (World.ownsRow_made w #[] 0 (Nat.le_refl _) (Nat.zero_le _) (by simp)) ⟨b, off, none⟩ n c news rfl ?qc1 ?qc2 ?qc3 ?qc4 ?qc5 ?qc6 ?_)
  case qc1 => rw [hl]; simp
  case qc2 =>
    intro j u hj
    rw [Addr.add_lit]
    exact Lib.cell?_alloc_some _ (HC.out j u hj)
  case qc3 => exact h1
  case qc4 => unfold maxLen; omega
  case qc5 => omega
  case qc6 => simp
  intro v' w1 hown hgrow hnil
  go_wp2
  go_ret
  refine ⟨v', rfl, by simpa using hown, ?_⟩
  exact ((Below.refl _ w).alloc (Nat.le_refl _) _).grown hgrow (by simp) (by intro k hk; simp [Value.ownBlock] at hk; omega)
theorem clone_nil (n c : Nat) (w : World) :
    Calls Try.prog 48 #[.slice none n c] w fun e w' => e = .returned (.slice none 0 0) ∧ w = w' := by
  have q22 : ∀ (w : World) (a : Option Addr) (n c n' c' : Nat), (binOp .eql 70 (.slice a n c) (.slice none n' c')).run Try.prog w = .ok (.bool a.isNone) w := fun w a n c n' c' => Lib.run_eql_slice_nil w _ _ a n c n' c' Try.underlying70
  go_enter Try.func48, Try.ntmps48
  go_wp2
  go_ret
  exact ⟨rfl, rfl⟩
theorem clone_any (S : Nat → Prop) (v : Value) (vs : List Value) (w : World) (hR : Row S w 46 v vs) (hn : vs.length ≤ 1099511627776) (h1 : ∀ u ∈ vs, u.oneCell' = true) :
    Calls Try.prog 48 #[v] w fun e w' => ∃ v', e = .returned v' ∧ w'.ownsRow w.heap.size 46 1 v' vs.length vs ∧ Below w.heap.size w w' := by
  obtain ⟨A, c, rfl, hA⟩ := hR
  rcases A with _ | ⟨b, off, z⟩
  · rcases hA with ⟨rfl, _⟩ | ⟨g, o, cur, h, _⟩
    · refine (clone_nil _ c w).mono ?_
      rintro e w' ⟨rfl, rfl⟩
      exact ⟨_, rfl, World.ownsRow_nil _ _ _ _, Below.refl _ _⟩
    · cases h
  · rcases hA with ⟨rfl, h⟩ | ⟨g, o, cur, h, hS, hB, hc⟩
    · rcases h with h | ⟨g, o, h⟩
      · cases h
      injection h with h
      injection h with e1 e2 e3
      subst e3
      exact clone_some b off 0 c [] w rfl (by omega) (fun j u h => by simp at h) (by simp)
    · injection h with h
      injection h with e1 e2 e3
      subst e1; subst e2; subst e3
      exact clone_some b off _ c vs w rfl hn (fun j u h => (hB.cell _).trans (hc j u h)) h1
/-- a row of the call's own reads as its cells -/
theorem row_of_own {w : World} {base n : Nat} {e : TypeId} {v : Value} {xs : List Value} (h : w.ownsRow base e 1 v n xs) : Row (fun k => v.ownBlock = some k) w e v xs := by
  have hl := h.1
  simp at hl
  rcases h.2 with ⟨rfl, h0⟩ | ⟨g, cap, cur, rfl, _, hg, hn, hc, hs, ht⟩
  · subst h0
    have : xs = [] := List.length_eq_zero_iff.1 hl
    subst this
    exact ⟨none, 0, rfl, .inl ⟨rfl, .inl rfl⟩⟩
  · refine ⟨_, cap, by rw [hl], .inr ⟨g, 0, cur, rfl, rfl, hg, fun j x hx => ?_⟩⟩
    rw [← ht, List.getElem?_take] at hx
    split at hx
    · simpa using hx
    · cases hx
set_option maxRecDepth 100000 in
set_option maxHeartbeats 4000000 in
theorem take_few (p : Nat) (ty : TypeId) (A : Option Addr) (n c : Nat) (k : Int) (w : World) (hB : Blk w p ty #[.slice A n c]) (hk : (n : Int) < k) :
    Calls Try.prog 40 #[.pointer (some ⟨p, 0, none⟩), .int .i64 k] w fun e w' => e = .panicked [{ v := .iface 30 (.int .i64 102), recovered := false }] ∧ w = w' := by
  have a1 : w.cell? ⟨p, 0, none⟩ = some (.slice A n c) := hB.cell 0
  clear hB
  go_enter Try.func40, Try.ntmps40
  go_wp2
  exact ⟨rfl, rfl, rfl⟩
theorem clone_cut (g k cap : Nat) {n : Nat} {cur : Array Value} {w : World} {xs : List Value} (hg : w.heap[g]? = some (.cells cur 46 (0, 0))) (ht : cur.toList.take (n * 1) = xs) (hl : xs.length = n) (hk : k ≤ n) (hnc : n ≤ cap) (hn : n ≤ 1048576) (h1 : ∀ u ∈ xs, u.oneCell' = true) :
    Hid (∀ c, Calls Try.prog 48 #[.slice (some ⟨g, n - k, none⟩) (n - (n - k)) c] w fun e w' => ∃ v', e = .returned v' ∧ w'.ownsRow w.heap.size 46 1 v' k (xs.drop (n - k)) ∧ Below w.heap.size w w') ∧
    Hid (cap = n - k → Calls Try.prog 48 #[.slice (some ⟨g, 0, none⟩) (n - (n - k)) 0] w fun e w' => ∃ v', e = .returned v' ∧ w'.ownsRow w.heap.size 46 1 v' k (xs.drop (n - k)) ∧ Below w.heap.size w w') := by
  have hkk : n - (n - k) = k := by omega
  rw [hkk]
  have hlen : (xs.drop (n - k)).length = k := by rw [List.length_drop, hl]; exact hkk
  constructor
  · refine Lib.hid fun c => ?_
    exact clone_some g (n - k) k c (xs.drop (n - k)) w hlen (by omega) (fun j u hj => by
        rw [cell_of_row w g _ cur _ _ hg]
        rw [List.getElem?_drop, ← ht, List.getElem?_take] at hj
        split at hj
        · simpa using hj
        · cases hj) (fun u hu => h1 u (List.mem_of_mem_drop hu))
  · refine Lib.hid fun hcap => ?_
    have hd : xs.drop (n - k) = [] := List.drop_eq_nil_of_le (by omega)
    rw [hd] at hlen ⊢
    exact clone_some g 0 k 0 [] w hlen (by omega) (fun j u hj => by simp at hj) (by simp)
set_option maxRecDepth 100000 in
set_option maxHeartbeats 4000000 in
theorem take_ok (p : Nat) (ty : TypeId) (B : Nat) (v : Value) (n k : Nat) (xs : List Value) (w : World) (hB : Blk w p ty #[v]) (hown : w.ownsRow B 46 1 v n xs) (hk : k ≤ n) (hn : n ≤ 1048576) (h1 : ∀ u ∈ xs, u.oneCell' = true) :
    Calls Try.prog 40 #[.pointer (some ⟨p, 0, none⟩), .int .i64 k] w fun e w' => ∃ v', e = .returned v' ∧ w'.ownsRow w.heap.size 46 1 v' k (xs.drop (n - k)) ∧ Below w.heap.size w w' := by
  have hl : xs.length = n := by have := hown.1; simpa using this
  rcases hown.2 with ⟨rfl, h0⟩ | ⟨g, cap, cur, rfl, _, hg, hnc, hc, hs, ht⟩
  · subst h0
    have hk0 : k = 0 := by omega
    subst hk0
    have a1 : w.cell? ⟨p, 0, none⟩ = some (.slice none 0 0) := hB.cell 0
    have hx : xs = [] := List.length_eq_zero_iff.1 hl
    subst hx
    clear hB hown
    go_enter Try.func40, Try.ntmps40
    go_wp2_with fail
    refine (clone_nil _ _ _).mono ?_
    rintro e w' ⟨rfl, rfl⟩
    go_wp2
    go_ret
    exact ⟨_, rfl, World.ownsRow_nil _ _ _ _, Below.refl _ _⟩
  · have a1 : w.cell? ⟨p, 0, none⟩ = some (.slice (some ⟨g, 0, none⟩) n cap) := hB.cell 0
    unfold maxLen at hc
    clear hB hown
    have hnk : ((n : Int) - (k : Int)) = ((n - k : Nat) : Int) := by omega
    obtain ⟨HC1, HC2⟩ := clone_cut g k cap hg ht hl hk hnc hn h1
    clear hg ht hl hs h1
    go_enter Try.func40, Try.ntmps40
    go_wp2_with fail
    · ((with_reducible refine (HC2.out (by first | rfl | assumption)).mono ?_); rintro e w' ⟨v', rfl, ho, hb⟩)
      go_wp2
      go_ret
      exact ⟨v', rfl, ho, hb⟩
    · ((with_reducible refine (HC1.out _).mono ?_); rintro e w' ⟨v', rfl, ho, hb⟩)
      go_wp2
      go_ret
      exact ⟨v', rfl, ho, hb⟩
end Nd
end Go.Proofs.Ytfhfkggkbeahbaa
