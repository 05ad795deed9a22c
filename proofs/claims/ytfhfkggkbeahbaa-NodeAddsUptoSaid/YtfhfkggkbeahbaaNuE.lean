/-
  What trees that steps make are like; Value of every such tree.
-/
import Derived.Test.YtfhfkggkbeahbaaNuD
namespace Go.Proofs.Ytfhfkggkbeahbaa
open Go.RowKit Mem
set_option linter.unusedVariables false
namespace Nd

/-- keys that rise -/
def Rise (ks : List Tx) : Prop := ks.Pairwise fun a b => cmpL a b < 0
mutual
/-- what a tree that steps made is like -/
def Tr.Ok : Tr → Prop
  | .num x => finB x = true ∧ normB x = x ∧ x < 18446744073709551616
  | .text t => rightB t = true
  | .list l => OkL l
  | .obj ks l => ks.length = l.length ∧ Rise ks ∧ ks.all rightB = true ∧ OkL l
  | _ => True
def OkL : List Tr → Prop
  | [] => True
  | t :: l => (t.Ok ∧ t.fit = true) ∧ OkL l
end
theorem okl_iff : ∀ l : List Tr, OkL l ↔ ∀ t ∈ l, t.Ok ∧ t.fit = true
  | [] => by unfold OkL; simp
  | t :: l => by
    unfold OkL
    rw [okl_iff l]
    constructor
    · rintro ⟨h1, h2⟩ u hu
      rcases List.mem_cons.1 hu with rfl | hu
      · exact h1
      · exact h2 u hu
    · exact fun h => ⟨h t (by simp), fun u hu => h u (by simp [hu])⟩
theorem value_any (S : Nat → Prop) : ∀ t : Tr, t.Ok → t.nodes ≤ 65536 → ∀ u W, RdT S W t u → Calls Try.prog 28 #[.agg #[u]] W (ValP t W) := by
  intro t
  induction t using Tr.ind with
  | h0 =>
    intro _ _ u W h
    unfold RdT at h
    subst h
    exact value_null W
  | h1 b =>
    intro _ _ u W h
    unfold RdT at h
    subst h
    exact value_flag b W
  | h2 x =>
    intro _ _ u W h
    unfold RdT at h
    subst h
    exact value_num x W
  | h3 t =>
    intro _ _ u W h
    unfold RdT at h
    subst h
    exact value_text t W
  | h4 l ih =>
    intro hok hn u W h
    unfold Tr.Ok at hok
    unfold Tr.nodes at hn
    exact value_list S l u W h (by have := nodes_len l; omega) fun x hx u' W' h' => ih x hx ((okl_iff l).1 hok x hx).1 (by have := nodes_mem l x hx; omega) u' W' h'
  | h5 ks l ih =>
    intro hok hn u W h
    unfold Tr.Ok at hok
    unfold Tr.nodes at hn
    exact value_obj S ks l u W h hok.1 (by have := nodes_len l; omega) fun x hx u' W' h' => ih x hx ((okl_iff l).1 hok.2.2.2 x hx).1 (by have := nodes_mem l x hx; omega) u' W' h'

theorem okl_mem {l : List Tr} (h : OkL l) {t : Tr} (ht : t ∈ l) : t.Ok ∧ t.fit = true := (okl_iff l).1 h t ht
theorem okl_app {a b : List Tr} (ha : OkL a) (hb : OkL b) : OkL (a ++ b) := (okl_iff _).2 fun t ht => by
  rcases List.mem_append.1 ht with h | h
  · exact okl_mem ha h
  · exact okl_mem hb h
theorem okl_one {t : Tr} (h : t.Ok) (hf : t.fit = true) : OkL [t] := (okl_iff _).2 fun u hu => by
  rw [List.mem_singleton] at hu
  subst hu
  exact ⟨h, hf⟩
theorem okl_take {l : List Tr} (h : OkL l) (k : Nat) : OkL (l.take k) := (okl_iff _).2 fun t ht => okl_mem h (List.mem_of_mem_take ht)
theorem okl_drop {l : List Tr} (h : OkL l) (k : Nat) : OkL (l.drop k) := (okl_iff _).2 fun t ht => okl_mem h (List.mem_of_mem_drop ht)
theorem sortK_rise (ks : List Tx) (hn : ks.Nodup) : Rise (sortK ks) := by
  have hp := List.pairwise_mergeSort (le := fun x y => !ltL y x) (fun a b c h1 h2 => by
    simp only [Bool.not_eq_true', ltL, decide_eq_false_iff_not] at *
    intro h
    rcases lt_total b c with e | e | e
    · exact h1 (lt_trans b c a e h)
    · subst e
      exact h1 h
    · exact h2 e) (fun a b => by
    simp only [Bool.or_eq_true, Bool.not_eq_true', ltL, decide_eq_false_iff_not]
    rcases lt_total a b with e | e | e
    · left
      intro h
      have := lt_trans a b a e h
      rw [cmp_self] at this
      omega
    · left
      rw [e, cmp_self]
      omega
    · right
      intro h
      have := lt_trans a b a h e
      rw [cmp_self] at this
      omega) ks
  have hnd : (sortK ks).Nodup := (sortK_perm ks).nodup_iff.2 hn
  unfold Rise
  refine (hp.and hnd).imp ?_
  rintro a b ⟨h1, h2⟩
  simp only [Bool.not_eq_true', ltL, decide_eq_false_iff_not] at h1
  rcases lt_total a b with e | e | e
  · exact e
  · exact absurd e h2
  · exact absurd e h1
theorem mkObj_ok (ks : List Tx) (I : List Tr) (hn : ks.Nodup) (hr : ks.all rightB = true) (hl : I.length = ks.length) (hI : OkL I) : (mkObj ks I).Ok := by
  unfold mkObj Tr.Ok
  refine ⟨by simp, sortK_rise ks hn, ?_, ?_⟩
  · rw [List.all_eq_true] at hr ⊢
    exact fun k hk => hr k ((sortK_perm ks).mem_iff.1 hk)
  · exact (okl_iff _).2 fun t ht => okl_mem hI ((items_perm .null ks hn I hl).mem_iff.1 ht)
theorem norm_norm (b : Nat) : normB (normB b) = normB b := by
  unfold normB
  split <;> simp_all
theorem fin_norm (b : Nat) (h : finB b = true) : finB (normB b) = true := by
  unfold normB
  split
  · decide
  · exact h
theorem doT_ok (l : List Tr) (s : Stp) (hs : s.Fine) (hl : OkL l) : OkL (doT l s).2 := by
  unfold doT
  split
  · exact hl
  split
  · exact okl_app hl (okl_one (by unfold Tr.Ok; trivial) (by decide))
  split
  · exact okl_app hl (okl_one (by unfold Tr.Ok; trivial) (by simp [Tr.fit, Tr.nodes, Tr.bytes, Tr.depth]))
  split
  · split
    · rename_i h
      refine okl_app hl (okl_one ?_ (by simp [Tr.fit, Tr.nodes, Tr.bytes, Tr.depth]))
      unfold Tr.Ok
      refine ⟨fin_norm _ h, norm_norm _, ?_⟩
      unfold normB
      split
      · omega
      · exact hs.bits
    · exact hl
  split
  · split
    · split
      · rename_i h1 h2
        exact okl_app hl (okl_one (by unfold Tr.Ok; exact h1) (by simp [Tr.fit, Tr.nodes, Tr.bytes, Tr.depth, h2]))
      · exact hl
    · exact hl
  split
  · unfold listT
    split
    · exact hl
    · split
      · rename_i h
        exact okl_app (okl_take hl _) (okl_one (by unfold Tr.Ok; exact okl_drop hl _) h)
      · exact hl
  · unfold objT
    split
    · exact hl
    split
    · exact hl
    split
    · exact hl
    split
    · rename_i h1 h2 h3 h4
      have hn : s.keys.Nodup := Classical.byContradiction h2
      exact okl_app (okl_take hl _) (okl_one (mkObj_ok _ _ hn (by simpa using h1) (by rw [List.length_drop]; omega) (okl_drop hl _)) h4)
    · exact hl
theorem runT_ok : ∀ (ss : List Stp) (l : List Tr) (i : Nat) (l' : List Tr), (∀ s ∈ ss, s.Fine) → OkL l → runT l ss i = .inr l' → OkL l'
  | [], l, i, l', _, hl, h => by
    unfold runT at h
    injection h with h
    exact h ▸ hl
  | s :: ss, l, i, l', hs, hl, h => by
    unfold runT at h
    split at h
    · exact runT_ok ss _ _ _ (fun x hx => hs x (by simp [hx])) (doT_ok l s (hs s (by simp)) hl) h
    · cases h
theorem buildT_ok {ss : List Stp} {t : Tr} (hs : ∀ s ∈ ss, s.Fine) (h : buildT ss = .inr t) : t.Ok ∧ t.fit = true := by
  unfold buildT at h
  split at h
  · cases h
  · split at h
    · cases h
    · rename_i t' hr
      injection h with h
      subst h
      exact okl_mem (runT_ok ss [] 0 _ hs (by unfold OkL; trivial) hr) (by simp)
    · cases h
end Nd
end Go.Proofs.Ytfhfkggkbeahbaa
