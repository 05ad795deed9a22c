/-
  Plain: where tokens lead in a tree; what a search in rising keys comes to.
-/
import Derived.Test.YtfhchnkoggdilaaGreatDoorGF
import Derived.Test.YtfhchnkoggdilaaGreatDoorGH
import Derived.Test.YtfhchnkoggdilaaGreatDoorIdx
namespace Go.Proofs.YtfhchnkoggdilaaGreatDoor
open Go Idx
set_option linter.unusedVariables false
namespace Nd
/-- where a token leads on to -/
def onT (x : Tx) : Tr → Option Tr
  | .list l => (idxC x (l.length : Int)).bind fun v => l[v.toNat]?
  | .obj ks l => if x ∈ ks then l[ks.idxOf x]? else none
  | _ => none
/-- where tokens lead: to a value, or how many led on -/
def leadT : Tr → List Tx → Nat → Sum Nat Tr
  | t, [], _ => .inr t
  | t, x :: r, i => match onT x t with
    | none => .inl i
    | some u => leadT u r (i + 1)
theorem idxC_range {l : List UInt8} {n v : Int} (h : idxC l n = some v) : 0 ≤ v ∧ v < n := by
  unfold idxC at h
  split at h
  · split at h
    · cases h
    · injection h with h
      omega
  · cases h
theorem onT_list (x : Tx) (l : List Tr) : onT x (.list l) = (idxC x (l.length : Int)).bind fun v => l[v.toNat]? := rfl
theorem onT_obj (x : Tx) (ks : List Tx) (l : List Tr) : onT x (.obj ks l) = if x ∈ ks then l[ks.idxOf x]? else none := rfl
theorem onT_kid {x : Tx} {t u : Tr} (h : onT x t = some u) : u ∈ t.kids := by
  cases t with
  | list l =>
    rw [onT_list] at h
    cases hx : idxC x (l.length : Int) with
    | none => rw [hx] at h; cases h
    | some v =>
      rw [hx] at h
      exact List.mem_of_getElem? h
  | obj ks l =>
    rw [onT_obj] at h
    by_cases hm : x ∈ ks
    · rw [if_pos hm] at h
      exact List.mem_of_getElem? h
    · rw [if_neg hm] at h
      cases h
  | null => cases h
  | flag b => cases h
  | num x => cases h
  | text s => cases h
theorem kids_ok {t : Tr} (h : t.Ok) : OkL t.kids := by
  cases t with
  | list l => unfold Tr.Ok at h; exact h
  | obj ks l => unfold Tr.Ok at h; exact h.2.2.2
  | null => unfold Tr.kids OkL; trivial
  | flag b => unfold Tr.kids OkL; trivial
  | num x => unfold Tr.kids OkL; trivial
  | text s => unfold Tr.kids OkL; trivial
theorem onT_ok {x : Tx} {t u : Tr} (ht : t.Ok) (h : onT x t = some u) : u.Ok ∧ u.fit = true := okl_mem (kids_ok ht) (onT_kid h)
theorem lead_cons (t : Tr) (x : Tx) (r : List Tx) (i : Nat) : leadT t (x :: r) i = match onT x t with
    | none => .inl i
    | some u => leadT u r (i + 1) := by rw [leadT]
theorem lead_nil (t : Tr) (i : Nat) : leadT t [] i = .inr t := by rw [leadT]
theorem lead_none {t : Tr} {x : Tx} {r : List Tx} {i : Nat} (h : onT x t = none) : leadT t (x :: r) i = .inl i := by
  rw [lead_cons, h]
theorem lead_some {t u : Tr} {x : Tx} {r : List Tx} {i : Nat} (h : onT x t = some u) : leadT t (x :: r) i = leadT u r (i + 1) := by
  rw [lead_cons, h]
theorem lead_ok : ∀ (ts : List Tx) (t u : Tr) (i : Nat), t.Ok → t.fit = true → leadT t ts i = .inr u → u.Ok ∧ u.fit = true
  | [], t, u, i, ho, hf, h => by
    rw [lead_nil] at h
    injection h with h
    subst h
    exact ⟨ho, hf⟩
  | x :: r, t, u, i, ho, hf, h => by
    cases hx : onT x t with
    | none =>
      rw [lead_none hx] at h
      cases h
    | some v =>
      rw [lead_some hx] at h
      have := onT_ok ho hx
      exact lead_ok r v u (i + 1) this.1 this.2 h
theorem lead_lt : ∀ (ts : List Tx) (t : Tr) (i n : Nat), leadT t ts i = .inl n → i ≤ n ∧ n < i + ts.length ∧ ∃ u, leadT t (ts.take (n - i)) i = .inr u
  | [], t, i, n, h => by
    rw [lead_nil] at h
    cases h
  | x :: r, t, i, n, h => by
    cases hx : onT x t with
    | none =>
      rw [lead_none hx] at h
      injection h with h
      subst h
      exact ⟨Nat.le_refl _, by simp, t, by rw [Nat.sub_self, List.take_zero, lead_nil]⟩
    | some v =>
      rw [lead_some hx] at h
      obtain ⟨h1, h2, u, h3⟩ := lead_lt r v (i + 1) n h
      refine ⟨by omega, by simp; omega, u, ?_⟩
      rw [show n - i = (n - (i + 1)) + 1 by omega, List.take_succ_cons, lead_some hx]
      exact h3
theorem rise_nodup {ks : List Tx} (hr : Rise ks) : ks.Nodup := List.Pairwise.imp (fun h e => by rw [e, cmp_self] at h; omega) hr
theorem bs_in {ks : List Tx} (hr : Rise ks) {tok : Tx} {i : Nat} (hi : i < ks.length) (h : cmpL ks[i] tok = 0) : tok ∈ ks ∧ ks.idxOf tok = i := by
  have := cmp_zero _ _ h
  rw [← this]
  exact ⟨List.getElem_mem _, idxOf_at ks (rise_nodup hr) i hi⟩
theorem bs_out {ks : List Tx} (hr : Rise ks) {tok : Tx} {i : Nat} (h1 : ∀ t (ht : t < ks.length), t < i → cmpL ks[t] tok < 0) (h2 : ∀ t (ht : t < ks.length), i ≤ t → 0 ≤ cmpL ks[t] tok) (h : ∀ h : i < ks.length, ¬ cmpL ks[i] tok = 0) : tok ∉ ks := by
  intro hm
  obtain ⟨m, hml, hme⟩ := List.getElem_of_mem hm
  clear hm
  subst hme
  by_cases hlt : m < i
  · have := h1 m hml hlt
    rw [cmp_self] at this
    omega
  · by_cases e : m = i
    · subst e
      exact h hml (cmp_self _)
    · have : cmpL ks[i] ks[m] < 0 := List.pairwise_iff_getElem.1 hr i m (by omega) hml (by omega)
      have := h2 i (by omega) (Nat.le_refl _)
      omega
theorem bs_step1 {ks : List Tx} (hr : Rise ks) {tok : Tx} {h : Nat} (hh : h < ks.length) (hc : cmpL ks[h] tok < 0) : ∀ t (ht : t < ks.length), t < h + 1 → cmpL ks[t] tok < 0 := by
  intro t ht hl
  by_cases e : t = h
  · subst e
    exact hc
  · exact lt_trans _ _ _ (List.pairwise_iff_getElem.1 hr t h ht hh (by omega)) hc
theorem bs_step2 {ks : List Tx} (hr : Rise ks) {tok : Tx} {h : Nat} (hh : h < ks.length) (hc : 0 ≤ cmpL ks[h] tok) : ∀ t (ht : t < ks.length), h ≤ t → 0 ≤ cmpL ks[t] tok := by
  intro t ht hl
  by_cases e : t = h
  · subst e
    exact hc
  · refine Int.not_lt.1 fun hn => ?_
    have := lt_trans _ _ _ (List.pairwise_iff_getElem.1 hr h t hh ht (by omega)) hn
    omega
end Nd
end Go.Proofs.YtfhchnkoggdilaaGreatDoor
