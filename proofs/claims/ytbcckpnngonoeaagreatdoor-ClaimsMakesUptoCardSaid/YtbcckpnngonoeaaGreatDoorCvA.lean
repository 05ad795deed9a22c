/-
  Walks of package claims: has, right, lacking, isTime; slices of texts that are read.
-/
import Derived.Test.YtbcckpnngonoeaaGreatDoorCvP
import Derived.Test.YtbcckpnngonoeaaGreatDoorMC
namespace Go.Proofs.YtbcckpnngonoeaaGreatDoor
open Go.RowKit Mem Utf Ref3 Tok Cl
set_option linter.unusedVariables false

def bts (l : List Txt) : List ByteArray := l.map fun t => ⟨t.toArray⟩
theorem bts_len (l : List Txt) : (bts l).length = l.length := List.length_map _
theorem rd_cells {w : World} {b off c : Nat} {l : List Txt} (h : Rd w (.slice (some ⟨b, off, none⟩) l.length c) l) : ∀ j, j < (bts l).length → w.cell? ⟨b, off + j, none⟩ = some (.string ((bts l).getD j ByteArray.empty)) := by
  intro j hj
  rw [bts_len] at hj
  obtain ⟨A, c', e, hc⟩ := h
  injection e with e1 _ _
  subst e1
  obtain ⟨g, o, e2, _, hcell⟩ := hc j hj
  injection e2 with e2
  injection e2 with e3 e4
  subst e3; subst e4
  rw [hcell]
  unfold bts
  rw [List.getD_eq_getElem?_getD, List.getElem?_map, List.getElem?_eq_getElem hj]
  rfl
theorem rd_forms {w : World} {v : Value} {l : List Txt} (h : Rd w v l) : (l = [] ∧ ∃ A c, v = .slice A 0 c) ∨ ∃ b off c, v = .slice (some ⟨b, off, none⟩) l.length c ∧ Rd w (.slice (some ⟨b, off, none⟩) l.length c) l := by
  obtain ⟨A, c, rfl, hc⟩ := h
  cases l with
  | nil => exact .inl ⟨rfl, A, c, rfl⟩
  | cons t l =>
    obtain ⟨g, o, rfl, hg, hcell⟩ := hc 0 (by simp)
    exact .inr ⟨g, o, c, rfl, _, _, rfl, hc⟩
theorem bts_contains (l : List Txt) (t : Txt) : Lib.containsS (bts l) ⟨t.toArray⟩ = l.contains t := by
  rw [Bool.eq_iff_iff, Lib.containsS_iff, List.contains_iff_mem]
  unfold bts
  rw [List.mem_map]
  constructor
  · rintro ⟨x, hx, e⟩
    have : x = t := by
      have := congrArg (fun b : ByteArray => b.data.toList) e
      simpa using this
    exact this ▸ hx
  · exact fun h => ⟨t, h, rfl⟩
theorem contains_any (v : Value) (l : List Txt) (t : Txt) (w : World) (h : Rd w v l) (hl : l.length ≤ 1099511627776) :
    Calls Tryz.prog 38 #[v, .string ⟨t.toArray⟩] w fun e w' => e = .returned (.bool (inB l t)) ∧ w = w' := by
  rcases rd_forms h with ⟨rfl, A, c, rfl⟩ | ⟨b, off, c, rfl, h⟩
  · refine (Tryz.slices_Contains_string_empty A c _ w).mono ?_
    rintro e w' ⟨rfl, rfl⟩
    exact ⟨rfl, rfl⟩
  · refine (Tryz.slices_Contains_string b off l.length c (bts l) _ w (by rw [bts_len]; exact Nat.le_refl _) (by omega) (rd_cells h)).mono ?_
    rintro e w' ⟨rfl, rfl⟩
    rw [List.take_of_length_le (by rw [bts_len]; exact Nat.le_refl _), bts_contains]
    exact ⟨rfl, rfl⟩
/-- where a text first stands -/
def idxT (l : List Txt) (t : Txt) : Int := Lib.idxOfS (bts l) ⟨t.toArray⟩
theorem slicesIndex_any (v : Value) (l : List Txt) (t : Txt) (w : World) (h : Rd w v l) (hl : l.length ≤ 1099511627776) :
    Calls Tryz.prog 82 #[v, .string ⟨t.toArray⟩] w fun e w' => e = .returned (.int .i64 (idxT l t)) ∧ w = w' := by
  rcases rd_forms h with ⟨rfl, A, c, rfl⟩ | ⟨b, off, c, rfl, h⟩
  · refine (Tryz.slices_Index_string_empty A c _ w).mono ?_
    rintro e w' ⟨rfl, rfl⟩
    exact ⟨rfl, rfl⟩
  · refine (Tryz.slices_Index_string b off l.length c (bts l) _ w (by rw [bts_len]; exact Nat.le_refl _) (by omega) (rd_cells h)).mono ?_
    rintro e w' ⟨rfl, rfl⟩
    rw [List.take_of_length_le (by rw [bts_len]; exact Nat.le_refl _)]
    exact ⟨rfl, rfl⟩
theorem bts_eq {a t : Txt} : (ByteArray.mk a.toArray = ByteArray.mk t.toArray) ↔ a = t := by
  constructor
  · intro e
    have := congrArg (fun b : ByteArray => b.data.toList) e
    simpa using this
  · rintro rfl
    rfl
theorem idxFrom_law : ∀ (l : List Txt) (t : Txt) (i k : Nat) (hk : k < l.length), l[k] = t →
    (Lib.idxFromS (bts l) ⟨t.toArray⟩ i ≤ (i : Int) + k ∧ (Lib.idxFromS (bts l) ⟨t.toArray⟩ i < (i : Int) + k ↔ (l.take k).contains t = true))
  | [], _, _, k, hk, _ => by cases hk
  | a :: r, t, i, k, hk, he => by
    have hdef : Lib.idxFromS (bts (a :: r)) ⟨t.toArray⟩ i = if a = t then (i : Int) else Lib.idxFromS (bts r) ⟨t.toArray⟩ (i + 1) := by
      show Lib.idxFromS (⟨a.toArray⟩ :: bts r) ⟨t.toArray⟩ i = _
      rw [Lib.idxFromS]
      by_cases h : a = t
      · rw [if_pos h, if_pos (bts_eq.2 h)]
      · rw [if_neg h, if_neg fun hh => h (bts_eq.1 hh)]
    rw [hdef]
    by_cases h : a = t
    · rw [if_pos h]
      cases k with
      | zero => simp
      | succ k =>
        refine ⟨by omega, fun _ => ?_, fun _ => by omega⟩
        rw [List.take_succ_cons, h]
        simp
    · rw [if_neg h]
      cases k with
      | zero => exact absurd he h
      | succ k =>
        obtain ⟨h1, h2⟩ := idxFrom_law r t (i + 1) k (by simpa using hk) (by simpa using he)
        refine ⟨by omega, ?_⟩
        rw [List.take_succ_cons, List.contains_cons, show ((t == a) || (r.take k).contains t) = (r.take k).contains t from by rw [show (t == a) = false from by simpa using fun e => h e.symm]; rfl, ← h2]
        constructor
        · intro h3; omega
        · intro h3; omega
theorem idxT_law {l : List Txt} {k : Nat} (hk : k < l.length) : (idxT l l[k] < (k : Int)) ↔ (l.take k).contains l[k] = true := by
  have := (idxFrom_law l l[k] 0 k hk rfl).2
  simpa [idxT, Lib.idxOfS] using this

theorem isTime_any (t : Int) (w : World) : Calls Tryz.prog 36 #[.int .i64 t] w fun e w' => e = .returned (.bool (Cl.isTime t)) ∧ w = w' := by
  unfold Cl.isTime
  by_cases h : 0 ≤ t
  · by_cases h2 : t ≤ 9007199254740991
    · rw [decide_eq_true ⟨h, h2⟩]
      go_enter Tryz.func36, Tryz.ntmps36
      go_wp2
      go_ret
      exact ⟨rfl, rfl⟩
    · rw [decide_eq_false fun x => h2 x.2]
      go_enter Tryz.func36, Tryz.ntmps36
      go_wp2
      go_ret
      exact ⟨rfl, rfl⟩
  · rw [decide_eq_false fun x => h x.1]
    go_enter Tryz.func36, Tryz.ntmps36
    go_wp2
    go_ret
    exact ⟨rfl, rfl⟩

/-- claims as they are handed over -/
def clV (c : C) (v1 v2 v3 : Value) : Value := .agg #[v1, .string ⟨c.about.toArray⟩, .int .i64 c.at_, .string ⟨c.by_.toArray⟩, v2, .int .i64 c.from_, .string ⟨c.id_.toArray⟩, v3, .int .i64 c.until_]
/-- the slices of claims read as they must -/
structure ClAt (w : World) (c : C) (v1 v2 v3 : Value) : Prop where
  has : Rd w v1 c.has
  for_ : Rd w v2 c.for_
  may : Rd w v3 c.may_
  nhas : c.has.length ≤ 1099511627776
  nfor : c.for_.length ≤ 1099511627776
  nmay : c.may_.length ≤ 1099511627776
  tabout : c.about.length ≤ 140737488355328
  tby : c.by_.length ≤ 140737488355328
  tid : c.id_.length ≤ 140737488355328
  efor : ∀ t ∈ c.for_, t.length ≤ 140737488355328
  emay : ∀ t ∈ c.may_, t.length ≤ 140737488355328
  cfor : ∀ A n, v2 = .slice A c.for_.length n → c.for_.length ≤ n ∧ n ≤ 9223372036854775807
  cmay : ∀ A n, v3 = .slice A c.may_.length n → c.may_.length ≤ n ∧ n ≤ 9223372036854775807
theorem ClAt.below {w w' : World} {c : C} {v1 v2 v3 : Value} (h : ClAt w c v1 v2 v3) (hb : Below w.heap.size w w') : ClAt w' c v1 v2 v3 :=
  ⟨h.has.below hb, h.for_.below hb, h.may.below hb, h.nhas, h.nfor, h.nmay, h.tabout, h.tby, h.tid, h.efor, h.emay, h.cfor, h.cmay⟩
set_option maxHeartbeats 1000000 in
theorem has_any (c : C) (v1 v2 v3 : Value) (t : Txt) (w : World) (h : ClAt w c v1 v2 v3) :
    Calls Tryz.prog 37 #[.agg #[v1, .string ⟨c.about.toArray⟩, .int .i64 c.at_, .string ⟨c.by_.toArray⟩, v2, .int .i64 c.from_, .string ⟨c.id_.toArray⟩, v3, .int .i64 c.until_], .string ⟨t.toArray⟩] w fun e w' => e = .returned (.bool (inB c.has t)) ∧ Below w.heap.size w w' := by
  have hb : ∀ cs, Below w.heap.size w (w.alloc (.cells cs 24)) := fun cs => (Below.refl _ _).alloc (Nat.le_refl _) _
  go_enter Tryz.func37, Tryz.ntmps37
  go_wp2_with fail
  refine (contains_any v1 c.has t _ (h.has.below (hb _)) h.nhas).mono ?_
  rintro e w' ⟨rfl, rfl⟩
  go_wp2
  go_ret
  exact ⟨rfl, hb _⟩
set_option maxRecDepth 100000 in
set_option maxHeartbeats 2000000 in
theorem rightL_any (v : Value) (l : List Txt) (w : World) (h : Rd w v l) (hl : l.length ≤ 1099511627776) (hs : ∀ t ∈ l, t.length ≤ 140737488355328) :
    Calls Tryz.prog 81 #[v] w fun e w' => e = .returned (.bool (rightL [] l)) ∧ Below w.heap.size w w' := by
  obtain ⟨A, c, rfl, hA⟩ := h
  have h : Rd w (.slice A l.length c) l := ⟨A, c, rfl, hA⟩
  clear hA
  go_enter Tryz.func81, Tryz.ntmps81
  go_wp2
  go_loopw [7] (fun c7 wr => ∃ k : Nat, k ≤ l.length ∧ c7 = .int .i64 k ∧ Hid (rightL (l.take k) (l.drop k) = rightL [] l) ∧ Below w.heap.size w wr) (fun c7 _ => l.length - (intOf c7).toNat)
  case atStart => exact ⟨0, by omega, rfl, Lib.hid rfl, Below.refl _ _⟩
  case round =>
    obtain ⟨k, hk, rfl, H, hbw⟩ := hrel
    by_cases hlt : k < l.length
    · have hst := rightL_drop l k hlt
      rw [H.out] at hst
      have hsl := hs l[k] (List.getElem_mem hlt)
      have hix := idxT_law hlt
      have hr2 := h.below hbw
      obtain ⟨A', c', hAc, hcell⟩ := h.below hbw
      injection hAc with hA1 _ hc1
      subst hA1; subst hc1
      obtain ⟨g, o, rfl, hgl, hcell⟩ := hcell k hlt
      have hc2 : wr.cell? ⟨g, o + k, none⟩ = some (.string ⟨l[k].toArray⟩) := hcell
      have hi0 : (0 : Int) ≤ (k : Int) := by omega
      have hi1 : (k : Int) < (l.length : Int) := by omega
      have Hst := Lib.hid hst
      have Hix := Lib.hid hix
      clear hcell hst hix
      generalize l[k] = t at *
      go_wp2_with fail
      refine (right_any ⟨t.toArray⟩ _ hsl).mono ?_
      rintro e w1 ⟨rfl, hb1⟩
      replace hb1 := hb1.toBelow
      have hbw1 := below_chain hbw hbw.size hb1
      rw [show (ByteArray.mk t.toArray).data.toList = t from rfl, right_wrong]
      by_cases hr : (wrong t).1 = 0
      · have hR : rightR t = true := decide_eq_true hr
        rw [decide_eq_true hr]
        clear hr hc2
        go_wp2_with fail
        refine (slicesIndex_any _ l t _ (hr2.below hb1) hl).mono ?_
        rintro e w2 ⟨rfl, rfl⟩
        by_cases hi : idxT l t < (k : Int)
        · have HF : Hid (rightL [] l = false) := Lib.hid (by rw [Hst.out, Hix.out.1 hi]; simp)
          go_wp2
          go_ret
          exact ⟨by rw [HF.out]; rfl, hbw1⟩
        · have HF : Hid (rightL (l.take (k + 1)) (l.drop (k + 1)) = rightL [] l) := Lib.hid (by
            rw [Hst.out, hR]
            have : (l.take k).contains t = false := by
              rw [Bool.eq_false_iff]
              exact fun hh => hi (Hix.out.2 hh)
            rw [this]
            simp)
          go_wp2
          go_roundw
          case rel => exact ⟨k + 1, by omega, by go_num, HF, hbw1⟩
          case measure => simp [intOf]; omega
      · have HF : Hid (rightL [] l = false) := Lib.hid (by rw [Hst.out, rightR, decide_eq_false hr]; simp)
        rw [decide_eq_false hr]
        clear hr hc2
        go_wp2
        go_ret
        exact ⟨by rw [HF.out]; rfl, hbw1⟩
    · obtain rfl : k = l.length := by omega
      have HF : Hid (rightL [] l = true) := Lib.hid (by rw [← H.out, List.drop_length]; rfl)
      go_wp2
      go_ret
      exact ⟨by rw [HF.out]; rfl, hbw⟩
end Go.Proofs.YtbcckpnngonoeaaGreatDoor
