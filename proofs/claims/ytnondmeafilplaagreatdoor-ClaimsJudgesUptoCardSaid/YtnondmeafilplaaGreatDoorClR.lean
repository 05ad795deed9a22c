/-
  Walks of the reference of layer 25: Start, Judge (printed by wip/gen_clr.py).
-/
import Derived.Test.YtnondmeafilplaaGreatDoorClQ
import Derived.Test.YtnondmeafilplaaGreatDoorClN
import Derived.Deep.CutBlock
import Derived.Deep.DeepCutAuto
namespace Go.Proofs.YtnondmeafilplaaGreatDoor
open Go.RowKit Mem Utf Ref3 Tok Cl
set_option linter.unusedVariables false

theorem C32 {w : World} {b : Nat} {t : TypeId} {f : Nat → Bool} {c : C} {v2 v3 : Value} (h : Blk w b t (dCells f c v2 v3)) :
    w.cell? ⟨b, 0, none⟩ = some (.bool (f 0)) ∧ w.cell? ⟨b, 1, none⟩ = some (.bool (f 1)) ∧ w.cell? ⟨b, 2, none⟩ = some (.bool (f 2)) ∧ w.cell? ⟨b, 3, none⟩ = some (.bool (f 3)) ∧ w.cell? ⟨b, 4, none⟩ = some (.bool (f 4)) ∧ w.cell? ⟨b, 5, none⟩ = some (.bool (f 5)) ∧ w.cell? ⟨b, 6, none⟩ = some (.bool (f 6)) ∧ w.cell? ⟨b, 7, none⟩ = some (.bool (f 7)) ∧ w.cell? ⟨b, 8, none⟩ = some (.string ⟨c.about.toArray⟩) ∧ w.cell? ⟨b, 9, none⟩ = some (.string ⟨#[]⟩) ∧ w.cell? ⟨b, 10, none⟩ = some (.string ⟨c.by_.toArray⟩) ∧ w.cell? ⟨b, 11, none⟩ = some (.string ⟨#[]⟩) ∧ w.cell? ⟨b, 12, none⟩ = some (.string ⟨#[]⟩) ∧ w.cell? ⟨b, 13, none⟩ = some (.string ⟨c.id_.toArray⟩) ∧ w.cell? ⟨b, 14, none⟩ = some (.string ⟨#[]⟩) ∧ w.cell? ⟨b, 15, none⟩ = some (.string ⟨#[]⟩) ∧ w.cell? ⟨b, 16, none⟩ = some (.int .i64 0) ∧ w.cell? ⟨b, 17, none⟩ = some (.int .i64 c.at_) ∧ w.cell? ⟨b, 18, none⟩ = some (.int .i64 0) ∧ w.cell? ⟨b, 19, none⟩ = some (.int .i64 0) ∧ w.cell? ⟨b, 20, none⟩ = some (.int .i64 c.from_) ∧ w.cell? ⟨b, 21, none⟩ = some (.int .i64 0) ∧ w.cell? ⟨b, 22, none⟩ = some (.int .i64 0) ∧ w.cell? ⟨b, 23, none⟩ = some (.int .i64 c.until_) ∧ w.cell? ⟨b, 24, none⟩ = some (.slice none 0 0) ∧ w.cell? ⟨b, 25, none⟩ = some (.slice none 0 0) ∧ w.cell? ⟨b, 26, none⟩ = some (.slice none 0 0) ∧ w.cell? ⟨b, 27, none⟩ = some (v2) ∧ w.cell? ⟨b, 28, none⟩ = some (.slice none 0 0) ∧ w.cell? ⟨b, 29, none⟩ = some (.slice none 0 0) ∧ w.cell? ⟨b, 30, none⟩ = some (v3) ∧ w.cell? ⟨b, 31, none⟩ = some (.slice none 0 0) :=
  ⟨h.cell 0, h.cell 1, h.cell 2, h.cell 3, h.cell 4, h.cell 5, h.cell 6, h.cell 7, h.cell 8, h.cell 9, h.cell 10, h.cell 11, h.cell 12, h.cell 13, h.cell 14, h.cell 15, h.cell 16, h.cell 17, h.cell 18, h.cell 19, h.cell 20, h.cell 21, h.cell 22, h.cell 23, h.cell 24, h.cell 25, h.cell 26, h.cell 27, h.cell 28, h.cell 29, h.cell 30, h.cell 31⟩
/-- the document's greater one of at and from; -1: neither is there -/
def startD (c : C) : Int := if is c 4 = true ∧ (if is c 1 = true then c.at_ else -1) < c.from_ then c.from_ else (if is c 1 = true then c.at_ else -1)
theorem startD_P {c : C} (h1 : 0 ≤ c.at_) (h4 : 0 ≤ c.from_) : startD c = if (startP c).2 = true then (startP c).1 else -1 := by
  have e1 : inB c.has (key 1) = is c 1 := rfl
  have e4 : inB c.has (key 4) = is c 4 := rfl
  unfold startD startP
  rw [e1, e4]
  cases is c 1 <;> cases is c 4 <;> simp <;> omega
theorem earlyB_D {c : C} {r : R} (h1 : 0 ≤ c.at_) (h4 : 0 ≤ c.from_) (ha : 0 ≤ r.now) (hb : 0 ≤ r.slack) : earlyB c r = decide (r.now + r.slack < startD c) := by
  rw [startD_P h1 h4, earlyB]
  cases (startP c).2 with
  | true => simp
  | false => simp; omega
theorem startD_early {c : C} {r : R} (h1 : 0 ≤ c.at_) (h4 : 0 ≤ c.from_) (h : earlyB c r = true) : startD c = (startP c).1 := by
  rw [startD_P h1 h4, if_pos]
  unfold earlyB at h
  exact (Bool.and_eq_true_iff.1 h).1
theorem be_keys {c : C} : ∀ (j n : Nat), j ≤ 8 → Low c (8 - j) n → beK c j n = true → ∀ t ∈ c.has, ∃ k, k < 8 ∧ t = key k
  | 0, n, _, hl, h, t, ht => by
    rw [beK, beq_iff_eq] at h
    obtain ⟨i, hi, he⟩ := List.mem_iff_getElem.1 ht
    obtain ⟨a, ha, hx⟩ := hl.2 i (by omega)
    rw [List.getElem?_eq_getElem hi] at hx
    injection hx with hx
    exact ⟨a, by omega, by rw [← he]; exact hx⟩
  | j + 1, n, hj, hl, h, t, ht => by
    have hk : 8 - (j + 1) = 7 - j := by omega
    rw [hk] at hl
    rw [beK, Bool.and_eq_true] at h
    refine be_keys j _ (by omega) ?_ h.2 t ht
    have : 8 - j = 7 - j + 1 := by omega
    rw [this]
    exact low_next hl
theorem may_keys {c : C} (h : mayB c = true) : ∀ t ∈ c.has, ∃ k, k < 8 ∧ t = key k := be_keys 8 0 (by omega) ⟨Nat.zero_le _, fun i hi => by omega⟩ (by rw [← h, mayB_beB]; rfl)
/-- is one of the first k keys there, and this one? -/
def anyK (c : C) (t : Txt) : Nat → Bool
  | 0 => false
  | k + 1 => anyK c t k || (is c k && key k == t)
theorem anyK_iff {c : C} {t : Txt} : ∀ j, anyK c t j = true ↔ ∃ k, k < j ∧ is c k = true ∧ key k = t
  | 0 => ⟨fun h => (by cases h), fun ⟨k, h, _⟩ => (by cases h)⟩
  | j + 1 => by
    rw [anyK, Bool.or_eq_true, anyK_iff j, Bool.and_eq_true, beq_iff_eq]
    constructor
    · rintro (⟨k, h1, h2⟩ | ⟨h1, h2⟩)
      · exact ⟨k, by omega, h2⟩
      · exact ⟨j, by omega, h1, h2⟩
    · rintro ⟨k, h1, h2, h3⟩
      by_cases e : k = j
      · exact .inr ⟨e ▸ h2, e ▸ h3⟩
      · exact .inl ⟨k, by omega, h2, h3⟩
theorem anyK_in {c : C} {t : Txt} (h : mayB c = true) : anyK c t 8 = inB c.has t := by
  rw [Bool.eq_iff_iff, anyK_iff]
  unfold inB
  rw [List.contains_iff_mem]
  constructor
  · rintro ⟨k, _, h2, rfl⟩
    exact List.contains_iff_mem.1 h2
  · intro ht
    obtain ⟨k, hk, rfl⟩ := may_keys h t ht
    exact ⟨k, hk, List.contains_iff_mem.2 ht, rfl⟩

set_option maxRecDepth 100000 in
set_option maxHeartbeats 2000000 in
theorem refStart_any (c : C) (v2 v3 : Value) (w : World) : Calls Tryz.prog 30 #[.agg (dCells (is c) c v2 v3)] w fun e w' => e = .returned (.int .i64 (startD c)) ∧ Below w.heap.size w w' := by
  have HS : Hid (startD c = if is c 4 = true ∧ (if is c 1 = true then c.at_ else -1) < c.from_ then c.from_ else (if is c 1 = true then c.at_ else -1)) := Lib.hid rfl
  have hb0 : ∀ cs, Below w.heap.size w (w.alloc (.cells cs 40)) := fun cs => (Below.refl _ _).alloc (Nat.le_refl _) _
  unfold dCells
  generalize is c 0 = b0
  generalize is c 2 = b2
  generalize is c 3 = b3
  generalize is c 5 = b5
  generalize is c 6 = b6
  generalize is c 7 = b7
  cases h1 : is c 1 <;> cases h4 : is c 4
  ·
    have HV : Hid (startD c = (-1)) := Lib.hid (by rw [HS.out, h1, h4]; simp)
    clear h1 h4 HS
    go_enter Tryz.func30, Tryz.ntmps30
    go_wp2
    go_ret
    exact ⟨by rw [HV.out]; rfl, hb0 _⟩
  ·
    by_cases hx : (-1) < c.from_
    · have HV : Hid (startD c = c.from_) := Lib.hid (by rw [HS.out, h1, h4]; simp; omega)
      clear h1 h4 HS
      go_enter Tryz.func30, Tryz.ntmps30
      go_wp2
      go_ret
      exact ⟨by rw [HV.out]; rfl, hb0 _⟩
    · have HV : Hid (startD c = (-1)) := Lib.hid (by rw [HS.out, h1, h4]; simp; omega)
      clear h1 h4 HS
      go_enter Tryz.func30, Tryz.ntmps30
      go_wp2
      go_ret
      exact ⟨by rw [HV.out]; rfl, hb0 _⟩
  ·
    have HV : Hid (startD c = c.at_) := Lib.hid (by rw [HS.out, h1, h4]; simp)
    clear h1 h4 HS
    go_enter Tryz.func30, Tryz.ntmps30
    go_wp2
    go_ret
    exact ⟨by rw [HV.out]; rfl, hb0 _⟩
  ·
    by_cases hx : c.at_ < c.from_
    · have HV : Hid (startD c = c.from_) := Lib.hid (by rw [HS.out, h1, h4]; simp; omega)
      clear h1 h4 HS
      go_enter Tryz.func30, Tryz.ntmps30
      go_wp2
      go_ret
      exact ⟨by rw [HV.out]; rfl, hb0 _⟩
    · have HV : Hid (startD c = c.at_) := Lib.hid (by rw [HS.out, h1, h4]; simp; omega)
      clear h1 h4 HS
      go_enter Tryz.func30, Tryz.ntmps30
      go_wp2
      go_ret
      exact ⟨by rw [HV.out]; rfl, hb0 _⟩
end Go.Proofs.YtnondmeafilplaaGreatDoor
