/-
  Floats in plain terms: which are numbers, which are finite, which are nought. Plain laws of sizes: bounds, what a prefix has. Plain laws of steps: sorted keys, objects, what a step does to a row.
-/
import Derived.Test.YtbajkglacfheiaaGreatDoorSA1
import Derived.Laws.FloatBits
import GoSem.Core.Float
set_option linter.unusedVariables false
set_option linter.unusedSimpArgs false
set_option maxRecDepth 100000
set_option maxHeartbeats 16000000
namespace Go.Proofs.YtbajkglacfheiaaGreatDoor
namespace Nd
open Ieee

def finB (b : Nat) : Bool := decide (b % 9223372036854775808 < 9218868437227405312)
def normB (b : Nat) : Nat := if b % 9223372036854775808 = 0 then 0 else b

theorem sw : Format.signWeight double = 9223372036854775808 := by decide
theorem ir : Format.infRung double = 9218868437227405312 := by decide
theorem bn : Format.binade double = 4503599627370496 := by decide
theorem lp : Format.leastPlace double = -1074 := by decide

theorem read_fin {b : Nat} (h : b % 9223372036854775808 < 9218868437227405312) : ∃ m p, double.read b = .number (b / 9223372036854775808 % 2 == 1) m p ∧ (m = 0 ↔ b % 9223372036854775808 = 0) ∧ -1074 ≤ p ∧ ((b % 9223372036854775808 < 4503599627370496 ∧ m < 4503599627370496 ∧ p = -1074) ∨ (m < 9007199254740992 ∧ p ≤ 971)) := by
 unfold Format.read
 simp only [sw, ir, bn, lp]
 by_cases h1 : b % 9223372036854775808 < 4503599627370496
 ·rw [if_pos h1]
  exact ⟨_, _, rfl, Iff.rfl, by omega, .inl ⟨h1, h1, rfl⟩⟩
 ·rw [if_neg h1, if_pos h]
  refine ⟨_, _, rfl, by omega, by omega, .inr ⟨by omega, by omega⟩⟩
theorem read_inf {b : Nat} (h : b % 9223372036854775808 = 9218868437227405312) : double.read b = .infinity (b / 9223372036854775808 % 2 == 1) := by
 unfold Format.read
 simp only [sw, ir, bn, lp, h]
 rw [if_neg (by omega), if_neg (by omega), if_pos trivial]
theorem read_nan {b : Nat} (h : 9218868437227405312 < b % 9223372036854775808) : ∃ s t, double.read b = .nan s t := by
 unfold Format.read
 simp only [sw, ir, bn, lp]
 rw [if_neg (by omega), if_neg (by omega), if_neg (by omega)]
 exact ⟨_, _, rfl⟩
theorem order_self {b : Nat} (h : b % 9223372036854775808 ≤ 9218868437227405312) : double.order b b = some .eq := by
 unfold Format.order
 rcases Nat.lt_or_ge (b % 9223372036854775808) 9218868437227405312 with h1 | h1
 ·obtain ⟨m, p, e, _⟩ := read_fin h1
  rw [e]
  simp [Datum.order]
 ·rw [read_inf (by omega)]
  simp [Datum.order]
theorem order_nan {b : Nat} (h : 9218868437227405312 < b % 9223372036854775808) (c : Nat) : double.order b c = none := by
 unfold Format.order
 obtain ⟨s, t, e⟩ := read_nan h
 rw [e]
 cases double.read c <;> rfl
theorem order_zero {b : Nat} (h : b % 9223372036854775808 < 9218868437227405312) : (double.order b 0 == some .eq) = decide (b % 9223372036854775808 = 0) := by
 obtain ⟨m, p, e, hm, hp, _⟩ := read_fin h
 have h0 : double.read 0 = .number false 0 (-1074) := by decide
 unfold Format.order
 rw [e, h0]
 simp only [Datum.order]
 by_cases hz : b % 9223372036854775808 = 0
 ·have := hm.2 hz
  subst this
  simp [signed, hz]
 ·have hm0 : m ≠ 0 := fun e => hz (hm.1 e)
  have hs : m <<< (p - min p (-1074)).toNat ≠ 0 := by
   rw [Nat.shiftLeft_eq]
   exact Nat.mul_ne_zero hm0 (Nat.pos_iff_ne_zero.1 (Nat.two_pow_pos _))
  generalize m <<< (p - min p (-1074)).toNat = k at hs
  simp only [hz, decide_false]
  cases (b / 9223372036854775808 % 2 == 1) <;> simp [signed, compare, compareOfLessAndEq] <;> (try split) <;> (try simp) <;> (try omega)
theorem max_read : double.read 9218868437227405311 = .number false 9007199254740991 971 := by decide
theorem order_max {b : Nat} (hb : b < 9223372036854775808) (h : b ≤ 9218868437227405312) : (double.order b 9218868437227405311 == some .gt) = decide (b = 9218868437227405312) := by
 unfold Format.order
 rw [max_read]
 rcases Nat.lt_or_ge b 9218868437227405312 with h1 | h1
 ·obtain ⟨m, p, e, _, hp, hc⟩ := read_fin (b := b) (by rw [Nat.mod_eq_of_lt hb]; exact h1)
  have hs : (b / 9223372036854775808 % 2 == 1) = false := by rw [Nat.div_eq_of_lt hb]; rfl
  rw [e, hs]
  simp only [Datum.order]
  have hp9 : p ≤ 971 := by omega
  have hm9 : m ≤ 9007199254740991 := by omega
  have e1 : min p 971 = p := by omega
  rw [e1]
  have hd : decide (b = 9218868437227405312) = false := decide_eq_false (by omega)
  rw [hd]
  have e2 : (p - p).toNat = 0 := by omega
  rw [e2]
  have hle : m <<< 0 ≤ 9007199254740991 <<< (971 - p).toNat := by
   rw [Nat.shiftLeft_eq, Nat.shiftLeft_eq, Nat.pow_zero, Nat.mul_one]
   exact Nat.le_trans hm9 (Nat.le_mul_of_pos_right _ (Nat.two_pow_pos _))
  simp only [signed, Bool.false_eq_true, if_false]
  generalize (9007199254740991 : Nat) <<< (971 - p).toNat = q at hle ⊢
  generalize m <<< 0 = r at hle ⊢
  rcases Nat.lt_or_eq_of_le hle with h | h
  ·have hc : compare (r : Int) (q : Int) = .lt := by
    unfold compare instOrdInt compareOfLessAndEq
    simp only
    rw [if_pos (by omega)]
   rw [hc]
   rfl
  ·have hc : compare (r : Int) (q : Int) = .eq := by
    rw [h]
    simp
   rw [hc]
   rfl
 ·have hb2 : b = 9218868437227405312 := by omega
  rw [read_inf (by rw [hb2])]
  subst hb2
  rfl
end Nd
end Go.Proofs.YtbajkglacfheiaaGreatDoor
namespace Go.Proofs.YtbajkglacfheiaaGreatDoor
namespace Nd

theorem nodesL_app : ∀ a b, nodesL (a ++ b) = nodesL a + nodesL b
 | [], b => by simp [nodesL]
 | t :: a, b => by simp [nodesL, nodesL_app a b, Nat.add_assoc]
theorem bytesL_app : ∀ a b, bytesL (a ++ b) = bytesL a + bytesL b
 | [], b => by simp [bytesL]
 | t :: a, b => by simp [bytesL, bytesL_app a b, Nat.add_assoc]
theorem depthL_app : ∀ a b, depthL (a ++ b) = max (depthL a) (depthL b)
 | [], b => by simp [depthL]
 | t :: a, b => by simp [depthL, depthL_app a b, Nat.max_assoc]
theorem fit_le {t : Tr} (h : t.fit = true) : t.nodes ≤ 65536 ∧ t.bytes ≤ 2097152 ∧ t.depth ≤ 512 := by
 simp [Tr.fit] at h
 omega
theorem sums_le : ∀ l : List Tr, (∀ t ∈ l, t.fit = true) → nodesL l ≤ 65536 * l.length ∧ bytesL l ≤ 2097152 * l.length ∧ depthL l ≤ 512
 | [], _ => by simp [nodesL, bytesL, depthL]
 | t :: l, h => by
  have h1 := fit_le (h t (by simp))
  have h2 := sums_le l fun u hu => h u (by simp [hu])
  simp only [nodesL, bytesL, depthL, List.length_cons]
  omega
theorem take_snoc (l : List Tr) (k : Nat) (h : k < l.length) : l.take (k + 1) = l.take k ++ [l[k]] := by
 rw [List.take_succ_eq_append_getElem h]
theorem nodesL_snoc (l : List Tr) (k : Nat) (h : k < l.length) : nodesL (l.take (k + 1)) = nodesL (l.take k) + l[k].nodes := by
 rw [take_snoc l k h, nodesL_app]
 simp [nodesL]
theorem bytesL_snoc (l : List Tr) (k : Nat) (h : k < l.length) : bytesL (l.take (k + 1)) = bytesL (l.take k) + l[k].bytes := by
 rw [take_snoc l k h, bytesL_app]
 simp [bytesL]
theorem depthL_snoc (l : List Tr) (k : Nat) (h : k < l.length) : depthL (l.take (k + 1)) = max (depthL (l.take k)) l[k].depth := by
 rw [take_snoc l k h, depthL_app]
 simp [depthL]
theorem sums_at (l : List Tr) (k : Nat) (h : ∀ t ∈ l, t.fit = true) (hl : l.length ≤ 65536) : nodesL (l.take k) ≤ 4294967296 ∧ bytesL (l.take k) ≤ 137438953472 ∧ depthL (l.take k) ≤ 512 := by
 have := sums_le (l.take k) fun t ht => h t (List.mem_of_mem_take ht)
 have h2 : (l.take k).length ≤ 65536 := by
  have := List.length_take_le k l
  rw [List.length_take]
  omega
 omega
end Nd
end Go.Proofs.YtbajkglacfheiaaGreatDoor
namespace Go.Proofs.YtbajkglacfheiaaGreatDoor
namespace Nd

def sortK (ks : List Tx) : List Tx := ks.mergeSort fun x y => !ltL y x
theorem sortK_perm (ks : List Tx) : (sortK ks).Perm ks := List.mergeSort_perm _ _
theorem sortK_len (ks : List Tx) : (sortK ks).length = ks.length := (sortK_perm ks).length_eq
def mkObj (ks : List Tx) (I : List Tr) : Tr := .obj (sortK ks) ((sortK ks).map fun k => I.getD (ks.idxOf k) .null)
theorem nodesL_perm {a b : List Tr} (h : a.Perm b) : nodesL a = nodesL b := by
 induction h with
 | nil => rfl
 | cons x _ ih => simp [nodesL, ih]
 | swap x y l => simp [nodesL]; omega
 | trans _ _ h1 h2 => exact h1.trans h2
theorem bytesL_perm {a b : List Tr} (h : a.Perm b) : bytesL a = bytesL b := by
 induction h with
 | nil => rfl
 | cons x _ ih => simp [bytesL, ih]
 | swap x y l => simp [bytesL]; omega
 | trans _ _ h1 h2 => exact h1.trans h2
theorem depthL_perm {a b : List Tr} (h : a.Perm b) : depthL a = depthL b := by
 induction h with
 | nil => rfl
 | cons x _ ih => simp [depthL, ih]
 | swap x y l => simp [depthL]; omega
 | trans _ _ h1 h2 => exact h1.trans h2
theorem lens_perm {a b : List Tx} (h : a.Perm b) : lens a = lens b := by
 induction h with
 | nil => rfl
 | cons x _ ih => simp [lens, ih]
 | swap x y l => simp [lens]; omega
 | trans _ _ h1 h2 => exact h1.trans h2
theorem idxOf_at : ∀ (ks : List Tx), ks.Nodup → ∀ (i : Nat) (h : i < ks.length), ks.idxOf ks[i] = i
 | x :: ks, hn, 0, h => by simp
 | x :: ks, hn, i + 1, h => by
  rw [List.nodup_cons] at hn
  have h' : i < ks.length := by simpa using h
  have hne : (x == ks[i]) = false := by
   simp only [beq_eq_false_iff_ne]
   intro e
   exact hn.1 (e ▸ List.getElem_mem h')
  rw [List.getElem_cons_succ, List.idxOf_cons, hne]
  simp [idxOf_at ks hn.2 i h']
theorem map_idx {α : Type} (d : α) (ks : List Tx) (hn : ks.Nodup) (I : List α) (hl : I.length = ks.length) : (ks.map fun k => I.getD (ks.idxOf k) d) = I := by
 apply List.ext_getElem (by simp [hl])
 intro i h1 h2
 simp only [List.getElem_map]
 have hi : i < ks.length := by omega
 have : ks.idxOf ks[i] = i := idxOf_at ks hn i hi
 rw [this, List.getD_eq_getElem?_getD, List.getElem?_eq_getElem h2]
 rfl
theorem items_perm {α : Type} (d : α) (ks : List Tx) (hn : ks.Nodup) (I : List α) (hl : I.length = ks.length) : ((sortK ks).map fun k => I.getD (ks.idxOf k) d).Perm I := by
 have h := (sortK_perm ks).map fun k => I.getD (ks.idxOf k) d
 rw [map_idx d ks hn I hl] at h
 exact h
theorem mkObj_nodes (ks : List Tx) (hn : ks.Nodup) (I : List Tr) (hl : I.length = ks.length) : (mkObj ks I).nodes = 1 + nodesL I := by
 unfold mkObj Tr.nodes
 rw [nodesL_perm (items_perm .null ks hn I hl)]
theorem mkObj_bytes (ks : List Tx) (hn : ks.Nodup) (I : List Tr) (hl : I.length = ks.length) : (mkObj ks I).bytes = lens ks + bytesL I := by
 unfold mkObj Tr.bytes
 rw [bytesL_perm (items_perm .null ks hn I hl), lens_perm (sortK_perm ks)]
theorem mkObj_depth (ks : List Tx) (hn : ks.Nodup) (I : List Tr) (hl : I.length = ks.length) : (mkObj ks I).depth = depthL I + 1 := by
 unfold mkObj Tr.depth
 rw [depthL_perm (items_perm .null ks hn I hl)]
theorem lens_snoc (ks : List Tx) (k : Nat) (h : k < ks.length) : lens (ks.take (k + 1)) = lens (ks.take k) + ks[k].length := by
 have app : ∀ a b : List Tx, lens (a ++ b) = lens a + lens b := by
  intro a b
  induction a with
  | nil => simp [lens]
  | cons x a ih => simp [lens, ih, Nat.add_assoc]
 rw [List.take_succ_eq_append_getElem h, app]
 simp [lens]
theorem lens_le (ks : List Tx) (k : Nat) : lens (ks.take k) ≤ lens ks := by
 induction ks generalizing k with
 | nil => simp [lens]
 | cons x ks ih =>
  cases k with
  | zero => simp [lens]
  | succ k =>
   have := ih k
   simp only [List.take_succ_cons, lens]
   omega
theorem lens_at (ks : List Tx) (k : Nat) (h : k < ks.length) : ks[k].length ≤ lens ks := by
 have h1 := lens_snoc ks k h
 have h2 := lens_le ks (k + 1)
 omega

def objT (R : Tx → Bool) (ks : List Tx) (l : List Tr) : Int × List Tr :=
 if ks.all R = false then (100, l)
 else if ¬ ks.Nodup then (101, l)
 else if l.length < ks.length then (102, l)
 else if (mkObj ks (l.drop (l.length - ks.length))).fit = true then (0, l.take (l.length - ks.length) ++ [mkObj ks (l.drop (l.length - ks.length))])
 else (3, l)
theorem objT_100 {R : Tx → Bool} {ks : List Tx} {l : List Tr} (k : Nat) (h : k < ks.length) (hr : R ks[k] = false) : objT R ks l = (100, l) := by
 unfold objT
 rw [if_pos]
 rw [List.all_eq_false]
 exact ⟨ks[k], List.getElem_mem h, by simp [hr]⟩
theorem objT_101 {R : Tx → Bool} {ks : List Tx} {l : List Tr} (ha : ks.all R = true) (k : Nat) (h : k < ks.length) (hr : ks[k] ∈ ks.take k) : objT R ks l = (101, l) := by
 unfold objT
 rw [if_neg (by simp [ha]), if_pos]
 intro hn
 obtain ⟨j, hj, e⟩ := List.getElem_of_mem hr
 have hj2 : j < k := by rw [List.length_take] at hj; omega
 rw [List.getElem_take] at e
 have h2 := List.pairwise_iff_getElem.1 hn j k (by omega) h hj2
 exact h2 e
theorem objT_102 {R : Tx → Bool} {ks : List Tx} {l : List Tr} (ha : ks.all R = true) (hn : ks.Nodup) (hl : l.length < ks.length) : objT R ks l = (102, l) := by
 unfold objT
 rw [if_neg (by simp [ha]), if_neg (by simpa using hn), if_pos hl]
theorem objT_3 {R : Tx → Bool} {ks : List Tx} {l : List Tr} (ha : ks.all R = true) (hn : ks.Nodup) (hl : ks.length ≤ l.length) (hf : (mkObj ks (l.drop (l.length - ks.length))).fit = false) : objT R ks l = (3, l) := by
 unfold objT
 rw [if_neg (by simp [ha]), if_neg (by simpa using hn), if_neg (by omega), if_neg (by simp [hf])]
theorem objT_0 {R : Tx → Bool} {ks : List Tx} {l : List Tr} (ha : ks.all R = true) (hn : ks.Nodup) (hl : ks.length ≤ l.length) (hf : (mkObj ks (l.drop (l.length - ks.length))).fit = true) : objT R ks l = (0, l.take (l.length - ks.length) ++ [mkObj ks (l.drop (l.length - ks.length))]) := by
 unfold objT
 rw [if_neg (by simp [ha]), if_neg (by simpa using hn), if_neg (by omega), if_pos hf]
theorem nodup_snoc {ks : List Tx} {k : Nat} (h : k < ks.length) (hn : (ks.take k).Nodup) (hm : ks[k] ∉ ks.take k) : (ks.take (k + 1)).Nodup := by
 rw [List.take_succ_eq_append_getElem h, List.nodup_append]
 refine ⟨hn, by simp, ?_⟩
 intro a ha b hb e
 simp at hb
 subst hb
 subst e
 exact hm ha
theorem all_snoc {R : Tx → Bool} {ks : List Tx} {k : Nat} (h : k < ks.length) (hn : (ks.take k).all R = true) (hm : R ks[k] = true) : (ks.take (k + 1)).all R = true := by
 rw [List.take_succ_eq_append_getElem h, List.all_append, hn]
 simp [hm]
end Nd
end Go.Proofs.YtbajkglacfheiaaGreatDoor
