/-
  How the reference's values lie in memory. Walks of the reference of layer 10: finite, Num, Used, right. Walks of the reference of layer 10: sorted. Walks of the reference of layer 10: twice.
-/
import Derived.Test.YtbajkglacfheiaaGreatDoorTA21
import Derived.Test.YtbajkglacfheiaaGreatDoorTA9
import Derived.Test.YtbajkglacfheiaaGreatDoorTA16
import Derived.Laws.Bits64b
import Derived.Deep.Upon
import Derived.Deep.RegionHeldLaw
import Derived.BigQuiet
set_option linter.unusedVariables false
set_option maxRecDepth 100000
set_option maxHeartbeats 16000000
namespace Go.Proofs.YtbajkglacfheiaaGreatDoor
open Go.RowKit Mem
namespace Nd
abbrev X4 := (Option Addr × Nat) × (Option Addr × Nat)
def cellV (t : Tr) (x : X4) : List Value := [.int .i64 (t.srt : Nat), .bool t.fl, .int .u64 (t.bi : Nat), .string ⟨t.tx.toArray⟩, .slice x.1.1 t.kids.length x.1.2, .slice x.2.1 t.kn.length x.2.2]
def cellsV : List Tr → List X4 → List Value
 | t :: l, x :: xs => cellV t x ++ cellsV l xs
 | _, _ => []
def Cells (S : Nat → Prop) (w : World) (A : Option Addr) (us : List Value) : Prop :=
 us = [] ∨ ∃ g o, A = some ⟨g, o, none⟩ ∧ S g ∧ ∀ i u, us[i]? = some u → w.cell? ⟨g, o + i, none⟩ = some u
mutual
def RdV (S : Nat → Prop) (w : World) : Tr → X4 → Prop
 | .list l, x => ∃ xs, Cells S w x.1.1 (cellsV l xs) ∧ RdVL S w l xs
 | .obj ks l, x => Cells S w x.2.1 (ks.map txV) ∧ ∃ xs, Cells S w x.1.1 (cellsV l xs) ∧ RdVL S w l xs
 | _, _ => True
def RdVL (S : Nat → Prop) (w : World) : List Tr → List X4 → Prop
 | [], xs => xs = []
 | t :: l, xs => ∃ x xs', xs = x :: xs' ∧ RdV S w t x ∧ RdVL S w l xs'
end
section
variable {S S' : Nat → Prop} {w w' : World} {A : Option Addr} {us : List Value}
theorem cell_block {w w' : World} {g o : Nat} (h : w'.heap[g]? = w.heap[g]?) : w'.cell? ⟨g, o, none⟩ = w.cell? ⟨g, o, none⟩ := by
 unfold World.cell?
 simp only [h]
theorem Cells.move (h : Cells S w A us) (hm : ∀ k, k < w.heap.size → S k → S' k ∧ w'.heap[k]? = w.heap[k]?) : Cells S' w' A us := by
 rcases h with h | ⟨g, o, hA, hS, hc⟩
 ·exact .inl h
 ·cases us with
  | nil => exact .inl rfl
  | cons u us =>
   have hlt : g < w.heap.size := World.block_lt_of_cell? w _ (hc 0 u rfl)
   have := hm g hlt hS
   exact .inr ⟨g, o, hA, this.1, fun i u hu => (cell_block this.2).trans (hc i u hu)⟩
theorem rdvl_iff (S : Nat → Prop) (w : World) : ∀ (l : List Tr) (xs : List X4), RdVL S w l xs ↔ xs.length = l.length ∧ ∀ (j : Nat) t x, l[j]? = some t → xs[j]? = some x → RdV S w t x
 | [], xs => by
  unfold RdVL
  constructor
  ·rintro rfl
   exact ⟨rfl, fun j t x h => by simp at h⟩
  ·rintro ⟨h, _⟩
   exact List.length_eq_zero_iff.1 h
 | t :: l, xs => by
  unfold RdVL
  constructor
  ·rintro ⟨x, xs', rfl, h1, h2⟩
   obtain ⟨h3, h4⟩ := (rdvl_iff S w l xs').1 h2
   refine ⟨by simp [h3], fun j t' x' hj hv => ?_⟩
   cases j with
   | zero =>
    simp at hj hv
    subst hj; subst hv
    exact h1
   | succ j => exact h4 j t' x' (by simpa using hj) (by simpa using hv)
  ·rintro ⟨h1, h2⟩
   cases xs with
   | nil => simp at h1
   | cons x xs => exact ⟨x, xs, rfl, h2 0 t x rfl rfl, (rdvl_iff S w l xs).2 ⟨by simpa using h1, fun j t' x' hj hv => h2 (j + 1) t' x' (by simpa using hj) (by simpa using hv)⟩⟩
theorem RdVL.len {l : List Tr} {xs : List X4} (h : RdVL S w l xs) : xs.length = l.length := ((rdvl_iff S w l xs).1 h).1
theorem RdVL.at {l : List Tr} {xs : List X4} (h : RdVL S w l xs) {j : Nat} {t : Tr} {x : X4} (h1 : l[j]? = some t) (h2 : xs[j]? = some x) : RdV S w t x := ((rdvl_iff S w l xs).1 h).2 j t x h1 h2
theorem RdV.move (hm : ∀ k, k < w.heap.size → S k → S' k ∧ w'.heap[k]? = w.heap[k]?) : ∀ t x, RdV S w t x → RdV S' w' t x := by
 intro t
 induction t using Tr.ind with
 | h0 => exact fun x h => by unfold RdV at *; trivial
 | h1 b => exact fun x h => by unfold RdV at *; trivial
 | h2 b => exact fun x h => by unfold RdV at *; trivial
 | h3 b => exact fun x h => by unfold RdV at *; trivial
 | h4 l ih =>
  intro x h
  unfold RdV at h ⊢
  obtain ⟨xs, hC, hL⟩ := h
  exact ⟨xs, hC.move hm, (rdvl_iff _ _ _ _).2 ⟨hL.len, fun j t u h1 h2 => ih t (List.mem_of_getElem? h1) u (hL.at h1 h2)⟩⟩
 | h5 ks l ih =>
  intro x h
  unfold RdV at h ⊢
  obtain ⟨hK, xs, hC, hL⟩ := h
  exact ⟨hK.move hm, xs, hC.move hm, (rdvl_iff _ _ _ _).2 ⟨hL.len, fun j t u h1 h2 => ih t (List.mem_of_getElem? h1) u (hL.at h1 h2)⟩⟩
theorem RdVL.move {l : List Tr} {xs : List X4} (h : RdVL S w l xs) (hm : ∀ k, k < w.heap.size → S k → S' k ∧ w'.heap[k]? = w.heap[k]?) : RdVL S' w' l xs :=
 (rdvl_iff _ _ _ _).2 ⟨h.len, fun _ _ _ h1 h2 => RdV.move hm _ _ (h.at h1 h2)⟩
theorem RdV.kids {t : Tr} {x : X4} (h : RdV S w t x) : ∃ xs, Cells S w x.1.1 (cellsV t.kids xs) ∧ RdVL S w t.kids xs := by
 cases t with
 | list l =>
  unfold RdV at h
  exact h
 | obj ks l =>
  unfold RdV at h
  exact h.2
 | _ => exact ⟨[], .inl rfl, by unfold Tr.kids RdVL; rfl⟩
theorem RdV.keys {t : Tr} {x : X4} (h : RdV S w t x) : Cells S w x.2.1 (t.kn.map txV) := by
 cases t with
 | obj ks l =>
  unfold RdV at h
  exact h.1
 | _ => exact .inl rfl
theorem RdVL.snoc {l : List Tr} {xs : List X4} {t : Tr} {x : X4} (h : RdVL S w l xs) (h1 : RdV S w t x) : RdVL S w (l ++ [t]) (xs ++ [x]) := by
 have hl := h.len
 refine (rdvl_iff _ _ _ _).2 ⟨by simp [hl], fun j t' u' hj hu => ?_⟩
 rcases Nat.lt_or_ge j l.length with hlt | hge
 ·rw [List.getElem?_append_left hlt] at hj
  rw [List.getElem?_append_left (by omega)] at hu
  exact h.at hj hu
 ·rw [List.getElem?_append_right hge] at hj
  rw [List.getElem?_append_right (by omega)] at hu
  have e : j - xs.length = j - l.length := by omega
  rw [e] at hu
  cases hk : j - l.length with
  | zero =>
   rw [hk] at hj hu
   simp at hj hu
   subst hj; subst hu
   exact h1
  | succ k =>
   rw [hk] at hj
   simp at hj
theorem RdVL.drop {l : List Tr} {xs : List X4} (h : RdVL S w l xs) (k : Nat) : RdVL S w (l.drop k) (xs.drop k) := by
 have hl := h.len
 exact (rdvl_iff _ _ _ _).2 ⟨by simp [hl], fun j t u hj hu => h.at (j := k + j) (by simpa using hj) (by simpa using hu)⟩
theorem RdVL.take {l : List Tr} {xs : List X4} (h : RdVL S w l xs) (k : Nat) : RdVL S w (l.take k) (xs.take k) := by
 have hl := h.len
 refine (rdvl_iff _ _ _ _).2 ⟨by simp [hl], fun j t u hj hu => ?_⟩
 rw [List.getElem?_take] at hj hu
 split at hj
 ·rw [if_pos (by assumption)] at hu
  exact h.at hj hu
 ·cases hj
end
theorem cellV_len (t : Tr) (x : X4) : (cellV t x).length = 6 := rfl
theorem cellsV_len : ∀ (l : List Tr) (xs : List X4), xs.length = l.length → (cellsV l xs).length = l.length * 6
 | [], [], _ => rfl
 | [], _ :: _, h => by simp at h
 | _ :: _, [], h => by simp at h
 | t :: l, x :: xs, h => by
  have := cellsV_len l xs (by simpa using h)
  rw [cellsV, List.length_append, cellV_len, this, List.length_cons]
  omega
theorem cellsV_at : ∀ (l : List Tr) (xs : List X4) (j : Nat) (t : Tr) (x : X4), l[j]? = some t → xs[j]? = some x → ∀ i, i < 6 → (cellsV l xs)[j * 6 + i]? = (cellV t x)[i]?
 | [], _, j, t, x, h, _, _, _ => by simp at h
 | _ :: _, [], j, t, x, _, h, _, _ => by simp at h
 | t :: l, x :: xs, 0, t', x', h, h', i, hi => by
  simp at h h'
  subst h; subst h'
  rw [cellsV, Nat.zero_mul, Nat.zero_add, List.getElem?_append_left (by rw [cellV_len]; omega)]
 | t :: l, x :: xs, j + 1, t', x', h, h', i, hi => by
  have ih := cellsV_at l xs j t' x' (by simpa using h) (by simpa using h') i hi
  rw [cellsV, List.getElem?_append_right (by rw [cellV_len]; omega), ← ih, cellV_len]
  congr 1
  omega
theorem cellsV_app : ∀ (l : List Tr) (xs : List X4) (l' : List Tr) (xs' : List X4), xs.length = l.length → cellsV (l ++ l') (xs ++ xs') = cellsV l xs ++ cellsV l' xs'
 | [], [], _, _, _ => rfl
 | [], _ :: _, _, _, h => by simp at h
 | _ :: _, [], _, _, h => by simp at h
 | t :: l, x :: xs, l', xs', h => by
  have := cellsV_app l xs l' xs' (by simpa using h)
  show cellV t x ++ cellsV (l ++ l') (xs ++ xs') = (cellV t x ++ cellsV l xs) ++ cellsV l' xs'
  rw [this, List.append_assoc]
theorem cellsV_snoc (l : List Tr) (xs : List X4) (t : Tr) (x : X4) (h : xs.length = l.length) : cellsV (l ++ [t]) (xs ++ [x]) = cellsV l xs ++ cellV t x := by
 rw [cellsV_app l xs _ _ h]
 show cellsV l xs ++ (cellV t x ++ []) = _
 rw [List.append_nil]
theorem cellsV_drop : ∀ (k : Nat) (l : List Tr) (xs : List X4), xs.length = l.length → cellsV (l.drop k) (xs.drop k) = (cellsV l xs).drop (k * 6)
 | 0, l, xs, _ => by simp
 | k + 1, [], [], _ => by simp [cellsV]
 | k + 1, [], _ :: _, h => by simp at h
 | k + 1, _ :: _, [], h => by simp at h
 | k + 1, t :: l, x :: xs, h => by
  have := cellsV_drop k l xs (by simpa using h)
  rw [List.drop_succ_cons, List.drop_succ_cons, this, cellsV, List.drop_append, cellV_len, show (k + 1) * 6 - 6 = k * 6 from by omega]
  rw [show (cellV t x).drop ((k + 1) * 6) = [] from List.drop_eq_nil_of_le (by rw [cellV_len]; omega), List.nil_append]
theorem cellsV_take : ∀ (k : Nat) (l : List Tr) (xs : List X4), xs.length = l.length → cellsV (l.take k) (xs.take k) = (cellsV l xs).take (k * 6)
 | 0, l, xs, _ => by simp [cellsV]
 | k + 1, [], [], _ => by simp [cellsV]
 | k + 1, [], _ :: _, h => by simp at h
 | k + 1, _ :: _, [], h => by simp at h
 | k + 1, t :: l, x :: xs, h => by
  have := cellsV_take k l xs (by simpa using h)
  rw [List.take_succ_cons, List.take_succ_cons, cellsV, this, cellsV, List.take_append, cellV_len, show (k + 1) * 6 - 6 = k * 6 from by omega]
  rw [show (cellV t x).take ((k + 1) * 6) = cellV t x from List.take_of_length_le (by rw [cellV_len]; omega)]
theorem cellV_one (t : Tr) (x : X4) : ∀ u ∈ cellV t x, u.oneCell' = true := by
 intro u hu
 simp [cellV] at hu
 rcases hu with rfl | rfl | rfl | rfl | rfl | rfl <;> rfl
theorem cellsV_one : ∀ (l : List Tr) (xs : List X4), ∀ u ∈ cellsV l xs, u.oneCell' = true
 | [], _, u, hu => by simp [cellsV] at hu
 | _ :: _, [], u, hu => by simp [cellsV] at hu
 | t :: l, x :: xs, u, hu => by
  rw [cellsV] at hu
  rcases List.mem_append.1 hu with hu | hu
  ·exact cellV_one t x u hu
  ·exact cellsV_one l xs u hu
abbrev valV (t : Tr) (A : Option Addr) (c : Nat) (K : Option Addr) (d : Nat) : Value := .agg #[.int .i64 (t.srt : Nat), .bool t.fl, .int .u64 (t.bi : Nat), .string ⟨t.tx.toArray⟩, .slice A t.kids.length c, .slice K t.kn.length d]
structure CellsV (w : World) (g o : Nat) (t : Tr) (x : X4) : Prop where
 c0 : w.cell? ⟨g, o, none⟩ = some (.int .i64 (t.srt : Nat))
 c1 : w.cell? ⟨g, o + 1, none⟩ = some (.bool t.fl)
 c2 : w.cell? ⟨g, o + 2, none⟩ = some (.int .u64 (t.bi : Nat))
 c3 : w.cell? ⟨g, o + 3, none⟩ = some (.string ⟨t.tx.toArray⟩)
 c4 : w.cell? ⟨g, o + 4, none⟩ = some (.slice x.1.1 t.kids.length x.1.2)
 c5 : w.cell? ⟨g, o + 5, none⟩ = some (.slice x.2.1 t.kn.length x.2.2)
theorem cells_at {S : Nat → Prop} {w : World} {A : Option Addr} {l : List Tr} {xs : List X4} (h : Cells S w A (cellsV l xs)) (hl : RdVL S w l xs) {k : Nat} (hk : k < l.length) :
  ∃ g o x, A = some ⟨g, o, none⟩ ∧ S g ∧ xs[k]? = some x ∧ CellsV w g (o + k * 6) l[k] x ∧ RdV S w l[k] x := by
 have hle := hl.len
 have hx : xs[k]? = some (xs[k]'(by omega)) := List.getElem?_eq_getElem (by omega)
 have ht : l[k]? = some l[k] := List.getElem?_eq_getElem hk
 rcases h with h | ⟨g, o, hA, hS, hc⟩
 ·have := cellsV_len l xs hle
  rw [h] at this
  simp at this
  omega
 ·have hi : ∀ i u, (cellV l[k] (xs[k]'(by omega)))[i]? = some u → i < 6 → w.cell? ⟨g, o + k * 6 + i, none⟩ = some u := fun i u hu hi => by
   rw [Nat.add_assoc]
   exact hc _ _ ((cellsV_at l xs k _ _ ht hx i hi).trans hu)
  exact ⟨g, o, _, hA, hS, hx, ⟨hi 0 _ rfl (by omega), hi 1 _ rfl (by omega), hi 2 _ rfl (by omega), hi 3 _ rfl (by omega), hi 4 _ rfl (by omega), hi 5 _ rfl (by omega)⟩, hl.at ht hx⟩
theorem keys_at {S : Nat → Prop} {w : World} {A : Option Addr} {ks : List Tx} (h : Cells S w A (ks.map txV)) {k : Nat} (hk : k < ks.length) :
  ∃ g o, A = some ⟨g, o, none⟩ ∧ S g ∧ w.cell? ⟨g, o + k, none⟩ = some (.string ⟨ks[k].toArray⟩) := by
 rcases h with h | ⟨g, o, hA, hS, hc⟩
 ·have := congrArg List.length h
  simp at this
  subst this
  simp at hk
 ·exact ⟨g, o, hA, hS, hc k _ (by rw [List.getElem?_map, List.getElem?_eq_getElem hk]; rfl)⟩
end Nd
end Go.Proofs.YtbajkglacfheiaaGreatDoor
namespace Go.Proofs.YtbajkglacfheiaaGreatDoor
open Go.RowKit Mem Ref3
namespace Nd
theorem fin_bits {b : Nat} (hb : b < 18446744073709551616) : (bits BinOp.and IntKind.u64 ((b : Int) / 4503599627370496) 2047 != 2047) = finB b := by
 have e : ((b : Int) / 4503599627370496) = ((b / 4503599627370496 : Nat) : Int) := by omega
 have h := bits_and_u64_nat (b / 4503599627370496) 2047 (by omega) (by omega)
 have h2 : b / 4503599627370496 &&& 2047 = b / 4503599627370496 % 2048 := Nat.and_two_pow_sub_one_eq_mod _ 11
 rw [h2] at h
 rw [e, show ((2047 : Int)) = ((2047 : Nat) : Int) from rfl, h]
 unfold finB
 rw [Bool.eq_iff_iff]
 simp only [bne_iff_ne, ne_eq, decide_eq_true_eq]
 omega
theorem finite_any (b : Nat) (hb : b < 18446744073709551616) (w : World) : Calls Tryz.prog 167 #[.int .u64 (b : Int)] w fun e w' => e = .returned (.bool (finB b)) ∧ w = w' := by
 have HB := Lib.hid (fin_bits hb)
 clear hb
 go_enter Tryz.func167, Tryz.ntmps167
 go_wp2
 go_ret
 exact ⟨by rw [← HB.out]; rfl, rfl⟩
theorem num_any (b : Nat) (w : World) (hb : b < 18446744073709551616) : Calls Tryz.prog 171 #[.int .u64 (b : Int)] w fun e w' => e = .returned (.agg #[.int .i64 3, .bool false, .int .u64 (normB b : Nat), .string ⟨#[]⟩, .slice none 0 0, .slice none 0 0]) ∧ Below w.heap.size w w' := by
 by_cases h : b = 9223372036854775808
 ·have hn : normB b = 0 := by subst h; rfl
  have hd : ((b : Int) == 9223372036854775808) = true := by subst h; rfl
  have HN := Lib.hid hn
  clear hn h hb
  go_enter Tryz.func171, Tryz.ntmps171
  go_wp2
  refine bodyPost_ret (v := .agg #[.int .i64 3, .bool false, .int .u64 (normB b : Nat), .string ⟨#[]⟩, .slice none 0 0, .slice none 0 0]) ?_ rfl ⟨rfl, (Below.refl _ _).alloc (Nat.le_refl _) _⟩
  rw [HN.out]
  simp [results, Tryz.results171, go_sem]
 ·have hn : normB b = b := by
   unfold normB
   split <;> omega
  have hd : ((b : Int) == 9223372036854775808) = false := by simp; omega
  have HN := Lib.hid hn
  clear hn h hb
  go_enter Tryz.func171, Tryz.ntmps171
  go_wp2
  refine bodyPost_ret (v := .agg #[.int .i64 3, .bool false, .int .u64 (normB b : Nat), .string ⟨#[]⟩, .slice none 0 0, .slice none 0 0]) ?_ rfl ⟨rfl, (Below.refl _ _).alloc (Nat.le_refl _) _⟩
  rw [HN.out]
  simp [results, Tryz.results171, go_sem]
theorem ruse_1 (f : Bool) (b : Int) (t : List UInt8) (c : Int) (A : Option Addr) (n q : Nat) (w : World) :
  Calls Tryz.prog 166 #[.agg #[.int .i64 1, .bool f, .int .u64 b, .string ⟨t.toArray⟩, .int .i64 c, .slice A n q]] w fun e w' => e = .returned (.bool (usedB 1 f b t c n)) ∧ Below w.heap.size w w' := by
 have hb1 : Below w.heap.size w (w.alloc (.cells #[.int .i64 1, .bool f, .int .u64 b, .string ⟨t.toArray⟩, .int .i64 c, .slice A n q] 240)) := (Below.refl _ _).alloc (Nat.le_refl _) _
 have HU : Hid (usedB 1 f b t c n = ((decide (1 ≤ (1 : Int)) && decide ((1 : Int) ≤ 6) && decide (0 ≤ c)) && (!f || (1 : Int) == 2) && (b == 0 || (1 : Int) == 3) && (t.isEmpty || (1 : Int) == 4) && (c == 0 || (1 : Int) == 5) && ((n : Int) == 0 || (1 : Int) == 6))) := Lib.hid rfl
 obtain ⟨pc, h3⟩ : ∃ p, decide (0 ≤ c) = p := ⟨_, rfl⟩
 obtain ⟨zb, k1⟩ : ∃ p, (b == 0) = p := ⟨_, rfl⟩
 obtain ⟨zt, k2⟩ : ∃ p, t.isEmpty = p := ⟨_, rfl⟩
 obtain ⟨zc, k3⟩ : ∃ p, (c == 0) = p := ⟨_, rfl⟩
 obtain ⟨zn, k4⟩ : ∃ p, ((n : Int) == 0) = p := ⟨_, rfl⟩
 rw [h3, k1, k2, k3, k4] at HU
 go_enter Tryz.func166, Tryz.ntmps166
 cases f with
 | false =>
  cases zb with
  | false =>
   have k5 : (b != 0) = true := by rw [bne, k1]; rfl
   clear k1
   go_wp2; go_ret; exact ⟨by rw [HU.out]; simp, hb1⟩
  | true =>
   have k5 : (b != 0) = false := by rw [bne, k1]; rfl
   clear k1
   cases zt with
   | false =>
    go_wp2; go_ret; exact ⟨by rw [HU.out]; simp, hb1⟩
   | true =>
    cases zc with
    | false =>
     go_wp2; go_ret; exact ⟨by rw [HU.out]; simp, hb1⟩
    | true =>
     cases zn with
     | false =>
      go_wp2; go_ret; exact ⟨by rw [HU.out]; simp, hb1⟩
     | true =>
      cases pc with
      | false =>
       go_wp2; go_ret; exact ⟨by rw [HU.out]; simp, hb1⟩
      | true =>
       go_wp2; go_ret; exact ⟨by rw [HU.out]; simp, hb1⟩
 | true =>
  go_wp2; go_ret; exact ⟨by rw [HU.out]; simp, hb1⟩
theorem ruse_2 (f : Bool) (b : Int) (t : List UInt8) (c : Int) (A : Option Addr) (n q : Nat) (w : World) :
  Calls Tryz.prog 166 #[.agg #[.int .i64 2, .bool f, .int .u64 b, .string ⟨t.toArray⟩, .int .i64 c, .slice A n q]] w fun e w' => e = .returned (.bool (usedB 2 f b t c n)) ∧ Below w.heap.size w w' := by
 have hb1 : Below w.heap.size w (w.alloc (.cells #[.int .i64 2, .bool f, .int .u64 b, .string ⟨t.toArray⟩, .int .i64 c, .slice A n q] 240)) := (Below.refl _ _).alloc (Nat.le_refl _) _
 have HU : Hid (usedB 2 f b t c n = ((decide (1 ≤ (2 : Int)) && decide ((2 : Int) ≤ 6) && decide (0 ≤ c)) && (!f || (2 : Int) == 2) && (b == 0 || (2 : Int) == 3) && (t.isEmpty || (2 : Int) == 4) && (c == 0 || (2 : Int) == 5) && ((n : Int) == 0 || (2 : Int) == 6))) := Lib.hid rfl
 obtain ⟨pc, h3⟩ : ∃ p, decide (0 ≤ c) = p := ⟨_, rfl⟩
 obtain ⟨zb, k1⟩ : ∃ p, (b == 0) = p := ⟨_, rfl⟩
 obtain ⟨zt, k2⟩ : ∃ p, t.isEmpty = p := ⟨_, rfl⟩
 obtain ⟨zc, k3⟩ : ∃ p, (c == 0) = p := ⟨_, rfl⟩
 obtain ⟨zn, k4⟩ : ∃ p, ((n : Int) == 0) = p := ⟨_, rfl⟩
 rw [h3, k1, k2, k3, k4] at HU
 go_enter Tryz.func166, Tryz.ntmps166
 cases zb with
 | false =>
  have k5 : (b != 0) = true := by rw [bne, k1]; rfl
  clear k1
  go_wp2; go_ret; exact ⟨by rw [HU.out]; simp, hb1⟩
 | true =>
  have k5 : (b != 0) = false := by rw [bne, k1]; rfl
  clear k1
  cases zt with
  | false =>
   go_wp2; go_ret; exact ⟨by rw [HU.out]; simp, hb1⟩
  | true =>
   cases zc with
   | false =>
    go_wp2; go_ret; exact ⟨by rw [HU.out]; simp, hb1⟩
   | true =>
    cases zn with
    | false =>
     go_wp2; go_ret; exact ⟨by rw [HU.out]; simp, hb1⟩
    | true =>
     cases pc with
     | false =>
      go_wp2; go_ret; exact ⟨by rw [HU.out]; simp, hb1⟩
     | true =>
      go_wp2; go_ret; exact ⟨by rw [HU.out]; simp, hb1⟩
theorem ruse_3 (f : Bool) (b : Int) (t : List UInt8) (c : Int) (A : Option Addr) (n q : Nat) (w : World) :
  Calls Tryz.prog 166 #[.agg #[.int .i64 3, .bool f, .int .u64 b, .string ⟨t.toArray⟩, .int .i64 c, .slice A n q]] w fun e w' => e = .returned (.bool (usedB 3 f b t c n)) ∧ Below w.heap.size w w' := by
 have hb1 : Below w.heap.size w (w.alloc (.cells #[.int .i64 3, .bool f, .int .u64 b, .string ⟨t.toArray⟩, .int .i64 c, .slice A n q] 240)) := (Below.refl _ _).alloc (Nat.le_refl _) _
 have HU : Hid (usedB 3 f b t c n = ((decide (1 ≤ (3 : Int)) && decide ((3 : Int) ≤ 6) && decide (0 ≤ c)) && (!f || (3 : Int) == 2) && (b == 0 || (3 : Int) == 3) && (t.isEmpty || (3 : Int) == 4) && (c == 0 || (3 : Int) == 5) && ((n : Int) == 0 || (3 : Int) == 6))) := Lib.hid rfl
 obtain ⟨pc, h3⟩ : ∃ p, decide (0 ≤ c) = p := ⟨_, rfl⟩
 obtain ⟨zb, k1⟩ : ∃ p, (b == 0) = p := ⟨_, rfl⟩
 obtain ⟨zt, k2⟩ : ∃ p, t.isEmpty = p := ⟨_, rfl⟩
 obtain ⟨zc, k3⟩ : ∃ p, (c == 0) = p := ⟨_, rfl⟩
 obtain ⟨zn, k4⟩ : ∃ p, ((n : Int) == 0) = p := ⟨_, rfl⟩
 rw [h3, k1, k2, k3, k4] at HU
 go_enter Tryz.func166, Tryz.ntmps166
 cases f with
 | false =>
  cases zt with
  | false =>
   go_wp2; go_ret; exact ⟨by rw [HU.out]; simp, hb1⟩
  | true =>
   cases zc with
   | false =>
    go_wp2; go_ret; exact ⟨by rw [HU.out]; simp, hb1⟩
   | true =>
    cases zn with
    | false =>
     go_wp2; go_ret; exact ⟨by rw [HU.out]; simp, hb1⟩
    | true =>
     cases pc with
     | false =>
      go_wp2; go_ret; exact ⟨by rw [HU.out]; simp, hb1⟩
     | true =>
      go_wp2; go_ret; exact ⟨by rw [HU.out]; simp, hb1⟩
 | true =>
  go_wp2; go_ret; exact ⟨by rw [HU.out]; simp, hb1⟩
theorem ruse_4 (f : Bool) (b : Int) (t : List UInt8) (c : Int) (A : Option Addr) (n q : Nat) (w : World) :
  Calls Tryz.prog 166 #[.agg #[.int .i64 4, .bool f, .int .u64 b, .string ⟨t.toArray⟩, .int .i64 c, .slice A n q]] w fun e w' => e = .returned (.bool (usedB 4 f b t c n)) ∧ Below w.heap.size w w' := by
 have hb1 : Below w.heap.size w (w.alloc (.cells #[.int .i64 4, .bool f, .int .u64 b, .string ⟨t.toArray⟩, .int .i64 c, .slice A n q] 240)) := (Below.refl _ _).alloc (Nat.le_refl _) _
 have HU : Hid (usedB 4 f b t c n = ((decide (1 ≤ (4 : Int)) && decide ((4 : Int) ≤ 6) && decide (0 ≤ c)) && (!f || (4 : Int) == 2) && (b == 0 || (4 : Int) == 3) && (t.isEmpty || (4 : Int) == 4) && (c == 0 || (4 : Int) == 5) && ((n : Int) == 0 || (4 : Int) == 6))) := Lib.hid rfl
 obtain ⟨pc, h3⟩ : ∃ p, decide (0 ≤ c) = p := ⟨_, rfl⟩
 obtain ⟨zb, k1⟩ : ∃ p, (b == 0) = p := ⟨_, rfl⟩
 obtain ⟨zt, k2⟩ : ∃ p, t.isEmpty = p := ⟨_, rfl⟩
 obtain ⟨zc, k3⟩ : ∃ p, (c == 0) = p := ⟨_, rfl⟩
 obtain ⟨zn, k4⟩ : ∃ p, ((n : Int) == 0) = p := ⟨_, rfl⟩
 rw [h3, k1, k2, k3, k4] at HU
 go_enter Tryz.func166, Tryz.ntmps166
 cases f with
 | false =>
  cases zb with
  | false =>
   have k5 : (b != 0) = true := by rw [bne, k1]; rfl
   clear k1
   go_wp2; go_ret; exact ⟨by rw [HU.out]; simp, hb1⟩
  | true =>
   have k5 : (b != 0) = false := by rw [bne, k1]; rfl
   clear k1
   cases zc with
   | false =>
    go_wp2; go_ret; exact ⟨by rw [HU.out]; simp, hb1⟩
   | true =>
    cases zn with
    | false =>
     go_wp2; go_ret; exact ⟨by rw [HU.out]; simp, hb1⟩
    | true =>
     cases pc with
     | false =>
      go_wp2; go_ret; exact ⟨by rw [HU.out]; simp, hb1⟩
     | true =>
      go_wp2; go_ret; exact ⟨by rw [HU.out]; simp, hb1⟩
 | true =>
  go_wp2; go_ret; exact ⟨by rw [HU.out]; simp, hb1⟩
theorem ruse_5 (f : Bool) (b : Int) (t : List UInt8) (c : Int) (A : Option Addr) (n q : Nat) (w : World) :
  Calls Tryz.prog 166 #[.agg #[.int .i64 5, .bool f, .int .u64 b, .string ⟨t.toArray⟩, .int .i64 c, .slice A n q]] w fun e w' => e = .returned (.bool (usedB 5 f b t c n)) ∧ Below w.heap.size w w' := by
 have hb1 : Below w.heap.size w (w.alloc (.cells #[.int .i64 5, .bool f, .int .u64 b, .string ⟨t.toArray⟩, .int .i64 c, .slice A n q] 240)) := (Below.refl _ _).alloc (Nat.le_refl _) _
 have HU : Hid (usedB 5 f b t c n = ((decide (1 ≤ (5 : Int)) && decide ((5 : Int) ≤ 6) && decide (0 ≤ c)) && (!f || (5 : Int) == 2) && (b == 0 || (5 : Int) == 3) && (t.isEmpty || (5 : Int) == 4) && (c == 0 || (5 : Int) == 5) && ((n : Int) == 0 || (5 : Int) == 6))) := Lib.hid rfl
 obtain ⟨pc, h3⟩ : ∃ p, decide (0 ≤ c) = p := ⟨_, rfl⟩
 obtain ⟨zb, k1⟩ : ∃ p, (b == 0) = p := ⟨_, rfl⟩
 obtain ⟨zt, k2⟩ : ∃ p, t.isEmpty = p := ⟨_, rfl⟩
 obtain ⟨zc, k3⟩ : ∃ p, (c == 0) = p := ⟨_, rfl⟩
 obtain ⟨zn, k4⟩ : ∃ p, ((n : Int) == 0) = p := ⟨_, rfl⟩
 rw [h3, k1, k2, k3, k4] at HU
 go_enter Tryz.func166, Tryz.ntmps166
 cases f with
 | false =>
  cases zb with
  | false =>
   have k5 : (b != 0) = true := by rw [bne, k1]; rfl
   clear k1
   go_wp2; go_ret; exact ⟨by rw [HU.out]; simp, hb1⟩
  | true =>
   have k5 : (b != 0) = false := by rw [bne, k1]; rfl
   clear k1
   cases zt with
   | false =>
    go_wp2; go_ret; exact ⟨by rw [HU.out]; simp, hb1⟩
   | true =>
    cases zn with
    | false =>
     go_wp2; go_ret; exact ⟨by rw [HU.out]; simp, hb1⟩
    | true =>
     cases pc with
     | false =>
      go_wp2; go_ret; exact ⟨by rw [HU.out]; simp, hb1⟩
     | true =>
      go_wp2; go_ret; exact ⟨by rw [HU.out]; simp, hb1⟩
 | true =>
  go_wp2; go_ret; exact ⟨by rw [HU.out]; simp, hb1⟩
theorem ruse_6 (f : Bool) (b : Int) (t : List UInt8) (c : Int) (A : Option Addr) (n q : Nat) (w : World) :
  Calls Tryz.prog 166 #[.agg #[.int .i64 6, .bool f, .int .u64 b, .string ⟨t.toArray⟩, .int .i64 c, .slice A n q]] w fun e w' => e = .returned (.bool (usedB 6 f b t c n)) ∧ Below w.heap.size w w' := by
 have hb1 : Below w.heap.size w (w.alloc (.cells #[.int .i64 6, .bool f, .int .u64 b, .string ⟨t.toArray⟩, .int .i64 c, .slice A n q] 240)) := (Below.refl _ _).alloc (Nat.le_refl _) _
 have HU : Hid (usedB 6 f b t c n = ((decide (1 ≤ (6 : Int)) && decide ((6 : Int) ≤ 6) && decide (0 ≤ c)) && (!f || (6 : Int) == 2) && (b == 0 || (6 : Int) == 3) && (t.isEmpty || (6 : Int) == 4) && (c == 0 || (6 : Int) == 5) && ((n : Int) == 0 || (6 : Int) == 6))) := Lib.hid rfl
 obtain ⟨pc, h3⟩ : ∃ p, decide (0 ≤ c) = p := ⟨_, rfl⟩
 obtain ⟨zb, k1⟩ : ∃ p, (b == 0) = p := ⟨_, rfl⟩
 obtain ⟨zt, k2⟩ : ∃ p, t.isEmpty = p := ⟨_, rfl⟩
 obtain ⟨zc, k3⟩ : ∃ p, (c == 0) = p := ⟨_, rfl⟩
 obtain ⟨zn, k4⟩ : ∃ p, ((n : Int) == 0) = p := ⟨_, rfl⟩
 rw [h3, k1, k2, k3, k4] at HU
 go_enter Tryz.func166, Tryz.ntmps166
 cases f with
 | false =>
  cases zb with
  | false =>
   have k5 : (b != 0) = true := by rw [bne, k1]; rfl
   clear k1
   go_wp2; go_ret; exact ⟨by rw [HU.out]; simp, hb1⟩
  | true =>
   have k5 : (b != 0) = false := by rw [bne, k1]; rfl
   clear k1
   cases zt with
   | false =>
    go_wp2; go_ret; exact ⟨by rw [HU.out]; simp, hb1⟩
   | true =>
    cases zc with
    | false =>
     go_wp2; go_ret; exact ⟨by rw [HU.out]; simp, hb1⟩
    | true =>
     cases pc with
     | false =>
      go_wp2; go_ret; exact ⟨by rw [HU.out]; simp, hb1⟩
     | true =>
      go_wp2; go_ret; exact ⟨by rw [HU.out]; simp, hb1⟩
 | true =>
  go_wp2; go_ret; exact ⟨by rw [HU.out]; simp, hb1⟩
theorem rused_any (s : Int) (f : Bool) (b : Int) (t : List UInt8) (c : Int) (A : Option Addr) (n q : Nat) (w : World) :
  Calls Tryz.prog 166 #[.agg #[.int .i64 s, .bool f, .int .u64 b, .string ⟨t.toArray⟩, .int .i64 c, .slice A n q]] w fun e w' => e = .returned (.bool (usedB s f b t c n)) ∧ Below w.heap.size w w' := by
 by_cases h1 : s < 1
 ·have hU : Hid (usedB s f b t c n = false) := Lib.hid (by
   have : decide (1 ≤ s) = false := decide_eq_false (by omega)
   simp [usedB, this])
  have hd : (s < 1) = True := eq_true h1
  have hb1 : Below w.heap.size w (w.alloc (.cells #[.int .i64 s, .bool f, .int .u64 b, .string ⟨t.toArray⟩, .int .i64 c, .slice A n q] 240)) := (Below.refl _ _).alloc (Nat.le_refl _) _
  clear h1
  go_enter Tryz.func166, Tryz.ntmps166
  go_wp2
  go_ret
  exact ⟨by rw [hU.out]; rfl, hb1⟩
 ·by_cases h2 : 6 < s
  ·have hU : Hid (usedB s f b t c n = false) := Lib.hid (by
    have : decide (s ≤ 6) = false := decide_eq_false (by omega)
    simp [usedB, this])
   have hd : (s < 1) = False := eq_false h1
   have hd2 : (6 < s) = True := eq_true h2
   have hb1 : Below w.heap.size w (w.alloc (.cells #[.int .i64 s, .bool f, .int .u64 b, .string ⟨t.toArray⟩, .int .i64 c, .slice A n q] 240)) := (Below.refl _ _).alloc (Nat.le_refl _) _
   clear h1 h2
   go_enter Tryz.func166, Tryz.ntmps166
   go_wp2
   go_ret
   exact ⟨by rw [hU.out]; rfl, hb1⟩
  ·have hcase : s = 1 ∨ s = 2 ∨ s = 3 ∨ s = 4 ∨ s = 5 ∨ s = 6 := by omega
   rcases hcase with rfl | rfl | rfl | rfl | rfl | rfl
   ·exact ruse_1 f b t c A n q w
   ·exact ruse_2 f b t c A n q w
   ·exact ruse_3 f b t c A n q w
   ·exact ruse_4 f b t c A n q w
   ·exact ruse_5 f b t c A n q w
   ·exact ruse_6 f b t c A n q w
theorem refRight_tx (t : Tx) (w : World) (ht : t.length ≤ 1099511627776) : Calls Tryz.prog 168 #[.string ⟨t.toArray⟩] w fun e w' => e = .returned (.bool (rightB t)) ∧ w = w' := by
 rw [rightB_R]
 exact refRight_any ⟨t.toArray⟩ (by show t.length ≤ _; omega) w
theorem refCompare_tx (a b : Tx) (hla : a.length ≤ 1099511627776) (hlb : b.length ≤ 1099511627776) (ha : rightB a = true) (hb : rightB b = true) (w : World) :
  Calls Tryz.prog 224 #[.string ⟨a.toArray⟩, .string ⟨b.toArray⟩] w fun e w' => e = .returned (.int .i64 (cmpL a b)) ∧ Below w.heap.size w w' := by
 rw [rightB_R] at ha hb
 exact refCompare_any ⟨a.toArray⟩ ⟨b.toArray⟩ hla hlb ha hb w
theorem rdk_at {w : World} {A : Option Addr} {ks : List Tx} {c k : Nat} (h : RdK w (.slice A ks.length c) ks) (hk : k < ks.length) : ∃ g o, A = some ⟨g, o, none⟩ ∧ w.cell? ⟨g, o + k, none⟩ = some (.string ⟨ks[k].toArray⟩) := by
 obtain ⟨A', c', e', h'⟩ := h
 injection e' with e1 e2 e3
 subst e1
 rcases h' with h' | ⟨g, o, hA, hc⟩
 ·subst h'
  simp at hk
 ·exact ⟨g, o, hA, hc k _ (List.getElem?_eq_getElem hk)⟩
theorem rright_any (A : Option Addr) (c : Nat) (ks : List Tx) (w : World) (h : RdK w (.slice A ks.length c) ks) (hl : ∀ k ∈ ks, k.length ≤ 1099511627776) (hn : ks.length ≤ 1099511627776) :
  Calls Tryz.prog 169 #[.slice A ks.length c] w fun e w' => e = .returned (.bool (ks.all rightB)) ∧ w = w' := by
 have HK := Lib.hid h
 have HL := Lib.hid hl
 clear h hl
 go_enter Tryz.func169, Tryz.ntmps169
 go_wp2
 go_loop [3] (fun c3 => ∃ k : Nat, k ≤ ks.length ∧ c3 = .int .i64 k ∧ Hid ((ks.take k).all rightB = true)) (fun c3 => ks.length - (intOf c3).toNat)
 case atStart => exact ⟨0, Nat.zero_le _, rfl, Lib.hid rfl⟩
 case round =>
  obtain ⟨k, hk, rfl, HT⟩ := hrel
  by_cases hlt : k < ks.length
  ·obtain ⟨g, o, rfl, hc⟩ := rdk_at HK.out hlt
   have hkl := HL.out _ (List.getElem_mem hlt)
   have hal := @all_snoc rightB ks k hlt HT.out
   have hno : rightB ks[k] = false → ks.all rightB = false := fun h => by
    rw [List.all_eq_false]
    exact ⟨ks[k], List.getElem_mem hlt, by simp [h]⟩
   have HAL := Lib.hid hal
   have HNO := Lib.hid hno
   clear hal hno
   generalize ks[k] = t at *
   have HC := Lib.hid (refRight_tx t)
   have hkt := Lib.hid hkl
   clear hkl
   cases hr : rightB t with
   | false =>
    have HR := Lib.hid hr
    clear hr
    go_wp2_with fail
    refine (HC.out _ hkt.out).mono ?_
    rintro e w' ⟨rfl, rfl⟩
    rw [HR.out]
    go_wp2
    go_ret
    exact ⟨by rw [HNO.out HR.out]; rfl, rfl⟩
   | true =>
    have HR := Lib.hid hr
    clear hr
    go_wp2_with fail
    refine (HC.out _ hkt.out).mono ?_
    rintro e w' ⟨rfl, rfl⟩
    rw [HR.out]
    go_wp2
    go_round
    case rel => exact ⟨k + 1, by omega, by go_num, Lib.hid (HAL.out HR.out)⟩
    case measure => simp [intOf]; omega
  ·obtain rfl : k = ks.length := by omega
   rw [List.take_of_length_le (Nat.le_refl _)] at HT
   go_wp2
   go_ret
   exact ⟨by rw [HT.out]; rfl, rfl⟩
end Nd
end Go.Proofs.YtbajkglacfheiaaGreatDoor
namespace Go.Proofs.YtbajkglacfheiaaGreatDoor
open Go.RowKit Mem Ref3
namespace Nd
theorem wpList_app_nothing {P : Program} {w : World} {ops : Array Oper} {rest : List Oper} {o : Oper} {a : Act} {Q : Exit → Act → World → Prop} (hgd : o.guard = none) (s x : Operand) (t : TypeId)
  (ho : o.op = .call { callee := .builtin .append, args := #[s, x], argTypes := #[t, t] })
  (e : TypeId) (i : TypeInfo) (ht : P.underlying t = some (.slice e)) (hi : P.info? e = some i) (base : Option Addr) (n cap : Nat) (hle : n ≤ cap) (hs : a.eval s = .slice base n cap) (A : Option Addr) (c : Nat) (hx : a.eval x = .slice A 0 c)
  (h : wpList P ops Q rest (a.put o.dst (.slice base n cap)) w) : wpList P ops Q (o :: rest) a w := by
 refine wpList_plain hgd fun K hK => ?_
 have hsrc : Src P i.size t (.slice A 0 c) 0 [] w := by
  cases A with
  | none => exact Src.ofNil w ht c
  | some ad => exact Src.ofSlice w ht ad 0 c [] (by simp) (fun j u hu => by simp at hu) (fun u hu => by cases hu)
 have hrun := run_append_nothing (P := P) w t t o.type e i ht hi base n cap hle (.slice A 0 c) hsrc
 unfold Oper.wp execOp
 simp only [ho, resolve, invoke, builtin, Sem.run_bind, Sem.run_pure, Result.andThen_ok, List.map_toArray, List.map_cons, List.map_nil, hs, hx, hrun]
 exact hK _ _ h
theorem own_rdk {w : World} {B n c : Nat} {A : Option Addr} {ks : List Tx} (h : w.ownsRow B 9 1 (.slice A n c) n (ks.map txV)) (hn : ks.length = n) : RdK w (.slice A n c) ks ∧ n ≤ c := by
 refine ⟨⟨A, c, by rw [hn], ?_⟩, ?_⟩
 ·rcases h.2 with ⟨hv, h0⟩ | ⟨g, cap, cur, hv, _, hg, _, _, hs, ht⟩
  ·exact .inl (List.length_eq_zero_iff.1 (by omega))
  ·injection hv with hA _ _
   refine .inr ⟨g, 0, hA, fun j t hj => ?_⟩
   have hjl : j < n := by
    rcases Nat.lt_or_ge j n with h | h
    ·exact h
    ·rw [List.getElem?_eq_none (by omega)] at hj
     cases hj
   rw [cell_of_row w g _ cur _ _ hg, Nat.zero_add]
   have h2 : (cur.toList.take (n * 1))[j]? = some (txV t) := by rw [ht, List.getElem?_map, hj]; rfl
   rw [List.getElem?_take, if_pos (by omega)] at h2
   simpa using h2
 ·rcases h.2 with ⟨hv, h0⟩ | ⟨g, cap, cur, hv, _, hg, hc, _⟩
  ·omega
  ·injection hv with _ _ h3
   omega
theorem rdk_some {w : World} {A : Option Addr} {ks : List Tx} {c n : Nat} (h : RdK w (.slice A n c) ks) (hn : ks.length = n) (hp : 0 < n) : ∃ g o, A = some ⟨g, o, none⟩ ∧ ∀ (j : Nat) (t : Tx), ks[j]? = some t → w.cell? ⟨g, o + j, none⟩ = some (txV t) := by
 obtain ⟨A', c', e', h'⟩ := h
 injection e' with e1 e2 e3
 subst e1
 rcases h' with h' | ⟨g, o, hA, hc⟩
 ·subst h'
  simp at hn
  omega
 ·exact ⟨g, o, hA, hc⟩
theorem rdk_mk {w : World} {g o c n : Nat} {ks : List Tx} (hn : ks.length = n) (h : ∀ (j : Nat) (t : Tx), ks[j]? = some t → w.cell? ⟨g, o + j, none⟩ = some (txV t)) : RdK w (.slice (some ⟨g, o, none⟩) n c) ks :=
 ⟨_, _, by rw [hn], .inr ⟨g, o, rfl, h⟩⟩
theorem info_txt : (Tryz.prog.info? 9).map (fun i => (i.zero, i.size, i.bytes)) = some (some (.string ⟨#[]⟩), 1, 16) := by kernel_rfl
def lenOf : Value → Nat
 | .slice _ n _ => n
 | _ => 0
def SortP (ks : List Tx) (w : World) (e : Ending) (w' : World) : Prop := (∃ v', e = .returned v' ∧ w'.ownsRow w.heap.size 9 1 v' ks.length ((sortK ks).map txV)) ∧ Below w.heap.size w w'
def KeysOk (ks : List Tx) : Prop := ∀ k ∈ ks, rightB k = true ∧ k.length ≤ 1099511627776
theorem sorted_none (A : Option Addr) (c : Nat) (w : World) : Calls Tryz.prog 202 #[.slice A 0 c] w (SortP [] w) := by
 obtain ⟨i0, hi0, hz0, hz1, hz2⟩ := info_parts info_txt
 have hm : (w.alloc (.cells #[] 9)).ownsRow w.heap.size 9 1 (.slice (some ⟨w.heap.size, 0, none⟩) 0 0) 0 [] := World.ownsRow_made w #[] 0 (Nat.le_refl _) (Nat.zero_le _) (by simp)
 have hs : Hid (sortK [] = []) := Lib.hid (sortK_few (by simp))
 go_enter Tryz.func202, Tryz.ntmps202
 go_wp2_with (at_builtin; refine wpList_app_nothing rfl _ _ 77 rfl 9 i0 Tryz.underlying77 hi0 (some ⟨w.heap.size, 0, none⟩) 0 0 (Nat.le_refl _) rfl A c rfl ?_)
 go_ret
 exact ⟨⟨_, rfl, by rw [hs.out]; exact hm⟩, (Below.refl _ _).alloc (Nat.le_refl _) _⟩
theorem sorted_one (A : Option Addr) (c : Nat) (t : Tx) (w : World) (h : RdK w (.slice A 1 c) [t]) : Calls Tryz.prog 202 #[.slice A 1 c] w (SortP [t] w) := by
 obtain ⟨g, o, rfl, hc⟩ := rdk_some h rfl (by decide)
 have hc0 : w.cell? ⟨g, o, none⟩ = some (txV t) := hc 0 t rfl
 have hlt : g < w.heap.size := World.block_lt_of_cell? w _ hc0
 obtain ⟨i0, hi0, hz0, hz1, hz2⟩ := info_parts info_txt
 have hm : (w.alloc (.cells #[] 9)).ownsRow w.heap.size 9 1 (.slice (some ⟨w.heap.size, 0, none⟩) 0 0) 0 [] := World.ownsRow_made w #[] 0 (Nat.le_refl _) (Nat.zero_le _) (by simp)
 have hs : Hid (sortK [t] = [t]) := Lib.hid (sortK_few (by simp))
 clear hc h
 have hnews : ∀ j u, [txV t][j]? = some u → (w.alloc (.cells #[] 9)).cell? ((⟨g, o, none⟩ : Addr).add j) = some u := by
  intro j u hu
  match j, hu with
  | 0, hu =>
   injection hu with hu
   subst hu
   have e1 : (⟨g, o, none⟩ : Addr).add 0 = ⟨g, o, none⟩ := rfl
   rw [e1]
   exact ((old ((Below.refl _ w).alloc (Nat.le_refl _) _)).1 g o hlt).trans hc0
 have HN := Lib.hid hnews
 clear hnews hc0
 go_enter Tryz.func202, Tryz.ntmps202
 go_wp2_with (at_builtin; refine wpList_append_own _ rfl _ _ 77 rfl w.heap.size 9 i0 _ 1 16 Tryz.underlying77 hi0 hz0 hz1 hz2 rfl (by omega) (.slice (some ⟨w.heap.size, 0, none⟩) 0 0) 0 [] rfl hm ⟨g, o, none⟩ 1 c [txV t] rfl rfl HN.out (one_cell _ rfl) (by unfold maxLen; omega) (by omega) (by simp) ?_; intro v9 w9 hown9 hgr9 hnil9)
 go_ret
 refine ⟨⟨_, rfl, ?_⟩, ((Below.refl _ w).alloc (Nat.le_refl _) _).grown hgr9 (by simp) (fun g hg => own_base hm g hg)⟩
 rw [hs.out]
 simpa using hown9
structure MrgS (ks : List Tx) (W : World) (xs ys zs : List Tx) (nx ny : Nat) (A B : Option Addr) (ca cb : Nat) (c5 : Value) (wr : World) : Prop where
 lx : xs.length = nx
 ly : ys.length = ny
 rx : RdK W (.slice A nx ca) xs
 cx : nx ≤ ca
 ry : RdK W (.slice B ny cb) ys
 cy : ny ≤ cb
 out : wr.ownsRow W.heap.size 9 1 c5 zs.length (zs.map txV)
 bl : Below W.heap.size W wr
 eq : zs ++ List.merge xs ys leL = sortK ks
section
variable {ks : List Tx} {W : World} {xs ys zs : List Tx} {nx ny : Nat} {A B : Option Addr} {ca cb : Nat} {c5 : Value} {wr : World}
theorem MrgS.len (h : MrgS ks W xs ys zs nx ny A B ca cb c5 wr) : zs.length + (nx + ny) = ks.length := by
 have h1 := congrArg List.length h.eq
 rw [List.length_append, sortK_len, (List.merge_perm_append leL).length_eq, List.length_append, h.lx, h.ly] at h1
 omega
theorem MrgS.mem (h : MrgS ks W xs ys zs nx ny A B ca cb c5 wr) {x : Tx} (hx : x ∈ xs ∨ x ∈ ys) : x ∈ ks := by
 have h1 : x ∈ sortK ks := by
  rw [← h.eq, List.mem_append]
  right
  rw [(List.merge_perm_append leL).mem_iff, List.mem_append]
  exact hx
 exact (sortK_perm ks).mem_iff.1 h1
theorem MrgS.left {x : Tx} {A' : Option Addr} {ca' : Nat} {c9 : Value} {wX w9 : World} {ob : Obj} (h : MrgS ks W (x :: xs) ys zs nx ny A B ca cb c5 wr) (hle : List.merge (x :: xs) ys leL = x :: List.merge xs ys leL) (hX : Below wr.heap.size wr wX)
  (ho : w9.ownsRow W.heap.size 9 1 c9 (zs.length + 1) (zs.map txV ++ [txV x])) (hg : (wX.alloc ob).grownBy w9 c5.ownBlock) (hr : RdK W (.slice A' (nx - 1) ca') xs ∧ nx - 1 ≤ ca') : MrgS ks W xs ys (zs ++ [x]) (nx - 1) ny A' B ca' cb c9 w9 := by
 have hlx := h.lx
 have hs := h.bl.size
 have hs2 := hX.size
 refine ⟨by simp at hlx; omega, h.ly, hr.1, hr.2, h.ry, h.cy, by simpa using ho, ((h.bl.trans (hX.mono hs)).alloc (by omega) _).grown hg (by simp; omega) (fun g hg => own_base h.out g hg), ?_⟩
 rw [← h.eq, hle, List.append_assoc]
 rfl
theorem MrgS.right {y : Tx} {B' : Option Addr} {cb' : Nat} {c9 : Value} {wX w9 : World} {ob : Obj} (h : MrgS ks W xs (y :: ys) zs nx ny A B ca cb c5 wr) (hle : List.merge xs (y :: ys) leL = y :: List.merge xs ys leL) (hX : Below wr.heap.size wr wX)
  (ho : w9.ownsRow W.heap.size 9 1 c9 (zs.length + 1) (zs.map txV ++ [txV y])) (hg : (wX.alloc ob).grownBy w9 c5.ownBlock) (hr : RdK W (.slice B' (ny - 1) cb') ys ∧ ny - 1 ≤ cb') : MrgS ks W xs ys (zs ++ [y]) nx (ny - 1) A B' ca cb' c9 w9 := by
 have hly := h.ly
 have hs := h.bl.size
 have hs2 := hX.size
 refine ⟨h.lx, by simp at hly; omega, h.rx, h.cx, hr.1, hr.2, by simpa using ho, ((h.bl.trans (hX.mono hs)).alloc (by omega) _).grown hg (by simp; omega) (fun g hg => own_base h.out g hg), ?_⟩
 rw [← h.eq, hle, List.append_assoc]
 rfl
end
theorem merge_left {x : Tx} {xs ys : List Tx} (h : ys = [] ∨ ∃ y t, ys = y :: t ∧ leL x y = true) : List.merge (x :: xs) ys leL = x :: List.merge xs ys leL := by
 rcases h with rfl | ⟨y, t, rfl, h⟩
 ·rw [List.merge_right, List.merge_right]
 ·rw [List.cons_merge_cons, if_pos h]
theorem merge_right' {y : Tx} {xs ys : List Tx} (h : xs = [] ∨ ∃ x t, xs = x :: t ∧ leL x y = false) : List.merge xs (y :: ys) leL = y :: List.merge xs ys leL := by
 rcases h with rfl | ⟨x, t, rfl, h⟩
 ·rw [List.nil_merge, List.nil_merge]
 ·rw [List.cons_merge_cons, if_neg (by simp [h])]
theorem cc_below {g1 o1 g2 o2 : Nat} {x y : Value} {W0 W W' : World} (h : W.cell? ⟨g1, o1, none⟩ = some x ∧ W.cell? ⟨g2, o2, none⟩ = some y ∧ Below W0.heap.size W0 W) (hb : Below W.heap.size W W') : W'.cell? ⟨g1, o1, none⟩ = some x ∧ W'.cell? ⟨g2, o2, none⟩ = some y ∧ Below W0.heap.size W0 W' :=
 ⟨((old hb).1 _ _ (World.block_lt_of_cell? _ _ h.1)).trans h.1, ((old hb).1 _ _ (World.block_lt_of_cell? _ _ h.2.1)).trans h.2.1, h.2.2.trans (hb.mono h.2.2.size)⟩
theorem rdk_tail {w : World} {g o c n : Nat} {x : Tx} {xs : List Tx} (hn : xs.length = n) (h : ∀ (j : Nat) (t : Tx), (x :: xs)[j]? = some t → w.cell? ⟨g, o + j, none⟩ = some (txV t)) : RdK w (.slice (some ⟨g, o + 1, none⟩) n c) xs :=
 rdk_mk hn fun j t hj => by
  rw [Nat.add_assoc, Nat.add_comm 1 j]
  exact h (j + 1) t (by simpa using hj)
theorem rdk_next {W : World} {g o c n : Nat} {x : Tx} {xs : List Tx} (h : RdK W (.slice (some ⟨g, o, none⟩) n c) (x :: xs)) (hn : (x :: xs).length = n) (hc : n ≤ c) : RdK W (.slice (if c = 1 then some ⟨g, o, none⟩ else some ⟨g, o + 1, none⟩) (n - 1) (c - 1)) xs ∧ n - 1 ≤ c - 1 := by
 have hl : xs.length = n - 1 := by simp at hn; omega
 refine ⟨?_, by omega⟩
 obtain ⟨g', o', e', hcell⟩ := rdk_some h hn (by simp at hn; omega)
 injection e' with e'
 injection e' with e1 e2 _
 subst e1 e2
 by_cases h1 : c = 1
 ·have h0 : n - 1 = 0 := by omega
  rw [if_pos h1, h0]
  have : xs = [] := List.length_eq_zero_iff.1 (by omega)
  subst this
  exact ⟨_, _, rfl, .inl rfl⟩
 ·rw [if_neg h1]
  exact rdk_tail hl hcell
theorem rdk_head {W wr : World} {A : Option Addr} {c n : Nat} {x : Tx} {xs : List Tx} (h : RdK W (.slice A n c) (x :: xs)) (hn : (x :: xs).length = n) (hb : Below W.heap.size W wr) : ∃ g o, A = some ⟨g, o, none⟩ ∧ wr.cell? ⟨g, o, none⟩ = some (.string ⟨x.toArray⟩) := by
 obtain ⟨g, o, hA, hcell⟩ := rdk_some h hn (by simp at hn; omega)
 have h0 := hcell 0 x rfl
 exact ⟨g, o, hA, ((old hb).1 g _ (World.block_lt_of_cell? W _ h0)).trans h0⟩
theorem sorted_more (g o c n : Nat) (ks : List Tx) (w : World) (hn : ks.length = n) (h2 : 2 ≤ n) (hr : RdK w (.slice (some ⟨g, o, none⟩) n c) ks) (hc : n ≤ c) (hok : KeysOk ks) (hm : n ≤ 1099511627776)
  (ih : ∀ (A : Option Addr) (m q : Nat) (js : List Tx) (W : World), js.length = m → m < n → RdK W (.slice A m q) js → m ≤ q → KeysOk js → Calls Tryz.prog 202 #[.slice A m q] W (SortP js W)) :
  Calls Tryz.prog 202 #[.slice (some ⟨g, o, none⟩) n c] w (SortP ks w) := by
 obtain ⟨i0, hi0, hz0, hz1, hz2⟩ := info_parts info_txt
 obtain ⟨g', o', e', hcell⟩ := rdk_some hr hn (by omega)
 injection e' with e'
 injection e' with e1 e2 _
 subst e1 e2
 obtain ⟨m, hm1, hm2, hm3⟩ : ∃ m, m = n / 2 ∧ m < n ∧ 0 < m := ⟨n / 2, rfl, by omega, by omega⟩
 have hq : IntKind.i64.wrap ((n : Int) / 2) = (m : Int) := by
  rw [IntWalk.i64_in _ (by omega)]
  omega
 have hcm : (c = m) = False := eq_false (by omega)
 have hl1 : (ks.take m).length = m := by rw [List.length_take]; omega
 have hl2 : (ks.drop m).length = n - m := by rw [List.length_drop]; omega
 have hk1 : RdK w (.slice (some ⟨g, o, none⟩) m c) (ks.take m) := rdk_mk hl1 fun j t hj => by
  rw [List.getElem?_take] at hj
  split at hj
  ·exact hcell j t hj
  ·cases hj
 have hk2 : RdK w (.slice (some ⟨g, o + m, none⟩) (n - m) (c - m)) (ks.drop m) := rdk_mk hl2 fun j t hj => by
  rw [List.getElem?_drop] at hj
  rw [Nat.add_assoc]
  exact hcell _ t hj
 have ho1 : KeysOk (ks.take m) := fun k hk => hok k (List.mem_of_mem_take hk)
 have ho2 : KeysOk (ks.drop m) := fun k hk => hok k (List.mem_of_mem_drop hk)
 have C1 := Lib.hid (fun W (hb : Below w.heap.size w W) => ih _ m c (ks.take m) W hl1 hm2 (hk1.below hb) (by omega) ho1)
 have C2 := Lib.hid (fun W (hb : Below w.heap.size w W) => ih _ (n - m) (c - m) (ks.drop m) W hl2 (by omega) (hk2.below hb) (by omega) ho2)
 have HOK := Lib.hid hok
 have HE : Hid (List.merge (sortK (ks.take m)) (sortK (ks.drop m)) leL = sortK ks) := Lib.hid (by rw [sortK_merge, List.take_append_drop])
 have HL1 := Lib.hid hl1
 have HL2 := Lib.hid hl2
 have HN := Lib.hid hn
 clear ho1 ho2 hk1 hk2 hr hcell hok ih hl1 hl2 hn hm1
 have hlt2 : ((n : Int) < 2) = False := eq_false (by omega)
 have hmc : ((m : Int) ≤ (c : Int)) = True := eq_true (by omega)
 have hmn : ((m : Int) ≤ (n : Int)) = True := eq_true (by omega)
 go_enter Tryz.func202, Tryz.ntmps202
 go_upto_region 3 with fail
 refine wp_region_held_drew (S := (fun w' => Below w.heap.size w w')) (by kernel_rfl) (drewN_below w 1) (fun hHeld => ?_)
 refine held_take (i := 0) (v := ?_) (some 12) rfl rfl (by kernel_rfl) (by kernel_rfl) (by kernel_rfl) (fun _ _ _ h => h) (Or.inl ⟨by rfl, ?_⟩) hHeld ?_
 rotate_left
 ·intro w hSw
  try dsimp only at hSw
  go_simp
  try with_reducible rfl
 simp only [Act.put, List.setIfInBounds_toArray, List.set_cons_zero, List.set_cons_succ]
 refine held_take (i := 1) (v := ?_) (some 13) rfl rfl (by kernel_rfl) (by kernel_rfl) (by kernel_rfl) (fun _ _ _ h => h) (Or.inl ⟨by rfl, ?_⟩) hHeld ?_
 rotate_left
 ·intro w hSw
  try dsimp only at hSw
  go_simp
  try with_reducible rfl
 simp only [Act.put, List.setIfInBounds_toArray, List.set_cons_zero, List.set_cons_succ]
 refine held_take (i := 2) (v := ?_) (some 14) rfl rfl (by kernel_rfl) (by kernel_rfl) (by kernel_rfl) (fun _ _ _ h => h) (Or.inl ⟨by rfl, ?_⟩) hHeld ?_
 rotate_left
 ·intro w hSw
  try dsimp only at hSw
  go_simp
  try with_reducible rfl
 simp only [Act.put, List.setIfInBounds_toArray, List.set_cons_zero, List.set_cons_succ]
 refine held_take (i := 3) (v := ?_) (some 15) rfl rfl (by kernel_rfl) (by kernel_rfl) (by kernel_rfl) (fun _ _ _ h => h) (Or.inl ⟨by rfl, ?_⟩) hHeld ?_
 rotate_left
 ·intro w hSw
  try dsimp only at hSw
  go_simp
  try with_reducible rfl
 simp only [Act.put, List.setIfInBounds_toArray, List.set_cons_zero, List.set_cons_succ]
 refine held_take (i := 4) (v := ?_) (some 16) rfl rfl (by kernel_rfl) (by kernel_rfl) (by kernel_rfl) (fun _ _ _ h => h) (Or.inl ⟨by rfl, ?_⟩) hHeld ?_
 rotate_left
 ·intro w hSw
  try dsimp only at hSw
  go_simp
  try with_reducible rfl
 simp only [Act.put, List.setIfInBounds_toArray, List.set_cons_zero, List.set_cons_succ]
 refine held_take (i := 6) (v := ?_) (some 18) rfl rfl (by kernel_rfl) (by kernel_rfl) (by kernel_rfl) (fun _ _ _ h => h) (Or.inl ⟨by rfl, ?_⟩) hHeld ?_
 rotate_left
 ·intro w hSw
  try dsimp only at hSw
  go_simp
  try with_reducible rfl
 simp only [Act.put, List.setIfInBounds_toArray, List.set_cons_zero, List.set_cons_succ]
 refine held_take (i := 7) (v := ?_) (some 19) rfl rfl (by kernel_rfl) (by kernel_rfl) (by kernel_rfl) (fun _ _ _ h => h) (Or.inl ⟨by rfl, ?_⟩) hHeld ?_
 rotate_left
 ·intro w hSw
  try dsimp only at hSw
  go_simp
  try with_reducible rfl
 simp only [Act.put, List.setIfInBounds_toArray, List.set_cons_zero, List.set_cons_succ]
 refine held_take (i := 8) (v := ?_) (some 20) rfl rfl (by kernel_rfl) (by kernel_rfl) (by kernel_rfl) (fun _ _ _ h => h) (Or.inl ⟨by rfl, ?_⟩) hHeld ?_
 rotate_left
 ·intro w hSw
  try dsimp only at hSw
  go_simp
  try with_reducible rfl
 simp only [Act.put, List.setIfInBounds_toArray, List.set_cons_zero, List.set_cons_succ]
 refine held_take (i := 9) (v := ?_) (some 21) rfl rfl (by kernel_rfl) (by kernel_rfl) (by kernel_rfl) (fun _ _ _ h => h) (Or.inl ⟨by rfl, ?_⟩) hHeld ?_
 rotate_left
 ·intro w hSw
  try dsimp only at hSw
  go_simp
  try with_reducible rfl
 simp only [Act.put, List.setIfInBounds_toArray, List.set_cons_zero, List.set_cons_succ]
 refine held_take (i := 10) (v := ?_) (some 22) rfl rfl (by kernel_rfl) (by kernel_rfl) (by kernel_rfl) (fun _ _ _ h => h) (Or.inl ⟨by rfl, ?_⟩) hHeld ?_
 rotate_left
 ·intro w hSw
  try dsimp only at hSw
  go_simp
  try with_reducible rfl
 simp only [Act.put, List.setIfInBounds_toArray, List.set_cons_zero, List.set_cons_succ]
 refine wpAnyH_ready (rs := [5]) (by kernel_rfl) (by simp) ?_
 refine AllReadyH.cons rfl (fun K hK => ?_) AllReadyH.nil
 go_simp
 go_at_call 202
 ((with_reducible refine (C1.out _ hHeld).mono ?_); rintro e w2 ⟨⟨v1, rfl, hoA⟩, hb2⟩; dsimp only)
 have hsA := hHeld.size
 replace hoA := own_lower hoA hsA
 replace hHeld := hHeld.trans (hb2.mono hHeld.size)
 refine hK.out _ _ hHeld (fun _ => ?_)
 clear hK K
 refine wpAnyH_ready (rs := [11]) (by kernel_rfl) (by simp) ?_
 refine AllReadyH.cons rfl (fun K hK => ?_) AllReadyH.nil
 go_simp
 go_at_call 202
 ((with_reducible refine (C2.out _ hHeld).mono ?_); rintro e w2 ⟨⟨v2, rfl, hoB⟩, hb2⟩; dsimp only)
 have hsB := hHeld.size
 replace hoA := own_below hoA hb2
 replace hoB := own_lower hoB hsB
 replace hHeld := hHeld.trans (hb2.mono hHeld.size)
 refine hK.out _ _ hHeld (fun _ => ?_)
 clear hK K
 refine held_take (i := 12) (v := ?_) (some 3) rfl rfl (by kernel_rfl) (by kernel_rfl) (by kernel_rfl) (fun _ _ _ h => h) (Or.inl ⟨by rfl, ?_⟩) hHeld ?_
 rotate_left
 ·intro w hSw
  try dsimp only at hSw
  go_simp
  try with_reducible rfl
 simp only [Act.put, List.setIfInBounds_toArray, List.set_cons_zero, List.set_cons_succ]
 refine held_take (i := 13) (v := ?_) (some 4) rfl rfl (by kernel_rfl) (by kernel_rfl) (by kernel_rfl) (fun _ _ _ h => h) (Or.inl ⟨by rfl, ?_⟩) hHeld ?_
 rotate_left
 ·intro w hSw
  try dsimp only at hSw
  go_simp
  try with_reducible rfl
 simp only [Act.put, List.setIfInBounds_toArray, List.set_cons_zero, List.set_cons_succ]
 refine wpAnyH_done (by kernel_rfl) ?_ _
 have hsz := hHeld.size
 rw [HL1.out] at hoA
 rw [HL2.out] at hoB
 obtain ⟨A1, q1, rfl⟩ := own_slice hoA
 obtain ⟨A2, q2, rfl⟩ := own_slice hoB
 obtain ⟨rA, cA⟩ := own_rdk hoA (by rw [sortK_len, HL1.out])
 obtain ⟨rB, cB⟩ := own_rdk hoB (by rw [sortK_len, HL2.out])
 have HS0 : Hid (MrgS ks w2 (sortK (ks.take m)) (sortK (ks.drop m)) [] m (n - m) A1 A2 q1 q2 (.slice none 0 0) w2) := Lib.hid ⟨by rw [sortK_len, HL1.out], by rw [sortK_len, HL2.out], rA, cA, rB, cB, World.ownsRow_nil _ _ _ _, Below.refl _ _, HE.out⟩
 have HB2 := Lib.hid hHeld
 clear rA cA rB cB hoA hoB hHeld hb2 hsA hsB C1 C2 HE
 go_wp2_with fail
 go_loopw [3, 4, 5] (fun c3 c4 c5 wr => ∃ (xs ys zs : List Tx) (nx ny : Nat) (A B : Option Addr) (ca cb : Nat), c3 = .slice A nx ca ∧ c4 = .slice B ny cb ∧ Hid (MrgS ks w2 xs ys zs nx ny A B ca cb c5 wr)) (fun c3 c4 _ _ => lenOf c3 + lenOf c4)
 case atStart => exact ⟨_, _, _, _, _, _, _, _, _, rfl, rfl, HS0⟩
 case round =>
  obtain ⟨xs, ys, zs, nx, ny, A, B, ca, cb, rfl, rfl, HS⟩ := hrel
  clear HS0
  have hlen := HS.out.len
  rw [HN.out] at hlen
  obtain ⟨A5, q5, rfl⟩ := own_slice HS.out.out
  have H5 := Lib.hid HS.out.out
  rcases xs with _ | ⟨x, xs⟩
  ·obtain rfl : nx = 0 := HS.out.lx.symm
   rcases ys with _ | ⟨y, ys⟩
   ·obtain rfl : ny = 0 := HS.out.ly.symm
    have hz : zs = sortK ks := by have := HS.out.eq; rw [List.nil_merge, List.append_nil] at this; exact this
    subst hz
    go_wp2_with fail
    go_ret
    refine ⟨⟨.slice A5 (sortK ks).length q5, rfl, ?_⟩, HB2.out.trans (HS.out.bl.mono hsz)⟩
    rw [← sortK_len ks]
    exact own_lower H5.out hsz
   ·have hny : 0 < ny := by have := HS.out.ly; simp at this; omega
    obtain ⟨g2, o2, rfl, c2⟩ := rdk_head HS.out.ry HS.out.ly HS.out.bl
    have hy1 : ((0 : Int) < (ny : Int)) = True := eq_true (by omega)
    have hy2 : ((ny : Int) == 0) = false := by simp; omega
    have hy3 : ((1 : Int) ≤ (ny : Int)) = True := eq_true (by omega)
    go_upto_region 6 with fail
    refine wp_region_held_drew (S := (fun w' => Below wr.heap.size wr w')) (by kernel_rfl) (drewN_below wr 1) (fun hHeld => ?_)
    refine held_take (i := 0) (v := ?_) (some 32) rfl rfl (by kernel_rfl) (by kernel_rfl) (by kernel_rfl) (fun _ _ _ h => h) (Or.inl ⟨by rfl, ?_⟩) hHeld ?_
    rotate_left
    ·intro w hSw
     try dsimp only at hSw
     go_simp
     try with_reducible rfl
    simp only [Act.put, List.setIfInBounds_toArray, List.set_cons_zero, List.set_cons_succ]
    refine held_take (i := 1) (v := ?_) (some 33) rfl rfl (by kernel_rfl) (by kernel_rfl) (by kernel_rfl) (fun _ _ _ h => h) (Or.inl ⟨by rfl, ?_⟩) hHeld ?_
    rotate_left
    ·intro w hSw
     try dsimp only at hSw
     go_simp
     try with_reducible rfl
    simp only [Act.put, List.setIfInBounds_toArray, List.set_cons_zero, List.set_cons_succ]
    refine held_take (i := 2) (v := ?_) (some 34) rfl rfl (by kernel_rfl) (by kernel_rfl) (by kernel_rfl) (fun _ _ _ h => h) (Or.inl ⟨by rfl, ?_⟩) hHeld ?_
    rotate_left
    ·intro w hSw
     try dsimp only at hSw
     go_simp
     try with_reducible rfl
    simp only [Act.put, List.setIfInBounds_toArray, List.set_cons_zero, List.set_cons_succ]
    refine held_take (i := 3) (v := ?_) (some 35) rfl rfl (by kernel_rfl) (by kernel_rfl) (by kernel_rfl) (fun _ _ _ h => h) (Or.inl ⟨by rfl, ?_⟩) hHeld ?_
    rotate_left
    ·intro w hSw
     try dsimp only at hSw
     go_simp
     try with_reducible rfl
    simp only [Act.put, List.setIfInBounds_toArray, List.set_cons_zero, List.set_cons_succ]
    refine held_take (i := 4) (v := ?_) (some 36) rfl rfl (by kernel_rfl) (by kernel_rfl) (by kernel_rfl) (fun _ _ _ h => h) (Or.inl ⟨by rfl, ?_⟩) hHeld ?_
    rotate_left
    ·intro w hSw
     try dsimp only at hSw
     go_simp
     try with_reducible rfl
    simp only [Act.put, List.setIfInBounds_toArray, List.set_cons_zero, List.set_cons_succ]
    refine held_take (i := 5) (v := ?_) (some 37) rfl rfl (by kernel_rfl) (by kernel_rfl) (by kernel_rfl) (fun _ _ _ h => h) (Or.inl ⟨by rfl, ?_⟩) hHeld ?_
    rotate_left
    ·intro w hSw
     try dsimp only at hSw
     go_simp
     try with_reducible rfl
    simp only [Act.put, List.setIfInBounds_toArray, List.set_cons_zero, List.set_cons_succ]
    refine held_take (i := 6) (v := ?_) (some 38) rfl rfl (by kernel_rfl) (by kernel_rfl) (by kernel_rfl) (fun _ _ _ h => h) (Or.inl ⟨by rfl, ?_⟩) hHeld ?_
    rotate_left
    ·intro w hSw
     try dsimp only at hSw
     go_simp
     try with_reducible rfl
    simp only [Act.put, List.setIfInBounds_toArray, List.set_cons_zero, List.set_cons_succ]
    refine held_take (i := 7) (v := ?_) (some 39) rfl rfl (by kernel_rfl) (by kernel_rfl) (by kernel_rfl) (fun _ _ _ h => h) (Or.inl ⟨by rfl, ?_⟩) hHeld ?_
    rotate_left
    ·intro w hSw
     try dsimp only at hSw
     go_simp
     try with_reducible rfl
    simp only [Act.put, List.setIfInBounds_toArray, List.set_cons_zero, List.set_cons_succ]
    refine held_take (i := 8) (v := undef) (some 40) rfl rfl (by kernel_rfl) (by kernel_rfl) (by kernel_rfl) (fun _ _ _ h => h) (Or.inr ⟨by kernel_rfl, rfl⟩) hHeld ?_
    simp only [Act.put, List.setIfInBounds_toArray, List.set_cons_zero, List.set_cons_succ]
    refine held_take (i := 9) (v := undef) (some 41) rfl rfl (by kernel_rfl) (by kernel_rfl) (by kernel_rfl) (fun _ _ _ h => h) (Or.inr ⟨by kernel_rfl, rfl⟩) hHeld ?_
    simp only [Act.put, List.setIfInBounds_toArray, List.set_cons_zero, List.set_cons_succ]
    refine held_take (i := 10) (v := undef) (some 42) rfl rfl (by kernel_rfl) (by kernel_rfl) (by kernel_rfl) (fun _ _ _ h => h) (Or.inr ⟨by kernel_rfl, rfl⟩) hHeld ?_
    simp only [Act.put, List.setIfInBounds_toArray, List.set_cons_zero, List.set_cons_succ]
    refine held_take (i := 11) (v := undef) (some 43) rfl rfl (by kernel_rfl) (by kernel_rfl) (by kernel_rfl) (fun _ _ _ h => h) (Or.inr ⟨by kernel_rfl, rfl⟩) hHeld ?_
    simp only [Act.put, List.setIfInBounds_toArray, List.set_cons_zero, List.set_cons_succ]
    refine held_take (i := 12) (v := undef) (some 44) rfl rfl (by kernel_rfl) (by kernel_rfl) (by kernel_rfl) (fun _ _ _ h => h) (Or.inr ⟨by kernel_rfl, rfl⟩) hHeld ?_
    simp only [Act.put, List.setIfInBounds_toArray, List.set_cons_zero, List.set_cons_succ]
    refine held_take (i := 13) (v := undef) (some 45) rfl rfl (by kernel_rfl) (by kernel_rfl) (by kernel_rfl) (fun _ _ _ h => h) (Or.inr ⟨by kernel_rfl, rfl⟩) hHeld ?_
    simp only [Act.put, List.setIfInBounds_toArray, List.set_cons_zero, List.set_cons_succ]
    refine held_take (i := 14) (v := undef) (some 46) rfl rfl (by kernel_rfl) (by kernel_rfl) (by kernel_rfl) (fun _ _ _ h => h) (Or.inr ⟨by kernel_rfl, rfl⟩) hHeld ?_
    simp only [Act.put, List.setIfInBounds_toArray, List.set_cons_zero, List.set_cons_succ]
    refine held_take (i := 15) (v := undef) (some 47) rfl rfl (by kernel_rfl) (by kernel_rfl) (by kernel_rfl) (fun _ _ _ h => h) (Or.inr ⟨by kernel_rfl, rfl⟩) hHeld ?_
    simp only [Act.put, List.setIfInBounds_toArray, List.set_cons_zero, List.set_cons_succ]
    refine held_take (i := 16) (v := ?_) (some 48) rfl rfl (by kernel_rfl) (by kernel_rfl) (by kernel_rfl) (fun _ _ _ h => h) (Or.inl ⟨by rfl, ?_⟩) hHeld ?_
    rotate_left
    ·intro w hSw
     try dsimp only at hSw
     go_simp
     try with_reducible rfl
    simp only [Act.put, List.setIfInBounds_toArray, List.set_cons_zero, List.set_cons_succ]
    refine held_take (i := 17) (v := ?_) (some 49) rfl rfl (by kernel_rfl) (by kernel_rfl) (by kernel_rfl) (fun _ _ _ h => h) (Or.inl ⟨by rfl, ?_⟩) hHeld ?_
    rotate_left
    ·intro w hSw
     try dsimp only at hSw
     go_simp
     try with_reducible rfl
    simp only [Act.put, List.setIfInBounds_toArray, List.set_cons_zero, List.set_cons_succ]
    refine wpAnyH_done (by kernel_rfl) ?_ _
    have hX := hHeld
    clear hHeld
    go_wp2_with (at_builtin; refine wpList_append_own _ rfl _ _ 77 rfl w2.heap.size 9 i0 _ 1 16 Tryz.underlying77 hi0 hz0 hz1 hz2 rfl (by omega) (.slice A5 zs.length q5) zs.length (zs.map txV) rfl ((own_below H5.out hX).alloc _) ⟨wr.drew.heap.size, 0, none⟩ 1 1 [txV y] rfl rfl (one_new _ _ _) (one_cell _ rfl) (by unfold maxLen; omega) (by omega) (by have := HS.out.bl.size; have := hX.size; simp; omega) ?_; intro v9 w9 hown9 hgr9 hnil9)
    have HN := Lib.hid (HS.out.right (merge_right' (.inl rfl)) hX hown9 hgr9 (rdk_next HS.out.ry HS.out.ly HS.out.cy))
    clear hown9 hgr9 hnil9 hX c2
    go_roundw
    case rel => exact ⟨_, ys, zs ++ [y], 0, ny - 1, _, _, ca, cb - 1, rfl, rfl, HN⟩
    case measure => simp [lenOf]; omega
  ·have hnx : 0 < nx := by have := HS.out.lx; simp at this; omega
   obtain ⟨g1, o1, rfl, c1⟩ := rdk_head HS.out.rx HS.out.lx HS.out.bl
   have hx1 : ((0 : Int) < (nx : Int)) = True := eq_true (by omega)
   have hx2 : ((nx : Int) == 0) = false := by simp; omega
   have hx3 : ((1 : Int) ≤ (nx : Int)) = True := eq_true (by omega)
   rcases ys with _ | ⟨y, ys⟩
   ·obtain rfl : ny = 0 := HS.out.ly.symm
    go_upto_region 6 with fail
    refine wp_region_held_drew (S := (fun w' => Below wr.heap.size wr w')) (by kernel_rfl) (drewN_below wr 1) (fun hHeld => ?_)
    refine held_take (i := 0) (v := ?_) (some 32) rfl rfl (by kernel_rfl) (by kernel_rfl) (by kernel_rfl) (fun _ _ _ h => h) (Or.inl ⟨by rfl, ?_⟩) hHeld ?_
    rotate_left
    ·intro w hSw
     try dsimp only at hSw
     go_simp
     try with_reducible rfl
    simp only [Act.put, List.setIfInBounds_toArray, List.set_cons_zero, List.set_cons_succ]
    refine held_take (i := 1) (v := ?_) (some 33) rfl rfl (by kernel_rfl) (by kernel_rfl) (by kernel_rfl) (fun _ _ _ h => h) (Or.inl ⟨by rfl, ?_⟩) hHeld ?_
    rotate_left
    ·intro w hSw
     try dsimp only at hSw
     go_simp
     try with_reducible rfl
    simp only [Act.put, List.setIfInBounds_toArray, List.set_cons_zero, List.set_cons_succ]
    refine held_take (i := 2) (v := ?_) (some 34) rfl rfl (by kernel_rfl) (by kernel_rfl) (by kernel_rfl) (fun _ _ _ h => h) (Or.inl ⟨by rfl, ?_⟩) hHeld ?_
    rotate_left
    ·intro w hSw
     try dsimp only at hSw
     go_simp
     try with_reducible rfl
    simp only [Act.put, List.setIfInBounds_toArray, List.set_cons_zero, List.set_cons_succ]
    refine held_take (i := 3) (v := ?_) (some 35) rfl rfl (by kernel_rfl) (by kernel_rfl) (by kernel_rfl) (fun _ _ _ h => h) (Or.inl ⟨by rfl, ?_⟩) hHeld ?_
    rotate_left
    ·intro w hSw
     try dsimp only at hSw
     go_simp
     try with_reducible rfl
    simp only [Act.put, List.setIfInBounds_toArray, List.set_cons_zero, List.set_cons_succ]
    refine held_take (i := 4) (v := undef) (some 36) rfl rfl (by kernel_rfl) (by kernel_rfl) (by kernel_rfl) (fun _ _ _ h => h) (Or.inr ⟨by kernel_rfl, rfl⟩) hHeld ?_
    simp only [Act.put, List.setIfInBounds_toArray, List.set_cons_zero, List.set_cons_succ]
    refine held_take (i := 5) (v := undef) (some 37) rfl rfl (by kernel_rfl) (by kernel_rfl) (by kernel_rfl) (fun _ _ _ h => h) (Or.inr ⟨by kernel_rfl, rfl⟩) hHeld ?_
    simp only [Act.put, List.setIfInBounds_toArray, List.set_cons_zero, List.set_cons_succ]
    refine held_take (i := 6) (v := undef) (some 38) rfl rfl (by kernel_rfl) (by kernel_rfl) (by kernel_rfl) (fun _ _ _ h => h) (Or.inr ⟨by kernel_rfl, rfl⟩) hHeld ?_
    simp only [Act.put, List.setIfInBounds_toArray, List.set_cons_zero, List.set_cons_succ]
    refine held_take (i := 7) (v := undef) (some 39) rfl rfl (by kernel_rfl) (by kernel_rfl) (by kernel_rfl) (fun _ _ _ h => h) (Or.inr ⟨by kernel_rfl, rfl⟩) hHeld ?_
    simp only [Act.put, List.setIfInBounds_toArray, List.set_cons_zero, List.set_cons_succ]
    refine held_take (i := 8) (v := undef) (some 40) rfl rfl (by kernel_rfl) (by kernel_rfl) (by kernel_rfl) (fun _ _ _ h => h) (Or.inr ⟨by kernel_rfl, rfl⟩) hHeld ?_
    simp only [Act.put, List.setIfInBounds_toArray, List.set_cons_zero, List.set_cons_succ]
    refine held_take (i := 9) (v := undef) (some 41) rfl rfl (by kernel_rfl) (by kernel_rfl) (by kernel_rfl) (fun _ _ _ h => h) (Or.inr ⟨by kernel_rfl, rfl⟩) hHeld ?_
    simp only [Act.put, List.setIfInBounds_toArray, List.set_cons_zero, List.set_cons_succ]
    refine held_take (i := 10) (v := undef) (some 42) rfl rfl (by kernel_rfl) (by kernel_rfl) (by kernel_rfl) (fun _ _ _ h => h) (Or.inr ⟨by kernel_rfl, rfl⟩) hHeld ?_
    simp only [Act.put, List.setIfInBounds_toArray, List.set_cons_zero, List.set_cons_succ]
    refine held_take (i := 11) (v := undef) (some 43) rfl rfl (by kernel_rfl) (by kernel_rfl) (by kernel_rfl) (fun _ _ _ h => h) (Or.inr ⟨by kernel_rfl, rfl⟩) hHeld ?_
    simp only [Act.put, List.setIfInBounds_toArray, List.set_cons_zero, List.set_cons_succ]
    refine held_take (i := 12) (v := undef) (some 44) rfl rfl (by kernel_rfl) (by kernel_rfl) (by kernel_rfl) (fun _ _ _ h => h) (Or.inr ⟨by kernel_rfl, rfl⟩) hHeld ?_
    simp only [Act.put, List.setIfInBounds_toArray, List.set_cons_zero, List.set_cons_succ]
    refine held_take (i := 13) (v := undef) (some 45) rfl rfl (by kernel_rfl) (by kernel_rfl) (by kernel_rfl) (fun _ _ _ h => h) (Or.inr ⟨by kernel_rfl, rfl⟩) hHeld ?_
    simp only [Act.put, List.setIfInBounds_toArray, List.set_cons_zero, List.set_cons_succ]
    refine held_take (i := 14) (v := undef) (some 46) rfl rfl (by kernel_rfl) (by kernel_rfl) (by kernel_rfl) (fun _ _ _ h => h) (Or.inr ⟨by kernel_rfl, rfl⟩) hHeld ?_
    simp only [Act.put, List.setIfInBounds_toArray, List.set_cons_zero, List.set_cons_succ]
    refine held_take (i := 15) (v := undef) (some 47) rfl rfl (by kernel_rfl) (by kernel_rfl) (by kernel_rfl) (fun _ _ _ h => h) (Or.inr ⟨by kernel_rfl, rfl⟩) hHeld ?_
    simp only [Act.put, List.setIfInBounds_toArray, List.set_cons_zero, List.set_cons_succ]
    refine held_take (i := 16) (v := undef) (some 48) rfl rfl (by kernel_rfl) (by kernel_rfl) (by kernel_rfl) (fun _ _ _ h => h) (Or.inr ⟨by kernel_rfl, rfl⟩) hHeld ?_
    simp only [Act.put, List.setIfInBounds_toArray, List.set_cons_zero, List.set_cons_succ]
    refine held_take (i := 17) (v := ?_) (some 49) rfl rfl (by kernel_rfl) (by kernel_rfl) (by kernel_rfl) (fun _ _ _ h => h) (Or.inl ⟨by rfl, ?_⟩) hHeld ?_
    rotate_left
    ·intro w hSw
     try dsimp only at hSw
     go_simp
     try with_reducible rfl
    simp only [Act.put, List.setIfInBounds_toArray, List.set_cons_zero, List.set_cons_succ]
    refine wpAnyH_done (by kernel_rfl) ?_ _
    have hX := hHeld
    clear hHeld
    go_wp2_with (at_builtin; refine wpList_append_own _ rfl _ _ 77 rfl w2.heap.size 9 i0 _ 1 16 Tryz.underlying77 hi0 hz0 hz1 hz2 rfl (by omega) (.slice A5 zs.length q5) zs.length (zs.map txV) rfl ((own_below H5.out hX).alloc _) ⟨wr.drew.heap.size, 0, none⟩ 1 1 [txV x] rfl rfl (one_new _ _ _) (one_cell _ rfl) (by unfold maxLen; omega) (by omega) (by have := HS.out.bl.size; have := hX.size; simp; omega) ?_; intro v9 w9 hown9 hgr9 hnil9)
    have HN := Lib.hid (HS.out.left (merge_left (.inl rfl)) hX hown9 hgr9 (rdk_next HS.out.rx HS.out.lx HS.out.cx))
    clear hown9 hgr9 hnil9 hX c1
    go_roundw
    case rel => exact ⟨xs, _, zs ++ [x], nx - 1, 0, _, _, ca - 1, cb, rfl, rfl, HN⟩
    case measure => simp [lenOf]; omega
   ·have hny : 0 < ny := by have := HS.out.ly; simp at this; omega
    obtain ⟨g2, o2, rfl, c2⟩ := rdk_head HS.out.ry HS.out.ly HS.out.bl
    have hy1 : ((0 : Int) < (ny : Int)) = True := eq_true (by omega)
    have hy2 : ((ny : Int) == 0) = false := by simp; omega
    have hy3 : ((1 : Int) ≤ (ny : Int)) = True := eq_true (by omega)
    have hxo := HOK.out x (HS.out.mem (.inl (by simp)))
    have hyo := HOK.out y (HS.out.mem (.inr (by simp)))
    have HCM := Lib.hid (refCompare_tx x y hxo.2 hyo.2 hxo.1 hyo.1)
    clear hxo hyo
    by_cases hxy : cmpL x y ≤ 0
    ·have HLE := Lib.hid (leL_iff.2 hxy)
     have hd : (cmpL x y ≤ 0) = True := eq_true hxy
     clear hxy
     go_upto_region 6 with fail
     refine wp_region_held_drew (S := (fun w' => w'.cell? ⟨g1, o1, none⟩ = some (.string ⟨x.toArray⟩) ∧ w'.cell? ⟨g2, o2, none⟩ = some (.string ⟨y.toArray⟩) ∧ Below wr.heap.size wr w')) (by kernel_rfl) ⟨c1, c2, drewN_below wr 1⟩ (fun hHeld => ?_)
     refine held_take (i := 0) (v := ?_) (some 32) rfl rfl (by kernel_rfl) (by kernel_rfl) (by kernel_rfl) (fun _ _ _ h => h) (Or.inl ⟨by rfl, ?_⟩) hHeld ?_
     rotate_left
     ·intro w hSw
      try dsimp only at hSw
      go_simp
      try with_reducible rfl
     simp only [Act.put, List.setIfInBounds_toArray, List.set_cons_zero, List.set_cons_succ]
     refine held_take (i := 1) (v := ?_) (some 33) rfl rfl (by kernel_rfl) (by kernel_rfl) (by kernel_rfl) (fun _ _ _ h => h) (Or.inl ⟨by rfl, ?_⟩) hHeld ?_
     rotate_left
     ·intro w hSw
      try dsimp only at hSw
      go_simp
      try with_reducible rfl
     simp only [Act.put, List.setIfInBounds_toArray, List.set_cons_zero, List.set_cons_succ]
     refine held_take (i := 2) (v := ?_) (some 34) rfl rfl (by kernel_rfl) (by kernel_rfl) (by kernel_rfl) (fun _ _ _ h => h) (Or.inl ⟨by rfl, ?_⟩) hHeld ?_
     rotate_left
     ·intro w hSw
      try dsimp only at hSw
      go_simp
      try with_reducible rfl
     simp only [Act.put, List.setIfInBounds_toArray, List.set_cons_zero, List.set_cons_succ]
     refine held_take (i := 3) (v := ?_) (some 35) rfl rfl (by kernel_rfl) (by kernel_rfl) (by kernel_rfl) (fun _ _ _ h => h) (Or.inl ⟨by rfl, ?_⟩) hHeld ?_
     rotate_left
     ·intro w hSw
      try dsimp only at hSw
      go_simp
      try with_reducible rfl
     simp only [Act.put, List.setIfInBounds_toArray, List.set_cons_zero, List.set_cons_succ]
     refine held_take (i := 4) (v := ?_) (some 36) rfl rfl (by kernel_rfl) (by kernel_rfl) (by kernel_rfl) (fun _ _ _ h => h) (Or.inl ⟨by rfl, ?_⟩) hHeld ?_
     rotate_left
     ·intro w hSw
      try dsimp only at hSw
      go_simp
      try with_reducible rfl
     simp only [Act.put, List.setIfInBounds_toArray, List.set_cons_zero, List.set_cons_succ]
     refine held_take (i := 5) (v := ?_) (some 37) rfl rfl (by kernel_rfl) (by kernel_rfl) (by kernel_rfl) (fun _ _ _ h => h) (Or.inl ⟨by rfl, ?_⟩) hHeld ?_
     rotate_left
     ·intro w hSw
      try dsimp only at hSw
      go_simp
      try with_reducible rfl
     simp only [Act.put, List.setIfInBounds_toArray, List.set_cons_zero, List.set_cons_succ]
     refine held_take (i := 6) (v := ?_) (some 38) rfl rfl (by kernel_rfl) (by kernel_rfl) (by kernel_rfl) (fun _ _ _ h => h) (Or.inl ⟨by rfl, ?_⟩) hHeld ?_
     rotate_left
     ·intro w hSw
      try dsimp only at hSw
      go_simp
      try with_reducible rfl
     simp only [Act.put, List.setIfInBounds_toArray, List.set_cons_zero, List.set_cons_succ]
     refine held_take (i := 7) (v := ?_) (some 39) rfl rfl (by kernel_rfl) (by kernel_rfl) (by kernel_rfl) (fun _ _ _ h => h) (Or.inl ⟨by rfl, ?_⟩) hHeld ?_
     rotate_left
     ·intro w hSw
      try dsimp only at hSw
      go_simp
      try with_reducible rfl
     simp only [Act.put, List.setIfInBounds_toArray, List.set_cons_zero, List.set_cons_succ]
     refine held_take (i := 8) (v := ?_) (some 40) rfl rfl (by kernel_rfl) (by kernel_rfl) (by kernel_rfl) (fun _ _ _ h => h) (Or.inl ⟨by rfl, ?_⟩) hHeld ?_
     rotate_left
     ·intro w hSw
      try dsimp only at hSw
      go_simp
      try with_reducible rfl
     simp only [Act.put, List.setIfInBounds_toArray, List.set_cons_zero, List.set_cons_succ]
     refine held_take (i := 9) (v := ?_) (some 41) rfl rfl (by kernel_rfl) (by kernel_rfl) (by kernel_rfl) (fun _ _ _ h => h) (Or.inl ⟨by rfl, ?_⟩) hHeld ?_
     rotate_left
     ·intro w hSw
      try dsimp only at hSw
      go_simp
      try with_reducible rfl
     simp only [Act.put, List.setIfInBounds_toArray, List.set_cons_zero, List.set_cons_succ]
     refine held_take (i := 10) (v := ?_) (some 42) rfl rfl (by kernel_rfl) (by kernel_rfl) (by kernel_rfl) (fun _ _ _ h => h) (Or.inl ⟨by rfl, ?_⟩) hHeld ?_
     rotate_left
     ·intro w hSw
      try dsimp only at hSw
      go_simp
      try with_reducible rfl
     simp only [Act.put, List.setIfInBounds_toArray, List.set_cons_zero, List.set_cons_succ]
     refine held_take (i := 11) (v := ?_) (some 43) rfl rfl (by kernel_rfl) (by kernel_rfl) (by kernel_rfl) (fun _ _ _ h => h) (Or.inl ⟨by rfl, ?_⟩) hHeld ?_
     rotate_left
     ·intro w hSw
      try dsimp only at hSw
      go_simp
      try with_reducible rfl
     simp only [Act.put, List.setIfInBounds_toArray, List.set_cons_zero, List.set_cons_succ]
     refine held_take (i := 12) (v := ?_) (some 44) rfl rfl (by kernel_rfl) (by kernel_rfl) (by kernel_rfl) (fun _ _ _ h => h) (Or.inl ⟨by rfl, ?_⟩) hHeld ?_
     rotate_left
     ·intro w hSw
      try dsimp only at hSw
      go_simp
      try with_reducible rfl
     simp only [Act.put, List.setIfInBounds_toArray, List.set_cons_zero, List.set_cons_succ]
     refine held_take (i := 13) (v := ?_) (some 45) rfl rfl (by kernel_rfl) (by kernel_rfl) (by kernel_rfl) (fun _ _ _ h => h) (Or.inl ⟨by rfl, ?_⟩) hHeld ?_
     rotate_left
     ·intro w hSw
      try dsimp only at hSw
      go_simp
      try with_reducible rfl
     simp only [Act.put, List.setIfInBounds_toArray, List.set_cons_zero, List.set_cons_succ]
     refine wpAnyH_ready (rs := [14]) (by kernel_rfl) (by simp) ?_
     refine AllReadyH.cons rfl (fun K hK => ?_) AllReadyH.nil
     go_simp
     go_at_call 224
     ((with_reducible refine (HCM.out _).mono ?_); rintro e w3 ⟨rfl, hb2⟩; dsimp only)
     replace hHeld := cc_below hHeld hb2
     refine hK.out _ _ hHeld (fun _ => ?_)
     clear hK K
     refine held_take (i := 15) (v := ?_) (some 47) rfl rfl (by kernel_rfl) (by kernel_rfl) (by kernel_rfl) (fun _ _ _ h => h) (Or.inl ⟨by rfl, ?_⟩) hHeld ?_
     rotate_left
     ·intro w hSw
      try dsimp only at hSw
      go_simp
      try with_reducible rfl
     simp only [Act.put, List.setIfInBounds_toArray, List.set_cons_zero, List.set_cons_succ]
     refine held_take (i := 16) (v := ?_) (some 48) rfl rfl (by kernel_rfl) (by kernel_rfl) (by kernel_rfl) (fun _ _ _ h => h) (Or.inl ⟨by rfl, ?_⟩) hHeld ?_
     rotate_left
     ·intro w hSw
      try dsimp only at hSw
      go_simp
      try with_reducible rfl
     simp only [Act.put, List.setIfInBounds_toArray, List.set_cons_zero, List.set_cons_succ]
     refine held_take (i := 17) (v := ?_) (some 49) rfl rfl (by kernel_rfl) (by kernel_rfl) (by kernel_rfl) (fun _ _ _ h => h) (Or.inl ⟨by rfl, ?_⟩) hHeld ?_
     rotate_left
     ·intro w hSw
      try dsimp only at hSw
      go_simp
      try with_reducible rfl
     simp only [Act.put, List.setIfInBounds_toArray, List.set_cons_zero, List.set_cons_succ]
     refine wpAnyH_done (by kernel_rfl) ?_ _
     obtain ⟨c1, c2, hX⟩ := hHeld
     go_wp2_with (at_builtin; refine wpList_append_own _ rfl _ _ 77 rfl w2.heap.size 9 i0 _ 1 16 Tryz.underlying77 hi0 hz0 hz1 hz2 rfl (by omega) (.slice A5 zs.length q5) zs.length (zs.map txV) rfl ((own_below H5.out hX).alloc _) ⟨w3.heap.size, 0, none⟩ 1 1 [txV x] rfl rfl (one_new _ _ _) (one_cell _ rfl) (by unfold maxLen; omega) (by omega) (by have := HS.out.bl.size; have := hX.size; simp; omega) ?_; intro v9 w9 hown9 hgr9 hnil9)
     have HN := Lib.hid (HS.out.left (merge_left (.inr ⟨_, _, rfl, HLE.out⟩)) hX hown9 hgr9 (rdk_next HS.out.rx HS.out.lx HS.out.cx))
     clear c2 hown9 hgr9 hnil9 hX c1
     go_roundw
     case rel => exact ⟨xs, _, zs ++ [x], nx - 1, ny, _, _, ca - 1, cb, rfl, rfl, HN⟩
     case measure => simp [lenOf]; omega
    ·have HLE : Hid (leL x y = false) := Lib.hid (by cases h : leL x y with | false => rfl | true => exact absurd (leL_iff.1 h) hxy)
     have hd : (cmpL x y ≤ 0) = False := eq_false hxy
     clear hxy
     go_upto_region 6 with fail
     refine wp_region_held_drew (S := (fun w' => w'.cell? ⟨g1, o1, none⟩ = some (.string ⟨x.toArray⟩) ∧ w'.cell? ⟨g2, o2, none⟩ = some (.string ⟨y.toArray⟩) ∧ Below wr.heap.size wr w')) (by kernel_rfl) ⟨c1, c2, drewN_below wr 1⟩ (fun hHeld => ?_)
     refine held_take (i := 0) (v := ?_) (some 32) rfl rfl (by kernel_rfl) (by kernel_rfl) (by kernel_rfl) (fun _ _ _ h => h) (Or.inl ⟨by rfl, ?_⟩) hHeld ?_
     rotate_left
     ·intro w hSw
      try dsimp only at hSw
      go_simp
      try with_reducible rfl
     simp only [Act.put, List.setIfInBounds_toArray, List.set_cons_zero, List.set_cons_succ]
     refine held_take (i := 1) (v := ?_) (some 33) rfl rfl (by kernel_rfl) (by kernel_rfl) (by kernel_rfl) (fun _ _ _ h => h) (Or.inl ⟨by rfl, ?_⟩) hHeld ?_
     rotate_left
     ·intro w hSw
      try dsimp only at hSw
      go_simp
      try with_reducible rfl
     simp only [Act.put, List.setIfInBounds_toArray, List.set_cons_zero, List.set_cons_succ]
     refine held_take (i := 2) (v := ?_) (some 34) rfl rfl (by kernel_rfl) (by kernel_rfl) (by kernel_rfl) (fun _ _ _ h => h) (Or.inl ⟨by rfl, ?_⟩) hHeld ?_
     rotate_left
     ·intro w hSw
      try dsimp only at hSw
      go_simp
      try with_reducible rfl
     simp only [Act.put, List.setIfInBounds_toArray, List.set_cons_zero, List.set_cons_succ]
     refine held_take (i := 3) (v := ?_) (some 35) rfl rfl (by kernel_rfl) (by kernel_rfl) (by kernel_rfl) (fun _ _ _ h => h) (Or.inl ⟨by rfl, ?_⟩) hHeld ?_
     rotate_left
     ·intro w hSw
      try dsimp only at hSw
      go_simp
      try with_reducible rfl
     simp only [Act.put, List.setIfInBounds_toArray, List.set_cons_zero, List.set_cons_succ]
     refine held_take (i := 4) (v := ?_) (some 36) rfl rfl (by kernel_rfl) (by kernel_rfl) (by kernel_rfl) (fun _ _ _ h => h) (Or.inl ⟨by rfl, ?_⟩) hHeld ?_
     rotate_left
     ·intro w hSw
      try dsimp only at hSw
      go_simp
      try with_reducible rfl
     simp only [Act.put, List.setIfInBounds_toArray, List.set_cons_zero, List.set_cons_succ]
     refine held_take (i := 5) (v := ?_) (some 37) rfl rfl (by kernel_rfl) (by kernel_rfl) (by kernel_rfl) (fun _ _ _ h => h) (Or.inl ⟨by rfl, ?_⟩) hHeld ?_
     rotate_left
     ·intro w hSw
      try dsimp only at hSw
      go_simp
      try with_reducible rfl
     simp only [Act.put, List.setIfInBounds_toArray, List.set_cons_zero, List.set_cons_succ]
     refine held_take (i := 6) (v := ?_) (some 38) rfl rfl (by kernel_rfl) (by kernel_rfl) (by kernel_rfl) (fun _ _ _ h => h) (Or.inl ⟨by rfl, ?_⟩) hHeld ?_
     rotate_left
     ·intro w hSw
      try dsimp only at hSw
      go_simp
      try with_reducible rfl
     simp only [Act.put, List.setIfInBounds_toArray, List.set_cons_zero, List.set_cons_succ]
     refine held_take (i := 7) (v := ?_) (some 39) rfl rfl (by kernel_rfl) (by kernel_rfl) (by kernel_rfl) (fun _ _ _ h => h) (Or.inl ⟨by rfl, ?_⟩) hHeld ?_
     rotate_left
     ·intro w hSw
      try dsimp only at hSw
      go_simp
      try with_reducible rfl
     simp only [Act.put, List.setIfInBounds_toArray, List.set_cons_zero, List.set_cons_succ]
     refine held_take (i := 8) (v := ?_) (some 40) rfl rfl (by kernel_rfl) (by kernel_rfl) (by kernel_rfl) (fun _ _ _ h => h) (Or.inl ⟨by rfl, ?_⟩) hHeld ?_
     rotate_left
     ·intro w hSw
      try dsimp only at hSw
      go_simp
      try with_reducible rfl
     simp only [Act.put, List.setIfInBounds_toArray, List.set_cons_zero, List.set_cons_succ]
     refine held_take (i := 9) (v := ?_) (some 41) rfl rfl (by kernel_rfl) (by kernel_rfl) (by kernel_rfl) (fun _ _ _ h => h) (Or.inl ⟨by rfl, ?_⟩) hHeld ?_
     rotate_left
     ·intro w hSw
      try dsimp only at hSw
      go_simp
      try with_reducible rfl
     simp only [Act.put, List.setIfInBounds_toArray, List.set_cons_zero, List.set_cons_succ]
     refine held_take (i := 10) (v := ?_) (some 42) rfl rfl (by kernel_rfl) (by kernel_rfl) (by kernel_rfl) (fun _ _ _ h => h) (Or.inl ⟨by rfl, ?_⟩) hHeld ?_
     rotate_left
     ·intro w hSw
      try dsimp only at hSw
      go_simp
      try with_reducible rfl
     simp only [Act.put, List.setIfInBounds_toArray, List.set_cons_zero, List.set_cons_succ]
     refine held_take (i := 11) (v := ?_) (some 43) rfl rfl (by kernel_rfl) (by kernel_rfl) (by kernel_rfl) (fun _ _ _ h => h) (Or.inl ⟨by rfl, ?_⟩) hHeld ?_
     rotate_left
     ·intro w hSw
      try dsimp only at hSw
      go_simp
      try with_reducible rfl
     simp only [Act.put, List.setIfInBounds_toArray, List.set_cons_zero, List.set_cons_succ]
     refine held_take (i := 12) (v := ?_) (some 44) rfl rfl (by kernel_rfl) (by kernel_rfl) (by kernel_rfl) (fun _ _ _ h => h) (Or.inl ⟨by rfl, ?_⟩) hHeld ?_
     rotate_left
     ·intro w hSw
      try dsimp only at hSw
      go_simp
      try with_reducible rfl
     simp only [Act.put, List.setIfInBounds_toArray, List.set_cons_zero, List.set_cons_succ]
     refine held_take (i := 13) (v := ?_) (some 45) rfl rfl (by kernel_rfl) (by kernel_rfl) (by kernel_rfl) (fun _ _ _ h => h) (Or.inl ⟨by rfl, ?_⟩) hHeld ?_
     rotate_left
     ·intro w hSw
      try dsimp only at hSw
      go_simp
      try with_reducible rfl
     simp only [Act.put, List.setIfInBounds_toArray, List.set_cons_zero, List.set_cons_succ]
     refine wpAnyH_ready (rs := [14]) (by kernel_rfl) (by simp) ?_
     refine AllReadyH.cons rfl (fun K hK => ?_) AllReadyH.nil
     go_simp
     go_at_call 224
     ((with_reducible refine (HCM.out _).mono ?_); rintro e w3 ⟨rfl, hb2⟩; dsimp only)
     replace hHeld := cc_below hHeld hb2
     refine hK.out _ _ hHeld (fun _ => ?_)
     clear hK K
     refine held_take (i := 15) (v := ?_) (some 47) rfl rfl (by kernel_rfl) (by kernel_rfl) (by kernel_rfl) (fun _ _ _ h => h) (Or.inl ⟨by rfl, ?_⟩) hHeld ?_
     rotate_left
     ·intro w hSw
      try dsimp only at hSw
      go_simp
      try with_reducible rfl
     simp only [Act.put, List.setIfInBounds_toArray, List.set_cons_zero, List.set_cons_succ]
     refine held_take (i := 16) (v := ?_) (some 48) rfl rfl (by kernel_rfl) (by kernel_rfl) (by kernel_rfl) (fun _ _ _ h => h) (Or.inl ⟨by rfl, ?_⟩) hHeld ?_
     rotate_left
     ·intro w hSw
      try dsimp only at hSw
      go_simp
      try with_reducible rfl
     simp only [Act.put, List.setIfInBounds_toArray, List.set_cons_zero, List.set_cons_succ]
     refine held_take (i := 17) (v := ?_) (some 49) rfl rfl (by kernel_rfl) (by kernel_rfl) (by kernel_rfl) (fun _ _ _ h => h) (Or.inl ⟨by rfl, ?_⟩) hHeld ?_
     rotate_left
     ·intro w hSw
      try dsimp only at hSw
      go_simp
      try with_reducible rfl
     simp only [Act.put, List.setIfInBounds_toArray, List.set_cons_zero, List.set_cons_succ]
     refine wpAnyH_done (by kernel_rfl) ?_ _
     obtain ⟨c1, c2, hX⟩ := hHeld
     go_wp2_with (at_builtin; refine wpList_append_own _ rfl _ _ 77 rfl w2.heap.size 9 i0 _ 1 16 Tryz.underlying77 hi0 hz0 hz1 hz2 rfl (by omega) (.slice A5 zs.length q5) zs.length (zs.map txV) rfl ((own_below H5.out hX).alloc _) ⟨w3.heap.size, 0, none⟩ 1 1 [txV y] rfl rfl (one_new _ _ _) (one_cell _ rfl) (by unfold maxLen; omega) (by omega) (by have := HS.out.bl.size; have := hX.size; simp; omega) ?_; intro v9 w9 hown9 hgr9 hnil9)
     have HN := Lib.hid (HS.out.right (merge_right' (.inr ⟨_, _, rfl, HLE.out⟩)) hX hown9 hgr9 (rdk_next HS.out.ry HS.out.ly HS.out.cy))
     clear c1 hown9 hgr9 hnil9 hX c2
     go_roundw
     case rel => exact ⟨_, ys, zs ++ [y], nx, ny - 1, _, _, ca, cb - 1, rfl, rfl, HN⟩
     case measure => simp [lenOf]; omega
theorem sorted_any : ∀ (n : Nat) (A : Option Addr) (c : Nat) (ks : List Tx) (w : World), ks.length = n → RdK w (.slice A n c) ks → n ≤ c → KeysOk ks → n ≤ 1099511627776 → Calls Tryz.prog 202 #[.slice A n c] w (SortP ks w) := by
 intro n
 induction n using Nat.strongRecOn with
 | ind n ih =>
  intro A c ks w hn hr hc hok hm
  rcases ks with _ | ⟨t, _ | ⟨t2, ks⟩⟩
  ·obtain rfl : n = 0 := hn.symm
   exact sorted_none A c w
  ·obtain rfl : n = 1 := hn.symm
   exact sorted_one A c t w hr
  ·obtain ⟨g, o, rfl, _⟩ := rdk_some hr hn (by simp at hn; omega)
   exact sorted_more g o c n _ w hn (by simp at hn; omega) hr hc hok hm fun A m q js W h1 h2 h3 h4 h5 => ih m h2 A q js W h1 h3 h4 h5 (by omega)
end Nd
end Go.Proofs.YtbajkglacfheiaaGreatDoor
namespace Go.Proofs.YtbajkglacfheiaaGreatDoor
open Go.RowKit Mem Ref3
namespace Nd
def AdjTo (sk : List Tx) (i : Nat) : Prop := ∀ j (h : j + 1 < sk.length), j + 1 < i → sk[j + 1] ≠ sk[j]
theorem twice_any (A : Option Addr) (c n : Nat) (ks : List Tx) (w : World) (hn : ks.length = n) (hr : RdK w (.slice A n c) ks) (hc : n ≤ c) (hok : KeysOk ks) (hm : n ≤ 1099511627776) :
  Calls Tryz.prog 170 #[.slice A n c] w fun e w' => e = .returned (.bool (decide (¬ ks.Nodup))) ∧ Below w.heap.size w w' := by
 have HS := Lib.hid (sorted_any n A c ks w hn hr hc hok hm)
 have HPW := Lib.hid (sortK_pw ks)
 have HND := Lib.hid (nodup_sortK ks)
 have hlen : (sortK ks).length = n := by rw [sortK_len, hn]
 have HLEN := Lib.hid hlen
 clear hr hok hc
 go_enter Tryz.func170, Tryz.ntmps170
 go_wp2_with fail
 refine HS.out.mono ?_
 rintro e w1 ⟨⟨v1, rfl, ho1⟩, hb1⟩
 rw [hn] at ho1
 obtain ⟨A1, q1, rfl⟩ := own_slice ho1
 have HO1 := Lib.hid ho1
 have HB1 := Lib.hid hb1
 clear HS ho1 hb1
 generalize sortK ks = sk at *
 go_wp2
 go_loopw [4] (fun c4 wr => ∃ k : Nat, k + 1 ≤ n + 1 ∧ c4 = .int .i64 ((k + 1 : Nat) : Int) ∧ Hid (AdjTo sk (k + 1)) ∧ Hid (Below w1.heap.size w1 wr)) (fun c4 _ => n + 1 - (intOf c4).toNat)
 case atStart => exact ⟨0, by omega, rfl, Lib.hid (fun j _ h => by omega), Lib.hid (Below.refl _ _)⟩
 case round =>
  obtain ⟨k, hk, rfl, HA, HB⟩ := hrel
  have hsz := HB1.out.size
  by_cases hlt : k + 1 < n
  ·obtain ⟨g, rfl, hc1⟩ := own_at (own_below HO1.out HB.out) hlt
   obtain ⟨g', e', hc2⟩ := own_at (own_below HO1.out HB.out) (by omega : k < n)
   injection e' with e'
   injection e' with e1 _ _
   subst e1
   have hl1 : k + 1 < sk.length := by rw [HLEN.out]; exact hlt
   have hl2 : k < sk.length := by rw [HLEN.out]; omega
   rw [List.getElem?_map, List.getElem?_eq_getElem hl1] at hc1
   rw [List.getElem?_map, List.getElem?_eq_getElem hl2] at hc2
   have hyes : sk[k + 1] = sk[k] → ¬ ks.Nodup := fun e hnd => by
    have h := (HND.out.2 hnd)
    rw [List.Nodup, List.pairwise_iff_getElem] at h
    exact h k (k + 1) hl2 hl1 (by omega) e.symm
   have hno : sk[k + 1] ≠ sk[k] → AdjTo sk (k + 1 + 1) := fun e j h1 h2 => by
    rcases Nat.lt_or_ge j k with h | h
    ·exact HA.out j h1 (by omega)
    ·obtain rfl : j = k := by omega
     exact e
   have HY := Lib.hid hyes
   have HN := Lib.hid hno
   clear hyes hno
   generalize sk[k + 1] = x at *
   generalize sk[k] = y at *
   have hc1' : wr.cell? ⟨g, k + 1, none⟩ = some (.string ⟨x.toArray⟩) := hc1
   have hc2' : wr.cell? ⟨g, k, none⟩ = some (.string ⟨y.toArray⟩) := hc2
   clear hc1 hc2 hl1 hl2
   have hsub : IntKind.i64.wrap (((k + 1 : Nat) : Int) - 1) = (k : Int) := by
    rw [IntWalk.i64_in _ (by omega)]
    omega
   have hkn : ((k : Int) < (n : Int)) = True := eq_true (by omega)
   obtain ⟨i, hi⟩ : ∃ i, k + 1 = i := ⟨_, rfl⟩
   rw [hi] at hc1' hsub hlt ⊢
   by_cases hxy : x = y
   ·have hd : (x == y) = true := by simp [hxy]
    have HR : Hid (decide (¬ ks.Nodup) = true) := Lib.hid (decide_eq_true (HY.out hxy))
    clear hxy
    go_wp2_with fail
    go_quiet (fail)
    go_wp2
    go_ret
    exact ⟨by rw [HR.out]; rfl, HB1.out.trans ((HB.out.trans (drewN_below _ _)).mono hsz)⟩
   ·have hd : (x == y) = false := by simp [hxy]
    have HR : Hid (AdjTo sk (i + 1)) := Lib.hid (by rw [← hi]; exact HN.out hxy)
    clear hxy
    go_wp2_with fail
    go_quiet (fail)
    go_wp2
    go_roundw
    case rel => exact ⟨i, by omega, by go_num, HR, Lib.hid (HB.out.trans (drewN_below _ _))⟩
    case measure => simp [intOf]; omega
  ·have hnd : ks.Nodup := HND.out.1 (sorted_adj HPW.out fun j h => HA.out j h (by rw [HLEN.out] at h; omega))
   have HR : Hid (decide (¬ ks.Nodup) = false) := Lib.hid (decide_eq_false (by simpa using hnd))
   clear hnd
   have hd : (((k + 1 : Nat) : Int) < (n : Int)) = False := eq_false (by omega)
   obtain ⟨i, hi⟩ : ∃ i, k + 1 = i := ⟨_, rfl⟩
   rw [hi] at hd ⊢
   go_wp2
   go_ret
   exact ⟨by rw [HR.out]; rfl, HB1.out.trans (HB.out.mono hsz)⟩
end Nd
end Go.Proofs.YtbajkglacfheiaaGreatDoor
