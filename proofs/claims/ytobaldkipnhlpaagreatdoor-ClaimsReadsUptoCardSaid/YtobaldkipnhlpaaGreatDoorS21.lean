/-
  A value's steps, in plain terms: they make it again. A row of steps of the call's own, with their keys; what a walk keeps of it. Walks of package node: steps. Walks of package node: a Ref's Steps, a Tree's Steps, a Ref's Tree; what a row of steps reads as. Walks of layer 10's law: step, steps.
  Times as floats, in plain terms: the bits of a whole number below 2^53, which floats are such numbers.
  Which floats are times, by the code's own tests: what is cut off, less than nought, more than the greatest.
  Plain law of layer 25: what an object claims; the object that claims; there and back.
-/
import Derived.Test.YtobaldkipnhlpaaGreatDoorS8
import Derived.Test.YtobaldkipnhlpaaGreatDoorS1
import Derived.Test.YtobaldkipnhlpaaGreatDoorS15
import Derived.Test.YtobaldkipnhlpaaGreatDoorS7
import Derived.Test.YtobaldkipnhlpaaGreatDoorS10
import Derived.Test.YtobaldkipnhlpaaGreatDoorS18
import Derived.Test.YtobaldkipnhlpaaGreatDoorS16
import Derived.Maps.AppendAt
import Derived.RangeFuncBox
import Derived.Laws.FloatArith
import Derived.Lib.ItoaMem
set_option linter.unusedVariables false
set_option linter.unusedSimpArgs false
set_option maxRecDepth 100000
set_option maxHeartbeats 16000000
namespace Go.Proofs.YtobaldkipnhlpaaGreatDoor
open Go.RowKit Mem
namespace Nd

end Nd
end Go.Proofs.YtobaldkipnhlpaaGreatDoor
namespace Go.Proofs.YtobaldkipnhlpaaGreatDoor
open Go.RowKit Mem
namespace Nd

def cell6 (s : Stp) (K : Option Addr) (q : Nat) : List Value := [.int .i64 s.sort, .bool s.flag, .int .u64 (s.bits : Int), .string ⟨s.text.toArray⟩, .int .i64 s.count, .slice K s.keys.length q]
abbrev E6 := Stp × Option Addr × Nat
def cellsE (es : List E6) : List Value := es.flatMap fun e => cell6 e.1 e.2.1 e.2.2
theorem own_typed {w : World} {base size n : Nat} {e : TypeId} {v : Value} {xs : List Value} (h : w.ownsRow base e size v n xs) (g : Nat) (hg : v.ownBlock = some g) : base ≤ g ∧ ∃ cur, w.heap[g]? = some (.cells cur e (0, 0)) := by
 rcases h.2 with ⟨rfl, _⟩ | ⟨g', cap, cur, rfl, h1, h2, _⟩
 ·cases hg
 ·simp only [Value.ownBlock, Option.some.injEq] at hg
  subst hg
  exact ⟨h1, _, h2⟩
theorem cell6_one (s : Stp) (K : Option Addr) (q : Nat) : ∀ u ∈ cell6 s K q, u.oneCell' = true := by
 intro u hu
 simp [cell6] at hu
 rcases hu with rfl | rfl | rfl | rfl | rfl | rfl <;> rfl
theorem cells_new (w : World) (cs : List Value) (t : TypeId) : ∀ j u, cs[j]? = some u → (w.alloc (.cells cs.toArray t)).cell? ((⟨w.heap.size, 0, none⟩ : Addr).add j) = some u := by
 intro j u hj
 have e1 : (⟨w.heap.size, 0, none⟩ : Addr).add j = ⟨w.heap.size, j, none⟩ := by
  unfold Addr.add
  split <;> simp_all
 rw [e1, (Blk.new w t cs.toArray).cell]
 simpa using hj
end Nd
end Go.Proofs.YtobaldkipnhlpaaGreatDoor
namespace Go.Proofs.YtobaldkipnhlpaaGreatDoor
open Go.RowKit Mem
namespace Nd
end Nd
end Go.Proofs.YtobaldkipnhlpaaGreatDoor
namespace Go.Proofs.YtobaldkipnhlpaaGreatDoor
open Go.RowKit Mem
namespace Nd

theorem cellsE_len (es : List E6) : (cellsE es).length = es.length * 6 := by
 induction es with
 | nil => rfl
 | cons e es ih =>
  unfold cellsE at ih ⊢
  rw [List.flatMap_cons, List.length_append, ih]
  simp [cell6]
  omega
theorem cellsE_at : ∀ (es : List E6) (j : Nat) (e : E6), es[j]? = some e → ∀ i, i < 6 → (cellsE es)[j * 6 + i]? = (cell6 e.1 e.2.1 e.2.2)[i]?
 | [], j, e, h, i, hi => by simp at h
 | x :: es, 0, e, h, i, hi => by
  simp at h
  subst h
  unfold cellsE
  rw [List.flatMap_cons, Nat.zero_mul, Nat.zero_add, List.getElem?_append_left (by simp [cell6]; omega)]
 | x :: es, j + 1, e, h, i, hi => by
  have ih := cellsE_at es j e (by simpa using h) i hi
  unfold cellsE at ih ⊢
  rw [List.flatMap_cons, List.getElem?_append_right (by simp [cell6]; omega), ← ih]
  have e1 : (cell6 x.1 x.2.1 x.2.2).length = 6 := by simp [cell6]
  rw [e1]
  congr 1
  omega
theorem own_rds {w : World} {B n : Nat} {ty : TypeId} {v : Value} {es : List E6} (h : w.ownsRow B ty 6 v n (cellsE es)) (hk : ∀ e ∈ es, RdK w (.slice e.2.1 e.1.keys.length e.2.2) e.1.keys ∧ e.1.keys.length ≤ e.2.2) : RdS w v (es.map (·.1)) := by
 have hl := h.1
 rw [cellsE_len] at hl
 have hn : n = es.length := by omega
 subst hn
 obtain ⟨A, c, rfl⟩ := own_slice h
 refine ⟨A, c, by simp, ?_⟩
 rcases h.2 with ⟨_, h0⟩ | ⟨g, cap, cur, hv, _, hg, _, _, hs, ht⟩
 ·left
  rw [List.length_eq_zero_iff.1 h0]
  rfl
 ·injection hv with hA _ _
  refine .inr ⟨g, 0, hA, fun j s hs => ?_⟩
  rw [List.getElem?_map] at hs
  cases he : es[j]? with
  | none => rw [he] at hs; cases hs
  | some e =>
   rw [he] at hs
   simp at hs
   subst hs
   have hjl : j < es.length := by
    rcases Nat.lt_or_ge j es.length with h | h
    ·exact h
    ·rw [List.getElem?_eq_none h] at he
     cases he
   have hc : ∀ i, i < 6 → w.cell? ⟨g, 0 + j * 6 + i, none⟩ = (cell6 e.1 e.2.1 e.2.2)[i]? := by
    intro i hi
    rw [cell_of_row w g _ cur _ _ hg, ← cellsE_at es j e he i hi, ← ht, List.getElem?_take, if_pos (by omega), Nat.zero_add]
    simp
   exact ⟨e.2.1, e.2.2, hc 0 (by omega), hc 1 (by omega), hc 2 (by omega), hc 3 (by omega), hc 4 (by omega), hc 5 (by omega), (hk e (List.mem_of_getElem? he)).1, (hk e (List.mem_of_getElem? he)).2⟩
end Nd
end Go.Proofs.YtobaldkipnhlpaaGreatDoor
namespace Go.Proofs.YtobaldkipnhlpaaGreatDoor
open Go.RowKit Mem
namespace Nd

theorem rds_es {w : World} {A : Option Addr} {c : Nat} {ss : List Stp} (h : RdS w (.slice A ss.length c) ss) : ∃ es : List E6, es.map (·.1) = ss ∧ ∀ (k : Nat) (hk : k < ss.length), ∃ g o K q, A = some ⟨g, o, none⟩ ∧ CellS w g (o + k * 6) ss[k] K q ∧ es[k]? = some (ss[k], K, q) := by
 obtain ⟨A', c', e', h'⟩ := h
 injection e' with e1 e2 e3
 subst e1
 rcases h' with rfl | ⟨g, o, rfl, hc⟩
 ·exact ⟨[], rfl, fun k hk => by simp at hk⟩
 ·have hex : ∀ m, m ≤ ss.length → ∃ es : List E6, es.map (·.1) = ss.take m ∧ ∀ (k : Nat) (hk : k < m) (hk2 : k < ss.length), ∃ K q, CellS w g (o + k * 6) ss[k] K q ∧ es[k]? = some (ss[k], K, q) := by
   intro m
   induction m with
   | zero => exact fun _ => ⟨[], rfl, fun k hk => by omega⟩
   | succ m ih =>
    intro hm
    obtain ⟨es, h1, h2⟩ := ih (by omega)
    obtain ⟨K, q, hcs⟩ := hc m _ (List.getElem?_eq_getElem (by omega))
    have hel : es.length = m := by
     have := congrArg List.length h1
     simp at this
     omega
    refine ⟨es ++ [(ss[m], K, q)], ?_, fun k hk hk2 => ?_⟩
    ·rw [List.map_append, h1, List.take_succ_eq_append_getElem (by omega)]
     rfl
    ·rcases Nat.lt_or_ge k m with hlt | hge
     ·obtain ⟨K', q', h3, h4⟩ := h2 k hlt hk2
      exact ⟨K', q', h3, by rw [List.getElem?_append_left (by omega)]; exact h4⟩
     ·obtain rfl : k = m := by omega
      exact ⟨K, q, hcs, by rw [List.getElem?_append_right (by omega), hel]; simp⟩
  obtain ⟨es, h1, h2⟩ := hex ss.length (Nat.le_refl _)
  rw [List.take_of_length_le (Nat.le_refl _)] at h1
  exact ⟨es, h1, fun k hk => by obtain ⟨K, q, h3, h4⟩ := h2 k hk hk; exact ⟨g, o, K, q, rfl, h3, h4⟩⟩
theorem cellsE_snoc (es : List E6) (k : Nat) (e : E6) (h : es[k]? = some e) : cellsE (es.take (k + 1)) = cellsE (es.take k) ++ cell6 e.1 e.2.1 e.2.2 := by
 have hk : k < es.length := by
  rcases Nat.lt_or_ge k es.length with h1 | h1
  ·exact h1
  ·rw [List.getElem?_eq_none h1] at h
   cases h
 rw [List.take_succ_eq_append_getElem hk]
 unfold cellsE
 rw [List.flatMap_append]
 rw [List.getElem?_eq_getElem hk] at h
 injection h with h
 rw [h]
 simp
theorem info_rstep : (Tryz.prog.info? 90).map (fun i => (i.zero, i.size, i.bytes)) = some (some (.agg #[.int .i64 0, .bool false, .int .u64 0, .string ⟨#[]⟩, .int .i64 0, .slice none 0 0]), 6, 72) := by kernel_rfl
end Nd
end Go.Proofs.YtobaldkipnhlpaaGreatDoor
namespace Go.Proofs.YtobaldkipnhlpaaGreatDoor
namespace Nd
open Ieee

theorem fb : double.fractionBits = 52 := rfl
theorem lin_a (k x : Nat) (h : k ≤ 52) (hx : x < 9007199254740992) : (1022 + k) * 4503599627370496 + x ≤ 9218868437227405312 := by omega
theorem lin_b (k x : Nat) (h : 4503599627370496 ≤ x) : (1022 + k) * 4503599627370496 + x = (1023 + k) * 4503599627370496 + (x - 4503599627370496) := by omega
theorem lin_c (b e n : Nat) (he : b / 4503599627370496 = e) (h : 1023 ≤ e) (hn : n = b % 4503599627370496 + 4503599627370496) : b = (1022 + (e - 1023)) * 4503599627370496 + n := by omega
theorem cut_none (way : Toward) (neg : Bool) (n : Nat) : way.cut neg n 0 = n := by
 unfold Toward.cut
 have h : (1 <<< min 0 (n.log2 + 2) : Nat) = 1 := by rw [Nat.zero_min]; rfl
 rw [h]
 cases way <;> simp [Nat.mod_one]
theorem write_zero (s : Bool) (p : Int) : double.write (.number s 0 p) = if s then 9223372036854775808 else 0 := by
 show double.nearest s 0 p = _
 unfold Format.nearest
 rw [if_pos rfl]
 unfold Format.word
 rw [sw]
theorem log2_is {n k : Nat} (h1 : 2 ^ k ≤ n) (h2 : n < 2 ^ (k + 1)) : n.log2 = k := by
 have hn : n ≠ 0 := by have := Nat.two_pow_pos k; omega
 have a : k ≤ n.log2 := (Nat.le_log2 hn).2 h1
 have b : n.log2 < k + 1 := (Nat.log2_lt hn).2 h2
 omega
theorem log2_of {n : Nat} (hn : n ≠ 0) : 2 ^ n.log2 ≤ n ∧ n < 2 ^ (n.log2 + 1) := ⟨Nat.log2_self_le hn, Nat.lt_log2_self⟩
theorem pow_split {k : Nat} (hk : k ≤ 52) : 2 ^ k * 2 ^ (52 - k) = 4503599627370496 := by
 rw [← Nat.pow_add]
 have : k + (52 - k) = 52 := by omega
 rw [this]
theorem write_nat {n k : Nat} (h1 : 2 ^ k ≤ n) (h2 : n < 2 ^ (k + 1)) (hk : k ≤ 52) : double.write (.number false n 0) = (1022 + k) * 4503599627370496 + n * 2 ^ (52 - k) := by
 have hn : n ≠ 0 := by have := Nat.two_pow_pos k; omega
 have hl := log2_is h1 h2
 have hp := pow_split hk
 have hlo : 4503599627370496 ≤ n * 2 ^ (52 - k) := by rw [← hp]; exact Nat.mul_le_mul_right _ h1
 have hhi : n * 2 ^ (52 - k) < 9007199254740992 := by
  have h3 : n * 2 ^ (52 - k) < 2 ^ (k + 1) * 2 ^ (52 - k) := Nat.mul_lt_mul_of_pos_right h2 (Nat.two_pow_pos _)
  rw [Nat.pow_succ, Nat.mul_assoc, Nat.mul_comm 2, ← Nat.mul_assoc, hp] at h3
  omega
 show double.nearest false n 0 = _
 unfold Format.nearest
 rw [if_neg hn, hl]
 simp only [lp, bn, ir, fb]
 have e1 : max ((0 : Int) + (k : Int) - ((52 : Nat) : Int)) (-1074) = (k : Int) - 52 := by omega
 rw [e1]
 have e2 : ((0 : Int) - ((k : Int) - 52)).toNat = 52 - k := by omega
 have e3 : (((k : Int) - 52) - 0).toNat = 0 := by omega
 have e4 : ((k : Int) - 52 - (-1074)).toNat = 1022 + k := by omega
 rw [e2, e3, e4, cut_none, Nat.shiftLeft_eq]
 unfold Format.word
 rw [if_neg (by simp)]
 exact Nat.min_eq_left (lin_a k _ hk hhi)
def bitsT (n : Nat) : Nat := if n = 0 then 0 else (1022 + n.log2) * 4503599627370496 + n * 2 ^ (52 - n.log2)
theorem log_lt {n : Nat} (hn : n ≠ 0) (h : n < 9007199254740992) : n.log2 ≤ 52 := by
 have := (Nat.log2_lt hn (k := 53)).2 (by simpa using h)
 omega
theorem write_time {n : Nat} (h : n < 9007199254740992) : double.write (.number false n 0) = bitsT n := by
 unfold bitsT
 by_cases hn : n = 0
 ·rw [if_pos hn, hn, write_zero]
  rfl
 ·rw [if_neg hn]
  obtain ⟨a, b⟩ := log2_of hn
  exact write_nat a b (log_lt hn h)
theorem bitsT_form {n : Nat} (hn : n ≠ 0) (h : n < 9007199254740992) : ∃ k f, k ≤ 52 ∧ n.log2 = k ∧ f < 4503599627370496 ∧ n * 2 ^ (52 - k) = 4503599627370496 + f ∧ bitsT n = (1023 + k) * 4503599627370496 + f := by
 obtain ⟨a, b⟩ := log2_of hn
 have hk := log_lt hn h
 have hp := pow_split hk
 have hlo : 4503599627370496 ≤ n * 2 ^ (52 - n.log2) := by rw [← hp]; exact Nat.mul_le_mul_right _ a
 have hhi : n * 2 ^ (52 - n.log2) < 9007199254740992 := by
  have h3 : n * 2 ^ (52 - n.log2) < 2 ^ (n.log2 + 1) * 2 ^ (52 - n.log2) := Nat.mul_lt_mul_of_pos_right b (Nat.two_pow_pos _)
  rw [Nat.pow_succ, Nat.mul_assoc, Nat.mul_comm 2, ← Nat.mul_assoc, hp] at h3
  omega
 refine ⟨n.log2, n * 2 ^ (52 - n.log2) - 4503599627370496, hk, rfl, by omega, by omega, ?_⟩
 unfold bitsT
 rw [if_neg hn]
 exact lin_b _ _ hlo
def timeD (b : Nat) : Int :=
 if b = 0 then 0 else
 if b / 9223372036854775808 % 2 = 1 ∨ b / 4503599627370496 % 2048 < 1023 ∨ 1075 < b / 4503599627370496 % 2048 then -1 else
 if (b % 4503599627370496 + 4503599627370496) % 2 ^ (1075 - b / 4503599627370496 % 2048) ≠ 0 then -1 else
 (((b % 4503599627370496 + 4503599627370496) / 2 ^ (1075 - b / 4503599627370496 % 2048) : Nat) : Int)
theorem timeD_bits {n : Nat} (h : n < 9007199254740992) : timeD (bitsT n) = n := by
 unfold timeD
 by_cases hn : n = 0
 ·subst hn
  rfl
 ·obtain ⟨k, f, hk, hl, hf, hm, hb⟩ := bitsT_form hn h
  have h0 : bitsT n ≠ 0 := by
   rw [hb]
   have : 1 * 4503599627370496 ≤ (1023 + k) * 4503599627370496 := Nat.mul_le_mul_right _ (by omega)
   omega
  have hk2 : (1023 + k) * 4503599627370496 ≤ 1075 * 4503599627370496 := Nat.mul_le_mul_right _ (by omega)
  have hd : bitsT n / 4503599627370496 = 1023 + k := by
   rw [hb, Nat.add_comm, Nat.add_mul_div_right _ _ (by omega), Nat.div_eq_of_lt hf, Nat.zero_add]
  have hr : bitsT n % 4503599627370496 = f := by
   rw [hb, Nat.add_comm, Nat.add_mul_mod_self_right, Nat.mod_eq_of_lt hf]
  have hs : bitsT n / 9223372036854775808 % 2 = 0 := by
   rw [Nat.div_eq_of_lt (by rw [hb]; omega)]
  have he : (1023 + k) % 2048 = 1023 + k := Nat.mod_eq_of_lt (by omega)
  rw [if_neg h0, hd, hr, hs, he, if_neg (by omega)]
  have hx : 1075 - (1023 + k) = 52 - k := by omega
  have hy : f + 4503599627370496 = n * 2 ^ (52 - k) := by omega
  rw [hx, hy, Nat.mul_mod_left, if_neg (by simp), Nat.mul_div_cancel _ (Nat.two_pow_pos _)]
theorem timeD_lt {b : Nat} : timeD b < 9007199254740992 := by
 unfold timeD
 split
 ·omega
 ·split
  ·omega
  ·split
   ·omega
   ·rename_i h1 h2 h3
    have : b % 4503599627370496 < 4503599627370496 := Nat.mod_lt _ (by omega)
    have h4 : (b % 4503599627370496 + 4503599627370496) / 2 ^ (1075 - b / 4503599627370496 % 2048) ≤ b % 4503599627370496 + 4503599627370496 := Nat.div_le_self _ _
    omega
theorem bits_timeD {b : Nat} (hb : b < 18446744073709551616) (h : 0 ≤ timeD b) : b = bitsT (timeD b).toNat := by
 by_cases h0 : b = 0
 ·subst h0
  rfl
 ·unfold timeD at h ⊢
  rw [if_neg h0] at h ⊢
  by_cases h1 : b / 9223372036854775808 % 2 = 1 ∨ b / 4503599627370496 % 2048 < 1023 ∨ 1075 < b / 4503599627370496 % 2048
  ·rw [if_pos h1] at h
   omega
  ·rw [if_neg h1] at h ⊢
   generalize he : b / 4503599627370496 % 2048 = e at h h1 ⊢
   by_cases h2 : (b % 4503599627370496 + 4503599627370496) % 2 ^ (1075 - e) ≠ 0
   ·rw [if_pos h2] at h
    omega
   ·rw [if_neg h2]
    have h3 : (b % 4503599627370496 + 4503599627370496) % 2 ^ (1075 - e) = 0 := by omega
    have hdiv := Nat.div_add_mod (b % 4503599627370496 + 4503599627370496) (2 ^ (1075 - e))
    rw [h3, Nat.add_zero] at hdiv
    generalize (b % 4503599627370496 + 4503599627370496) / 2 ^ (1075 - e) = n at hdiv ⊢
    show b = bitsT ((n : Int)).toNat
    rw [Int.toNat_natCast]
    have hf : b % 4503599627370496 < 4503599627370496 := Nat.mod_lt _ (by omega)
    have hk : 1023 + (e - 1023) = e := by omega
    have hx : 1075 - e = 52 - (e - 1023) := by omega
    rw [hx, Nat.mul_comm] at hdiv
    have hp := pow_split (show e - 1023 ≤ 52 by omega)
    have hlo : 2 ^ (e - 1023) ≤ n := by
     apply Nat.le_of_mul_le_mul_right _ (Nat.two_pow_pos (52 - (e - 1023)))
     omega
    have hhi : n < 2 ^ (e - 1023 + 1) := by
     apply Nat.lt_of_mul_lt_mul_right (a := 2 ^ (52 - (e - 1023)))
     rw [Nat.pow_succ, Nat.mul_assoc, Nat.mul_comm 2, ← Nat.mul_assoc, hp]
     omega
    have hl := log2_is hlo hhi
    unfold bitsT
    have hn : n ≠ 0 := by have := Nat.two_pow_pos (e - 1023); omega
    rw [if_neg hn, hl, hdiv]
    have hq : b / 4503599627370496 = e := by omega
    exact lin_c b e _ hq (by omega) rfl
end Nd
end Go.Proofs.YtobaldkipnhlpaaGreatDoor
namespace Go.Proofs.YtobaldkipnhlpaaGreatDoor
namespace Nd
open Ieee

def truncB (b : Nat) : Nat := double.write ((double.read b).integral .zero)
theorem read_word {k f : Nat} (hk : k ≤ 52) (hf : f < 4503599627370496) : double.read ((1023 + k) * 4503599627370496 + f) = .number false (4503599627370496 + f) ((k : Int) - 52) := by
 have h1 : 1023 * 4503599627370496 ≤ (1023 + k) * 4503599627370496 := Nat.mul_le_mul_right _ (by omega)
 have h2 : (1023 + k) * 4503599627370496 ≤ 1075 * 4503599627370496 := Nat.mul_le_mul_right _ (by omega)
 have hm : ((1023 + k) * 4503599627370496 + f) % 9223372036854775808 = (1023 + k) * 4503599627370496 + f := Nat.mod_eq_of_lt (by omega)
 have hd : ((1023 + k) * 4503599627370496 + f) / 9223372036854775808 = 0 := Nat.div_eq_of_lt (by omega)
 have hr : ((1023 + k) * 4503599627370496 + f) % 4503599627370496 = f := by
  rw [Nat.add_comm, Nat.add_mul_mod_self_right, Nat.mod_eq_of_lt hf]
 have hq : ((1023 + k) * 4503599627370496 + f) / 4503599627370496 = 1023 + k := by
  rw [Nat.add_comm, Nat.add_mul_div_right _ _ (by omega), Nat.div_eq_of_lt hf, Nat.zero_add]
 unfold Format.read
 simp only [sw, ir, bn, lp, hm, hd, hr, hq]
 rw [if_neg (by omega), if_pos (by omega)]
 have e : (-1074 + ((1023 + k - 1 : Nat) : Int)) = (k : Int) - 52 := by omega
 rw [e]
 rfl
theorem read_bitsT {n : Nat} (hn : n ≠ 0) (h : n < 9007199254740992) : double.read (bitsT n) = .number false (n * 2 ^ (52 - n.log2)) ((n.log2 : Int) - 52) := by
 obtain ⟨k, f, hk, hl, hf, hm, hb⟩ := bitsT_form hn h
 rw [hb, read_word hk hf, hl, hm]
theorem cut_pow {m j : Nat} (hj : j ≤ m.log2 + 2) : Toward.zero.cut false m j = m / 2 ^ j := by
 unfold Toward.cut
 have h : min j (m.log2 + 2) = j := by omega
 rw [h]
 simp [Nat.shiftLeft_eq]
theorem cut_low {m j : Nat} (h : m < 2 ^ j) : Toward.zero.cut false m j = 0 := by
 unfold Toward.cut
 have hlt : m < 2 ^ (min j (m.log2 + 2)) := by
  by_cases hj : j ≤ m.log2 + 2
  ·rw [Nat.min_eq_left hj]
   exact h
  ·rw [Nat.min_eq_right (by omega)]
   exact Nat.lt_trans Nat.lt_log2_self (Nat.pow_lt_pow_right (by omega) (by omega))
 simp [Nat.shiftLeft_eq, Nat.div_eq_of_lt hlt]
theorem trunc_word {k f : Nat} (hk : k ≤ 52) (hf : f < 4503599627370496) : (double.read ((1023 + k) * 4503599627370496 + f)).integral .zero = .number false ((4503599627370496 + f) / 2 ^ (52 - k)) 0 := by
 rw [read_word hk hf]
 have e1 : ((k : Int) - 52).toNat = 0 := by omega
 have e2 : (-((k : Int) - 52)).toNat = 52 - k := by omega
 have hl : (4503599627370496 + f).log2 = 52 := log2_is (by simp) (by simp; omega)
 show Datum.number false (Toward.zero.cut false ((4503599627370496 + f) <<< ((k : Int) - 52).toNat) (-((k : Int) - 52)).toNat) 0 = _
 rw [e1, e2, Nat.shiftLeft_zero, cut_pow (by rw [hl]; omega)]
theorem whole_bds {k f : Nat} (hk : k ≤ 52) (hf : f < 4503599627370496) : 2 ^ k ≤ (4503599627370496 + f) / 2 ^ (52 - k) ∧ (4503599627370496 + f) / 2 ^ (52 - k) < 2 ^ (k + 1) := by
 have hp := pow_split hk
 constructor
 ·rw [Nat.le_div_iff_mul_le (Nat.two_pow_pos _), hp]
  omega
 ·rw [Nat.div_lt_iff_lt_mul (Nat.two_pow_pos _), Nat.pow_succ, Nat.mul_assoc, Nat.mul_comm 2, ← Nat.mul_assoc, hp]
  omega
theorem order_same (a c : Nat) (p : Int) : Datum.order (.number false a p) (.number false c p) = some (compare (a : Int) (c : Int)) := by
 unfold Datum.order signed
 simp
theorem cmp_gt {a b : Int} (h : b < a) : compare a b = .gt := by
 unfold compare instOrdInt compareOfLessAndEq
 simp only
 rw [if_neg (by omega), if_neg (by omega)]
theorem cmp_lt {a b : Int} (h : a < b) : compare a b = .lt := by
 unfold compare instOrdInt compareOfLessAndEq
 simp only
 rw [if_pos h]
theorem cmp_le {a b : Int} (h : a ≤ b) : compare a b ≠ .gt := by
 rcases Int.lt_or_eq_of_le h with h | h
 ·rw [cmp_lt h]
  decide
 ·rw [h]
  simp
theorem read_zero : double.read 0 = .number false 0 (-1074) := by decide
theorem read_top : double.read 4845873199050653695 = .number false 9007199254740991 0 := by decide
theorem pos_zero {m : Nat} {p : Int} (hm : m ≠ 0) : Datum.order (.number false m p) (.number false 0 (-1074)) = some .gt := by
 unfold Datum.order signed
 have hs : m <<< (p - min p (-1074)).toNat ≠ 0 := by
  rw [Nat.shiftLeft_eq]
  exact Nat.mul_ne_zero hm (Nat.pos_iff_ne_zero.1 (Nat.two_pow_pos _))
 simp only [Bool.false_eq_true, if_false, Nat.zero_shiftLeft]
 generalize m <<< (p - min p (-1074)).toNat = q at hs
 rw [cmp_gt (by omega)]
theorem time_good {b : Nat} (hb : b < 18446744073709551616) (h : 0 ≤ timeD b) : truncB b = b ∧ double.order b b = some .eq ∧ (double.order b 0 == some .lt) = false ∧ (double.order b 4845873199050653695 == some .gt) = false ∧ floatToIntVal .f64 b .i64 = some (timeD b) := by
 have hlt := @timeD_lt b
 have hbt := bits_timeD hb h
 obtain ⟨n, hn⟩ : ∃ n : Nat, timeD b = (n : Int) := ⟨(timeD b).toNat, by omega⟩
 rw [hn] at hbt hlt ⊢
 rw [Int.toNat_natCast] at hbt
 subst hbt
 clear hb h hn
 have hn9 : n < 9007199254740992 := by omega
 by_cases h0 : n = 0
 ·subst h0
  have e0 : bitsT 0 = 0 := rfl
  rw [e0]
  exact ⟨by decide, by decide, by decide, by decide, by decide⟩
 ·obtain ⟨k, f, hk, hl, hf, hm, hbf⟩ := bitsT_form h0 hn9
  have hq : (4503599627370496 + f) / 2 ^ (52 - k) = n := by rw [← hm, Nat.mul_div_cancel _ (Nat.two_pow_pos _)]
  have hi : (double.read (bitsT n)).integral .zero = .number false n 0 := by rw [hbf, trunc_word hk hf, hq]
  have hr : double.read (bitsT n) = .number false (4503599627370496 + f) ((k : Int) - 52) := by rw [hbf, read_word hk hf]
  refine ⟨?_, ?_, ?_, ?_, ?_⟩
  ·unfold truncB
   rw [hi, write_time hn9]
  ·unfold Format.order
   rw [hr, order_same]
   simp
  ·unfold Format.order
   rw [hr, read_zero, pos_zero (by omega)]
   rfl
  ·unfold Format.order
   rw [hr, read_top]
   unfold Datum.order signed
   have e1 : min ((k : Int) - 52) 0 = (k : Int) - 52 := by omega
   have e2 : ((k : Int) - 52 - ((k : Int) - 52)).toNat = 0 := by omega
   have e3 : ((0 : Int) - ((k : Int) - 52)).toNat = 52 - k := by omega
   simp only [e1, e2, e3, Bool.false_eq_true, if_false, Nat.shiftLeft_zero]
   have hle : 4503599627370496 + f ≤ 9007199254740991 <<< (52 - k) := by
    rw [Nat.shiftLeft_eq, ← hm]
    exact Nat.mul_le_mul_right _ (by omega)
   have := cmp_le (a := ((4503599627370496 + f : Nat) : Int)) (b := ((9007199254740991 <<< (52 - k) : Nat) : Int)) (by omega)
   simpa using this
  ·unfold floatToIntVal
   have ht : (FloatKind.f64.decode (bitsT n)).toInt .zero = some ((n : Nat) : Int) := by
    show Datum.toInt .zero (double.read (bitsT n)) = _
    unfold Datum.toInt
    rw [hi]
    simp [signed]
   rw [ht]
   show (if IntKind.i64.min ≤ (n : Int) ∧ (n : Int) ≤ IntKind.i64.max then some (n : Int) else none) = _
   rw [if_pos]
   have e1 : IntKind.i64.min = -9223372036854775808 := by decide
   have e2 : IntKind.i64.max = 9223372036854775807 := by decide
   rw [e1, e2]
   omega
theorem time_bad {b : Nat} (hb : b < 18446744073709551616) (hz : b ≠ 9223372036854775808) (hf : finB b = true) (h : timeD b < 0) : (double.order (truncB b) b == some .eq) = false ∨ (double.order b 0 == some .lt) = true ∨ (double.order b 4845873199050653695 == some .gt) = true := by
 have hfin : b % 9223372036854775808 < 9218868437227405312 := of_decide_eq_true hf
 have h0 : b ≠ 0 := by
  intro e
  subst e
  exact absurd h (by decide)
 unfold timeD at h
 rw [if_neg h0] at h
 by_cases hs : b / 9223372036854775808 % 2 = 1
 ·refine .inr (.inl ?_)
  obtain ⟨m, p, e, hm, hp, _⟩ := read_fin hfin
  have hb2 : b % 9223372036854775808 ≠ 0 := by omega
  have hm0 : m ≠ 0 := fun x => hb2 (hm.1 x)
  have hsg : (b / 9223372036854775808 % 2 == 1) = true := by rw [hs]; rfl
  unfold Format.order
  rw [e, hsg, read_zero]
  unfold Datum.order signed
  have hsh : m <<< (p - min p (-1074)).toNat ≠ 0 := by
   rw [Nat.shiftLeft_eq]
   exact Nat.mul_ne_zero hm0 (Nat.pos_iff_ne_zero.1 (Nat.two_pow_pos _))
  simp only [if_true, Bool.false_eq_true, if_false, Nat.zero_shiftLeft]
  generalize m <<< (p - min p (-1074)).toNat = q at hsh
  rw [cmp_lt (by omega)]
  rfl
 ·have hb63 : b < 9223372036854775808 := by omega
  have hmod : b % 9223372036854775808 = b := Nat.mod_eq_of_lt hb63
  have hsg : (b / 9223372036854775808 % 2 == 1) = false := by rw [Nat.div_eq_of_lt hb63]; rfl
  rw [hmod] at hfin
  obtain ⟨E, F, hF, hbE⟩ : ∃ E F, F < 4503599627370496 ∧ b = E * 4503599627370496 + F := ⟨b / 4503599627370496, b % 4503599627370496, Nat.mod_lt _ (by omega), by have := Nat.div_add_mod b 4503599627370496; omega⟩
  have hEd : b / 4503599627370496 = E := by
   rw [hbE, Nat.add_comm, Nat.add_mul_div_right _ _ (by omega), Nat.div_eq_of_lt hF, Nat.zero_add]
  have hEr : b % 4503599627370496 = F := by
   rw [hbE, Nat.add_comm, Nat.add_mul_mod_self_right, Nat.mod_eq_of_lt hF]
  have hE : E < 2047 := by
   apply Classical.byContradiction
   intro hc
   have : 2047 * 4503599627370496 ≤ E * 4503599627370496 := Nat.mul_le_mul_right _ (by omega)
   omega
  have hEm : E % 2048 = E := Nat.mod_eq_of_lt (by omega)
  rw [hEd, hEr, hEm] at h
  by_cases h1 : E < 1023
  ·refine .inl ?_
   have hb1 : b < 1023 * 4503599627370496 := by
    have : E * 4503599627370496 ≤ 1022 * 4503599627370496 := Nat.mul_le_mul_right _ (by omega)
    omega
   obtain ⟨m, p, e, hm, hp, hc⟩ := read_fin (b := b) (by rw [hmod]; exact hfin)
   rw [hmod] at hm hc
   rw [hsg] at e
   have hm0 : m ≠ 0 := fun x => h0 (hm.1 x)
   have hpp : p ≤ -53 ∧ m < 9007199254740992 := by
    rcases hc with hc | hc
    ·omega
    ·refine ⟨?_, hc.1⟩
     unfold Format.read at e
     simp only [sw, ir, bn, lp, hmod, hEd, hEr] at e
     split at e
     ·injection e with _ _ e3
      omega
     ·injection e with _ _ e3
      omega
   have hi : (double.read b).integral .zero = .number false 0 0 := by
    rw [e]
    have e1 : p.toNat = 0 := by omega
    show Datum.number false (Toward.zero.cut false (m <<< p.toNat) (-p).toNat) 0 = _
    rw [e1, Nat.shiftLeft_zero, cut_low]
    calc m < 2 ^ 53 := by have := hpp.2; omega
     _ ≤ 2 ^ (-p).toNat := Nat.pow_le_pow_right (by omega) (by omega)
   have ht : truncB b = 0 := by
    unfold truncB
    rw [hi, write_zero]
    rfl
   rw [ht]
   unfold Format.order
   rw [e, read_zero]
   unfold Datum.order signed
   have hsh : m <<< (p - min (-1074) p).toNat ≠ 0 := by
    rw [Nat.shiftLeft_eq]
    exact Nat.mul_ne_zero hm0 (Nat.pos_iff_ne_zero.1 (Nat.two_pow_pos _))
   simp only [Bool.false_eq_true, if_false, Nat.zero_shiftLeft]
   generalize m <<< (p - min (-1074) p).toNat = q at hsh
   rw [cmp_lt (by omega)]
   rfl
  ·by_cases h2 : 1075 < E
   ·refine .inr (.inr ?_)
    have hr : double.read b = .number false (4503599627370496 + F) ((E : Int) - 1075) := by
     unfold Format.read
     simp only [sw, ir, bn, lp, hmod, hEd, hEr, hsg]
     have : 1023 * 4503599627370496 ≤ E * 4503599627370496 := Nat.mul_le_mul_right _ (by omega)
     rw [if_neg (by omega), if_pos hfin]
     have : (-1074 + ((E - 1 : Nat) : Int)) = (E : Int) - 1075 := by omega
     rw [this]
    unfold Format.order
    rw [hr, read_top]
    unfold Datum.order signed
    have e1 : min ((E : Int) - 1075) 0 = 0 := by omega
    simp only [e1, Bool.false_eq_true, if_false, Int.sub_zero, Int.toNat_zero, Nat.shiftLeft_zero]
    have hsh : 9007199254740992 ≤ (4503599627370496 + F) <<< ((E : Int) - 1075).toNat := by
     rw [Nat.shiftLeft_eq]
     have : 2 ^ 1 ≤ 2 ^ ((E : Int) - 1075).toNat := Nat.pow_le_pow_right (by omega) (by omega)
     calc 9007199254740992 = 4503599627370496 * 2 ^ 1 := by rfl
      _ ≤ (4503599627370496 + F) * 2 ^ ((E : Int) - 1075).toNat := Nat.mul_le_mul (by omega) this
    rw [cmp_gt (by omega)]
    rfl
   ·refine .inl ?_
    obtain ⟨k, hk, rfl⟩ : ∃ k, k ≤ 52 ∧ E = 1023 + k := ⟨E - 1023, by omega, by omega⟩
    rw [if_neg (by omega)] at h
    have hx : 1075 - (1023 + k) = 52 - k := by omega
    rw [hx] at h
    have hne : (F + 4503599627370496) % 2 ^ (52 - k) ≠ 0 := by
     intro hc
     rw [if_neg (fun h => h hc)] at h
     have := Int.natCast_nonneg ((F + 4503599627370496) / 2 ^ (52 - k))
     omega
    obtain ⟨a, c⟩ := whole_bds hk hF
    generalize hn : (4503599627370496 + F) / 2 ^ (52 - k) = n at a c
    have hnb : n < 9007199254740992 := by
     have : 2 ^ (k + 1) ≤ 2 ^ 53 := Nat.pow_le_pow_right (by omega) (by omega)
     omega
    have hn0 : n ≠ 0 := by have := Nat.two_pow_pos k; omega
    have hi : truncB b = bitsT n := by
     unfold truncB
     rw [hbE, trunc_word hk hF, hn, write_time hnb]
    have hlk : n.log2 = k := log2_is a c
    have hrd := read_bitsT hn0 hnb
    rw [hlk] at hrd
    rw [hi]
    unfold Format.order
    rw [hrd, hbE, read_word hk hF, order_same]
    have hneq : n * 2 ^ (52 - k) ≠ 4503599627370496 + F := by
     intro hc
     apply hne
     rw [Nat.add_comm, ← hc, Nat.mul_mod_left]
    rcases Nat.lt_or_gt_of_ne hneq with h | h
    ·rw [cmp_lt (by omega)]
     rfl
    ·rw [cmp_gt (by omega)]
     rfl
end Nd
end Go.Proofs.YtobaldkipnhlpaaGreatDoor
namespace Go.Proofs.YtobaldkipnhlpaaGreatDoor
open Go.RowKit Ref3
namespace Cl
open Nd
def textsOf : List Tr → Nat → Sum Nat (List Txt)
 | [], _ => .inr []
 | t :: r, i => match t with
  | .text s => match textsOf r (i + 1) with
   | .inl j => .inl j
   | .inr l => .inr (s :: l)
  | _ => .inl i
def twiceAt : List Txt → List Txt → Nat → Option Nat
 | _, [], _ => none
 | p, s :: r, i => if inB p s = true then some i else twiceAt (p ++ [s]) r (i + 1)
abbrev Trl := Int × Txt
def path (k : Nat) : Txt := 47 :: key k
def pathAt (k i : Nat) : Txt := path k ++ 47 :: Lib.itoa (i : Int)
def textK (k : Nat) : Tr → Sum Trl Txt
 | .text s => .inr s
 | _ => .inl (5, path k)
def timeK (k : Nat) : Tr → Sum Trl Int
 | .num x => if 0 ≤ timeD x then .inr (timeD x) else .inl (250, path k)
 | _ => .inl (5, path k)
def listK (k : Nat) (alone : Bool) : Tr → Sum Trl (List Txt)
 | .text s => if alone = true then .inr [s] else .inl (5, path k)
 | .list l => match textsOf l 0 with
  | .inl j => .inl (5, pathAt k j)
  | .inr ts => match twiceAt [] ts 0 with
   | some i => .inl (101, pathAt k i)
   | none => .inr ts
 | _ => .inl (5, path k)
def setK (c : C) (k : Nat) (t : Tr) : Sum Trl C :=
 match k with
 | 0 => (match textK 0 t with | .inl e => .inl e | .inr s => .inr { c with about := s })
 | 1 => (match timeK 1 t with | .inl e => .inl e | .inr s => .inr { c with at_ := s })
 | 2 => (match textK 2 t with | .inl e => .inl e | .inr s => .inr { c with by_ := s })
 | 3 => (match listK 3 true t with | .inl e => .inl e | .inr s => .inr { c with for_ := s })
 | 4 => (match timeK 4 t with | .inl e => .inl e | .inr s => .inr { c with from_ := s })
 | 5 => (match textK 5 t with | .inl e => .inl e | .inr s => .inr { c with id_ := s })
 | 6 => (match listK 6 false t with | .inl e => .inl e | .inr s => .inr { c with may_ := s })
 | _ => (match timeK 7 t with | .inl e => .inl e | .inr s => .inr { c with until_ := s })
def cZero : C := ⟨[], [], 0, [], [], 0, [], [], 0⟩
def withHas (c : C) (k : Nat) : C := { c with has := c.has ++ [key k] }
def readK (t : Tr) (k : Nat) (st : C × List Trl) : C × List Trl :=
 match onT (key k) t with
 | none => st
 | some v => match setK (withHas st.1 k) k v with
  | .inr c => (c, st.2)
  | .inl e => (withHas st.1 k, st.2 ++ [e])
def readAt (t : Tr) : Nat → C × List Trl
 | 0 => (cZero, [])
 | k + 1 => readK t k (readAt t k)
def readC (t : Tr) : C × List Trl := readAt t 8

/-! ### the object that claims -/
theorem textsOf_map : ∀ (l : List Txt) (i : Nat), textsOf (l.map .text) i = .inr l
 | [], _ => rfl
 | s :: r, i => by
  rw [List.map_cons, textsOf, textsOf_map r (i + 1)]
theorem setK_0 (c : C) (t : Tr) : setK c 0 t = (match textK 0 t with | .inl e => .inl e | .inr s => .inr { c with about := s }) := rfl
theorem setK_1 (c : C) (t : Tr) : setK c 1 t = (match timeK 1 t with | .inl e => .inl e | .inr s => .inr { c with at_ := s }) := rfl
theorem setK_2 (c : C) (t : Tr) : setK c 2 t = (match textK 2 t with | .inl e => .inl e | .inr s => .inr { c with by_ := s }) := rfl
theorem setK_3 (c : C) (t : Tr) : setK c 3 t = (match listK 3 true t with | .inl e => .inl e | .inr s => .inr { c with for_ := s }) := rfl
theorem setK_4 (c : C) (t : Tr) : setK c 4 t = (match timeK 4 t with | .inl e => .inl e | .inr s => .inr { c with from_ := s }) := rfl
theorem setK_5 (c : C) (t : Tr) : setK c 5 t = (match textK 5 t with | .inl e => .inl e | .inr s => .inr { c with id_ := s }) := rfl
theorem setK_6 (c : C) (t : Tr) : setK c 6 t = (match listK 6 false t with | .inl e => .inl e | .inr s => .inr { c with may_ := s }) := rfl
theorem setK_7 (c : C) (t : Tr) : setK c 7 t = (match timeK 7 t with | .inl e => .inl e | .inr s => .inr { c with until_ := s }) := rfl
end Cl
end Go.Proofs.YtobaldkipnhlpaaGreatDoor
