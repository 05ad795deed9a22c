/-
  Walks of packages cmp and utf: Compare of two right texts. The library's sort over keys that are right texts. The map of keys to their places, in plain terms. Walks of package node: the end of object. Walks of package node: object behind its map. Walks of package node: object's map. Walks of package node: object. Walks of package node: every step.
-/
import Derived.Test.YtbajkglacfheiaaGreatDoorPA5
import Derived.Test.YtbajkglacfheiaaGreatDoorPA1
import Derived.Test.YtbajkglacfheiaaGreatDoorPA6
import Derived.Test.YtbajkglacfheiaaGreatDoorPA2
import Derived.Test.YtbajkglacfheiaaGreatDoorPA7
import Derived.BigQuiet
import Derived.Maps.OwnSet
import Derived.Maps.OwnOps
import Derived.LoopTactic
import Derived.Deep.AppendLies
import Derived.RegionTactic
import Derived.Deep.RegionLaw
set_option linter.unusedVariables false
set_option linter.unusedSimpArgs false
set_option maxRecDepth 100000
set_option maxHeartbeats 16000000
namespace Go.Proofs.YtbajkglacfheiaaGreatDoor
open Go.RowKit Mem
namespace Nd

theorem nan_int (x : Int) (w : World) : Calls Tryz.prog 191 #[.int .i64 x] w fun e w' => e = .returned (.bool false) ∧ w = w' := by
 go_enter Tryz.func191, Tryz.ntmps191
 go_wp2
 go_ret
 exact ⟨rfl, rfl⟩
theorem nan_byte (x : Int) (w : World) : Calls Tryz.prog 192 #[.int .u8 x] w fun e w' => e = .returned (.bool false) ∧ w = w' := by
 go_enter Tryz.func192, Tryz.ntmps192
 go_wp2
 go_ret
 exact ⟨rfl, rfl⟩
def sgn (x y : Int) : Int := if x < y then -1 else if y < x then 1 else 0
theorem cmp_int (x y : Int) (w : World) : Calls Tryz.prog 154 #[.int .i64 x, .int .i64 y] w fun e w' => e = .returned (.int .i64 (sgn x y)) ∧ w = w' := by
 rcases Int.lt_trichotomy x y with h | h | h
 ·have hs : Hid (sgn x y = -1) := Lib.hid (by unfold sgn; rw [if_pos h])
  go_enter Tryz.func154, Tryz.ntmps154
  go_wp2_with (first | ((with_reducible refine (nan_int x _).mono ?_); rintro e w' ⟨rfl, rfl⟩) | ((with_reducible refine (nan_int y _).mono ?_); rintro e w' ⟨rfl, rfl⟩))
  go_ret
  exact ⟨by rw [hs.out]; rfl, rfl⟩
 ·subst h
  have hs : Hid (sgn x x = 0) := Lib.hid (by unfold sgn; simp)
  go_enter Tryz.func154, Tryz.ntmps154
  go_wp2_with (first | ((with_reducible refine (nan_int x _).mono ?_); rintro e w' ⟨rfl, rfl⟩))
  go_ret
  exact ⟨by rw [hs.out]; rfl, rfl⟩
 ·have hs : Hid (sgn x y = 1) := Lib.hid (by unfold sgn; rw [if_neg (by omega), if_pos h])
  have h2 : ¬ x < y := by omega
  go_enter Tryz.func154, Tryz.ntmps154
  go_wp2_with (first | ((with_reducible refine (nan_int x _).mono ?_); rintro e w' ⟨rfl, rfl⟩) | ((with_reducible refine (nan_int y _).mono ?_); rintro e w' ⟨rfl, rfl⟩))
  go_ret
  exact ⟨by rw [hs.out]; rfl, rfl⟩
theorem cmp_byte (x y : Int) (hne : ¬ x = y) (w : World) : Calls Tryz.prog 156 #[.int .u8 x, .int .u8 y] w fun e w' => e = .returned (.int .i64 (sgn x y)) ∧ w = w' := by
 rcases Int.lt_trichotomy x y with h | h | h
 ·have hs : Hid (sgn x y = -1) := Lib.hid (by unfold sgn; rw [if_pos h])
  go_enter Tryz.func156, Tryz.ntmps156
  go_wp2_with (first | ((with_reducible refine (nan_byte x _).mono ?_); rintro e w' ⟨rfl, rfl⟩) | ((with_reducible refine (nan_byte y _).mono ?_); rintro e w' ⟨rfl, rfl⟩))
  go_ret
  exact ⟨by rw [hs.out]; rfl, rfl⟩
 ·exact absurd h hne
 ·have hs : Hid (sgn x y = 1) := Lib.hid (by unfold sgn; rw [if_neg (by omega), if_pos h])
  have h2 : ¬ x < y := by omega
  go_enter Tryz.func156, Tryz.ntmps156
  go_wp2_with (first | ((with_reducible refine (nan_byte x _).mono ?_); rintro e w' ⟨rfl, rfl⟩) | ((with_reducible refine (nan_byte y _).mono ?_); rintro e w' ⟨rfl, rfl⟩))
  go_ret
  exact ⟨by rw [hs.out]; rfl, rfl⟩
theorem high_any (x : Int) (w : World) : Calls Tryz.prog 155 #[.int .u8 x] w fun e w' => e = .returned (.bool (decide (240 ≤ x))) ∧ w = w' := by
 go_enter Tryz.func155, Tryz.ntmps155
 go_wp2
 go_ret
 exact ⟨rfl, rfl⟩
theorem cmp_app (p a b : Tx) : cmpL (p ++ a) (p ++ b) = cmpL a b := by
 induction p with
 | nil => rfl
 | cons x p ih => simp [cmpL, ih]
theorem cmp_split {a b : Tx} {k : Nat} (h : a.take k = b.take k) : cmpL a b = cmpL (a.drop k) (b.drop k) := by
 have ha := List.take_append_drop k a
 have hb := List.take_append_drop k b
 rw [← h] at hb
 calc cmpL a b = cmpL (a.take k ++ a.drop k) (a.take k ++ b.drop k) := by rw [ha, hb]
  _ = _ := cmp_app _ _ _
theorem cmp_end_a {a b : Tx} {k : Nat} (h : a.take k = b.take k) (ha : k = a.length) (hb : k ≤ b.length) : cmpL a b = sgn a.length b.length := by
 rw [cmp_split h, List.drop_eq_nil_of_le (by omega)]
 unfold sgn
 rcases Nat.lt_or_eq_of_le hb with hlt | he
 ·rw [List.drop_eq_getElem_cons hlt]
  rw [if_pos (by omega)]
  rfl
 ·rw [List.drop_eq_nil_of_le (by omega), if_neg (by omega), if_neg (by omega)]
  rfl
theorem cmp_end_b {a b : Tx} {k : Nat} (h : a.take k = b.take k) (hb : k = b.length) (ha : k < a.length) : cmpL a b = sgn a.length b.length := by
 rw [cmp_split h, List.drop_eq_nil_of_le (show b.length ≤ k by omega), List.drop_eq_getElem_cons ha]
 unfold sgn
 rw [if_neg (by omega), if_pos (by omega)]
 rfl
theorem cmp_at {a b : Tx} {k : Nat} (h : a.take k = b.take k) (h1 : k < a.length) (h2 : k < b.length) (hne : ¬ a[k] = b[k]) : cmpL a b = if ord a[k] < ord b[k] then -1 else 1 := by
 rw [cmp_split h, List.drop_eq_getElem_cons h1, List.drop_eq_getElem_cons h2]
 unfold cmpL
 rw [if_neg hne]
theorem ord_val (x y : UInt8) (hne : ¬ (x.toNat : Int) = (y.toNat : Int)) : (if ord x < ord y then (-1 : Int) else 1) = if 240 ≤ (x.toNat : Int) ∧ ¬ 240 ≤ (y.toNat : Int) ∧ 238 ≤ (y.toNat : Int) then -1 else if 240 ≤ (y.toNat : Int) ∧ ¬ 240 ≤ (x.toNat : Int) ∧ 238 ≤ (x.toNat : Int) then 1 else sgn x.toNat y.toNat := by
 have hx := x.toNat_lt
 have hy := y.toNat_lt
 unfold ord sgn
 split <;> split <;> (try split) <;> (try split) <;> (try split) <;> (try split) <;> (try split) <;> omega
theorem compare_right (a b : Tx) (w : World) (ha : rightB a = true) (hb : rightB b = true) (hla : a.length ≤ 1099511627776) (hlb : b.length ≤ 1099511627776) :
  Calls Tryz.prog 121 #[.string ⟨a.toArray⟩, .string ⟨b.toArray⟩] w fun e w' => e = .returned (.int .i64 (cmpL a b)) ∧ BelowD w.heap.size w w' := by
 have HA := Lib.hid ha
 have HB := Lib.hid hb
 clear ha hb
 go_enter Tryz.func121, Tryz.ntmps121
 go_wp2_with fail
 ((with_reducible refine (right_txD a _ (by omega)).mono ?_); rw [HA.out]; rintro e w1 ⟨rfl, hb1⟩)
 go_wp2_with fail
 ((with_reducible refine (right_txD b _ (by omega)).mono ?_); rw [HB.out]; rintro e w2 ⟨rfl, hb2⟩)
 have hbw := hb1.trans (hb2.mono hb1.size)
 clear hb1 hb2
 go_wp2
 obtain ⟨w3, hw3⟩ : ∃ w3, w3 = w2 := ⟨w2, rfl⟩
 subst hw3
 go_loopw [7] (fun c7 wr => ∃ k : Nat, k ≤ a.length ∧ k ≤ b.length ∧ c7 = .int .i64 k ∧ a.take k = b.take k ∧ ∃ q, wr = w3.drewN q) (fun c7 _ => a.length - (intOf c7).toNat)
 case atStart => exact ⟨0, by omega, by omega, rfl, rfl, 0, rfl⟩
 case round =>
  obtain ⟨k, hka, hkb, rfl, hpre, q, rfl⟩ := hrel
  have HP := Lib.hid hpre
  clear hpre
  by_cases h1 : k < a.length
  ·by_cases h2 : k < b.length
   ·obtain ⟨x, hx⟩ : ∃ x, a[k] = x := ⟨_, rfl⟩
    obtain ⟨y, hy⟩ : ∃ y, b[k] = y := ⟨_, rfl⟩
    have hx' : ((⟨a.toArray⟩ : ByteArray)[k]'(show k < a.toArray.size by simpa using h1)) = x := hx
    have hy' : ((⟨b.toArray⟩ : ByteArray)[k]'(show k < b.toArray.size by simpa using h2)) = y := hy
    by_cases h3 : x = y
    ·have hpre2 : a.take (k + 1) = b.take (k + 1) := by
      rw [List.take_succ_eq_append_getElem h1, List.take_succ_eq_append_getElem h2, HP.out, hx, hy, h3]
     have HP2 := Lib.hid hpre2
     clear hpre2 hx hy
     subst h3
     go_upto_region 9 with fail
     go_quiet (fail)
     go_wp2
     go_roundw
     case rel => exact ⟨k + 1, by omega, by omega, by go_num, HP2.out, q + nq, rfl⟩
     case measure => simp [intOf]; omega
    ·have h4 : ((x.toNat : Int) == (y.toNat : Int)) = false := by
      simp only [beq_eq_false_iff_ne, ne_eq]
      intro e
      exact h3 (UInt8.toNat_inj.1 (by omega))
     have h5 : ((k : Int) == (a.length : Int)) = false := by simp only [beq_eq_false_iff_ne, ne_eq]; omega
     have h6 : ((k : Int) == (b.length : Int)) = false := by simp only [beq_eq_false_iff_ne, ne_eq]; omega
     have HR := Lib.hid (cmp_at HP.out h1 h2 (by rw [hx, hy]; exact h3))
     rw [hx, hy] at HR
     have hne : ¬ (x.toNat : Int) = (y.toNat : Int) := by intro e; exact h3 (UInt8.toNat_inj.1 (by omega))
     clear hx hy
     go_upto_region 9 with fail
     go_quiet (fail)
     go_wp2_with fail
     clear HP
     obtain ⟨w4, hw4⟩ : ∃ w4, w3.drewN (q + nq) = w4 := ⟨_, rfl⟩
     have hb4 : BelowD w.heap.size w w4 := hw4 ▸ hbw.drewN _
     rw [hw4]
     clear hw4 hbw nq
     go_quiet (fail)
     have hb5 : BelowD w.heap.size w (w4.drewN nq) := hb4.drewN _
     generalize w4.drewN nq = w5 at hb5 ⊢
     clear hb4
     obtain ⟨X, hX⟩ : ∃ X, (x.toNat : Int) = X := ⟨_, rfl⟩
     obtain ⟨Y, hY⟩ : ∃ Y, (y.toNat : Int) = Y := ⟨_, rfl⟩
     have HO := Lib.hid (ord_val x y hne)
     rw [hX, hY] at HO hne ⊢
     clear hX hY hx' hy' h4 h3
     have HQ := Lib.hid (HR.out.trans HO.out)
     have hXn := high_any X
     have hYn := high_any Y
     obtain ⟨bx, hbx⟩ : ∃ bx, decide (240 ≤ X) = bx := ⟨_, rfl⟩
     obtain ⟨by_, hby⟩ : ∃ bx, decide (240 ≤ Y) = bx := ⟨_, rfl⟩
     obtain ⟨cx, hcx⟩ : ∃ bx, decide (238 ≤ X) = bx := ⟨_, rfl⟩
     obtain ⟨cy, hcy⟩ : ∃ bx, decide (238 ≤ Y) = bx := ⟨_, rfl⟩
     rw [hbx] at hXn
     rw [hby] at hYn
     have HXn := Lib.hid hXn
     have HYn := Lib.hid hYn
     replace HQ : Hid (cmpL a b = if bx = true ∧ by_ = false ∧ cy = true then -1 else if by_ = true ∧ bx = false ∧ cx = true then 1 else sgn X Y) := Lib.hid (by rw [HQ.out, ← hbx, ← hby, ← hcx, ← hcy]; simp)
     clear hXn hYn hbx hby HO HR
     cases bx <;> cases by_ <;> cases cx <;> cases cy
     all_goals
      go_wp2_with (first | ((with_reducible refine (HXn.out _).mono ?_); rintro e w' ⟨rfl, rfl⟩) | ((with_reducible refine (HYn.out _).mono ?_); rintro e w' ⟨rfl, rfl⟩) | ((with_reducible refine (cmp_byte X Y hne _).mono ?_); rintro e w' ⟨rfl, rfl⟩))
      go_ret
      exact ⟨by rw [HQ.out]; rfl, hb5⟩
   ·have HR := Lib.hid (cmp_end_b HP.out (by omega) (by omega))
    have h5 : ((k : Int) == (a.length : Int)) = false := by simp only [beq_eq_false_iff_ne, ne_eq]; omega
    have h6 : ((k : Int) == (b.length : Int)) = true := by simp only [beq_iff_eq]; omega
    go_upto_region 9 with fail
    go_quiet (fail)
    go_wp2_with fail
    ((with_reducible refine (cmp_int _ _ _).mono ?_); rintro e w' ⟨rfl, rfl⟩)
    go_wp2
    go_ret
    exact ⟨by rw [HR.out]; rfl, hbw.drewN _⟩
  ·have HR := Lib.hid (cmp_end_a HP.out (by omega) (by omega))
   have h5 : ((k : Int) == (a.length : Int)) = true := by simp only [beq_iff_eq]; omega
   go_upto_region 9 with fail
   go_quiet (fail)
   go_wp2_with fail
   ((with_reducible refine (cmp_int _ _ _).mono ?_); rintro e w' ⟨rfl, rfl⟩)
   go_wp2
   go_ret
   exact ⟨by rw [HR.out]; rfl, hbw.drewN _⟩
end Nd
end Go.Proofs.YtbajkglacfheiaaGreatDoor
namespace Go.Proofs.YtbajkglacfheiaaGreatDoor
open Go.RowKit Mem
namespace Nd

abbrev KeyT := { t : Tx // rightB t = true ∧ t.length ≤ 1099511627776 }
instance : Inhabited KeyT := ⟨⟨[], by constructor; exact rfl; simp⟩⟩
def encK (x : KeyT) : Value := txV x.1
def cfK (x y : KeyT) : Int := cmpL x.1 y.1
theorem swoK : Go.Sort.SWO (Go.Proofs.ltOf cfK) where
 irrefl x := swoL.irrefl x.1
 trans x y z := swoL.trans x.1 y.1 z.1
 ntrans x y z := swoL.ntrans x.1 y.1 z.1
theorem keys_of (ks : List Tx) (h : ∀ k ∈ ks, rightB k = true ∧ k.length ≤ 1099511627776) : ∃ d : List KeyT, d.map (·.1) = ks := by
 refine ⟨ks.pmap (fun k hk => ⟨k, hk⟩) h, ?_⟩
 rw [List.map_pmap]
 simp
theorem sort_map (d : List KeyT) : (d.mergeSort fun x y => !(Go.Proofs.ltOf cfK) y x).map (·.1) = sortK (d.map (·.1)) :=
 List.map_mergeSort fun a _ b _ => rfl
theorem enters_compare : ∀ args w, (callFunc 121 args).run Tryz.prog w = .ok (.enter 121 args) w := fun args w => by kernel_rfl
theorem sort_keys (blk cap : Nat) (ks : List Tx) (cur : Array Value) (w : World) (hr : ∀ k ∈ ks, rightB k = true ∧ k.length ≤ 1099511627776) (hn : ks.length ≤ 1099511627776) (hB : Blk w blk 9 cur) (hc : ∀ (j : Nat) (x : Value), (ks.map txV)[j]? = some x → cur[j]? = some x) :
  Calls Tryz.prog 120 #[.slice (some ⟨blk, 0, none⟩) ks.length cap, .func (.func 121) #[] #[]] w fun e w' => e = .returned (.tuple #[]) ∧ (∃ cur', Blk w' blk 9 cur' ∧ cur'.size = cur.size ∧ ∀ (j : Nat) (x : Value), ((sortK ks).map txV)[j]? = some x → cur'[j]? = some x) ∧ w.grownBy w' (some blk) := by
 obtain ⟨d, hd⟩ := keys_of ks hr
 have hlen : d.length = ks.length := by rw [← hd]; simp
 have hH : Go.Sort.Holds encK w blk 0 d.toArray := by
  intro j hj
  have hj' : j < d.length := by simpa using hj
  refine ⟨?_, hB.frozen _⟩
  rw [hB.cell, Nat.zero_add]
  apply hc
  rw [← hd]
  simp [hj', encK, txV]
 have hcmp : Go.Proofs.CmpLays1 Tryz.prog 121 #[] encK cfK blk 0 d.toArray.size w := by
  intro m os dk hs x y
  refine (compare_right x.1 y.1 _ x.2.1 y.2.1 x.2.2 y.2.2).mono ?_
  rintro e w' ⟨he, hb⟩
  obtain ⟨q, os', hg⟩ := hb.grow
  exact ⟨he, q, os', hg⟩
 have h := Tryz.slices_SortFunc_total encK (fun _ => rfl) cfK swoK 121 #[] blk 0 cap d.toArray w enters_compare hcmp hH hB.lt (by simp; omega) (fun x y h1 h2 => Subtype.ext (ltL_one _ _ h1 h2))
 have e1 : d.toArray.size = ks.length := by simp [hlen]
 rw [e1] at h
 refine h.mono ?_
 rintro e w' ⟨he, n, os, rfl⟩
 have hsm := sort_map d
 rw [hd] at hsm
 have hlt := hB.lt
 have hsl : (d.mergeSort fun x y => !(Go.Proofs.ltOf cfK) y x).length = ks.length := by rw [List.length_mergeSort, hlen]
 generalize (d.mergeSort fun x y => !(Go.Proofs.ltOf cfK) y x) = d' at hsm hsl ⊢
 refine ⟨he, ⟨Go.Sort.putCells encK 0 d'.toArray cur, ?_, by simp [Go.Sort.putCells], ?_⟩, ?_⟩
 ·unfold Go.Proofs.sortWorld
  show (Go.Sort.grow _ os).heap[blk]? = _
  rw [Go.Sort.heap_grow_old _ os (by simp [Go.Sort.putRow, Go.Sort.mapBlock, Go.Sort.ahead]; exact hlt)]
  have hB' : w.heap[blk]? = some (.cells cur 9 (0, 0)) := hB
  simp [Go.Sort.putRow, Go.Sort.mapBlock, Go.Sort.ahead, Array.getElem?_modify, hB', Go.Sort.onCells]
 ·intro j x hx
  rw [← hsm] at hx
  have hj : j < d'.length := by
   have := (List.getElem?_eq_some_iff.1 hx).1
   simpa using this
  have hjc : j < cur.size := by
   have h2 : (ks.map txV)[j]? = some (txV (ks[j]'(by omega))) := by simp [show j < ks.length by omega]
   exact (Array.getElem?_eq_some_iff.1 (hc j _ h2)).1
  simp [hj] at hx
  simp [Go.Sort.putCells, hj, hjc, ← hx, encK]
 ·refine ⟨rfl, rfl, rfl, by simp [Go.Proofs.sortWorld, Go.Sort.putRow, Go.Sort.mapBlock, Go.Sort.ahead], ?_⟩
  intro k hk hne
  unfold Go.Proofs.sortWorld
  rw [Go.Sort.heap_grow_old _ os (by simp [Go.Sort.putRow, Go.Sort.mapBlock, Go.Sort.ahead]; exact hk)]
  have hkb : blk ≠ k := fun e => hne (by rw [e])
  simp [Go.Sort.putRow, Go.Sort.mapBlock, Go.Sort.ahead, Array.getElem?_modify, hkb]
end Nd
end Go.Proofs.YtbajkglacfheiaaGreatDoor
namespace Go.Proofs.YtbajkglacfheiaaGreatDoor
open Go.RowKit Mem
open Go.Maps (Keyed string_keyed)
namespace Nd

def klit (t : Tx) : Lit := .string t
def mapD (ks : List Tx) : Nat → DataW Unit
 | 0 => .map []
 | k + 1 => (mapD ks k).put (klit (ks.getD k [])) (.lit (.int .i64 (k : Int)))
theorem isKey (t : Tx) : WideAt.IsKeyLit (klit t) := by trivial
theorem mapD_isMap (ks : List Tx) : ∀ k, Maps.IsMap (mapD ks k)
 | 0 => Maps.isMap_empty
 | k + 1 => (mapD_isMap ks k).put _ _
theorem klit_ne {a b : Tx} (h : a ≠ b) : klit a ≠ klit b := by
 intro e
 unfold klit at e
 injection e with e
 exact h e
theorem mapD_has (ks : List Tx) (t : Tx) : ∀ k, k ≤ ks.length → Maps.has (mapD ks k) (klit t) = decide (t ∈ ks.take k)
 | 0, _ => by simp [mapD]; rfl
 | k + 1, h => by
  have hk : k < ks.length := by omega
  have hg : ks.getD k [] = ks[k] := by rw [List.getD_eq_getElem?_getD, List.getElem?_eq_getElem hk]; rfl
  rw [List.take_succ_eq_append_getElem hk]
  unfold mapD
  rw [hg]
  by_cases e : t = ks[k]
  ·rw [← e, Maps.has_put_same (mapD_isMap ks k) (isKey t)]
   exact (decide_eq_true (List.mem_append.2 (.inr (List.mem_singleton.2 rfl)))).symm
  ·rw [Maps.has_put_other (klit_ne e), mapD_has ks t k (by omega)]
   have hi : t ∈ ks.take k ++ [ks[k]] ↔ t ∈ ks.take k := by
    rw [List.mem_append, List.mem_singleton]
    exact ⟨fun h => h.resolve_right e, .inl⟩
   exact decide_eq_decide.2 hi.symm
theorem mapD_at (ks : List Tx) (hn : ks.Nodup) (z : DataW Unit) : ∀ k, k ≤ ks.length → ∀ i (hi : i < k) (h : i < ks.length), (mapD ks k).atKey (klit ks[i]) z = .lit (.int .i64 (i : Int))
 | 0, _, i, hi, _ => by omega
 | k + 1, h, i, hi, hil => by
  have hk : k < ks.length := by omega
  have hg : ks.getD k [] = ks[k] := by rw [List.getD_eq_getElem?_getD, List.getElem?_eq_getElem hk]; rfl
  unfold mapD
  rw [hg]
  by_cases e : i = k
  ·subst e
   rw [Maps.atKey_put_same (mapD_isMap ks i) (isKey _)]
  ·have hne : ks[i] ≠ ks[k] := fun he => by
    have := List.pairwise_iff_getElem.1 hn i k hil hk (by omega)
    exact this he
   rw [Maps.atKey_put_other (klit_ne hne)]
   exact mapD_at ks hn z k (by omega) i (by omega) hil
theorem str_law : Keyed Tryz.prog 9 := string_keyed Tryz.underlying9
theorem zero_int (w : World) : (zeroValue 3).run Tryz.prog w = .ok (.int .i64 0) w := by kernel_rfl
theorem key_of (t : Tx) (h : t.length ≤ 1099511627776) : keyOf Tryz.prog 9 (.string ⟨t.toArray⟩) = some (klit t) :=
 WideMaps.keyOf_string_mk Tryz.underlying9 (s := ⟨t.toArray⟩) (by show t.toArray.size ≤ maxLen; unfold maxLen; simp; omega)
end Nd
end Go.Proofs.YtbajkglacfheiaaGreatDoor
namespace Go.Proofs.YtbajkglacfheiaaGreatDoor
open Go.RowKit Mem
namespace Nd

def nextOf : Code → Code
 | .seq _ t => t
 | _ => .skip
noncomputable def objT1 : Code := nextOf (Tryz.f80.body.getD .skip)
noncomputable def objT2 : Code := nextOf (nextOf (nextOf objT1))
noncomputable def objT3 : Code := nextOf (nextOf (nextOf objT2))
def ObjP (p : Nat) (ty : TypeId) (B : Nat) (X : Nat → Prop) (l : List Tr) (v : Value) (ks : List Tx) (w : World) (e : Ending) (w' : World) : Prop :=
 (∃ n, (objT rightB ks l).1 = n ∧ n ≠ 0 ∧ e = .panicked [{ v := .iface 113 (.int .i64 n), recovered := false }] ∧ Below w.heap.size w w') ∨
 ((objT rightB ks l).1 = 0 ∧ e = .returned (.tuple #[]) ∧ ∃ v' xs', Rw p ty B X (objT rightB ks l).2 v' xs' w' ∧ (v'.ownBlock = v.ownBlock ∨ ∀ g, v'.ownBlock = some g → w.heap.size ≤ g) ∧ Below p w w' ∧ KeepV p v w w')
structure ObjS (p : Nat) (ty : TypeId) (B : Nat) (X : Nat → Prop) (l : List Tr) (v : Value) (xs : List Value) (ks : List Tx) (w : World) (A2 K : Option Addr) (q2 d Mb Ob : Nat) (w0 : World) : Prop where
 rw : Rw p ty B X l v xs w
 bel : Below w.heap.size w w0
 xlt : ∀ k, X k → k < w.heap.size
 len : ks.length ≤ l.length
 max : l.length ≤ 65536
 kr : ks.all rightB = true
 kd : ks.Nodup
 kl : ∀ k ∈ ks, k.length ≤ 1099511627776
 row : Row (Sx B X v) w0 56 (.slice A2 ks.length q2) (xs.drop (l.length - ks.length))
 keys : Row (fun k => Sx B X v k ∧ k ≠ Ob) w0 9 (.slice K ks.length d) ((sortK ks).map txV)
 map : w0.ownsMap Tryz.prog 9 (plainElem Tryz.prog 3) Mb ks.length (mapD ks ks.length)
 obj : Blk w0 Ob 274 #[.int .i64 ((mkObj ks (l.drop (l.length - ks.length))).nodes : Int), .int .i64 ((mkObj ks (l.drop (l.length - ks.length))).bytes : Int), .int .i64 ((mkObj ks (l.drop (l.length - ks.length))).depth : Int), .slice K ks.length d, .slice none 0 0]
 new : w.heap.size ≤ Ob
def itsOf (ks : List Tx) (ivs : List Value) : List Value := (sortK ks).map fun k => ivs.getD (ks.idxOf k) .nilIface
structure ObjL (ks : List Tx) (ivs : List Value) (n1 b1 e1 : Int) (K : Option Addr) (d Ob : Nat) (w0 : World) (k : Nat) (A9 : Option Addr) (q9 : Nat) (wr : World) : Prop where
 gr : w0.grownBy wr (some Ob)
 obj : Blk wr Ob 274 #[.int .i64 n1, .int .i64 b1, .int .i64 e1, .slice K ks.length d, .slice A9 k q9]
 own : wr.ownsRow w0.heap.size 56 1 (.slice A9 k q9) k ((itsOf ks ivs).take k)
theorem ObjL.next {ks : List Tx} {ivs : List Value} {n1 b1 e1 : Int} {K : Option Addr} {d Ob k : Nat} {w0 wr w9 : World} {A9 : Option Addr} {q9 g c : Nat} {x : Value} {o : Obj} (h : ObjL ks ivs n1 b1 e1 K d Ob w0 k A9 q9 wr) (hOb : Ob < w0.heap.size) (hx : (itsOf ks ivs)[k]? = some x)
  (hown : w9.ownsRow w0.heap.size 56 1 (.slice (some ⟨g, 0, none⟩) (k + 1) c) (k + 1) ((itsOf ks ivs).take k ++ [x])) (hgr : (wr.alloc o).drew.grownBy w9 (Value.slice A9 k q9).ownBlock) (hat : (Value.slice A9 k q9).ownBlock = some g ∨ g = wr.heap.size + 1) :
  ObjL ks ivs n1 b1 e1 K d Ob w0 (k + 1) (some ⟨g, 0, none⟩) c (w9.setCell ⟨Ob, 4, none⟩ (.slice (some ⟨g, 0, none⟩) (k + 1) c)) := by
 have hvb := h.own.lt
 have hgs := h.gr.size
 have hgB : w0.heap.size ≤ g := by
  rcases hat with e | e
  ·exact (hvb g e).1
  ·omega
 have h1 : w0.grownBy w9 (some Ob) := grown_join (grown_drew (grown_alloc h.gr o)) hgr (.inr fun q e => (hvb q e).1)
 have hB9 : Blk w9 Ob 274 #[.int .i64 n1, .int .i64 b1, .int .i64 e1, .slice K ks.length d, .slice A9 k q9] :=
  ((h.obj.alloc o).drew).only hgr (by intro e; have := (hvb Ob e.symm).1; omega)
 refine ⟨grown_put h1 4 _, hB9.put 4 _, ?_⟩
 have ht : (itsOf ks ivs).take (k + 1) = (itsOf ks ivs).take k ++ [x] := by
  have hk := (List.getElem?_eq_some_iff.1 hx)
  obtain ⟨hk, he⟩ := hk
  rw [List.take_succ_eq_append_getElem hk, he]
 rw [ht]
 exact hown.kept (grown_put (grown_refl w9 (some Ob)) 4 _) (.inr (by intro e; injection e with e; have : g = Ob := e; omega))
theorem its_at {ks : List Tx} {ivs : List Value} (hl : ivs.length = ks.length) {k : Nat} (hk : k < ks.length) :
  ∃ t x, (sortK ks)[k]? = some t ∧ t ∈ ks ∧ (itsOf ks ivs)[k]? = some x ∧ ks.idxOf t < ks.length ∧ ivs[ks.idxOf t]? = some x := by
 have hk2 : k < (sortK ks).length := by rw [sortK_len]; exact hk
 have hm : (sortK ks)[k] ∈ ks := (sortK_perm ks).mem_iff.1 (List.getElem_mem hk2)
 have hi : ks.idxOf (sortK ks)[k] < ks.length := List.idxOf_lt_length_of_mem hm
 refine ⟨_, ivs[ks.idxOf (sortK ks)[k]]'(by omega), List.getElem?_eq_getElem hk2, hm, ?_, hi, List.getElem?_eq_getElem (by omega)⟩
 unfold itsOf
 rw [List.getElem?_map, List.getElem?_eq_getElem hk2]
 simp [List.getElem?_eq_getElem (show ks.idxOf (sortK ks)[k] < ivs.length by omega)]
theorem RdL.ifaces {S : Nat → Prop} {w : World} {l : List Tr} {vs : List Value} (h : RdL S w l vs) : ∀ u ∈ vs, ∃ tx ux, u = .iface tx ux := by
 intro u hu
 obtain ⟨j, hj, rfl⟩ := List.getElem_of_mem hu
 have hl := h.len
 have hr := h.at (t := l[j]'(by omega)) (List.getElem?_eq_getElem (by omega)) (List.getElem?_eq_getElem hj)
 generalize l[j]'(by omega) = t at hr
 cases t <;> unfold RdT at hr
 ·exact ⟨_, _, hr⟩
 ·exact ⟨_, _, hr⟩
 ·exact ⟨_, _, hr⟩
 ·exact ⟨_, _, hr⟩
 ·obtain ⟨g, A, c, vs, h, _⟩ := hr
  exact ⟨_, _, h⟩
 ·obtain ⟨g, B, d, A, c, vs, h, _⟩ := hr
  exact ⟨_, _, h⟩
theorem idx_at {ks : List Tx} {t : Tx} (hm : t ∈ ks) : ∃ h : ks.idxOf t < ks.length, ks[ks.idxOf t] = t :=
 ⟨List.idxOf_lt_length_of_mem hm, List.getElem_idxOf (List.idxOf_lt_length_of_mem hm)⟩
theorem obj_tail3 (p : Nat) (ty : TypeId) (B : Nat) (X : Nat → Prop) (l : List Tr) (v : Value) (xs : List Value) (ks : List Tx) (w : World) (A2 K : Option Addr) (q2 d Mb Ob : Nat) (w0 : World) (hS : ObjS p ty B X l v xs ks w A2 K q2 d Mb Ob w0) (z1 z2 z3 z4 z5 z7 z8 z9 z10 z11 z14 z15 z16 z17 z18 z19 z20 z21 z22 z23 z24 z25 z26 z27 z28 z29 z30 z31 z32 z33 z34 z35 z36 z37 z38 z39 z40 z41 z42 z43 z44 z45 z46 z47 z48 z49 z50 z51 z52 z53 z54 z55 z56 z57 z58 z59 z60 z61 z62 z63 z64 z65 z66 z67 z68 z69 z70 z71 z72 z73 z74 z75 z76 z77 z78 z79 z80 z81 z82 z83 z84 z85 z86 z87 z88 z89 z90 z91 z92 z93 z94 z95 z96 z97 : Value) :
  Code.wp Tryz.prog objT3 (bodyPost Tryz.prog Tryz.f80 (ObjP p ty B X l v ks w)) { tmps := ((.pointer (some ⟨p, 0, none⟩)) :: z1 :: z2 :: z3 :: z4 :: z5 :: (.map (some Mb)) :: z7 :: z8 :: z9 :: z10 :: z11 :: (.slice A2 ks.length q2) :: (.pointer (some ⟨Ob, 0, none⟩)) :: z14 :: z15 :: z16 :: z17 :: z18 :: z19 :: z20 :: z21 :: z22 :: z23 :: z24 :: z25 :: z26 :: z27 :: z28 :: z29 :: z30 :: z31 :: z32 :: z33 :: z34 :: z35 :: z36 :: z37 :: z38 :: z39 :: z40 :: z41 :: z42 :: z43 :: z44 :: z45 :: z46 :: z47 :: z48 :: z49 :: z50 :: z51 :: z52 :: z53 :: z54 :: z55 :: z56 :: z57 :: z58 :: z59 :: z60 :: z61 :: z62 :: z63 :: z64 :: z65 :: z66 :: z67 :: z68 :: z69 :: z70 :: z71 :: z72 :: z73 :: z74 :: z75 :: z76 :: z77 :: z78 :: z79 :: z80 :: z81 :: z82 :: z83 :: z84 :: z85 :: z86 :: z87 :: z88 :: z89 :: z90 :: z91 :: z92 :: z93 :: z94 :: z95 :: z96 :: z97 :: []).toArray, defers := [] } w0 := by
 obtain ⟨i0, hi0, hz0, hz1, hz2⟩ := info_parts info_item
 have HS := Lib.hid hS
 have hOb := hS.obj.lt
 have hln := hS.len
 have hmx := hS.max
 have o3 : w0.cell? ⟨Ob, 3, none⟩ = some (.slice K ks.length d) := hS.obj.cell 3
 have hxl : (xs.drop (l.length - ks.length)).length = ks.length := by
  have := hS.rw.own.1
  rw [List.length_drop]
  omega
 have HXL := Lib.hid hxl
 clear hS hxl
 conv => arg 2; whnf
 go_wp2
 go_loopw [72] (fun c72 wr => ∃ (k : Nat) (A9 : Option Addr) (q9 : Nat), k ≤ ks.length ∧ c72 = .int .i64 k ∧ ObjL ks (xs.drop (l.length - ks.length)) ((mkObj ks (l.drop (l.length - ks.length))).nodes : Int) ((mkObj ks (l.drop (l.length - ks.length))).bytes : Int) ((mkObj ks (l.drop (l.length - ks.length))).depth : Int) K d Ob w0 k A9 q9 wr) (fun c72 _ => ks.length - (intOf c72).toNat)
 case atStart => exact ⟨0, none, 0, by omega, rfl, grown_refl _ _, HS.out.obj, World.ownsRow_nil _ _ _ _⟩
 case round =>
  obtain ⟨k, A9, q9, hk, rfl, hL⟩ := hrel
  have HL := Lib.hid hL
  have hsz := hL.gr.size
  have hob := hL.obj.lt
  have a4 : wr.cell? ⟨Ob, 4, none⟩ = some (.slice A9 k q9) := hL.obj.cell 4
  have f4 := hL.obj.frozen 4
  have hvb := hL.own.lt
  have HVB := Lib.hid hvb
  clear hL hvb
  by_cases hlt : k < ks.length
  ·obtain ⟨t, x, ht, htm, hx, hix, hiv⟩ := its_at HXL.out hlt
   obtain ⟨hix2, hti⟩ := idx_at htm
   have htl := HS.out.kl t htm
   have hkeys : ∃ gk ok, K = some ⟨gk, ok, none⟩ ∧ wr.cell? ⟨gk, ok + k, none⟩ = some (.string ⟨t.toArray⟩) := by
    obtain ⟨A', c', e', h'⟩ := HS.out.keys
    injection e' with e1 e2 e3
    rcases h' with ⟨h', _⟩ | ⟨g, o, cur, hA, hSg, hBg, hc⟩
    ·have : (sortK ks).length = 0 := by have := congrArg List.length h'; simpa using this
     rw [sortK_len] at this
     omega
    ·refine ⟨g, o, by rw [e1, hA], ?_⟩
     have hh : Blk wr g 9 cur := hBg.only HL.out.gr (by intro e; injection e with e; exact hSg.2 e)
     rw [hh.cell]
     apply hc
     rw [List.getElem?_map, ht]
     rfl
   obtain ⟨gk, ok, rfl, hkc⟩ := hkeys
   have hrow : ∃ g2 o2, A2 = some ⟨g2, o2, none⟩ ∧ wr.cell? ⟨g2, o2 + ks.idxOf t, none⟩ = some x := by
    obtain ⟨A', c', e', h'⟩ := HS.out.row
    injection e' with e1 e2 e3
    rcases h' with ⟨h', _⟩ | ⟨g, o, cur, hA, hSg, hBg, hc⟩
    ·have := HXL.out
     rw [h'] at this
     simp at this
     omega
    ·refine ⟨g, o, by rw [e1, hA], ?_⟩
     have hh : Blk wr g 56 cur := hBg.only HL.out.gr (by
      intro e
      injection e with e
      subst e
      have h1 := hBg.symm.trans HS.out.obj
      injection h1 with h1
      injection h1 with _ h1
      exact absurd h1 (by decide))
     rw [hh.cell]
     exact hc _ _ hiv
   obtain ⟨g2, o2, rfl, hic⟩ := hrow
   have hmb : Mb ≠ Ob := by
    rintro rfl
    obtain ⟨es, clock, hb, _⟩ := HS.out.map
    have := hb.symm.trans HS.out.obj
    injection this with this
    cases this
   have hmr := (HS.out.map.kept HL.out.gr (by intro e; injection e with e; exact hmb e)).drew
   obtain ⟨c, hrun, hat, _⟩ := hmr.lookup_int str_law Tryz.underlying269 Tryz.underlying3 (zero_int wr.drew) (key_of t htl)
   have hcx : c = ((ks.idxOf t : Nat) : Int) := by
    have h1 := mapD_at ks HS.out.kd (.lit (.int .i64 0)) ks.length (Nat.le_refl _) _ hix2 hix2
    rw [hti] at h1
    rw [h1] at hat
    injection hat with hat
    injection hat with _ hat
    exact hat.symm
   subst hcx
   obtain ⟨tx, ux, rfl⟩ := (HS.out.rw.rd.drop (l.length - ks.length)).ifaces x (List.mem_of_getElem? hiv)
   have hone : (Value.iface tx ux).oneCell' = true := rfl
   have HB3 := Lib.hid (HL.out.obj.alloc (.cells #[.iface tx ux] 56))
   have ha1 : (wr.alloc (.cells #[.iface tx ux] 56)).drew.cell? ⟨Ob, 4, none⟩ = some (.slice A9 k q9) := HB3.out.drew.cell 4
   have hf1 := HB3.out.drew.frozen 4
   have HX := Lib.hid hx
   have HT := Lib.hid (And.intro ht htm)
   have hgp : some Ob ≠ (Value.slice A9 k q9).ownBlock := by intro e; have := (HVB.out Ob e.symm).1; omega
   clear ht htm hx hiv hti hat hmr
   generalize ks.idxOf t = ix at *
   go_wp2_with fail
   go_region_law ((refine step_append_lies _ (by rfl) _ _ _ (by rfl) w0.heap.size 56 i0 _ 1 16 Tryz.underlying114 hi0 hz0 hz1 hz2 (by rfl) (by omega) _ k ((itsOf ks (xs.drop (l.length - ks.length))).take k) (by rfl) (HL.out.own.alloc _).drew ⟨wr.heap.size, 0, none⟩ 1 1 [.iface tx ux] (by rfl) (by rfl) (one_new _ _ _) (one_cell _ hone) (by omega) (by unfold maxLen; omega) (by omega) (by simp; omega) (wr.heap.size + 1) (by simp) ?_; intro g9 c9 w9 hown9 hgr9 hat9 hlt9; have hq1 : w9.cell? ⟨Ob, 4, none⟩ = some (.slice A9 k q9) := (HB3.out.drew.only hgr9 hgp).cell 4; have hq2 := (HB3.out.drew.only hgr9 hgp).frozen 4))
   all_goals
    have hL2 := HL.out.next hOb HX.out hown9 hgr9 hat9
    clear hown9 hgr9 hq1 hq2 hat9
    go_wp2
    go_roundw
    case rel => exact ⟨k + 1, _, _, by omega, by go_num, hL2⟩
    case measure => simp [intOf]; omega
  ·have hkn : k = ks.length := by omega
   subst hkn
   have hitl : (itsOf ks (xs.drop (l.length - ks.length))).length = ks.length := by unfold itsOf; rw [List.length_map, sortK_len]
   have hbw : Below w.heap.size w wr := HS.out.bel.trans (below_of_grown HL.out.gr HS.out.new HS.out.bel.size)
   have hRw : Rw p ty B X l v xs wr := HS.out.rw.below hbw
   have hSOb : Sx B X v Ob := ⟨by have := HS.out.rw.le; have := HS.out.new; omega, fun hx => by have := HS.out.xlt Ob hx; have := HS.out.new; omega, fun e => by have := (HS.out.rw.vlt Ob e.symm).2; have := HS.out.new; omega⟩
   have hrd : RdT (Sx B X v) wr (mkObj ks (l.drop (l.length - ks.length))) (.iface 271 (.pointer (some ⟨Ob, 0, none⟩))) := by
    have hO := HL.out.obj
    have hown := HL.out.own
    rw [List.take_of_length_le (by omega)] at hown
    have hl1 : ((sortK ks).map fun k => (l.drop (l.length - ks.length)).getD (ks.idxOf k) .null).length = ks.length := by rw [List.length_map, sortK_len]
    unfold mkObj
    refine new_obj (K := K) (d := d) (A := A9) (c := q9) (vs := itsOf ks (xs.drop (l.length - ks.length))) ?_ ?_ ?_ Ob hSOb ?_
    ·rw [sortK_len]
     exact HS.out.keys.move fun j hj hs => ⟨hs.1, HL.out.gr.block j hj (by intro e; injection e with e; exact hs.2 e)⟩
    ·rw [hl1]
     refine (row_of_own hown).mono fun j hj => ?_
     have hj2 := hown.lt j hj
     have h1 := HS.out.bel.size
     exact ⟨by have := HS.out.rw.le; omega, fun hx => by have := HS.out.xlt j hx; omega, fun e => by have := (HS.out.rw.vlt j e.symm).2; omega⟩
    ·refine (rdl_iff _ _ _ _).2 ⟨by rw [hl1, hitl], fun j t' u hj hu => ?_⟩
     have hjn : j < ks.length := by have := (List.getElem?_eq_some_iff.1 hj).1; omega
     obtain ⟨t, x, ht, htm, hx, hix, hiv⟩ := its_at HXL.out hjn
     rw [hx] at hu
     injection hu with hu
     subst hu
     rw [List.getElem?_map, ht] at hj
     injection hj with hj
     have hil : ks.idxOf t < (l.drop (l.length - ks.length)).length := by rw [List.length_drop]; omega
     have hj' : (l.drop (l.length - ks.length))[ks.idxOf t]? = some t' := by
      rw [List.getElem?_eq_getElem hil, ← hj]
      simp only [List.getD_eq_getElem?_getD, List.getElem?_eq_getElem hil, Option.getD_some]
     exact (hRw.rd.drop (l.length - ks.length)).at hj' hiv
    ·rw [sortK_len, hl1]
     exact hO
   have HM := Lib.hid (fun fuel nm hnm => method_obj fuel Ob wr _ _ _ nm hnm (HL.out.obj.cell 0) (HL.out.obj.cell 1) (HL.out.obj.cell 2))
   have hwi := fit_within (t := mkObj ks (l.drop (l.length - ks.length)))
   have HRw := Lib.hid hRw
   have HRD := Lib.hid hrd
   have HWI := Lib.hid hwi
   have HBW := Lib.hid hbw
   have HIL := Lib.hid hitl
   clear hRw hrd hwi hbw hitl hSOb a4 f4
   cases hf : (mkObj ks (l.drop (l.length - ks.length))).fit with
   | true =>
    have HF := Lib.hid hf
    clear hf
    have hobt := objT_0 HS.out.kr HS.out.kd HS.out.len HF.out
    have HOT := Lib.hid hobt
    clear hobt
    go_wp2_with fail
    ((with_reducible refine (group_ok ks.length _ _ _ _ _ HRw.out hln (by omega) HM.out (HWI.out.trans HF.out) rfl).mono ?_); rintro e w5 ⟨rfl, hP⟩)
    obtain ⟨v5, xs5, hR5, hob5, hb5, hk5⟩ := hP.rw HRw.out hln HRD.out HF.out
    have hfin : ObjP p ty B X l v ks w (.returned (.tuple #[])) w5 := by
     refine .inr ⟨by rw [HOT.out], rfl, v5, xs5, by rw [HOT.out]; exact hR5, ?_, (HBW.out.mono (by have := HS.out.rw.lt; have := HS.out.rw.le; omega)).trans hb5, ?_⟩
     ·rcases hob5 with h | h
      ·exact .inl h
      ·exact .inr fun g hg => by have := h g hg; have := HBW.out.size; omega
     ·intro j hj h1 h2
      exact (hk5 j (by have := HBW.out.size; omega) h1 h2).trans (HBW.out.block j hj)
    clear hP hR5 hob5 hb5 hk5
    go_wp2
    go_end0
    exact hfin
   | false =>
    have HF := Lib.hid hf
    clear hf
    have hobt := objT_3 HS.out.kr HS.out.kd HS.out.len HF.out
    have HOT := Lib.hid hobt
    clear hobt
    go_wp2_with fail
    ((with_reducible refine (group_long _ _ _ _ _ _ _ _ HM.out (HWI.out.trans HF.out)).mono ?_); rintro e w5 ⟨rfl, hb5⟩)
    have hfin : ObjP p ty B X l v ks w (.panicked [{ v := .iface 113 (.int .i64 3), recovered := false }]) w5 :=
     .inl ⟨3, by rw [HOT.out], by decide, rfl, HBW.out.trans (hb5.mono HBW.out.size)⟩
    go_wp2
    exact ⟨rfl, hfin⟩
end Nd
end Go.Proofs.YtbajkglacfheiaaGreatDoor
namespace Go.Proofs.YtbajkglacfheiaaGreatDoor
open Go.RowKit Mem
namespace Nd

def RdK (w : World) (v : Value) (ks : List Tx) : Prop := ∃ A c, v = .slice A ks.length c ∧ (ks = [] ∨ ∃ g o, A = some ⟨g, o, none⟩ ∧ ∀ (j : Nat) (t : Tx), ks[j]? = some t → w.cell? ⟨g, o + j, none⟩ = some (txV t))
theorem RdK.below {w w' : World} {v : Value} {ks : List Tx} (h : RdK w v ks) (hb : Below w.heap.size w w') : RdK w' v ks := by
 obtain ⟨A, c, hv, h⟩ := h
 refine ⟨A, c, hv, ?_⟩
 rcases h with h | ⟨g, o, hA, hc⟩
 ·exact .inl h
 ·refine .inr ⟨g, o, hA, fun j t ht => ?_⟩
  have h1 := hc j t ht
  have hlt : g < w.heap.size := World.block_lt_of_cell? w _ h1
  exact ((old hb).1 g _ hlt).trans h1
theorem clone_keys (v : Value) (ks : List Tx) (w : World) (hR : RdK w v ks) (hn : ks.length ≤ 1099511627776) :
  Calls Tryz.prog 119 #[v] w fun e w' => ∃ v', e = .returned v' ∧ w'.ownsRow w.heap.size 9 1 v' ks.length (ks.map txV) ∧ Below w.heap.size w w' := by
 obtain ⟨A, c, rfl, h⟩ := hR
 rcases A with _ | a
 ·rcases h with rfl | ⟨g, o, h, _⟩
  ·refine (Tryz.slices_Clone_string_nil 0 c w).mono ?_
   rintro e w' ⟨rfl, rfl⟩
   exact ⟨_, rfl, World.ownsRow_nil _ _ _ _, Below.refl _ _⟩
  ·cases h
 ·rcases h with rfl | ⟨g, o, h, hc⟩
  ·refine (Tryz.slices_Clone_string_zero a c w).mono ?_
   rintro e w' ⟨v', rfl, ho, _, hb⟩
   exact ⟨v', rfl, ho, hb⟩
  ·injection h with h
   subst h
   refine (Tryz.slices_Clone_string g o ks.length c (ks.map fun t => ⟨t.toArray⟩) w (by simp) (by omega) ?_).mono ?_
   ·intro j hj
    have hj' : j < ks.length := by simpa using hj
    rw [hc j ks[j] (List.getElem?_eq_getElem hj'), List.getD_eq_getElem?_getD, List.getElem?_map, List.getElem?_eq_getElem hj']
    rfl
   ·rintro e w' ⟨v', rfl, ho, _, hb⟩
    refine ⟨v', rfl, ?_, hb⟩
    have e1 : ((ks.map fun t => (⟨t.toArray⟩ : ByteArray)).take ks.length).map Value.string = ks.map txV := by
     rw [List.take_of_length_le (by simp), List.map_map]
     rfl
    rw [e1] at ho
    exact ho
theorem sortK_nil : sortK [] = [] := by simp [sortK]
theorem sort_own (v : Value) (base : Nat) (ks : List Tx) (W : World) (ho : W.ownsRow base 9 1 v ks.length (ks.map txV)) (hr : ∀ k ∈ ks, rightB k = true ∧ k.length ≤ 1099511627776) (hn : ks.length ≤ 1099511627776) :
  Calls Tryz.prog 120 #[v, .func (.func 121) #[] #[]] W fun e w' => e = .returned (.tuple #[]) ∧ Row (fun k => v.ownBlock = some k) w' 9 v ((sortK ks).map txV) ∧ W.grownBy w' v.ownBlock := by
 have none : ks = [] → ∀ A c, v = .slice A 0 c → Calls Tryz.prog 120 #[v, .func (.func 121) #[] #[]] W fun e w' => e = .returned (.tuple #[]) ∧ W = w' := by
  rintro rfl A c rfl
  exact (Tryz.slices_SortFunc_none (α := Unit) A c _ W).mono fun e w' h => ⟨h.1, h.2.symm⟩
 have hrow := row_of_own ho
 rcases ho.2 with ⟨rfl, h0⟩ | ⟨g, cap, cur, rfl, _, hg, hn1, hc, hs, ht⟩
 ·have hk : ks = [] := List.length_eq_zero_iff.1 h0
  refine (none hk Option.none 0 rfl).mono ?_
  rintro e w' ⟨rfl, rfl⟩
  subst hk
  rw [sortK_nil]
  exact ⟨rfl, hrow, grown_refl _ _⟩
 ·by_cases hk : ks = []
  ·refine (none hk (some ⟨g, 0, Option.none⟩) cap (by rw [hk]; rfl)).mono ?_
   rintro e w' ⟨rfl, rfl⟩
   subst hk
   rw [sortK_nil]
   exact ⟨rfl, hrow, grown_refl _ _⟩
  ·refine (sort_keys g cap ks cur W hr hn hg ?_).mono ?_
   ·intro j x hx
    rw [← ht, List.getElem?_take] at hx
    split at hx
    ·simpa using hx
    ·cases hx
   ·rintro e w' ⟨rfl, ⟨cur', hB', _, hc'⟩, hgr⟩
    refine ⟨rfl, ⟨some ⟨g, 0, Option.none⟩, cap, by rw [List.length_map, sortK_len], .inr ⟨g, 0, cur', rfl, rfl, hB', fun j x hx => by rw [Nat.zero_add]; exact hc' j x hx⟩⟩, hgr⟩
theorem obj_tail2_few (p : Nat) (ty : TypeId) (B : Nat) (X : Nat → Prop) (l : List Tr) (v : Value) (xs : List Value) (ks : List Tx) (w : World) (kv : Value) (Mb : Nat) (w0 : World) (hR : Rw p ty B X l v xs w) (hb : Below w.heap.size w w0) (hkv : ∃ A c, kv = .slice A ks.length c) (hkr : ks.all rightB = true) (hkd : ks.Nodup) (hmx : ks.length ≤ 1099511627776) (hl : l.length < ks.length) (z2 z3 z4 z5 z8 z9 z10 z11 z12 z13 z14 z15 z16 z17 z18 z19 z20 z21 z22 z23 z24 z25 z26 z27 z28 z29 z30 z31 z32 z33 z34 z35 z36 z37 z38 z39 z40 z41 z42 z43 z44 z45 z46 z47 z48 z49 z50 z51 z52 z53 z54 z55 z56 z57 z58 z59 z60 z61 z62 z63 z64 z65 z66 z67 z68 z69 z70 z71 z72 z73 z74 z75 z76 z77 z78 z79 z80 z81 z82 z83 z84 z85 z86 z87 z88 z89 z90 z91 z92 z93 z94 z95 z96 z97 : Value) :
  Code.wp Tryz.prog objT2 (bodyPost Tryz.prog Tryz.f80 (ObjP p ty B X l v ks w)) { tmps := ((.pointer (some ⟨p, 0, none⟩)) :: (kv) :: z2 :: z3 :: z4 :: z5 :: (.map (some Mb)) :: (.int .i64 (lens ks : Int)) :: z8 :: z9 :: z10 :: z11 :: z12 :: z13 :: z14 :: z15 :: z16 :: z17 :: z18 :: z19 :: z20 :: z21 :: z22 :: z23 :: z24 :: z25 :: z26 :: z27 :: z28 :: z29 :: z30 :: z31 :: z32 :: z33 :: z34 :: z35 :: z36 :: z37 :: z38 :: z39 :: z40 :: z41 :: z42 :: z43 :: z44 :: z45 :: z46 :: z47 :: z48 :: z49 :: z50 :: z51 :: z52 :: z53 :: z54 :: z55 :: z56 :: z57 :: z58 :: z59 :: z60 :: z61 :: z62 :: z63 :: z64 :: z65 :: z66 :: z67 :: z68 :: z69 :: z70 :: z71 :: z72 :: z73 :: z74 :: z75 :: z76 :: z77 :: z78 :: z79 :: z80 :: z81 :: z82 :: z83 :: z84 :: z85 :: z86 :: z87 :: z88 :: z89 :: z90 :: z91 :: z92 :: z93 :: z94 :: z95 :: z96 :: z97 :: []).toArray, defers := [] } w0 := by
 obtain ⟨A, c, rfl⟩ := hkv
 obtain ⟨A1, q1, hv1⟩ := own_slice hR.own
 have hBv := (hR.below hb).bl
 rw [hv1] at hBv
 have hot := objT_102 hkr hkd hl
 have HOT := Lib.hid hot
 have HR := Lib.hid hR
 have HB := Lib.hid hb
 have HBV := Lib.hid hBv
 clear hot hR hb hBv hkr hkd
 conv => arg 2; whnf
 go_wp2_with fail
 ((with_reducible refine (take_few p ty A1 l.length q1 _ _ HBV.out (by omega)).mono ?_); rintro e w' ⟨rfl, rfl⟩)
 go_wp2
 exact ⟨rfl, .inl ⟨102, by rw [HOT.out], by decide, rfl, HB.out⟩⟩
theorem obj_tail2_ok (p : Nat) (ty : TypeId) (B : Nat) (X : Nat → Prop) (l : List Tr) (v : Value) (xs : List Value) (ks : List Tx) (w : World) (kv : Value) (Mb : Nat) (w0 : World) (hR : Rw p ty B X l v xs w) (hX : ∀ k, X k → k < w.heap.size) (hb : Below w.heap.size w w0) (hkv : RdK w kv ks) (hkr : ks.all rightB = true) (hkd : ks.Nodup) (hkl : ∀ k ∈ ks, k.length ≤ 1099511627776) (hbk : lens ks ≤ 1099511627776) (hmx : l.length ≤ 65536) (hl : ks.length ≤ l.length)
  (hM : w0.ownsMap Tryz.prog 9 (plainElem Tryz.prog 3) Mb ks.length (mapD ks ks.length)) (z2 z3 z4 z5 z8 z9 z10 z11 z12 z13 z14 z15 z16 z17 z18 z19 z20 z21 z22 z23 z24 z25 z26 z27 z28 z29 z30 z31 z32 z33 z34 z35 z36 z37 z38 z39 z40 z41 z42 z43 z44 z45 z46 z47 z48 z49 z50 z51 z52 z53 z54 z55 z56 z57 z58 z59 z60 z61 z62 z63 z64 z65 z66 z67 z68 z69 z70 z71 z72 z73 z74 z75 z76 z77 z78 z79 z80 z81 z82 z83 z84 z85 z86 z87 z88 z89 z90 z91 z92 z93 z94 z95 z96 z97 : Value) :
  Code.wp Tryz.prog objT2 (bodyPost Tryz.prog Tryz.f80 (ObjP p ty B X l v ks w)) { tmps := ((.pointer (some ⟨p, 0, none⟩)) :: (kv) :: z2 :: z3 :: z4 :: z5 :: (.map (some Mb)) :: (.int .i64 (lens ks : Int)) :: z8 :: z9 :: z10 :: z11 :: z12 :: z13 :: z14 :: z15 :: z16 :: z17 :: z18 :: z19 :: z20 :: z21 :: z22 :: z23 :: z24 :: z25 :: z26 :: z27 :: z28 :: z29 :: z30 :: z31 :: z32 :: z33 :: z34 :: z35 :: z36 :: z37 :: z38 :: z39 :: z40 :: z41 :: z42 :: z43 :: z44 :: z45 :: z46 :: z47 :: z48 :: z49 :: z50 :: z51 :: z52 :: z53 :: z54 :: z55 :: z56 :: z57 :: z58 :: z59 :: z60 :: z61 :: z62 :: z63 :: z64 :: z65 :: z66 :: z67 :: z68 :: z69 :: z70 :: z71 :: z72 :: z73 :: z74 :: z75 :: z76 :: z77 :: z78 :: z79 :: z80 :: z81 :: z82 :: z83 :: z84 :: z85 :: z86 :: z87 :: z88 :: z89 :: z90 :: z91 :: z92 :: z93 :: z94 :: z95 :: z96 :: z97 :: []).toArray, defers := [] } w0 := by
 have hkv0 := hkv
 obtain ⟨A, c, rfl, hka⟩ := hkv
 have HKV := Lib.hid (hkv0.below hb)
 have HK := Lib.hid (And.intro hkr (And.intro hkd hkl))
 have HR := Lib.hid hR
 have HX := Lib.hid hX
 have HB := Lib.hid hb
 have HM := Lib.hid hM
 have hs0 := hb.size
 have hR0 := hR.below hb
 have HR0 := Lib.hid hR0
 clear hkr hkd hkl hR hX hb hM hkv0 hka hR0
 conv => arg 2; whnf
 apply wp_seq_k
 intro K1 hK1
 go_wp2_with fail
 ((with_reducible refine (take_ok p ty B v l.length ks.length xs _ HR0.out.bl HR0.out.own hl (by omega) HR0.out.rd.ones).mono ?_); rintro e w2 ⟨v2, rfl, ho2, hb2⟩)
 obtain ⟨A2, q2, rfl⟩ := own_slice ho2
 have HO2 := Lib.hid ho2
 have HB2 := Lib.hid hb2
 clear ho2 hb2
 go_wp2_with fail
 have hs2 := HB2.out.size
 have hxl : (xs.drop (l.length - ks.length)).length = ks.length := by have := HO2.out.1; simpa using this
 have hdl : (l.drop (l.length - ks.length)).length = ks.length := by rw [List.length_drop]; omega
 have hSx : ∀ j, w.heap.size ≤ j → Sx B X v j := fun j hj => ⟨by have := HR.out.le; omega, fun hx => by have := HX.out j hx; omega, fun e => by have := (HR.out.vlt j e.symm).2; omega⟩
 have hRow : Row (Sx B X v) w2 56 (.slice A2 ks.length q2) (xs.drop (l.length - ks.length)) := (row_of_own HO2.out).mono fun j hj => hSx j (by have := (HO2.out.lt j hj).1; omega)
 have hRd : RdL (Sx B X v) w2 (l.drop (l.length - ks.length)) (xs.drop (l.length - ks.length)) := (HR0.out.below HB2.out).rd.drop (l.length - ks.length)
 have HRow := Lib.hid hRow
 have HRd := Lib.hid hRd
 have HSx := Lib.hid hSx
 have HDL := Lib.hid hdl
 clear hRow hRd hSx hxl hdl
 ((with_reducible refine (summed_any _ _ _ (l.drop (l.length - ks.length)) (lens ks) _ HRow.out HRd.out hbk (by rw [HDL.out]; omega) (fun t ht => HR.out.fit t (List.mem_of_mem_drop ht))).mono ?_); rintro e w3 ⟨rfl, hb3⟩)
 have hs3 := hb3.size
 have HB3 := Lib.hid hb3
 have e1 : ((1 + nodesL (l.drop (l.length - ks.length)) : Nat) : Int) = ((mkObj ks (l.drop (l.length - ks.length))).nodes : Int) := by rw [mkObj_nodes ks HK.out.2.1 _ HDL.out]
 have e2 : ((lens ks + bytesL (l.drop (l.length - ks.length)) : Nat) : Int) = ((mkObj ks (l.drop (l.length - ks.length))).bytes : Int) := by rw [mkObj_bytes ks HK.out.2.1 _ HDL.out]
 have e3 : ((depthL (l.drop (l.length - ks.length)) + 1 : Nat) : Int) = ((mkObj ks (l.drop (l.length - ks.length))).depth : Int) := by rw [mkObj_depth ks HK.out.2.1 _ HDL.out]
 have HE1 := Lib.hid e1
 have HE2 := Lib.hid e2
 have HE3 := Lib.hid e3
 clear hb3 e1 e2 e3
 rw [HE1.out, HE2.out, HE3.out]
 clear HE1 HE2 HE3
 go_wp2_with fail
 ((with_reducible refine (clone_keys (.slice A ks.length c) ks _ ((HKV.out.below HB2.out).below HB3.out) (by omega)).mono ?_); rintro e w4 ⟨v4, rfl, ho4, hb4⟩)
 obtain ⟨K4, q4, rfl⟩ := own_slice ho4
 have hs4 := hb4.size
 have HO4 := Lib.hid ho4
 have HB4 := Lib.hid hb4
 have hB5 := Blk.new w4 274 #[.int .i64 ((mkObj ks (l.drop (l.length - ks.length))).nodes : Int), .int .i64 ((mkObj ks (l.drop (l.length - ks.length))).bytes : Int), .int .i64 ((mkObj ks (l.drop (l.length - ks.length))).depth : Int), .slice K4 ks.length q4, .slice none 0 0]
 have HB5 := Lib.hid hB5
 have a3 := hB5.cell 3
 have hbel5 : Below w.heap.size w (w4.alloc (.cells #[.int .i64 ((mkObj ks (l.drop (l.length - ks.length))).nodes : Int), .int .i64 ((mkObj ks (l.drop (l.length - ks.length))).bytes : Int), .int .i64 ((mkObj ks (l.drop (l.length - ks.length))).depth : Int), .slice K4 ks.length q4, .slice none 0 0] 274)) :=
  (((HB.out.trans (HB2.out.mono hs0)).trans (HB3.out.mono (by omega))).trans (HB4.out.mono (by omega))).alloc (by omega) _
 have HBEL5 := Lib.hid hbel5
 clear ho4 hb4 hB5 hbel5
 obtain ⟨n1, hn1⟩ : ∃ n, ((mkObj ks (l.drop (l.length - ks.length))).nodes : Int) = n := ⟨_, rfl⟩
 obtain ⟨b1, hn2⟩ : ∃ n, ((mkObj ks (l.drop (l.length - ks.length))).bytes : Int) = n := ⟨_, rfl⟩
 obtain ⟨e1, hn3⟩ : ∃ n, ((mkObj ks (l.drop (l.length - ks.length))).depth : Int) = n := ⟨_, rfl⟩
 have HN1 := Lib.hid hn1
 have HN2 := Lib.hid hn2
 have HN3 := Lib.hid hn3
 rw [hn1, hn2, hn3] at HB5 HBEL5 a3 ⊢
 clear hn1 hn2 hn3
 go_wp2_with fail
 have ho5 := HO4.out.alloc (.cells #[.int .i64 n1, .int .i64 b1, .int .i64 e1, .slice K4 ks.length q4, .slice none 0 0] 274)
 ((with_reducible refine (sort_own (.slice K4 ks.length q4) _ ks _ ho5 (fun k hk => ⟨List.all_eq_true.1 HK.out.1 k hk, HK.out.2.2 k hk⟩) (by omega)).mono ?_); rintro e w5 ⟨rfl, hrow5, hgr5⟩)
 have hv4 := HO4.out.lt
 have hsa : (w4.alloc (.cells #[.int .i64 n1, .int .i64 b1, .int .i64 e1, .slice K4 ks.length q4, .slice none 0 0] 274)).heap.size = w4.heap.size + 1 := by simp
 have hS : ObjS p ty B X l v xs ks w A2 K4 q2 q4 Mb w4.heap.size w5 := by
  have hall : w0.grownBy w5 (Value.slice K4 ks.length q4).ownBlock := grown_trans (grown_of_below ((HB2.out.trans (HB3.out.mono hs2)).trans ((HB4.out.mono (by omega)).alloc (by omega) _)) _) hgr5
  refine ⟨HR.out, ?_, HX.out, hl, hmx, HK.out.1, HK.out.2.1, HK.out.2.2, ?_, ?_, ?_, ?_, by omega⟩
  ·refine HBEL5.out.trans ⟨hgr5.os, hgr5.tape, hgr5.output, hgr5.size, fun j hj => hgr5.block j (by omega) (fun e => ?_)⟩
   have := (hv4 j e.symm).1
   omega
  ·refine (row_of_own HO2.out).move fun j hj hs => ⟨HSx.out j (by have := (HO2.out.lt j hs).1; omega), ?_⟩
   have h1 : w5.heap[j]? = _ := hgr5.block j (by omega) (fun e => by have := (hv4 j e.symm).1; omega)
   rw [h1]
   exact (((HB3.out.trans (HB4.out.mono hs3)).alloc (by omega) _).block j hj)
  ·refine hrow5.mono fun j hj => ⟨HSx.out j (by have := (hv4 j hj).1; omega), ?_⟩
   have := (hv4 j hj).2
   omega
  ·exact HM.out.kept hall (fun e => by have h1 := (hv4 Mb e.symm).1; have h2 := HM.out.lt; omega)
  ·rw [HN1.out, HN2.out, HN3.out]
   exact HB5.out.only hgr5 (fun e => by have := (hv4 _ e.symm).2; omega)
 clear hrow5 hgr5 ho5 HB5 HBEL5
 dsimp only
 go_step
 go_step
 go_step
 go_step
 exact obj_tail3 p ty B X l v xs ks w A2 K4 q2 q4 Mb w4.heap.size w5 hS _ _ _ _ _ _ _ _ _ _ _ _ _ _ _ _ _ _ _ _ _ _ _ _ _ _ _ _ _ _ _ _ _ _ _ _ _ _ _ _ _ _ _ _ _ _ _ _ _ _ _ _ _ _ _ _ _ _ _ _ _ _ _ _ _ _ _ _ _ _ _ _ _ _ _ _ _ _ _ _ _ _ _ _ _ _ _ _ _ _ _ _ _ _
end Nd
end Go.Proofs.YtbajkglacfheiaaGreatDoor
namespace Go.Proofs.YtbajkglacfheiaaGreatDoor
open Go.RowKit Mem
namespace Nd

noncomputable def objT1b : Code := nextOf (nextOf objT1)
theorem obj_tail1b (p : Nat) (ty : TypeId) (B : Nat) (X : Nat → Prop) (l : List Tr) (v : Value) (xs : List Value) (ks : List Tx) (w : World) (kv : Value) (Mb : Nat) (w0 : World) (hR : Rw p ty B X l v xs w) (hX : ∀ k, X k → k < w.heap.size) (hb : Below w.heap.size w w0) (hkv : RdK w kv ks) (hkr : ks.all rightB = true) (hkl : ∀ k ∈ ks, k.length ≤ 1099511627776) (hbk : lens ks ≤ 1099511627776) (hkn : ks.length ≤ 1099511627776) (hmx : l.length ≤ 65536)
  (hM : w0.ownsMap Tryz.prog 9 (plainElem Tryz.prog 3) Mb 0 (mapD ks 0)) (hMb : w.heap.size ≤ Mb) (z2 z3 z4 z5 z8 z9 z10 z11 z12 z13 z14 z15 z16 z17 z18 z19 z20 z21 z22 z23 z24 z25 z26 z27 z28 z29 z30 z31 z32 z33 z34 z35 z36 z37 z38 z39 z40 z41 z42 z43 z44 z45 z46 z47 z48 z49 z50 z51 z52 z53 z54 z55 z56 z57 z58 z59 z60 z61 z62 z63 z64 z65 z66 z67 z68 z69 z70 z71 z72 z73 z74 z75 z76 z77 z78 z79 z80 z81 z82 z83 z84 z85 z86 z87 z88 z89 z90 z91 z92 z93 z94 z95 z96 z97 : Value) :
  Code.wp Tryz.prog objT1b (bodyPost Tryz.prog Tryz.f80 (ObjP p ty B X l v ks w)) { tmps := ((.pointer (some ⟨p, 0, none⟩)) :: (kv) :: z2 :: z3 :: z4 :: z5 :: (.map (some Mb)) :: (.int .i64 0) :: z8 :: z9 :: z10 :: z11 :: z12 :: z13 :: z14 :: z15 :: z16 :: z17 :: z18 :: z19 :: z20 :: z21 :: z22 :: z23 :: z24 :: z25 :: z26 :: z27 :: z28 :: z29 :: z30 :: z31 :: z32 :: z33 :: z34 :: z35 :: z36 :: z37 :: z38 :: z39 :: z40 :: z41 :: z42 :: z43 :: z44 :: z45 :: z46 :: z47 :: z48 :: z49 :: z50 :: z51 :: z52 :: z53 :: z54 :: z55 :: z56 :: z57 :: z58 :: z59 :: z60 :: z61 :: z62 :: z63 :: z64 :: z65 :: z66 :: z67 :: z68 :: z69 :: z70 :: z71 :: z72 :: z73 :: z74 :: z75 :: z76 :: z77 :: z78 :: z79 :: z80 :: z81 :: z82 :: z83 :: z84 :: z85 :: z86 :: z87 :: z88 :: z89 :: z90 :: z91 :: z92 :: z93 :: z94 :: z95 :: z96 :: z97 :: []).toArray, defers := [] } w0 := by
 have hkv0 := hkv
 obtain ⟨A, c, rfl, hka⟩ := hkv
 have HKV := Lib.hid hkv0
 have HKA := Lib.hid hka
 have HK := Lib.hid (And.intro hkr hkl)
 have HR := Lib.hid hR
 have HX := Lib.hid hX
 have HB := Lib.hid hb
 have HM := Lib.hid hM
 clear hkr hkl hR hX hb hM hkv0 hka
 conv => arg 2; whnf
 apply wp_seq_k
 intro K1 hK1
 go_cut [7] (fun c7 wx => c7 = .int .i64 (lens ks : Int) ∧ ks.Nodup ∧ Below w.heap.size w wx ∧ wx.ownsMap Tryz.prog 9 (plainElem Tryz.prog 3) Mb ks.length (mapD ks ks.length))
 case rest =>
  obtain ⟨rfl, hnd, hbx, hmx2⟩ := hcut
  go_step
  by_cases hl : l.length < ks.length
  ·exact obj_tail2_few p ty B X l v xs ks w (.slice A ks.length c) Mb wc HR.out hbx ⟨A, c, rfl⟩ HK.out.1 hnd hkn hl _ _ _ _ _ _ _ _ _ _ _ _ _ _ _ _ _ _ _ _ _ _ _ _ _ _ _ _ _ _ _ _ _ _ _ _ _ _ _ _ _ _ _ _ _ _ _ _ _ _ _ _ _ _ _ _ _ _ _ _ _ _ _ _ _ _ _ _ _ _ _ _ _ _ _ _ _ _ _ _ _ _ _ _ _ _ _ _ _ _ _ _ _ _
  ·exact obj_tail2_ok p ty B X l v xs ks w (.slice A ks.length c) Mb wc HR.out HX.out hbx HKV.out HK.out.1 hnd HK.out.2 hbk hmx (by omega) hmx2 _ _ _ _ _ _ _ _ _ _ _ _ _ _ _ _ _ _ _ _ _ _ _ _ _ _ _ _ _ _ _ _ _ _ _ _ _ _ _ _ _ _ _ _ _ _ _ _ _ _ _ _ _ _ _ _ _ _ _ _ _ _ _ _ _ _ _ _ _ _ _ _ _ _ _ _ _ _ _ _ _ _ _ _ _ _ _ _ _ _ _ _ _ _
 go_wp2
 go_loopw [7, 29] (fun c7 c29 wr => ∃ k : Nat, k ≤ ks.length ∧ c29 = .int .i64 k ∧ c7 = .int .i64 (lens (ks.take k) : Int) ∧ Hid ((ks.take k).Nodup) ∧ Below w.heap.size w wr ∧ Hid (wr.ownsMap Tryz.prog 9 (plainElem Tryz.prog 3) Mb k (mapD ks k))) (fun _ c29 _ => ks.length - (intOf c29).toNat)
 case atStart => exact ⟨0, by omega, rfl, rfl, Lib.hid (by simp), HB.out, HM⟩
 case round =>
  obtain ⟨k, hk, rfl, rfl, HN, hbr, HMk⟩ := hrel
  by_cases hlt : k < ks.length
  ·have hkeys : ∃ gk ok, A = some ⟨gk, ok, none⟩ ∧ wr.cell? ⟨gk, ok + k, none⟩ = some (.string ⟨ks[k].toArray⟩) := by
    obtain ⟨A', c', e', h'⟩ := HKV.out.below hbr
    injection e' with e1 e2 e3
    rcases h' with h' | ⟨g, o, hA, hc⟩
    ·rw [h'] at hlt
     simp at hlt
    ·exact ⟨g, o, by rw [e1, hA], hc k _ (List.getElem?_eq_getElem hlt)⟩
   obtain ⟨gk, ok, rfl, hkc⟩ := hkeys
   have hkey := key_of ks[k] (HK.out.2 _ (List.getElem_mem hlt))
   have hhas := mapD_has ks ks[k] k hk
   have hls := lens_snoc ks k hlt
   have hlb := lens_le ks k
   have hpt : mapD ks (k + 1) = (mapD ks k).put (klit ks[k]) (.lit (.int .i64 (k : Int))) := by
    show (mapD ks k).put (klit (ks.getD k [])) _ = _
    have hg : ks.getD k [] = ks[k] := by rw [List.getD_eq_getElem?_getD, List.getElem?_eq_getElem hlt]; rfl
    rw [hg]
   have HPT := Lib.hid hpt
   have HKEY := Lib.hid hkey
   have HLS := Lib.hid hls
   clear hpt hkey hls
   by_cases hm : ks[k] ∈ ks.take k
   ·rw [decide_eq_true hm] at hhas
    have hot := objT_101 (R := rightB) (l := l) HK.out.1 k hlt hm
    have HOT := Lib.hid hot
    clear hot hm
    have HH := Lib.hid hhas
    clear hhas
    generalize ks[k] = t at *
    go_wp2_with (at_lookup; refine wpList_lookup_own_ok_int _ rfl _ _ 269 rfl 9 3 .i64 str_law Tryz.underlying269 Tryz.underlying3 (zero_int _) Mb k (mapD ks k) rfl HMk.out _ (klit t) rfl HKEY.out ?_; rw [HH.out]; intro cx hat hwc)
    ((with_reducible refine (refuse_no 101 _).mono ?_); rintro e w' ⟨rfl, rfl⟩)
    go_wp2
    exact ⟨rfl, .inl ⟨101, by rw [HOT.out], by decide, rfl, hbr⟩⟩
   ·rw [decide_eq_false hm] at hhas
    have hnd := nodup_snoc hlt HN.out hm
    have HND := Lib.hid hnd
    have HH := Lib.hid hhas
    have htl := HK.out.2 _ (List.getElem_mem hlt)
    clear hhas hm hnd
    generalize ks[k] = t at *
    go_wp2_with (at_lookup; refine wpList_lookup_own_ok_int _ rfl _ _ 269 rfl 9 3 .i64 str_law Tryz.underlying269 Tryz.underlying3 (zero_int _) Mb k (mapD ks k) rfl HMk.out _ (klit t) rfl HKEY.out ?_; rw [HH.out]; intro cx hat hwc)
    ((with_reducible refine (refuse_yes 101 _).mono ?_); rintro e w' ⟨rfl, rfl⟩)
    go_wp2_with (at_mapUpdate; refine wpList_mapUpdate_own _ rfl _ _ _ 269 rfl 9 3 str_law Tryz.underlying269 _ Mb k _ rfl HMk.out (by unfold maxLen; omega) _ _ (klit t) rfl rfl HKEY.out _ [] (plainElem_int Tryz.underlying3 (WalkArith.wf_i64 (by omega))) ?_; intro w1 hown1 hgr1; clear hat hwc)
    have hown2 := hown1
    rw [← HPT.out] at hown2
    have HO2 := Lib.hid hown2
    clear hown1 hown2
    have hbr2 : Below w.heap.size w w1 := hbr.trans (below_of_grown hgr1 hMb hbr.size)
    clear hgr1
    go_roundw
    case rel => exact ⟨k + 1, by omega, by go_num, by rw [HLS.out]; go_num, HND, hbr2, HO2⟩
    case measure => simp [intOf]; omega
  ·have hkn2 : k = ks.length := by omega
   subst hkn2
   have hnd := HN.out
   have hmm := HMk.out
   rw [List.take_length] at hnd
   have e9 : lens (ks.take ks.length) = lens ks := by rw [List.take_length]
   rw [e9]
   clear e9
   have HN2 := Lib.hid hnd
   clear hnd hmm
   go_wp2_with fail
   go_meet
   exact ⟨rfl, HN2.out, hbr, HMk.out⟩
end Nd
end Go.Proofs.YtbajkglacfheiaaGreatDoor
namespace Go.Proofs.YtbajkglacfheiaaGreatDoor
open Go.RowKit Mem
namespace Nd

theorem obj_tail1 (p : Nat) (ty : TypeId) (B : Nat) (X : Nat → Prop) (l : List Tr) (v : Value) (xs : List Value) (ks : List Tx) (w : World) (kv : Value) (w0 : World) (hR : Rw p ty B X l v xs w) (hX : ∀ k, X k → k < w.heap.size) (hb : Below w.heap.size w w0) (hkv : RdK w kv ks) (hkr : ks.all rightB = true) (hkl : ∀ k ∈ ks, k.length ≤ 1099511627776) (hbk : lens ks ≤ 1099511627776) (hkn : ks.length ≤ 1099511627776) (hmx : l.length ≤ 65536) (z2 z3 z4 z5 z6 z7 z8 z9 z10 z11 z12 z13 z14 z15 z16 z17 z18 z19 z20 z21 z22 z23 z24 z25 z26 z27 z28 z29 z30 z31 z32 z33 z34 z35 z36 z37 z38 z39 z40 z41 z42 z43 z44 z45 z46 z47 z48 z49 z50 z51 z52 z53 z54 z55 z56 z57 z58 z59 z60 z61 z62 z63 z64 z65 z66 z67 z68 z69 z70 z71 z72 z73 z74 z75 z76 z77 z78 z79 z80 z81 z82 z83 z84 z85 z86 z87 z88 z89 z90 z91 z92 z93 z94 z95 z96 z97 : Value) :
  Code.wp Tryz.prog objT1 (bodyPost Tryz.prog Tryz.f80 (ObjP p ty B X l v ks w)) { tmps := ((.pointer (some ⟨p, 0, none⟩)) :: (kv) :: z2 :: z3 :: z4 :: z5 :: z6 :: z7 :: z8 :: z9 :: z10 :: z11 :: z12 :: z13 :: z14 :: z15 :: z16 :: z17 :: z18 :: z19 :: z20 :: z21 :: z22 :: z23 :: z24 :: z25 :: z26 :: z27 :: z28 :: z29 :: z30 :: z31 :: z32 :: z33 :: z34 :: z35 :: z36 :: z37 :: z38 :: z39 :: z40 :: z41 :: z42 :: z43 :: z44 :: z45 :: z46 :: z47 :: z48 :: z49 :: z50 :: z51 :: z52 :: z53 :: z54 :: z55 :: z56 :: z57 :: z58 :: z59 :: z60 :: z61 :: z62 :: z63 :: z64 :: z65 :: z66 :: z67 :: z68 :: z69 :: z70 :: z71 :: z72 :: z73 :: z74 :: z75 :: z76 :: z77 :: z78 :: z79 :: z80 :: z81 :: z82 :: z83 :: z84 :: z85 :: z86 :: z87 :: z88 :: z89 :: z90 :: z91 :: z92 :: z93 :: z94 :: z95 :: z96 :: z97 :: []).toArray, defers := [] } w0 := by
 have hmm := @run_makeMap Tryz.prog
 have hown := World.ownsMap_made w0 Tryz.prog 9 (plainElem (H := Unit) Tryz.prog 3)
 have hb1 := hb.alloc hb.size (.map #[] 0)
 have hs := hb.size
 have hkv2 := (hkv.below hb).below ((Below.refl _ w0).alloc (Nat.le_refl _) (.map #[] 0))
 have HO := Lib.hid hown
 have HB1 := Lib.hid hb1
 have HKV2 := Lib.hid hkv
 have HK := Lib.hid (And.intro hkr hkl)
 have HR := Lib.hid hR
 have HX := Lib.hid hX
 clear hown hb1 hkv2 hkr hkl hR hX hkv hb
 conv => arg 2; whnf
 apply wp_seq_k
 intro K1 hK1
 go_cut [6] (fun c6 wx => c6 = .map (some w0.heap.size) ∧ wx = w0.alloc (.map #[] 0))
 case rest =>
  obtain ⟨rfl, rfl⟩ := hcut
  go_step
  apply wp_seq_k
  intro K2 hK2
  go_cut [7] (fun c7 wx => c7 = .int .i64 0 ∧ wx = w0.alloc (.map #[] 0))
  case rest =>
   obtain ⟨rfl, rfl⟩ := hcut
   go_step
   exact obj_tail1b p ty B X l v xs ks w kv w0.heap.size (w0.alloc (.map #[] 0)) HR.out HX.out HB1.out HKV2.out HK.out.1 HK.out.2 hbk hkn hmx HO.out hs _ _ _ _ _ _ _ _ _ _ _ _ _ _ _ _ _ _ _ _ _ _ _ _ _ _ _ _ _ _ _ _ _ _ _ _ _ _ _ _ _ _ _ _ _ _ _ _ _ _ _ _ _ _ _ _ _ _ _ _ _ _ _ _ _ _ _ _ _ _ _ _ _ _ _ _ _ _ _ _ _ _ _ _ _ _ _ _ _ _ _ _ _ _
  go_wp2_with fail
  go_meet
  exact ⟨rfl, rfl⟩
 go_wp2_with fail
 go_meet
 exact ⟨rfl, rfl⟩
theorem object_any (p : Nat) (ty : TypeId) (B : Nat) (X : Nat → Prop) (l : List Tr) (v : Value) (xs : List Value) (ks : List Tx) (w : World) (kv : Value) (hR : Rw p ty B X l v xs w) (hX : ∀ k, X k → k < w.heap.size) (hkv : RdK w kv ks) (hkl : ∀ k ∈ ks, k.length ≤ 1099511627776) (hbk : lens ks ≤ 1099511627776) (hkn : ks.length ≤ 1099511627776) (hmx : l.length ≤ 65536) :
  Calls Tryz.prog 80 #[.pointer (some ⟨p, 0, none⟩), kv] w (ObjP p ty B X l v ks w) := by
 have hkv0 := hkv
 obtain ⟨A, c, rfl, hka⟩ := hkv
 have HKV := Lib.hid hkv0
 have HK := Lib.hid hkl
 have HR := Lib.hid hR
 have HX := Lib.hid hX
 clear hkl hR hX hkv0 hka
 go_enter Tryz.func80, Tryz.ntmps80
 apply wp_seq_k
 intro K1 hK1
 go_cut [] (fun wx => ks.all rightB = true ∧ Below w.heap.size w wx)
 case rest =>
  obtain ⟨har, hbx⟩ := hcut
  go_step
  exact obj_tail1 p ty B X l v xs ks w (.slice A ks.length c) wc HR.out HX.out hbx HKV.out har HK.out hbk hkn hmx _ _ _ _ _ _ _ _ _ _ _ _ _ _ _ _ _ _ _ _ _ _ _ _ _ _ _ _ _ _ _ _ _ _ _ _ _ _ _ _ _ _ _ _ _ _ _ _ _ _ _ _ _ _ _ _ _ _ _ _ _ _ _ _ _ _ _ _ _ _ _ _ _ _ _ _ _ _ _ _ _ _ _ _ _ _ _ _ _ _ _ _ _ _ _ _
 go_wp2
 go_loopw [18] (fun c18 wr => ∃ k : Nat, k ≤ ks.length ∧ c18 = .int .i64 k ∧ Hid ((ks.take k).all rightB = true) ∧ Below w.heap.size w wr) (fun c18 _ => ks.length - (intOf c18).toNat)
 case atStart => exact ⟨0, by omega, rfl, Lib.hid (by simp), Below.refl _ _⟩
 case round =>
  obtain ⟨k, hk, rfl, HN, hbr⟩ := hrel
  by_cases hlt : k < ks.length
  ·have hkeys : ∃ gk ok, A = some ⟨gk, ok, none⟩ ∧ wr.cell? ⟨gk, ok + k, none⟩ = some (.string ⟨ks[k].toArray⟩) := by
    obtain ⟨A', c', e', h'⟩ := HKV.out.below hbr
    injection e' with e1 e2 e3
    rcases h' with h' | ⟨g, o, hA, hc⟩
    ·rw [h'] at hlt
     simp at hlt
    ·exact ⟨g, o, by rw [e1, hA], hc k _ (List.getElem?_eq_getElem hlt)⟩
   obtain ⟨gk, ok, rfl, hkc⟩ := hkeys
   have htl := HK.out _ (List.getElem_mem hlt)
   by_cases hr : rightB ks[k] = true
   ·have HND := Lib.hid (all_snoc hlt HN.out hr)
    have HRR := Lib.hid hr
    clear hr
    generalize ks[k] = t at *
    go_wp2_with fail
    ((with_reducible refine (right_tx t _ (by omega)).mono ?_); rw [HRR.out]; rintro e w1 ⟨rfl, hb1⟩)
    go_wp2_with fail
    ((with_reducible refine (refuse_yes 100 _).mono ?_); rintro e w' ⟨rfl, rfl⟩)
    have hbr2 := hbr.trans (hb1.mono hbr.size)
    clear hb1
    go_wp2
    go_roundw
    case rel => exact ⟨k + 1, by omega, by go_num, HND, hbr2⟩
    case measure => simp [intOf]; omega
   ·have hr2 : rightB ks[k] = false := by simpa using hr
    have HOT := Lib.hid (objT_100 (R := rightB) (l := l) k hlt hr2)
    have HRR := Lib.hid hr2
    clear hr hr2
    generalize ks[k] = t at *
    go_wp2_with fail
    ((with_reducible refine (right_tx t _ (by omega)).mono ?_); rw [HRR.out]; rintro e w1 ⟨rfl, hb1⟩)
    go_wp2_with fail
    ((with_reducible refine (refuse_no 100 _).mono ?_); rintro e w' ⟨rfl, rfl⟩)
    have hbr2 := hbr.trans (hb1.mono hbr.size)
    clear hb1
    go_wp2
    exact ⟨rfl, .inl ⟨100, by rw [HOT.out], by decide, rfl, hbr2⟩⟩
  ·have hkn2 : k = ks.length := by omega
   subst hkn2
   have hnd := HN.out
   rw [List.take_length] at hnd
   have HN2 := Lib.hid hnd
   clear hnd
   go_wp2_with fail
   go_meet
   exact ⟨HN2.out, hbr⟩
end Nd
end Go.Proofs.YtbajkglacfheiaaGreatDoor
namespace Go.Proofs.YtbajkglacfheiaaGreatDoor
open Go.RowKit Mem
namespace Nd

def errV (n : Int) : Value := if n = 0 then .nilIface else errN n
theorem objT_same {R : Tx → Bool} {ks : List Tx} {l : List Tr} (h : (objT R ks l).1 ≠ 0) : (objT R ks l).2 = l := by
 unfold objT at h ⊢
 split
 ·rfl
 ·split
  ·rfl
  ·split
   ·rfl
   ·split
    ·rename_i h1 h2 h3 h4
     rw [if_neg h1, if_neg h2, if_neg h3, if_pos h4] at h
     exact absurd rfl h
    ·rfl
theorem do_obj (ks : List Tx) (A : Option Addr) (n q : Nat) (p : Nat) (ty : TypeId) (B : Nat) (l : List Tr) (v : Value) (xs : List Value) (w : World) (hR : Rw p ty B (fun _ => False) l v xs w) (hus : usedB 6 false 0 [] 0 n = true) (hkv : RdK w (.slice A n q) ks) (hkl : ∀ k ∈ ks, k.length ≤ 1099511627776) (hbk : lens ks ≤ 1099511627776) (hkn : ks.length ≤ 1099511627776) (hmx : l.length ≤ 65536) :
  Calls Tryz.prog 32 #[.pointer (some ⟨p, 0, none⟩), .agg #[.int .i64 6, .bool false, .int .u64 0, .string ⟨([] : Tx).toArray⟩, .int .i64 0, .slice A n q]] w fun e w' => e = .returned (errV (objT rightB ks l).1) ∧ RwX p ty B (objT rightB ks l).2 w' ∧ Apart p B w w' := by
 have hmf : ∀ (fn : Fn) (first cap : Array Value) (w : World), (Instr.makeFunc fn first cap).run Tryz.prog w = .ok (.func fn first cap) w := fun _ _ _ _ => rfl
 have HKV := Lib.hid hkv
 have HKL := Lib.hid hkl
 clear hkv hkl
 have HR := Lib.hid hR
 clear hR
 go_enter_defers Tryz.func32, Tryz.ntmps32
 go_wp2_with fail
 refine (used_any 6 false 0 [] 0 A n q _).mono ?_
 rw [hus]
 rintro e w1 ⟨rfl, hb1⟩
 obtain ⟨hbw, hS1, hE1, hsz⟩ := head_blocks w _ hb1
 clear hb1
 have c0 : w1.cell? ⟨w.heap.size, 0, none⟩ = some (.int .i64 6) := hS1.cell 0
 have c1 : w1.cell? ⟨w.heap.size, 1, none⟩ = some (.bool false) := hS1.cell 1
 have c2 : w1.cell? ⟨w.heap.size, 2, none⟩ = some (.int .u64 0) := hS1.cell 2
 have c3 : w1.cell? ⟨w.heap.size, 3, none⟩ = some (.string ⟨([] : Tx).toArray⟩) := hS1.cell 3
 have c4 : w1.cell? ⟨w.heap.size, 4, none⟩ = some (.int .i64 0) := hS1.cell 4
 have c5 : w1.cell? ⟨w.heap.size, 5, none⟩ = some (.slice A n q) := hS1.cell 5
 clear hS1
 go_wp2_with fail
 refine (refuse_yes 2 _).mono ?_
 rintro e w' ⟨rfl, rfl⟩
 have hRX := ((HR.out.avoid (X' := fun k => k = w.heap.size + 1) fun k hk => .inr (by omega)).below hbw)
 have HRX := Lib.hid hRX
 have HKV1 := Lib.hid (HKV.out.below hbw)
 clear hRX
 go_wp2_with fail
 ((with_reducible refine (object_any p ty B (fun k => k = w.heap.size + 1) l v xs ks _ (.slice A n q) HRX.out (fun k hk => by omega) HKV1.out HKL.out hbk hkn hmx).mono ?_); intro e w2 hP)
 rcases hP with ⟨m, hm1, hm0, rfl, hb2⟩ | ⟨hm1, rfl, v2, xs2, hR2, hob2, hb2, hk2⟩
 ·have hev : errV (objT rightB ks l).1 = errN m := by unfold errV; rw [hm1, if_neg hm0]
  have hls : (objT rightB ks l).2 = l := objT_same (by rw [hm1]; exact hm0)
  have HEV := Lib.hid hev
  have HLS := Lib.hid hls
  clear hev hls hm1
  obtain ⟨⟨hc, hz⟩, hc2, hrx, hbp⟩ := fin_err m HR.out hbw (by omega) hsz hE1 hb2
  go_wp2
  refine leaves_cons (f := 70) (args := #[.pointer (some ⟨w.heap.size + 1, 0, none⟩)]) (by simp) (by simp [go_sem]) ?_
  refine (catch_panicking ⟨w.heap.size + 1, 0, none⟩ _ m [] _ hc hz).mono ?_
  rintro e u' w'' ⟨rfl, rfl, rfl⟩
  unfold errN at hc2 hrx hbp HEV
  simp [Leaves, settle, results, Tryz.results32, go_sem, hc2]
  exact ⟨by rw [HEV.out], by rw [HLS.out]; exact hrx, hbp⟩
 ·have hev : errV (objT rightB ks l).1 = .nilIface := by unfold errV; rw [hm1, if_pos rfl]
  have HEV := Lib.hid hev
  clear hev hm1
  obtain ⟨⟨hc, hz⟩, hc2, hrx, hbp⟩ := fin_ok HR.out hbw (by omega) hsz hE1 hR2 hob2 hb2 hk2
  clear hR2
  go_wp2
  refine leaves_cons (f := 70) (args := #[.pointer (some ⟨w.heap.size + 1, 0, none⟩)]) (by simp) (by simp [go_sem]) ?_
  refine (catch_idle ⟨w.heap.size + 1, 0, none⟩ _).mono ?_
  rintro e u' w'' ⟨rfl, rfl, rfl⟩
  simp [Leaves, settle, results, Tryz.results32, go_sem, hc2]
  exact ⟨by rw [HEV.out], hrx, hbp⟩
structure Stp where
 sort : Int
 flag : Bool
 bits : Nat
 text : Tx
 count : Int
 keys : List Tx
def listT (k : Nat) (l : List Tr) : Int × List Tr :=
 if l.length < k then (102, l) else if (Tr.list (l.drop (l.length - k))).fit = true then (0, l.take (l.length - k) ++ [.list (l.drop (l.length - k))]) else (3, l)
def doT (l : List Tr) (s : Stp) : Int × List Tr :=
 if usedB s.sort s.flag s.bits s.text s.count s.keys.length = false then (2, l)
 else if s.sort = 1 then (0, l ++ [.null])
 else if s.sort = 2 then (0, l ++ [.flag s.flag])
 else if s.sort = 3 then (if finB s.bits = true then (0, l ++ [.num (normB s.bits)]) else (104, l))
 else if s.sort = 4 then (if rightB s.text = true then (if s.text.length ≤ 2097152 then (0, l ++ [.text s.text]) else (3, l)) else (100, l))
 else if s.sort = 5 then listT s.count.toNat l
 else objT rightB s.keys l
structure Stp.Fine (s : Stp) : Prop where
 bits : s.bits < 18446744073709551616
 text : s.text.length ≤ 1099511627776
 kl : ∀ k ∈ s.keys, k.length ≤ 1099511627776
 bk : lens s.keys ≤ 1099511627776
 kn : s.keys.length ≤ 1099511627776
theorem used_shape {s : Int} {f : Bool} {b : Nat} {t : Tx} {c : Int} {n : Nat} (h : usedB s f b t c n = true) : 1 ≤ s ∧ s ≤ 6 ∧ 0 ≤ c ∧ (s ≠ 2 → f = false) ∧ (s ≠ 3 → b = 0) ∧ (s ≠ 4 → t = []) ∧ (s ≠ 5 → c = 0) ∧ (s ≠ 6 → n = 0) := by
 simp [usedB] at h
 refine ⟨by omega, by omega, by omega, fun e => ?_, fun e => by omega, fun e => ?_, fun e => by omega, fun e => by omega⟩
 ·rcases h.1.1.1.1.2 with h | h
  ·exact h
  ·exact absurd h e
 ·rcases h.1.1.2 with h | h
  ·exact h
  ·exact absurd h e
theorem do_any (s : Stp) (hs : s.Fine) (A : Option Addr) (q : Nat) (p : Nat) (ty : TypeId) (B : Nat) (l : List Tr) (w : World) (hR : RwX p ty B l w) (hkv : RdK w (.slice A s.keys.length q) s.keys) (hmx : l.length ≤ 65536) :
  Calls Tryz.prog 32 #[.pointer (some ⟨p, 0, none⟩), .agg #[.int .i64 s.sort, .bool s.flag, .int .u64 (s.bits : Int), .string ⟨s.text.toArray⟩, .int .i64 s.count, .slice A s.keys.length q]] w fun e w' => e = .returned (errV (doT l s).1) ∧ RwX p ty B (doT l s).2 w' ∧ Apart p B w w' := by
 obtain ⟨v, xs, hR⟩ := hR
 obtain ⟨so, f, b, t, c, ks⟩ := s
 obtain ⟨hb, ht, hkl, hbk, hkn⟩ := hs
 simp only at hb ht hkl hbk hkn hkv ⊢
 unfold doT
 simp only
 cases hus : usedB so f b t c ks.length with
 | false =>
  rw [if_pos rfl]
  exact do_bad so f b t c A ks.length q p ty B l v xs w hR hus
 | true =>
  rw [if_neg (by simp)]
  obtain ⟨h1, h2, h3, h4, h5, h6, h7, h8⟩ := used_shape hus
  have hcase : so = 1 ∨ so = 2 ∨ so = 3 ∨ so = 4 ∨ so = 5 ∨ so = 6 := by omega
  rcases hcase with rfl | rfl | rfl | rfl | rfl | rfl
  ·obtain rfl := h4 (by decide)
   obtain rfl := h5 (by decide)
   obtain rfl := h6 (by decide)
   obtain rfl := h7 (by decide)
   rw [if_pos rfl]
   exact do_nul A ks.length q p ty B l v xs w hR hus (by omega)
  ·obtain rfl := h5 (by decide)
   obtain rfl := h6 (by decide)
   obtain rfl := h7 (by decide)
   rw [if_neg (by decide), if_pos rfl]
   exact do_flag f A ks.length q p ty B l v xs w hR hus (by omega)
  ·obtain rfl := h4 (by decide)
   obtain rfl := h6 (by decide)
   obtain rfl := h7 (by decide)
   rw [if_neg (by decide), if_neg (by decide), if_pos rfl]
   by_cases hf : b % 9223372036854775808 < 9218868437227405312
   ·have hfb : finB b = true := by unfold finB; exact decide_eq_true hf
    rw [if_pos hfb]
    unfold normB
    by_cases hz : b % 9223372036854775808 = 0
    ·rw [if_pos hz]
     exact do_num_zero b A ks.length q p ty B l v xs w hR hus hb (by omega) hf hz
    ·rw [if_neg hz]
     exact do_num_some b A ks.length q p ty B l v xs w hR hus hb (by omega) hf hz
   ·have hfb : ¬ finB b = true := by unfold finB; simpa using hf
    rw [if_neg hfb]
    by_cases hi : b % 9223372036854775808 = 9218868437227405312
    ·exact do_num_inf b A ks.length q p ty B l v xs w hR hus hb (by omega) hi
    ·exact do_num_nan b A ks.length q p ty B l v xs w hR hus hb (by omega) (by omega)
  ·obtain rfl := h4 (by decide)
   obtain rfl := h5 (by decide)
   obtain rfl := h7 (by decide)
   rw [if_neg (by decide), if_neg (by decide), if_neg (by decide), if_pos rfl]
   cases hr : rightB t with
   | true =>
    rw [if_pos rfl]
    by_cases hl : t.length ≤ 2097152
    ·rw [if_pos hl]
     exact do_text_ok t A ks.length q p ty B l v xs w hR hus ht (by omega) hr hl
    ·rw [if_neg hl]
     exact do_text_long t A ks.length q p ty B l v xs w hR hus ht (by omega) hr hl
   | false =>
    rw [if_neg (by simp)]
    exact do_text_bad t A ks.length q p ty B l v xs w hR hus ht (by omega) hr
  ·obtain rfl := h4 (by decide)
   obtain rfl := h5 (by decide)
   obtain rfl := h6 (by decide)
   rw [if_neg (by decide), if_neg (by decide), if_neg (by decide), if_neg (by decide), if_pos rfl]
   unfold listT
   obtain ⟨k, rfl⟩ : ∃ k : Nat, c = (k : Int) := ⟨c.toNat, by omega⟩
   rw [Int.toNat_natCast]
   by_cases hl : l.length < k
   ·rw [if_pos hl]
    exact do_list_few (k : Int) A ks.length q p ty B l v xs w hR hus hmx (by omega)
   ·rw [if_neg hl]
    cases hf : (Tr.list (l.drop (l.length - k))).fit with
    | true =>
     rw [if_pos rfl]
     exact do_list_ok k A ks.length q p ty B l v xs w hR hus hmx (by omega) hf
    | false =>
     rw [if_neg (by simp)]
     exact do_list_long k A ks.length q p ty B l v xs w hR hus hmx (by omega) hf
  ·obtain rfl := h4 (by decide)
   obtain rfl := h5 (by decide)
   obtain rfl := h6 (by decide)
   obtain rfl := h7 (by decide)
   rw [if_neg (by decide), if_neg (by decide), if_neg (by decide), if_neg (by decide), if_neg (by decide)]
   exact do_obj ks A ks.length q p ty B l v xs w hR hus hkv hkl hbk hkn hmx
end Nd
end Go.Proofs.YtbajkglacfheiaaGreatDoor
