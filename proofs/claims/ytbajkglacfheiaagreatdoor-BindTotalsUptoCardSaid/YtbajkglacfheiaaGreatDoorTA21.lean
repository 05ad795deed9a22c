/-
  Plain: sorted rows of keys and of members, as they are put together by halves; what the reference's step comes to. Walks of the reference of layer 3: Runes of a right text. Walks of the reference of layer 3: Units, Compare of right texts. Walks of the reference of layer 3: Compare of right texts.
-/
import Derived.Test.YtbajkglacfheiaaGreatDoorTA8
import Derived.Test.YtbajkglacfheiaaGreatDoorTA16
import Derived.Test.YtbajkglacfheiaaGreatDoorTA11
import Derived.Test.YtbajkglacfheiaaGreatDoorTA20
import Derived.Test.YtbajkglacfheiaaGreatDoorTA1
import Derived.Maps.AppendAt
import Derived.BigQuiet
set_option linter.unusedVariables false
set_option maxRecDepth 100000
set_option maxHeartbeats 16000000
namespace Go.Proofs.YtbajkglacfheiaaGreatDoor
open Ref3
namespace Nd
def Tr.fl : Tr → Bool
 | .flag b => b
 | _ => false
def Tr.bi : Tr → Nat
 | .num x => x
 | _ => 0
theorem rightB_R (t : Tx) : rightB t = rightR t := by
 unfold rightB rightR
 rw [UtfLaw.chk_wrong]
 by_cases h : (wrong t).1 = 0
 ·rw [if_pos h, decide_eq_true h]
  rfl
 ·rw [if_neg h, decide_eq_false h]
  rfl
def leL (x y : Tx) : Bool := !ltL y x
theorem leL_iff {x y : Tx} : leL x y = true ↔ cmpL x y ≤ 0 := by
 unfold leL ltL
 rw [cmp_turn x y]
 simp
theorem leL_trans (a b c : Tx) (h1 : leL a b = true) (h2 : leL b c = true) : leL a c = true := by
 unfold leL at *
 simp only [Bool.not_eq_true'] at *
 exact swoL.ntrans _ _ _ h2 h1
theorem leL_total (a b : Tx) : (leL a b || leL b a) = true := by
 unfold leL ltL
 rcases lt_total a b with h | h | h
 ·have : cmpL b a = - cmpL a b := cmp_turn a b
  simp; omega
 ·subst h; simp [cmp_self]
 ·have : cmpL b a = - cmpL a b := cmp_turn a b
  simp; omega
theorem leL_anti {a b : Tx} (h1 : leL a b = true) (h2 : leL b a = true) : a = b := by
 unfold leL at *
 simp only [Bool.not_eq_true'] at *
 exact ltL_one a b h2 h1
theorem sortK_pw (ks : List Tx) : (sortK ks).Pairwise fun a b => leL a b = true := List.pairwise_mergeSort leL_trans leL_total ks
theorem sortK_merge (a b : List Tx) : List.merge (sortK a) (sortK b) leL = sortK (a ++ b) := by
 refine List.Perm.eq_of_pairwise (le := fun a b => leL a b = true) (fun x y _ _ h1 h2 => leL_anti h1 h2) (List.pairwise_merge leL_trans leL_total _ _ (sortK_pw a) (sortK_pw b)) (sortK_pw _) ?_
 exact (List.merge_perm_append leL).trans (((sortK_perm a).append (sortK_perm b)).trans (sortK_perm (a ++ b)).symm)
theorem sortK_few {ks : List Tx} (h : ks.length < 2) : sortK ks = ks := by
 rcases ks with _ | ⟨a, _ | ⟨b, t⟩⟩
 ·simp [sortK]
 ·simp [sortK]
 ·simp only [List.length_cons] at h
  omega
abbrev M2 := Tx × Tr
def leM (x y : M2) : Bool := leL x.1 y.1
def ordM (l : List M2) : List M2 := l.mergeSort leM
theorem leM_trans (a b c : M2) (h1 : leM a b = true) (h2 : leM b c = true) : leM a c = true := leL_trans _ _ _ h1 h2
theorem leM_total (a b : M2) : (leM a b || leM b a) = true := leL_total _ _
theorem ordM_pw (l : List M2) : (ordM l).Pairwise fun a b => leM a b = true := List.pairwise_mergeSort leM_trans leM_total l
theorem ordM_perm (l : List M2) : (ordM l).Perm l := List.mergeSort_perm _ _
theorem ordM_len (l : List M2) : (ordM l).length = l.length := (ordM_perm l).length_eq
theorem inj_map : ∀ {l : List M2}, (l.map (·.1)).Nodup → ∀ x ∈ l, ∀ y ∈ l, x.1 = y.1 → x = y
 | [], _, x, hx, _, _, _ => by cases hx
 | a :: l, hn, x, hx, y, hy, e => by
  rw [List.map_cons, List.nodup_cons] at hn
  rcases List.mem_cons.1 hx with h1 | h1
  ·rcases List.mem_cons.1 hy with h2 | h2
   ·rw [h1, h2]
   ·exact absurd (List.mem_map.2 ⟨y, h2, by rw [← e, h1]⟩) hn.1
  ·rcases List.mem_cons.1 hy with h2 | h2
   ·exact absurd (List.mem_map.2 ⟨x, h1, by rw [e, h2]⟩) hn.1
   ·exact inj_map hn.2 x h1 y h2 e
theorem ordM_uniq {l m : List M2} (hn : (l.map (·.1)).Nodup) (hp : m.Perm l) (hw : m.Pairwise fun a b => leM a b = true) : m = ordM l := by
 refine List.Perm.eq_of_pairwise (le := fun a b => leM a b = true) (fun x y hx hy h1 h2 => ?_) hw (ordM_pw l) (hp.trans (ordM_perm l).symm)
 exact inj_map hn x (hp.mem_iff.1 hx) y ((ordM_perm l).mem_iff.1 hy) (leL_anti h1 h2)
theorem ordM_merge (a b : List M2) (hn : ((a ++ b).map (·.1)).Nodup) : List.merge (ordM a) (ordM b) leM = ordM (a ++ b) :=
 ordM_uniq hn ((List.merge_perm_append leM).trans ((ordM_perm a).append (ordM_perm b))) (List.pairwise_merge leM_trans leM_total _ _ (ordM_pw a) (ordM_pw b))
theorem ordM_few {l : List M2} (h : l.length < 2) : ordM l = l := by
 rcases l with _ | ⟨a, _ | ⟨b, t⟩⟩
 ·simp [ordM]
 ·simp [ordM]
 ·simp only [List.length_cons] at h
  omega
theorem zip_fst {α β : Type} : ∀ (a : List α) (b : List β), b.length = a.length → (a.zip b).map (·.1) = a
 | [], _, _ => by simp
 | x :: a, [], h => by simp at h
 | x :: a, y :: b, h => by
  rw [List.zip_cons_cons, List.map_cons, zip_fst a b (by simpa using h)]
theorem ordM_zip (ks : List Tx) (I : List Tr) (hn : ks.Nodup) (hl : I.length = ks.length) :
  ordM (ks.zip I) = (sortK ks).map fun k => (k, I.getD (ks.idxOf k) .null) := by
 have hz : ks.map (fun k => (k, I.getD (ks.idxOf k) Tr.null)) = ks.zip I := by
  apply List.ext_getElem (by simp [hl])
  intro i h1 h2
  have hi : i < ks.length := by simpa using h1
  rw [List.getElem_map, List.getElem_zip, idxOf_at ks hn i hi, List.getD_eq_getElem?_getD, List.getElem?_eq_getElem (by omega)]
  rfl
 symm
 refine ordM_uniq (by rw [zip_fst ks I hl]; exact hn) ?_ ?_
 ·rw [← hz]
  exact (sortK_perm ks).map _
 ·rw [List.pairwise_map]
  exact sortK_pw ks
theorem ordM_keys (ks : List Tx) (I : List Tr) (hn : ks.Nodup) (hl : I.length = ks.length) : (ordM (ks.zip I)).map (·.1) = sortK ks := by
 rw [ordM_zip ks I hn hl, List.map_map]
 exact List.map_id' _
theorem ordM_obj (ks : List Tx) (I : List Tr) (hn : ks.Nodup) (hl : I.length = ks.length) : Tr.obj ((ordM (ks.zip I)).map (·.1)) ((ordM (ks.zip I)).map (·.2)) = mkObj ks I := by
 rw [ordM_keys ks I hn hl, ordM_zip ks I hn hl, List.map_map]
 rfl
theorem sorted_adj : ∀ {l : List Tx}, l.Pairwise (fun a b => leL a b = true) → (∀ i (h : i + 1 < l.length), l[i + 1] ≠ l[i]) → l.Nodup := by
 intro l hp ha
 rw [List.Nodup, List.pairwise_iff_getElem]
 intro i j hi hj hij e
 have hle := List.pairwise_iff_getElem.1 hp
 have h1 : i + 1 < l.length := by omega
 have h2 := hle i (i + 1) hi h1 (by omega)
 have h3 : leL l[i + 1] l[i] = true := by
  rcases Nat.lt_or_ge (i + 1) j with h | h
  ·have := hle (i + 1) j h1 hj h
   rw [← e] at this
   exact this
  ·obtain rfl : j = i + 1 := by omega
   rw [e]
   rw [e] at h2
   exact h2
 exact ha i h1 (leL_anti h3 h2)
theorem nodup_sortK (ks : List Tx) : (sortK ks).Nodup ↔ ks.Nodup := (sortK_perm ks).nodup_iff
def mkT (s : Stp) (I : List Tr) : Tr :=
 if s.sort = 3 then .num (normB s.bits) else if s.sort = 5 then .list I else if s.sort = 6 then mkObj s.keys I else if s.sort = 2 then .flag s.flag else if s.sort = 4 then .text s.text else .null
def refDo (l : List Tr) (s : Stp) : Int × List Tr :=
 if usedB s.sort s.flag s.bits s.text s.count s.keys.length = false then (2, l)
 else if s.sort = 3 ∧ finB s.bits = false then (104, l)
 else if ¬ (rightB s.text = true ∧ s.keys.all rightB = true) then (100, l)
 else if ¬ s.keys.Nodup then (101, l)
 else if l.length < s.count.toNat + s.keys.length then (102, l)
 else if (mkT s (l.drop (l.length - (s.count.toNat + s.keys.length)))).fit = true then (0, l.take (l.length - (s.count.toNat + s.keys.length)) ++ [mkT s (l.drop (l.length - (s.count.toNat + s.keys.length)))])
 else (3, l)
theorem right_nil : rightB [] = true := by rw [rightB_R]; rfl
theorem refDo_doT (l : List Tr) (s : Stp) : refDo l s = doT l s := by
 obtain ⟨so, f, b, t, c, ks⟩ := s
 unfold refDo doT
 dsimp only
 cases hus : usedB so f b t c ks.length with
 | false => rw [if_pos rfl, if_pos rfl]
 | true =>
  rw [if_neg (by simp : ¬ (true = false)), if_neg (by simp : ¬ (true = false))]
  obtain ⟨h1, h2, h3, h4, h5, h6, h7, h8⟩ := used_shape hus
  have hcase : so = 1 ∨ so = 2 ∨ so = 3 ∨ so = 4 ∨ so = 5 ∨ so = 6 := by omega
  have hk0 : so ≠ 6 → ks = [] := fun h => List.length_eq_zero_iff.1 (h8 h)
  rcases hcase with rfl | rfl | rfl | rfl | rfl | rfl
  ·obtain rfl := h6 (by decide)
   obtain rfl := h7 (by decide)
   obtain rfl := hk0 (by decide)
   simp [right_nil, mkT, Tr.fit, Tr.nodes, Tr.bytes, Tr.depth]
  ·obtain rfl := h6 (by decide)
   obtain rfl := h7 (by decide)
   obtain rfl := hk0 (by decide)
   simp [right_nil, mkT, Tr.fit, Tr.nodes, Tr.bytes, Tr.depth]
  ·obtain rfl := h6 (by decide)
   obtain rfl := h7 (by decide)
   obtain rfl := hk0 (by decide)
   cases hf : finB b <;> simp [right_nil, mkT, Tr.fit, Tr.nodes, Tr.bytes, Tr.depth]
  ·obtain rfl := h7 (by decide)
   obtain rfl := hk0 (by decide)
   cases hr : rightB t
   ·simp
   ·by_cases hl : t.length ≤ 2097152
    ·simp [mkT, Tr.fit, Tr.nodes, Tr.bytes, Tr.depth, hl]
    ·simp [mkT, Tr.fit, Tr.nodes, Tr.bytes, Tr.depth, hl]
  ·obtain rfl := h6 (by decide)
   obtain rfl := hk0 (by decide)
   simp [right_nil, mkT, listT]
  ·obtain rfl := h6 (by decide)
   obtain rfl := h7 (by decide)
   simp only [right_nil, true_and, show ((6 : Int) = 3) = False from by decide, show ((6 : Int) = 1) = False from by decide, show ((6 : Int) = 2) = False from by decide, show ((6 : Int) = 4) = False from by decide, show ((6 : Int) = 5) = False from by decide, false_and, if_false]
   unfold objT
   cases hr : ks.all rightB
   ·simp
   ·by_cases hn : ks.Nodup
    ·by_cases hl : l.length < ks.length
     ·simp [hn, hl]
     ·simp only [hn, not_true_eq_false, if_false, hl, Int.toNat_zero, Nat.zero_add]
      simp [mkT]
    ·simp [hn]
end Nd
end Go.Proofs.YtbajkglacfheiaaGreatDoor
namespace Go.Proofs.YtbajkglacfheiaaGreatDoor
open Go.RowKit Mem Ref3
namespace Nd
theorem charsF_fuel : ∀ (f f' : Nat) (r : List UInt8), r.length ≤ f → r.length ≤ f' → charsF f r = charsF f' r
 | 0, 0, _, _, _ => rfl
 | 0, f' + 1, r, h, _ => by
  obtain rfl : r = [] := List.eq_nil_of_length_eq_zero (by omega)
  rfl
 | f + 1, 0, r, _, h => by
  obtain rfl : r = [] := List.eq_nil_of_length_eq_zero (by omega)
  rfl
 | f + 1, f' + 1, r, h, h' => by
  show (if wideAt r = 0 then [] else runeN r :: charsF f (r.drop (wideAt r))) = (if wideAt r = 0 then [] else runeN r :: charsF f' (r.drop (wideAt r)))
  by_cases h0 : wideAt r = 0
  ·rw [if_pos h0, if_pos h0]
  ·rw [if_neg h0, if_neg h0, charsF_fuel f f' (r.drop (wideAt r)) (by rw [List.length_drop]; omega) (by rw [List.length_drop]; omega)]
theorem fault_pos {r : List UInt8} {p : Int} {y : Int × Int} (hne : r ≠ []) (hs : faultAt r p = some y) : y.1 ≠ 0 := by
 cases r with
 | nil => exact absurd rfl hne
 | cons c t =>
  have hw := wide_bd (c.toNat : Int)
  by_cases h0 : wide (c.toNat : Int) = 0
  ·simp [faultAt, h0] at hs
   rw [← hs]
   exact (by decide : (30 : Int) ≠ 0)
  ·have hb : badF (c :: t) (c.toNat : Int) p ((wide (c.toNat : Int)).toNat - 1) 1 = some y := by simpa [faultAt, h0] using hs
   have := badF_pos _ _ _ _ _ _ hb
   omega
theorem form_lt {f : List Nat} {x : Nat} (h : Form f x) : x < 1114112 := by
 cases h <;> omega
structure RunSt (l : List UInt8) (i : Nat) (q : List Nat) : Prop where
 le : i ≤ l.length
 ok : (wrongF (l.length - i) (l.drop i) i).1 = 0
 ch : q ++ charsF (l.length - i) (l.drop i) = chars l
theorem run_start {l : List UInt8} (h : rightR l = true) : RunSt l 0 [] := ⟨Nat.zero_le _, of_decide_eq_true h, rfl⟩
theorem run_step {l : List UInt8} {i : Nat} {q : List Nat} (h : RunSt l i q) (hi : i < l.length) :
  faultAt (l.drop i) i = none ∧ 1 ≤ wideAt (l.drop i) ∧ i + wideAt (l.drop i) ≤ l.length ∧ runeN (l.drop i) < 1114112 ∧ RunSt l (i + wideAt (l.drop i)) (q ++ [runeN (l.drop i)]) := by
 have hne : l.drop i ≠ [] := fun e => by
  have := congrArg List.length e
  rw [List.length_drop] at this
  simp at this
  omega
 have hf : faultAt (l.drop i) i = none := by
  cases hs : faultAt (l.drop i) i with
  | none => rfl
  | some y =>
   exfalso
   have hok := h.ok
   obtain ⟨f, hf⟩ : ∃ f, l.length - i = f + 1 := ⟨l.length - i - 1, by omega⟩
   rw [hf, wrongF, scanF, hs] at hok
   exact fault_pos hne hs hok
 have hw := wideAt_pos _ _ hf
 have hl : i < l.length := hi
 have h1 : 1 ≤ wide (l[i].toNat : Int) := by
  rw [wideAt_drop hi] at hw
  omega
 have hb : badF (l.drop i) (l[i].toNat : Int) i ((wide (l[i].toNat : Int)).toNat - 1) 1 = none := by
  rw [faultAt_drop hi, if_neg (by omega)] at hf
  exact hf
 have hn := wrong_next hi h1 hb
 rw [← wideAt_drop hi] at hn
 refine ⟨hf, hw, hn.2, form_lt (good_head _ _ hf), hn.2, ?_, ?_⟩
 ·rw [← hn.1]
  exact h.ok
 ·rw [← h.ch]
  obtain ⟨f, hfu⟩ : ∃ f, l.length - i = f + 1 := ⟨l.length - i - 1, by omega⟩
  have hc : charsF (l.length - i) (l.drop i) = runeN (l.drop i) :: charsF f ((l.drop i).drop (wideAt (l.drop i))) := by
   rw [hfu]
   show (if wideAt (l.drop i) = 0 then [] else runeN (l.drop i) :: charsF f ((l.drop i).drop (wideAt (l.drop i)))) = _
   rw [if_neg (by omega)]
  rw [hc, List.append_assoc, List.drop_drop]
  exact congrArg (fun z => q ++ runeN (l.drop i) :: z) (charsF_fuel _ _ _ (by rw [List.length_drop]; omega) (by rw [List.length_drop]; omega))
theorem run_end {l : List UInt8} {i : Nat} {q : List Nat} (h : RunSt l i q) (hi : ¬ i < l.length) : q = chars l := by
 have := h.ch
 rw [List.drop_eq_nil_of_le (by omega)] at this
 have hz : charsF (l.length - i) [] = [] := by
  generalize l.length - i = f
  cases f
  ·rfl
  ·rfl
 rw [hz, List.append_nil] at this
 exact this
theorem chars_len_le : ∀ (f : Nat) (r : List UInt8), (charsF f r).length ≤ r.length
 | 0, r => Nat.zero_le _
 | f + 1, r => by
  show (if wideAt r = 0 then [] else runeN r :: charsF f (r.drop (wideAt r))).length ≤ _
  by_cases h0 : wideAt r = 0
  ·rw [if_pos h0]; exact Nat.zero_le _
  ·rw [if_neg h0, List.length_cons]
   have h := chars_len_le f (r.drop (wideAt r))
   rw [List.length_drop] at h
   have : r ≠ [] := fun e => h0 (by rw [e]; rfl)
   have := List.length_pos_iff.2 this
   omega
theorem info_i32 : (Tryz.prog.info? 21).map (fun i => (i.zero, i.size, i.bytes)) = some (some (.int .i32 0), 1, 4) := by kernel_rfl
theorem info_i64 : (Tryz.prog.info? 3).map (fun i => (i.zero, i.size, i.bytes)) = some (some (.int .i64 0), 1, 8) := by kernel_rfl
def i32V (x : Nat) : Value := .int .i32 (x : Int)
theorem own_apart {w : World} {B B' s s' n n' : Nat} {e e' : TypeId} {v v' : Value} {xs xs' : List Value} (h : w.ownsRow B e s v n xs) (h' : w.ownsRow B' e' s' v' n' xs') (he : e ≠ e') : v.ownBlock = none ∨ v.ownBlock ≠ v'.ownBlock := by
 rcases h.2 with ⟨rfl, _⟩ | ⟨g, cap, cur, rfl, _, hg, _⟩
 ·exact .inl rfl
 ·refine .inr fun e0 => ?_
  rcases h'.2 with ⟨rfl, _⟩ | ⟨g', cap', cur', rfl, _, hg', _⟩
  ·cases e0
  ·simp only [Value.ownBlock, Option.some.injEq] at e0
   subst e0
   rw [hg] at hg'
   injection hg' with h1
   injection h1 with _ h2 _
   exact he h2
theorem own_base {w : World} {B s n : Nat} {e : TypeId} {v : Value} {xs : List Value} (h : w.ownsRow B e s v n xs) (g : Nat) (hg : v.ownBlock = some g) : B ≤ g := by
 rcases h.2 with ⟨rfl, _⟩ | ⟨g', cap, cur, rfl, h1, _⟩
 ·cases hg
 ·simp only [Value.ownBlock, Option.some.injEq] at hg
  omega
structure RunW (l : List UInt8) (w : World) (i : Nat) (q : List Nat) (ats : List Value) (c4 c5 : Value) (wr : World) : Prop where
 st : RunSt l i q
 r4 : wr.ownsRow w.heap.size 21 1 c4 q.length (q.map i32V)
 r5 : wr.ownsRow w.heap.size 3 1 c5 q.length ats
 bl : Below w.heap.size w wr
theorem RunW.four {l : List UInt8} {w : World} {i : Nat} {q : List Nat} {ats : List Value} {c4 c5 c9 : Value} {wr w9 : World} {ob : Obj} {x : Nat} (h : RunW l w i q ats c4 c5 wr) (ho : w9.ownsRow w.heap.size 21 1 c9 (q.length + 1) (q.map i32V ++ [i32V x])) (hg : (wr.alloc ob).grownBy w9 c4.ownBlock) :
  w9.ownsRow w.heap.size 3 1 c5 q.length ats ∧ Below w.heap.size w w9 := by
 have hs := h.bl.size
 refine ⟨World.ownsRow.kept (h.r5.alloc _) hg (own_apart h.r5 h.r4 (by decide)), (h.bl.alloc hs _).grown hg (by simp; omega) (fun g hg => own_base h.r4 g hg)⟩
theorem RunW.five {l : List UInt8} {w : World} {i2 n : Nat} {q2 : List Nat} {ats : List Value} {c4 c5 c9 : Value} {wr w9 : World} {ob : Obj} {y : Value} (hst : RunSt l i2 q2) (hl : q2.length = n + 1) (h4 : wr.ownsRow w.heap.size 21 1 c4 (n + 1) (q2.map i32V)) (h5 : wr.ownsRow w.heap.size 3 1 c5 n ats) (hb : Below w.heap.size w wr) (ho : w9.ownsRow w.heap.size 3 1 c9 (n + 1) (ats ++ [y])) (hg : (wr.alloc ob).grownBy w9 c5.ownBlock) :
  RunW l w i2 q2 (ats ++ [y]) c4 c9 w9 := by
 have hs := hb.size
 refine ⟨hst, World.ownsRow.kept (by rw [hl]; exact h4.alloc _) hg (own_apart h4 h5 (by decide)), by rw [hl]; exact ho, (hb.alloc hs _).grown hg (by simp; omega) (fun g hg => own_base h5 g hg)⟩
theorem runes_any (s : ByteArray) (hs : s.size ≤ 1099511627776) (hr : rightR s.data.toList = true) (w : World) :
  Calls Tryz.prog 110 #[.string s] w fun e w' => (∃ v u, e = .returned (.tuple #[v, u]) ∧ w'.ownsRow w.heap.size 21 1 v (chars s.data.toList).length ((chars s.data.toList).map i32V)) ∧ Below w.heap.size w w' := by
 have H0 := Lib.hid (run_start hr)
 obtain ⟨i0, hi0, hz0, hz1, hz2⟩ := info_parts info_i32
 obtain ⟨j0, hj0, hy0, hy1, hy2⟩ := info_parts info_i64
 have hsz : s.data.toList.length = s.size := rfl
 have HSZ := Lib.hid hsz
 clear hr hsz
 go_enter Tryz.func110, Tryz.ntmps110
 go_wp2
 go_loopw [4, 5, 6] (fun c4 c5 c6 wr => ∃ (i : Nat) (q : List Nat) (ats : List Value), i ≤ s.size ∧ c6 = .int .i64 i ∧ q.length ≤ i ∧ ats.length = q.length ∧ Hid (RunW s.data.toList w i q ats c4 c5 wr)) (fun _ _ c6 _ => s.size - (intOf c6).toNat)
 case atStart => exact ⟨0, [], [], by omega, rfl, by simp, rfl, Lib.hid ⟨H0.out, World.ownsRow_nil _ _ _ _, World.ownsRow_nil _ _ _ _, Below.refl _ _⟩⟩
 case round =>
  obtain ⟨i, q, ats, his, rfl, hq, hats, HW⟩ := hrel
  by_cases hlt : i < s.size
  ·obtain ⟨hf, hw1, hw2, hrn, hst⟩ := run_step HW.out.st (by rw [HSZ.out]; exact hlt)
   have hat := at_right s i hlt (by omega) i wr hf
   rw [HSZ.out] at hw2
   have HAT := Lib.hid hat
   have HST := Lib.hid hst
   clear hf hat hst
   generalize runeN (s.data.toList.drop i) = x at *
   generalize wideAt (s.data.toList.drop i) = m at *
   obtain ⟨A4, q4, rfl⟩ := own_slice HW.out.r4
   obtain ⟨A5, q5, rfl⟩ := own_slice HW.out.r5
   go_upto_region 9 with (first | (go_at_call 149; refine HAT.out.mono ?_; rintro e w' ⟨rfl, rfl⟩) | (at_builtin; refine wpList_append_own _ rfl _ _ 36 rfl w.heap.size 21 i0 _ 1 4 Tryz.underlying36 hi0 hz0 hz1 hz2 rfl (by omega) (.slice A4 q.length q4) q.length (q.map i32V) rfl (HW.out.r4.alloc _) ⟨wr.heap.size, 0, none⟩ 1 1 [i32V x] rfl rfl (one_new _ _ _) (one_cell _ rfl) (by unfold maxLen; omega) (by omega) (by have := HW.out.bl.size; simp; omega) ?_; intro v9 w9 hown9 hgr9 hnil9))
   obtain ⟨A9, q9, rfl⟩ := own_slice hown9
   obtain ⟨h5, hb9⟩ := HW.out.four hown9 hgr9
   have hbs := hb9.size
   have h5' := h5.alloc (.cells #[.int .i64 i] 3)
   have H9 := Lib.hid hown9
   have H5 := Lib.hid h5
   have HB9 := Lib.hid hb9
   clear hown9 hgr9 hnil9 h5 hb9
   go_wp2_with (at_builtin; refine wpList_append_own _ rfl _ _ 149 rfl w.heap.size 3 j0 _ 1 8 Tryz.underlying149 hj0 hy0 hy1 hy2 rfl (by omega) (.slice A5 q.length q5) q.length ats rfl h5' ⟨w9.heap.size, 0, none⟩ 1 1 [.int .i64 i] rfl rfl (one_new _ _ _) (one_cell _ rfl) (by unfold maxLen; omega) (by omega) (by simp; omega) ?_; intro v8 w8 hown8 hgr8 hnil8)
   have HN : Hid (RunW s.data.toList w (i + m) (q ++ [x]) (ats ++ [.int .i64 i]) (.slice A9 (q.length + 1) q9) v8 w8) := Lib.hid (RunW.five HST.out (by simp) (by rw [List.map_append]; exact H9.out) H5.out HB9.out hown8 hgr8)
   clear hown8 hgr8 hnil8 h5'
   go_roundw
   case rel => exact ⟨i + m, q ++ [x], ats ++ [.int .i64 i], by omega, by go_num, by simp; omega, by simp [hats], HN⟩
   case measure => simp [intOf]; omega
  ·have HQ := Lib.hid (run_end HW.out.st (by rw [HSZ.out]; exact hlt))
   obtain rfl : i = s.size := by omega
   go_wp2
   go_ret2
   exact ⟨⟨_, _, rfl, by rw [← HQ.out]; exact HW.out.r4⟩, HW.out.bl⟩
end Nd
end Go.Proofs.YtbajkglacfheiaaGreatDoor
namespace Go.Proofs.YtbajkglacfheiaaGreatDoor
open Go.RowKit Mem Ref3
namespace Nd
theorem own_lower {w : World} {B B' size n : Nat} {e : TypeId} {v : Value} {xs : List Value} (h : w.ownsRow B' e size v n xs) (hB : B ≤ B') : w.ownsRow B e size v n xs :=
 ⟨h.1, h.2.imp id fun ⟨g, cap, cur, e1, e2, e3⟩ => ⟨g, cap, cur, e1, Nat.le_trans hB e2, e3⟩⟩
theorem row_new (w : World) (cs : List Value) (t : TypeId) : ∀ j u, cs[j]? = some u → (w.alloc (.cells cs.toArray t)).cell? ((⟨w.heap.size, 0, none⟩ : Addr).add j) = some u := by
 intro j u hj
 have e1 : (⟨w.heap.size, 0, none⟩ : Addr).add j = ⟨w.heap.size, j, none⟩ := by
  unfold Addr.add
  split <;> simp_all
 rw [e1, (Blk.new w t cs.toArray).cell]
 simpa using hj
theorem info_u16 : (Tryz.prog.info? 131).map (fun i => (i.zero, i.size, i.bytes)) = some (some (.int .u16 0), 1, 2) := by kernel_rfl
def u16V (x : Nat) : Value := .int .u16 (x : Int)
def unitsL (xs : List Nat) : List Nat := xs.flatMap unitsN
theorem units_snoc (xs : List Nat) (k : Nat) (h : k < xs.length) : unitsL (xs.take (k + 1)) = unitsL (xs.take k) ++ unitsN xs[k] := by
 unfold unitsL
 rw [List.take_succ_eq_append_getElem h, List.flatMap_append]
 simp
theorem unitsN_len (x : Nat) : (unitsN x).length ≤ 2 := by
 unfold unitsN
 split <;> simp
theorem units_len : ∀ xs : List Nat, (unitsL xs).length ≤ 2 * xs.length
 | [] => Nat.le_refl _
 | x :: xs => by
  have h := units_len xs
  have h2 := unitsN_len x
  unfold unitsL at h ⊢
  rw [List.flatMap_cons, List.length_append, List.length_cons]
  omega
theorem chars_lt : ∀ (f : Nat) (r : List UInt8) (p : Int), r.length ≤ f → (wrongF f r p).1 = 0 → ∀ x ∈ charsF f r, x < 1114112 := by
 intro f r p hl h
 have hc := wrong_chars f r p hl h
 generalize charsF f r = xs at hc
 generalize r.map UInt8.toNat = a at hc
 clear hl h
 induction hc with
 | nil => intro x hx; cases hx
 | cons hf _ ih =>
  intro x hx
  rcases List.mem_cons.1 hx with rfl | hx
  ·exact form_lt hf
  ·exact ih x hx
theorem own_at {w : World} {B n c : Nat} {e : TypeId} {A : Option Addr} {xs : List Value} (h : w.ownsRow B e 1 (.slice A n c) n xs) {j : Nat} (hj : j < n) : ∃ g, A = some ⟨g, 0, none⟩ ∧ w.cell? ⟨g, j, none⟩ = xs[j]? := by
 have hl := h.1
 rcases h.2 with ⟨hv, h0⟩ | ⟨g, cap, cur, hv, _, hg, _, _, hs, ht⟩
 ·omega
 ·injection hv with h1 _ _
  refine ⟨g, h1, ?_⟩
  rw [cell_of_row w g _ cur _ _ hg, ← ht, List.getElem?_take, if_pos (by omega)]
  simp
theorem w64_id {n : Int} (h : -9223372036854775808 ≤ n ∧ n ≤ 9223372036854775807) : wrap64 n = n := by
 unfold wrap64
 omega
theorem pair_hi {x : Nat} (h : ¬ x < 65536) (h2 : x < 1114112) : IntKind.u16.wrap (wrap64 (55296 + wrap64 ((wrap64 ((x : Int) - 65536)).tdiv 1024))) = ((55296 + (x - 65536) / 1024 : Nat) : Int) := by
 obtain ⟨y, rfl⟩ : ∃ y, x = y + 65536 := ⟨x - 65536, by omega⟩
 have e1 : (((y + 65536 : Nat) : Int) - 65536) = (y : Int) := by omega
 rw [e1, w64_id (n := (y : Int)) (by omega), Int.tdiv_eq_ediv_of_nonneg (by omega), w64_id (n := (y : Int) / 1024) (by omega), w64_id (by omega), IntWalk.u16_in _ (by omega)]
 omega
theorem pair_lo {x : Nat} (h : ¬ x < 65536) (h2 : x < 1114112) : IntKind.u16.wrap (wrap64 (56320 + (wrap64 ((x : Int) - 65536)).tmod 1024)) = ((56320 + (x - 65536) % 1024 : Nat) : Int) := by
 obtain ⟨y, rfl⟩ : ∃ y, x = y + 65536 := ⟨x - 65536, by omega⟩
 have e1 : (((y + 65536 : Nat) : Int) - 65536) = (y : Int) := by omega
 rw [e1, w64_id (n := (y : Int)) (by omega), Int.tmod_eq_emod_of_nonneg (by omega), w64_id (by omega), IntWalk.u16_in _ (by omega)]
 omega
theorem two_cells (a b : Value) (ha : a.oneCell' = true) (hb : b.oneCell' = true) : ∀ u ∈ [a, b], u.oneCell' = true := by
 intro u hu
 rcases List.mem_cons.1 hu with rfl | hu
 ·exact ha
 ·exact one_cell _ hb u hu
theorem units_any (s : ByteArray) (hs : s.size ≤ 1099511627776) (hr : rightR s.data.toList = true) (w : World) :
  Calls Tryz.prog 111 #[.string s] w fun e w' => (∃ v, e = .returned v ∧ w'.ownsRow w.heap.size 131 1 v (unitsL (chars s.data.toList)).length ((unitsL (chars s.data.toList)).map u16V)) ∧ Below w.heap.size w w' := by
 obtain ⟨i0, hi0, hz0, hz1, hz2⟩ := info_parts info_u16
 have hcl : (chars s.data.toList).length ≤ s.size := chars_len_le _ _
 have hct : ∀ x ∈ chars s.data.toList, x < 1114112 := chars_lt _ _ 0 (Nat.le_refl _) (of_decide_eq_true hr)
 have HR := runes_any s hs hr w
 have HRR := Lib.hid HR
 clear HR hr
 generalize chars s.data.toList = cs at *
 have HCT := Lib.hid hct
 clear hct
 go_enter Tryz.func111, Tryz.ntmps111
 go_wp2_with (go_at_call 110; refine HRR.out.mono ?_; rintro e w1 ⟨⟨v1, u1, rfl, ho1⟩, hb1⟩)
 obtain ⟨A1, q1, rfl⟩ := own_slice ho1
 have HO1 := Lib.hid ho1
 have HB1 := Lib.hid hb1
 have hs1 := hb1.size
 clear ho1 hb1
 go_loopw [3, 6] (fun c3 c6 wr => ∃ (k n : Nat) (us : List Nat), k ≤ cs.length ∧ c6 = .int .i64 k ∧ n ≤ 2 * cs.length ∧ us.length = n ∧ us = unitsL (cs.take k) ∧ Hid (wr.ownsRow w1.heap.size 131 1 c3 n (us.map u16V) ∧ Below w1.heap.size w1 wr)) (fun _ c6 _ => cs.length - (intOf c6).toNat)
 case atStart => exact ⟨0, 0, [], Nat.zero_le _, rfl, by omega, rfl, rfl, Lib.hid ⟨World.ownsRow_nil _ _ _ _, Below.refl _ _⟩⟩
 case round =>
  obtain ⟨k, n, us, hk, rfl, hn, hus, hu, HI⟩ := hrel
  by_cases hlt : k < cs.length
  ·obtain ⟨g1, rfl, hc1⟩ := own_at (own_below HO1.out HI.out.2) hlt
   rw [List.getElem?_map, List.getElem?_eq_getElem hlt] at hc1
   have hsn := units_snoc cs k hlt
   rw [← hu] at hsn
   have hx := HCT.out _ (List.getElem_mem hlt)
   have hlen := units_len (cs.take (k + 1))
   rw [List.length_take] at hlen
   have HSN := Lib.hid hsn
   clear hsn hu
   generalize cs[k] = x at *
   have hc1' : wr.cell? ⟨g1, k, none⟩ = some (.int .i32 x) := hc1
   clear hc1
   obtain ⟨A3, q3, rfl⟩ := own_slice HI.out.1
   have HX := Lib.hid hx
   clear hx
   have hws := HI.out.2.size
   by_cases hlow : x < 65536
   ·have hd : ((x : Int) < 65536) = True := eq_true (by omega)
    have hw : IntKind.i64.wrap (x : Int) = (x : Int) := IntWalk.i64_in _ (by omega)
    have hwu : IntKind.u16.wrap (x : Int) = (x : Int) := IntWalk.u16_in _ (by omega)
    have HU : Hid (unitsN x = [x]) := Lib.hid (units_low hlow)
    clear hlow
    go_wp2_with (at_builtin; refine wpList_append_own _ rfl _ _ 39 rfl w1.heap.size 131 i0 _ 1 2 Tryz.underlying39 hi0 hz0 hz1 hz2 rfl (by omega) (.slice A3 n q3) n (us.map u16V) rfl (HI.out.1.alloc _) ⟨wr.heap.size, 0, none⟩ 1 1 [u16V x] rfl rfl (one_new _ _ _) (one_cell _ rfl) (by unfold maxLen; omega) (by omega) (by simp; omega) ?_; intro v9 w9 hown9 hgr9 hnil9)
    have HN : Hid (w9.ownsRow w1.heap.size 131 1 v9 (n + 1) ((us ++ [x]).map u16V) ∧ Below w1.heap.size w1 w9) := Lib.hid ⟨by rw [List.map_append]; exact hown9, (HI.out.2.alloc hws _).grown hgr9 (by simp; omega) (fun g hg => own_base HI.out.1 g hg)⟩
    clear hown9 hgr9 hnil9
    go_roundw
    case rel => exact ⟨k + 1, n + 1, us ++ [x], by omega, by go_num, by have := HSN.out; rw [HU.out] at this; rw [this] at hlen; simp at hlen; omega, by simp [hus], by rw [HSN.out, HU.out], HN⟩
    case measure => simp [intOf]; omega
   ·have hd : ((x : Int) < 65536) = False := eq_false (by omega)
    have hw : IntKind.i64.wrap (x : Int) = (x : Int) := IntWalk.i64_in _ (by have := HX.out; omega)
    have HU : Hid (unitsN x = [55296 + (x - 65536) / 1024, 56320 + (x - 65536) % 1024]) := Lib.hid (units_high hlow)
    have HA := Lib.hid (pair_hi hlow HX.out)
    have HB := Lib.hid (pair_lo hlow HX.out)
    clear hlow
    go_wp2_with (at_builtin; rw [HA.out, HB.out]; refine wpList_append_own _ rfl _ _ 39 rfl w1.heap.size 131 i0 _ 1 2 Tryz.underlying39 hi0 hz0 hz1 hz2 rfl (by omega) (.slice A3 n q3) n (us.map u16V) rfl (HI.out.1.alloc _) ⟨wr.heap.size, 0, none⟩ 2 2 [u16V (55296 + (x - 65536) / 1024), u16V (56320 + (x - 65536) % 1024)] rfl rfl (row_new _ [_, _] _) (two_cells _ _ rfl rfl) (by unfold maxLen; omega) (by omega) (by simp; omega) ?_; intro v9 w9 hown9 hgr9 hnil9)
    have HN : Hid (w9.ownsRow w1.heap.size 131 1 v9 (n + 2) ((us ++ [55296 + (x - 65536) / 1024, 56320 + (x - 65536) % 1024]).map u16V) ∧ Below w1.heap.size w1 w9) := Lib.hid ⟨by rw [List.map_append]; exact hown9, (HI.out.2.alloc hws _).grown hgr9 (by simp; omega) (fun g hg => own_base HI.out.1 g hg)⟩
    clear hown9 hgr9 hnil9
    go_roundw
    case rel => exact ⟨k + 1, n + 2, us ++ [55296 + (x - 65536) / 1024, 56320 + (x - 65536) % 1024], by omega, by go_num, by have := HSN.out; rw [HU.out] at this; rw [this] at hlen; simp at hlen; omega, by simp [hus], by rw [HSN.out, HU.out], HN⟩
    case measure => simp [intOf]; omega
  ·obtain rfl : k = cs.length := by omega
   rw [List.take_of_length_le (Nat.le_refl _)] at hu
   subst hu
   subst hus
   go_wp2
   go_ret
   exact ⟨⟨_, rfl, own_lower HI.out.1 hs1⟩, HB1.out.trans (HI.out.2.mono hs1)⟩
end Nd
end Go.Proofs.YtbajkglacfheiaaGreatDoor
namespace Go.Proofs.YtbajkglacfheiaaGreatDoor
open Go.RowKit Mem Ref3
namespace Nd
theorem cmpU_drop {u v : List Nat} {i : Nat} (h1 : i < u.length) (h2 : i < v.length) : cmpU (u.drop i) (v.drop i) = if u[i] < v[i] then -1 else if v[i] < u[i] then 1 else cmpU (u.drop (i + 1)) (v.drop (i + 1)) := by
 rw [List.drop_eq_getElem_cons h1, List.drop_eq_getElem_cons h2]
 rfl
theorem cmpU_left {u v : List Nat} {i : Nat} (h1 : i = u.length) (h2 : i < v.length) : cmpU (u.drop i) (v.drop i) = -1 := by
 rw [List.drop_eq_nil_of_le (by omega), List.drop_eq_getElem_cons h2]
 rfl
theorem cmpU_right {u v : List Nat} {i : Nat} (h1 : i < u.length) (h2 : i = v.length) : cmpU (u.drop i) (v.drop i) = 1 := by
 rw [show v.drop i = [] from List.drop_eq_nil_of_le (by omega), List.drop_eq_getElem_cons h1]
 rfl
theorem cmpU_both {u v : List Nat} {i : Nat} (h1 : i = u.length) (h2 : i = v.length) : cmpU (u.drop i) (v.drop i) = 0 := by
 rw [List.drop_eq_nil_of_le (by omega), List.drop_eq_nil_of_le (by omega)]
 rfl
structure CmpW (W w : World) (U V : List Nat) (v1 v2 : Value) (wr : World) : Prop where
 r1 : wr.ownsRow W.heap.size 131 1 v1 U.length (U.map u16V)
 r2 : wr.ownsRow W.heap.size 131 1 v2 V.length (V.map u16V)
 bl : Below W.heap.size W wr
theorem CmpW.drew {W w : World} {U V : List Nat} {v1 v2 : Value} {wr : World} (h : CmpW W w U V v1 v2 wr) (n : Nat) : CmpW W w U V v1 v2 (wr.drewN n) :=
 ⟨h.r1, h.r2, h.bl.trans (drewN_below _ _)⟩
theorem refCompare_any (a b : ByteArray) (hla : a.size ≤ 1099511627776) (hlb : b.size ≤ 1099511627776) (ha : rightR a.data.toList = true) (hb : rightR b.data.toList = true) (w : World) :
  Calls Tryz.prog 224 #[.string a, .string b] w fun e w' => e = .returned (.int .i64 (cmpL a.data.toList b.data.toList)) ∧ Below w.heap.size w w' := by
 have hU := units_any a hla ha
 have hV := units_any b hlb hb
 have hca : (unitsL (chars a.data.toList)).length ≤ 2 * a.size := by
  have h1 := units_len (chars a.data.toList)
  have h2 : (chars a.data.toList).length ≤ a.size := chars_len_le _ _
  omega
 have hcb : (unitsL (chars b.data.toList)).length ≤ 2 * b.size := by
  have h1 := units_len (chars b.data.toList)
  have h2 : (chars b.data.toList).length ≤ b.size := chars_len_le _ _
  omega
 have hcmp : cmpU (unitsL (chars a.data.toList)) (unitsL (chars b.data.toList)) = cmpL a.data.toList b.data.toList := units_cmp ha hb
 have HRA := Lib.hid (refRight_any a (by omega))
 have HRB := Lib.hid (refRight_any b (by omega))
 have HU := Lib.hid hU
 have HV := Lib.hid hV
 have HA := Lib.hid ha
 have HB := Lib.hid hb
 have HC := Lib.hid hcmp
 clear hU hV ha hb hcmp
 generalize unitsL (chars a.data.toList) = U at *
 generalize unitsL (chars b.data.toList) = V at *
 go_enter Tryz.func224, Tryz.ntmps224
 go_wp2_with fail
 refine (HRA.out _).mono ?_
 rintro e w' ⟨rfl, rfl⟩
 rw [HA.out]
 go_wp2_with fail
 refine (HRB.out _).mono ?_
 rintro e w' ⟨rfl, rfl⟩
 rw [HB.out]
 go_wp2_with fail
 refine (HU.out _).mono ?_
 rintro e w1 ⟨⟨v1, rfl, ho1⟩, hb1⟩
 obtain ⟨A1, q1, rfl⟩ := own_slice ho1
 go_wp2_with fail
 refine (HV.out _).mono ?_
 rintro e w2 ⟨⟨v2, rfl, ho2⟩, hb2⟩
 obtain ⟨A2, q2, rfl⟩ := own_slice ho2
 have hs1 := hb1.size
 have HW : Hid (CmpW w w U V (.slice A1 U.length q1) (.slice A2 V.length q2) w2) := Lib.hid ⟨own_below ho1 hb2, own_lower ho2 hs1, hb1.trans (hb2.mono hs1)⟩
 clear ho1 ho2 hb1 hb2
 go_wp2
 go_loopw [9] (fun c9 wr => ∃ i : Nat, i ≤ U.length ∧ i ≤ V.length ∧ c9 = .int .i64 i ∧ Hid (cmpU (U.drop i) (V.drop i) = cmpU U V) ∧ Hid (CmpW w w U V (.slice A1 U.length q1) (.slice A2 V.length q2) wr)) (fun c9 _ => U.length - (intOf c9).toNat)
 case atStart => exact ⟨0, Nat.zero_le _, Nat.zero_le _, rfl, Lib.hid rfl, HW⟩
 case round =>
  obtain ⟨i, hi1, hi2, rfl, HI, HQ⟩ := hrel
  clear HW
  by_cases h1 : i < U.length
  ·by_cases h2 : i < V.length
   ·obtain ⟨g1, rfl, hc1⟩ := own_at HQ.out.r1 h1
    obtain ⟨g2, rfl, hc2⟩ := own_at HQ.out.r2 h2
    rw [List.getElem?_map, List.getElem?_eq_getElem h1] at hc1
    rw [List.getElem?_map, List.getElem?_eq_getElem h2] at hc2
    have hst := cmpU_drop h1 h2
    rw [HI.out, HC.out] at hst
    generalize U[i] = x at *
    generalize V[i] = y at *
    have hc1' : wr.cell? ⟨g1, i, none⟩ = some (.int .u16 x) := hc1
    have hc2' : wr.cell? ⟨g2, i, none⟩ = some (.int .u16 y) := hc2
    clear hc1 hc2
    have HD := Lib.hid (HQ.out.drew)
    by_cases hxy : x < y
    ·rw [if_pos hxy] at hst
     have HS := Lib.hid hst
     have hd : ((x : Int) < (y : Int)) = True := eq_true (by omega)
     clear hst hxy
     go_wp2_with fail
     go_quiet (fail)
     go_wp2
     go_ret
     exact ⟨by rw [HS.out]; rfl, (HD.out _).bl⟩
    ·by_cases hyx : y < x
     ·rw [if_neg hxy, if_pos hyx] at hst
      have HS := Lib.hid hst
      have hd : ((x : Int) < (y : Int)) = False := eq_false (by omega)
      have hd2 : ((y : Int) < (x : Int)) = True := eq_true (by omega)
      clear hst hxy hyx
      go_wp2_with fail
      go_quiet (fail)
      go_wp2_with fail
      go_quiet (fail)
      go_wp2
      go_ret
      exact ⟨by rw [HS.out]; rfl, ((HD.out _).drew _).bl⟩
     ·rw [if_neg hxy, if_neg hyx] at hst
      have HS : Hid (cmpU (U.drop (i + 1)) (V.drop (i + 1)) = cmpU U V) := Lib.hid (by rw [HC.out]; exact hst.symm)
      have hd : ((x : Int) < (y : Int)) = False := eq_false (by omega)
      have hd2 : ((y : Int) < (x : Int)) = False := eq_false (by omega)
      clear hst hxy hyx
      go_wp2_with fail
      go_quiet (fail)
      go_wp2_with fail
      go_quiet (fail)
      go_wp2
      go_roundw
      case rel => exact ⟨i + 1, by omega, by omega, by go_num, HS, Lib.hid (HD.out _)⟩
      case measure => simp [intOf]; omega
   ·have hst := cmpU_right h1 (by omega : i = V.length)
    rw [HI.out, HC.out] at hst
    have HS := Lib.hid hst
    have hd : ((U.length : Int) < (V.length : Int)) = False := eq_false (by omega)
    have hd2 : ((V.length : Int) < (U.length : Int)) = True := eq_true (by omega)
    clear hst
    go_wp2
    go_ret
    exact ⟨by rw [HS.out]; rfl, HQ.out.bl⟩
  ·by_cases h2 : i < V.length
   ·have hst := cmpU_left (by omega : i = U.length) h2
    rw [HI.out, HC.out] at hst
    have HS := Lib.hid hst
    have hd : ((U.length : Int) < (V.length : Int)) = True := eq_true (by omega)
    clear hst
    go_wp2
    go_ret
    exact ⟨by rw [HS.out]; rfl, HQ.out.bl⟩
   ·have hst := cmpU_both (by omega : i = U.length) (by omega : i = V.length)
    rw [HI.out, HC.out] at hst
    have HS := Lib.hid hst
    have hd : ((U.length : Int) < (V.length : Int)) = False := eq_false (by omega)
    have hd2 : ((V.length : Int) < (U.length : Int)) = False := eq_false (by omega)
    clear hst
    go_wp2
    go_ret
    exact ⟨by rw [HS.out]; rfl, HQ.out.bl⟩
end Nd
end Go.Proofs.YtbajkglacfheiaaGreatDoor
