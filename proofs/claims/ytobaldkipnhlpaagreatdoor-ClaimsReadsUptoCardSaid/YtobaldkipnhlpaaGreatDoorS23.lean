/-
  Walks of package claims: what reads a list of texts, or a text alone.
  Walk of the reference of layer 13: Figures.
-/
import Derived.Test.YtobaldkipnhlpaaGreatDoorS22
import Derived.Test.YtobaldkipnhlpaaGreatDoorS21
import Derived.Test.YtobaldkipnhlpaaGreatDoorS10
import Derived.Test.YtobaldkipnhlpaaGreatDoorS16
import Derived.LoopTactic
import Derived.Lib.ItoaLen
import Derived.Laws.BytesArg
set_option linter.unusedVariables false
set_option linter.unusedSimpArgs false
set_option maxRecDepth 100000
set_option maxHeartbeats 16000000
namespace Go.Proofs.YtobaldkipnhlpaaGreatDoor
open Go.RowKit Mem Utf Ref3 Idx Tok TokC Cl
namespace Nd
theorem own_baseR {w : World} {B B' size n : Nat} {e : TypeId} {v : Value} {xs : List Value} (h : w.ownsRow B e size v n xs) (hB : B' ≤ B) : w.ownsRow B' e size v n xs := by
 obtain ⟨h1, h2⟩ := h
 refine ⟨h1, ?_⟩
 rcases h2 with h2 | ⟨g, cap, cur, a, b, c⟩
 ·exact .inl h2
 ·exact .inr ⟨g, cap, cur, a, Nat.le_trans hB b, c⟩
def TabP (w : World) : Prop := Lib.TabIs Tryz.prog w "internal/strconv.uint64pow10" .u64 Lib.pow10Tab
theorem TabP.next {w w' : World} (h : TabP w) (hb : Below w.heap.size w w') : TabP w' := Joins.var_stays gPow h hb (Nat.le_refl _)
theorem itoaP_any (n : Int) (h0 : -9223372036854775808 ≤ n) (h1 : n ≤ 9223372036854775807) (w : World) (hg : TabP w) :
  Calls Tryz.prog 97 #[.int .i64 n] w fun e w' => e = .returned (.string ⟨(Lib.itoa n).toArray⟩) ∧ Below w.heap.size w w' :=
 (Tryz.strconv_Itoa n h0 h1 w hg).mono fun e w' ⟨he, k, os, hw⟩ => ⟨he, by rw [hw]; exact Lib.below_grow _ _ (Nat.le_refl _) _ _⟩
theorem ctrail_b (n : Int) (p : ByteArray) (w : World) : Calls Tryz.prog 23 #[.int .i64 n, .string p] w fun e w' => e = .returned (.iface 119 (.agg #[.int .i64 n, .string p])) ∧ w = w' := by
 go_enter Tryz.func23, Tryz.ntmps23
 go_wp2
 go_ret
 exact ⟨rfl, rfl⟩
theorem textsOf_bad : ∀ (ts : List Txt) (t : Tr) (r : List Tr) (i : Nat), t.isTx = false → textsOf (ts.map .text ++ t :: r) i = .inl (i + ts.length)
 | [], t, r, i, h => by
  cases t with
  | text s => cases h
  | null => rfl
  | flag b => rfl
  | num b => rfl
  | list b => rfl
  | obj a b => rfl
 | s :: ts, t, r, i, h => by
  rw [List.map_cons, List.cons_append, textsOf, textsOf_bad ts t r (i + 1) h]
  simp
  omega
theorem twice_go : ∀ (l p : List Txt) (i : Nat), twiceAt p l i = (match l with | [] => none | s :: r => if inB p s = true then some i else twiceAt (p ++ [s]) r (i + 1))
 | [], _, _ => rfl
 | _ :: _, _, _ => rfl
theorem twice_drop {l : List Txt} {k : Nat} (hk : k < l.length) : twiceAt (l.take k) (l.drop k) k = if inB (l.take k) l[k] = true then some k else twiceAt (l.take (k + 1)) (l.drop (k + 1)) (k + 1) := by
 rw [List.drop_eq_getElem_cons hk, twice_go]
 dsimp only
 rw [List.take_succ_eq_append_getElem hk]
theorem clist_one (s : Txt) (v : Value) (g o : Nat) (ty : TypeId) (cs : Array Value) (p : Txt) (w : World) (h : RdA w (.text s) v) (hB : Blk w g ty cs) (ho : o < cs.size) :
  Calls Tryz.prog 56 #[.pointer (some ⟨g, o, none⟩), .agg #[v], .string ⟨p.toArray⟩, .bool true] w fun e w' => e = .returned .nilIface ∧ w.grownBy w' (some g) ∧ ∃ u, w'.ownsRow w.heap.size 9 1 u 1 [strV s] ∧ Blk w' g ty (cs.setIfInBounds o u) := by
 have hx := ref_box w v
 have c1 := (Blk.new w 93 #[v]).cell 0
 have HB := Lib.hid hB
 have HO := Lib.hid ho
 have HH := Lib.hid (rda_below h hx)
 have HX := Lib.hid hx
 have HC1 := Lib.hid (Blk.new w 93 #[v])
 clear hB ho h hx
 go_enter Tryz.func56, Tryz.ntmps56
 go_wp2_with fail
 ((with_reducible refine (textr_any (fun _ => True) (.text s) v _ HH.out).mono ?_); rintro e w2 ⟨rfl, hb2⟩)
 dsimp only [Tr.tx, Tr.isTx]
 have HB2 := Lib.hid (HX.out.trans (hb2.mono HX.out.size))
 have hbn : Below w2.heap.size w2 (w2.alloc (.cells #[.string ⟨s.toArray⟩] 9)) := (Below.refl _ _).alloc (Nat.le_refl _) _
 have HBN := Lib.hid (HB2.out.trans (hbn.mono HB2.out.size))
 have HBZ := Lib.hid (Blk.new w2 9 #[.string ⟨s.toArray⟩])
 obtain ⟨x0, hx0⟩ := blk_some (HB.out.below HBN.out HB.out.lt) HO.out
 have hz0 := (HB.out.below HBN.out HB.out.lt).frozen o
 have hg2 : g ≠ w2.heap.size := by have := HB.out.lt; have := HB2.out.size; omega
 have HG2 := Lib.hid hg2
 clear hb2 c1 hbn hg2
 go_wp2
 go_ret
 refine ⟨rfl, grown_put (grown_of_below HBN.out (some g)) o _, _, ?_, (HB.out.below HBN.out HB.out.lt).put o _⟩
 exact ⟨rfl, .inr ⟨w2.heap.size, 1, _, rfl, HB2.out.size, HBZ.out.far (fun e => HG2.out e.symm) _, by omega, by unfold maxLen; omega, rfl, rfl⟩⟩
theorem clist_sort (t : Tr) (ht : ¬ (t.srt : Int) = 5) (v : Value) (g o : Nat) (ty : TypeId) (cs : Array Value) (p : Txt) (al : Bool) (w : World) (ha : (t.isTx && al) = false) (h : RdA w t v) (hB : Blk w g ty cs) (ho : o < cs.size) :
  Calls Tryz.prog 56 #[.pointer (some ⟨g, o, none⟩), .agg #[v], .string ⟨p.toArray⟩, .bool al] w fun e w' => e = .returned (tlV (5, p)) ∧ Below w.heap.size w w' := by
 have hx := ref_box w v
 have c1 := (Blk.new w 93 #[v]).cell 0
 have HB := Lib.hid hB
 have HO := Lib.hid ho
 have HH := Lib.hid (rda_below h hx)
 have HX := Lib.hid hx
 have HC1 := Lib.hid (Blk.new w 93 #[v])
 have hs5 : ((t.srt : Int) != 5) = true := by simpa using ht
 clear hB ho h hx ht
 generalize hT : t.isTx = tx at ha
 have HTX := Lib.hid hT
 clear hT
 go_enter Tryz.func56, Tryz.ntmps56
 go_wp2_with fail
 ((with_reducible refine (textr_any (fun _ => True) t v _ HH.out).mono ?_); rintro e w2 ⟨rfl, hb2⟩)
 rw [HTX.out]
 have HB2 := Lib.hid (HX.out.trans (hb2.mono HX.out.size))
 have c1 := (HC1.out.below hb2 HC1.out.lt).cell 0
 have HR2 := Lib.hid (rda_below HH.out hb2)
 clear hb2
 simp at c1
 rcases Bool.eq_false_or_eq_true tx with hx1 | hx1 <;> subst hx1 <;> (try (have ha' : al = false := by simpa using ha)) <;> (try subst ha') <;> clear ha
 all_goals
  go_wp2_with fail
  ((with_reducible refine (sort_any (fun _ => True) t v _ HR2.out).mono ?_); rintro e w3 ⟨rfl, hb3⟩)
  have HB3 := Lib.hid (HB2.out.trans (hb3.mono HB2.out.size))
  clear hb3 c1
  go_wp2_with fail
  ((with_reducible refine (ctrail_any 5 p _).mono ?_); rintro e w4 ⟨rfl, rfl⟩)
  go_wp2
  go_ret
  exact ⟨rfl, HB3.out⟩
def ClP (g : Nat) (ty : TypeId) (cs : Array Value) (o : Nat) (p : Txt) (l : List Tr) (w : World) (e : Ending) (w' : World) : Prop :=
 match textsOf l 0 with
 | .inl j => e = .returned (tlV (5, p ++ 47 :: Lib.itoa ((j : Nat) : Int))) ∧ Below w.heap.size w w'
 | .inr ts => match twiceAt [] ts 0 with
  | some i => e = .returned (tlV (101, p ++ 47 :: Lib.itoa ((i : Nat) : Int))) ∧ Below w.heap.size w w'
  | none => e = .returned .nilIface ∧ w.grownBy w' (some g) ∧ ∃ u, w'.ownsRow w.heap.size 9 1 u ts.length (ts.map strV) ∧ Blk w' g ty (cs.setIfInBounds o u)
section
variable {g : Nat} {ty : TypeId} {cs : Array Value} {o : Nat} {p : Txt} {l : List Tr} {w w' : World}
theorem clP_bad {j : Nat} (h : textsOf l 0 = .inl j) (hb : Below w.heap.size w w') : ClP g ty cs o p l w (.returned (tlV (5, p ++ 47 :: Lib.itoa ((j : Nat) : Int)))) w' := by
 unfold ClP
 rw [h]
 exact ⟨rfl, hb⟩
theorem clP_twice {ts : List Txt} {i : Nat} (h : textsOf l 0 = .inr ts) (h2 : twiceAt [] ts 0 = some i) (hb : Below w.heap.size w w') : ClP g ty cs o p l w (.returned (tlV (101, p ++ 47 :: Lib.itoa ((i : Nat) : Int)))) w' := by
 unfold ClP
 rw [h]
 dsimp only
 rw [h2]
 exact ⟨rfl, hb⟩
theorem clP_ok {ts : List Txt} (h : textsOf l 0 = .inr ts) (h2 : twiceAt [] ts 0 = none) {u : Value} (hg : w.grownBy w' (some g)) (hu : w'.ownsRow w.heap.size 9 1 u ts.length (ts.map strV)) (hB : Blk w' g ty (cs.setIfInBounds o u)) : ClP g ty cs o p l w (.returned .nilIface) w' := by
 unfold ClP
 rw [h]
 dsimp only
 rw [h2]
 exact ⟨rfl, hg, u, hu, hB⟩
end
theorem itoa_tl (n : Int) (p : Txt) (i : Int) : Value.iface 119 (.agg #[.int .i64 n, .string ((⟨p.toArray⟩ ++ ⟨#[47]⟩) ++ ⟨(Lib.itoa i).toArray⟩)]) = tlV (n, p ++ 47 :: Lib.itoa i) := by
 unfold tlV
 have e : ((⟨p.toArray⟩ : ByteArray) ++ ⟨#[47]⟩) ++ ⟨(Lib.itoa i).toArray⟩ = ⟨(p ++ 47 :: Lib.itoa i).toArray⟩ := by
  apply ByteArray.ext
  simp
 rw [e]
theorem run_cat (x y : ByteArray) (h : x.size + y.size ≤ 9223372036854775807) (W : World) : (binOp .add 9 (.string x) (.string y)).run Tryz.prog W = .ok (.string (x ++ y)) W := by
 have h' : ¬ ((x.size + y.size : Nat) : Int) > IntKind.i64.max := by
  have e : IntKind.i64.max = 9223372036854775807 := by decide
  rw [e]
  omega
 have e : (binOp .add 9 (.string x) (.string y)) = Go.Op.stringOp .add x y := rfl
 rw [e]
 unfold Go.Op.stringOp
 simp only [if_neg h']
 rfl
theorem cat_place (p : Txt) (hp : p.length ≤ 1048576) : ∃ b1 : ByteArray, (∀ W, (binOp .add 9 (.string ⟨p.toArray⟩) (.string ⟨#[47]⟩)).run Tryz.prog W = .ok (.string b1) W) ∧ ∀ i : Int, 0 ≤ i → i ≤ 65536 → (∀ W, (binOp .add 9 (.string b1) (.string ⟨(Lib.itoa i).toArray⟩)).run Tryz.prog W = .ok (.string ⟨(p ++ 47 :: Lib.itoa i).toArray⟩) W) := by
 have s1 : (ByteArray.mk p.toArray).size = p.length := by show p.toArray.size = _; simp
 have s2 : (ByteArray.mk #[47]).size = 1 := rfl
 refine ⟨⟨p.toArray⟩ ++ ⟨#[47]⟩, fun W => run_cat _ _ (by rw [s1, s2]; omega) W, fun i h0 h1 W => ?_⟩
 have hl := Lib.itoa_length_le i (by omega) (by omega)
 have s3 : (ByteArray.mk (Lib.itoa i).toArray).size = (Lib.itoa i).length := by show (Lib.itoa i).toArray.size = _; simp
 rw [run_cat _ _ (by rw [ByteArray.size_append, s1, s2, s3]; omega) W]
 have e : ((⟨p.toArray⟩ : ByteArray) ++ ⟨#[47]⟩) ++ ⟨(Lib.itoa i).toArray⟩ = ⟨(p ++ 47 :: Lib.itoa i).toArray⟩ := by
  apply ByteArray.ext
  simp
 rw [e]
theorem clist_list (l : List Tr) (v : Value) (g o : Nat) (ty : TypeId) (cs : Array Value) (p : Txt) (al : Bool) (w : World) (h : RdA w (.list l) v) (hB : Blk w g ty cs) (ho : o < cs.size) (hl : l.length ≤ 65536) (hp : p.length ≤ 1048576) (hT : TabP w) :
  Calls Tryz.prog 56 #[.pointer (some ⟨g, o, none⟩), .agg #[v], .string ⟨p.toArray⟩, .bool al] w (ClP g ty cs o p l w) := by
 have hx := ref_box w v
 have c1 := (Blk.new w 93 #[v]).cell 0
 have HB := Lib.hid hB
 have HO := Lib.hid ho
 have HH := Lib.hid (rda_below h hx)
 have HX := Lib.hid hx
 have HC1 := Lib.hid (Blk.new w 93 #[v])
 obtain ⟨i0, hi0, hz0, hz1, hz2⟩ := info_parts info_str
 have HW0 := Lib.hid h
 obtain ⟨b1, hcat1, hcat2⟩ := cat_place p hp
 have HCAT := Lib.hid hcat2
 clear hcat2 hcat1
 have hpl : p.length < 1048577 := by omega
 clear hp
 have HL := Lib.hid hl
 have HT := Lib.hid hT
 clear hB ho h hx hl hT
 go_enter Tryz.func56, Tryz.ntmps56
 go_wp2_with fail
 ((with_reducible refine (textr_any (fun _ => True) (.list l) v _ HH.out).mono ?_); rintro e w2 ⟨rfl, hb2⟩)
 dsimp only [Tr.tx, Tr.isTx]
 have HB2 := Lib.hid (HX.out.trans (hb2.mono HX.out.size))
 have HR2 := Lib.hid (rda_below HH.out hb2)
 have HC2 := Lib.hid (HC1.out.below hb2 HC1.out.lt)
 have c1 := HC2.out.cell 0
 simp at c1
 clear hb2
 go_wp2_with fail
 ((with_reducible refine (sort_any (fun _ => True) (.list l) v _ HR2.out).mono ?_); rintro e w3 ⟨rfl, hb3⟩)
 have HB3 := Lib.hid (HB2.out.trans (hb3.mono HB2.out.size))
 have HR3 := Lib.hid (rda_below HR2.out hb3)
 have HC3 := Lib.hid (HC2.out.below hb3 HC2.out.lt)
 clear c1 hb3
 have c1 := HC3.out.cell 0
 simp at c1
 go_wp2_with fail
 ((with_reducible refine (len_any (fun _ => True) (.list l) v _ HR3.out).mono ?_); rintro e w4 ⟨rfl, hb4⟩)
 have HB4 := Lib.hid (HB3.out.trans (hb4.mono HB3.out.size))
 have HC4 := Lib.hid (HC3.out.below hb4 HC3.out.lt)
 clear c1 hb4 HB2 HR2 HC2 HB3 HR3 HC3
 have hkl : (Tr.list l).kids = l := rfl
 rw [hkl]
 have hll : l.length < 65537 := by have := HL.out; omega
 go_wp2_with fail
 go_loopw [11, 39] (fun c11 c39 wr => ∃ ts : List Txt, ts.length ≤ l.length ∧ Hid (l.take ts.length = ts.map Tr.text) ∧ c39 = .int .i64 (ts.length : Nat) ∧ Hid (wr.ownsRow w4.heap.size 9 1 c11 ts.length (ts.map strV) ∧ Below w4.heap.size w4 wr)) (fun _ c39 _ => l.length - (intOf c39).toNat)
 case atStart => exact ⟨[], Nat.zero_le _, Lib.hid rfl, rfl, Lib.hid ⟨World.ownsRow_nil _ _ _ _, Below.refl _ _⟩⟩
 case round =>
  obtain ⟨ts, hk, HTS, rfl, HI⟩ := hrel
  by_cases hlt : ts.length < l.length
  ·have hcr := (HC4.out.below HI.out.2 HC4.out.lt).cell 0
   simp at hcr
   have HBR := Lib.hid (HB4.out.trans (HI.out.2.mono HB4.out.size))
   have HAT := Lib.hid (fun (W : World) (hb : Below w.heap.size w W) => at_any (.list l) v ts.length hlt (by have := HL.out; show l.length ≤ 1048576; omega) w W HW0.out hb)
   obtain ⟨u, hu⟩ : ∃ u, l[ts.length] = u := ⟨_, rfl⟩
   have hue : (Tr.list l).kids[ts.length]'hlt = u := hu
   rw [hue] at HAT
   have HU := Lib.hid (show l.take (ts.length + 1) = ts.map Tr.text ++ [u] by rw [List.take_succ_eq_append_getElem hlt, HTS.out, hu])
   have HUD := Lib.hid (show l = ts.map Tr.text ++ u :: l.drop (ts.length + 1) by rw [← HTS.out, ← hu, ← List.drop_eq_getElem_cons hlt, List.take_append_drop])
   clear hu hue
   go_wp2_with fail
   ((with_reducible refine (HAT.out _ HBR.out).mono ?_); rintro e w5 ⟨⟨tx, ux, rfl, hru⟩, hb5⟩)
   have hbx : Below w5.heap.size w5 (w5.alloc (.cells #[.iface tx ux] 93)) := (Below.refl _ _).alloc (Nat.le_refl _) _
   have HQ := Lib.hid (HI.out.2.trans ((hb5.trans (hbx.mono hb5.size)).mono HI.out.2.size))
   have HRU := Lib.hid (rda_below hru (HB4.out.trans (HQ.out.mono HB4.out.size)))
   have HOW := Lib.hid (own_below (own_below HI.out.1 hb5) hbx)
   have cx := (Blk.new w5 93 #[.iface tx ux]).cell 0
   simp at cx
   clear hb5 hru hbx hcr HAT
   go_wp2_with fail
   ((with_reducible refine (textr_any (fun _ => True) u (.iface tx ux) _ HRU.out).mono ?_); rintro e w6 ⟨rfl, hb6⟩)
   have HQ6 := Lib.hid (HQ.out.trans (hb6.mono HQ.out.size))
   have HOW6 := Lib.hid (own_below HOW.out hb6)
   clear hb6 cx
   by_cases htx : u.isTx = true
   ·obtain ⟨s, rfl⟩ : ∃ s, u = .text s := by
     cases u with
     | text s => exact ⟨s, rfl⟩
     | null => cases htx
     | flag b => cases htx
     | num b => cases htx
     | list b => cases htx
     | obj a b => cases htx
    clear htx
    dsimp only [Tr.tx, Tr.isTx]
    have HTN : Hid (l.take (ts ++ [s]).length = (ts ++ [s]).map Tr.text) := Lib.hid (by rw [List.length_append, List.length_singleton, HU.out]; simp)
    obtain ⟨A1, q1, hv1⟩ := own_sliceP HOW6.out
    subst hv1
    go_wp2_with (at_builtin; refine wpList_append_own _ rfl (.tmp 61) (.tmp 63) _ rfl w4.heap.size 9 i0 _ 1 16 Tryz.underlying23 hi0 hz0 hz1 hz2 rfl (by omega) (.slice A1 ts.length q1) ts.length (ts.map strV) rfl (own_below HOW6.out ((Below.refl _ _).alloc (Nat.le_refl _) _)) ⟨w6.heap.size, 0, none⟩ 1 1 [.string ⟨s.toArray⟩] rfl rfl (one_newP _ _ _) (one_cellP _ rfl) (by unfold maxLen; omega) (by omega) (by have := HQ6.out.size; simp; omega) ?_; intro v9 w9 hown9 hgr9 hnil9)
    have hb9 : Below w4.heap.size w4 w9 := (HQ6.out.alloc HQ6.out.size _).grown hgr9 (by have := HQ6.out.size; simp; omega) (fun q hq => (HOW6.out.lt q hq).1)
    have HN : Hid (w9.ownsRow w4.heap.size 9 1 v9 (ts ++ [s]).length ((ts ++ [s]).map strV) ∧ Below w4.heap.size w4 w9) := Lib.hid ⟨by rw [List.length_append, List.map_append]; exact hown9, hb9⟩
    clear hown9 hgr9 hnil9 hb9
    go_wp2
    go_roundw
    case rel => exact ⟨ts ++ [s], by rw [List.length_append, List.length_singleton]; omega, HTN, by rw [List.length_append, List.length_singleton]; go_num, HN⟩
    case measure => simp [intOf]; omega
   ·rw [Bool.not_eq_true] at htx
    rw [htx]
    have HBAD := Lib.hid (show textsOf l 0 = .inl ts.length by have := textsOf_bad ts u (l.drop (ts.length + 1)) 0 htx; rw [← HUD.out, Nat.zero_add] at this; exact this)
    clear htx
    have hil := Lib.itoa_length_le (ts.length : Nat) (by omega) (by omega)
    go_wp2_with fail
    ((with_reducible refine (itoaP_any ((ts.length : Nat) : Int) (by omega) (by omega) _ (HT.out.next (HB4.out.trans (HQ6.out.mono HB4.out.size)))).mono ?_); rintro e w7 ⟨rfl, hb7⟩)
    have HQ7 := Lib.hid (HQ6.out.trans (hb7.mono HQ6.out.size))
    clear hb7
    go_wp2_with fail
    ((with_reducible refine (ctrail_b 5 _ _).mono ?_); rintro e w8 ⟨rfl, rfl⟩)
    go_wp2
    go_ret
    have HE := clP_bad (g := g) (ty := ty) (cs := cs) (o := o) (p := p) HBAD.out (HB4.out.trans (HQ7.out.mono HB4.out.size))
    rw [← itoa_tl] at HE
    exact HE
  ·have hle : ts.length = l.length := by omega
   have HAL := Lib.hid (show textsOf l 0 = .inr ts by
    have e : l = ts.map Tr.text := by rw [← HTS.out, hle, List.take_length]
    rw [e, textsOf_map])
   have hrd : Rd wr u11 ts := Rd.of_own HI.out.1
   obtain ⟨A1, q1, hv1, hcell⟩ := id hrd
   subst hv1
   have HCELL := Lib.hid hcell
   have HRD := Lib.hid hrd
   have hll' : ts.length < 65537 := by omega
   have HB9 := Lib.hid (HB4.out.trans (HI.out.2.mono HB4.out.size))
   obtain ⟨xg, hxg⟩ := blk_some (HB.out.below HB9.out HB.out.lt) HO.out
   have hzg := (HB.out.below HB9.out HB.out.lt).frozen o
   have HLE := Lib.hid hle
   clear hcell hrd hle hll
   go_wp2_with fail
   go_loop [68] (fun c68 => ∃ k : Nat, k ≤ ts.length ∧ c68 = .int .i64 (k : Nat) ∧ Hid (twiceAt (ts.take k) (ts.drop k) k = twiceAt [] ts 0)) (fun c68 => ts.length - (intOf c68).toNat)
   case atStart => exact ⟨0, Nat.zero_le _, rfl, Lib.hid rfl⟩
   case round =>
    obtain ⟨k, hk2, rfl, HTW⟩ := hrel
    by_cases hkl2 : k < ts.length
    ·obtain ⟨g2, o2, rfl, _, hc2⟩ := HCELL.out k hkl2
     have hc3 : wr.cell? ⟨g2, o2 + k, none⟩ = some (.string ⟨ts[k].toArray⟩) := hc2
     have HSX := Lib.hid (fun (t : Txt) => slicesIndex_any _ ts t wr HRD.out (by omega))
     have HLAW := Lib.hid (idxT_law hkl2)
     have HTD := Lib.hid (twice_drop hkl2)
     have hk0 : (0 : Int) ≤ (k : Int) := by omega
     have hk1 : (k : Int) < (ts.length : Int) := by omega
     clear hc2
     generalize ts[k] = t at *
     go_wp2_with fail
     ((with_reducible refine (HSX.out t).mono ?_); rintro e w5 ⟨rfl, rfl⟩)
     by_cases hc : inB (ts.take k) t = true
     ·have hlt2 : idxT ts t < (k : Int) := HLAW.out.2 hc
      have HTE := Lib.hid (show twiceAt [] ts 0 = some k by rw [← HTW.out, HTD.out, if_pos hc])
      clear hc HSX
      generalize idxT ts t = ix at *
      have hil := Lib.itoa_length_le (k : Nat) (by omega) (by omega)
      go_wp2_with fail
      ((with_reducible refine (itoaP_any ((k : Nat) : Int) (by omega) (by omega) _ (HT.out.next HB9.out)).mono ?_); rintro e w7 ⟨rfl, hb7⟩)
      have HQ7 := Lib.hid (HB9.out.trans (hb7.mono HB9.out.size))
      clear hb7
      go_wp2_with fail
      ((with_reducible refine (ctrail_b 101 _ _).mono ?_); rintro e w8 ⟨rfl, rfl⟩)
      go_wp2
      go_ret
      have HE := clP_twice (g := g) (ty := ty) (cs := cs) (o := o) (p := p) HAL.out HTE.out HQ7.out
      rw [← itoa_tl] at HE
      exact HE
     ·have hlt2 : ¬ idxT ts t < (k : Int) := fun h => hc (HLAW.out.1 h)
      have HTE : Hid (twiceAt (ts.take (k + 1)) (ts.drop (k + 1)) (k + 1) = twiceAt [] ts 0) := Lib.hid (by rw [← HTW.out, HTD.out, if_neg hc])
      clear hc HSX
      generalize idxT ts t = ix at *
      have hlt3 : (k : Int) ≤ ix := by omega
      go_wp2
      go_round
      case rel => exact ⟨k + 1, by omega, by go_num, HTE⟩
      case measure => simp [intOf]; omega
    ·have hkn : k = ts.length := by omega
     subst hkn
     have HTE := Lib.hid (show twiceAt [] ts 0 = none by rw [← HTW.out, List.take_length, List.drop_length, twice_go])
     go_wp2
     go_ret
     exact clP_ok HAL.out HTE.out (grown_put (grown_of_below HB9.out (some g)) o _) (own_baseR (HI.out.1.kept (grown_put (grown_refl wr (some g)) o _) (.inr (fun e => by have h9 := (HI.out.1.lt g e).1; have := HB.out.lt; have := HB4.out.size; omega))) HB4.out.size) ((HB.out.below HB9.out HB.out.lt).put o _)
end Nd
end Go.Proofs.YtobaldkipnhlpaaGreatDoor
namespace Go.Proofs.YtobaldkipnhlpaaGreatDoor
open Go.RowKit Mem Utf Ref3 Tok Cl
namespace Nd
theorem dec_step {m : Nat} (h : 9 < m) : Lib.decDigits m = Lib.decDigits (m / 10) ++ [UInt8.ofNat (48 + m % 10)] := by
 rw [Lib.decDigits, dif_neg (by omega)]
theorem byte_str (c : UInt8) (s : Txt) : (⟨#[c]⟩ : ByteArray) ++ ⟨s.toArray⟩ = ⟨(c :: s).toArray⟩ := by
 apply ByteArray.ext
 rw [ByteArray.data_append]
 simp
theorem conv_one (w : World) (x : Int) (m : Nat) (hx : x = (m : Int)) (c : UInt8) (hc : UInt8.ofNat m = c) : (convert 195 9 (.slice (some ⟨w.heap.size, 0, none⟩) 1 1)).run Tryz.prog (w.alloc (.cells #[.int .u8 x] 5)) = .ok (.string ⟨#[c]⟩) (w.alloc (.cells #[.int .u8 x] 5)) := by
 have h := run_convert_bytes_arg (P := Tryz.prog) (w.alloc (.cells #[.int .u8 x] 5)) 195 5 Tryz.underlying195 Tryz.underlying5 w.heap.size 0 1 1 [x] rfl (fun i hi => by
  obtain rfl : i = 0 := by omega
  exact (Blk.new w 5 #[.int .u8 x]).cell 0) 9 Tryz.underlying9
 rw [h]
 subst hx hc
 simp [strOfNums]
theorem figures_any (n : Nat) (hn : n ≤ 1099511627776) (w : World) : Calls Tryz.prog 78 #[.int .i64 (n : Int)] w fun e w' => e = .returned (.string ⟨(Lib.itoa (n : Int)).toArray⟩) ∧ Below w.heap.size w w' := by
 rw [Lib.itoa_nonneg]
 go_enter Tryz.func78, Tryz.ntmps78
 go_wp2_with fail
 go_loopw [0, 3] (fun c0 c3 wr => ∃ (m : Nat) (s : Txt), m ≤ n ∧ c0 = .int .i64 (m : Int) ∧ c3 = .string ⟨s.toArray⟩ ∧ s.length + m ≤ n ∧ Hid (Lib.decDigits n = Lib.decDigits m ++ s ∧ Below w.heap.size w wr)) (fun c0 _ _ => (intOf c0).toNat)
 case atStart => exact ⟨n, [], Nat.le_refl _, rfl, rfl, by simp, Lib.hid ⟨by simp, Below.refl _ _⟩⟩
 case round =>
  obtain ⟨m, s, hm, rfl, rfl, hsm, HI⟩ := hrel
  have hs0 := HI.out.2.size
  by_cases hlt : (9 : Int) < (m : Int)
  ·obtain ⟨c, hc⟩ : ∃ c, UInt8.ofNat (48 + m % 10) = c := ⟨_, rfl⟩
   have hcv := conv_one wr (48 + (m : Int) % 10) (48 + m % 10) (by omega) c hc
   have HC := Lib.hid hc
   clear hc
   have hb := byte_str c s
   have HB := Lib.hid (HI.out.2.alloc hs0 (.cells #[.int .u8 (48 + (m : Int) % 10)] 5))
   go_wp2
   go_roundw
   case rel => exact ⟨m / 10, c :: s, by omega, by go_num, by first | rfl | rw [hb], by simp; omega, Lib.hid ⟨by rw [HI.out.1, dec_step (by omega), HC.out]; simp, HB.out⟩⟩
   case measure => simp [intOf]; omega
  ·obtain ⟨c, hc⟩ : ∃ c, UInt8.ofNat (48 + m) = c := ⟨_, rfl⟩
   have hcv := conv_one wr (48 + (m : Int)) (48 + m) (by omega) c hc
   have HC := Lib.hid hc
   clear hc
   have hb := byte_str c s
   have HB := Lib.hid (HI.out.2.alloc hs0 (.cells #[.int .u8 (48 + (m : Int))] 5))
   go_wp2
   go_ret
   refine ⟨?_, HB.out⟩
   rw [HI.out.1, Lib.decDigits_one (by omega), HC.out]
   first | rfl | (rw [← byte_str]; rfl)
end Nd
end Go.Proofs.YtobaldkipnhlpaaGreatDoor
