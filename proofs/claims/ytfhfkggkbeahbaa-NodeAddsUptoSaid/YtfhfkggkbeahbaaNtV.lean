/-
  Walks of package node: the end of object.
-/
import Derived.Test.YtfhfkggkbeahbaaNtU
import Derived.Test.YtfhfkggkbeahbaaNtK
import Derived.Test.YtfhfkggkbeahbaaNtO
import Derived.LoopTactic
import Derived.Deep.AppendLies
import Derived.RegionTactic
import Derived.Deep.RegionLaw
namespace Go.Proofs.Ytfhfkggkbeahbaa
open Go.RowKit Mem
set_option linter.unusedVariables false
namespace Nd

def nextOf : Code → Code
  | .seq _ t => t
  | _ => .skip
noncomputable def objT1 : Code := nextOf (Try.f43.body.getD .skip)
noncomputable def objT2 : Code := nextOf (nextOf (nextOf objT1))
noncomputable def objT3 : Code := nextOf (nextOf (nextOf objT2))
/-- what object comes to -/
def ObjP (p : Nat) (ty : TypeId) (B : Nat) (X : Nat → Prop) (l : List Tr) (v : Value) (ks : List Tx) (w : World) (e : Ending) (w' : World) : Prop :=
  (∃ n, (objT rightB ks l).1 = n ∧ n ≠ 0 ∧ e = .panicked [{ v := .iface 30 (.int .i64 n), recovered := false }] ∧ Below w.heap.size w w') ∨
  ((objT rightB ks l).1 = 0 ∧ e = .returned (.tuple #[]) ∧ ∃ v' xs', Rw p ty B X (objT rightB ks l).2 v' xs' w' ∧ (v'.ownBlock = v.ownBlock ∨ ∀ g, v'.ownBlock = some g → w.heap.size ≤ g) ∧ Below p w w' ∧ KeepV p v w w')
/-- what the end of object begins with -/
structure ObjS (p : Nat) (ty : TypeId) (B : Nat) (X : Nat → Prop) (l : List Tr) (v : Value) (xs : List Value) (ks : List Tx) (w : World) (A2 K : Option Addr) (q2 d Mb Ob : Nat) (w0 : World) : Prop where
  rw : Rw p ty B X l v xs w
  bel : Below w.heap.size w w0
  xlt : ∀ k, X k → k < w.heap.size
  len : ks.length ≤ l.length
  max : l.length ≤ 65536
  kr : ks.all rightB = true
  kd : ks.Nodup
  kl : ∀ k ∈ ks, k.length ≤ 1099511627776
  row : Row (Sx B X v) w0 46 (.slice A2 ks.length q2) (xs.drop (l.length - ks.length))
  keys : Row (fun k => Sx B X v k ∧ k ≠ Ob) w0 9 (.slice K ks.length d) ((sortK ks).map txV)
  map : w0.ownsMap Try.prog 9 (plainElem Try.prog 3) Mb ks.length (mapD ks ks.length)
  obj : Blk w0 Ob 128 #[.int .i64 ((mkObj ks (l.drop (l.length - ks.length))).nodes : Int), .int .i64 ((mkObj ks (l.drop (l.length - ks.length))).bytes : Int), .int .i64 ((mkObj ks (l.drop (l.length - ks.length))).depth : Int), .slice K ks.length d, .slice none 0 0]
  new : w.heap.size ≤ Ob
/-- the items in the order of the sorted keys -/
def itsOf (ks : List Tx) (ivs : List Value) : List Value := (sortK ks).map fun k => ivs.getD (ks.idxOf k) .nilIface
/-- how the third loop stands -/
structure ObjL (ks : List Tx) (ivs : List Value) (n1 b1 e1 : Int) (K : Option Addr) (d Ob : Nat) (w0 : World) (k : Nat) (A9 : Option Addr) (q9 : Nat) (wr : World) : Prop where
  gr : w0.grownBy wr (some Ob)
  obj : Blk wr Ob 128 #[.int .i64 n1, .int .i64 b1, .int .i64 e1, .slice K ks.length d, .slice A9 k q9]
  own : wr.ownsRow w0.heap.size 46 1 (.slice A9 k q9) k ((itsOf ks ivs).take k)
theorem ObjL.next {ks : List Tx} {ivs : List Value} {n1 b1 e1 : Int} {K : Option Addr} {d Ob k : Nat} {w0 wr w9 : World} {A9 : Option Addr} {q9 g c : Nat} {x : Value} {o : Obj} (h : ObjL ks ivs n1 b1 e1 K d Ob w0 k A9 q9 wr) (hOb : Ob < w0.heap.size) (hx : (itsOf ks ivs)[k]? = some x)
    (hown : w9.ownsRow w0.heap.size 46 1 (.slice (some ⟨g, 0, none⟩) (k + 1) c) (k + 1) ((itsOf ks ivs).take k ++ [x])) (hgr : (wr.alloc o).drew.grownBy w9 (Value.slice A9 k q9).ownBlock) (hat : (Value.slice A9 k q9).ownBlock = some g ∨ g = wr.heap.size + 1) :
    ObjL ks ivs n1 b1 e1 K d Ob w0 (k + 1) (some ⟨g, 0, none⟩) c (w9.setCell ⟨Ob, 4, none⟩ (.slice (some ⟨g, 0, none⟩) (k + 1) c)) := by
  have hvb := h.own.lt
  have hgs := h.gr.size
  have hgB : w0.heap.size ≤ g := by
    rcases hat with e | e
    · exact (hvb g e).1
    · omega
  have h1 : w0.grownBy w9 (some Ob) := grown_join (grown_drew (grown_alloc h.gr o)) hgr (.inr fun q e => (hvb q e).1)
  have hB9 : Blk w9 Ob 128 #[.int .i64 n1, .int .i64 b1, .int .i64 e1, .slice K ks.length d, .slice A9 k q9] :=
    ((h.obj.alloc o).drew).only hgr (by intro e; have := (hvb Ob e.symm).1; omega)
  refine ⟨grown_put h1 4 _, hB9.put 4 _, ?_⟩
  have ht : (itsOf ks ivs).take (k + 1) = (itsOf ks ivs).take k ++ [x] := by
    have hk := (List.getElem?_eq_some_iff.1 hx)
    obtain ⟨hk, he⟩ := hk
    rw [List.take_succ_eq_append_getElem hk, he]
  rw [ht]
  exact hown.kept (grown_put (grown_refl w9 (some Ob)) 4 _) (.inr (by intro e; injection e with e; have : g = Ob := e; omega))
theorem its_at {ks : List Tx} {ivs : List Value} (hl : ivs.length = ks.length) {k : Nat} (hk : k < ks.length) :
    ∃ t x, (sortK ks)[k]? = some t ∧ t ∈ ks ∧ (itsOf ks ivs)[k]? = some x ∧ ks.idxOf t < ks.length ∧ ivs[ks.idxOf t]? = some x := by
  have hk2 : k < (sortK ks).length := by rw [sortK_len]; exact hk
  have hm : (sortK ks)[k] ∈ ks := (sortK_perm ks).mem_iff.1 (List.getElem_mem hk2)
  have hi : ks.idxOf (sortK ks)[k] < ks.length := List.idxOf_lt_length_of_mem hm
  refine ⟨_, ivs[ks.idxOf (sortK ks)[k]]'(by omega), List.getElem?_eq_getElem hk2, hm, ?_, hi, List.getElem?_eq_getElem (by omega)⟩
  unfold itsOf
  rw [List.getElem?_map, List.getElem?_eq_getElem hk2]
  simp [List.getElem?_eq_getElem (show ks.idxOf (sortK ks)[k] < ivs.length by omega)]
theorem RdL.ifaces {S : Nat → Prop} {w : World} {l : List Tr} {vs : List Value} (h : RdL S w l vs) : ∀ u ∈ vs, ∃ tx ux, u = .iface tx ux := by
  intro u hu
  obtain ⟨j, hj, rfl⟩ := List.getElem_of_mem hu
  have hl := h.len
  have hr := h.at (t := l[j]'(by omega)) (List.getElem?_eq_getElem (by omega)) (List.getElem?_eq_getElem hj)
  generalize l[j]'(by omega) = t at hr
  cases t <;> unfold RdT at hr
  · exact ⟨_, _, hr⟩
  · exact ⟨_, _, hr⟩
  · exact ⟨_, _, hr⟩
  · exact ⟨_, _, hr⟩
  · obtain ⟨g, A, c, vs, h, _⟩ := hr
    exact ⟨_, _, h⟩
  · obtain ⟨g, B, d, A, c, vs, h, _⟩ := hr
    exact ⟨_, _, h⟩
theorem idx_at {ks : List Tx} {t : Tx} (hm : t ∈ ks) : ∃ h : ks.idxOf t < ks.length, ks[ks.idxOf t] = t :=
  ⟨List.idxOf_lt_length_of_mem hm, List.getElem_idxOf (List.idxOf_lt_length_of_mem hm)⟩
set_option maxRecDepth 100000 in
set_option maxHeartbeats 16000000 in
theorem obj_tail3 (p : Nat) (ty : TypeId) (B : Nat) (X : Nat → Prop) (l : List Tr) (v : Value) (xs : List Value) (ks : List Tx) (w : World) (A2 K : Option Addr) (q2 d Mb Ob : Nat) (w0 : World) (hS : ObjS p ty B X l v xs ks w A2 K q2 d Mb Ob w0) (z1 z2 z3 z4 z5 z7 z8 z9 z10 z11 z14 z15 z16 z17 z18 z19 z20 z21 z22 z23 z24 z25 z26 z27 z28 z29 z30 z31 z32 z33 z34 z35 z36 z37 z38 z39 z40 z41 z42 z43 z44 z45 z46 z47 z48 z49 z50 z51 z52 z53 z54 z55 z56 z57 z58 z59 z60 z61 z62 z63 z64 z65 z66 z67 z68 z69 z70 z71 z72 z73 z74 z75 z76 z77 z78 z79 z80 z81 z82 z83 z84 z85 z86 z87 z88 z89 z90 z91 z92 z93 z94 z95 z96 z97 : Value) :
    Code.wp Try.prog objT3 (bodyPost Try.prog Try.f43 (ObjP p ty B X l v ks w)) { tmps := ((.pointer (some ⟨p, 0, none⟩)) :: z1 :: z2 :: z3 :: z4 :: z5 :: (.map (some Mb)) :: z7 :: z8 :: z9 :: z10 :: z11 :: (.slice A2 ks.length q2) :: (.pointer (some ⟨Ob, 0, none⟩)) :: z14 :: z15 :: z16 :: z17 :: z18 :: z19 :: z20 :: z21 :: z22 :: z23 :: z24 :: z25 :: z26 :: z27 :: z28 :: z29 :: z30 :: z31 :: z32 :: z33 :: z34 :: z35 :: z36 :: z37 :: z38 :: z39 :: z40 :: z41 :: z42 :: z43 :: z44 :: z45 :: z46 :: z47 :: z48 :: z49 :: z50 :: z51 :: z52 :: z53 :: z54 :: z55 :: z56 :: z57 :: z58 :: z59 :: z60 :: z61 :: z62 :: z63 :: z64 :: z65 :: z66 :: z67 :: z68 :: z69 :: z70 :: z71 :: z72 :: z73 :: z74 :: z75 :: z76 :: z77 :: z78 :: z79 :: z80 :: z81 :: z82 :: z83 :: z84 :: z85 :: z86 :: z87 :: z88 :: z89 :: z90 :: z91 :: z92 :: z93 :: z94 :: z95 :: z96 :: z97 :: []).toArray, defers := [] } w0 := by
  obtain ⟨i0, hi0, hz0, hz1, hz2⟩ := info_parts info_item
  have HS := Lib.hid hS
  have hOb := hS.obj.lt
  have hln := hS.len
  have hmx := hS.max
  have o3 : w0.cell? ⟨Ob, 3, none⟩ = some (.slice K ks.length d) := hS.obj.cell 3
  have hxl : (xs.drop (l.length - ks.length)).length = ks.length := by
    have := hS.rw.own.1
    rw [List.length_drop]
    omega
  have HXL := Lib.hid hxl
  clear hS hxl
  conv => arg 2; whnf
  go_wp2
  go_loopw [72] (fun c72 wr => ∃ (k : Nat) (A9 : Option Addr) (q9 : Nat), k ≤ ks.length ∧ c72 = .int .i64 k ∧ ObjL ks (xs.drop (l.length - ks.length)) ((mkObj ks (l.drop (l.length - ks.length))).nodes : Int) ((mkObj ks (l.drop (l.length - ks.length))).bytes : Int) ((mkObj ks (l.drop (l.length - ks.length))).depth : Int) K d Ob w0 k A9 q9 wr) (fun c72 _ => ks.length - (intOf c72).toNat)
  case atStart => exact ⟨0, none, 0, by omega, rfl, grown_refl _ _, HS.out.obj, World.ownsRow_nil _ _ _ _⟩
  case round =>
    obtain ⟨k, A9, q9, hk, rfl, hL⟩ := hrel
    have HL := Lib.hid hL
    have hsz := hL.gr.size
    have hob := hL.obj.lt
    have a4 : wr.cell? ⟨Ob, 4, none⟩ = some (.slice A9 k q9) := hL.obj.cell 4
    have f4 := hL.obj.frozen 4
    have hvb := hL.own.lt
    have HVB := Lib.hid hvb
    clear hL hvb
    by_cases hlt : k < ks.length
    · obtain ⟨t, x, ht, htm, hx, hix, hiv⟩ := its_at HXL.out hlt
      obtain ⟨hix2, hti⟩ := idx_at htm
      have htl := HS.out.kl t htm
      have hkeys : ∃ gk ok, K = some ⟨gk, ok, none⟩ ∧ wr.cell? ⟨gk, ok + k, none⟩ = some (.string ⟨t.toArray⟩) := by
        obtain ⟨A', c', e', h'⟩ := HS.out.keys
        injection e' with e1 e2 e3
        rcases h' with ⟨h', _⟩ | ⟨g, o, cur, hA, hSg, hBg, hc⟩
        · have : (sortK ks).length = 0 := by have := congrArg List.length h'; simpa using this
          rw [sortK_len] at this
          omega
        · refine ⟨g, o, by rw [e1, hA], ?_⟩
          have hh : Blk wr g 9 cur := hBg.only HL.out.gr (by intro e; injection e with e; exact hSg.2 e)
          rw [hh.cell]
          apply hc
          rw [List.getElem?_map, ht]
          rfl
      obtain ⟨gk, ok, rfl, hkc⟩ := hkeys
      have hrow : ∃ g2 o2, A2 = some ⟨g2, o2, none⟩ ∧ wr.cell? ⟨g2, o2 + ks.idxOf t, none⟩ = some x := by
        obtain ⟨A', c', e', h'⟩ := HS.out.row
        injection e' with e1 e2 e3
        rcases h' with ⟨h', _⟩ | ⟨g, o, cur, hA, hSg, hBg, hc⟩
        · have := HXL.out
          rw [h'] at this
          simp at this
          omega
        · refine ⟨g, o, by rw [e1, hA], ?_⟩
          have hh : Blk wr g 46 cur := hBg.only HL.out.gr (by
            intro e
            injection e with e
            subst e
            have h1 := hBg.symm.trans HS.out.obj
            injection h1 with h1
            injection h1 with _ h1
            exact absurd h1 (by decide))
          rw [hh.cell]
          exact hc _ _ hiv
      obtain ⟨g2, o2, rfl, hic⟩ := hrow
      have hmb : Mb ≠ Ob := by
        rintro rfl
        obtain ⟨es, clock, hb, _⟩ := HS.out.map
        have := hb.symm.trans HS.out.obj
        injection this with this
        cases this
      have hmr := (HS.out.map.kept HL.out.gr (by intro e; injection e with e; exact hmb e)).drew
      obtain ⟨c, hrun, hat, _⟩ := hmr.lookup_int str_law Try.underlying133 Try.underlying3 (zero_int wr.drew) (key_of t htl)
      have hcx : c = ((ks.idxOf t : Nat) : Int) := by
        have h1 := mapD_at ks HS.out.kd (.lit (.int .i64 0)) ks.length (Nat.le_refl _) _ hix2 hix2
        rw [hti] at h1
        rw [h1] at hat
        injection hat with hat
        injection hat with _ hat
        exact hat.symm
      subst hcx
      obtain ⟨tx, ux, rfl⟩ := (HS.out.rw.rd.drop (l.length - ks.length)).ifaces x (List.mem_of_getElem? hiv)
      have hone : (Value.iface tx ux).oneCell' = true := rfl
      have HB3 := Lib.hid (HL.out.obj.alloc (.cells #[.iface tx ux] 46))
      have ha1 : (wr.alloc (.cells #[.iface tx ux] 46)).drew.cell? ⟨Ob, 4, none⟩ = some (.slice A9 k q9) := HB3.out.drew.cell 4
      have hf1 := HB3.out.drew.frozen 4
      have HX := Lib.hid hx
      have HT := Lib.hid (And.intro ht htm)
      have hgp : some Ob ≠ (Value.slice A9 k q9).ownBlock := by intro e; have := (HVB.out Ob e.symm).1; omega
      clear ht htm hx hiv hti hat hmr
      generalize ks.idxOf t = ix at *
      go_wp2_with fail
      go_region_law ((refine step_append_lies _ (by rfl) _ _ _ (by rfl) w0.heap.size 46 i0 _ 1 16 Try.underlying70 hi0 hz0 hz1 hz2 (by rfl) (by omega) _ k ((itsOf ks (xs.drop (l.length - ks.length))).take k) (by rfl) (HL.out.own.alloc _).drew ⟨wr.heap.size, 0, none⟩ 1 1 [.iface tx ux] (by rfl) (by rfl) (one_new _ _ _) (one_cell _ hone) (by omega) (by unfold maxLen; omega) (by omega) (by simp; omega) (wr.heap.size + 1) (by simp) ?_; intro g9 c9 w9 hown9 hgr9 hat9 hlt9; have hq1 : w9.cell? ⟨Ob, 4, none⟩ = some (.slice A9 k q9) := (HB3.out.drew.only hgr9 hgp).cell 4; have hq2 := (HB3.out.drew.only hgr9 hgp).frozen 4))
      all_goals
        have hL2 := HL.out.next hOb HX.out hown9 hgr9 hat9
        clear hown9 hgr9 hq1 hq2 hat9
        go_wp2
        go_roundw
        case rel => exact ⟨k + 1, _, _, by omega, by go_num, hL2⟩
        case measure => simp [intOf]; omega
    · have hkn : k = ks.length := by omega
      subst hkn
      have hitl : (itsOf ks (xs.drop (l.length - ks.length))).length = ks.length := by unfold itsOf; rw [List.length_map, sortK_len]
      have hbw : Below w.heap.size w wr := HS.out.bel.trans (below_of_grown HL.out.gr HS.out.new HS.out.bel.size)
      have hRw : Rw p ty B X l v xs wr := HS.out.rw.below hbw
      have hSOb : Sx B X v Ob := ⟨by have := HS.out.rw.le; have := HS.out.new; omega, fun hx => by have := HS.out.xlt Ob hx; have := HS.out.new; omega, fun e => by have := (HS.out.rw.vlt Ob e.symm).2; have := HS.out.new; omega⟩
      have hrd : RdT (Sx B X v) wr (mkObj ks (l.drop (l.length - ks.length))) (.iface 126 (.pointer (some ⟨Ob, 0, none⟩))) := by
        have hO := HL.out.obj
        have hown := HL.out.own
        rw [List.take_of_length_le (by omega)] at hown
        have hl1 : ((sortK ks).map fun k => (l.drop (l.length - ks.length)).getD (ks.idxOf k) .null).length = ks.length := by rw [List.length_map, sortK_len]
        unfold mkObj
        refine new_obj (K := K) (d := d) (A := A9) (c := q9) (vs := itsOf ks (xs.drop (l.length - ks.length))) ?_ ?_ ?_ Ob hSOb ?_
        · rw [sortK_len]
          exact HS.out.keys.move fun j hj hs => ⟨hs.1, HL.out.gr.block j hj (by intro e; injection e with e; exact hs.2 e)⟩
        · rw [hl1]
          refine (row_of_own hown).mono fun j hj => ?_
          have hj2 := hown.lt j hj
          have h1 := HS.out.bel.size
          exact ⟨by have := HS.out.rw.le; omega, fun hx => by have := HS.out.xlt j hx; omega, fun e => by have := (HS.out.rw.vlt j e.symm).2; omega⟩
        · refine (rdl_iff _ _ _ _).2 ⟨by rw [hl1, hitl], fun j t' u hj hu => ?_⟩
          have hjn : j < ks.length := by have := (List.getElem?_eq_some_iff.1 hj).1; omega
          obtain ⟨t, x, ht, htm, hx, hix, hiv⟩ := its_at HXL.out hjn
          rw [hx] at hu
          injection hu with hu
          subst hu
          rw [List.getElem?_map, ht] at hj
          injection hj with hj
          have hil : ks.idxOf t < (l.drop (l.length - ks.length)).length := by rw [List.length_drop]; omega
          have hj' : (l.drop (l.length - ks.length))[ks.idxOf t]? = some t' := by
            rw [List.getElem?_eq_getElem hil, ← hj]
            simp only [List.getD_eq_getElem?_getD, List.getElem?_eq_getElem hil, Option.getD_some]
          exact (hRw.rd.drop (l.length - ks.length)).at hj' hiv
        · rw [sortK_len, hl1]
          exact hO
      have HM := Lib.hid (fun fuel nm hnm => method_obj fuel Ob wr _ _ _ nm hnm (HL.out.obj.cell 0) (HL.out.obj.cell 1) (HL.out.obj.cell 2))
      have hwi := fit_within (t := mkObj ks (l.drop (l.length - ks.length)))
      have HRw := Lib.hid hRw
      have HRD := Lib.hid hrd
      have HWI := Lib.hid hwi
      have HBW := Lib.hid hbw
      have HIL := Lib.hid hitl
      clear hRw hrd hwi hbw hitl hSOb a4 f4
      cases hf : (mkObj ks (l.drop (l.length - ks.length))).fit with
      | true =>
        have HF := Lib.hid hf
        clear hf
        have hobt := objT_0 HS.out.kr HS.out.kd HS.out.len HF.out
        have HOT := Lib.hid hobt
        clear hobt
        go_wp2_with fail
        ((with_reducible refine (group_ok ks.length _ _ _ _ _ HRw.out hln (by omega) HM.out (HWI.out.trans HF.out) rfl).mono ?_); rintro e w5 ⟨rfl, hP⟩)
        obtain ⟨v5, xs5, hR5, hob5, hb5, hk5⟩ := hP.rw HRw.out hln HRD.out HF.out
        have hfin : ObjP p ty B X l v ks w (.returned (.tuple #[])) w5 := by
          refine .inr ⟨by rw [HOT.out], rfl, v5, xs5, by rw [HOT.out]; exact hR5, ?_, (HBW.out.mono (by have := HS.out.rw.lt; have := HS.out.rw.le; omega)).trans hb5, ?_⟩
          · rcases hob5 with h | h
            · exact .inl h
            · exact .inr fun g hg => by have := h g hg; have := HBW.out.size; omega
          · intro j hj h1 h2
            exact (hk5 j (by have := HBW.out.size; omega) h1 h2).trans (HBW.out.block j hj)
        clear hP hR5 hob5 hb5 hk5
        go_wp2
        go_end0
        exact hfin
      | false =>
        have HF := Lib.hid hf
        clear hf
        have hobt := objT_3 HS.out.kr HS.out.kd HS.out.len HF.out
        have HOT := Lib.hid hobt
        clear hobt
        go_wp2_with fail
        ((with_reducible refine (group_long _ _ _ _ _ _ _ _ HM.out (HWI.out.trans HF.out)).mono ?_); rintro e w5 ⟨rfl, hb5⟩)
        have hfin : ObjP p ty B X l v ks w (.panicked [{ v := .iface 30 (.int .i64 3), recovered := false }]) w5 :=
          .inl ⟨3, by rw [HOT.out], by decide, rfl, HBW.out.trans (hb5.mono HBW.out.size)⟩
        go_wp2
        exact ⟨rfl, hfin⟩
end Nd
end Go.Proofs.Ytfhfkggkbeahbaa
