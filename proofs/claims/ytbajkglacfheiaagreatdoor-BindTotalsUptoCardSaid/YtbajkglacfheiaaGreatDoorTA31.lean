/-
  Walk of package bind: Product.
-/
import Derived.Test.YtbajkglacfheiaaGreatDoorTA30
set_option linter.unusedVariables false
set_option maxRecDepth 100000
set_option maxHeartbeats 16000000
namespace Go.Proofs.YtbajkglacfheiaaGreatDoor
open Go.RowKit Mem Utf Ref3 Idx Tok TokC Ieee
namespace Nd
/-! ### plain -/
def preD (a : List (Nat × Nat)) : Value ⊕ List (Nat × Nat) → Value ⊕ List (Nat × Nat)
 | .inl e => .inl e
 | .inr b => .inr (a ++ b)
def prsD (p : Tx) : List Tr → Nat → Value ⊕ List (Nat × Nat)
 | [], _ => .inr []
 | x :: r, i => match pairD x (atP p i) with
  | .inl e => .inl e
  | .inr q => preD [q] (prsD p r (i + 1))
theorem preD_pre (a b : List (Nat × Nat)) (x : Value ⊕ List (Nat × Nat)) : preD a (preD b x) = preD (a ++ b) x := by
 cases x with
 | inl e => rfl
 | inr c => simp [preD]
theorem preD_nil (x : Value ⊕ List (Nat × Nat)) : preD [] x = x := by
 cases x <;> rfl
theorem prsD_no {p : Tx} {l : List Tr} {i : Nat} {e : Value} (h : i < l.length) (hx : pairD l[i] (atP p i) = .inl e) : prsD p (l.drop i) i = .inl e := by
 rw [List.drop_eq_getElem_cons h, prsD, hx]
theorem prsD_yes {p : Tx} {l : List Tr} {i : Nat} {q : Nat × Nat} (h : i < l.length) (hx : pairD l[i] (atP p i) = .inr q) : prsD p (l.drop i) i = preD [q] (prsD p (l.drop (i + 1)) (i + 1)) := by
 rw [List.drop_eq_getElem_cons h, prsD, hx]
theorem prsD_end (p : Tx) (l : List Tr) : prsD p (l.drop l.length) l.length = .inr [] := by
 rw [List.drop_length]
 rfl
def stepD (a b : Nat) (q : Nat × Nat) : Option (Nat × Nat) :=
 match double.sub ((double.mul a q.1).getD 0) ((double.mul b q.2).getD 0), double.add ((double.mul a q.2).getD 0) ((double.mul b q.1).getD 0) with
 | some r, some i => if finB r = true ∧ finB i = true then some (r, i) else none
 | _, _ => none
def prodD : List (Nat × Nat) → Nat → Nat → Nat → Nat ⊕ (Nat × Nat)
 | [], _, a, b => .inr (a, b)
 | q :: r, i, a, b => match stepD a b q with
  | some x => prodD r (i + 1) x.1 x.2
  | none => .inl i
theorem prodD_yes {l : List (Nat × Nat)} {i a b : Nat} {x : Nat × Nat} (h : i < l.length) (hs : stepD a b l[i] = some x) : prodD (l.drop i) i a b = prodD (l.drop (i + 1)) (i + 1) x.1 x.2 := by
 rw [List.drop_eq_getElem_cons h, prodD, hs]
theorem prodD_no {l : List (Nat × Nat)} {i a b : Nat} (h : i < l.length) (hs : stepD a b l[i] = none) : prodD (l.drop i) i a b = .inl i := by
 rw [List.drop_eq_getElem_cons h, prodD, hs]
theorem prodD_end (l : List (Nat × Nat)) (a b : Nat) : prodD (l.drop l.length) l.length a b = .inr (a, b) := by
 rw [List.drop_length]
 rfl
def prdD (u : Tr) (l : Tx) : Value ⊕ (Nat × Nat) := match prsD l u.kids 0 with
 | .inl e => .inl e
 | .inr qs => match prodD qs 0 4607182418800017408 0 with
  | .inl i => .inl (trlV 161 (atP l i))
  | .inr x => .inr x
theorem prdD_bad {u : Tr} {l : Tx} {e : Value} (h : prsD l u.kids 0 = .inl e) : prdD u l = .inl e := by
 unfold prdD
 rw [h]
theorem prdD_no {u : Tr} {l : Tx} {qs : List (Nat × Nat)} {i : Nat} (h : prsD l u.kids 0 = .inr qs) (h2 : prodD qs 0 4607182418800017408 0 = .inl i) : prdD u l = .inl (trlV 161 (atP l i)) := by
 unfold prdD
 rw [h]
 dsimp only
 rw [h2]
theorem prdD_ok {u : Tr} {l : Tx} {qs : List (Nat × Nat)} {x : Nat × Nat} (h : prsD l u.kids 0 = .inr qs) (h2 : prodD qs 0 4607182418800017408 0 = .inr x) : prdD u l = .inr x := by
 unfold prdD
 rw [h]
 dsimp only
 rw [h2]
def PrdP (t : Tr) (l : Tx) (w : World) (e : Ending) (w' : World) : Prop :=
 (match lstD t l with
  | .inl ev => e = .returned (.tuple #[.complex .f64 0 0, ev])
  | .inr u => match prdD u l with
   | .inl ev => e = .returned (.tuple #[.complex .f64 0 0, ev])
   | .inr x => e = .returned (.tuple #[.complex .f64 (normB x.1) (normB x.2), .nilIface])) ∧ Below w.heap.size w w'
theorem prdP_lst {t : Tr} {l : Tx} {w w' : World} {ev : Value} (h : lstD t l = .inl ev) (hb : Below w.heap.size w w') : PrdP t l w (.returned (.tuple #[.complex .f64 0 0, ev])) w' := by
 unfold PrdP
 rw [h]
 exact ⟨rfl, hb⟩
theorem prdP_no {t u : Tr} {l : Tx} {w w' : World} {ev : Value} (h : lstD t l = .inr u) (h2 : prdD u l = .inl ev) (hb : Below w.heap.size w w') : PrdP t l w (.returned (.tuple #[.complex .f64 0 0, ev])) w' := by
 unfold PrdP
 rw [h]
 dsimp only
 rw [h2]
 exact ⟨rfl, hb⟩
theorem prdP_ok {t u : Tr} {l : Tx} {w w' : World} {a b : Nat} (h : lstD t l = .inr u) (h2 : prdD u l = .inr (a, b)) (hb : Below w.heap.size w w') : PrdP t l w (.returned (.tuple #[.complex .f64 (normB a) (normB b), .nilIface])) w' := by
 unfold PrdP
 rw [h]
 dsimp only
 rw [h2]
 exact ⟨rfl, hb⟩
theorem atP_len (p : Tx) (i : Nat) (hi : i ≤ 1099511627776) : (atP p i).length ≤ p.length + 22 := by
 unfold atP
 have := Lib.itoa_length_le (i : Int) (by omega) (by omega)
 rw [List.length_append, List.length_cons]
 omega
theorem pairD_fin {u : Tr} {p : Tx} {q : Nat × Nat} (ho : u.Ok) (h : pairD u p = .inr q) : (finB q.1 = true ∧ q.1 < 18446744073709551616) ∧ (finB q.2 = true ∧ q.2 < 18446744073709551616) := by
 unfold pairD at h
 split at h
 ·split at h
  ·rename_i h2
   split at h
   ·cases h
   ·injection h with h
    rw [← h, List.getElem?_eq_getElem (by omega), List.getElem?_eq_getElem (by omega)]
    exact ⟨kids_fin ho _, kids_fin ho _⟩
  ·cases h
 ·cases h
theorem nan_cut (x y t : Nat) : (Question.nanBits .f64 x y).cut t = t % 2 * 9223372036854775808 + 9218868437227405312 + 1 + t / 2 % 4503599627370495 := by
 simp only [Question.cut, Nat.reducePow, Nat.reduceSub]
theorem nan_run {op : BinOp} (hop : op = .add ∨ op = .sub) {x y : Nat} (h : floatBits op .f64 x y = none) : ∃ f : World → Nat, ∀ W, (binOp op 61 (.float .f64 x) (.float .f64 y)).run Tryz.prog W = .ok (.float .f64 (f W)) W.drew ∧ f W < 18446744073709551616 ∧ finB (f W) = false := by
 refine ⟨fun W => (Question.nanBits .f64 x y).cut (W.tape W.drawn (.nanBits .f64 x y)), fun W => ⟨?_, ?_, ?_⟩⟩
 ·rcases hop with rfl | rfl
  all_goals (unfold floatBits at h; simp only at h; simp [binOp, Op.floatArith, h, Question.forced])
 ·show (Question.nanBits .f64 x y).cut (W.tape W.drawn (.nanBits .f64 x y)) < _
  rw [nan_cut]
  omega
 ·show finB ((Question.nanBits .f64 x y).cut (W.tape W.drawn (.nanBits .f64 x y))) = false
  rw [nan_cut]
  unfold finB
  rw [decide_eq_false]
  have hr : W.tape W.drawn (.nanBits .f64 x y) / 2 % 4503599627370495 < 4503599627370495 := Nat.mod_lt _ (by omega)
  generalize W.tape W.drawn (.nanBits .f64 x y) / 2 % 4503599627370495 = r at *
  rcases (by omega : W.tape W.drawn (.nanBits .f64 x y) % 2 = 0 ∨ W.tape W.drawn (.nanBits .f64 x y) % 2 = 1) with e | e <;> rw [e] <;> omega
def cellsQ (qs : List (Nat × Nat)) : List Value := qs.flatMap fun q => [.float .f64 q.1, .float .f64 q.2]
theorem cellsQ_snoc (qs : List (Nat × Nat)) (q : Nat × Nat) : cellsQ (qs ++ [q]) = cellsQ qs ++ [.float .f64 q.1, .float .f64 q.2] := by
 unfold cellsQ
 rw [List.flatMap_append]
 rfl
theorem cellsQ_at : ∀ (qs : List (Nat × Nat)) (k : Nat) (h : k < qs.length), (cellsQ qs)[k * 2]? = some (.float .f64 qs[k].1) ∧ (cellsQ qs)[k * 2 + 1]? = some (.float .f64 qs[k].2)
 | [], k, h => by cases h
 | q :: qs, 0, h => ⟨rfl, rfl⟩
 | q :: qs, k + 1, h => by
  have ih := cellsQ_at qs k (by simpa using h)
  have e : cellsQ (q :: qs) = .float .f64 q.1 :: .float .f64 q.2 :: cellsQ qs := rfl
  rw [e, show (k + 1) * 2 = k * 2 + 1 + 1 by omega, show k * 2 + 1 + 1 + 1 = (k * 2 + 1) + 1 + 1 by omega]
  simpa using ih
theorem info_a2 : (Tryz.prog.info? 180).map (fun i => (i.zero, i.size, i.bytes)) = some (some (.agg #[.float .f64 0, .float .f64 0]), 2, 16) := by kernel_rfl
theorem two_new2 (w : World) (t : TypeId) (a b : Value) : ∀ (j : Nat) (u : Value), [a, b][j]? = some u → (w.alloc (.cells #[a, b] t)).cell? ((⟨w.heap.size, 0, none⟩ : Addr).add j) = some u := by
 intro j u hj
 have hadd : (⟨w.heap.size, 0, none⟩ : Addr).add j = ⟨w.heap.size, j, none⟩ := by unfold Addr.add; split <;> simp_all
 rw [hadd, (Blk.new w t #[a, b]).cell]
 simpa using hj
theorem own_some2 {w : World} {b n : Nat} {e : TypeId} {A : Option Addr} {m c : Nat} {xs : List Value} (h : w.ownsRow b e 2 (.slice A m c) n xs) (hn : 0 < n) : ∃ g, A = some ⟨g, 0, none⟩ ∧ m = n ∧ n ≤ c ∧ ∀ (j : Nat) u, j < n * 2 → xs[j]? = some u → w.cell? ⟨g, j, none⟩ = some u := by
 rcases h.2 with ⟨h1, h2⟩ | ⟨g, cap, cur, h1, _, hg, h3, h4, h5, h6⟩
 ·omega
 ·injection h1 with e1 e2 e3
  subst e1 e2 e3
  refine ⟨g, rfl, rfl, h3, fun j u hj hu => ?_⟩
  rw [cell_of_row w g j cur e (0, 0) hg]
  rw [← h6, List.getElem?_take, if_pos hj] at hu
  simpa using hu
structure PrL (u : Tr) (l : Tx) (rv : Value) (w w2 : World) (qs : List (Nat × Nat)) (c : Value) (wr : World) : Prop where
 bl : Below w.heap.size w wr
 ref : Blk wr w2.heap.size 58 #[rv]
 own : wr.ownsRow (w2.heap.size + 1) 180 2 c qs.length (cellsQ qs)
 fin : ∀ q ∈ qs, (finB q.1 = true ∧ q.1 < 18446744073709551616) ∧ (finB q.2 = true ∧ q.2 < 18446744073709551616)
 prs : prsD l u.kids 0 = preD qs (prsD l (u.kids.drop qs.length) qs.length)
theorem prl_step {u : Tr} {l : Tx} {rv : Value} {w w2 wr wp w9 : World} {qs : List (Nat × Nat)} {c c' : Value} {q : Nat × Nat} (ho : u.Ok) (hk : qs.length < u.kids.length) (hp : pairD u.kids[qs.length] (atP l qs.length) = .inr q) (h : PrL u l rv w w2 qs c wr) (hww : w.heap.size ≤ w2.heap.size) (hwp : Below wr.heap.size wr wp)
  (hown : w9.ownsRow (w2.heap.size + 1) 180 2 c' (qs.length + 1) (cellsQ qs ++ [.float .f64 q.1, .float .f64 q.2])) (hg : wp.grownBy w9 c.ownBlock) : PrL u l rv w w2 (qs ++ [q]) c' w9 := by
 have hb := h.bl.trans (hwp.mono h.bl.size)
 have hr := h.ref.below hwp h.ref.lt
 have hne : some w2.heap.size ≠ c.ownBlock := fun e => by
  have := (h.own.lt _ e.symm).1
  omega
 refine ⟨hb.grown hg (by have := hb.size; omega) fun j hj => by have := (h.own.lt j hj).1; omega, hr.only hg hne, ?_, ?_, ?_⟩
 ·rw [cellsQ_snoc, List.length_append]
  exact hown
 ·intro x hx
  rcases List.mem_append.1 hx with hx | hx
  ·exact h.fin x hx
  ·rw [List.mem_singleton] at hx
   rw [hx]
   exact pairD_fin ((okl_iff _).1 (kids_ok ho) _ (List.getElem_mem hk)).1 hp
 ·rw [h.prs, prsD_yes hk hp, preD_pre, List.length_append]
  rfl
theorem stepD_eq {a b : Nat} {q : Nat × Nat} {p1 p2 p3 p4 : Nat} (h1 : double.mul a q.1 = some p1) (h2 : double.mul b q.2 = some p2) (h3 : double.mul a q.2 = some p3) (h4 : double.mul b q.1 = some p4) : stepD a b q = match double.sub p1 p2, double.add p3 p4 with
  | some r, some i => if finB r = true ∧ finB i = true then some (r, i) else none
  | _, _ => none := by
 unfold stepD
 rw [h1, h2, h3, h4]
 rfl
theorem bprod_nil (l : Tx) (w : World) : Calls Tryz.prog 28 #[.pointer none, .string ⟨l.toArray⟩] w fun e w' => e = .returned (.tuple #[.complex .f64 0 0, errN 1]) ∧ Below w.heap.size w w' := by
 have q2 := err_ne_held
 go_enter Tryz.func28, Tryz.ntmps28
 go_wp2_with fail
 ((with_reducible refine (blist_nil l _).mono ?_); rintro e w2 ⟨rfl, hb2⟩)
 have HB := Lib.hid (hb2.alloc hb2.size (.cells #[.nilIface] 58))
 clear hb2
 unfold errN
 go_wp2
 go_ret2
 exact ⟨rfl, HB.out⟩
theorem bprod_any (g : Nat) (t : Tr) (v : Value) (l : Tx) (w0 w : World) (hB : Blk w0 g 123 #[v]) (h : RdA w0 t v) (hb0 : Below w0.heap.size w0 w) (ho : t.Ok) (hf : t.fit = true) (hl : l.length ≤ 4194304) (hG : Glob w) (hT : Tab w) :
  Calls Tryz.prog 28 #[.pointer (some ⟨g, 0, none⟩), .string ⟨l.toArray⟩] w (PrdP t l w) := by
 have q1 := err_ne_nil
 have q2 := err_ne_held
 have q3 := fun (a : Addr) (x : Nat) (m : Mode) (W : World) => run_store Tryz.prog W a (.float .f64 x) m rfl
 obtain ⟨i0, hi0, hz0, hz1, hz2⟩ := info_parts info_a2
 have HLS := Lib.hid (blist_any g t v l w0 w hB h hb0 ho hf hl hG hT)
 have HL := Lib.hid hl
 have HT := Lib.hid hT
 have HB0 := Lib.hid hb0
 clear hB h hb0 ho hf hl hG hT
 go_enter Tryz.func28, Tryz.ntmps28
 go_wp2_with fail
 ((with_reducible refine (HLS.out).mono ?_); rintro e w2 ⟨he, hb2⟩)
 have HB2 := Lib.hid hb2
 cases hd : lstD t l with
 | inl ev =>
  rw [hd] at he
  obtain ⟨a, ha, rfl⟩ := he
  have HE := Lib.hid (prdP_lst hd (hb2.alloc hb2.size (.cells #[a] 58)))
  obtain ⟨TE, UE, rfl⟩ := lstD_form hd
  clear hd hb2 HLS
  rcases ha with rfl | ⟨T0, u0, rfl⟩
  ·go_wp2
   go_ret2
   exact HE.out
  ·go_wp2
   go_ret2
   exact HE.out
 | inr u =>
  rw [hd] at he
  obtain ⟨tx, ux, rfl, hrd, huo, hs⟩ := he
  have HD := Lib.hid hd
  have HU := Lib.hid huo
  have HS := Lib.hid hs
  have HR := Lib.hid hrd
  obtain ⟨w3, hw3⟩ : ∃ w3, w2.alloc (.cells #[.iface tx ux] 58) = w3 := ⟨_, rfl⟩
  have hb3 : Below w.heap.size w w3 := by rw [← hw3]; exact hb2.alloc hb2.size _
  have hB6 : Blk w3 w2.heap.size 58 #[.iface tx ux] := by rw [← hw3]; exact Blk.new w2 _ _
  have c6 : w3.cell? ⟨w2.heap.size, 0, none⟩ = some (.iface tx ux) := hB6.cell 0
  have HB3 := Lib.hid hb3
  have HX3 := Lib.hid hB6
  have HW3 := Lib.hid hw3
  have hkl := kids_len (fit_le huo.2).1
  have HKL := Lib.hid hkl
  clear hd hb2 HLS hrd huo hs hw3 hb3 hB6 hkl
  go_upto_region 2 with fail
  rw [HW3.out]
  go_wp2_with fail
  ((with_reducible refine (len_any (fun _ => True) u (.iface tx ux) _ (rda_below HR.out (HB0.out.trans (HB3.out.mono HB0.out.size)))).mono ?_); rintro e w4 ⟨rfl, hb4⟩)
  have HB4 := Lib.hid (HB3.out.trans (hb4.mono HB3.out.size))
  have HX4 := Lib.hid (HX3.out.below hb4 HX3.out.lt)
  clear hb4 c6
  go_wp2_with fail
  go_loopw [8, 32] (fun c8 c32 wr => ∃ qs : List (Nat × Nat), qs.length ≤ u.kids.length ∧ c32 = .int .i64 (qs.length : Int) ∧ Hid (PrL u l (.iface tx ux) w w2 qs c8 wr)) (fun _ c32 _ => u.kids.length - (intOf c32).toNat)
  case atStart => exact ⟨[], Nat.zero_le _, rfl, Lib.hid ⟨HB4.out, HX4.out, World.ownsRow_nil _ _ _ _, fun _ h => (by cases h), (preD_nil _).symm⟩⟩
  case round =>
   obtain ⟨qs, hk, rfl, HI⟩ := hrel
   by_cases hlt : qs.length < u.kids.length
   ·obtain ⟨k, hkq⟩ : ∃ k, qs.length = k := ⟨_, rfl⟩
    have HKQ := Lib.hid hkq
    rw [hkq] at hlt hk ⊢
    have hlti : (k : Int) < (u.kids.length : Int) := by omega
    have c6 : wr.cell? ⟨w2.heap.size, 0, none⟩ = some (.iface tx ux) := HI.out.ref.cell 0
    have HLT := Lib.hid hlt
    obtain ⟨A, c, rfl⟩ := own_slice HI.out.own
    have hown0 := HI.out.own
    rw [hkq] at hown0 ⊢
    have HOWN := Lib.hid hown0
    have HAC : Hid (Calls Tryz.prog 63 #[.agg #[.iface tx ux], .int .i64 (k : Int)] wr (OnP w0 (some u.kids[k]) wr)) := Lib.hid (at_any u (.iface tx ux) k hlt (by have := HKL.out; omega) w0 wr HR.out (HB0.out.trans (HI.out.bl.mono HB0.out.size)))
    have hkb : (k : Int) ≤ 65536 := by have := HKL.out; omega
    obtain ⟨y, hy⟩ : ∃ y, u.kids[k] = y := ⟨_, rfl⟩
    rw [hy] at HAC
    have HY := Lib.hid hy
    clear hk hkq hown0 hy
    go_wp2_with fail
    ((with_reducible refine (HAC.out).mono ?_); rintro e w5 ⟨⟨ty, uy, rfl, hrk⟩, hb5⟩)
    obtain ⟨w6, hw6⟩ : ∃ w6, w5.alloc (.cells #[.iface ty uy] 58) = w6 := ⟨_, rfl⟩
    have hb56 : Below w5.heap.size w5 w6 := by rw [← hw6]; exact (Below.refl _ _).alloc (Nat.le_refl _) _
    have hbk : Below wr.heap.size wr w6 := hb5.trans (hb56.mono hb5.size)
    have hB6 : Blk w6 w5.heap.size 58 #[.iface ty uy] := by rw [← hw6]; exact Blk.new w5 _ _
    have c11 : w6.cell? ⟨w5.heap.size, 0, none⟩ = some (.iface ty uy) := hB6.cell 0
    have HBK := Lib.hid hbk
    have HB6 := Lib.hid (HI.out.bl.trans (hbk.mono HI.out.bl.size))
    have HRK := Lib.hid (rda_below hrk (HB0.out.trans (HB6.out.mono HB0.out.size)))
    have HG6 := Lib.hid (HT.out.next HB6.out)
    have HAT := Lib.hid (fun (W : World) (hT : Tab W) => bat_any l (by have := HL.out; omega) k (by have := HLT.out; have := HKL.out; omega) W hT)
    have HNM := Lib.hid (fun (W : World) (hr : RdA W y (.iface ty uy)) (hT : Tab W) => bpair_any y (.iface ty uy) (atP l k) (by have := atP_len l k (by have := HLT.out; have := HKL.out; omega); have := HL.out; omega) W hr hT)
    obtain ⟨pk, hpk⟩ : ∃ pk, atP l k = pk := ⟨_, rfl⟩
    have HPK := Lib.hid hpk
    rw [hpk] at HAT HNM
    have HWE := Lib.hid hw6
    clear hb5 hrk hb56 hbk hB6 hpk hw6
    go_upto_region 9 with fail
    rw [HWE.out]
    unfold PairP at HNM
    cases hpd : pairD y pk with
    | inl ev =>
     have HPD := Lib.hid hpd
     rw [hpd] at HNM
     obtain ⟨TE, UE, rfl⟩ := pairD_form hpd
     clear hpd
     refine wp_region_held_drew (S := (fun w' => w'.cell? ⟨w5.heap.size, 0, none⟩ = some (.iface ty uy) ∧ Below w6.heap.size w6 w')) (by kernel_rfl) ⟨c11, drewN_below _ 1⟩ (fun hHeld => ?_)
     refine held_take (i := 0) (v := ?_) (some 42) rfl rfl (by kernel_rfl) (by kernel_rfl) (by kernel_rfl) (fun _ _ _ h => h) (Or.inl ⟨by rfl, ?_⟩) hHeld ?_
     rotate_left
     ·intro w hSw
      try dsimp only at hSw
      go_simp
      try with_reducible rfl
     simp only [Act.put, List.setIfInBounds_toArray, List.set_cons_zero, List.set_cons_succ]
     refine held_take (i := 1) (v := ?_) (some 43) rfl rfl (by kernel_rfl) (by kernel_rfl) (by kernel_rfl) (fun _ _ _ h => h) (Or.inl ⟨by rfl, ?_⟩) hHeld ?_
     rotate_left
     ·intro w hSw
      try dsimp only at hSw
      go_simp
      try with_reducible rfl
     simp only [Act.put, List.setIfInBounds_toArray, List.set_cons_zero, List.set_cons_succ]
     refine held_take (i := 2) (v := ?_) (some 44) rfl rfl (by kernel_rfl) (by kernel_rfl) (by kernel_rfl) (fun _ _ _ h => h) (Or.inl ⟨by rfl, ?_⟩) hHeld ?_
     rotate_left
     ·intro w hSw
      try dsimp only at hSw
      go_simp
      try with_reducible rfl
     simp only [Act.put, List.setIfInBounds_toArray, List.set_cons_zero, List.set_cons_succ]
     refine wpAnyH_ready (rs := [3]) (by kernel_rfl) (by simp) ?_
     refine AllReadyH.cons rfl (fun K hK => ?_) AllReadyH.nil
     go_simp
     ((with_reducible refine (HAT.out _ (HG6.out.next hHeld.2)).mono ?_); rintro e w2' ⟨rfl, hb2'⟩; dsimp only)
     replace hHeld := held2B hHeld hb2'
     refine hK.out _ _ hHeld (fun _ => ?_)
     clear hK K
     refine wpAnyH_ready (rs := [4]) (by kernel_rfl) (by simp) ?_
     refine AllReadyH.cons rfl (fun K hK => ?_) AllReadyH.nil
     go_simp
     ((with_reducible refine (HNM.out _ (rda_below HRK.out hHeld.2) (HG6.out.next hHeld.2)).mono ?_); rintro e w2' ⟨he, hb2'⟩; obtain rfl := he; dsimp only)
     replace hHeld := held2B hHeld hb2'
     refine hK.out _ _ hHeld (fun _ => ?_)
     clear hK K
     refine held_take (i := 5) (v := ?_) (some 41) rfl rfl (by kernel_rfl) (by kernel_rfl) (by kernel_rfl) (fun _ _ _ h => h) (Or.inl ⟨by rfl, ?_⟩) hHeld ?_
     rotate_left
     ·intro w hSw
      try dsimp only at hSw
      go_simp
      try with_reducible rfl
     simp only [Act.put, List.setIfInBounds_toArray, List.set_cons_zero, List.set_cons_succ]
     refine held_take (i := 6) (v := ?_) (some 47) rfl rfl (by kernel_rfl) (by kernel_rfl) (by kernel_rfl) (fun _ _ _ h => h) (Or.inl ⟨by rfl, ?_⟩) hHeld ?_
     rotate_left
     ·intro w hSw
      try dsimp only at hSw
      go_simp
      try with_reducible rfl
     simp only [Act.put, List.setIfInBounds_toArray, List.set_cons_zero, List.set_cons_succ]
     refine held_take (i := 7) (v := ?_) (some 48) rfl rfl (by kernel_rfl) (by kernel_rfl) (by kernel_rfl) (fun _ _ _ h => h) (Or.inl ⟨by rfl, ?_⟩) hHeld ?_
     rotate_left
     ·intro w hSw
      try dsimp only at hSw
      go_simp
      try with_reducible rfl
     simp only [Act.put, List.setIfInBounds_toArray, List.set_cons_zero, List.set_cons_succ]
     refine held_take (i := 8) (v := ?_) (some 49) rfl rfl (by kernel_rfl) (by kernel_rfl) (by kernel_rfl) (fun _ _ _ h => h) (Or.inl ⟨by rfl, ?_⟩) hHeld ?_
     rotate_left
     ·intro w hSw
      try dsimp only at hSw
      go_simp
      try with_reducible rfl
     simp only [Act.put, List.setIfInBounds_toArray, List.set_cons_zero, List.set_cons_succ]
     refine held_take (i := 9) (v := ?_) (some 12) rfl rfl (by kernel_rfl) (by kernel_rfl) (by kernel_rfl) (fun _ _ _ h => h) (Or.inl ⟨by rfl, ?_⟩) hHeld ?_
     rotate_left
     ·intro w hSw
      try dsimp only at hSw
      go_simp
      try with_reducible rfl
     simp only [Act.put, List.setIfInBounds_toArray, List.set_cons_zero, List.set_cons_succ]
     refine held_take (i := 10) (v := ?_) (some 13) rfl rfl (by kernel_rfl) (by kernel_rfl) (by kernel_rfl) (fun _ _ _ h => h) (Or.inl ⟨by rfl, ?_⟩) hHeld ?_
     rotate_left
     ·intro w hSw
      try dsimp only at hSw
      go_simp
      try with_reducible rfl
     simp only [Act.put, List.setIfInBounds_toArray, List.set_cons_zero, List.set_cons_succ]
     refine held_take (i := 11) (v := ?_) (some 14) rfl rfl (by kernel_rfl) (by kernel_rfl) (by kernel_rfl) (fun _ _ _ h => h) (Or.inl ⟨by rfl, ?_⟩) hHeld ?_
     rotate_left
     ·intro w hSw
      try dsimp only at hSw
      go_simp
      try with_reducible rfl
     simp only [Act.put, List.setIfInBounds_toArray, List.set_cons_zero, List.set_cons_succ]
     refine wpAnyH_done (by kernel_rfl) ?_ _
     have HE := Lib.hid (prdP_no HD.out (prdD_bad (HI.out.prs.trans (by
      rw [HKQ.out, prsD_no HLT.out (show pairD u.kids[k] (atP l k) = _ by rw [HY.out, HPK.out]; exact HPD.out)]
      rfl))) (HB6.out.trans (hHeld.2.mono HB6.out.size)))
     clear hHeld c11 c6
     go_wp2
     go_ret2
     exact HE.out
    | inr q =>
     obtain ⟨x1, x2⟩ := q
     have HPD := Lib.hid hpd
     rw [hpd] at HNM
     clear hpd
     refine wp_region_held_drew (S := (fun w' => w'.cell? ⟨w5.heap.size, 0, none⟩ = some (.iface ty uy) ∧ Below w6.heap.size w6 w')) (by kernel_rfl) ⟨c11, drewN_below _ 1⟩ (fun hHeld => ?_)
     refine held_take (i := 0) (v := ?_) (some 42) rfl rfl (by kernel_rfl) (by kernel_rfl) (by kernel_rfl) (fun _ _ _ h => h) (Or.inl ⟨by rfl, ?_⟩) hHeld ?_
     rotate_left
     ·intro w hSw
      try dsimp only at hSw
      go_simp
      try with_reducible rfl
     simp only [Act.put, List.setIfInBounds_toArray, List.set_cons_zero, List.set_cons_succ]
     refine held_take (i := 1) (v := ?_) (some 43) rfl rfl (by kernel_rfl) (by kernel_rfl) (by kernel_rfl) (fun _ _ _ h => h) (Or.inl ⟨by rfl, ?_⟩) hHeld ?_
     rotate_left
     ·intro w hSw
      try dsimp only at hSw
      go_simp
      try with_reducible rfl
     simp only [Act.put, List.setIfInBounds_toArray, List.set_cons_zero, List.set_cons_succ]
     refine held_take (i := 2) (v := ?_) (some 44) rfl rfl (by kernel_rfl) (by kernel_rfl) (by kernel_rfl) (fun _ _ _ h => h) (Or.inl ⟨by rfl, ?_⟩) hHeld ?_
     rotate_left
     ·intro w hSw
      try dsimp only at hSw
      go_simp
      try with_reducible rfl
     simp only [Act.put, List.setIfInBounds_toArray, List.set_cons_zero, List.set_cons_succ]
     refine wpAnyH_ready (rs := [3]) (by kernel_rfl) (by simp) ?_
     refine AllReadyH.cons rfl (fun K hK => ?_) AllReadyH.nil
     go_simp
     ((with_reducible refine (HAT.out _ (HG6.out.next hHeld.2)).mono ?_); rintro e w2' ⟨rfl, hb2'⟩; dsimp only)
     replace hHeld := held2B hHeld hb2'
     refine hK.out _ _ hHeld (fun _ => ?_)
     clear hK K
     refine wpAnyH_ready (rs := [4]) (by kernel_rfl) (by simp) ?_
     refine AllReadyH.cons rfl (fun K hK => ?_) AllReadyH.nil
     go_simp
     ((with_reducible refine (HNM.out _ (rda_below HRK.out hHeld.2) (HG6.out.next hHeld.2)).mono ?_); rintro e w2' ⟨he, hb2'⟩; obtain rfl := he; dsimp only)
     replace hHeld := held2B hHeld hb2'
     refine hK.out _ _ hHeld (fun _ => ?_)
     clear hK K
     refine held_take (i := 5) (v := ?_) (some 41) rfl rfl (by kernel_rfl) (by kernel_rfl) (by kernel_rfl) (fun _ _ _ h => h) (Or.inl ⟨by rfl, ?_⟩) hHeld ?_
     rotate_left
     ·intro w hSw
      try dsimp only at hSw
      go_simp
      try with_reducible rfl
     simp only [Act.put, List.setIfInBounds_toArray, List.set_cons_zero, List.set_cons_succ]
     refine held_take (i := 6) (v := ?_) (some 47) rfl rfl (by kernel_rfl) (by kernel_rfl) (by kernel_rfl) (fun _ _ _ h => h) (Or.inl ⟨by rfl, ?_⟩) hHeld ?_
     rotate_left
     ·intro w hSw
      try dsimp only at hSw
      go_simp
      try with_reducible rfl
     simp only [Act.put, List.setIfInBounds_toArray, List.set_cons_zero, List.set_cons_succ]
     refine held_take (i := 7) (v := ?_) (some 48) rfl rfl (by kernel_rfl) (by kernel_rfl) (by kernel_rfl) (fun _ _ _ h => h) (Or.inl ⟨by rfl, ?_⟩) hHeld ?_
     rotate_left
     ·intro w hSw
      try dsimp only at hSw
      go_simp
      try with_reducible rfl
     simp only [Act.put, List.setIfInBounds_toArray, List.set_cons_zero, List.set_cons_succ]
     refine held_take (i := 8) (v := ?_) (some 49) rfl rfl (by kernel_rfl) (by kernel_rfl) (by kernel_rfl) (fun _ _ _ h => h) (Or.inl ⟨by rfl, ?_⟩) hHeld ?_
     rotate_left
     ·intro w hSw
      try dsimp only at hSw
      go_simp
      try with_reducible rfl
     simp only [Act.put, List.setIfInBounds_toArray, List.set_cons_zero, List.set_cons_succ]
     refine held_take (i := 9) (v := ?_) (some 12) rfl rfl (by kernel_rfl) (by kernel_rfl) (by kernel_rfl) (fun _ _ _ h => h) (Or.inl ⟨by rfl, ?_⟩) hHeld ?_
     rotate_left
     ·intro w hSw
      try dsimp only at hSw
      go_simp
      try with_reducible rfl
     simp only [Act.put, List.setIfInBounds_toArray, List.set_cons_zero, List.set_cons_succ]
     refine held_take (i := 10) (v := ?_) (some 13) rfl rfl (by kernel_rfl) (by kernel_rfl) (by kernel_rfl) (fun _ _ _ h => h) (Or.inl ⟨by rfl, ?_⟩) hHeld ?_
     rotate_left
     ·intro w hSw
      try dsimp only at hSw
      go_simp
      try with_reducible rfl
     simp only [Act.put, List.setIfInBounds_toArray, List.set_cons_zero, List.set_cons_succ]
     refine held_take (i := 11) (v := ?_) (some 14) rfl rfl (by kernel_rfl) (by kernel_rfl) (by kernel_rfl) (fun _ _ _ h => h) (Or.inl ⟨by rfl, ?_⟩) hHeld ?_
     rotate_left
     ·intro w hSw
      try dsimp only at hSw
      go_simp
      try with_reducible rfl
     simp only [Act.put, List.setIfInBounds_toArray, List.set_cons_zero, List.set_cons_succ]
     refine wpAnyH_done (by kernel_rfl) ?_ _
     have HHD := Lib.hid hHeld
     have hbp : Below wr.heap.size wr _ := HBK.out.trans (HHD.out.2.mono HBK.out.size)
     have hown := own_below HOWN.out hbp
     have hbl2 := HI.out.ref.lt
     have hbps := hbp.size
     have HBP := Lib.hid hbp
     have hkl9 : k ≤ 65536 := by have := HKL.out; have := HLT.out; omega
     obtain ⟨cq, hcq⟩ : ∃ cq, cellsQ qs = cq := ⟨_, rfl⟩
     have HCQ := Lib.hid hcq
     rw [hcq] at hown
     clear hHeld c11 c6 hbp hcq
     go_wp2_with (at_builtin; refine wpList_append_own_at _ rfl _ _ 174 rfl (w2.heap.size + 1) 180 i0 _ 2 16 Tryz.underlying174 hi0 hz0 hz1 hz2 rfl (by omega) (.slice A k c) k cq rfl (hown.alloc _) ⟨_, 0, none⟩ 1 1 [.float .f64 x1, .float .f64 x2] rfl rfl (two_new2 _ _ _ _) (by intro z hz; rcases List.mem_cons.1 hz with rfl | hz; rfl; rw [List.mem_singleton] at hz; rw [hz]; rfl) ?b1 ?b2 ?b3 ?_; (unfold maxLen; omega); omega; (simp; omega); intro v9 w9 hown9 hgr9 hnil9 hat9)
     have HST : Hid (PrL u l (.iface tx ux) w w2 (qs ++ [(x1, x2)]) v9 w9) := Lib.hid (prl_step HU.out.1 (by rw [HKQ.out]; exact HLT.out) (by
      have h1 := HPD.out
      rw [← HPK.out, ← HY.out] at h1
      simp only [HKQ.out]
      exact h1) HI.out HB2.out.size (HBP.out.alloc HBP.out.size _) (by rw [HKQ.out, HCQ.out]; exact hown9) (by rw [HKQ.out]; exact hgr9))
     clear hown9 hgr9 hnil9 hat9 hown
     go_wp2
     go_roundw
     case rel => exact ⟨qs ++ [(x1, x2)], by rw [List.length_append, HKQ.out]; exact HLT.out, by rw [List.length_append, HKQ.out]; go_num, HST⟩
     case measure => have := HLT.out; have := HKQ.out; simp [intOf]; omega
   ·have hql : qs.length = u.kids.length := by omega
    have HPR : Hid (prsD l u.kids 0 = .inr qs) := Lib.hid (by
     have h1 := HI.out.prs
     rw [hql, prsD_end] at h1
     rw [h1]
     simp [preD])
    have HQL := Lib.hid hql
    obtain ⟨A, c, rfl⟩ := own_slice HI.out.own
    have HOW := Lib.hid HI.out.own
    have HFQS := Lib.hid HI.out.fin
    have HB4 := Lib.hid HI.out.bl
    have hge : ¬ ((qs.length : Int) < (u.kids.length : Int)) := by omega
    clear HX4 HI hk hlt hql
    obtain ⟨wl, rfl⟩ : ∃ wl, wl = wr := ⟨_, rfl⟩
    go_wp2_with fail
    go_loopw [15, 16, 62] (fun c15 c16 c62 wr2 => ∃ (k a b : Nat), k ≤ qs.length ∧ c15 = .float .f64 a ∧ c16 = .float .f64 b ∧ c62 = .int .i64 (k : Int) ∧ Hid ((finB a = true ∧ a < 18446744073709551616) ∧ (finB b = true ∧ b < 18446744073709551616) ∧ prodD qs 0 4607182418800017408 0 = prodD (qs.drop k) k a b ∧ Below wl.heap.size wl wr2)) (fun _ _ c62 _ => qs.length - (intOf c62).toNat)
    case atStart => exact ⟨0, 4607182418800017408, 0, Nat.zero_le _, rfl, rfl, rfl, Lib.hid ⟨⟨by decide, by decide⟩, ⟨by decide, by decide⟩, rfl, Below.refl _ _⟩⟩
    case round =>
     obtain ⟨k, a, b, hk, rfl, rfl, rfl, HI⟩ := hrel
     by_cases hlt : k < qs.length
     ·have hlti : (k : Int) < (qs.length : Int) := by omega
      have hkb : (k : Int) ≤ 65536 := by have := HQL.out; have := HKL.out; omega
      have HLT := Lib.hid hlt
      obtain ⟨gf, rfl, _, hc4, hcu⟩ := own_some2 HOW.out (by omega)
      have hca := cellsQ_at qs k hlt
      have hcx := hcu (k * 2) _ (by omega) hca.1
      have hcy := hcu (k * 2 + 1) _ (by omega) hca.2
      have cx : wr.cell? ⟨gf, k * 2, none⟩ = some (.float .f64 qs[k].1) := (HI.out.2.2.2.cell (World.block_lt_of_cell? _ _ hcx)).trans hcx
      have cy : wr.cell? ⟨gf, k * 2 + 1, none⟩ = some (.float .f64 qs[k].2) := (HI.out.2.2.2.cell (World.block_lt_of_cell? _ _ hcy)).trans hcy
      have hfq := HFQS.out qs[k] (List.getElem_mem hlt)
      have hse0 := fun p1 p2 p3 p4 => @stepD_eq a b qs[k] p1 p2 p3 p4
      obtain ⟨x, hx⟩ : ∃ x, qs[k].1 = x := ⟨_, rfl⟩
      obtain ⟨y, hy⟩ : ∃ y, qs[k].2 = y := ⟨_, rfl⟩
      rw [hx] at cx
      rw [hy] at cy
      have hxf : finB x = true ∧ x < 18446744073709551616 := hx ▸ hfq.1
      have hyf : finB y = true ∧ y < 18446744073709551616 := hy ▸ hfq.2
      obtain ⟨p1, h1, _⟩ := mul_some HI.out.1.2 hxf.2 HI.out.1.1 hxf.1
      obtain ⟨p2, h2, _⟩ := mul_some HI.out.2.1.2 hyf.2 HI.out.2.1.1 hyf.1
      obtain ⟨p3, h3, _⟩ := mul_some HI.out.1.2 hyf.2 HI.out.1.1 hyf.1
      obtain ⟨p4, h4, _⟩ := mul_some HI.out.2.1.2 hxf.2 HI.out.2.1.1 hxf.1
      have HSE := Lib.hid (hse0 p1 p2 p3 p4 (by rw [hx]; exact h1) (by rw [hy]; exact h2) (by rw [hy]; exact h3) (by rw [hx]; exact h4))
      have r1 := fun W : World => run_float_arith (P := Tryz.prog) W .mul 61 .f64 a x p1 h1
      have r2 := fun W : World => run_float_arith (P := Tryz.prog) W .mul 61 .f64 b y p2 h2
      have r3 := fun W : World => run_float_arith (P := Tryz.prog) W .mul 61 .f64 a y p3 h3
      have r4 := fun W : World => run_float_arith (P := Tryz.prog) W .mul 61 .f64 b x p4 h4
      clear hk hca hcx hcy hcu hfq hse0 hx hy hxf hyf h1 h2 h3 h4
      cases hsub : double.sub p1 p2 with
      | none =>
       cases hadd : double.add p3 p4 with
       | none =>
        obtain ⟨fr, hfr⟩ := nan_run (.inr rfl) (x := p1) (y := p2) hsub
        have r5 := fun W => (hfr W).1
        have HFR := Lib.hid fun W => bfin_any (fr W) (hfr W).2.1
        have HFQ := Lib.hid fun W => (hfr W).2.2
        obtain ⟨fi, hfi⟩ := nan_run (.inl rfl) (x := p3) (y := p4) hadd
        have r6 := fun W => (hfi W).1
        have HFI := Lib.hid fun W => bfin_any (fi W) (hfi W).2.1
        have HFJ := Lib.hid fun W => (hfi W).2.2
        have HST := Lib.hid (HSE.out.trans (show _ = none by rw [hsub, hadd]))
        clear hsub hadd hfr hfi
        go_wp2_with fail
        ((with_reducible refine (HFR.out _ _).mono ?_); rintro e w5 ⟨rfl, rfl⟩)
        rw [HFQ.out]
        have hbw : Below wl.heap.size wl (wr.alloc (.cells #[.float .f64 x, .float .f64 y] 180)).drew.drew := (((HI.out.2.2.2.alloc HI.out.2.2.2.size _).trans (drewN_below _ 1)).trans (drewN_below _ 1))
        have HAT := Lib.hid (bat_any l (by have := HL.out; omega) k (by have := HKL.out; have := HLT.out; have := HQL.out; omega) _ (HT.out.next (HB4.out.trans (hbw.mono HB4.out.size))))
        have HBW := Lib.hid hbw
        clear hbw
        go_wp2_with fail
        ((with_reducible refine (HAT.out).mono ?_); rintro e w7 ⟨rfl, hb7⟩)
        have hbe := HBW.out.trans (hb7.mono HBW.out.size)
        have HE := Lib.hid (prdP_no HD.out (prdD_no HPR.out (HI.out.2.2.1.trans (prodD_no HLT.out HST.out))) (HB4.out.trans (hbe.mono HB4.out.size)))
        clear hb7 hbe
        go_wp2_with fail
        ((with_reducible refine (btrail_any 161 (atP l k) _).mono ?_); rintro e w8 ⟨rfl, rfl⟩)
        unfold trlV at HE ⊢
        go_wp2
        go_ret2
        exact HE.out
       | some im =>
        cases hfim : finB im with
        | true =>
         obtain ⟨fr, hfr⟩ := nan_run (.inr rfl) (x := p1) (y := p2) hsub
         have r5 := fun W => (hfr W).1
         have HFR := Lib.hid fun W => bfin_any (fr W) (hfr W).2.1
         have HFQ := Lib.hid fun W => (hfr W).2.2
         have r6 := fun W : World => run_float_arith (P := Tryz.prog) W .add 61 .f64 p3 p4 im hadd
         have HFI := Lib.hid (bfin_any im (Format.add_lt _ hadd))
         rw [hfim] at HFI
         have HST := Lib.hid (HSE.out.trans (show _ = none by rw [hsub, hadd]))
         clear hsub hadd hfr hfim
         go_wp2_with fail
         ((with_reducible refine (HFR.out _ _).mono ?_); rintro e w5 ⟨rfl, rfl⟩)
         rw [HFQ.out]
         have hbw : Below wl.heap.size wl (wr.alloc (.cells #[.float .f64 x, .float .f64 y] 180)).drew := ((HI.out.2.2.2.alloc HI.out.2.2.2.size _).trans (drewN_below _ 1))
         have HAT := Lib.hid (bat_any l (by have := HL.out; omega) k (by have := HKL.out; have := HLT.out; have := HQL.out; omega) _ (HT.out.next (HB4.out.trans (hbw.mono HB4.out.size))))
         have HBW := Lib.hid hbw
         clear hbw
         go_wp2_with fail
         ((with_reducible refine (HAT.out).mono ?_); rintro e w7 ⟨rfl, hb7⟩)
         have hbe := HBW.out.trans (hb7.mono HBW.out.size)
         have HE := Lib.hid (prdP_no HD.out (prdD_no HPR.out (HI.out.2.2.1.trans (prodD_no HLT.out HST.out))) (HB4.out.trans (hbe.mono HB4.out.size)))
         clear hb7 hbe
         go_wp2_with fail
         ((with_reducible refine (btrail_any 161 (atP l k) _).mono ?_); rintro e w8 ⟨rfl, rfl⟩)
         unfold trlV at HE ⊢
         go_wp2
         go_ret2
         exact HE.out
        | false =>
         obtain ⟨fr, hfr⟩ := nan_run (.inr rfl) (x := p1) (y := p2) hsub
         have r5 := fun W => (hfr W).1
         have HFR := Lib.hid fun W => bfin_any (fr W) (hfr W).2.1
         have HFQ := Lib.hid fun W => (hfr W).2.2
         have r6 := fun W : World => run_float_arith (P := Tryz.prog) W .add 61 .f64 p3 p4 im hadd
         have HFI := Lib.hid (bfin_any im (Format.add_lt _ hadd))
         rw [hfim] at HFI
         have HST := Lib.hid (HSE.out.trans (show _ = none by rw [hsub, hadd]))
         clear hsub hadd hfr hfim
         go_wp2_with fail
         ((with_reducible refine (HFR.out _ _).mono ?_); rintro e w5 ⟨rfl, rfl⟩)
         rw [HFQ.out]
         have hbw : Below wl.heap.size wl (wr.alloc (.cells #[.float .f64 x, .float .f64 y] 180)).drew := ((HI.out.2.2.2.alloc HI.out.2.2.2.size _).trans (drewN_below _ 1))
         have HAT := Lib.hid (bat_any l (by have := HL.out; omega) k (by have := HKL.out; have := HLT.out; have := HQL.out; omega) _ (HT.out.next (HB4.out.trans (hbw.mono HB4.out.size))))
         have HBW := Lib.hid hbw
         clear hbw
         go_wp2_with fail
         ((with_reducible refine (HAT.out).mono ?_); rintro e w7 ⟨rfl, hb7⟩)
         have hbe := HBW.out.trans (hb7.mono HBW.out.size)
         have HE := Lib.hid (prdP_no HD.out (prdD_no HPR.out (HI.out.2.2.1.trans (prodD_no HLT.out HST.out))) (HB4.out.trans (hbe.mono HB4.out.size)))
         clear hb7 hbe
         go_wp2_with fail
         ((with_reducible refine (btrail_any 161 (atP l k) _).mono ?_); rintro e w8 ⟨rfl, rfl⟩)
         unfold trlV at HE ⊢
         go_wp2
         go_ret2
         exact HE.out
      | some re =>
       cases hfre : finB re with
       | true =>
        cases hadd : double.add p3 p4 with
        | none =>
         have r5 := fun W : World => run_float_arith (P := Tryz.prog) W .sub 61 .f64 p1 p2 re hsub
         have HFR := Lib.hid (bfin_any re (Format.sub_lt _ hsub))
         rw [hfre] at HFR
         obtain ⟨fi, hfi⟩ := nan_run (.inl rfl) (x := p3) (y := p4) hadd
         have r6 := fun W => (hfi W).1
         have HFI := Lib.hid fun W => bfin_any (fi W) (hfi W).2.1
         have HFJ := Lib.hid fun W => (hfi W).2.2
         have HST := Lib.hid (HSE.out.trans (show _ = none by rw [hsub, hadd]))
         clear hsub hadd hfre hfi
         go_wp2_with fail
         ((with_reducible refine (HFR.out _).mono ?_); rintro e w5 ⟨rfl, rfl⟩)
         go_wp2_with fail
         ((with_reducible refine (HFI.out _ _).mono ?_); rintro e w6 ⟨rfl, rfl⟩)
         rw [HFJ.out]
         have hbw : Below wl.heap.size wl (wr.alloc (.cells #[.float .f64 x, .float .f64 y] 180)).drew := ((HI.out.2.2.2.alloc HI.out.2.2.2.size _).trans (drewN_below _ 1))
         have HAT := Lib.hid (bat_any l (by have := HL.out; omega) k (by have := HKL.out; have := HLT.out; have := HQL.out; omega) _ (HT.out.next (HB4.out.trans (hbw.mono HB4.out.size))))
         have HBW := Lib.hid hbw
         clear hbw
         go_wp2_with fail
         ((with_reducible refine (HAT.out).mono ?_); rintro e w7 ⟨rfl, hb7⟩)
         have hbe := HBW.out.trans (hb7.mono HBW.out.size)
         have HE := Lib.hid (prdP_no HD.out (prdD_no HPR.out (HI.out.2.2.1.trans (prodD_no HLT.out HST.out))) (HB4.out.trans (hbe.mono HB4.out.size)))
         clear hb7 hbe
         go_wp2_with fail
         ((with_reducible refine (btrail_any 161 (atP l k) _).mono ?_); rintro e w8 ⟨rfl, rfl⟩)
         unfold trlV at HE ⊢
         go_wp2
         go_ret2
         exact HE.out
        | some im =>
         cases hfim : finB im with
         | true =>
          have r5 := fun W : World => run_float_arith (P := Tryz.prog) W .sub 61 .f64 p1 p2 re hsub
          have HFR := Lib.hid (bfin_any re (Format.sub_lt _ hsub))
          rw [hfre] at HFR
          have r6 := fun W : World => run_float_arith (P := Tryz.prog) W .add 61 .f64 p3 p4 im hadd
          have HFI := Lib.hid (bfin_any im (Format.add_lt _ hadd))
          rw [hfim] at HFI
          have HST := Lib.hid (HSE.out.trans (show _ = some (re, im) by rw [hsub, hadd]; dsimp only; rw [if_pos ⟨hfre, hfim⟩]))
          have HFF := Lib.hid (And.intro (And.intro hfre (Format.sub_lt _ hsub)) (And.intro hfim (Format.add_lt _ hadd)))
          clear hsub hadd hfre hfim
          go_wp2_with fail
          ((with_reducible refine (HFR.out _).mono ?_); rintro e w5 ⟨rfl, rfl⟩)
          go_wp2_with fail
          ((with_reducible refine (HFI.out _).mono ?_); rintro e w6 ⟨rfl, rfl⟩)
          go_wp2
          go_roundw
          case rel => exact ⟨k + 1, re, im, HLT.out, rfl, rfl, by go_num, Lib.hid ⟨HFF.out.1, HFF.out.2, HI.out.2.2.1.trans (prodD_yes HLT.out HST.out), (HI.out.2.2.2.alloc HI.out.2.2.2.size _)⟩⟩
          case measure => have := HLT.out; simp [intOf]; omega
         | false =>
          have r5 := fun W : World => run_float_arith (P := Tryz.prog) W .sub 61 .f64 p1 p2 re hsub
          have HFR := Lib.hid (bfin_any re (Format.sub_lt _ hsub))
          rw [hfre] at HFR
          have r6 := fun W : World => run_float_arith (P := Tryz.prog) W .add 61 .f64 p3 p4 im hadd
          have HFI := Lib.hid (bfin_any im (Format.add_lt _ hadd))
          rw [hfim] at HFI
          have HST := Lib.hid (HSE.out.trans (show _ = none by rw [hsub, hadd]; dsimp only; rw [if_neg (by rw [hfre, hfim]; simp)]))
          clear hsub hadd hfre hfim
          go_wp2_with fail
          ((with_reducible refine (HFR.out _).mono ?_); rintro e w5 ⟨rfl, rfl⟩)
          go_wp2_with fail
          ((with_reducible refine (HFI.out _).mono ?_); rintro e w6 ⟨rfl, rfl⟩)
          have hbw : Below wl.heap.size wl (wr.alloc (.cells #[.float .f64 x, .float .f64 y] 180)) := (HI.out.2.2.2.alloc HI.out.2.2.2.size _)
          have HAT := Lib.hid (bat_any l (by have := HL.out; omega) k (by have := HKL.out; have := HLT.out; have := HQL.out; omega) _ (HT.out.next (HB4.out.trans (hbw.mono HB4.out.size))))
          have HBW := Lib.hid hbw
          clear hbw
          go_wp2_with fail
          ((with_reducible refine (HAT.out).mono ?_); rintro e w7 ⟨rfl, hb7⟩)
          have hbe := HBW.out.trans (hb7.mono HBW.out.size)
          have HE := Lib.hid (prdP_no HD.out (prdD_no HPR.out (HI.out.2.2.1.trans (prodD_no HLT.out HST.out))) (HB4.out.trans (hbe.mono HB4.out.size)))
          clear hb7 hbe
          go_wp2_with fail
          ((with_reducible refine (btrail_any 161 (atP l k) _).mono ?_); rintro e w8 ⟨rfl, rfl⟩)
          unfold trlV at HE ⊢
          go_wp2
          go_ret2
          exact HE.out
       | false =>
        cases hadd : double.add p3 p4 with
        | none =>
         have r5 := fun W : World => run_float_arith (P := Tryz.prog) W .sub 61 .f64 p1 p2 re hsub
         have HFR := Lib.hid (bfin_any re (Format.sub_lt _ hsub))
         rw [hfre] at HFR
         obtain ⟨fi, hfi⟩ := nan_run (.inl rfl) (x := p3) (y := p4) hadd
         have r6 := fun W => (hfi W).1
         have HFI := Lib.hid fun W => bfin_any (fi W) (hfi W).2.1
         have HFJ := Lib.hid fun W => (hfi W).2.2
         have HST := Lib.hid (HSE.out.trans (show _ = none by rw [hsub, hadd]))
         clear hsub hadd hfre hfi
         go_wp2_with fail
         ((with_reducible refine (HFR.out _).mono ?_); rintro e w5 ⟨rfl, rfl⟩)
         have hbw : Below wl.heap.size wl (wr.alloc (.cells #[.float .f64 x, .float .f64 y] 180)).drew := ((HI.out.2.2.2.alloc HI.out.2.2.2.size _).trans (drewN_below _ 1))
         have HAT := Lib.hid (bat_any l (by have := HL.out; omega) k (by have := HKL.out; have := HLT.out; have := HQL.out; omega) _ (HT.out.next (HB4.out.trans (hbw.mono HB4.out.size))))
         have HBW := Lib.hid hbw
         clear hbw
         go_wp2_with fail
         ((with_reducible refine (HAT.out).mono ?_); rintro e w7 ⟨rfl, hb7⟩)
         have hbe := HBW.out.trans (hb7.mono HBW.out.size)
         have HE := Lib.hid (prdP_no HD.out (prdD_no HPR.out (HI.out.2.2.1.trans (prodD_no HLT.out HST.out))) (HB4.out.trans (hbe.mono HB4.out.size)))
         clear hb7 hbe
         go_wp2_with fail
         ((with_reducible refine (btrail_any 161 (atP l k) _).mono ?_); rintro e w8 ⟨rfl, rfl⟩)
         unfold trlV at HE ⊢
         go_wp2
         go_ret2
         exact HE.out
        | some im =>
         cases hfim : finB im with
         | true =>
          have r5 := fun W : World => run_float_arith (P := Tryz.prog) W .sub 61 .f64 p1 p2 re hsub
          have HFR := Lib.hid (bfin_any re (Format.sub_lt _ hsub))
          rw [hfre] at HFR
          have r6 := fun W : World => run_float_arith (P := Tryz.prog) W .add 61 .f64 p3 p4 im hadd
          have HFI := Lib.hid (bfin_any im (Format.add_lt _ hadd))
          rw [hfim] at HFI
          have HST := Lib.hid (HSE.out.trans (show _ = none by rw [hsub, hadd]; dsimp only; rw [if_neg (by rw [hfre, hfim]; simp)]))
          clear hsub hadd hfre hfim
          go_wp2_with fail
          ((with_reducible refine (HFR.out _).mono ?_); rintro e w5 ⟨rfl, rfl⟩)
          have hbw : Below wl.heap.size wl (wr.alloc (.cells #[.float .f64 x, .float .f64 y] 180)) := (HI.out.2.2.2.alloc HI.out.2.2.2.size _)
          have HAT := Lib.hid (bat_any l (by have := HL.out; omega) k (by have := HKL.out; have := HLT.out; have := HQL.out; omega) _ (HT.out.next (HB4.out.trans (hbw.mono HB4.out.size))))
          have HBW := Lib.hid hbw
          clear hbw
          go_wp2_with fail
          ((with_reducible refine (HAT.out).mono ?_); rintro e w7 ⟨rfl, hb7⟩)
          have hbe := HBW.out.trans (hb7.mono HBW.out.size)
          have HE := Lib.hid (prdP_no HD.out (prdD_no HPR.out (HI.out.2.2.1.trans (prodD_no HLT.out HST.out))) (HB4.out.trans (hbe.mono HB4.out.size)))
          clear hb7 hbe
          go_wp2_with fail
          ((with_reducible refine (btrail_any 161 (atP l k) _).mono ?_); rintro e w8 ⟨rfl, rfl⟩)
          unfold trlV at HE ⊢
          go_wp2
          go_ret2
          exact HE.out
         | false =>
          have r5 := fun W : World => run_float_arith (P := Tryz.prog) W .sub 61 .f64 p1 p2 re hsub
          have HFR := Lib.hid (bfin_any re (Format.sub_lt _ hsub))
          rw [hfre] at HFR
          have r6 := fun W : World => run_float_arith (P := Tryz.prog) W .add 61 .f64 p3 p4 im hadd
          have HFI := Lib.hid (bfin_any im (Format.add_lt _ hadd))
          rw [hfim] at HFI
          have HST := Lib.hid (HSE.out.trans (show _ = none by rw [hsub, hadd]; dsimp only; rw [if_neg (by rw [hfre, hfim]; simp)]))
          clear hsub hadd hfre hfim
          go_wp2_with fail
          ((with_reducible refine (HFR.out _).mono ?_); rintro e w5 ⟨rfl, rfl⟩)
          have hbw : Below wl.heap.size wl (wr.alloc (.cells #[.float .f64 x, .float .f64 y] 180)) := (HI.out.2.2.2.alloc HI.out.2.2.2.size _)
          have HAT := Lib.hid (bat_any l (by have := HL.out; omega) k (by have := HKL.out; have := HLT.out; have := HQL.out; omega) _ (HT.out.next (HB4.out.trans (hbw.mono HB4.out.size))))
          have HBW := Lib.hid hbw
          clear hbw
          go_wp2_with fail
          ((with_reducible refine (HAT.out).mono ?_); rintro e w7 ⟨rfl, hb7⟩)
          have hbe := HBW.out.trans (hb7.mono HBW.out.size)
          have HE := Lib.hid (prdP_no HD.out (prdD_no HPR.out (HI.out.2.2.1.trans (prodD_no HLT.out HST.out))) (HB4.out.trans (hbe.mono HB4.out.size)))
          clear hb7 hbe
          go_wp2_with fail
          ((with_reducible refine (btrail_any 161 (atP l k) _).mono ?_); rintro e w8 ⟨rfl, rfl⟩)
          unfold trlV at HE ⊢
          go_wp2
          go_ret2
          exact HE.out
     ·obtain rfl : k = qs.length := by omega
      have HE := Lib.hid (prdP_ok HD.out (prdD_ok HPR.out (HI.out.2.2.1.trans (prodD_end qs a b))) (HB4.out.trans (HI.out.2.2.2.mono HB4.out.size)))
      have HP1 := Lib.hid (bpos_any a HI.out.1.2 HI.out.1.1)
      have HP2 := Lib.hid (bpos_any b HI.out.2.1.2 HI.out.2.1.1)
      go_wp2_with fail
      ((with_reducible refine (HP1.out _).mono ?_); rintro e w5 ⟨rfl, rfl⟩)
      go_wp2_with fail
      ((with_reducible refine (HP2.out _).mono ?_); rintro e w6 ⟨rfl, rfl⟩)
      go_wp2
      go_ret2
      exact HE.out
end Nd
end Go.Proofs.YtbajkglacfheiaaGreatDoor
