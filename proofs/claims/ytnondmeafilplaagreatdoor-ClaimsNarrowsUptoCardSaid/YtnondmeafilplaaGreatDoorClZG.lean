/-
  The statement ClaimsNarrows of layer 25: what comes in (printed by wip/gen_clz.py).
-/
import Derived.Test.YtnondmeafilplaaGreatDoorClOpen
import Derived.Test.YtnondmeafilplaaGreatDoorClZF
namespace Go.Proofs.YtnondmeafilplaaGreatDoor
open Go.ChangeShapes Go.WideShapes Go.RowKit Go.Deep Mem Tok Cl
set_option linter.unusedVariables false


section
variable {H : Type} {enc : TypeId × Value → H} {P : Program} {w : World} {base : Nat} {spare : Nat → Bool} {held : Bool}
theorem trod_fields {t : TypeId} {fs : Array Field} {fuel : Nat} {l : List Value} {y : DataW H × List MemPlace} (hs : P.underlying t = some (.struct fs)) (hone : oneCellFields P fs = true) (hC : P.cellsOf t = fs.size)
    (h : DataW.trod enc P w base spare held fuel t l = some y) :
    ∃ (ys : List (DataW H × List MemPlace)) (n : Nat), l.length = fs.size ∧ y.1 = .agg (ys.map (·.1)) ∧ ys.length = fs.size ∧
      ∀ (j : Nat) (f : Field), fs[j]? = some f → ∃ (c : Value) (y : DataW H × List MemPlace), l[j]? = some c ∧ ys[j]? = some y ∧ DataW.trod enc P w base spare held n f.type [c] = some y := by
  obtain ⟨xs, n, _, hx, hln, hlen, hg⟩ := DataW.trod_struct hs h
  have hll : l.length = fs.size := by simpa [hC] using hln
  subst hx
  refine ⟨xs, n, hll, rfl, hlen, fun j f hj => ?_⟩
  obtain ⟨ho, hk⟩ := hone_of hone j f hj
  have hjl : j < fs.size := (Array.getElem?_eq_some_iff.1 hj).1
  have h1 := hg j f hj
  rw [ho, hk] at h1
  rw [List.drop_eq_getElem_cons (by omega)] at h1
  have hys : xs[j]? = some (xs[j]'(by omega)) := List.getElem?_eq_getElem (by omega)
  exact ⟨_, _, List.getElem?_eq_getElem (by omega), hys, h1.trans hys⟩
end
section
variable {H : Type} {enc : TypeId × Value → H} {W : World}
set_option maxRecDepth 100000 in
theorem claims_trod {n : Nat} {l : List Value} {y : DataW H × List MemPlace} (h : DataW.trod enc Tryz.prog W 0 (fun _ => true) true n 44 l = some y) (hb : Rows.uptoBulk y.1 ≤ 1048576) :
    ∃ c v1 v2 v3, l = [v1, .string ⟨c.about.toArray⟩, .int .i64 c.at_, .string ⟨c.by_.toArray⟩, v2, .int .i64 c.from_, .string ⟨c.id_.toArray⟩, v3, .int .i64 c.until_] ∧ ClAt W c v1 v2 v3 := by
  obtain ⟨ys, n, hcl, hy, hyl, hf⟩ := trod_fields Tryz.underlying44 (by kernel_rfl) (by kernel_rfl) h
  rw [hy] at hb
  clear h hy
  match l, hcl, ys, hyl with
  | [c0, c1, c2, c3, c4, c5, c6, c7, c8], _, [y0, y1, y2, y3, y4, y5, y6, y7, y8], _ =>
    obtain ⟨_, _, a0, b0, t0⟩ := hf 0 _ rfl
    obtain ⟨_, _, a1, b1, t1⟩ := hf 1 _ rfl
    obtain ⟨_, _, a2, b2, t2⟩ := hf 2 _ rfl
    obtain ⟨_, _, a3, b3, t3⟩ := hf 3 _ rfl
    obtain ⟨_, _, a4, b4, t4⟩ := hf 4 _ rfl
    obtain ⟨_, _, a5, b5, t5⟩ := hf 5 _ rfl
    obtain ⟨_, _, a6, b6, t6⟩ := hf 6 _ rfl
    obtain ⟨_, _, a7, b7, t7⟩ := hf 7 _ rfl
    obtain ⟨_, _, a8, b8, t8⟩ := hf 8 _ rfl
    injection a0 with a0; injection a1 with a1; injection a2 with a2; injection a3 with a3; injection a4 with a4; injection a5 with a5; injection a6 with a6; injection a7 with a7; injection a8 with a8
    injection b0 with b0; injection b1 with b1; injection b2 with b2; injection b3 with b3; injection b4 with b4; injection b5 with b5; injection b6 with b6; injection b7 with b7; injection b8 with b8
    subst a0 a1 a2 a3 a4 a5 a6 a7 a8 b0 b1 b2 b3 b4 b5 b6 b7 b8
    simp only [List.map_cons, List.map_nil, Rows.uptoBulk, Rows.uptoBulkAll] at hb
    obtain ⟨c, rfl, rfl, rfl, rfl, rfl, rfl, hc⟩ := claims_of t0 t1 t2 t3 t4 t5 t6 t7 t8 (by omega)
    exact ⟨c, _, _, _, rfl, hc⟩
set_option maxRecDepth 100000 in
theorem rules_trod {n : Nat} {l : List Value} {y : DataW H × List MemPlace} (h : DataW.trod enc Tryz.prog W 0 (fun _ => true) true n 25 l = some y) (hb : Rows.uptoBulk y.1 ≤ 1048576) :
    ∃ r u1 u2 u3, l = [.int .i64 r.now, .int .i64 r.slack, .string ⟨r.who.toArray⟩, u1, u2, u3] ∧ RuAt W r u1 u2 u3 := by
  obtain ⟨ys, n, hcl, hy, hyl, hf⟩ := trod_fields Tryz.underlying25 (by kernel_rfl) (by kernel_rfl) h
  rw [hy] at hb
  clear h hy
  match l, hcl, ys, hyl with
  | [c0, c1, c2, c3, c4, c5], _, [y0, y1, y2, y3, y4, y5], _ =>
    obtain ⟨_, _, a0, b0, t0⟩ := hf 0 _ rfl
    obtain ⟨_, _, a1, b1, t1⟩ := hf 1 _ rfl
    obtain ⟨_, _, a2, b2, t2⟩ := hf 2 _ rfl
    obtain ⟨_, _, a3, b3, t3⟩ := hf 3 _ rfl
    obtain ⟨_, _, a4, b4, t4⟩ := hf 4 _ rfl
    obtain ⟨_, _, a5, b5, t5⟩ := hf 5 _ rfl
    injection a0 with a0; injection a1 with a1; injection a2 with a2; injection a3 with a3; injection a4 with a4; injection a5 with a5
    injection b0 with b0; injection b1 with b1; injection b2 with b2; injection b3 with b3; injection b4 with b4; injection b5 with b5
    subst a0 a1 a2 a3 a4 a5 b0 b1 b2 b3 b4 b5
    simp only [List.map_cons, List.map_nil, Rows.uptoBulk, Rows.uptoBulkAll] at hb
    obtain ⟨r, rfl, rfl, rfl, hr⟩ := rules_of t0 t1 t2 t3 t4 t5 (by omega)
    exact ⟨r, _, _, _, rfl, hr⟩
set_option maxRecDepth 100000 in
theorem open_narrow {b0 : Nat} {r : Reach} {v : Value} {d : DataW H} {p : List MemPlace} (hv : Value.okWide Tryz.prog W r b0 61 v) (h : DataW.Trod enc Tryz.prog W 0 (fun _ => true) true 61 v d p) (hb : Rows.uptoBulk d ≤ 1048576) :
    ∃ c m o r v1 v2 v3 y1 y2 y3 t1 t2 t3 u1 u2 u3, v = .agg #[v1, .string ⟨c.about.toArray⟩, .int .i64 c.at_, .string ⟨c.by_.toArray⟩, v2, .int .i64 c.from_, .string ⟨c.id_.toArray⟩, v3, .int .i64 c.until_, y1, .string ⟨m.about.toArray⟩, .int .i64 m.at_, .string ⟨m.by_.toArray⟩, y2, .int .i64 m.from_, .string ⟨m.id_.toArray⟩, y3, .int .i64 m.until_, t1, .string ⟨o.about.toArray⟩, .int .i64 o.at_, .string ⟨o.by_.toArray⟩, t2, .int .i64 o.from_, .string ⟨o.id_.toArray⟩, t3, .int .i64 o.until_, .int .i64 r.now, .int .i64 r.slack, .string ⟨r.who.toArray⟩, u1, u2, u3] ∧ ClAt W c v1 v2 v3 ∧ ClAt W m y1 y2 y3 ∧ ClAt W o t1 t2 t3 ∧ RuAt W r u1 u2 u3 := by
  obtain ⟨cs, rfl, hsz⟩ := okWide_struct Tryz.underlying61 hv
  obtain ⟨l⟩ := cs
  obtain ⟨fuel, hf⟩ := h
  obtain ⟨xs, n, _, hx, hln, hlen, hg⟩ := DataW.trod_struct Tryz.underlying61 hf
  have hcl : (Value.agg ⟨l⟩).cells.toList = l := rfl
  rw [hcl] at hg hln
  have hl33 : l.length = 33 := hln.trans (by kernel_rfl)
  simp only [Prod.mk.injEq] at hx
  obtain ⟨rfl, _⟩ := hx
  match xs, hlen with
  | [x0, x1, x2, x3], _ =>
    simp only [List.map_cons, List.map_nil, Rows.uptoBulk, Rows.uptoBulkAll] at hb
    have g0 : DataW.trod enc Tryz.prog W 0 (fun _ => true) true n 44 ((l.drop 0).take 9) = some x0 := hg 0 _ rfl
    have g1 : DataW.trod enc Tryz.prog W 0 (fun _ => true) true n 44 ((l.drop 9).take 9) = some x1 := hg 1 _ rfl
    have g2 : DataW.trod enc Tryz.prog W 0 (fun _ => true) true n 44 ((l.drop 18).take 9) = some x2 := hg 2 _ rfl
    have g3 : DataW.trod enc Tryz.prog W 0 (fun _ => true) true n 25 ((l.drop 27).take 6) = some x3 := hg 3 _ rfl
    obtain ⟨c, v1, v2, v3, k0, hc⟩ := claims_trod g0 (by omega)
    obtain ⟨m, y1, y2, y3, k1, hm⟩ := claims_trod g1 (by omega)
    obtain ⟨o, t1, t2, t3, k2, ho⟩ := claims_trod g2 (by omega)
    obtain ⟨r, u1, u2, u3, k3, hr⟩ := rules_trod g3 (by omega)
    have e : l = (l.drop 0).take 9 ++ ((l.drop 9).take 9 ++ ((l.drop 18).take 9 ++ (l.drop 27).take 6)) := by
      have a3 : (l.drop 27).take 6 = l.drop 27 := List.take_of_length_le (by rw [List.length_drop]; omega)
      have a2 : (l.drop 18).take 9 ++ l.drop 27 = l.drop 18 := by
        have := List.take_append_drop 9 (l.drop 18)
        rwa [List.drop_drop] at this
      have a1 : (l.drop 9).take 9 ++ l.drop 18 = l.drop 9 := by
        have := List.take_append_drop 9 (l.drop 9)
        rwa [List.drop_drop] at this
      rw [a3, a2, a1, List.drop_zero, List.take_append_drop]
    rw [k0, k1, k2, k3] at e
    exact ⟨c, m, o, r, v1, v2, v3, y1, y2, y3, t1, t2, t3, u1, u2, u3, by rw [e]; rfl, hc, hm, ho, hr⟩
end
end Go.Proofs.YtnondmeafilplaaGreatDoor
