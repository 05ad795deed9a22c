/-
  Walk of package claims: Worst.
-/
import Derived.Test.YtbcckpnngonoeaaGreatDoorCvQ
namespace Go.Proofs.YtbcckpnngonoeaaGreatDoor
open Go.RowKit Mem Utf Ref3 Tok Cl
set_option linter.unusedVariables false

namespace Cl
/-- the first verdict that is not good; else the least end -/
def worstK (r : R) : Nat → Int → List C → Verd × Int
  | _, u, [] => (⟨1, u, [], []⟩, -1)
  | i, u, c :: l => if (judgeP c r).kind = 1 then worstK r (i + 1) (if 0 ≤ (judgeP c r).time ∧ (u < 0 ∨ (judgeP c r).time < u) then (judgeP c r).time else u) l else (judgeP c r, (i : Int))
def worstP (r : R) (l : List C) : Verd × Int := worstK r 0 (-1) l
theorem worstK_drop {r : R} {l : List C} {k : Nat} {u : Int} (hk : k < l.length) : worstK r k u (l.drop k) = if (judgeP l[k] r).kind = 1 then worstK r (k + 1) (if 0 ≤ (judgeP l[k] r).time ∧ (u < 0 ∨ (judgeP l[k] r).time < u) then (judgeP l[k] r).time else u) (l.drop (k + 1)) else (judgeP l[k] r, (k : Int)) := by
  rw [List.drop_eq_getElem_cons hk, worstK]
theorem judgeP_kind (c : C) (r : R) : (judgeP c r).kind ≤ 7 := by
  unfold judgeP
  split
  · unfold judge0
    split
    · exact (by decide : 4 ≤ 7)
    · unfold judge1
      split
      · exact (by decide : 5 ≤ 7)
      · unfold judge2
        split
        · exact (by decide : 6 ≤ 7)
        · unfold judge3
          split
          · exact (by decide : 2 ≤ 7)
          · unfold judge4
            split
            · exact (by decide : 3 ≤ 7)
            · unfold judge5
              split
              · exact (by decide : 1 ≤ 7)
              · exact (by decide : 7 ≤ 7)
  · exact Nat.zero_le _
end Cl
theorem VerdV.below {B : Nat} {w w' : World} {v : Value} {x : Verd} (h : VerdV B w v x) (hb : Below w.heap.size w w') : VerdV B w' v x := by
  obtain ⟨k, t, s, l⟩ := x
  unfold VerdV at h ⊢
  split <;> simp_all only
  · obtain ⟨b, h1, rfl, h3⟩ := h
    exact ⟨b, h1, rfl, h3.below hb h3.lt⟩
  · obtain ⟨y, rfl, h3⟩ := h
    exact ⟨y, rfl, own_below h3 hb⟩
  · obtain ⟨y, rfl, h3⟩ := h
    exact ⟨y, rfl, own_below h3 hb⟩
theorem own_base {w : World} {B B' size n : Nat} {e : TypeId} {v : Value} {xs : List Value} (h : w.ownsRow B e size v n xs) (hB : B' ≤ B) : w.ownsRow B' e size v n xs :=
  ⟨h.1, h.2.imp id fun ⟨g, cap, cur, e1, e2, e3⟩ => ⟨g, cap, cur, e1, Nat.le_trans hB e2, e3⟩⟩
theorem VerdV.base {B B' : Nat} {w : World} {v : Value} {x : Verd} (h : VerdV B w v x) (hB : B' ≤ B) : VerdV B' w v x := by
  obtain ⟨k, t, s, l⟩ := x
  unfold VerdV at h ⊢
  split <;> simp_all only
  · obtain ⟨b, h1, rfl, h3⟩ := h
    exact ⟨b, Nat.le_trans hB h1, rfl, h3⟩
  · obtain ⟨y, rfl, h3⟩ := h
    exact ⟨y, rfl, own_base h3 hB⟩
  · obtain ⟨y, rfl, h3⟩ := h
    exact ⟨y, rfl, own_base h3 hB⟩
theorem tvb_0 (v : Value) (w : World) : (Instr.typeAssert (.iface 42 v) 34 110 true).run Tryz.prog w = .ok (.tuple #[.agg #[.int .i64 0], .bool false]) w := by kernel_rfl
theorem verd_holds {B : Nat} {w : World} {v : Value} {x : Verd} (h : VerdV B w v x) (hk : x.kind = 1) : v = .iface 110 (.agg #[.int .i64 x.time]) := by
  unfold VerdV at h
  rw [hk] at h
  exact h
theorem verd_other {B : Nat} {w : World} {v : Value} {x : Verd} (h : VerdV B w v x) (h7 : x.kind ≤ 7) (hk : x.kind ≠ 1) (W : World) :
    (Instr.typeAssert v 34 110 true).run Tryz.prog W = .ok (.tuple #[.agg #[.int .i64 0], .bool false]) W := by
  obtain ⟨k, t, s, l⟩ := x
  simp only [] at hk h7
  have h8 : k = 0 ∨ k = 2 ∨ k = 3 ∨ k = 4 ∨ k = 5 ∨ k = 6 ∨ k = 7 := by omega
  unfold VerdV at h
  rcases h8 with rfl | rfl | rfl | rfl | rfl | rfl | rfl <;> simp only [] at h
  · obtain ⟨b, _, rfl, _⟩ := h
    exact tvb_0 _ W
  · subst h
    exact tv_1_0 _ W
  · subst h
    exact tv_2_0 _ W
  · subst h
    exact tv_3_0 _ W
  · subst h
    exact tv_4_0 _ W
  · obtain ⟨y, rfl, _⟩ := h
    exact tv_5_0 _ W
  · obtain ⟨y, rfl, _⟩ := h
    exact tv_6_0 _ W

/-- one claims' nine cells, from a place on -/
structure Nine (w : World) (g a : Nat) (c : C) (v1 v2 v3 : Value) : Prop where
  c0 : w.cell? ⟨g, a, none⟩ = some v1
  c1 : w.cell? ⟨g, a + 1, none⟩ = some (.string ⟨c.about.toArray⟩)
  c2 : w.cell? ⟨g, a + 2, none⟩ = some (.int .i64 c.at_)
  c3 : w.cell? ⟨g, a + 3, none⟩ = some (.string ⟨c.by_.toArray⟩)
  c4 : w.cell? ⟨g, a + 4, none⟩ = some v2
  c5 : w.cell? ⟨g, a + 5, none⟩ = some (.int .i64 c.from_)
  c6 : w.cell? ⟨g, a + 6, none⟩ = some (.string ⟨c.id_.toArray⟩)
  c7 : w.cell? ⟨g, a + 7, none⟩ = some v3
  c8 : w.cell? ⟨g, a + 8, none⟩ = some (.int .i64 c.until_)
theorem Nine.below {w w' : World} {g a : Nat} {c : C} {v1 v2 v3 : Value} (h : Nine w g a c v1 v2 v3) (hg : g < w.heap.size) (hb : Below w.heap.size w w') : Nine w' g a c v1 v2 v3 := by
  have k := (old hb).1
  exact ⟨(k _ _ hg).trans h.c0, (k _ _ hg).trans h.c1, (k _ _ hg).trans h.c2, (k _ _ hg).trans h.c3, (k _ _ hg).trans h.c4, (k _ _ hg).trans h.c5, (k _ _ hg).trans h.c6, (k _ _ hg).trans h.c7, (k _ _ hg).trans h.c8⟩
/-- a row of claims -/
def ClsAt (w : World) (A : Option Addr) (l : List C) : Prop := ∀ j (hj : j < l.length), ∃ g o v1 v2 v3, A = some ⟨g, o, none⟩ ∧ g < w.heap.size ∧ Nine w g (o + j * 9) l[j] v1 v2 v3 ∧ ClAt w l[j] v1 v2 v3
theorem ClsAt.below {w w' : World} {A : Option Addr} {l : List C} (h : ClsAt w A l) (hb : Below w.heap.size w w') : ClsAt w' A l := by
  intro j hj
  obtain ⟨g, o, v1, v2, v3, h1, h2, h3, h4⟩ := h j hj
  exact ⟨g, o, v1, v2, v3, h1, by have := hb.size; omega, h3.below h2 hb, h4.below hb⟩
def WorstP (l : List C) (r : R) (w : World) (e : Ending) (w' : World) : Prop := ∃ v, e = .returned (.tuple #[v, .int .i64 (worstP r l).2]) ∧ VerdV w.heap.size w' v (worstP r l).1 ∧ Below w.heap.size w w'

set_option maxRecDepth 100000 in
set_option maxHeartbeats 8000000 in
theorem worst_any (l : List C) (r : R) (A : Option Addr) (q : Nat) (u1 u2 u3 : Value) (w : World) (h : ClsAt w A l) (hl : l.length ≤ 1099511627776) (hr : RuAt w r u1 u2 u3) :
    Calls Tryz.prog 9 #[.slice A l.length q, .agg #[.int .i64 r.now, .int .i64 r.slack, .string ⟨r.who.toArray⟩, u1, u2, u3]] w (WorstP l r w) := by
  have hq : ∀ (w : World) o, (w.alloc o).heap.size = w.heap.size + 1 := fun w o => by simp
  have hb0 : ∀ cs ds, Below w.heap.size w ((w.alloc (.cells cs 27)).alloc (.cells ds 110)) := fun cs ds => ((Below.refl _ _).alloc (Nat.le_refl _) _).alloc (by simp) _
  have hR0 := (Blk.new w 27 (ruCells r u1 u2 u3)).alloc (.cells #[.int .i64 (-1)] 110)
  have hO0 := Blk.new (w.alloc (.cells (ruCells r u1 u2 u3) 27)) 110 #[.int .i64 (-1)]
  rw [hq] at hO0
  have hB0 := hb0 (ruCells r u1 u2 u3) #[.int .i64 (-1)]
  clear hb0
  unfold ruCells at *
  go_enter Tryz.func9, Tryz.ntmps9
  go_wp2_with fail
  go_loopw [15] (fun c15 wr => ∃ (k : Nat) (u : Int), k ≤ l.length ∧ c15 = .int .i64 k ∧ Hid (worstK r k u (l.drop k) = worstP r l) ∧ Blk wr w.heap.size 27 #[.int .i64 r.now, .int .i64 r.slack, .string ⟨r.who.toArray⟩, u1, u2, u3] ∧ Blk wr (w.heap.size + 1) 110 #[.int .i64 u] ∧ Below w.heap.size w wr) (fun c15 _ => l.length - (intOf c15).toNat)
  case atStart => exact ⟨0, -1, by omega, rfl, Lib.hid rfl, hR0, hO0, hB0⟩
  case round =>
    clear hR0 hO0 hB0
    obtain ⟨k, u, hk, rfl, H, hR, hO, hbw⟩ := hrel
    by_cases hlt : k < l.length
    · have hst := worstK_drop (r := r) (u := u) hlt
      rw [H.out] at hst
      have Hst := Lib.hid hst
      clear hst H
      obtain ⟨g, o, v1, v2, v3, hA, hg, h9, hcl⟩ := h.below hbw k hlt
      subst hA
      have hrr := hr.below hbw
      have hk7 := judgeP_kind l[k] r
      generalize l[k] = c at *
      obtain ⟨A1, j1, e1, _⟩ := hcl.has
      obtain ⟨A2, j2, e2, _⟩ := hcl.for_
      obtain ⟨A3, j3, e3, _⟩ := hcl.may
      subst e1; subst e2; subst e3
      obtain ⟨x0, x1, x2, x3, x4, x5, x6, x7, x8⟩ := h9
      obtain ⟨f0, f1, f2, f3, f4, f5⟩ := C6 hR
      have hi0 : (0 : Int) ≤ (k : Int) := by omega
      have hi1 : (k : Int) < (l.length : Int) := by omega
      have hRl := hR.lt
      have hOl := hO.lt
      have hbs := hbw.size
      have hax := fun cs => (Below.refl wr.heap.size wr).alloc (Nat.le_refl _) (.cells cs 24)
      go_wp2_with fail
      refine (judge_any c r _ _ _ u1 u2 u3 _ (hcl.below (hax _)) (hrr.below (hax _))).mono ?_
      rintro e w2 ⟨v, rfl, hv, hb2⟩
      have hR2 := (hR.alloc _).below hb2 (by rw [hq]; omega)
      have hO2 := (hO.alloc _).below hb2 (by rw [hq]; omega)
      have hbw2 := below_chain (hbw.alloc hbs _) (by rw [hq]; omega) hb2
      have hv2 := hv.base (B' := w.heap.size) (by rw [hq]; omega)
      have hs2 := hbw2.size
      clear hv hb2 x0 x1 x2 x3 x4 x5 x6 x7 x8 f0 f1 f2 f3 f4 f5 hR hO hbw hcl hrr hax
      have hR2l := hR2.lt
      have hO2l := hO2.lt
      have hR3 := hR2.alloc
      have hO3 := hO2.alloc
      by_cases hk1 : (judgeP c r).kind = 1
      · obtain rfl : v = _ := verd_holds hv2 hk1
        have Hst2 : Hid (worstP r l = worstK r (k + 1) (if 0 ≤ (judgeP c r).time ∧ (u < 0 ∨ (judgeP c r).time < u) then (judgeP c r).time else u) (l.drop (k + 1))) := Lib.hid (by rw [Hst.out, if_pos hk1])
        clear Hst hk1 hk7 hv2
        generalize (judgeP c r).time = t at *
        have ta := tv_0_0
        have o0 : w2.cell? ⟨w.heap.size + 1, 0, none⟩ = some (.int .i64 u) := hO2.cell 0
        have of0 := hO2.frozen 0
        have hbe : ∀ cs, Below w.heap.size w (w2.alloc (.cells cs 110)) := fun cs => hbw2.alloc hs2 _
        have hset : ∀ v o, Below w.heap.size w ((w2.setCell ⟨w.heap.size + 1, 0, none⟩ v).alloc o) := fun v o => (hbw2.setCell (by show w.heap.size ≤ w.heap.size + 1; omega) _).alloc (by simpa [World.setCell] using hs2) _
        have hRs : ∀ v o, Blk ((w2.setCell ⟨w.heap.size + 1, 0, none⟩ v).alloc o) w.heap.size 27 #[.int .i64 r.now, .int .i64 r.slack, .string ⟨r.who.toArray⟩, u1, u2, u3] := fun v o => (hR2.far (by show w.heap.size ≠ w.heap.size + 1; omega) _).alloc _
        have hOs : ∀ (t : Int) o, Blk ((w2.setCell ⟨w.heap.size + 1, 0, none⟩ (.int .i64 t)).alloc o) (w.heap.size + 1) 110 #[.int .i64 t] := fun t o => (hO2.put 0 _).alloc _
        clear hO2 hR2
        by_cases ht : 0 ≤ t
        · by_cases hu : u < 0
          · have HN : Hid (worstK r (k + 1) t (l.drop (k + 1)) = worstP r l) := Lib.hid (by rw [Hst2.out, if_pos ⟨ht, .inl hu⟩])
            clear Hst2
            go_wp2
            go_roundw
            case rel => exact ⟨k + 1, t, by omega, by go_num, HN, hRs _ _, hOs _ _, hset _ _⟩
            case measure => simp [intOf]; omega
          · by_cases htu : t < u
            · have HN : Hid (worstK r (k + 1) t (l.drop (k + 1)) = worstP r l) := Lib.hid (by rw [Hst2.out, if_pos ⟨ht, .inr htu⟩])
              clear Hst2
              go_wp2
              go_roundw
              case rel => exact ⟨k + 1, t, by omega, by go_num, HN, hRs _ _, hOs _ _, hset _ _⟩
              case measure => simp [intOf]; omega
            · have HN : Hid (worstK r (k + 1) u (l.drop (k + 1)) = worstP r l) := Lib.hid (by rw [Hst2.out, if_neg (by omega)])
              clear Hst2
              go_wp2
              go_roundw
              case rel => exact ⟨k + 1, u, by omega, by go_num, HN, hR3 _, hO3 _, hbe _⟩
              case measure => simp [intOf]; omega
        · have HN : Hid (worstK r (k + 1) u (l.drop (k + 1)) = worstP r l) := Lib.hid (by rw [Hst2.out, if_neg (by omega)])
          clear Hst2
          go_wp2
          go_roundw
          case rel => exact ⟨k + 1, u, by omega, by go_num, HN, hR3 _, hO3 _, hbe _⟩
          case measure => simp [intOf]; omega
      · have ta := verd_other hv2 hk7 hk1
        have HW : Hid (worstP r l = (judgeP c r, (k : Int))) := Lib.hid (by rw [Hst.out, if_neg hk1])
        clear Hst hk1 hk7
        have hvv := Lib.hid hv2
        clear hv2
        go_wp2
        go_ret2
        exact ⟨v, by rw [HW.out]; rfl, by rw [HW.out]; exact hvv.out.below ((Below.refl _ _).alloc (Nat.le_refl _) _), hbw2.alloc hs2 _⟩
    · obtain rfl : k = l.length := by omega
      have HW : Hid (worstP r l = (⟨1, u, [], []⟩, -1)) := Lib.hid (by rw [← H.out, List.drop_length]; rfl)
      clear H hlt hk
      have o0 : wr.cell? ⟨w.heap.size + 1, 0, none⟩ = some (.int .i64 u) := hO.cell 0
      go_wp2
      go_ret2
      exact ⟨_, by rw [HW.out]; rfl, by rw [HW.out]; exact rfl, hbw⟩
end Go.Proofs.YtbcckpnngonoeaaGreatDoor

