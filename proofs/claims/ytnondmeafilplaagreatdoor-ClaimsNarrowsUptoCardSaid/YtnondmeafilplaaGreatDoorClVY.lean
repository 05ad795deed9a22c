/-
  The statement ClaimsWithins of layer 25: its walk (printed by wip/gen_cly2.py).
-/
import Derived.Test.YtnondmeafilplaaGreatDoorClVL
import Derived.Test.YtnondmeafilplaaGreatDoorClX
import Derived.Test.YtnondmeafilplaaGreatDoorClO
import Derived.Test.YtnondmeafilplaaGreatDoorClT
namespace Go.Proofs.YtnondmeafilplaaGreatDoor
open Go.RowKit Mem Utf Ref3 Tok Cl
set_option linter.unusedVariables false

/-- the error of claims that are held against others -/
def WiE (c o : C) (B : Nat) (w : World) (ev : Value) : Prop :=
  ((mayB c && mayB o) = false → ev = .iface 46 (.int .i64 2)) ∧ ((mayB c && mayB o) = true → badL c o = [] → ev = .nilIface) ∧
  ((mayB c && mayB o) = true → badL c o ≠ [] → ∃ v, ev = .iface 105 v ∧ w.ownsRow B 53 1 v (badL c o).length ((badL c o).map trV))
theorem within_val {c o : C} {w w' : World} {e : Ending} (h : WithinP c o w e w') : ∃ ev, e = .returned ev ∧ WiE c o w.heap.size w' ev ∧ Below w.heap.size w w' := by
  obtain ⟨hb, h1, h2, h3⟩ := h
  cases hm : (mayB c && mayB o) with
  | false => exact ⟨_, h1 hm, ⟨fun _ => rfl, (fun h => by rw [hm] at h; cases h), (fun h => by rw [hm] at h; cases h)⟩, hb⟩
  | true =>
    by_cases hl : badL c o = []
    · exact ⟨_, h2 hm hl, ⟨(fun h => by rw [hm] at h; cases h), fun _ _ => rfl, fun _ h => absurd hl h⟩, hb⟩
    · obtain ⟨v, e1, hv⟩ := h3 hm hl
      exact ⟨_, e1, ⟨(fun h => by rw [hm] at h; cases h), fun _ h => absurd h hl, fun _ _ => ⟨v, rfl, hv⟩⟩, hb⟩
theorem WiE.below {c o : C} {B : Nat} {w w' : World} {ev : Value} (h : WiE c o B w ev) (hb : Below w.heap.size w w') : WiE c o B w' ev :=
  ⟨h.1, h.2.1, fun h1 h2 => by obtain ⟨v, e, hv⟩ := h.2.2 h1 h2; exact ⟨v, e, own_below hv hb⟩⟩
theorem nil_eq (w : World) : (binOp .eql 53 .nilIface .nilIface).run Tryz.prog w = .ok (.bool true) w := by kernel_rfl

set_option maxRecDepth 100000 in
set_option maxHeartbeats 8000000 in
theorem claimsWithins_any (c o : C) (v1 v2 v3 y1 y2 y3 : Value) (w : World) (h : ClAt w c v1 v2 v3) (ho : ClAt w o y1 y2 y3) (hg : Glob w) :
    Calls Tryz.prog 4 #[.agg #[v1, .string ⟨c.about.toArray⟩, .int .i64 c.at_, .string ⟨c.by_.toArray⟩, v2, .int .i64 c.from_, .string ⟨c.id_.toArray⟩, v3, .int .i64 c.until_], .agg #[y1, .string ⟨o.about.toArray⟩, .int .i64 o.at_, .string ⟨o.by_.toArray⟩, y2, .int .i64 o.from_, .string ⟨o.id_.toArray⟩, y3, .int .i64 o.until_]] w fun e w' => e = .returned (.bool true) ∧ Below w.heap.size w w' := by
  have hq : ∀ (w : World) o, (w.alloc o).heap.size = w.heap.size + 1 := fun w o => by simp
  have hzm : 1 < w.heap.size := by
    obtain ⟨m, hm⟩ := hg
    exact World.block_lt_of_cell? w _ hm
  obtain ⟨A1, k1, e1, _⟩ := h.has
  obtain ⟨A2, k2, e2, _⟩ := h.for_
  obtain ⟨A3, k3, e3, _⟩ := h.may
  obtain ⟨B1, j1, e4, _⟩ := ho.has
  obtain ⟨B2, j2, e5, _⟩ := ho.for_
  obtain ⟨B3, j3, e6, _⟩ := ho.may
  subst e1; subst e2; subst e3; subst e4; subst e5; subst e6
  have hb0 : ∀ cs ds, Below w.heap.size w ((w.alloc (.cells cs 44)).alloc (.cells ds 44)) := fun cs ds => ((Below.refl _ _).alloc (Nat.le_refl _) _).alloc (by simp) _
  have hC0 := (Blk.new w 44 #[(.slice A1 c.has.length k1), .string ⟨c.about.toArray⟩, .int .i64 c.at_, .string ⟨c.by_.toArray⟩, (.slice A2 c.for_.length k2), .int .i64 c.from_, .string ⟨c.id_.toArray⟩, (.slice A3 c.may_.length k3), .int .i64 c.until_]).alloc (.cells #[(.slice B1 o.has.length j1), .string ⟨o.about.toArray⟩, .int .i64 o.at_, .string ⟨o.by_.toArray⟩, (.slice B2 o.for_.length j2), .int .i64 o.from_, .string ⟨o.id_.toArray⟩, (.slice B3 o.may_.length j3), .int .i64 o.until_] 44)
  have hO0 := Blk.new (w.alloc (.cells #[(.slice A1 c.has.length k1), .string ⟨c.about.toArray⟩, .int .i64 c.at_, .string ⟨c.by_.toArray⟩, (.slice A2 c.for_.length k2), .int .i64 c.from_, .string ⟨c.id_.toArray⟩, (.slice A3 c.may_.length k3), .int .i64 c.until_] 44)) 44 #[(.slice B1 o.has.length j1), .string ⟨o.about.toArray⟩, .int .i64 o.at_, .string ⟨o.by_.toArray⟩, (.slice B2 o.for_.length j2), .int .i64 o.from_, .string ⟨o.id_.toArray⟩, (.slice B3 o.may_.length j3), .int .i64 o.until_]
  rw [hq] at hO0
  go_enter Tryz.func4, Tryz.ntmps4
  go_wp2_with fail
  refine (within_any c o _ _ _ _ _ _ _ (h.below (hb0 _ _)) (ho.below (hb0 _ _)) (hg.below (hb0 _ _) hzm)).mono ?_
  intro e w1 hW
  obtain ⟨ev, rfl, hE, hb1⟩ := within_val hW
  clear hW
  have hC1 := hC0.below hb1 (by rw [hq, hq]; omega)
  have hO1 := hO0.below hb1 (by rw [hq, hq]; omega)
  have hbw1 := below_chain (hb0 _ _) (by rw [hq, hq]; omega) hb1
  have HE1 := Lib.hid hE
  clear hC0 hO0 hb1 hE
  obtain ⟨e0, e1, e2, e3, e4, e5, e6, e7, e8⟩ := C9 hC1
  go_wp2_with fail
  refine (twin_any c _ _ _ _ (h.below hbw1)).mono ?_
  rintro e w2 ⟨rfl, hbtc⟩
  have hZc := Blk.new w2 40 zCells
  have honec : ∀ v ∈ (dCells (is c) c (.slice A2 c.for_.length k2) (.slice A3 c.may_.length k3)).toList, v.oneCell' = true := by simp [dCells, Value.oneCell']
  have hzsc : (dCells (is c) c (.slice A2 c.for_.length k2) (.slice A3 c.may_.length k3)).size = zCells.size := rfl
  have hzic : (Tryz.prog.info? 40).map (·.size) = some (dCells (is c) c (.slice A2 c.for_.length k2) (.slice A3 c.may_.length k3)).size := by kernel_rfl
  generalize hDc : (dCells (is c) c (.slice A2 c.for_.length k2) (.slice A3 c.may_.length k3)) = ds at *
  clear e0 e1 e2 e3 e4 e5 e6 e7 e8
  obtain ⟨bc, hbc⟩ : ∃ b, mayB c = b := ⟨_, rfl⟩
  rw [hbc]
  have HBC := Lib.hid hbc
  clear hbc
  have hO2 := hO1.below hbtc hO1.lt
  have hbw2 := below_chain hbw1 hbw1.size hbtc
  have hZ3 : Blk (putCells (w2.alloc (.cells #[.bool false, .bool false, .bool false, .bool false, .bool false, .bool false, .bool false, .bool false, .string ⟨#[]⟩, .string ⟨#[]⟩, .string ⟨#[]⟩, .string ⟨#[]⟩, .string ⟨#[]⟩, .string ⟨#[]⟩, .string ⟨#[]⟩, .string ⟨#[]⟩, .int .i64 0, .int .i64 0, .int .i64 0, .int .i64 0, .int .i64 0, .int .i64 0, .int .i64 0, .int .i64 0, .slice none 0 0, .slice none 0 0, .slice none 0 0, .slice none 0 0, .slice none 0 0, .slice none 0 0, .slice none 0 0, .slice none 0 0] 40)) w2.heap.size ds.toList 0) w2.heap.size 40 ds := by
    have := putCells_blk ds.toList _ 0 _ hZc
    rwa [putList_all hzsc] at this
  have hO3 : Blk (putCells (w2.alloc (.cells #[.bool false, .bool false, .bool false, .bool false, .bool false, .bool false, .bool false, .bool false, .string ⟨#[]⟩, .string ⟨#[]⟩, .string ⟨#[]⟩, .string ⟨#[]⟩, .string ⟨#[]⟩, .string ⟨#[]⟩, .string ⟨#[]⟩, .string ⟨#[]⟩, .int .i64 0, .int .i64 0, .int .i64 0, .int .i64 0, .int .i64 0, .int .i64 0, .int .i64 0, .int .i64 0, .slice none 0 0, .slice none 0 0, .slice none 0 0, .slice none 0 0, .slice none 0 0, .slice none 0 0, .slice none 0 0, .slice none 0 0] 40)) w2.heap.size ds.toList 0) (w.heap.size + 1) 44 #[(.slice B1 o.has.length j1), .string ⟨o.about.toArray⟩, .int .i64 o.at_, .string ⟨o.by_.toArray⟩, (.slice B2 o.for_.length j2), .int .i64 o.from_, .string ⟨o.id_.toArray⟩, (.slice B3 o.may_.length j3), .int .i64 o.until_] := putCells_far (by have := hO2.lt; omega) ds.toList _ 0 _ _ (hO2.alloc _)
  have hb23 : Below w2.heap.size w2 (putCells (w2.alloc (.cells #[.bool false, .bool false, .bool false, .bool false, .bool false, .bool false, .bool false, .bool false, .string ⟨#[]⟩, .string ⟨#[]⟩, .string ⟨#[]⟩, .string ⟨#[]⟩, .string ⟨#[]⟩, .string ⟨#[]⟩, .string ⟨#[]⟩, .string ⟨#[]⟩, .int .i64 0, .int .i64 0, .int .i64 0, .int .i64 0, .int .i64 0, .int .i64 0, .int .i64 0, .int .i64 0, .slice none 0 0, .slice none 0 0, .slice none 0 0, .slice none 0 0, .slice none 0 0, .slice none 0 0, .slice none 0 0, .slice none 0 0] 40)) w2.heap.size ds.toList 0) := putCells_below (Nat.le_refl _) ds.toList _ _ 0 ((Below.refl _ _).alloc (Nat.le_refl _) _)
  go_upto_region 3 with (refine wpList_store_row rfl 40 (.tmp 6) (.tmp 17) rfl w2.heap.size 40 zCells ds rfl rfl hZc hzsc honec hzic rfl ?_)
  clear hZc honec hzsc
  generalize (putCells (w2.alloc (.cells #[.bool false, .bool false, .bool false, .bool false, .bool false, .bool false, .bool false, .bool false, .string ⟨#[]⟩, .string ⟨#[]⟩, .string ⟨#[]⟩, .string ⟨#[]⟩, .string ⟨#[]⟩, .string ⟨#[]⟩, .string ⟨#[]⟩, .string ⟨#[]⟩, .int .i64 0, .int .i64 0, .int .i64 0, .int .i64 0, .int .i64 0, .int .i64 0, .int .i64 0, .int .i64 0, .slice none 0 0, .slice none 0 0, .slice none 0 0, .slice none 0 0, .slice none 0 0, .slice none 0 0, .slice none 0 0, .slice none 0 0] 40)) w2.heap.size ds.toList 0) = w3 at *
  have hbw3 := below_chain hbw2 hbw2.size hb23
  have HE3 := Lib.hid ((HE1.out.below hbtc).below hb23)
  clear HE1 hbtc hb23 hO1 hO2
  generalize w2.heap.size = gD at *
  obtain ⟨e0, e1, e2, e3, e4, e5, e6, e7, e8⟩ := C9 hO3
  go_wp2_with fail
  refine (twin_any o _ _ _ _ (ho.below hbw3)).mono ?_
  rintro e w4 ⟨rfl, hbto⟩
  have hZo := Blk.new w4 40 zCells
  have honeo : ∀ v ∈ (dCells (is o) o (.slice B2 o.for_.length j2) (.slice B3 o.may_.length j3)).toList, v.oneCell' = true := by simp [dCells, Value.oneCell']
  have hzso : (dCells (is o) o (.slice B2 o.for_.length j2) (.slice B3 o.may_.length j3)).size = zCells.size := rfl
  have hzio : (Tryz.prog.info? 40).map (·.size) = some (dCells (is o) o (.slice B2 o.for_.length j2) (.slice B3 o.may_.length j3)).size := by kernel_rfl
  generalize hDo : (dCells (is o) o (.slice B2 o.for_.length j2) (.slice B3 o.may_.length j3)) = es at *
  clear e0 e1 e2 e3 e4 e5 e6 e7 e8
  obtain ⟨bo, hbo⟩ : ∃ b, mayB o = b := ⟨_, rfl⟩
  rw [hbo]
  have HBO := Lib.hid hbo
  clear hbo
  have hZ4 := hZ3.below hbto hZ3.lt
  have hbw4 := below_chain hbw3 hbw3.size hbto
  have hY5 : Blk (putCells (w4.alloc (.cells #[.bool false, .bool false, .bool false, .bool false, .bool false, .bool false, .bool false, .bool false, .string ⟨#[]⟩, .string ⟨#[]⟩, .string ⟨#[]⟩, .string ⟨#[]⟩, .string ⟨#[]⟩, .string ⟨#[]⟩, .string ⟨#[]⟩, .string ⟨#[]⟩, .int .i64 0, .int .i64 0, .int .i64 0, .int .i64 0, .int .i64 0, .int .i64 0, .int .i64 0, .int .i64 0, .slice none 0 0, .slice none 0 0, .slice none 0 0, .slice none 0 0, .slice none 0 0, .slice none 0 0, .slice none 0 0, .slice none 0 0] 40)) w4.heap.size es.toList 0) w4.heap.size 40 es := by
    have := putCells_blk es.toList _ 0 _ hZo
    rwa [putList_all hzso] at this
  have hZ5 : Blk (putCells (w4.alloc (.cells #[.bool false, .bool false, .bool false, .bool false, .bool false, .bool false, .bool false, .bool false, .string ⟨#[]⟩, .string ⟨#[]⟩, .string ⟨#[]⟩, .string ⟨#[]⟩, .string ⟨#[]⟩, .string ⟨#[]⟩, .string ⟨#[]⟩, .string ⟨#[]⟩, .int .i64 0, .int .i64 0, .int .i64 0, .int .i64 0, .int .i64 0, .int .i64 0, .int .i64 0, .int .i64 0, .slice none 0 0, .slice none 0 0, .slice none 0 0, .slice none 0 0, .slice none 0 0, .slice none 0 0, .slice none 0 0, .slice none 0 0] 40)) w4.heap.size es.toList 0) gD 40 ds := putCells_far (by have := hZ4.lt; omega) es.toList _ 0 _ _ (hZ4.alloc _)
  have hb45 : Below w4.heap.size w4 (putCells (w4.alloc (.cells #[.bool false, .bool false, .bool false, .bool false, .bool false, .bool false, .bool false, .bool false, .string ⟨#[]⟩, .string ⟨#[]⟩, .string ⟨#[]⟩, .string ⟨#[]⟩, .string ⟨#[]⟩, .string ⟨#[]⟩, .string ⟨#[]⟩, .string ⟨#[]⟩, .int .i64 0, .int .i64 0, .int .i64 0, .int .i64 0, .int .i64 0, .int .i64 0, .int .i64 0, .int .i64 0, .slice none 0 0, .slice none 0 0, .slice none 0 0, .slice none 0 0, .slice none 0 0, .slice none 0 0, .slice none 0 0, .slice none 0 0] 40)) w4.heap.size es.toList 0) := putCells_below (Nat.le_refl _) es.toList _ _ 0 ((Below.refl _ _).alloc (Nat.le_refl _) _)
  go_upto_region 4 with (refine wpList_store_row rfl 40 (.tmp 8) (.tmp 22) rfl w4.heap.size 40 zCells es rfl rfl hZo hzso honeo hzio rfl ?_)
  clear hZo honeo hzso
  generalize (putCells (w4.alloc (.cells #[.bool false, .bool false, .bool false, .bool false, .bool false, .bool false, .bool false, .bool false, .string ⟨#[]⟩, .string ⟨#[]⟩, .string ⟨#[]⟩, .string ⟨#[]⟩, .string ⟨#[]⟩, .string ⟨#[]⟩, .string ⟨#[]⟩, .string ⟨#[]⟩, .int .i64 0, .int .i64 0, .int .i64 0, .int .i64 0, .int .i64 0, .int .i64 0, .int .i64 0, .int .i64 0, .slice none 0 0, .slice none 0 0, .slice none 0 0, .slice none 0 0, .slice none 0 0, .slice none 0 0, .slice none 0 0, .slice none 0 0] 40)) w4.heap.size es.toList 0) = w5 at *
  have hbw5 := below_chain hbw4 hbw4.size hb45
  have HE5 := Lib.hid ((HE3.out.below hbto).below hb45)
  clear HE3 hbto hb45 hZ3 hZ4 hO3
  generalize w4.heap.size = gE at *
  go_wp2_with fail
  refine (wakes25_any _).mono ?_
  rintro e w6 ⟨rfl, hb6⟩
  have hZ6 := hZ5.below hb6 hZ5.lt
  have hY6 := hY5.below hb6 hY5.lt
  have hbw6 := below_chain hbw5 hbw5.size hb6
  have hE := Lib.hid (HE5.out.below hb6)
  clear HE5 hb6 hZ5 hY5
  cases bc with
  | false =>
    have hcond : (mayB c && mayB o) = false := by rw [HBC.out, HBO.out]; rfl
    obtain rfl := hE.out.1 hcond
    clear hcond
    go_wp2_with fail
    refine (number25_any 2 _).mono ?_
    rintro e w8 ⟨rfl, rfl⟩
    go_wp2
    go_ret
    exact ⟨rfl, hbw6⟩
  | true =>
    cases bo with
    | false =>
      have hcond : (mayB c && mayB o) = false := by rw [HBC.out, HBO.out]; rfl
      obtain rfl := hE.out.1 hcond
      clear hcond
      go_wp2_with fail
      refine (number25_any 2 _).mono ?_
      rintro e w8 ⟨rfl, rfl⟩
      go_wp2
      go_ret
      exact ⟨rfl, hbw6⟩
    | true =>
      have hcond : (mayB c && mayB o) = true := by rw [HBC.out, HBO.out]; rfl
      have HR := refWithin_any c o (.slice A1 c.has.length k1) (.slice A2 c.for_.length k2) (.slice A3 c.may_.length k3) (.slice B1 o.has.length j1) (.slice B2 o.for_.length j2) (.slice B3 o.may_.length j3) w6 (h.below hbw6) (ho.below hbw6)
      rw [hDc, hDo] at HR
      have hCC := hZ6
      have hYY := hY6
      unfold Blk at hCC hYY
      have HCND := Lib.hid hcond
      have hlb : (badL c o).length ≤ 8 := Nat.le_trans (badsF_len c o _) (ksOf_len o)
      clear hcond hZ6 hY6
      go_wp2_with (first | (refine wpList_load_row rfl 40 (.tmp 6) rfl gD rfl 40 _ (0, 0) _ hCC Tryz.underlying40 rfl hzic ?_) | (refine wpList_load_row rfl 40 (.tmp 8) rfl gE rfl 40 _ (0, 0) _ hYY Tryz.underlying40 rfl hzio ?_))
      refine HR.mono ?_
      rintro e w7 ⟨⟨v, rfl, hown⟩, hb7⟩
      have hbw7 := below_chain hbw6 hbw6.size hb7
      have hE7 := hE.out.below hb7
      obtain ⟨A9, q9, e9⟩ := own_slice hown
      subst e9
      clear HR hCC hYY hE hb7
      cases hbl : badL c o with
      | nil =>
        obtain rfl := hE7.2.1 HCND.out hbl
        have en := nil_eq
        clear hE7 hown hbl
        simp only [List.length_nil]
        go_wp2
        go_ret
        exact ⟨rfl, hbw7⟩
      | cons x l =>
        obtain ⟨v, rfl, hv⟩ := hE7.2.2 HCND.out (fun h0 => List.cons_ne_nil x l (hbl.symm.trans h0))
        rw [hbl] at hv hown hlb
        clear hE7 hbl
        have hz : (((x :: l).length : Int) == 0) = false := by rw [beq_eq_false_iff_ne, List.length_cons]; omega
        have hz2 : ¬ (x :: l).length = 0 := by simp
        generalize hzl : x :: l = z at *
        clear hzl
        go_wp2_with fail
        refine (trails_any _ _ _ _ z _ hv hown (by omega)).mono ?_
        rintro e w8 ⟨rfl, hb8⟩
        go_wp2
        go_ret
        exact ⟨rfl, below_chain hbw7 hbw7.size hb8⟩
end Go.Proofs.YtnondmeafilplaaGreatDoor
