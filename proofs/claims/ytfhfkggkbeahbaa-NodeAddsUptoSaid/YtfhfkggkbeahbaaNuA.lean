/-
  Walks of package node: Build.
-/
import Derived.Test.YtfhfkggkbeahbaaNtZ
namespace Go.Proofs.Ytfhfkggkbeahbaa
open Go.RowKit Mem
set_option linter.unusedVariables false
namespace Nd

def stepV (s : Stp) (K : Option Addr) (q : Nat) : Value := .agg #[.int .i64 s.sort, .bool s.flag, .int .u64 (s.bits : Int), .string ⟨s.text.toArray⟩, .int .i64 s.count, .slice K s.keys.length q]
/-- six cells of a step at an address -/
structure CellS (w : World) (g o : Nat) (s : Stp) (K : Option Addr) (q : Nat) : Prop where
  c0 : w.cell? ⟨g, o, none⟩ = some (.int .i64 s.sort)
  c1 : w.cell? ⟨g, o + 1, none⟩ = some (.bool s.flag)
  c2 : w.cell? ⟨g, o + 2, none⟩ = some (.int .u64 (s.bits : Int))
  c3 : w.cell? ⟨g, o + 3, none⟩ = some (.string ⟨s.text.toArray⟩)
  c4 : w.cell? ⟨g, o + 4, none⟩ = some (.int .i64 s.count)
  c5 : w.cell? ⟨g, o + 5, none⟩ = some (.slice K s.keys.length q)
  ks : RdK w (.slice K s.keys.length q) s.keys
theorem CellS.below {w w' : World} {g o : Nat} {s : Stp} {K : Option Addr} {q : Nat} (h : CellS w g o s K q) (hb : Below w.heap.size w w') : CellS w' g o s K q := by
  have hlt : g < w.heap.size := World.block_lt_of_cell? w _ h.c0
  have ho := (old hb).1
  exact ⟨(ho _ _ hlt).trans h.c0, (ho _ _ hlt).trans h.c1, (ho _ _ hlt).trans h.c2, (ho _ _ hlt).trans h.c3, (ho _ _ hlt).trans h.c4, (ho _ _ hlt).trans h.c5, h.ks.below hb⟩
/-- a slice reads as steps -/
def RdS (w : World) (v : Value) (ss : List Stp) : Prop := ∃ A c, v = .slice A ss.length c ∧ (ss = [] ∨ ∃ g o, A = some ⟨g, o, none⟩ ∧ ∀ (j : Nat) (s : Stp), ss[j]? = some s → ∃ K q, CellS w g (o + j * 6) s K q)
theorem RdS.below {w w' : World} {v : Value} {ss : List Stp} (h : RdS w v ss) (hb : Below w.heap.size w w') : RdS w' v ss := by
  obtain ⟨A, c, hv, h⟩ := h
  refine ⟨A, c, hv, ?_⟩
  rcases h with h | ⟨g, o, hA, hc⟩
  · exact .inl h
  · exact .inr ⟨g, o, hA, fun j s hs => by obtain ⟨K, q, h⟩ := hc j s hs; exact ⟨K, q, h.below hb⟩⟩
/-- what steps do to a row of trees: an error and its place, or the row -/
def runT : List Tr → List Stp → Nat → Sum (Int × Nat) (List Tr)
  | l, [], _ => .inr l
  | l, s :: ss, i => if (doT l s).1 = 0 then runT (doT l s).2 ss (i + 1) else .inl ((doT l s).1, i)
/-- what steps come to -/
def buildT (ss : List Stp) : Sum (Int × Int) Tr :=
  if 65536 < ss.length then .inl (3, -1) else match runT [] ss 0 with
    | .inl (n, i) => .inl (n, i)
    | .inr [t] => .inr t
    | .inr _ => .inl (103, ss.length)
theorem RwX.below {p : Nat} {ty : TypeId} {B : Nat} {l : List Tr} {w w' : World} (h : RwX p ty B l w) (hb : Below w.heap.size w w') : RwX p ty B l w' := by
  obtain ⟨v, xs, h⟩ := h
  exact ⟨v, xs, h.below hb⟩
theorem RdT.iface {S : Nat → Prop} {w : World} {t : Tr} {v : Value} (h : RdT S w t v) : ∃ tx ux, v = .iface tx ux := by
  cases t <;> unfold RdT at h
  · exact ⟨_, _, h⟩
  · exact ⟨_, _, h⟩
  · exact ⟨_, _, h⟩
  · exact ⟨_, _, h⟩
  · obtain ⟨g, A, c, vs, h, _⟩ := h
    exact ⟨_, _, h⟩
  · obtain ⟨g, B, d, A, c, vs, h, _⟩ := h
    exact ⟨_, _, h⟩
theorem doT_len (l : List Tr) (s : Stp) : (doT l s).2.length ≤ l.length + 1 := by
  have hl : ∀ k, (listT k l).2.length ≤ l.length + 1 := by
    intro k
    unfold listT
    repeat' split
    all_goals simp <;> omega
  have ho : (objT rightB s.keys l).2.length ≤ l.length + 1 := by
    unfold objT
    repeat' split
    all_goals simp <;> omega
  unfold doT
  repeat' split
  all_goals first | exact hl _ | exact ho | (simp <;> omega)
/-- an error with a place, or without -/
def spotB (n i : Int) : Value := if i < 0 then errN n else .iface 80 (.agg #[.int .i64 n, .int .i64 i])
/-- a tree in memory, of blocks from B on -/
def TreeAt (B : Nat) (w : World) (g : Nat) (t : Tr) : Prop := B ≤ g ∧ t.fit = true ∧ ∃ v, Blk w g 81 #[v] ∧ RdT (fun k => B ≤ k) w t v
def BuildP (ss : List Stp) (w : World) (e : Ending) (w' : World) : Prop :=
  Below w.heap.size w w' ∧ match buildT ss with
    | .inl (n, i) => e = .returned (.tuple #[.pointer none, spotB n i])
    | .inr t => ∃ g, e = .returned (.tuple #[.pointer (some ⟨g, 0, none⟩), .nilIface]) ∧ TreeAt w.heap.size w' g t
set_option maxRecDepth 100000 in
set_option maxHeartbeats 8000000 in
theorem build_long (v : Value) (ss : List Stp) (w : World) (hS : RdS w v ss) (hn : 65536 < ss.length) :
    Calls Try.prog 14 #[v] w (BuildP ss w) := by
  obtain ⟨A, c, rfl, _⟩ := hS
  have hB : Hid (buildT ss = .inl (3, -1)) := Lib.hid (by unfold buildT; rw [if_pos hn])
  have hd : decide (65536 < (ss.length : Int)) = true := decide_eq_true (by omega)
  clear hn
  go_enter Try.func14, Try.ntmps14
  go_wp2
  go_ret2
  refine ⟨Below.refl _ _, ?_⟩
  rw [hB.out]
  rfl
set_option maxRecDepth 100000 in
set_option maxHeartbeats 8000000 in
theorem build_any (v : Value) (ss : List Stp) (w : World) (hS : RdS w v ss) (hF : ∀ s ∈ ss, s.Fine) (hn : ss.length ≤ 65536) :
    Calls Try.prog 14 #[v] w (BuildP ss w) := by
  have HS := Lib.hid hS
  obtain ⟨A, c, rfl, _⟩ := hS
  have HF := Lib.hid hF
  clear hF
  have q1 := err_ne_nil
  have q2 := err_ne_held
  go_enter Try.func14, Try.ntmps14
  go_wp2
  go_loopw [14] (fun c14 wr => ∃ (k : Nat) (l : List Tr), k ≤ ss.length ∧ c14 = .int .i64 k ∧ l.length ≤ k ∧ Hid (runT [] ss 0 = runT l (ss.drop k) k) ∧ Hid (RwX w.heap.size 72 (w.heap.size + 1) l wr) ∧ Below w.heap.size w wr ∧ w.heap.size < wr.heap.size) (fun c14 _ => ss.length - (intOf c14).toNat)
  case atStart =>
    refine ⟨0, [], by omega, rfl, by simp, Lib.hid rfl, Lib.hid ⟨.slice none 0 0, [], Blk.new _ _ _, World.ownsRow_nil _ _ _ _, by unfold RdL; rfl, by simp, by omega, by simp⟩, (Below.refl _ _).alloc (Nat.le_refl _) _, by simp⟩
  case round =>
    obtain ⟨k, l, hk, rfl, hlk, HR, HX, hbr, hsz⟩ := hrel
    by_cases hlt : k < ss.length
    · have hcs : ∃ g o K q, A = some ⟨g, o, none⟩ ∧ CellS wr g (o + k * 6) ss[k] K q := by
        obtain ⟨A', c', e', h'⟩ := HS.out
        injection e' with e1 e2 e3
        rcases h' with h' | ⟨g, o, hA, hc⟩
        · rw [h'] at hlt
          simp at hlt
        · obtain ⟨K, q, h⟩ := hc k _ (List.getElem?_eq_getElem hlt)
          exact ⟨g, o, K, q, by rw [e1, hA], h.below hbr⟩
      obtain ⟨g, o, K, q, rfl, hC⟩ := hcs
      have HC := Lib.hid hC
      obtain ⟨c0, c1, c2, c3, c4, c5, ck⟩ := hC
      have hfine := HF.out _ (List.getElem_mem hlt)
      have hdr : ss.drop k = ss[k] :: ss.drop (k + 1) := List.drop_eq_getElem_cons hlt
      have HDR := Lib.hid hdr
      have HFI := Lib.hid hfine
      clear hdr hfine ck
      generalize ss[k] = s at *
      have hba : Below wr.heap.size wr (wr.alloc (.cells #[.int .i64 s.sort, .bool s.flag, .int .u64 (s.bits : Int), .string ⟨s.text.toArray⟩, .int .i64 s.count, .slice K s.keys.length q] 42)) := (Below.refl _ _).alloc (Nat.le_refl _) _
      have HXA := Lib.hid (HX.out.below hba)
      have HKA := Lib.hid (HC.out.ks.below hba)
      have hdl := doT_len l s
      go_wp2_with fail
      ((with_reducible refine (do_any s HFI.out K q w.heap.size 72 (w.heap.size + 1) l _ HXA.out HKA.out (by omega)).mono ?_); rintro e w1 ⟨rfl, hx1, hb1⟩)
      have hbr1 : Below w.heap.size w w1 := (hbr.alloc hbr.size _).trans hb1
      have hsz1 : w.heap.size < w1.heap.size := by have := hb1.size; have := hba.size; omega
      have HX1 := Lib.hid hx1
      clear hx1 hb1 hba
      by_cases h0 : (doT l s).1 = 0
      · have HR2 : Hid (runT [] ss 0 = runT (doT l s).2 (ss.drop (k + 1)) (k + 1)) := Lib.hid (by rw [HR.out, HDR.out, runT, if_pos h0])
        have hev : errV (doT l s).1 = .nilIface := by unfold errV; rw [if_pos h0]
        rw [hev]
        clear hev h0
        generalize (doT l s).2 = l2 at *
        go_wp2
        go_roundw
        case rel => exact ⟨k + 1, l2, by omega, by go_num, by omega, HR2, HX1, hbr1, hsz1⟩
        case measure => simp [intOf]; omega
      · have HR2 : Hid (buildT ss = .inl ((doT l s).1, (k : Int))) := Lib.hid (by
          unfold buildT
          rw [if_neg (by omega), HR.out, HDR.out, runT, if_neg h0])
        have hev : errV (doT l s).1 = .iface 30 (.int .i64 (doT l s).1) := by unfold errV; rw [if_neg h0]; rfl
        rw [hev]
        clear hev
        have HPOST : Hid (∀ W, Below w.heap.size w W → BuildP ss w (.returned (.tuple #[.pointer none, .iface 80 (.agg #[.int .i64 (doT l s).1, .int .i64 k])])) W) := Lib.hid (by
          intro W hW
          refine ⟨hW, ?_⟩
          rw [HR2.out]
          simp only [spotB]
          rw [if_neg (by omega)])
        clear HR2 h0
        generalize (doT l s).1 = m at *
        have hta : ∀ W, (Instr.typeAssert (.iface 30 (.int .i64 m)) 27 30 false).run Try.prog W = .ok (.int .i64 m) W := fun W => by kernel_rfl
        go_wp2_with fail
        go_quiet (fail)
        go_wp2
        go_ret2
        exact HPOST.out _ (hbr1.trans (drewN_below _ _))
    · have hkn : k = ss.length := by omega
      subst hkn
      have hdr : ss.drop ss.length = [] := List.drop_eq_nil_of_le (Nat.le_refl _)
      have HR2 : Hid (runT [] ss 0 = .inr l) := Lib.hid (by rw [HR.out, hdr, runT])
      clear hdr HR
      obtain ⟨v1, xs1, hR1⟩ := HX.out
      obtain ⟨A1, q1', rfl⟩ := own_slice hR1.own
      have HR1 := Lib.hid hR1
      have a0 : wr.cell? ⟨w.heap.size, 0, none⟩ = some (.slice A1 l.length q1') := hR1.bl.cell 0
      clear hR1
      by_cases h1 : l.length = 1
      · obtain ⟨t, rfl⟩ : ∃ t, l = [t] := by
          match l, h1 with
          | [t], _ => exact ⟨t, rfl⟩
        simp only [List.length_cons, List.length_nil, Nat.zero_add] at a0
        have hcell : ∃ g x, A1 = some ⟨g, 0, none⟩ ∧ wr.cell? ⟨g, 0, none⟩ = some x ∧ RdT (fun k => w.heap.size ≤ k) wr t x := by
          have hr := HR1.out.rd
          have hl := hr.len
          obtain ⟨x, rfl⟩ : ∃ x, xs1 = [x] := by
            match xs1, hl with
            | [x], _ => exact ⟨x, rfl⟩
          have hx := hr.at (j := 0) rfl rfl
          have ho := HR1.out.own
          rcases ho.2 with ⟨_, h⟩ | ⟨g, cap, cur, h, _, hg, _, _, hs, ht⟩
          · cases h
          · injection h with h1 _ _
            refine ⟨g, x, h1, ?_, RdT.move (fun j hj hs => ⟨by have := hs.1; omega, rfl⟩) _ _ hx⟩
            rw [cell_of_row wr g 0 cur _ _ hg]
            have h2 : (cur.toList.take ([t].length * 1))[0]? = some x := by rw [ht]; rfl
            rw [List.getElem?_take] at h2
            simpa using h2
        obtain ⟨g1, x, rfl, hc1, hrd⟩ := hcell
        have hfit : t.fit = true := HR1.out.fit t (by simp)
        obtain ⟨tx, ux, rfl⟩ := hrd.iface
        have hpost : BuildP ss w (.returned (.tuple #[.pointer (some ⟨wr.heap.size, 0, none⟩), .nilIface])) (wr.alloc (.cells #[.iface tx ux] 81)) := by
          refine ⟨hbr.alloc hbr.size _, ?_⟩
          have hb : buildT ss = .inr t := by
            unfold buildT
            rw [if_neg (by omega), HR2.out]
          rw [hb]
          exact ⟨_, rfl, by omega, hfit, _, Blk.new _ _ _, RdT.move (fun j hj hs => ⟨hs, Below.heap_alloc wr _ j hj⟩) _ _ hrd⟩
        have HP := Lib.hid hpost
        clear hpost hrd
        go_wp2
        go_ret2
        exact HP.out
      · have hpost : BuildP ss w (.returned (.tuple #[.pointer none, .iface 80 (.agg #[.int .i64 103, .int .i64 ss.length])])) wr := by
          refine ⟨hbr, ?_⟩
          have hb : buildT ss = .inl (103, ss.length) := by
            unfold buildT
            rw [if_neg (by omega), HR2.out]
            match l, h1 with
            | [], _ => rfl
            | _ :: _ :: _, _ => rfl
          rw [hb]
          simp only [spotB]
          rw [if_neg (by omega)]
        have HP := Lib.hid hpost
        clear hpost
        go_wp2
        go_ret2
        exact HP.out
end Nd
end Go.Proofs.Ytfhfkggkbeahbaa
