/-
  Walks of the statements' own functions trail and trails of layer 25 (printed by wip/gen_clx.py).
-/
import Derived.Test.YtnondmeafilplaaGreatDoorClV
import Derived.Test.YtnondmeafilplaaGreatDoorClVR
namespace Go.Proofs.YtnondmeafilplaaGreatDoor
open Go.RowKit Mem Utf Ref3 Tok Cl
set_option linter.unusedVariables false

theorem tt_ok (v : Value) (w : World) : (Instr.typeAssert (.iface 138 v) 53 138 true).run Tryz.prog w = .ok (.tuple #[v, .bool true]) w := by kernel_rfl
theorem ta_ok (v : Value) (w : World) : (Instr.typeAssert (.iface 105 v) 53 105 true).run Tryz.prog w = .ok (.tuple #[v, .bool true]) w := by kernel_rfl
set_option maxRecDepth 100000 in
set_option maxHeartbeats 2000000 in
theorem lawTrail_any (n : Int) (p : Txt) (w : World) : Calls Tryz.prog 38 #[trV (n, p), .int .i64 n, .string ⟨p.toArray⟩] w fun e w' => e = .returned (.bool true) ∧ Below w.heap.size w w' := by
  have t1 := tt_ok
  have e1 : (n == n) = true := by simp
  have e2 : (p == p) = true := by simp
  unfold trV
  go_enter Tryz.func38, Tryz.ntmps38
  go_wp2
  go_ret
  exact ⟨rfl, (Below.refl _ _).alloc (Nat.le_refl _) _⟩
theorem tr_at1 {w : World} {B : Nat} {A : Option Addr} {q : Nat} {l : List (Int × Txt)} (h : w.ownsRow B 53 1 (.slice A l.length q) l.length (l.map trV)) {k : Nat} (hk : k < l.length) : ∃ g, A = some ⟨g, 0, none⟩ ∧ w.cell? ⟨g, k, none⟩ = some (trV l[k]) := by
  rcases h.2 with ⟨_, h0⟩ | ⟨g, cap, cur, e, _⟩
  · omega
  · injection e with e _ e2
    subst e; subst e2
    refine ⟨g, rfl, ?_⟩
    rw [h.cellAt k (by omega), List.getElem?_map, List.getElem?_eq_getElem hk]
    rfl
theorem trCells_at : ∀ (l : List (Int × Txt)) {k : Nat} (hk : k < l.length), (trCells l)[k * 2]? = some (.int .i64 l[k].1) ∧ (trCells l)[k * 2 + 1]? = some (.string ⟨l[k].2.toArray⟩)
  | x :: r, 0, hk => ⟨rfl, rfl⟩
  | x :: r, k + 1, hk => by
    have ih := trCells_at r (k := k) (by simpa using hk)
    have e : trCells (x :: r) = .int .i64 x.1 :: .string ⟨x.2.toArray⟩ :: trCells r := rfl
    rw [e, show (k + 1) * 2 = k * 2 + 1 + 1 from by omega]
    exact ih
theorem tr_at2 {w : World} {B : Nat} {A : Option Addr} {q : Nat} {e : TypeId} {l : List (Int × Txt)} (h : w.ownsRow B e 2 (.slice A l.length q) l.length (trCells l)) {k : Nat} (hk : k < l.length) :
    ∃ g, A = some ⟨g, 0, none⟩ ∧ w.cell? ⟨g, k * 2, none⟩ = some (.int .i64 l[k].1) ∧ w.cell? ⟨g, k * 2 + 1, none⟩ = some (.string ⟨l[k].2.toArray⟩) := by
  rcases h.2 with ⟨_, h0⟩ | ⟨g, cap, cur, e, _⟩
  · omega
  · injection e with e _ e2
    subst e; subst e2
    obtain ⟨a, b⟩ := trCells_at l hk
    exact ⟨g, rfl, by rw [h.cellAt _ (by omega)]; exact a, by rw [h.cellAt _ (by omega)]; exact b⟩
set_option maxRecDepth 100000 in
set_option maxHeartbeats 4000000 in
theorem trails_any (v1 v2 : Value) (B1 B2 : Nat) (l : List (Int × Txt)) (w : World) (h1 : w.ownsRow B1 53 1 v1 l.length (l.map trV)) (h2 : w.ownsRow B2 111 2 v2 l.length (trCells l)) (hl : l.length ≤ 1048576) :
    Calls Tryz.prog 18 #[.iface 105 v1, v2] w fun e w' => e = .returned (.bool true) ∧ Below w.heap.size w w' := by
  have t1 := ta_ok
  have hbr := Below.refl w.heap.size w
  obtain ⟨A1, q1, e1⟩ := own_slice h1
  obtain ⟨A2, q2, e2⟩ := own_slice h2
  subst e1; subst e2
  go_enter Tryz.func18, Tryz.ntmps18
  go_wp2
  go_loopw [24] (fun c24 wr => ∃ k : Nat, k ≤ l.length ∧ c24 = .int .i64 k ∧ Below w.heap.size w wr) (fun c24 _ => l.length - (intOf c24).toNat)
  case atStart => exact ⟨0, by omega, rfl, hbr⟩
  case round =>
    clear hbr
    obtain ⟨k, hk, rfl, hbw⟩ := hrel
    by_cases hlt : k < l.length
    · obtain ⟨g1, hA1, c1⟩ := tr_at1 (own_below h1 hbw) hlt
      obtain ⟨g2, hA2, c2, c3⟩ := tr_at2 (own_below h2 hbw) hlt
      subst hA1; subst hA2
      have hi0 : (0 : Int) ≤ (k : Int) := by omega
      have hi1 : (k : Int) < (l.length : Int) := by omega
      generalize l[k] = x at *
      obtain ⟨n, p⟩ := x
      simp only [] at c1 c2 c3
      have hbd := hbw.drew
      have hgl1 := World.block_lt_of_cell? wr _ c1
      have hgl2 := World.block_lt_of_cell? wr _ c2
      go_wp2_with fail
      go_region_held3 (fun w' => w'.cell? ⟨g1, k, none⟩ = some (trV (n, p)) ∧ w'.cell? ⟨g2, k * 2, none⟩ = some (.int .i64 n) ∧ w'.cell? ⟨g2, k * 2 + 1, none⟩ = some (.string ⟨p.toArray⟩))
        (first | go_keep | exact ⟨by rw [hb9.cell (by exact hgl1)]; exact c1, by rw [hb9.cell (by exact hgl2)]; exact c2, by rw [hb9.cell (by exact hgl2)]; exact c3⟩)
        (first | (go_at_call 38; refine (lawTrail_any n p _).mono ?_; rintro e w9 ⟨rfl, hb9⟩))
      go_wp2
      go_roundw
      case rel => exact ⟨k + 1, by omega, by go_num, below_chain hbd hbd.size hb9⟩
      case measure => simp [intOf]; omega
    · obtain rfl : k = l.length := by omega
      go_wp2
      go_ret
      exact ⟨rfl, hbw⟩
end Go.Proofs.YtnondmeafilplaaGreatDoor
