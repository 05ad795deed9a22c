/-
  Walks of the index that a token says: strconv.Atoi, strconv.Itoa, Index of package pointer, Index of the reference.
-/
import Derived.Test.YtfhchnkoggdilaaGreatDoorIdx
import Derived.Test.YtfhchnkoggdilaaGreatDoorPvW
import Derived.Lib.AppendIntMem
import Derived.Lib.AtoiErrMem
import Derived.Lib.LaidTab
namespace Go.Proofs.YtfhchnkoggdilaaGreatDoor
open Go.RowKit Mem Utf Ref3 Tok Idx
set_option linter.unusedVariables false

/-- the library's variables that Atoi and Itoa read -/
def Tab (w : World) : Prop := Lib.TabIs Tryz.prog w "internal/strconv.uint64pow10" .u64 Lib.pow10Tab ∧
  (∃ t p, w.var? Tryz.prog "strconv.ErrSyntax" = some #[.iface t p]) ∧ ∃ t p, w.var? Tryz.prog "strconv.ErrRange" = some #[.iface t p]
theorem gPow : Tryz.prog.globalNamed "internal/strconv.uint64pow10" = some 6 := by kernel_rfl
theorem gSyn : Tryz.prog.globalNamed "strconv.ErrSyntax" = some 4 := by kernel_rfl
theorem gRan : Tryz.prog.globalNamed "strconv.ErrRange" = some 5 := by kernel_rfl
theorem Tab.next {w w' : World} (h : Tab w) (hb : Below w.heap.size w w') : Tab w' := by
  obtain ⟨h1, ⟨t, p, h2⟩, u, q, h3⟩ := h
  exact ⟨Joins.var_stays gPow h1 hb (Nat.le_refl _), ⟨t, p, Joins.var_stays gSyn h2 hb (Nat.le_refl _)⟩, u, q, Joins.var_stays gRan h3 hb (Nat.le_refl _)⟩
/-- what Atoi answers -/
def AtoiP (l : List UInt8) (w : World) (e : Ending) (w' : World) : Prop := Below w.heap.size w w' ∧ (∀ v, Lib.atoiAll l = .ok v → e = .returned (.tuple #[.int .i64 v, .nilIface])) ∧
  ((∀ v, Lib.atoiAll l ≠ .ok v) → ∃ n T x, e = .returned (.tuple #[.int .i64 n, .iface T x]))
theorem atoi_any (l : List UInt8) (hl : l.length ≤ 281474976710656) (w : World) (hg : Tab w) :
    Calls Tryz.prog 96 #[.string ⟨l.toArray⟩] w (AtoiP l w) := by
  have hs : (ByteArray.mk l.toArray).size ≤ 281474976710656 := hl
  have he : (ByteArray.mk l.toArray).data.toList = l := rfl
  obtain ⟨_, ⟨t, p, h2⟩, u, q, h3⟩ := hg
  rcases h : Lib.atoiAll l with v | _ | _
  · refine (Tryz.strconv_Atoi_ok ⟨l.toArray⟩ (by omega) v (by rw [he]; exact h) w).mono ?_
    rintro e w' ⟨rfl, hw⟩
    refine ⟨?_, fun v' hv => ?_, fun hn => absurd h (hn v)⟩
    · rcases hw with rfl | ⟨t, rfl⟩
      · exact Below.refl _ _
      · exact Lib.bytesWorld_below w _ t
    · rw [h] at hv
      injection hv with hv
      rw [hv]
  · refine (show Calls Tryz.prog 96 #[.string ⟨l.toArray⟩] w _ from Any.strconv_Atoi_syntax_var Tryz.laysC172 ⟨l.toArray⟩ hs (by rw [he]; exact h) t p w h2).mono ?_
    rintro e w' ⟨N, rfl, _, _, hb⟩
    exact ⟨hb, fun v hv => by (rw [h] at hv; cases hv), fun _ => ⟨_, _, _, rfl⟩⟩
  · refine (Tryz.strconv_Atoi_range_var ⟨l.toArray⟩ hs (by rw [he]; exact h) u q w h3).mono ?_
    rintro e w' ⟨N, rfl, _, _, hb⟩
    exact ⟨hb, fun v hv => by (rw [h] at hv; cases hv), fun _ => ⟨_, _, _, rfl⟩⟩
theorem itoa_any (n : Int) (h0 : -9223372036854775808 ≤ n) (h1 : n ≤ 9223372036854775807) (w : World) (hg : Tab w) :
    Calls Tryz.prog 97 #[.int .i64 n] w fun e w' => e = .returned (.string ⟨(Lib.itoa n).toArray⟩) ∧ Below w.heap.size w w' :=
  (Tryz.strconv_Itoa n h0 h1 w hg.1).mono fun e w' ⟨he, k, os, hw⟩ => ⟨he, by rw [hw]; exact Lib.below_grow _ _ (Nat.le_refl _) _ _⟩

/-- what Index answers -/
def idxV (o : Option Int) : Value := match o with | none => .tuple #[.int .i64 0, .bool false] | some v => .tuple #[.int .i64 v, .bool true]
set_option maxRecDepth 100000 in
set_option maxHeartbeats 1000000 in
theorem index_any (l : List UInt8) (n : Int) (hl : l.length ≤ 281474976710656) (w : World) (hg : Tab w) :
    Calls Tryz.prog 76 #[.string ⟨l.toArray⟩, .int .i64 n] w fun e w' => e = .returned (idxV (idxC l n)) ∧ Below w.heap.size w w' := by
  have q1 := err_ne_nil
  have q2 := err_ne_held
  by_cases hv : ∃ v, Lib.atoiAll l = .ok v
  · obtain ⟨v, hv⟩ := hv
    have hb := Lib.atoiAll_bounds hv
    have hb0 := hb.1
    have hb1 := hb.2
    have HC : Hid (idxC l n = if v < 0 ∨ n ≤ v ∨ ¬ Lib.itoa v = l then none else some v) := Lib.hid (by rw [idxC, hv])
    have HV := Lib.hid hv
    clear hv hb
    go_enter Tryz.func76, Tryz.ntmps76
    go_wp2_with fail
    refine (atoi_any l hl _ hg).mono ?_
    rintro e w1 ⟨hb, HO, _⟩
    obtain rfl := HO _ HV.out
    clear HO
    by_cases h0 : v < 0
    · have HR : Hid (idxC l n = none) := Lib.hid (by rw [HC.out, if_pos (.inl h0)])
      go_wp2
      go_ret2
      exact ⟨by rw [HR.out]; rfl, hb⟩
    · by_cases h1 : n ≤ v
      · have HR : Hid (idxC l n = none) := Lib.hid (by rw [HC.out, if_pos (.inr (.inl h1))])
        go_wp2
        go_ret2
        exact ⟨by rw [HR.out]; rfl, hb⟩
      · by_cases h2 : Lib.itoa v = l
        · have HR : Hid (idxC l n = some v) := Lib.hid (by rw [HC.out, if_neg (by rintro (h | h | h); exact h0 h; exact h1 h; exact h h2)])
          have hs : (!Lib.itoa v == l) = false := by rw [h2]; simp
          clear h2
          go_wp2_with fail
          refine (itoa_any v hb0 hb1 _ (hg.next hb)).mono ?_
          rintro e w2 ⟨rfl, hb2⟩
          have hb3 := below_chain hb hb.size hb2
          go_wp2
          go_ret2
          exact ⟨by rw [HR.out]; rfl, hb3⟩
        · have HR : Hid (idxC l n = none) := Lib.hid (by rw [HC.out, if_pos (.inr (.inr h2))])
          have hs : (!Lib.itoa v == l) = true := by simpa using h2
          clear h2
          go_wp2_with fail
          refine (itoa_any v hb0 hb1 _ (hg.next hb)).mono ?_
          rintro e w2 ⟨rfl, hb2⟩
          have hb3 := below_chain hb hb.size hb2
          go_wp2
          go_ret2
          exact ⟨by rw [HR.out]; rfl, hb3⟩
  · have HR : Hid (idxC l n = none) := Lib.hid (by
      unfold idxC
      rcases h : Lib.atoiAll l with v | _ | _
      · exact absurd ⟨v, h⟩ hv
      · rfl
      · rfl)
    have HV := Lib.hid fun v h => hv ⟨v, h⟩
    clear hv
    go_enter Tryz.func76, Tryz.ntmps76
    go_wp2_with fail
    refine (atoi_any l hl _ hg).mono ?_
    rintro e w1 ⟨hb, _, HO⟩
    obtain ⟨k, T, x, rfl⟩ := HO HV.out
    clear HO
    go_wp2
    go_ret2
    exact ⟨by rw [HR.out]; rfl, hb⟩
end Go.Proofs.YtfhchnkoggdilaaGreatDoor
