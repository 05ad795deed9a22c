/-
  Walks of package pointer: Down, Within, Up.
-/
import Derived.Test.YtnondmeafilplaaGreatDoorTokB
import Derived.Test.YtnondmeafilplaaGreatDoorPtrB
namespace Go.Proofs.YtnondmeafilplaaGreatDoor
open Go.RowKit Mem Utf Ref3 Tok
set_option linter.unusedVariables false

/-- what Down answers -/
def downR (l t : List UInt8) : Except (Int × Int) (List UInt8) :=
  match parseS (wrong l) l with
  | .error x => .error x
  | .ok ts => if (wrong t).1 = 0 then (if ts.length < 65536 then .ok (l ++ piece t) else .error (3, -1)) else .error (100, -1)
def DownP (l t : List UInt8) (w : World) (e : Ending) (w' : World) : Prop :=
  Below w.heap.size w w' ∧ (∀ x, downR l t = .error x → e = .returned (.tuple #[.string ⟨#[]⟩, errV x.1 x.2])) ∧
  (∀ r, downR l t = .ok r → e = .returned (.tuple #[.string ⟨r.toArray⟩, .nilIface]))
theorem downP_err {l t : List UInt8} {x : Int × Int} (h : downR l t = .error x) {w w' : World} (hb : Below w.heap.size w w') : DownP l t w (.returned (.tuple #[.string ⟨#[]⟩, errV x.1 x.2])) w' := by
  refine ⟨hb, fun y hy => ?_, fun r hy => ?_⟩
  · rw [h] at hy
    injection hy with hy
    rw [← hy]
  · rw [h] at hy
    cases hy
theorem downP_ok {l t r : List UInt8} (h : downR l t = .ok r) {w w' : World} (hb : Below w.heap.size w w') : DownP l t w (.returned (.tuple #[.string ⟨r.toArray⟩, .nilIface])) w' := by
  refine ⟨hb, fun y hy => ?_, fun r hy => ?_⟩
  · rw [h] at hy
    cases hy
  · rw [h] at hy
    injection hy with hy
    rw [← hy]
theorem downR_err {l t : List UInt8} {x : Int × Int} (h : parseS (wrong l) l = .error x) : downR l t = .error x := by rw [downR, h]
theorem downR_ok {l t : List UInt8} {ts : List (List UInt8)} (h : parseS (wrong l) l = .ok ts) :
    downR l t = if (wrong t).1 = 0 then (if ts.length < 65536 then .ok (l ++ piece t) else .error (3, -1)) else .error (100, -1) := by rw [downR, h]
theorem mk_append2 (a b : List UInt8) : ByteArray.mk a.toArray ++ ByteArray.mk b.toArray = ByteArray.mk (a ++ b).toArray := mk_append a b

set_option maxRecDepth 100000 in
set_option maxHeartbeats 4000000 in
theorem down_any (l t : List UInt8) (hl : l.length ≤ 2147483640) (ht : t.length ≤ 2147483640) (w : World) (hg : Glob w) :
    Calls Tryz.prog 34 #[.string ⟨l.toArray⟩, .string ⟨t.toArray⟩] w (DownP l t w) := by
  have hz : 1 < w.heap.size := by
    obtain ⟨m, hm⟩ := hg
    exact World.block_lt_of_cell? w _ hm
  go_enter Tryz.func34, Tryz.ntmps34
  go_wp2_with fail
  refine (parse_any ⟨l.toArray⟩ (by show l.length ≤ _; omega) _ hg).mono ?_
  rintro e w1 ⟨hb1, HE, HO⟩
  rw [show (ByteArray.mk l.toArray).data.toList = l from rfl] at HE HO
  cases hp : parseS (wrong l) l with
  | error x =>
    obtain rfl := HE x hp
    have H := Lib.hid (downP_err (downR_err (t := t) hp) hb1)
    obtain ⟨n, a⟩ := x
    clear HE HO hp
    simp only [] at H ⊢
    by_cases ha : a < 0
    · rw [errV, if_pos ha] at H ⊢
      go_wp2
      go_ret2
      exact H.out
    · rw [errV, if_neg ha, spotV] at H ⊢
      go_wp2
      go_ret2
      exact H.out
  | ok ts =>
    obtain ⟨v, rfl, hown⟩ := HO ts hp
    have hr0 := downR_ok (t := t) hp
    obtain ⟨A, c, rfl⟩ := own_slice hown
    have hlen0 : ts.length ≤ 65536 := (parse_print hp).2.2
    clear HE HO hp hown
    go_wp2_with fail
    refine (right_any ⟨t.toArray⟩ _ (by show t.length ≤ _; omega)).mono ?_
    rintro e w2 ⟨rfl, hb2⟩
    have hb12 := below_chain hb1 hb1.size hb2
    rw [show (ByteArray.mk t.toArray).data.toList = t from rfl, right_wrong]
    by_cases hr : (wrong t).1 = 0
    · rw [if_pos hr] at hr0
      rw [decide_eq_true hr]
      clear hr
      by_cases hlen : ts.length < 65536
      · rw [if_pos hlen] at hr0
        have HR := Lib.hid hr0
        have hi1 : (ts.length : Int) < 65536 := by omega
        clear hr0 hlen0 hlen
        generalize ts.length = n at *
        have hi2 : ((65536 : Int) ≤ (n : Int)) = False := by simp; omega
        clear hi1
        have hpl := piece_le t
        go_wp2_with fail
        refine (quoted_any t (by omega) _ (hg.below hb12 hz)).mono ?_
        rintro e w3 ⟨rfl, hb3⟩
        have H := Lib.hid (downP_ok HR.out (below_chain hb12 hb12.size hb3))
        rw [← mk_append2] at H
        have hq : (piece t).length ≤ 4611686018427387000 := by omega
        clear HR hpl ht
        generalize piece t = pt at *
        go_wp2
        go_ret2
        exact H.out
      · rw [if_neg hlen] at hr0
        have H := Lib.hid (downP_err hr0 hb12)
        simp only [errV_no] at H
        have hi1 : (65536 : Int) ≤ (ts.length : Int) := by omega
        clear hr0 hlen0 hlen
        generalize ts.length = n at *
        go_wp2
        go_ret2
        exact H.out
    · rw [if_neg hr] at hr0
      have H := Lib.hid (downP_err hr0 hb12)
      simp only [errV_no] at H
      rw [decide_eq_false hr]
      clear hr0 hr
      go_wp2
      go_ret2
      exact H.out
end Go.Proofs.YtnondmeafilplaaGreatDoor
