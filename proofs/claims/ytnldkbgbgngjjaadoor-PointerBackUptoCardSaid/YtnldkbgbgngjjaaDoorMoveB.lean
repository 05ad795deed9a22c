/-
  Walks of package pointer: Within.
-/
import Derived.Test.YtnldkbgbgngjjaaDoorMoveA
import Derived.Deep.QuietTactic
import Derived.BigQuiet
namespace Go.Proofs.YtnldkbgbgngjjaaDoor
open Go.RowKit Mem Utf Ref3 Tok
set_option linter.unusedVariables false

/-- what Within answers -/
def withR (l q : List UInt8) : Except (Int × Int) Bool :=
  match parseS (wrong l) l with
  | .error x => .error x
  | .ok ts => match parseS (wrong q) q with
    | .error x => .error x
    | .ok ms => .ok (ts.isPrefixOf ms)
def WithP (l q : List UInt8) (w : World) (e : Ending) (w' : World) : Prop :=
  Below w.heap.size w w' ∧ (∀ x, withR l q = .error x → e = .returned (.tuple #[.bool false, errV x.1 x.2])) ∧
  (∀ b, withR l q = .ok b → e = .returned (.tuple #[.bool b, .nilIface]))
theorem withP_err {l t : List UInt8} {x : Int × Int} (h : withR l t = .error x) {w w' : World} (hb : Below w.heap.size w w') : WithP l t w (.returned (.tuple #[.bool false, errV x.1 x.2])) w' := by
  refine ⟨hb, fun y hy => ?_, fun r hy => ?_⟩
  · rw [h] at hy
    injection hy with hy
    rw [← hy]
  · rw [h] at hy
    cases hy
theorem withP_ok {l t : List UInt8} {b : Bool} (h : withR l t = .ok b) {w w' : World} (hb : Below w.heap.size w w') : WithP l t w (.returned (.tuple #[.bool b, .nilIface])) w' := by
  refine ⟨hb, fun y hy => ?_, fun r hy => ?_⟩
  · rw [h] at hy
    cases hy
  · rw [h] at hy
    injection hy with hy
    rw [← hy]
theorem withR_err {l t : List UInt8} {x : Int × Int} (h : parseS (wrong l) l = .error x) : withR l t = .error x := by rw [withR, h]
theorem withR_err2 {l t : List UInt8} {ts : List (List UInt8)} {x : Int × Int} (h : parseS (wrong l) l = .ok ts) (h2 : parseS (wrong t) t = .error x) : withR l t = .error x := by rw [withR, h]; simp only []; rw [h2]
theorem withR_ok {l t : List UInt8} {ts ms : List (List UInt8)} (h : parseS (wrong l) l = .ok ts) (h2 : parseS (wrong t) t = .ok ms) : withR l t = .ok (ts.isPrefixOf ms) := by rw [withR, h]; simp only []; rw [h2]
/-- what the code tests is the law's test -/
theorem with_self {l : List UInt8} {ts : List (List UInt8)} (h : parseS (wrong l) l = .ok ts) : withR l l = .ok true := by
  rw [withR_ok h h]
  have : ts.isPrefixOf ts = true := by rw [List.isPrefixOf_iff_prefix]; exact List.prefix_refl _
  rw [this]
theorem with_test {l q : List UInt8} {ts ms : List (List UInt8)} (h : parseS (wrong l) l = .ok ts) (h2 : parseS (wrong q) q = .ok ms) (hne : ¬ q = l) :
    withR l q = .ok (Lib.hasPrefix q (l ++ [47])) := by
  rw [withR_ok h h2]
  have e1 := (parse_print h).2.1
  have e2 := (parse_print h2).2.1
  have hw := Tok.within_iff ts ms
  rw [e1, e2] at hw
  congr 1
  rw [Bool.eq_iff_iff, List.isPrefixOf_iff_prefix, ← hw]
  unfold Lib.hasPrefix
  rw [List.isPrefixOf_iff_prefix]
  exact ⟨fun h => h.elim (fun h => absurd h hne) id, .inr⟩

theorem list_of (x : List UInt8) : (ByteArray.mk x.toArray).data.toList = x := rfl
set_option maxRecDepth 100000 in
set_option maxHeartbeats 4000000 in
theorem within_any (l q : List UInt8) (hl : l.length ≤ 2147483640) (hq : q.length ≤ 2147483640) (w : World) (hg : Glob w) :
    Calls Tryd.prog 19 #[.string ⟨l.toArray⟩, .string ⟨q.toArray⟩] w (WithP l q w) := by
  have hz : 0 < w.heap.size := by
    obtain ⟨m, hm⟩ := hg
    exact Nat.lt_of_le_of_lt (Nat.zero_le _) (World.block_lt_of_cell? w _ hm)
  go_enter Tryd.func19, Tryd.ntmps19
  go_wp2_with fail
  refine (parse_any ⟨l.toArray⟩ (by show l.length ≤ _; omega) _ hg).mono ?_
  rintro e w1 ⟨hb1, HE, HO⟩
  rw [show (ByteArray.mk l.toArray).data.toList = l from rfl] at HE HO
  cases hp : parseS (wrong l) l with
  | error x =>
    obtain rfl := HE x hp
    have H := Lib.hid (withP_err (withR_err (t := q) hp) hb1)
    obtain ⟨n, a⟩ := x
    clear HE HO hp
    simp only [] at H ⊢
    by_cases ha : a < 0
    · rw [errV, if_pos ha] at H ⊢
      go_wp2
      go_ret2
      exact H.out
    · rw [errV, if_neg ha, spotV] at H ⊢
      go_wp2
      go_ret2
      exact H.out
  | ok ts =>
    obtain ⟨v, rfl, hown⟩ := HO ts hp
    obtain ⟨A, c, rfl⟩ := own_slice hown
    have HP := Lib.hid hp
    clear HE HO hp hown
    generalize ts.length = n1 at *
    go_wp2_with fail
    refine (parse_any ⟨q.toArray⟩ (by show q.length ≤ _; omega) _ (hg.below hb1 hz)).mono ?_
    rintro e w2 ⟨hb2, HE, HO⟩
    have hb12 := below_chain hb1 hb1.size hb2
    rw [show (ByteArray.mk q.toArray).data.toList = q from rfl] at HE HO
    cases hp : parseS (wrong q) q with
    | error x =>
      obtain rfl := HE x hp
      have H := Lib.hid (withP_err (withR_err2 HP.out hp) hb12)
      obtain ⟨n, a⟩ := x
      clear HE HO hp
      simp only [] at H ⊢
      by_cases ha : a < 0
      · rw [errV, if_pos ha] at H ⊢
        go_wp2
        go_ret2
        exact H.out
      · rw [errV, if_neg ha, spotV] at H ⊢
        go_wp2
        go_ret2
        exact H.out
    | ok ms =>
      obtain ⟨v, rfl, hown⟩ := HO ms hp
      obtain ⟨A2, c2, rfl⟩ := own_slice hown
      have HQ := Lib.hid hp
      clear HE HO hp hown
      generalize ms.length = n2 at *
      by_cases he : q = l
      · subst he
        have H := Lib.hid (withP_ok (with_self HP.out) hb12)
        have hs : (q == q) = true := by simp
        go_wp2
        go_ret2
        exact H.out
      · have H := Lib.hid (withP_ok (with_test HP.out HQ.out he) hb12)
        have hs : (q == l) = false := by simp [he]
        clear he
        go_wp2_with fail
        refine (Tryd.strings_HasPrefix _ _ _).mono ?_
        rintro e w3 ⟨rfl, rfl⟩
        rw [show (ByteArray.mk #[47]) = ByteArray.mk [47].toArray from rfl, mk_append2, list_of, list_of]
        go_wp2
        go_ret2
        exact H.out
end Go.Proofs.YtnldkbgbgngjjaaDoor
