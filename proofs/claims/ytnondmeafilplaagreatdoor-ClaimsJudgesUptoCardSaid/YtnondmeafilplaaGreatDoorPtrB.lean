/-
  Walks of package pointer: quoted, Print.
-/
import Derived.Test.YtnondmeafilplaaGreatDoorBld
import Derived.Test.YtnondmeafilplaaGreatDoorLaw13
namespace Go.Proofs.YtnondmeafilplaaGreatDoor
open Go.RowKit Mem Utf Ref3 Tok
set_option linter.unusedVariables false

theorem Bld.below {w w' : World} {B b : Nat} {l : List UInt8} (h : Bld w B b l) (hb : Below w.heap.size w w') : Bld w' B b l := by
  rcases h with ⟨hB, v, hh, hown, hne⟩ | ⟨hB, v, hh, hown, hne⟩
  · exact .inl ⟨hB, v, (hb.block b (Array.getElem?_eq_some_iff.1 hh).1).trans hh, hown.kept (grown_of_below hb none) (Classical.em _), hne⟩
  · exact .inr ⟨hB, v, (hb.block b (Array.getElem?_eq_some_iff.1 hh).1).trans hh, hown.kept (grown_of_below hb none) (Classical.em _), hne⟩
theorem Bld.new (w : World) : Bld (w.alloc (.cells #[.pointer none, .slice none 0 0] 220)) w.heap.size w.heap.size [] :=
  .inl ⟨Nat.le_refl _, .slice none 0 0, Mem.Blk.new _ _ _, World.ownsRowF_nil _ _ _ _, by simp [Value.ownBlock]⟩
theorem right_wrong (l : List UInt8) : isNil (chkV l) = decide ((wrong l).1 = 0) := by
  rw [UtfLaw.chk_wrong]
  by_cases h : (wrong l).1 = 0
  · rw [if_pos h, decide_eq_true h]; rfl
  · rw [if_neg h, decide_eq_false h]; rfl

set_option maxHeartbeats 1000000 in
theorem quoted_any (l : List UInt8) (hl : l.length ≤ 2147483640) (w : World) (hg : Glob w) :
    Calls Tryz.prog 53 #[.string ⟨l.toArray⟩] w fun e w' => e = .returned (.string ⟨(piece l).toArray⟩) ∧ Below w.heap.size w w' := by
  obtain ⟨m, hm⟩ := hg
  have hsize : 1 < w.heap.size := World.block_lt_of_cell? w _ hm
  have hl1 : (Lib.replaceAll l [126] [126, 48]).length ≤ 4294967280 := by
    have := tilde_le l
    omega
  go_enter Tryz.func53, Tryz.ntmps53
  go_wp2_with fail
  refine (ra_any l ⟨#[126]⟩ ⟨#[126, 48]⟩ m _ (by omega) hm (by decide) (by decide)).mono ?_
  rintro e w1 ⟨rfl, hb⟩
  rw [show (ByteArray.mk #[126]).data.toList = [126] from rfl, show (ByteArray.mk #[126, 48]).data.toList = [126, 48] from rfl]
  have hm1 : w1.cell? ⟨1, 0, none⟩ = some (.int .i64 m) := (hb.cell (p := ⟨1, 0, none⟩) hsize).trans hm
  have hq := quoted_piece l
  unfold quotedP at hq
  generalize Lib.replaceAll l [126] [126, 48] = q at hq hl1 ⊢
  have Hq := Lib.hid hq
  clear hq
  go_wp2_with fail
  refine (ra_any q ⟨#[47]⟩ ⟨#[126, 49]⟩ m _ hl1 hm1 (by decide) (by decide)).mono ?_
  rintro e w2 ⟨rfl, hb2⟩
  rw [show (ByteArray.mk #[47]).data.toList = [47] from rfl, show (ByteArray.mk #[126, 49]).data.toList = [126, 49] from rfl]
  have hl2 : (Lib.replaceAll q [47] [126, 49]).length ≤ 9223372036854775800 := by
    have := slash_le q
    omega
  generalize Lib.replaceAll q [47] [126, 49] = q2 at Hq hl2 ⊢
  go_wp2
  go_ret
  exact ⟨by rw [← Hq.out]; exact congrArg (fun x => Ending.returned (.string x)) (mk_append [47] q2), hb.trans (hb2.mono hb.size)⟩

def PrintP (ts : List (List UInt8)) (w : World) (e : Ending) (w' : World) : Prop :=
  Below w.heap.size w w' ∧ (∀ x, printR wrong ts = .error x → e = .returned (.tuple #[.string ⟨#[]⟩, errV x.1 x.2])) ∧
  (∀ l, printR wrong ts = .ok l → e = .returned (.tuple #[.string ⟨l.toArray⟩, .nilIface]))
theorem printP_err {ts : List (List UInt8)} {n a : Int} (h : printR wrong ts = .error (n, a)) {w w' : World} (hb : Below w.heap.size w w') : PrintP ts w (.returned (.tuple #[.string ⟨#[]⟩, errV n a])) w' := by
  refine ⟨hb, fun x hx => ?_, fun l hx => ?_⟩
  · rw [h] at hx
    injection hx with hx
    rw [← hx]
  · rw [h] at hx
    cases hx
theorem printP_ok {ts : List (List UInt8)} {l : List UInt8} (h : printR wrong ts = .ok l) {w w' : World} (hb : Below w.heap.size w w') : PrintP ts w (.returned (.tuple #[.string ⟨l.toArray⟩, .nilIface])) w' := by
  refine ⟨hb, fun x hx => ?_, fun l' hx => ?_⟩
  · rw [h] at hx
    cases hx
  · rw [h] at hx
    injection hx with hx
    rw [← hx]

end Go.Proofs.YtnondmeafilplaaGreatDoor
