/-
  Judge of the reference of layer 25: how memory stands, and the function's text from each test on (printed by wip/gen_cls.py).
-/
import Derived.Test.YtnondmeafilplaaGreatDoorClR
namespace Go.Proofs.YtnondmeafilplaaGreatDoor
open Go.RowKit Mem Utf Ref3 Tok Cl
set_option linter.unusedVariables false
def RefJudgeP (c : C) (r : R) (w : World) (e : Ending) (w' : World) : Prop := ∃ u, e = .returned u ∧ VerdR w' u (judge0 c r) ∧ Below w.heap.size w w'
theorem rd_nil (w : World) : Rd w (.slice none 0 0) [] := ⟨none, 0, rfl, fun j hj => by cases hj⟩
theorem C4 {w : World} {b : Nat} {t : TypeId} {a0 a1 a2 a3 : Value} (h : Blk w b t #[a0, a1, a2, a3]) :
    w.cell? ⟨b, 0, none⟩ = some a0 ∧ w.cell? ⟨b, 1, none⟩ = some a1 ∧ w.cell? ⟨b, 2, none⟩ = some a2 ∧ w.cell? ⟨b, 3, none⟩ = some a3 := ⟨h.cell 0, h.cell 1, h.cell 2, h.cell 3⟩

/-- how memory stands while the reference judges -/
structure JSt (w0 : World) (c : C) (r : R) (v2 v3 u1 u2 u3 : Value) (g : Nat) (w : World) : Prop where
  mC : Blk w w0.heap.size 40 (dCells (is c) c v2 v3)
  mR : Blk w (w0.heap.size + 1) 31 (ruCells r u1 u2 u3)
  mV : Blk w (w0.heap.size + 2) 48 #[.int .i64 0, .int .i64 0, .string ⟨#[]⟩, .slice none 0 0]
  mK : Blk w g 36 keyCells
  bel : Below w0.heap.size w0 w
theorem JSt.below {w0 w w' : World} {c : C} {r : R} {v2 v3 u1 u2 u3 : Value} {g : Nat} (h : JSt w0 c r v2 v3 u1 u2 u3 g w) (hb : Below w.heap.size w w') : JSt w0 c r v2 v3 u1 u2 u3 g w' :=
  ⟨h.mC.below hb h.mC.lt, h.mR.below hb h.mR.lt, h.mV.below hb h.mV.lt, h.mK.below hb h.mK.lt, below_chain h.bel h.bel.size hb⟩

/-- what follows the first statements of the function -/
def tailOf : Code → Code
  | .seq _ (.seq _ (.seq _ t)) => t
  | _ => .skip
def nextOf : Code → Code
  | .seq _ t => t
  | _ => .skip
noncomputable def refJTail : Code := tailOf (Tryz.f13.body.getD .skip)
noncomputable def refJTail2 : Code := nextOf refJTail
noncomputable def refJTail3 : Code := nextOf refJTail2
noncomputable def refJTail3b : Code := nextOf refJTail3
noncomputable def refJTail4 : Code := nextOf refJTail3b
noncomputable def refJTail5 : Code := nextOf refJTail4

end Go.Proofs.YtnondmeafilplaaGreatDoor
