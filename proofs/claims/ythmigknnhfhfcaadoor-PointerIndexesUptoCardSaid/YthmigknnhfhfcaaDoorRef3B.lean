/-
  Walks of the reference of layer 3: At.
-/
import Derived.Test.YthmigknnhfhfcaaDoorRef3
namespace Go.Proofs.YthmigknnhfhfcaaDoor
open Go.RowKit Mem Ref3
set_option linter.unusedVariables false
namespace Ref3
/-- the first fault of a form from its byte k on, so many bytes more -/
def badF (r : List UInt8) (c0 p : Int) : Nat → Nat → Option (Int × Int)
  | 0, _ => none
  | f + 1, k => match r[k]? with
    | none => some (31, p + r.length)
    | some d => if (k = 1 ∧ second c0 (d.toNat : Int) = false) ∨ (d.toNat : Int) < 128 ∨ 191 < (d.toNat : Int) then some (30, p + k) else badF r c0 p f (k + 1)
end Ref3

theorem results_tmp4 {fn : Func} {t u v x : Tmp} (h : fn.results = #[.tmp t, .tmp u, .tmp v, .tmp x]) (tmps : Array Value) (P : Program) (w : World) :
    (results fn tmps).run P w = .ok (.tuple #[tmps.getD t undef, tmps.getD u undef, tmps.getD v undef, tmps.getD x undef]) w := by simp [results, h]

def AtP (l : List UInt8) (i : Nat) (c : Int) (w : World) (e : Ending) (w' : World) : Prop :=
  w = w' ∧ (wide c = 0 → e = .returned (.tuple #[.int .i32 0, .int .i64 0, .int .i64 30, .int .i64 i])) ∧
  (1 ≤ wide c → ∀ y, badF (l.drop i) c i ((wide c).toNat - 1) 1 = some y → e = .returned (.tuple #[.int .i32 0, .int .i64 0, .int .i64 y.1, .int .i64 y.2])) ∧
  (1 ≤ wide c → badF (l.drop i) c i ((wide c).toNat - 1) 1 = none → ∃ x, e = .returned (.tuple #[.int .i32 x, .int .i64 (wide c), .int .i64 0, .int .i64 0]))

theorem at_bad {l : List UInt8} {i nw : Nat} {c : Int} {y : Int × Int} (hw : wide c = nw) (h1 : 1 ≤ nw) (hb : badF (l.drop i) c i (nw - 1) 1 = some y) (w : World) :
    AtP l i c w (.returned (.tuple #[.int .i32 0, .int .i64 0, .int .i64 y.1, .int .i64 y.2])) w := by
  have e : (wide c).toNat - 1 = nw - 1 := by rw [hw]; simp
  refine ⟨rfl, fun h => by omega, fun _ z hz => ?_, fun _ hz => ?_⟩
  · rw [e, hb] at hz
    injection hz with hz
    rw [hz]
  · rw [e, hb] at hz
    cases hz
theorem at_good {l : List UInt8} {i nw : Nat} {c : Int} (hw : wide c = nw) (h1 : 1 ≤ nw) (hb : badF (l.drop i) c i (nw - 1) 1 = none) (w : World) (x : Int) :
    AtP l i c w (.returned (.tuple #[.int .i32 x, .int .i64 nw, .int .i64 0, .int .i64 0])) w := by
  have e : (wide c).toNat - 1 = nw - 1 := by rw [hw]; simp
  refine ⟨rfl, fun h => by omega, fun _ z hz => ?_, fun _ hz => ⟨x, by rw [hw]⟩⟩
  rw [e, hb] at hz
  cases hz

end Go.Proofs.YthmigknnhfhfcaaDoor
