/-
  The law BindNarrows of layer 16, whole.
-/
import Derived.Test.YtbajkglacfheiaaGreatDoorNA34
import Derived.Test.YtbajkglacfheiaaGreatDoorNA35
set_option linter.unusedVariables false
set_option linter.unusedSimpArgs false
set_option maxRecDepth 100000
set_option maxHeartbeats 16000000
namespace Go.Proofs.YtbajkglacfheiaaGreatDoor
open Go.RowKit Mem Utf Ref3 Idx Tok TokC
namespace Nd
theorem narrows_any (v : Value) (l : Tx) (ss : List Stp) (w : World) (hS : RdS w v ss) (hF : ∀ s ∈ ss, s.Fine) (hC : ∀ s ∈ ss, s.Cnt) (hn : ss.length ≤ 1048576) (hl : l.length ≤ 4194304) (hG : Glob w) (hT : Tab w) : Calls Tryz.prog 5 #[v, .string ⟨l.toArray⟩] w (TrueN w) := by
 cases hb : buildT ss with
 | inl x => exact narrows_refused v l ss w hS hF hC hn hl hG hT x hb
 | inr t =>
  cases hp : parseS (wrong l) l with
  | error x => exact narrows_bad v l ss w hS hF hC hn hl hG hT t hb x.1 x.2 hp
  | ok ts =>
   cases hle : leadT t ts 0 with
   | inl n => exact narrows_lost v l ss w hS hF hC hn hl hG hT t hb ts hp n hle
   | inr u =>
    cases hr : narrowD u (firstK u) 4 0 with
    | inl m => exact narrows_none v l ss w hS hF hC hn hl hG hT t hb ts hp u hle m hr
    | inr x => exact narrows_some v l ss w hS hF hC hn hl hG hT t hb ts hp u hle x.1 x.2 hr
end Nd
end Go.Proofs.YtbajkglacfheiaaGreatDoor
