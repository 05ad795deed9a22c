/-
  Walks of package bind: bound where another function binds; Bind over pointer.Find.
  Bind of whole numbers and of texts; the statements' own functions fault and wakes of layer 16.
  Walk of package bind: Narrow.
  Small walks: at, number, finite, positive of package bind; Figures, at, plus of the references.
  Walks of package node: a Ref's Same: lists. Walks of package node: a Ref's Same: objects. Walks of package node: a Ref's Same and a Tree's Same, of every two trees.
-/
import Derived.Test.YtbajkglacfheiaaGreatDoorPA18
import Derived.Test.YtbajkglacfheiaaGreatDoorPA19
import Derived.Test.YtbajkglacfheiaaGreatDoorPA9
import Derived.Test.YtbajkglacfheiaaGreatDoorPA2
import Derived.Test.YtbajkglacfheiaaGreatDoorPA13
import Derived.Test.YtbajkglacfheiaaGreatDoorPA15
import Derived.Test.YtbajkglacfheiaaGreatDoorPA12
import Derived.Test.YtbajkglacfheiaaGreatDoorPA8
import Derived.Test.YtbajkglacfheiaaGreatDoorPA16
import Derived.Test.YtbajkglacfheiaaGreatDoorPA11
import Derived.Test.YtbajkglacfheiaaGreatDoorPA1
import Derived.Laws.BitsAllLaws
import Derived.LoopTactic
import Derived.Lib.AppendStr
import Derived.BigQuiet
import Derived.Laws.Bits64b
import Derived.Deep.Upon
import Derived.Deep.RegionHeldLaw
import Derived.Maps.AppendAt
import Derived.Deep.AppendLies
import Derived.Deep.RegionLaw
import Derived.RangeFuncBox
import Derived.Lib.ItoaMem
import Derived.Lib.ItoaLen
import Derived.Laws.BytesArg
import Derived.StillTailTactics
set_option linter.unusedVariables false
set_option linter.unusedSimpArgs false
set_option maxRecDepth 100000
set_option maxHeartbeats 16000000
namespace Go.Proofs.YtbajkglacfheiaaGreatDoor
open Go.RowKit Mem Utf Ref3 Idx Tok TokC
namespace Nd
def Later (R : World → Ending → World → Prop) (w : World) (e : Ending) (w' : World) : Prop := ∃ W, Below w.heap.size w W ∧ R W e w'
theorem bound_3 (R : World → Ending → World → Prop) (v : Value) (p : Tx) (w : World) (HC : ∀ W, Below w.heap.size w W → Calls Tryz.prog 88 #[.agg #[v], .string ⟨p.toArray⟩, .int .i64 3] W (R W)) (hR : ∀ W e w', R W e w' → ∃ a b, e = .returned (.tuple #[a, b])) : Calls Tryz.prog 34 #[.agg #[v], .string ⟨p.toArray⟩, .int .i64 3] w (Later R w) := by
 have hx := ref_boxB w v
 have c1 := (Blk.new w 58 #[v]).cell 0
 have HX := Lib.hid hx
 have HHC := Lib.hid (HC _ hx)
 have HHR := Lib.hid hR
 clear hx HC hR
 go_enter Tryz.func34, Tryz.ntmps34
 go_wp2_with fail
 ((with_reducible refine (HHC.out).mono ?_); intro e w2 hr2)
 obtain ⟨a, b, rfl⟩ := HHR.out _ _ _ hr2
 have HP : Hid (Later R w (.returned (.tuple #[a, b])) w2) := Lib.hid ⟨_, HX.out, hr2⟩
 clear hr2 c1 HHC HHR
 go_wp2
 go_ret2
 exact HP.out
theorem bound_4 (R : World → Ending → World → Prop) (v : Value) (p : Tx) (w : World) (HC : ∀ W, Below w.heap.size w W → Calls Tryz.prog 88 #[.agg #[v], .string ⟨p.toArray⟩, .int .i64 4] W (R W)) (hR : ∀ W e w', R W e w' → ∃ a b, e = .returned (.tuple #[a, b])) : Calls Tryz.prog 34 #[.agg #[v], .string ⟨p.toArray⟩, .int .i64 4] w (Later R w) := by
 have hx := ref_boxB w v
 have c1 := (Blk.new w 58 #[v]).cell 0
 have HX := Lib.hid hx
 have HHC := Lib.hid (HC _ hx)
 have HHR := Lib.hid hR
 clear hx HC hR
 go_enter Tryz.func34, Tryz.ntmps34
 go_wp2_with fail
 ((with_reducible refine (HHC.out).mono ?_); intro e w2 hr2)
 obtain ⟨a, b, rfl⟩ := HHR.out _ _ _ hr2
 have HP : Hid (Later R w (.returned (.tuple #[a, b])) w2) := Lib.hid ⟨_, HX.out, hr2⟩
 clear hr2 c1 HHC HHR
 go_wp2
 go_ret2
 exact HP.out
theorem bound_5 (R : World → Ending → World → Prop) (v : Value) (p : Tx) (w : World) (HC : ∀ W, Below w.heap.size w W → Calls Tryz.prog 88 #[.agg #[v], .string ⟨p.toArray⟩, .int .i64 5] W (R W)) (hR : ∀ W e w', R W e w' → ∃ a b, e = .returned (.tuple #[a, b])) : Calls Tryz.prog 34 #[.agg #[v], .string ⟨p.toArray⟩, .int .i64 5] w (Later R w) := by
 have hx := ref_boxB w v
 have c1 := (Blk.new w 58 #[v]).cell 0
 have HX := Lib.hid hx
 have HHC := Lib.hid (HC _ hx)
 have HHR := Lib.hid hR
 clear hx HC hR
 go_enter Tryz.func34, Tryz.ntmps34
 go_wp2_with fail
 ((with_reducible refine (HHC.out).mono ?_); intro e w2 hr2)
 obtain ⟨a, b, rfl⟩ := HHR.out _ _ _ hr2
 have HP : Hid (Later R w (.returned (.tuple #[a, b])) w2) := Lib.hid ⟨_, HX.out, hr2⟩
 clear hr2 c1 HHC HHR
 go_wp2
 go_ret2
 exact HP.out
theorem bound_6 (R : World → Ending → World → Prop) (v : Value) (p : Tx) (w : World) (HC : ∀ W, Below w.heap.size w W → Calls Tryz.prog 88 #[.agg #[v], .string ⟨p.toArray⟩, .int .i64 6] W (R W)) (hR : ∀ W e w', R W e w' → ∃ a b, e = .returned (.tuple #[a, b])) : Calls Tryz.prog 34 #[.agg #[v], .string ⟨p.toArray⟩, .int .i64 6] w (Later R w) := by
 have hx := ref_boxB w v
 have c1 := (Blk.new w 58 #[v]).cell 0
 have HX := Lib.hid hx
 have HHC := Lib.hid (HC _ hx)
 have HHR := Lib.hid hR
 clear hx HC hR
 go_enter Tryz.func34, Tryz.ntmps34
 go_wp2_with fail
 ((with_reducible refine (HHC.out).mono ?_); intro e w2 hr2)
 obtain ⟨a, b, rfl⟩ := HHR.out _ _ _ hr2
 have HP : Hid (Later R w (.returned (.tuple #[a, b])) w2) := Lib.hid ⟨_, HX.out, hr2⟩
 clear hr2 c1 HHC HHR
 go_wp2
 go_ret2
 exact HP.out
theorem bound_7 (R : World → Ending → World → Prop) (v : Value) (p : Tx) (w : World) (HC : ∀ W, Below w.heap.size w W → Calls Tryz.prog 88 #[.agg #[v], .string ⟨p.toArray⟩, .int .i64 7] W (R W)) (hR : ∀ W e w', R W e w' → ∃ a b, e = .returned (.tuple #[a, b])) : Calls Tryz.prog 34 #[.agg #[v], .string ⟨p.toArray⟩, .int .i64 7] w (Later R w) := by
 have hx := ref_boxB w v
 have c1 := (Blk.new w 58 #[v]).cell 0
 have HX := Lib.hid hx
 have HHC := Lib.hid (HC _ hx)
 have HHR := Lib.hid hR
 clear hx HC hR
 go_enter Tryz.func34, Tryz.ntmps34
 go_wp2_with fail
 ((with_reducible refine (HHC.out).mono ?_); intro e w2 hr2)
 obtain ⟨a, b, rfl⟩ := HHR.out _ _ _ hr2
 have HP : Hid (Later R w (.returned (.tuple #[a, b])) w2) := Lib.hid ⟨_, HX.out, hr2⟩
 clear hr2 c1 HHC HHR
 go_wp2
 go_ret2
 exact HP.out
theorem bound_8 (R : World → Ending → World → Prop) (v : Value) (p : Tx) (w : World) (HC : ∀ W, Below w.heap.size w W → Calls Tryz.prog 88 #[.agg #[v], .string ⟨p.toArray⟩, .int .i64 8] W (R W)) (hR : ∀ W e w', R W e w' → ∃ a b, e = .returned (.tuple #[a, b])) : Calls Tryz.prog 34 #[.agg #[v], .string ⟨p.toArray⟩, .int .i64 8] w (Later R w) := by
 have hx := ref_boxB w v
 have c1 := (Blk.new w 58 #[v]).cell 0
 have HX := Lib.hid hx
 have HHC := Lib.hid (HC _ hx)
 have HHR := Lib.hid hR
 clear hx HC hR
 go_enter Tryz.func34, Tryz.ntmps34
 go_wp2_with fail
 ((with_reducible refine (HHC.out).mono ?_); intro e w2 hr2)
 obtain ⟨a, b, rfl⟩ := HHR.out _ _ _ hr2
 have HP : Hid (Later R w (.returned (.tuple #[a, b])) w2) := Lib.hid ⟨_, HX.out, hr2⟩
 clear hr2 c1 HHC HHR
 go_wp2
 go_ret2
 exact HP.out
theorem bound_9 (R : World → Ending → World → Prop) (v : Value) (p : Tx) (w : World) (HC : ∀ W, Below w.heap.size w W → Calls Tryz.prog 88 #[.agg #[v], .string ⟨p.toArray⟩, .int .i64 9] W (R W)) (hR : ∀ W e w', R W e w' → ∃ a b, e = .returned (.tuple #[a, b])) : Calls Tryz.prog 34 #[.agg #[v], .string ⟨p.toArray⟩, .int .i64 9] w (Later R w) := by
 have hx := ref_boxB w v
 have c1 := (Blk.new w 58 #[v]).cell 0
 have HX := Lib.hid hx
 have HHC := Lib.hid (HC _ hx)
 have HHR := Lib.hid hR
 clear hx HC hR
 go_enter Tryz.func34, Tryz.ntmps34
 go_wp2_with fail
 ((with_reducible refine (HHC.out).mono ?_); intro e w2 hr2)
 obtain ⟨a, b, rfl⟩ := HHR.out _ _ _ hr2
 have HP : Hid (Later R w (.returned (.tuple #[a, b])) w2) := Lib.hid ⟨_, HX.out, hr2⟩
 clear hr2 c1 HHC HHR
 go_wp2
 go_ret2
 exact HP.out
theorem bound_10 (R : World → Ending → World → Prop) (v : Value) (p : Tx) (w : World) (HC : ∀ W, Below w.heap.size w W → Calls Tryz.prog 88 #[.agg #[v], .string ⟨p.toArray⟩, .int .i64 10] W (R W)) (hR : ∀ W e w', R W e w' → ∃ a b, e = .returned (.tuple #[a, b])) : Calls Tryz.prog 34 #[.agg #[v], .string ⟨p.toArray⟩, .int .i64 10] w (Later R w) := by
 have hx := ref_boxB w v
 have c1 := (Blk.new w 58 #[v]).cell 0
 have HX := Lib.hid hx
 have HHC := Lib.hid (HC _ hx)
 have HHR := Lib.hid hR
 clear hx HC hR
 go_enter Tryz.func34, Tryz.ntmps34
 go_wp2_with fail
 ((with_reducible refine (HHC.out).mono ?_); intro e w2 hr2)
 obtain ⟨a, b, rfl⟩ := HHR.out _ _ _ hr2
 have HP : Hid (Later R w (.returned (.tuple #[a, b])) w2) := Lib.hid ⟨_, HX.out, hr2⟩
 clear hr2 c1 HHC HHR
 go_wp2
 go_ret2
 exact HP.out
theorem bound_13 (R : World → Ending → World → Prop) (v : Value) (p : Tx) (w : World) (HC : ∀ W, Below w.heap.size w W → Calls Tryz.prog 85 #[.agg #[v], .string ⟨p.toArray⟩, .int .i64 13] W (R W)) (hR : ∀ W e w', R W e w' → ∃ a b, e = .returned (.tuple #[a, b])) : Calls Tryz.prog 34 #[.agg #[v], .string ⟨p.toArray⟩, .int .i64 13] w (Later R w) := by
 have hx := ref_boxB w v
 have c1 := (Blk.new w 58 #[v]).cell 0
 have HX := Lib.hid hx
 have HHC := Lib.hid (HC _ hx)
 have HHR := Lib.hid hR
 clear hx HC hR
 go_enter Tryz.func34, Tryz.ntmps34
 go_wp2_with fail
 ((with_reducible refine (HHC.out).mono ?_); intro e w2 hr2)
 obtain ⟨a, b, rfl⟩ := HHR.out _ _ _ hr2
 have HP : Hid (Later R w (.returned (.tuple #[a, b])) w2) := Lib.hid ⟨_, HX.out, hr2⟩
 clear hr2 c1 HHC HHR
 go_wp2
 go_ret2
 exact HP.out
theorem bound_14 (R : World → Ending → World → Prop) (v : Value) (p : Tx) (w : World) (HC : ∀ W, Below w.heap.size w W → Calls Tryz.prog 85 #[.agg #[v], .string ⟨p.toArray⟩, .int .i64 14] W (R W)) (hR : ∀ W e w', R W e w' → ∃ a b, e = .returned (.tuple #[a, b])) : Calls Tryz.prog 34 #[.agg #[v], .string ⟨p.toArray⟩, .int .i64 14] w (Later R w) := by
 have hx := ref_boxB w v
 have c1 := (Blk.new w 58 #[v]).cell 0
 have HX := Lib.hid hx
 have HHC := Lib.hid (HC _ hx)
 have HHR := Lib.hid hR
 clear hx HC hR
 go_enter Tryz.func34, Tryz.ntmps34
 go_wp2_with fail
 ((with_reducible refine (HHC.out).mono ?_); intro e w2 hr2)
 obtain ⟨a, b, rfl⟩ := HHR.out _ _ _ hr2
 have HP : Hid (Later R w (.returned (.tuple #[a, b])) w2) := Lib.hid ⟨_, HX.out, hr2⟩
 clear hr2 c1 HHC HHR
 go_wp2
 go_ret2
 exact HP.out
theorem bound_15 (R : World → Ending → World → Prop) (v : Value) (p : Tx) (w : World) (HC : ∀ W, Below w.heap.size w W → Calls Tryz.prog 86 #[.agg #[v], .string ⟨p.toArray⟩, .int .i64 15] W (R W)) (hR : ∀ W e w', R W e w' → ∃ a b, e = .returned (.tuple #[a, b])) : Calls Tryz.prog 34 #[.agg #[v], .string ⟨p.toArray⟩, .int .i64 15] w (Later R w) := by
 have hx := ref_boxB w v
 have c1 := (Blk.new w 58 #[v]).cell 0
 have HX := Lib.hid hx
 have HHC := Lib.hid (HC _ hx)
 have HHR := Lib.hid hR
 clear hx HC hR
 go_enter Tryz.func34, Tryz.ntmps34
 go_wp2_with fail
 ((with_reducible refine (HHC.out).mono ?_); intro e w2 hr2)
 obtain ⟨a, b, rfl⟩ := HHR.out _ _ _ hr2
 have HP : Hid (Later R w (.returned (.tuple #[a, b])) w2) := Lib.hid ⟨_, HX.out, hr2⟩
 clear hr2 c1 HHC HHR
 go_wp2
 go_ret2
 exact HP.out
theorem bound_16 (R : World → Ending → World → Prop) (v : Value) (p : Tx) (w : World) (HC : ∀ W, Below w.heap.size w W → Calls Tryz.prog 86 #[.agg #[v], .string ⟨p.toArray⟩, .int .i64 16] W (R W)) (hR : ∀ W e w', R W e w' → ∃ a b, e = .returned (.tuple #[a, b])) : Calls Tryz.prog 34 #[.agg #[v], .string ⟨p.toArray⟩, .int .i64 16] w (Later R w) := by
 have hx := ref_boxB w v
 have c1 := (Blk.new w 58 #[v]).cell 0
 have HX := Lib.hid hx
 have HHC := Lib.hid (HC _ hx)
 have HHR := Lib.hid hR
 clear hx HC hR
 go_enter Tryz.func34, Tryz.ntmps34
 go_wp2_with fail
 ((with_reducible refine (HHC.out).mono ?_); intro e w2 hr2)
 obtain ⟨a, b, rfl⟩ := HHR.out _ _ _ hr2
 have HP : Hid (Later R w (.returned (.tuple #[a, b])) w2) := Lib.hid ⟨_, HX.out, hr2⟩
 clear hr2 c1 HHC HHR
 go_wp2
 go_ret2
 exact HP.out
theorem bound_17 (R : World → Ending → World → Prop) (v : Value) (p : Tx) (w : World) (HC : ∀ W, Below w.heap.size w W → Calls Tryz.prog 86 #[.agg #[v], .string ⟨p.toArray⟩, .int .i64 17] W (R W)) (hR : ∀ W e w', R W e w' → ∃ a b, e = .returned (.tuple #[a, b])) : Calls Tryz.prog 34 #[.agg #[v], .string ⟨p.toArray⟩, .int .i64 17] w (Later R w) := by
 have hx := ref_boxB w v
 have c1 := (Blk.new w 58 #[v]).cell 0
 have HX := Lib.hid hx
 have HHC := Lib.hid (HC _ hx)
 have HHR := Lib.hid hR
 clear hx HC hR
 go_enter Tryz.func34, Tryz.ntmps34
 go_wp2_with fail
 ((with_reducible refine (HHC.out).mono ?_); intro e w2 hr2)
 obtain ⟨a, b, rfl⟩ := HHR.out _ _ _ hr2
 have HP : Hid (Later R w (.returned (.tuple #[a, b])) w2) := Lib.hid ⟨_, HX.out, hr2⟩
 clear hr2 c1 HHC HHR
 go_wp2
 go_ret2
 exact HP.out
theorem bound_18 (R : World → Ending → World → Prop) (v : Value) (p : Tx) (w : World) (HC : ∀ W, Below w.heap.size w W → Calls Tryz.prog 87 #[.agg #[v], .string ⟨p.toArray⟩, .int .i64 18] W (R W)) (hR : ∀ W e w', R W e w' → ∃ a b, e = .returned (.tuple #[a, b])) : Calls Tryz.prog 34 #[.agg #[v], .string ⟨p.toArray⟩, .int .i64 18] w (Later R w) := by
 have hx := ref_boxB w v
 have c1 := (Blk.new w 58 #[v]).cell 0
 have HX := Lib.hid hx
 have HHC := Lib.hid (HC _ hx)
 have HHR := Lib.hid hR
 clear hx HC hR
 go_enter Tryz.func34, Tryz.ntmps34
 go_wp2_with fail
 ((with_reducible refine (HHC.out).mono ?_); intro e w2 hr2)
 obtain ⟨a, b, rfl⟩ := HHR.out _ _ _ hr2
 have HP : Hid (Later R w (.returned (.tuple #[a, b])) w2) := Lib.hid ⟨_, HX.out, hr2⟩
 clear hr2 c1 HHC HHR
 go_wp2
 go_ret2
 exact HP.out
theorem bound_19 (R : World → Ending → World → Prop) (v : Value) (p : Tx) (w : World) (HC : ∀ W, Below w.heap.size w W → Calls Tryz.prog 87 #[.agg #[v], .string ⟨p.toArray⟩, .int .i64 19] W (R W)) (hR : ∀ W e w', R W e w' → ∃ a b, e = .returned (.tuple #[a, b])) : Calls Tryz.prog 34 #[.agg #[v], .string ⟨p.toArray⟩, .int .i64 19] w (Later R w) := by
 have hx := ref_boxB w v
 have c1 := (Blk.new w 58 #[v]).cell 0
 have HX := Lib.hid hx
 have HHC := Lib.hid (HC _ hx)
 have HHR := Lib.hid hR
 clear hx HC hR
 go_enter Tryz.func34, Tryz.ntmps34
 go_wp2_with fail
 ((with_reducible refine (HHC.out).mono ?_); intro e w2 hr2)
 obtain ⟨a, b, rfl⟩ := HHR.out _ _ _ hr2
 have HP : Hid (Later R w (.returned (.tuple #[a, b])) w2) := Lib.hid ⟨_, HX.out, hr2⟩
 clear hr2 c1 HHC HHR
 go_wp2
 go_ret2
 exact HP.out
def BindP (R : Tr → World → Ending → World → Prop) (t : Tr) (l : Tx) (w : World) (e : Ending) (w' : World) : Prop :=
 match parseS (wrong l) l with
  | .error x => e = .returned (.tuple #[.nilIface, Go.Proofs.YtbajkglacfheiaaGreatDoor.errV x.1 x.2]) ∧ Below w.heap.size w w'
  | .ok ts => match leadT t ts 0 with
   | .inl n => e = .returned (.tuple #[.nilIface, trlV 4 (printS (ts.take n))]) ∧ Below w.heap.size w w'
   | .inr u => Later (R u) w e w'
theorem bindP_err {R : Tr → World → Ending → World → Prop} {t : Tr} {l : Tx} {w w' : World} {x : Int × Int} (h : parseS (wrong l) l = .error x) (hb : Below w.heap.size w w') : BindP R t l w (.returned (.tuple #[.nilIface, Go.Proofs.YtbajkglacfheiaaGreatDoor.errV x.1 x.2])) w' := by
 unfold BindP
 rw [h]
 exact ⟨rfl, hb⟩
theorem bindP_lost {R : Tr → World → Ending → World → Prop} {t : Tr} {l : Tx} {w w' : World} {ts : List Tx} {n : Nat} (h : parseS (wrong l) l = .ok ts) (h2 : leadT t ts 0 = .inl n) (hb : Below w.heap.size w w') : BindP R t l w (.returned (.tuple #[.nilIface, trlV 4 (printS (ts.take n))])) w' := by
 unfold BindP
 rw [h]
 dsimp only
 rw [h2]
 exact ⟨rfl, hb⟩
theorem bindP_some {R : Tr → World → Ending → World → Prop} {t u : Tr} {l : Tx} {w w' : World} {ts : List Tx} {e : Ending} (h : parseS (wrong l) l = .ok ts) (h2 : leadT t ts 0 = .inr u) (hr : Later (R u) w e w') : BindP R t l w e w' := by
 unfold BindP
 rw [h]
 dsimp only
 rw [h2]
 exact hr
theorem bind_any (R : Tr → World → Ending → World → Prop) (k : Nat) (h1 : 1 ≤ k) (h2 : k ≤ 19) (g : Nat) (t : Tr) (v : Value) (l : Tx) (w0 w : World) (hB : Blk w0 g 123 #[v]) (h : RdA w0 t v) (hb0 : Below w0.heap.size w0 w) (ho : t.Ok) (hf : t.fit = true) (hl : l.length ≤ 4194304) (hG : Glob w) (hT : Tab w)
  (HC : ∀ u tx ux W, Below w.heap.size w W → RdA W u (.iface tx ux) → u.Ok → u.fit = true → Calls Tryz.prog 34 #[.agg #[.iface tx ux], .string ⟨l.toArray⟩, .int .i64 (k : Int)] W (R u W)) (hR : ∀ u W e w', R u W e w' → ∃ a b, e = .returned (.tuple #[a, b])) :
  Calls Tryz.prog 9 #[.pointer (some ⟨g, 0, none⟩), .string ⟨l.toArray⟩, .int .i64 (k : Int)] w (BindP R t l w) := by
 have q1 := err_ne_nil
 have q2 := err_ne_held
 have HB := Lib.hid hB
 have HRD := Lib.hid h
 have HB0 := Lib.hid hb0
 have HO := Lib.hid (And.intro ho hf)
 have HL := Lib.hid hl
 have HG := Lib.hid (And.intro hG hT)
 have HK := Lib.hid (And.intro h1 h2)
 have HHC := Lib.hid HC
 have HHR := Lib.hid hR
 clear hB h hb0 ho hf hl hG hT h1 h2 HC hR
 go_enter Tryz.func9, Tryz.ntmps9
 go_wp2_with fail
 ((with_reducible refine (is_yes k HK.out.1 HK.out.2 _).mono ?_); rintro e w1 ⟨rfl, rfl⟩)
 go_wp2_with fail
 ((with_reducible refine (pfind_any g t v l w0 _ HB.out HRD.out HB0.out HO.out.1 HO.out.2 HL.out HG.out.1 HG.out.2).mono ?_); rintro e w1 ⟨he, hb1⟩)
 have HB1 := Lib.hid hb1
 cases hp : parseS (wrong l) l with
 | error x =>
  rw [hp] at he
  obtain rfl := he
  have hbp : BindP R t l w (.returned (.tuple #[.nilIface, Go.Proofs.YtbajkglacfheiaaGreatDoor.errV x.1 x.2])) (w1.alloc (.cells #[.nilIface] 58)) := bindP_err hp (HB1.out.alloc HB1.out.size _)
  clear hp hb1 HHC HHR
  obtain ⟨T, u, hTu⟩ := errV_form x.1 x.2
  rw [hTu] at hbp ⊢
  have HP := Lib.hid hbp
  clear hTu hbp
  go_wp2
  go_ret2
  exact HP.out
 | ok ts =>
  rw [hp] at he
  dsimp only at he
  cases hle : leadT t ts 0 with
  | inl n =>
   rw [hle] at he
   obtain rfl := he
   have HP : Hid (BindP R t l w (.returned (.tuple #[.nilIface, trlV 4 (printS (ts.take n))])) (w1.alloc (.cells #[.nilIface] 58))) := Lib.hid (bindP_lost hp hle (HB1.out.alloc HB1.out.size _))
   clear hp hle hb1 HHC HHR
   go_wp2
   go_ret2
   exact HP.out
  | inr u =>
   rw [hle] at he
   obtain ⟨tx, ux, rfl, hrd, huo⟩ := he
   have HPL := Lib.hid (And.intro hp hle)
   have hb2 : Below w.heap.size w (w1.alloc (.cells #[.iface tx ux] 58)) := hb1.alloc hb1.size _
   have HB2 := Lib.hid hb2
   have c1 := (Blk.new w1 58 #[.iface tx ux]).cell 0
   have HCC := Lib.hid (HHC.out u tx ux _ hb2 (rda_below hrd (HB0.out.trans (hb2.mono HB0.out.size))) huo.1 huo.2)
   have HRR := Lib.hid (HHR.out u)
   clear hp hle hb1 hb2 hrd huo HHC HHR
   go_wp2_with fail
   ((with_reducible refine (HCC.out).mono ?_); intro e w2 hr2)
   obtain ⟨a, b, rfl⟩ := HRR.out _ _ _ hr2
   have HP : Hid (BindP R t l w (.returned (.tuple #[a, b])) w2) := Lib.hid (bindP_some HPL.out.1 HPL.out.2 ⟨_, HB2.out, hr2⟩)
   clear hr2 c1 HCC HRR
   go_wp2
   go_ret2
   exact HP.out
theorem bind_nil (l : Tx) (k : Int) (w : World) : Calls Tryz.prog 9 #[.pointer none, .string ⟨l.toArray⟩, .int .i64 k] w fun e w' => e = .returned (.tuple #[.nilIface, errN 1]) ∧ w = w' := by
 go_enter Tryz.func9, Tryz.ntmps9
 go_wp2
 go_ret2
 exact ⟨rfl, rfl⟩
end Nd
end Go.Proofs.YtbajkglacfheiaaGreatDoor
namespace Go.Proofs.YtbajkglacfheiaaGreatDoor
open Go.RowKit Mem Utf Ref3 Idx Tok TokC
namespace Nd
theorem later_join {R : World → Ending → World → Prop} {w : World} {e : Ending} {w' : World} (h : Later (Later R) w e w') : Later R w e w' := by
 obtain ⟨W, hb, W2, hb2, hr⟩ := h
 exact ⟨W2, hb.trans (hb2.mono hb.size), hr⟩
theorem bindP_join {R : Tr → World → Ending → World → Prop} {t : Tr} {l : Tx} {w : World} {e : Ending} {w' : World} (h : BindP (fun u => Later (R u)) t l w e w') : BindP R t l w e w' := by
 unfold BindP at h ⊢
 split at h
 ·exact h
 ·split at h
  ·exact h
  ·exact later_join h
def WholeR (k : Nat) (p : Tx) (u : Tr) (W : World) (e : Ending) (w' : World) : Prop :=
 if u.isNb = true then BwP k p (intD k u.nb) W e w' else e = .returned (.tuple #[.nilIface, trlV 5 p]) ∧ Below W.heap.size W w'
noncomputable def runesOf (s : Tx) : List Nat := if h : rightB s = true then Classical.choose (right_runes h) else []
theorem runesOf_right {s : Tx} (h : rightB s = true) : (∀ r ∈ runesOf s, okR r) ∧ s = (runesOf s).flatMap encB := by
 have e : runesOf s = Classical.choose (right_runes h) := dif_pos h
 rw [e]
 exact Classical.choose_spec (right_runes h)
def TextR (k : Nat) (p : Tx) (u : Tr) (W : World) (e : Ending) (w' : World) : Prop :=
 if u.isTx = true then TxtP k u.tx (runesOf u.tx) W e w' else e = .returned (.tuple #[.nilIface, trlV 5 p]) ∧ Below W.heap.size W w'
theorem wholeR_two {k : Nat} {p : Tx} {u : Tr} {W : World} {e : Ending} {w' : World} (h : WholeR k p u W e w') : ∃ a b, e = .returned (.tuple #[a, b]) := by
 unfold WholeR at h
 split at h
 ·unfold BwP at h
  obtain ⟨h, _⟩ := h
  split at h
  ·exact ⟨_, _, h⟩
  ·exact ⟨_, _, h⟩
 ·exact ⟨_, _, h.1⟩
theorem textR_two {k : Nat} {p : Tx} {u : Tr} {W : World} {e : Ending} {w' : World} (h : TextR k p u W e w') : ∃ a b, e = .returned (.tuple #[a, b]) := by
 unfold TextR at h
 split at h
 ·obtain ⟨h, _⟩ := h
  split at h
  ·exact ⟨_, _, h⟩
  ·split at h
   ·obtain ⟨g, cap, h, _⟩ := h
    exact ⟨_, _, h⟩
   ·obtain ⟨v, h, _⟩ := h
    exact ⟨_, _, h⟩
 ·exact ⟨_, _, h.1⟩
theorem bwholeR (k : Nat) (h3 : 3 ≤ k) (h10 : k ≤ 10) (u : Tr) (v : Value) (p : Tx) (w : World) (h : RdA w u v) (ho : u.Ok) : Calls Tryz.prog 88 #[.agg #[v], .string ⟨p.toArray⟩, .int .i64 (k : Int)] w (WholeR k p u w) := by
 by_cases hn : u.isNb = true
 ·cases u <;> simp [Tr.isNb] at hn
  rename_i x
  refine (bwhole_k k h3 h10 x v p w h ho.2.2 ho.1).mono fun e w' hp => ?_
  unfold WholeR
  rw [if_pos (show (Tr.num x).isNb = true from rfl)]
  exact hp
 ·refine (bwhole_no k u (by simpa using hn) v p w h).mono fun e w' hp => ?_
  unfold WholeR
  rw [if_neg hn]
  exact hp
theorem btextR (k : Nat) (h15 : 15 ≤ k) (h17 : k ≤ 17) (u : Tr) (v : Value) (p : Tx) (w : World) (h : RdA w u v) (ho : u.Ok) (hf : u.fit = true) : Calls Tryz.prog 86 #[.agg #[v], .string ⟨p.toArray⟩, .int .i64 (k : Int)] w (TextR k p u w) := by
 by_cases hn : u.isTx = true
 ·cases u <;> simp [Tr.isTx] at hn
  rename_i s
  have hr : rightB s = true := ho
  have hlen : s.length ≤ 2097152 := (fit_le hf).2.1
  obtain ⟨h1, h2⟩ := runesOf_right hr
  have fin : ∀ e w', TxtP k s (runesOf s) w e w' → TextR k p (.text s) w e w' := fun e w' hp => by
   unfold TextR
   rw [if_pos (show (Tr.text s).isTx = true from rfl)]
   exact hp
  rcases (by omega : k = 15 ∨ k = 16 ∨ k = 17) with rfl | rfl | rfl
  ·exact (txt_15 s _ v p w h).mono fin
  ·exact (txt_16 s _ h1 h2 hlen v p w h).mono fin
  ·exact (txt_17 s _ h1 h2 hr hlen v p w h).mono fin
 ·refine (txt_no k u (by simpa using hn) v p w h).mono fun e w' hp => ?_
  unfold TextR
  rw [if_neg hn]
  exact hp
theorem bound_wholeR (k : Nat) (h3 : 3 ≤ k) (h10 : k ≤ 10) (u : Tr) (v : Value) (p : Tx) (w : World) (h : RdA w u v) (ho : u.Ok) : Calls Tryz.prog 34 #[.agg #[v], .string ⟨p.toArray⟩, .int .i64 (k : Int)] w (Later (WholeR k p u) w) := by
 have hc := fun W (hb : Below w.heap.size w W) => bwholeR k h3 h10 u v p W (rda_below h hb) ho
 rcases (by omega : k = 3 ∨ k = 4 ∨ k = 5 ∨ k = 6 ∨ k = 7 ∨ k = 8 ∨ k = 9 ∨ k = 10) with rfl | rfl | rfl | rfl | rfl | rfl | rfl | rfl
 ·exact bound_3 _ v p w hc fun _ _ _ => wholeR_two
 ·exact bound_4 _ v p w hc fun _ _ _ => wholeR_two
 ·exact bound_5 _ v p w hc fun _ _ _ => wholeR_two
 ·exact bound_6 _ v p w hc fun _ _ _ => wholeR_two
 ·exact bound_7 _ v p w hc fun _ _ _ => wholeR_two
 ·exact bound_8 _ v p w hc fun _ _ _ => wholeR_two
 ·exact bound_9 _ v p w hc fun _ _ _ => wholeR_two
 ·exact bound_10 _ v p w hc fun _ _ _ => wholeR_two
theorem bound_textR (k : Nat) (h15 : 15 ≤ k) (h17 : k ≤ 17) (u : Tr) (v : Value) (p : Tx) (w : World) (h : RdA w u v) (ho : u.Ok) (hf : u.fit = true) : Calls Tryz.prog 34 #[.agg #[v], .string ⟨p.toArray⟩, .int .i64 (k : Int)] w (Later (TextR k p u) w) := by
 have hc := fun W (hb : Below w.heap.size w W) => btextR k h15 h17 u v p W (rda_below h hb) ho hf
 rcases (by omega : k = 15 ∨ k = 16 ∨ k = 17) with rfl | rfl | rfl
 ·exact bound_15 _ v p w hc fun _ _ _ => textR_two
 ·exact bound_16 _ v p w hc fun _ _ _ => textR_two
 ·exact bound_17 _ v p w hc fun _ _ _ => textR_two
theorem bind_whole (k : Nat) (h3 : 3 ≤ k) (h10 : k ≤ 10) (g : Nat) (t : Tr) (v : Value) (l : Tx) (w0 w : World) (hB : Blk w0 g 123 #[v]) (h : RdA w0 t v) (hb0 : Below w0.heap.size w0 w) (ho : t.Ok) (hf : t.fit = true) (hl : l.length ≤ 4194304) (hG : Glob w) (hT : Tab w) :
  Calls Tryz.prog 9 #[.pointer (some ⟨g, 0, none⟩), .string ⟨l.toArray⟩, .int .i64 (k : Int)] w (BindP (WholeR k l) t l w) :=
 (bind_any (fun u => Later (WholeR k l u)) k (by omega) (by omega) g t v l w0 w hB h hb0 ho hf hl hG hT (fun u tx ux W hb hr ho _ => bound_wholeR k h3 h10 u _ l W hr ho) (fun u W e w' ⟨_, _, hr⟩ => wholeR_two hr)).mono fun e w' hp => bindP_join hp
/-! ### the law's fault -/
theorem f16_tr_no (v : Value) (w : World) : (Instr.typeAssert (.iface 139 v) 25 113 true).run Tryz.prog w = .ok (.tuple #[.int .i64 0, .bool false]) w := by kernel_rfl
theorem f16_tr_spot (v : Value) (w : World) : (Instr.typeAssert (.iface 139 v) 25 122 true).run Tryz.prog w = .ok (.tuple #[.agg #[.int .i64 0, .int .i64 0], .bool false]) w := by kernel_rfl
theorem f16_tr_tr (v : Value) (w : World) : (Instr.typeAssert (.iface 139 v) 25 139 true).run Tryz.prog w = .ok (.tuple #[v, .bool true]) w := by kernel_rfl
theorem bind_wholeI (K : Int) (k : Nat) (hK : K = (k : Int)) (h3 : 3 ≤ k) (h10 : k ≤ 10) (g : Nat) (t : Tr) (v : Value) (l : Tx) (w0 w : World) (hB : Blk w0 g 123 #[v]) (h : RdA w0 t v) (hb0 : Below w0.heap.size w0 w) (ho : t.Ok) (hf : t.fit = true) (hl : l.length ≤ 4194304) (hG : Glob w) (hT : Tab w) :
  Calls Tryz.prog 9 #[.pointer (some ⟨g, 0, none⟩), .string ⟨l.toArray⟩, .int .i64 K] w (BindP (WholeR k l) t l w) := by
 subst hK
 exact bind_whole k h3 h10 g t v l w0 w hB h hb0 ho hf hl hG hT
theorem fault16_trail (n a : Int) (p : Tx) (w : World) :
  Calls Tryz.prog 19 #[trlV n p, .agg #[.int .i64 n, .int .i64 a, .bool true, .string ⟨p.toArray⟩]] w fun e w' => e = .returned (.bool true) ∧ Below w.heap.size w w' := by
 unfold trlV
 have t1 := f16_tr_no
 have t2 := f16_tr_spot
 have t3 := f16_tr_tr
 have e1 : (n == n) = true := by simp
 have e2 : (p == p) = true := by simp
 go_enter Tryz.func19, Tryz.ntmps19
 go_wp2
 go_ret
 exact ⟨rfl, ((Below.refl _ _).alloc (Nat.le_refl _) _).alloc (by simp) _⟩
/-! ### wakes -/
def wk16 : List Stp := [⟨3, false, 4643985272004935680, [], 0, []⟩]
theorem wk16_build : buildT wk16 = .inr (.num 4643985272004935680) := by rfl
theorem wk16_fine : ∀ s ∈ wk16, s.Fine := by
 intro s hs
 simp [wk16] at hs
 subst hs
 exact ⟨by decide, by decide, by simp, by decide, by decide⟩
abbrev wk16Cells : Array Value := #[.int .i64 3, .bool false, .int .u64 4643985272004935680, .string ⟨([] : Tx).toArray⟩, .int .i64 0, .slice none 0 0]
theorem wk16_rd (w : World) (t : TypeId) : RdS (w.alloc (.cells wk16Cells t)) (.slice (some ⟨w.heap.size, 0, none⟩) 1 1) wk16 := by
 have hB := Blk.new w t wk16Cells
 refine ⟨_, _, rfl, .inr ⟨w.heap.size, 0, rfl, fun j s hs => ?_⟩⟩
 have hk : RdK (w.alloc (.cells wk16Cells t)) (.slice none 0 0) [] := ⟨none, 0, rfl, .inl rfl⟩
 match j, hs with
 | 0, hs =>
  injection hs with hs
  subst hs
  exact ⟨none, 0, hB.cell 0, hB.cell 1, hB.cell 2, hB.cell 3, hB.cell 4, hB.cell 5, hk, Nat.le_refl _⟩
 | j + 1, hs => cases hs
theorem val300 : finB 4643985272004935680 = true ∧ wholeD 4643985272004935680 = some 300 := by
 have e : bitsZ 300 = 4643985272004935680 := by decide
 have h := bitsZ_val (z := 300) (by decide)
 rw [e] at h
 exact ⟨h.1, whole_of h.2⟩
theorem int300_4 : intD 4 4643985272004935680 = .inr 300 := intD_y val300.2 (by decide) (by decide)
theorem int300_7 : intD 7 4643985272004935680 = .inl 161 := intD_f val300.2 (by decide)
theorem parse_nil : parseS (wrong []) [] = .ok [] := parse_of_print (w := wrong []) (ts := []) (by decide) (by decide)
theorem bindP_nil {R : Tr → World → Ending → World → Prop} {t : Tr} {w : World} {e : Ending} {w' : World} (h : BindP R t [] w e w') : Later (R t) w e w' := by
 unfold BindP at h
 rw [parse_nil] at h
 exact h
theorem ta_i16 (v : Value) (W : World) : (Instr.typeAssert (.iface 127 v) 29 127 true).run Tryz.prog W = .ok (.tuple #[v, .bool true]) W := by kernel_rfl
theorem wakes16_any (w : World) (hG : Glob w) (hT : Tab w) : Calls Tryz.prog 10 #[] w fun e w' => e = .returned (.bool true) ∧ Below w.heap.size w w' := by
 have q1 := err_ne_nil
 have q3 := err_eq_nil
 have hfb := f64bits 4643985272004935680
 have t1 := ta_i16
 have HG := Lib.hid hG
 have HT := Lib.hid hT
 clear hG hT
 go_enter Tryz.func10, Tryz.ntmps10
 go_wp2_with fail
 ((with_reducible refine (build_any _ wk16 _ (wk16_rd w _) wk16_fine (by decide)).mono ?_); intro e w1 hP)
 obtain ⟨hb1, hP⟩ := hP
 simp only [wk16_build] at hP
 obtain ⟨g, rfl, _, hfit, v, hBt, hrd⟩ := hP
 have hbw : Below w.heap.size w w1 := ((Below.refl _ _).alloc (Nat.le_refl _) _).trans (hb1.mono (by simp))
 have HB1 := Lib.hid hbw
 have hok : (Tr.num 4643985272004935680).Ok := (buildT_ok wk16_fine wk16_build).1
 have hra : RdA w1 (.num 4643985272004935680) v := RdT.move (fun j hj hs => ⟨trivial, rfl⟩) _ _ hrd
 have HBT := Lib.hid (And.intro hBt (And.intro hra (And.intro hok hfit)))
 clear hb1 hBt hrd hfit hra hok hbw
 go_wp2_with fail
 ((with_reducible refine (bind_wholeI 4 4 rfl (by omega) (by omega) g _ v [] w1 _ HBT.out.1 HBT.out.2.1 (Below.refl _ _) HBT.out.2.2.1 HBT.out.2.2.2 (by decide) (HG.out.next HB1.out) (HT.out.next HB1.out)).mono ?_); intro e w2 hp)
 obtain ⟨W2, hbW, hp⟩ := bindP_nil hp
 unfold WholeR at hp
 rw [if_pos (show (Tr.num 4643985272004935680).isNb = true from rfl)] at hp
 unfold BwP at hp
 dsimp only [Tr.nb] at hp
 rw [int300_4] at hp
 obtain ⟨rfl, hb2⟩ := hp
 have HB2 := Lib.hid (HB1.out.trans ((hbW.trans (hb2.mono hbW.size)).mono HB1.out.size))
 have HBX := Lib.hid (hbW.trans (hb2.mono hbW.size))
 clear hbW hb2
 unfold intV
 simp only [Nat.reduceEqDiff, if_true, if_false]
 go_wp2_with fail
 ((with_reducible refine (bind_wholeI 7 7 rfl (by omega) (by omega) g _ v [] w1 _ HBT.out.1 HBT.out.2.1 HBX.out HBT.out.2.2.1 HBT.out.2.2.2 (by decide) (HG.out.next HB2.out) (HT.out.next HB2.out)).mono ?_); intro e w3 hp)
 obtain ⟨W3, hbW, hp⟩ := bindP_nil hp
 unfold WholeR at hp
 rw [if_pos (show (Tr.num 4643985272004935680).isNb = true from rfl)] at hp
 unfold BwP at hp
 dsimp only [Tr.nb] at hp
 rw [int300_7] at hp
 obtain ⟨rfl, hb2⟩ := hp
 have HB3 := Lib.hid (HB2.out.trans ((hbW.trans (hb2.mono hbW.size)).mono HB2.out.size))
 clear hbW hb2
 have HF := Lib.hid (fault16_trail 161 0 [])
 unfold trlV at HF ⊢
 go_wp2_with fail
 ((with_reducible refine (HF.out _).mono ?_); rintro e w4 ⟨rfl, hb4⟩)
 have HB4 := Lib.hid (HB3.out.trans (hb4.mono HB3.out.size))
 clear hb4
 go_wp2
 go_ret
 exact ⟨rfl, HB4.out⟩
end Nd
end Go.Proofs.YtbajkglacfheiaaGreatDoor
namespace Go.Proofs.YtbajkglacfheiaaGreatDoor
open Go.RowKit Mem Utf Ref3 Idx Tok TokC
namespace Nd
theorem nb_fin {u : Tr} (ho : u.Ok) : finB u.nb = true ∧ u.nb < 18446744073709551616 := by
 cases u with
 | num x => exact ⟨ho.1, ho.2.2⟩
 | _ => exact ⟨(by decide : finB 0 = true), (by decide : 0 < 18446744073709551616)⟩
end Nd
end Go.Proofs.YtbajkglacfheiaaGreatDoor
namespace Go.Proofs.YtbajkglacfheiaaGreatDoor
open Go.RowKit Mem Utf Ref3 Idx Tok TokC
namespace Nd
def atP (p : Tx) (i : Nat) : Tx := p ++ 47 :: Lib.itoa (i : Int)
theorem at_bytes (p d : Tx) : (⟨p.toArray⟩ : ByteArray) ++ ⟨#[47]⟩ ++ ⟨d.toArray⟩ = ⟨(p ++ 47 :: d).toArray⟩ := by
 apply ByteArray.ext
 rw [ByteArray.data_append, ByteArray.data_append]
 simp
theorem bat_any (p : Tx) (hp : p.length ≤ 8388608) (i : Nat) (hi : i ≤ 1099511627776) (w : World) (hT : Tab w) : Calls Tryz.prog 60 #[.string ⟨p.toArray⟩, .int .i64 (i : Int)] w fun e w' => e = .returned (.string ⟨(atP p i).toArray⟩) ∧ Below w.heap.size w w' := by
 unfold atP
 obtain ⟨dg, hdg⟩ : ∃ dg, Lib.itoa (i : Int) = dg := ⟨_, rfl⟩
 have hdl : dg.length ≤ 21 := by rw [← hdg]; exact Lib.itoa_length_le (i : Int) (by omega) (by omega)
 have HIT : Hid (Calls Tryz.prog 112 #[.int .i64 (i : Int)] w fun e w' => e = .returned (.string ⟨dg.toArray⟩) ∧ Below w.heap.size w w') := Lib.hid (by
  have := itoa_any (i : Int) (by omega) (by omega) w hT
  rw [hdg] at this
  exact this)
 rw [hdg]
 clear hT hi hdg
 go_enter Tryz.func60, Tryz.ntmps60
 go_wp2_with fail
 ((with_reducible refine (HIT.out).mono ?_); rintro e w2 ⟨rfl, hb2⟩)
 have HB := Lib.hid hb2
 clear hb2
 go_wp2
 go_ret
 exact ⟨by rw [at_bytes]; rfl, HB.out⟩
def BnP (p : Tx) (t : Tr) (w : World) (e : Ending) (w' : World) : Prop := e = .returned (if t.isNb = true then .tuple #[.float .f64 t.nb, .nilIface] else .tuple #[.float .f64 0, trlV 5 p]) ∧ Below w.heap.size w w'
theorem bnumber_any (t : Tr) (v : Value) (p : Tx) (w : World) (h : RdA w t v) : Calls Tryz.prog 82 #[.agg #[v], .string ⟨p.toArray⟩] w (BnP p t w) := by
 unfold BnP
 cases ht : t.isNb with
 | false =>
  rw [if_neg (by simp)]
  exact bnumber_no t ht v p w h
 | true =>
  rw [if_pos rfl]
  cases t with
  | num x => exact bnumber_ok x v p w h
  | null => cases ht
  | flag b => cases ht
  | text s => cases ht
  | list l => cases ht
  | obj ks l => cases ht
end Nd
end Go.Proofs.YtbajkglacfheiaaGreatDoor
namespace Go.Proofs.YtbajkglacfheiaaGreatDoor
open Go.RowKit Mem
namespace Nd
end Nd
end Go.Proofs.YtbajkglacfheiaaGreatDoor
namespace Go.Proofs.YtbajkglacfheiaaGreatDoor
open Go.RowKit Mem
namespace Nd
end Nd
end Go.Proofs.YtbajkglacfheiaaGreatDoor
namespace Go.Proofs.YtbajkglacfheiaaGreatDoor
open Go.RowKit Mem
namespace Nd

theorem kids_len {t : Tr} (hn : t.nodes ≤ 65536) : t.kids.length ≤ 65536 := by
 have h1 := nodes_len t.kids
 have h2 : nodesL t.kids ≤ t.nodes := by cases t <;> simp [Tr.kids, Tr.nodes, nodesL]
 omega
end Nd
end Go.Proofs.YtbajkglacfheiaaGreatDoor
