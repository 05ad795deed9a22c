/-
  Walks of package bind: bound where another function binds; Bind over pointer.Find.
-/
import Derived.Test.YtbajkglacfheiaaGreatDoorBvD
import Derived.Test.YtbajkglacfheiaaGreatDoorMD
namespace Go.Proofs.YtbajkglacfheiaaGreatDoor
open Go.RowKit Mem Utf Ref3 Idx Tok TokC
set_option linter.unusedVariables false
set_option linter.unusedSimpArgs false
namespace Nd
/-- what comes of a contract that holds in a later world -/
def Later (R : World → Ending → World → Prop) (w : World) (e : Ending) (w' : World) : Prop := ∃ W, Below w.heap.size w W ∧ R W e w'
set_option maxRecDepth 100000 in
set_option maxHeartbeats 8000000 in
theorem bound_3 (R : World → Ending → World → Prop) (v : Value) (p : Tx) (w : World) (HC : ∀ W, Below w.heap.size w W → Calls Tryz.prog 88 #[.agg #[v], .string ⟨p.toArray⟩, .int .i64 3] W (R W)) (hR : ∀ W e w', R W e w' → ∃ a b, e = .returned (.tuple #[a, b])) : Calls Tryz.prog 34 #[.agg #[v], .string ⟨p.toArray⟩, .int .i64 3] w (Later R w) := by
  have hx := ref_boxB w v
  have c1 := (Blk.new w 58 #[v]).cell 0
  have HX := Lib.hid hx
  have HHC := Lib.hid (HC _ hx)
  have HHR := Lib.hid hR
  clear hx HC hR
  go_enter Tryz.func34, Tryz.ntmps34
  go_wp2_with fail
  ((with_reducible refine (HHC.out).mono ?_); intro e w2 hr2)
  obtain ⟨a, b, rfl⟩ := HHR.out _ _ _ hr2
  have HP : Hid (Later R w (.returned (.tuple #[a, b])) w2) := Lib.hid ⟨_, HX.out, hr2⟩
  clear hr2 c1 HHC HHR
  go_wp2
  go_ret2
  exact HP.out
set_option maxRecDepth 100000 in
set_option maxHeartbeats 8000000 in
theorem bound_4 (R : World → Ending → World → Prop) (v : Value) (p : Tx) (w : World) (HC : ∀ W, Below w.heap.size w W → Calls Tryz.prog 88 #[.agg #[v], .string ⟨p.toArray⟩, .int .i64 4] W (R W)) (hR : ∀ W e w', R W e w' → ∃ a b, e = .returned (.tuple #[a, b])) : Calls Tryz.prog 34 #[.agg #[v], .string ⟨p.toArray⟩, .int .i64 4] w (Later R w) := by
  have hx := ref_boxB w v
  have c1 := (Blk.new w 58 #[v]).cell 0
  have HX := Lib.hid hx
  have HHC := Lib.hid (HC _ hx)
  have HHR := Lib.hid hR
  clear hx HC hR
  go_enter Tryz.func34, Tryz.ntmps34
  go_wp2_with fail
  ((with_reducible refine (HHC.out).mono ?_); intro e w2 hr2)
  obtain ⟨a, b, rfl⟩ := HHR.out _ _ _ hr2
  have HP : Hid (Later R w (.returned (.tuple #[a, b])) w2) := Lib.hid ⟨_, HX.out, hr2⟩
  clear hr2 c1 HHC HHR
  go_wp2
  go_ret2
  exact HP.out
set_option maxRecDepth 100000 in
set_option maxHeartbeats 8000000 in
theorem bound_5 (R : World → Ending → World → Prop) (v : Value) (p : Tx) (w : World) (HC : ∀ W, Below w.heap.size w W → Calls Tryz.prog 88 #[.agg #[v], .string ⟨p.toArray⟩, .int .i64 5] W (R W)) (hR : ∀ W e w', R W e w' → ∃ a b, e = .returned (.tuple #[a, b])) : Calls Tryz.prog 34 #[.agg #[v], .string ⟨p.toArray⟩, .int .i64 5] w (Later R w) := by
  have hx := ref_boxB w v
  have c1 := (Blk.new w 58 #[v]).cell 0
  have HX := Lib.hid hx
  have HHC := Lib.hid (HC _ hx)
  have HHR := Lib.hid hR
  clear hx HC hR
  go_enter Tryz.func34, Tryz.ntmps34
  go_wp2_with fail
  ((with_reducible refine (HHC.out).mono ?_); intro e w2 hr2)
  obtain ⟨a, b, rfl⟩ := HHR.out _ _ _ hr2
  have HP : Hid (Later R w (.returned (.tuple #[a, b])) w2) := Lib.hid ⟨_, HX.out, hr2⟩
  clear hr2 c1 HHC HHR
  go_wp2
  go_ret2
  exact HP.out
set_option maxRecDepth 100000 in
set_option maxHeartbeats 8000000 in
theorem bound_6 (R : World → Ending → World → Prop) (v : Value) (p : Tx) (w : World) (HC : ∀ W, Below w.heap.size w W → Calls Tryz.prog 88 #[.agg #[v], .string ⟨p.toArray⟩, .int .i64 6] W (R W)) (hR : ∀ W e w', R W e w' → ∃ a b, e = .returned (.tuple #[a, b])) : Calls Tryz.prog 34 #[.agg #[v], .string ⟨p.toArray⟩, .int .i64 6] w (Later R w) := by
  have hx := ref_boxB w v
  have c1 := (Blk.new w 58 #[v]).cell 0
  have HX := Lib.hid hx
  have HHC := Lib.hid (HC _ hx)
  have HHR := Lib.hid hR
  clear hx HC hR
  go_enter Tryz.func34, Tryz.ntmps34
  go_wp2_with fail
  ((with_reducible refine (HHC.out).mono ?_); intro e w2 hr2)
  obtain ⟨a, b, rfl⟩ := HHR.out _ _ _ hr2
  have HP : Hid (Later R w (.returned (.tuple #[a, b])) w2) := Lib.hid ⟨_, HX.out, hr2⟩
  clear hr2 c1 HHC HHR
  go_wp2
  go_ret2
  exact HP.out
set_option maxRecDepth 100000 in
set_option maxHeartbeats 8000000 in
theorem bound_7 (R : World → Ending → World → Prop) (v : Value) (p : Tx) (w : World) (HC : ∀ W, Below w.heap.size w W → Calls Tryz.prog 88 #[.agg #[v], .string ⟨p.toArray⟩, .int .i64 7] W (R W)) (hR : ∀ W e w', R W e w' → ∃ a b, e = .returned (.tuple #[a, b])) : Calls Tryz.prog 34 #[.agg #[v], .string ⟨p.toArray⟩, .int .i64 7] w (Later R w) := by
  have hx := ref_boxB w v
  have c1 := (Blk.new w 58 #[v]).cell 0
  have HX := Lib.hid hx
  have HHC := Lib.hid (HC _ hx)
  have HHR := Lib.hid hR
  clear hx HC hR
  go_enter Tryz.func34, Tryz.ntmps34
  go_wp2_with fail
  ((with_reducible refine (HHC.out).mono ?_); intro e w2 hr2)
  obtain ⟨a, b, rfl⟩ := HHR.out _ _ _ hr2
  have HP : Hid (Later R w (.returned (.tuple #[a, b])) w2) := Lib.hid ⟨_, HX.out, hr2⟩
  clear hr2 c1 HHC HHR
  go_wp2
  go_ret2
  exact HP.out
set_option maxRecDepth 100000 in
set_option maxHeartbeats 8000000 in
theorem bound_8 (R : World → Ending → World → Prop) (v : Value) (p : Tx) (w : World) (HC : ∀ W, Below w.heap.size w W → Calls Tryz.prog 88 #[.agg #[v], .string ⟨p.toArray⟩, .int .i64 8] W (R W)) (hR : ∀ W e w', R W e w' → ∃ a b, e = .returned (.tuple #[a, b])) : Calls Tryz.prog 34 #[.agg #[v], .string ⟨p.toArray⟩, .int .i64 8] w (Later R w) := by
  have hx := ref_boxB w v
  have c1 := (Blk.new w 58 #[v]).cell 0
  have HX := Lib.hid hx
  have HHC := Lib.hid (HC _ hx)
  have HHR := Lib.hid hR
  clear hx HC hR
  go_enter Tryz.func34, Tryz.ntmps34
  go_wp2_with fail
  ((with_reducible refine (HHC.out).mono ?_); intro e w2 hr2)
  obtain ⟨a, b, rfl⟩ := HHR.out _ _ _ hr2
  have HP : Hid (Later R w (.returned (.tuple #[a, b])) w2) := Lib.hid ⟨_, HX.out, hr2⟩
  clear hr2 c1 HHC HHR
  go_wp2
  go_ret2
  exact HP.out
set_option maxRecDepth 100000 in
set_option maxHeartbeats 8000000 in
theorem bound_9 (R : World → Ending → World → Prop) (v : Value) (p : Tx) (w : World) (HC : ∀ W, Below w.heap.size w W → Calls Tryz.prog 88 #[.agg #[v], .string ⟨p.toArray⟩, .int .i64 9] W (R W)) (hR : ∀ W e w', R W e w' → ∃ a b, e = .returned (.tuple #[a, b])) : Calls Tryz.prog 34 #[.agg #[v], .string ⟨p.toArray⟩, .int .i64 9] w (Later R w) := by
  have hx := ref_boxB w v
  have c1 := (Blk.new w 58 #[v]).cell 0
  have HX := Lib.hid hx
  have HHC := Lib.hid (HC _ hx)
  have HHR := Lib.hid hR
  clear hx HC hR
  go_enter Tryz.func34, Tryz.ntmps34
  go_wp2_with fail
  ((with_reducible refine (HHC.out).mono ?_); intro e w2 hr2)
  obtain ⟨a, b, rfl⟩ := HHR.out _ _ _ hr2
  have HP : Hid (Later R w (.returned (.tuple #[a, b])) w2) := Lib.hid ⟨_, HX.out, hr2⟩
  clear hr2 c1 HHC HHR
  go_wp2
  go_ret2
  exact HP.out
set_option maxRecDepth 100000 in
set_option maxHeartbeats 8000000 in
theorem bound_10 (R : World → Ending → World → Prop) (v : Value) (p : Tx) (w : World) (HC : ∀ W, Below w.heap.size w W → Calls Tryz.prog 88 #[.agg #[v], .string ⟨p.toArray⟩, .int .i64 10] W (R W)) (hR : ∀ W e w', R W e w' → ∃ a b, e = .returned (.tuple #[a, b])) : Calls Tryz.prog 34 #[.agg #[v], .string ⟨p.toArray⟩, .int .i64 10] w (Later R w) := by
  have hx := ref_boxB w v
  have c1 := (Blk.new w 58 #[v]).cell 0
  have HX := Lib.hid hx
  have HHC := Lib.hid (HC _ hx)
  have HHR := Lib.hid hR
  clear hx HC hR
  go_enter Tryz.func34, Tryz.ntmps34
  go_wp2_with fail
  ((with_reducible refine (HHC.out).mono ?_); intro e w2 hr2)
  obtain ⟨a, b, rfl⟩ := HHR.out _ _ _ hr2
  have HP : Hid (Later R w (.returned (.tuple #[a, b])) w2) := Lib.hid ⟨_, HX.out, hr2⟩
  clear hr2 c1 HHC HHR
  go_wp2
  go_ret2
  exact HP.out
set_option maxRecDepth 100000 in
set_option maxHeartbeats 8000000 in
theorem bound_13 (R : World → Ending → World → Prop) (v : Value) (p : Tx) (w : World) (HC : ∀ W, Below w.heap.size w W → Calls Tryz.prog 85 #[.agg #[v], .string ⟨p.toArray⟩, .int .i64 13] W (R W)) (hR : ∀ W e w', R W e w' → ∃ a b, e = .returned (.tuple #[a, b])) : Calls Tryz.prog 34 #[.agg #[v], .string ⟨p.toArray⟩, .int .i64 13] w (Later R w) := by
  have hx := ref_boxB w v
  have c1 := (Blk.new w 58 #[v]).cell 0
  have HX := Lib.hid hx
  have HHC := Lib.hid (HC _ hx)
  have HHR := Lib.hid hR
  clear hx HC hR
  go_enter Tryz.func34, Tryz.ntmps34
  go_wp2_with fail
  ((with_reducible refine (HHC.out).mono ?_); intro e w2 hr2)
  obtain ⟨a, b, rfl⟩ := HHR.out _ _ _ hr2
  have HP : Hid (Later R w (.returned (.tuple #[a, b])) w2) := Lib.hid ⟨_, HX.out, hr2⟩
  clear hr2 c1 HHC HHR
  go_wp2
  go_ret2
  exact HP.out
set_option maxRecDepth 100000 in
set_option maxHeartbeats 8000000 in
theorem bound_14 (R : World → Ending → World → Prop) (v : Value) (p : Tx) (w : World) (HC : ∀ W, Below w.heap.size w W → Calls Tryz.prog 85 #[.agg #[v], .string ⟨p.toArray⟩, .int .i64 14] W (R W)) (hR : ∀ W e w', R W e w' → ∃ a b, e = .returned (.tuple #[a, b])) : Calls Tryz.prog 34 #[.agg #[v], .string ⟨p.toArray⟩, .int .i64 14] w (Later R w) := by
  have hx := ref_boxB w v
  have c1 := (Blk.new w 58 #[v]).cell 0
  have HX := Lib.hid hx
  have HHC := Lib.hid (HC _ hx)
  have HHR := Lib.hid hR
  clear hx HC hR
  go_enter Tryz.func34, Tryz.ntmps34
  go_wp2_with fail
  ((with_reducible refine (HHC.out).mono ?_); intro e w2 hr2)
  obtain ⟨a, b, rfl⟩ := HHR.out _ _ _ hr2
  have HP : Hid (Later R w (.returned (.tuple #[a, b])) w2) := Lib.hid ⟨_, HX.out, hr2⟩
  clear hr2 c1 HHC HHR
  go_wp2
  go_ret2
  exact HP.out
set_option maxRecDepth 100000 in
set_option maxHeartbeats 8000000 in
theorem bound_15 (R : World → Ending → World → Prop) (v : Value) (p : Tx) (w : World) (HC : ∀ W, Below w.heap.size w W → Calls Tryz.prog 86 #[.agg #[v], .string ⟨p.toArray⟩, .int .i64 15] W (R W)) (hR : ∀ W e w', R W e w' → ∃ a b, e = .returned (.tuple #[a, b])) : Calls Tryz.prog 34 #[.agg #[v], .string ⟨p.toArray⟩, .int .i64 15] w (Later R w) := by
  have hx := ref_boxB w v
  have c1 := (Blk.new w 58 #[v]).cell 0
  have HX := Lib.hid hx
  have HHC := Lib.hid (HC _ hx)
  have HHR := Lib.hid hR
  clear hx HC hR
  go_enter Tryz.func34, Tryz.ntmps34
  go_wp2_with fail
  ((with_reducible refine (HHC.out).mono ?_); intro e w2 hr2)
  obtain ⟨a, b, rfl⟩ := HHR.out _ _ _ hr2
  have HP : Hid (Later R w (.returned (.tuple #[a, b])) w2) := Lib.hid ⟨_, HX.out, hr2⟩
  clear hr2 c1 HHC HHR
  go_wp2
  go_ret2
  exact HP.out
set_option maxRecDepth 100000 in
set_option maxHeartbeats 8000000 in
theorem bound_16 (R : World → Ending → World → Prop) (v : Value) (p : Tx) (w : World) (HC : ∀ W, Below w.heap.size w W → Calls Tryz.prog 86 #[.agg #[v], .string ⟨p.toArray⟩, .int .i64 16] W (R W)) (hR : ∀ W e w', R W e w' → ∃ a b, e = .returned (.tuple #[a, b])) : Calls Tryz.prog 34 #[.agg #[v], .string ⟨p.toArray⟩, .int .i64 16] w (Later R w) := by
  have hx := ref_boxB w v
  have c1 := (Blk.new w 58 #[v]).cell 0
  have HX := Lib.hid hx
  have HHC := Lib.hid (HC _ hx)
  have HHR := Lib.hid hR
  clear hx HC hR
  go_enter Tryz.func34, Tryz.ntmps34
  go_wp2_with fail
  ((with_reducible refine (HHC.out).mono ?_); intro e w2 hr2)
  obtain ⟨a, b, rfl⟩ := HHR.out _ _ _ hr2
  have HP : Hid (Later R w (.returned (.tuple #[a, b])) w2) := Lib.hid ⟨_, HX.out, hr2⟩
  clear hr2 c1 HHC HHR
  go_wp2
  go_ret2
  exact HP.out
set_option maxRecDepth 100000 in
set_option maxHeartbeats 8000000 in
theorem bound_17 (R : World → Ending → World → Prop) (v : Value) (p : Tx) (w : World) (HC : ∀ W, Below w.heap.size w W → Calls Tryz.prog 86 #[.agg #[v], .string ⟨p.toArray⟩, .int .i64 17] W (R W)) (hR : ∀ W e w', R W e w' → ∃ a b, e = .returned (.tuple #[a, b])) : Calls Tryz.prog 34 #[.agg #[v], .string ⟨p.toArray⟩, .int .i64 17] w (Later R w) := by
  have hx := ref_boxB w v
  have c1 := (Blk.new w 58 #[v]).cell 0
  have HX := Lib.hid hx
  have HHC := Lib.hid (HC _ hx)
  have HHR := Lib.hid hR
  clear hx HC hR
  go_enter Tryz.func34, Tryz.ntmps34
  go_wp2_with fail
  ((with_reducible refine (HHC.out).mono ?_); intro e w2 hr2)
  obtain ⟨a, b, rfl⟩ := HHR.out _ _ _ hr2
  have HP : Hid (Later R w (.returned (.tuple #[a, b])) w2) := Lib.hid ⟨_, HX.out, hr2⟩
  clear hr2 c1 HHC HHR
  go_wp2
  go_ret2
  exact HP.out
set_option maxRecDepth 100000 in
set_option maxHeartbeats 8000000 in
theorem bound_18 (R : World → Ending → World → Prop) (v : Value) (p : Tx) (w : World) (HC : ∀ W, Below w.heap.size w W → Calls Tryz.prog 87 #[.agg #[v], .string ⟨p.toArray⟩, .int .i64 18] W (R W)) (hR : ∀ W e w', R W e w' → ∃ a b, e = .returned (.tuple #[a, b])) : Calls Tryz.prog 34 #[.agg #[v], .string ⟨p.toArray⟩, .int .i64 18] w (Later R w) := by
  have hx := ref_boxB w v
  have c1 := (Blk.new w 58 #[v]).cell 0
  have HX := Lib.hid hx
  have HHC := Lib.hid (HC _ hx)
  have HHR := Lib.hid hR
  clear hx HC hR
  go_enter Tryz.func34, Tryz.ntmps34
  go_wp2_with fail
  ((with_reducible refine (HHC.out).mono ?_); intro e w2 hr2)
  obtain ⟨a, b, rfl⟩ := HHR.out _ _ _ hr2
  have HP : Hid (Later R w (.returned (.tuple #[a, b])) w2) := Lib.hid ⟨_, HX.out, hr2⟩
  clear hr2 c1 HHC HHR
  go_wp2
  go_ret2
  exact HP.out
set_option maxRecDepth 100000 in
set_option maxHeartbeats 8000000 in
theorem bound_19 (R : World → Ending → World → Prop) (v : Value) (p : Tx) (w : World) (HC : ∀ W, Below w.heap.size w W → Calls Tryz.prog 87 #[.agg #[v], .string ⟨p.toArray⟩, .int .i64 19] W (R W)) (hR : ∀ W e w', R W e w' → ∃ a b, e = .returned (.tuple #[a, b])) : Calls Tryz.prog 34 #[.agg #[v], .string ⟨p.toArray⟩, .int .i64 19] w (Later R w) := by
  have hx := ref_boxB w v
  have c1 := (Blk.new w 58 #[v]).cell 0
  have HX := Lib.hid hx
  have HHC := Lib.hid (HC _ hx)
  have HHR := Lib.hid hR
  clear hx HC hR
  go_enter Tryz.func34, Tryz.ntmps34
  go_wp2_with fail
  ((with_reducible refine (HHC.out).mono ?_); intro e w2 hr2)
  obtain ⟨a, b, rfl⟩ := HHR.out _ _ _ hr2
  have HP : Hid (Later R w (.returned (.tuple #[a, b])) w2) := Lib.hid ⟨_, HX.out, hr2⟩
  clear hr2 c1 HHC HHR
  go_wp2
  go_ret2
  exact HP.out
/-- what Bind answers: the pointer's fault, what leads nowhere, or what R says of the value led to -/
def BindP (R : Tr → World → Ending → World → Prop) (t : Tr) (l : Tx) (w : World) (e : Ending) (w' : World) : Prop :=
  match parseS (wrong l) l with
    | .error x => e = .returned (.tuple #[.nilIface, Go.Proofs.YtbajkglacfheiaaGreatDoor.errV x.1 x.2]) ∧ Below w.heap.size w w'
    | .ok ts => match leadT t ts 0 with
      | .inl n => e = .returned (.tuple #[.nilIface, trlV 4 (printS (ts.take n))]) ∧ Below w.heap.size w w'
      | .inr u => Later (R u) w e w'
theorem bindP_err {R : Tr → World → Ending → World → Prop} {t : Tr} {l : Tx} {w w' : World} {x : Int × Int} (h : parseS (wrong l) l = .error x) (hb : Below w.heap.size w w') : BindP R t l w (.returned (.tuple #[.nilIface, Go.Proofs.YtbajkglacfheiaaGreatDoor.errV x.1 x.2])) w' := by
  unfold BindP
  rw [h]
  exact ⟨rfl, hb⟩
theorem bindP_lost {R : Tr → World → Ending → World → Prop} {t : Tr} {l : Tx} {w w' : World} {ts : List Tx} {n : Nat} (h : parseS (wrong l) l = .ok ts) (h2 : leadT t ts 0 = .inl n) (hb : Below w.heap.size w w') : BindP R t l w (.returned (.tuple #[.nilIface, trlV 4 (printS (ts.take n))])) w' := by
  unfold BindP
  rw [h]
  dsimp only
  rw [h2]
  exact ⟨rfl, hb⟩
theorem bindP_some {R : Tr → World → Ending → World → Prop} {t u : Tr} {l : Tx} {w w' : World} {ts : List Tx} {e : Ending} (h : parseS (wrong l) l = .ok ts) (h2 : leadT t ts 0 = .inr u) (hr : Later (R u) w e w') : BindP R t l w e w' := by
  unfold BindP
  rw [h]
  dsimp only
  rw [h2]
  exact hr
set_option maxRecDepth 100000 in
set_option maxHeartbeats 8000000 in
theorem bind_any (R : Tr → World → Ending → World → Prop) (k : Nat) (h1 : 1 ≤ k) (h2 : k ≤ 19) (g : Nat) (t : Tr) (v : Value) (l : Tx) (w0 w : World) (hB : Blk w0 g 123 #[v]) (h : RdA w0 t v) (hb0 : Below w0.heap.size w0 w) (ho : t.Ok) (hf : t.fit = true) (hl : l.length ≤ 4194304) (hG : Glob w) (hT : Tab w)
    (HC : ∀ u tx ux W, Below w.heap.size w W → RdA W u (.iface tx ux) → u.Ok → u.fit = true → Calls Tryz.prog 34 #[.agg #[.iface tx ux], .string ⟨l.toArray⟩, .int .i64 (k : Int)] W (R u W)) (hR : ∀ u W e w', R u W e w' → ∃ a b, e = .returned (.tuple #[a, b])) :
    Calls Tryz.prog 9 #[.pointer (some ⟨g, 0, none⟩), .string ⟨l.toArray⟩, .int .i64 (k : Int)] w (BindP R t l w) := by
  have q1 := err_ne_nil
  have q2 := err_ne_held
  have HB := Lib.hid hB
  have HRD := Lib.hid h
  have HB0 := Lib.hid hb0
  have HO := Lib.hid (And.intro ho hf)
  have HL := Lib.hid hl
  have HG := Lib.hid (And.intro hG hT)
  have HK := Lib.hid (And.intro h1 h2)
  have HHC := Lib.hid HC
  have HHR := Lib.hid hR
  clear hB h hb0 ho hf hl hG hT h1 h2 HC hR
  go_enter Tryz.func9, Tryz.ntmps9
  go_wp2_with fail
  ((with_reducible refine (is_yes k HK.out.1 HK.out.2 _).mono ?_); rintro e w1 ⟨rfl, rfl⟩)
  go_wp2_with fail
  ((with_reducible refine (pfind_any g t v l w0 _ HB.out HRD.out HB0.out HO.out.1 HO.out.2 HL.out HG.out.1 HG.out.2).mono ?_); rintro e w1 ⟨he, hb1⟩)
  have HB1 := Lib.hid hb1
  cases hp : parseS (wrong l) l with
  | error x =>
    rw [hp] at he
    obtain rfl := he
    have hbp : BindP R t l w (.returned (.tuple #[.nilIface, Go.Proofs.YtbajkglacfheiaaGreatDoor.errV x.1 x.2])) (w1.alloc (.cells #[.nilIface] 58)) := bindP_err hp (HB1.out.alloc HB1.out.size _)
    clear hp hb1 HHC HHR
    obtain ⟨T, u, hTu⟩ := errV_form x.1 x.2
    rw [hTu] at hbp ⊢
    have HP := Lib.hid hbp
    clear hTu hbp
    go_wp2
    go_ret2
    exact HP.out
  | ok ts =>
    rw [hp] at he
    dsimp only at he
    cases hle : leadT t ts 0 with
    | inl n =>
      rw [hle] at he
      obtain rfl := he
      have HP : Hid (BindP R t l w (.returned (.tuple #[.nilIface, trlV 4 (printS (ts.take n))])) (w1.alloc (.cells #[.nilIface] 58))) := Lib.hid (bindP_lost hp hle (HB1.out.alloc HB1.out.size _))
      clear hp hle hb1 HHC HHR
      go_wp2
      go_ret2
      exact HP.out
    | inr u =>
      rw [hle] at he
      obtain ⟨tx, ux, rfl, hrd, huo⟩ := he
      have HPL := Lib.hid (And.intro hp hle)
      have hb2 : Below w.heap.size w (w1.alloc (.cells #[.iface tx ux] 58)) := hb1.alloc hb1.size _
      have HB2 := Lib.hid hb2
      have c1 := (Blk.new w1 58 #[.iface tx ux]).cell 0
      have HCC := Lib.hid (HHC.out u tx ux _ hb2 (rda_below hrd (HB0.out.trans (hb2.mono HB0.out.size))) huo.1 huo.2)
      have HRR := Lib.hid (HHR.out u)
      clear hp hle hb1 hb2 hrd huo HHC HHR
      go_wp2_with fail
      ((with_reducible refine (HCC.out).mono ?_); intro e w2 hr2)
      obtain ⟨a, b, rfl⟩ := HRR.out _ _ _ hr2
      have HP : Hid (BindP R t l w (.returned (.tuple #[a, b])) w2) := Lib.hid (bindP_some HPL.out.1 HPL.out.2 ⟨_, HB2.out, hr2⟩)
      clear hr2 c1 HCC HRR
      go_wp2
      go_ret2
      exact HP.out
theorem bind_nil (l : Tx) (k : Int) (w : World) : Calls Tryz.prog 9 #[.pointer none, .string ⟨l.toArray⟩, .int .i64 k] w fun e w' => e = .returned (.tuple #[.nilIface, errN 1]) ∧ w = w' := by
  go_enter Tryz.func9, Tryz.ntmps9
  go_wp2
  go_ret2
  exact ⟨rfl, rfl⟩
end Nd
end Go.Proofs.YtbajkglacfheiaaGreatDoor

