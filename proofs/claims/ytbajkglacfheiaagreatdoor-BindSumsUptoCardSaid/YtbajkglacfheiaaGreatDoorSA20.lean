/-
  Walks of package bind: bound where another function binds; Bind over pointer.Find.
  Bind of whole numbers and of texts; the statements' own functions fault and wakes of layer 16.
  Walks of package node: a maker's steps. Walks of package node: a maker's Null, List, Top. Walks of package node: a maker's Flag, Number, Text, Object, Tree.
  Walk of package bind: Narrow.
-/
import Derived.Test.YtbajkglacfheiaaGreatDoorSA18
import Derived.Test.YtbajkglacfheiaaGreatDoorSA19
import Derived.Test.YtbajkglacfheiaaGreatDoorSA10
import Derived.Test.YtbajkglacfheiaaGreatDoorSA1
import Derived.Test.YtbajkglacfheiaaGreatDoorSA3
import Derived.Test.YtbajkglacfheiaaGreatDoorSA15
import Derived.Test.YtbajkglacfheiaaGreatDoorSA16
import Derived.Test.YtbajkglacfheiaaGreatDoorSA13
import Derived.Test.YtbajkglacfheiaaGreatDoorSA9
import Derived.Test.YtbajkglacfheiaaGreatDoorSA17
import Derived.Test.YtbajkglacfheiaaGreatDoorSA12
import Derived.Laws.BitsAllLaws
import Derived.LoopTactic
import Derived.Lib.AppendStr
import Derived.BigQuiet
import Derived.Laws.Bits64b
import Derived.Deep.Upon
import Derived.Deep.RegionHeldLaw
import Derived.Maps.AppendAt
import Derived.Deep.AppendLies
import Derived.Deep.RegionLaw
import Derived.RangeFuncBox
set_option linter.unusedVariables false
set_option linter.unusedSimpArgs false
set_option maxRecDepth 100000
set_option maxHeartbeats 16000000
namespace Go.Proofs.YtbajkglacfheiaaGreatDoor
open Go.RowKit Mem Utf Ref3 Idx Tok TokC
namespace Nd
def Later (R : World → Ending → World → Prop) (w : World) (e : Ending) (w' : World) : Prop := ∃ W, Below w.heap.size w W ∧ R W e w'
theorem bound_3 (R : World → Ending → World → Prop) (v : Value) (p : Tx) (w : World) (HC : ∀ W, Below w.heap.size w W → Calls Tryz.prog 88 #[.agg #[v], .string ⟨p.toArray⟩, .int .i64 3] W (R W)) (hR : ∀ W e w', R W e w' → ∃ a b, e = .returned (.tuple #[a, b])) : Calls Tryz.prog 34 #[.agg #[v], .string ⟨p.toArray⟩, .int .i64 3] w (Later R w) := by
 have hx := ref_boxB w v
 have c1 := (Blk.new w 58 #[v]).cell 0
 have HX := Lib.hid hx
 have HHC := Lib.hid (HC _ hx)
 have HHR := Lib.hid hR
 clear hx HC hR
 go_enter Tryz.func34, Tryz.ntmps34
 go_wp2_with fail
 ((with_reducible refine (HHC.out).mono ?_); intro e w2 hr2)
 obtain ⟨a, b, rfl⟩ := HHR.out _ _ _ hr2
 have HP : Hid (Later R w (.returned (.tuple #[a, b])) w2) := Lib.hid ⟨_, HX.out, hr2⟩
 clear hr2 c1 HHC HHR
 go_wp2
 go_ret2
 exact HP.out
theorem bound_4 (R : World → Ending → World → Prop) (v : Value) (p : Tx) (w : World) (HC : ∀ W, Below w.heap.size w W → Calls Tryz.prog 88 #[.agg #[v], .string ⟨p.toArray⟩, .int .i64 4] W (R W)) (hR : ∀ W e w', R W e w' → ∃ a b, e = .returned (.tuple #[a, b])) : Calls Tryz.prog 34 #[.agg #[v], .string ⟨p.toArray⟩, .int .i64 4] w (Later R w) := by
 have hx := ref_boxB w v
 have c1 := (Blk.new w 58 #[v]).cell 0
 have HX := Lib.hid hx
 have HHC := Lib.hid (HC _ hx)
 have HHR := Lib.hid hR
 clear hx HC hR
 go_enter Tryz.func34, Tryz.ntmps34
 go_wp2_with fail
 ((with_reducible refine (HHC.out).mono ?_); intro e w2 hr2)
 obtain ⟨a, b, rfl⟩ := HHR.out _ _ _ hr2
 have HP : Hid (Later R w (.returned (.tuple #[a, b])) w2) := Lib.hid ⟨_, HX.out, hr2⟩
 clear hr2 c1 HHC HHR
 go_wp2
 go_ret2
 exact HP.out
theorem bound_5 (R : World → Ending → World → Prop) (v : Value) (p : Tx) (w : World) (HC : ∀ W, Below w.heap.size w W → Calls Tryz.prog 88 #[.agg #[v], .string ⟨p.toArray⟩, .int .i64 5] W (R W)) (hR : ∀ W e w', R W e w' → ∃ a b, e = .returned (.tuple #[a, b])) : Calls Tryz.prog 34 #[.agg #[v], .string ⟨p.toArray⟩, .int .i64 5] w (Later R w) := by
 have hx := ref_boxB w v
 have c1 := (Blk.new w 58 #[v]).cell 0
 have HX := Lib.hid hx
 have HHC := Lib.hid (HC _ hx)
 have HHR := Lib.hid hR
 clear hx HC hR
 go_enter Tryz.func34, Tryz.ntmps34
 go_wp2_with fail
 ((with_reducible refine (HHC.out).mono ?_); intro e w2 hr2)
 obtain ⟨a, b, rfl⟩ := HHR.out _ _ _ hr2
 have HP : Hid (Later R w (.returned (.tuple #[a, b])) w2) := Lib.hid ⟨_, HX.out, hr2⟩
 clear hr2 c1 HHC HHR
 go_wp2
 go_ret2
 exact HP.out
theorem bound_6 (R : World → Ending → World → Prop) (v : Value) (p : Tx) (w : World) (HC : ∀ W, Below w.heap.size w W → Calls Tryz.prog 88 #[.agg #[v], .string ⟨p.toArray⟩, .int .i64 6] W (R W)) (hR : ∀ W e w', R W e w' → ∃ a b, e = .returned (.tuple #[a, b])) : Calls Tryz.prog 34 #[.agg #[v], .string ⟨p.toArray⟩, .int .i64 6] w (Later R w) := by
 have hx := ref_boxB w v
 have c1 := (Blk.new w 58 #[v]).cell 0
 have HX := Lib.hid hx
 have HHC := Lib.hid (HC _ hx)
 have HHR := Lib.hid hR
 clear hx HC hR
 go_enter Tryz.func34, Tryz.ntmps34
 go_wp2_with fail
 ((with_reducible refine (HHC.out).mono ?_); intro e w2 hr2)
 obtain ⟨a, b, rfl⟩ := HHR.out _ _ _ hr2
 have HP : Hid (Later R w (.returned (.tuple #[a, b])) w2) := Lib.hid ⟨_, HX.out, hr2⟩
 clear hr2 c1 HHC HHR
 go_wp2
 go_ret2
 exact HP.out
theorem bound_7 (R : World → Ending → World → Prop) (v : Value) (p : Tx) (w : World) (HC : ∀ W, Below w.heap.size w W → Calls Tryz.prog 88 #[.agg #[v], .string ⟨p.toArray⟩, .int .i64 7] W (R W)) (hR : ∀ W e w', R W e w' → ∃ a b, e = .returned (.tuple #[a, b])) : Calls Tryz.prog 34 #[.agg #[v], .string ⟨p.toArray⟩, .int .i64 7] w (Later R w) := by
 have hx := ref_boxB w v
 have c1 := (Blk.new w 58 #[v]).cell 0
 have HX := Lib.hid hx
 have HHC := Lib.hid (HC _ hx)
 have HHR := Lib.hid hR
 clear hx HC hR
 go_enter Tryz.func34, Tryz.ntmps34
 go_wp2_with fail
 ((with_reducible refine (HHC.out).mono ?_); intro e w2 hr2)
 obtain ⟨a, b, rfl⟩ := HHR.out _ _ _ hr2
 have HP : Hid (Later R w (.returned (.tuple #[a, b])) w2) := Lib.hid ⟨_, HX.out, hr2⟩
 clear hr2 c1 HHC HHR
 go_wp2
 go_ret2
 exact HP.out
theorem bound_8 (R : World → Ending → World → Prop) (v : Value) (p : Tx) (w : World) (HC : ∀ W, Below w.heap.size w W → Calls Tryz.prog 88 #[.agg #[v], .string ⟨p.toArray⟩, .int .i64 8] W (R W)) (hR : ∀ W e w', R W e w' → ∃ a b, e = .returned (.tuple #[a, b])) : Calls Tryz.prog 34 #[.agg #[v], .string ⟨p.toArray⟩, .int .i64 8] w (Later R w) := by
 have hx := ref_boxB w v
 have c1 := (Blk.new w 58 #[v]).cell 0
 have HX := Lib.hid hx
 have HHC := Lib.hid (HC _ hx)
 have HHR := Lib.hid hR
 clear hx HC hR
 go_enter Tryz.func34, Tryz.ntmps34
 go_wp2_with fail
 ((with_reducible refine (HHC.out).mono ?_); intro e w2 hr2)
 obtain ⟨a, b, rfl⟩ := HHR.out _ _ _ hr2
 have HP : Hid (Later R w (.returned (.tuple #[a, b])) w2) := Lib.hid ⟨_, HX.out, hr2⟩
 clear hr2 c1 HHC HHR
 go_wp2
 go_ret2
 exact HP.out
theorem bound_9 (R : World → Ending → World → Prop) (v : Value) (p : Tx) (w : World) (HC : ∀ W, Below w.heap.size w W → Calls Tryz.prog 88 #[.agg #[v], .string ⟨p.toArray⟩, .int .i64 9] W (R W)) (hR : ∀ W e w', R W e w' → ∃ a b, e = .returned (.tuple #[a, b])) : Calls Tryz.prog 34 #[.agg #[v], .string ⟨p.toArray⟩, .int .i64 9] w (Later R w) := by
 have hx := ref_boxB w v
 have c1 := (Blk.new w 58 #[v]).cell 0
 have HX := Lib.hid hx
 have HHC := Lib.hid (HC _ hx)
 have HHR := Lib.hid hR
 clear hx HC hR
 go_enter Tryz.func34, Tryz.ntmps34
 go_wp2_with fail
 ((with_reducible refine (HHC.out).mono ?_); intro e w2 hr2)
 obtain ⟨a, b, rfl⟩ := HHR.out _ _ _ hr2
 have HP : Hid (Later R w (.returned (.tuple #[a, b])) w2) := Lib.hid ⟨_, HX.out, hr2⟩
 clear hr2 c1 HHC HHR
 go_wp2
 go_ret2
 exact HP.out
theorem bound_10 (R : World → Ending → World → Prop) (v : Value) (p : Tx) (w : World) (HC : ∀ W, Below w.heap.size w W → Calls Tryz.prog 88 #[.agg #[v], .string ⟨p.toArray⟩, .int .i64 10] W (R W)) (hR : ∀ W e w', R W e w' → ∃ a b, e = .returned (.tuple #[a, b])) : Calls Tryz.prog 34 #[.agg #[v], .string ⟨p.toArray⟩, .int .i64 10] w (Later R w) := by
 have hx := ref_boxB w v
 have c1 := (Blk.new w 58 #[v]).cell 0
 have HX := Lib.hid hx
 have HHC := Lib.hid (HC _ hx)
 have HHR := Lib.hid hR
 clear hx HC hR
 go_enter Tryz.func34, Tryz.ntmps34
 go_wp2_with fail
 ((with_reducible refine (HHC.out).mono ?_); intro e w2 hr2)
 obtain ⟨a, b, rfl⟩ := HHR.out _ _ _ hr2
 have HP : Hid (Later R w (.returned (.tuple #[a, b])) w2) := Lib.hid ⟨_, HX.out, hr2⟩
 clear hr2 c1 HHC HHR
 go_wp2
 go_ret2
 exact HP.out
theorem bound_14 (R : World → Ending → World → Prop) (v : Value) (p : Tx) (w : World) (HC : ∀ W, Below w.heap.size w W → Calls Tryz.prog 85 #[.agg #[v], .string ⟨p.toArray⟩, .int .i64 14] W (R W)) (hR : ∀ W e w', R W e w' → ∃ a b, e = .returned (.tuple #[a, b])) : Calls Tryz.prog 34 #[.agg #[v], .string ⟨p.toArray⟩, .int .i64 14] w (Later R w) := by
 have hx := ref_boxB w v
 have c1 := (Blk.new w 58 #[v]).cell 0
 have HX := Lib.hid hx
 have HHC := Lib.hid (HC _ hx)
 have HHR := Lib.hid hR
 clear hx HC hR
 go_enter Tryz.func34, Tryz.ntmps34
 go_wp2_with fail
 ((with_reducible refine (HHC.out).mono ?_); intro e w2 hr2)
 obtain ⟨a, b, rfl⟩ := HHR.out _ _ _ hr2
 have HP : Hid (Later R w (.returned (.tuple #[a, b])) w2) := Lib.hid ⟨_, HX.out, hr2⟩
 clear hr2 c1 HHC HHR
 go_wp2
 go_ret2
 exact HP.out
theorem bound_19 (R : World → Ending → World → Prop) (v : Value) (p : Tx) (w : World) (HC : ∀ W, Below w.heap.size w W → Calls Tryz.prog 87 #[.agg #[v], .string ⟨p.toArray⟩, .int .i64 19] W (R W)) (hR : ∀ W e w', R W e w' → ∃ a b, e = .returned (.tuple #[a, b])) : Calls Tryz.prog 34 #[.agg #[v], .string ⟨p.toArray⟩, .int .i64 19] w (Later R w) := by
 have hx := ref_boxB w v
 have c1 := (Blk.new w 58 #[v]).cell 0
 have HX := Lib.hid hx
 have HHC := Lib.hid (HC _ hx)
 have HHR := Lib.hid hR
 clear hx HC hR
 go_enter Tryz.func34, Tryz.ntmps34
 go_wp2_with fail
 ((with_reducible refine (HHC.out).mono ?_); intro e w2 hr2)
 obtain ⟨a, b, rfl⟩ := HHR.out _ _ _ hr2
 have HP : Hid (Later R w (.returned (.tuple #[a, b])) w2) := Lib.hid ⟨_, HX.out, hr2⟩
 clear hr2 c1 HHC HHR
 go_wp2
 go_ret2
 exact HP.out
def BindP (R : Tr → World → Ending → World → Prop) (t : Tr) (l : Tx) (w : World) (e : Ending) (w' : World) : Prop :=
 match parseS (wrong l) l with
  | .error x => e = .returned (.tuple #[.nilIface, Go.Proofs.YtbajkglacfheiaaGreatDoor.errV x.1 x.2]) ∧ Below w.heap.size w w'
  | .ok ts => match leadT t ts 0 with
   | .inl n => e = .returned (.tuple #[.nilIface, trlV 4 (printS (ts.take n))]) ∧ Below w.heap.size w w'
   | .inr u => Later (R u) w e w'
theorem bindP_err {R : Tr → World → Ending → World → Prop} {t : Tr} {l : Tx} {w w' : World} {x : Int × Int} (h : parseS (wrong l) l = .error x) (hb : Below w.heap.size w w') : BindP R t l w (.returned (.tuple #[.nilIface, Go.Proofs.YtbajkglacfheiaaGreatDoor.errV x.1 x.2])) w' := by
 unfold BindP
 rw [h]
 exact ⟨rfl, hb⟩
theorem bindP_lost {R : Tr → World → Ending → World → Prop} {t : Tr} {l : Tx} {w w' : World} {ts : List Tx} {n : Nat} (h : parseS (wrong l) l = .ok ts) (h2 : leadT t ts 0 = .inl n) (hb : Below w.heap.size w w') : BindP R t l w (.returned (.tuple #[.nilIface, trlV 4 (printS (ts.take n))])) w' := by
 unfold BindP
 rw [h]
 dsimp only
 rw [h2]
 exact ⟨rfl, hb⟩
theorem bindP_some {R : Tr → World → Ending → World → Prop} {t u : Tr} {l : Tx} {w w' : World} {ts : List Tx} {e : Ending} (h : parseS (wrong l) l = .ok ts) (h2 : leadT t ts 0 = .inr u) (hr : Later (R u) w e w') : BindP R t l w e w' := by
 unfold BindP
 rw [h]
 dsimp only
 rw [h2]
 exact hr
theorem bind_any (R : Tr → World → Ending → World → Prop) (k : Nat) (h1 : 1 ≤ k) (h2 : k ≤ 19) (g : Nat) (t : Tr) (v : Value) (l : Tx) (w0 w : World) (hB : Blk w0 g 123 #[v]) (h : RdA w0 t v) (hb0 : Below w0.heap.size w0 w) (ho : t.Ok) (hf : t.fit = true) (hl : l.length ≤ 4194304) (hG : Glob w) (hT : Tab w)
  (HC : ∀ u tx ux W, Below w.heap.size w W → RdA W u (.iface tx ux) → u.Ok → u.fit = true → Calls Tryz.prog 34 #[.agg #[.iface tx ux], .string ⟨l.toArray⟩, .int .i64 (k : Int)] W (R u W)) (hR : ∀ u W e w', R u W e w' → ∃ a b, e = .returned (.tuple #[a, b])) :
  Calls Tryz.prog 9 #[.pointer (some ⟨g, 0, none⟩), .string ⟨l.toArray⟩, .int .i64 (k : Int)] w (BindP R t l w) := by
 have q1 := err_ne_nil
 have q2 := err_ne_held
 have HB := Lib.hid hB
 have HRD := Lib.hid h
 have HB0 := Lib.hid hb0
 have HO := Lib.hid (And.intro ho hf)
 have HL := Lib.hid hl
 have HG := Lib.hid (And.intro hG hT)
 have HK := Lib.hid (And.intro h1 h2)
 have HHC := Lib.hid HC
 have HHR := Lib.hid hR
 clear hB h hb0 ho hf hl hG hT h1 h2 HC hR
 go_enter Tryz.func9, Tryz.ntmps9
 go_wp2_with fail
 ((with_reducible refine (is_yes k HK.out.1 HK.out.2 _).mono ?_); rintro e w1 ⟨rfl, rfl⟩)
 go_wp2_with fail
 ((with_reducible refine (pfind_any g t v l w0 _ HB.out HRD.out HB0.out HO.out.1 HO.out.2 HL.out HG.out.1 HG.out.2).mono ?_); rintro e w1 ⟨he, hb1⟩)
 have HB1 := Lib.hid hb1
 cases hp : parseS (wrong l) l with
 | error x =>
  rw [hp] at he
  obtain rfl := he
  have hbp : BindP R t l w (.returned (.tuple #[.nilIface, Go.Proofs.YtbajkglacfheiaaGreatDoor.errV x.1 x.2])) (w1.alloc (.cells #[.nilIface] 58)) := bindP_err hp (HB1.out.alloc HB1.out.size _)
  clear hp hb1 HHC HHR
  obtain ⟨T, u, hTu⟩ := errV_form x.1 x.2
  rw [hTu] at hbp ⊢
  have HP := Lib.hid hbp
  clear hTu hbp
  go_wp2
  go_ret2
  exact HP.out
 | ok ts =>
  rw [hp] at he
  dsimp only at he
  cases hle : leadT t ts 0 with
  | inl n =>
   rw [hle] at he
   obtain rfl := he
   have HP : Hid (BindP R t l w (.returned (.tuple #[.nilIface, trlV 4 (printS (ts.take n))])) (w1.alloc (.cells #[.nilIface] 58))) := Lib.hid (bindP_lost hp hle (HB1.out.alloc HB1.out.size _))
   clear hp hle hb1 HHC HHR
   go_wp2
   go_ret2
   exact HP.out
  | inr u =>
   rw [hle] at he
   obtain ⟨tx, ux, rfl, hrd, huo⟩ := he
   have HPL := Lib.hid (And.intro hp hle)
   have hb2 : Below w.heap.size w (w1.alloc (.cells #[.iface tx ux] 58)) := hb1.alloc hb1.size _
   have HB2 := Lib.hid hb2
   have c1 := (Blk.new w1 58 #[.iface tx ux]).cell 0
   have HCC := Lib.hid (HHC.out u tx ux _ hb2 (rda_below hrd (HB0.out.trans (hb2.mono HB0.out.size))) huo.1 huo.2)
   have HRR := Lib.hid (HHR.out u)
   clear hp hle hb1 hb2 hrd huo HHC HHR
   go_wp2_with fail
   ((with_reducible refine (HCC.out).mono ?_); intro e w2 hr2)
   obtain ⟨a, b, rfl⟩ := HRR.out _ _ _ hr2
   have HP : Hid (BindP R t l w (.returned (.tuple #[a, b])) w2) := Lib.hid (bindP_some HPL.out.1 HPL.out.2 ⟨_, HB2.out, hr2⟩)
   clear hr2 c1 HCC HRR
   go_wp2
   go_ret2
   exact HP.out
end Nd
end Go.Proofs.YtbajkglacfheiaaGreatDoor
namespace Go.Proofs.YtbajkglacfheiaaGreatDoor
open Go.RowKit Mem Utf Ref3 Idx Tok TokC
namespace Nd
theorem later_join {R : World → Ending → World → Prop} {w : World} {e : Ending} {w' : World} (h : Later (Later R) w e w') : Later R w e w' := by
 obtain ⟨W, hb, W2, hb2, hr⟩ := h
 exact ⟨W2, hb.trans (hb2.mono hb.size), hr⟩
theorem bindP_join {R : Tr → World → Ending → World → Prop} {t : Tr} {l : Tx} {w : World} {e : Ending} {w' : World} (h : BindP (fun u => Later (R u)) t l w e w') : BindP R t l w e w' := by
 unfold BindP at h ⊢
 split at h
 ·exact h
 ·split at h
  ·exact h
  ·exact later_join h
def WholeR (k : Nat) (p : Tx) (u : Tr) (W : World) (e : Ending) (w' : World) : Prop :=
 if u.isNb = true then BwP k p (intD k u.nb) W e w' else e = .returned (.tuple #[.nilIface, trlV 5 p]) ∧ Below W.heap.size W w'
theorem wholeR_two {k : Nat} {p : Tx} {u : Tr} {W : World} {e : Ending} {w' : World} (h : WholeR k p u W e w') : ∃ a b, e = .returned (.tuple #[a, b]) := by
 unfold WholeR at h
 split at h
 ·unfold BwP at h
  obtain ⟨h, _⟩ := h
  split at h
  ·exact ⟨_, _, h⟩
  ·exact ⟨_, _, h⟩
 ·exact ⟨_, _, h.1⟩
theorem bwholeR (k : Nat) (h3 : 3 ≤ k) (h10 : k ≤ 10) (u : Tr) (v : Value) (p : Tx) (w : World) (h : RdA w u v) (ho : u.Ok) : Calls Tryz.prog 88 #[.agg #[v], .string ⟨p.toArray⟩, .int .i64 (k : Int)] w (WholeR k p u w) := by
 by_cases hn : u.isNb = true
 ·cases u <;> simp [Tr.isNb] at hn
  rename_i x
  refine (bwhole_k k h3 h10 x v p w h ho.2.2 ho.1).mono fun e w' hp => ?_
  unfold WholeR
  rw [if_pos (show (Tr.num x).isNb = true from rfl)]
  exact hp
 ·refine (bwhole_no k u (by simpa using hn) v p w h).mono fun e w' hp => ?_
  unfold WholeR
  rw [if_neg hn]
  exact hp
theorem bound_wholeR (k : Nat) (h3 : 3 ≤ k) (h10 : k ≤ 10) (u : Tr) (v : Value) (p : Tx) (w : World) (h : RdA w u v) (ho : u.Ok) : Calls Tryz.prog 34 #[.agg #[v], .string ⟨p.toArray⟩, .int .i64 (k : Int)] w (Later (WholeR k p u) w) := by
 have hc := fun W (hb : Below w.heap.size w W) => bwholeR k h3 h10 u v p W (rda_below h hb) ho
 rcases (by omega : k = 3 ∨ k = 4 ∨ k = 5 ∨ k = 6 ∨ k = 7 ∨ k = 8 ∨ k = 9 ∨ k = 10) with rfl | rfl | rfl | rfl | rfl | rfl | rfl | rfl
 ·exact bound_3 _ v p w hc fun _ _ _ => wholeR_two
 ·exact bound_4 _ v p w hc fun _ _ _ => wholeR_two
 ·exact bound_5 _ v p w hc fun _ _ _ => wholeR_two
 ·exact bound_6 _ v p w hc fun _ _ _ => wholeR_two
 ·exact bound_7 _ v p w hc fun _ _ _ => wholeR_two
 ·exact bound_8 _ v p w hc fun _ _ _ => wholeR_two
 ·exact bound_9 _ v p w hc fun _ _ _ => wholeR_two
 ·exact bound_10 _ v p w hc fun _ _ _ => wholeR_two
theorem bind_whole (k : Nat) (h3 : 3 ≤ k) (h10 : k ≤ 10) (g : Nat) (t : Tr) (v : Value) (l : Tx) (w0 w : World) (hB : Blk w0 g 123 #[v]) (h : RdA w0 t v) (hb0 : Below w0.heap.size w0 w) (ho : t.Ok) (hf : t.fit = true) (hl : l.length ≤ 4194304) (hG : Glob w) (hT : Tab w) :
  Calls Tryz.prog 9 #[.pointer (some ⟨g, 0, none⟩), .string ⟨l.toArray⟩, .int .i64 (k : Int)] w (BindP (WholeR k l) t l w) :=
 (bind_any (fun u => Later (WholeR k l u)) k (by omega) (by omega) g t v l w0 w hB h hb0 ho hf hl hG hT (fun u tx ux W hb hr ho _ => bound_wholeR k h3 h10 u _ l W hr ho) (fun u W e w' ⟨_, _, hr⟩ => wholeR_two hr)).mono fun e w' hp => bindP_join hp
/-! ### the law's fault -/
theorem f16_tr_no (v : Value) (w : World) : (Instr.typeAssert (.iface 139 v) 25 113 true).run Tryz.prog w = .ok (.tuple #[.int .i64 0, .bool false]) w := by kernel_rfl
theorem f16_tr_spot (v : Value) (w : World) : (Instr.typeAssert (.iface 139 v) 25 122 true).run Tryz.prog w = .ok (.tuple #[.agg #[.int .i64 0, .int .i64 0], .bool false]) w := by kernel_rfl
theorem f16_tr_tr (v : Value) (w : World) : (Instr.typeAssert (.iface 139 v) 25 139 true).run Tryz.prog w = .ok (.tuple #[v, .bool true]) w := by kernel_rfl
theorem bind_wholeI (K : Int) (k : Nat) (hK : K = (k : Int)) (h3 : 3 ≤ k) (h10 : k ≤ 10) (g : Nat) (t : Tr) (v : Value) (l : Tx) (w0 w : World) (hB : Blk w0 g 123 #[v]) (h : RdA w0 t v) (hb0 : Below w0.heap.size w0 w) (ho : t.Ok) (hf : t.fit = true) (hl : l.length ≤ 4194304) (hG : Glob w) (hT : Tab w) :
  Calls Tryz.prog 9 #[.pointer (some ⟨g, 0, none⟩), .string ⟨l.toArray⟩, .int .i64 K] w (BindP (WholeR k l) t l w) := by
 subst hK
 exact bind_whole k h3 h10 g t v l w0 w hB h hb0 ho hf hl hG hT
theorem fault16_trail (n a : Int) (p : Tx) (w : World) :
  Calls Tryz.prog 19 #[trlV n p, .agg #[.int .i64 n, .int .i64 a, .bool true, .string ⟨p.toArray⟩]] w fun e w' => e = .returned (.bool true) ∧ Below w.heap.size w w' := by
 unfold trlV
 have t1 := f16_tr_no
 have t2 := f16_tr_spot
 have t3 := f16_tr_tr
 have e1 : (n == n) = true := by simp
 have e2 : (p == p) = true := by simp
 go_enter Tryz.func19, Tryz.ntmps19
 go_wp2
 go_ret
 exact ⟨rfl, ((Below.refl _ _).alloc (Nat.le_refl _) _).alloc (by simp) _⟩
/-! ### wakes -/
def wk16 : List Stp := [⟨3, false, 4643985272004935680, [], 0, []⟩]
theorem wk16_build : buildT wk16 = .inr (.num 4643985272004935680) := by rfl
theorem wk16_fine : ∀ s ∈ wk16, s.Fine := by
 intro s hs
 simp [wk16] at hs
 subst hs
 exact ⟨by decide, by decide, by simp, by decide, by decide⟩
abbrev wk16Cells : Array Value := #[.int .i64 3, .bool false, .int .u64 4643985272004935680, .string ⟨([] : Tx).toArray⟩, .int .i64 0, .slice none 0 0]
theorem wk16_rd (w : World) (t : TypeId) : RdS (w.alloc (.cells wk16Cells t)) (.slice (some ⟨w.heap.size, 0, none⟩) 1 1) wk16 := by
 have hB := Blk.new w t wk16Cells
 refine ⟨_, _, rfl, .inr ⟨w.heap.size, 0, rfl, fun j s hs => ?_⟩⟩
 have hk : RdK (w.alloc (.cells wk16Cells t)) (.slice none 0 0) [] := ⟨none, 0, rfl, .inl rfl⟩
 match j, hs with
 | 0, hs =>
  injection hs with hs
  subst hs
  exact ⟨none, 0, hB.cell 0, hB.cell 1, hB.cell 2, hB.cell 3, hB.cell 4, hB.cell 5, hk, Nat.le_refl _⟩
 | j + 1, hs => cases hs
theorem val300 : finB 4643985272004935680 = true ∧ wholeD 4643985272004935680 = some 300 := by
 have e : bitsZ 300 = 4643985272004935680 := by decide
 have h := bitsZ_val (z := 300) (by decide)
 rw [e] at h
 exact ⟨h.1, whole_of h.2⟩
theorem int300_4 : intD 4 4643985272004935680 = .inr 300 := intD_y val300.2 (by decide) (by decide)
theorem int300_7 : intD 7 4643985272004935680 = .inl 161 := intD_f val300.2 (by decide)
theorem parse_nil : parseS (wrong []) [] = .ok [] := parse_of_print (w := wrong []) (ts := []) (by decide) (by decide)
theorem bindP_nil {R : Tr → World → Ending → World → Prop} {t : Tr} {w : World} {e : Ending} {w' : World} (h : BindP R t [] w e w') : Later (R t) w e w' := by
 unfold BindP at h
 rw [parse_nil] at h
 exact h
theorem ta_i16 (v : Value) (W : World) : (Instr.typeAssert (.iface 127 v) 29 127 true).run Tryz.prog W = .ok (.tuple #[v, .bool true]) W := by kernel_rfl
theorem wakes16_any (w : World) (hG : Glob w) (hT : Tab w) : Calls Tryz.prog 10 #[] w fun e w' => e = .returned (.bool true) ∧ Below w.heap.size w w' := by
 have q1 := err_ne_nil
 have q3 := err_eq_nil
 have hfb := f64bits 4643985272004935680
 have t1 := ta_i16
 have HG := Lib.hid hG
 have HT := Lib.hid hT
 clear hG hT
 go_enter Tryz.func10, Tryz.ntmps10
 go_wp2_with fail
 ((with_reducible refine (build_any _ wk16 _ (wk16_rd w _) wk16_fine (by decide)).mono ?_); intro e w1 hP)
 obtain ⟨hb1, hP⟩ := hP
 simp only [wk16_build] at hP
 obtain ⟨g, rfl, _, hfit, v, hBt, hrd⟩ := hP
 have hbw : Below w.heap.size w w1 := ((Below.refl _ _).alloc (Nat.le_refl _) _).trans (hb1.mono (by simp))
 have HB1 := Lib.hid hbw
 have hok : (Tr.num 4643985272004935680).Ok := (buildT_ok wk16_fine wk16_build).1
 have hra : RdA w1 (.num 4643985272004935680) v := RdT.move (fun j hj hs => ⟨trivial, rfl⟩) _ _ hrd
 have HBT := Lib.hid (And.intro hBt (And.intro hra (And.intro hok hfit)))
 clear hb1 hBt hrd hfit hra hok hbw
 go_wp2_with fail
 ((with_reducible refine (bind_wholeI 4 4 rfl (by omega) (by omega) g _ v [] w1 _ HBT.out.1 HBT.out.2.1 (Below.refl _ _) HBT.out.2.2.1 HBT.out.2.2.2 (by decide) (HG.out.next HB1.out) (HT.out.next HB1.out)).mono ?_); intro e w2 hp)
 obtain ⟨W2, hbW, hp⟩ := bindP_nil hp
 unfold WholeR at hp
 rw [if_pos (show (Tr.num 4643985272004935680).isNb = true from rfl)] at hp
 unfold BwP at hp
 dsimp only [Tr.nb] at hp
 rw [int300_4] at hp
 obtain ⟨rfl, hb2⟩ := hp
 have HB2 := Lib.hid (HB1.out.trans ((hbW.trans (hb2.mono hbW.size)).mono HB1.out.size))
 have HBX := Lib.hid (hbW.trans (hb2.mono hbW.size))
 clear hbW hb2
 unfold intV
 simp only [Nat.reduceEqDiff, if_true, if_false]
 go_wp2_with fail
 ((with_reducible refine (bind_wholeI 7 7 rfl (by omega) (by omega) g _ v [] w1 _ HBT.out.1 HBT.out.2.1 HBX.out HBT.out.2.2.1 HBT.out.2.2.2 (by decide) (HG.out.next HB2.out) (HT.out.next HB2.out)).mono ?_); intro e w3 hp)
 obtain ⟨W3, hbW, hp⟩ := bindP_nil hp
 unfold WholeR at hp
 rw [if_pos (show (Tr.num 4643985272004935680).isNb = true from rfl)] at hp
 unfold BwP at hp
 dsimp only [Tr.nb] at hp
 rw [int300_7] at hp
 obtain ⟨rfl, hb2⟩ := hp
 have HB3 := Lib.hid (HB2.out.trans ((hbW.trans (hb2.mono hbW.size)).mono HB2.out.size))
 clear hbW hb2
 have HF := Lib.hid (fault16_trail 161 0 [])
 unfold trlV at HF ⊢
 go_wp2_with fail
 ((with_reducible refine (HF.out _).mono ?_); rintro e w4 ⟨rfl, hb4⟩)
 have HB4 := Lib.hid (HB3.out.trans (hb4.mono HB3.out.size))
 clear hb4
 go_wp2
 go_ret
 exact ⟨rfl, HB4.out⟩
end Nd
end Go.Proofs.YtbajkglacfheiaaGreatDoor
namespace Go.Proofs.YtbajkglacfheiaaGreatDoor
open Go.RowKit Mem
namespace Nd

def stepT (l : List Tr) (s : Stp) : Int × List Tr := if s.sort < 5 ∧ 65536 ≤ l.length then (3, l) else doT l s
theorem RwX.slice {p : Nat} {ty : TypeId} {B : Nat} {l : List Tr} {w : World} (h : RwX p ty B l w) : ∃ A q, Blk w p ty #[.slice A l.length q] := by
 obtain ⟨v, xs, h⟩ := h
 obtain ⟨A, q, rfl⟩ := own_slice h.own
 exact ⟨A, q, h.bl⟩
theorem RwX.plt {p : Nat} {ty : TypeId} {B : Nat} {l : List Tr} {w : World} (h : RwX p ty B l w) : p < B ∧ B ≤ w.heap.size := by
 obtain ⟨v, xs, h⟩ := h
 exact ⟨h.lt, h.le⟩
theorem mstep_low (s : Stp) (hs : s.Fine) (K : Option Addr) (q9 : Nat) (p : Nat) (ty : TypeId) (B : Nat) (l : List Tr) (w : World) (hR : RwX p ty B l w) (hkv : RdK w (.slice K s.keys.length q9) s.keys) (hlo : s.sort < 5) (hn : l.length < 65536) :
  Calls Tryz.prog 57 #[.pointer (some ⟨p, 0, none⟩), .agg #[.int .i64 s.sort, .bool s.flag, .int .u64 (s.bits : Int), .string ⟨s.text.toArray⟩, .int .i64 s.count, .slice K s.keys.length q9]] w fun e w' => e = .returned (errV (doT l s).1) ∧ RwX p ty B (doT l s).2 w' ∧ Apart p B w w' := by
 have d1 : decide (65536 ≤ (l.length : Int)) = false := decide_eq_false (by omega)
 have d2 : decide (s.sort < 5) = true := decide_eq_true hlo
 obtain ⟨A, q, hB⟩ := hR.slice
 have hpl := hR.plt
 have hba : Below w.heap.size w (w.alloc (.cells #[.int .i64 s.sort, .bool s.flag, .int .u64 (s.bits : Int), .string ⟨s.text.toArray⟩, .int .i64 s.count, .slice K s.keys.length q9] 119)) := (Below.refl _ _).alloc (Nat.le_refl _) _
 have hS1 := Blk.new w 119 #[.int .i64 s.sort, .bool s.flag, .int .u64 (s.bits : Int), .string ⟨s.text.toArray⟩, .int .i64 s.count, .slice K s.keys.length q9]
 have hB1 := hB.alloc (.cells #[.int .i64 s.sort, .bool s.flag, .int .u64 (s.bits : Int), .string ⟨s.text.toArray⟩, .int .i64 s.count, .slice K s.keys.length q9] 119)
 have HX := Lib.hid (hR.below hba)
 have HK := Lib.hid (hkv.below hba)
 have HF := Lib.hid hs
 clear hR hkv hs hB hlo
 go_enter Tryz.func57, Tryz.ntmps57
 go_upto_region 1 with fail
 generalize w.alloc (.cells #[.int .i64 s.sort, .bool s.flag, .int .u64 (s.bits : Int), .string ⟨s.text.toArray⟩, .int .i64 s.count, .slice K s.keys.length q9] 119) = w1 at *
 have HBA := Lib.hid hba
 clear hba
 have a0 : w1.cell? ⟨p, 0, none⟩ = some (.slice A l.length q) := hB1.cell 0
 have c0 : w1.cell? ⟨w.heap.size, 0, none⟩ = some (.int .i64 s.sort) := hS1.cell 0
 have c1 : w1.cell? ⟨w.heap.size, 1, none⟩ = some (.bool s.flag) := hS1.cell 1
 have c2 : w1.cell? ⟨w.heap.size, 2, none⟩ = some (.int .u64 (s.bits : Int)) := hS1.cell 2
 have c3 : w1.cell? ⟨w.heap.size, 3, none⟩ = some (.string ⟨s.text.toArray⟩) := hS1.cell 3
 have c4 : w1.cell? ⟨w.heap.size, 4, none⟩ = some (.int .i64 s.count) := hS1.cell 4
 have c5 : w1.cell? ⟨w.heap.size, 5, none⟩ = some (.slice K s.keys.length q9) := hS1.cell 5
 go_upto_region 5 with fail
 go_still_tail 4, (by kernel_rfl)
 go_wp2_with fail
 have hbd : Below w1.heap.size w1 w1.drew := drewN_below w1 1
 ((with_reducible refine (do_any s HF.out K q9 p ty B l _ (HX.out.below hbd) (HK.out.below hbd) (by omega)).mono ?_); rintro e w2 ⟨rfl, hx2, hb2⟩)
 have HPP : Hid (RwX p ty B (doT l s).2 w2 ∧ Apart p B w w2) := Lib.hid ⟨hx2, Apart.from_ (HBA.out.trans (hbd.mono HBA.out.size)) (by omega) hb2⟩
 clear hx2
 go_wp2
 go_ret
 exact ⟨rfl, HPP.out⟩
theorem mstep_high (s : Stp) (hs : s.Fine) (K : Option Addr) (q9 : Nat) (p : Nat) (ty : TypeId) (B : Nat) (l : List Tr) (w : World) (hR : RwX p ty B l w) (hkv : RdK w (.slice K s.keys.length q9) s.keys) (hlo : ¬ s.sort < 5) (hn : l.length ≤ 65536) :
  Calls Tryz.prog 57 #[.pointer (some ⟨p, 0, none⟩), .agg #[.int .i64 s.sort, .bool s.flag, .int .u64 (s.bits : Int), .string ⟨s.text.toArray⟩, .int .i64 s.count, .slice K s.keys.length q9]] w fun e w' => e = .returned (errV (doT l s).1) ∧ RwX p ty B (doT l s).2 w' ∧ Apart p B w w' := by
 have d2 : decide (s.sort < 5) = false := decide_eq_false hlo
 obtain ⟨A, q, hB⟩ := hR.slice
 have hpl := hR.plt
 have hba : Below w.heap.size w (w.alloc (.cells #[.int .i64 s.sort, .bool s.flag, .int .u64 (s.bits : Int), .string ⟨s.text.toArray⟩, .int .i64 s.count, .slice K s.keys.length q9] 119)) := (Below.refl _ _).alloc (Nat.le_refl _) _
 have hS1 := Blk.new w 119 #[.int .i64 s.sort, .bool s.flag, .int .u64 (s.bits : Int), .string ⟨s.text.toArray⟩, .int .i64 s.count, .slice K s.keys.length q9]
 have hB1 := hB.alloc (.cells #[.int .i64 s.sort, .bool s.flag, .int .u64 (s.bits : Int), .string ⟨s.text.toArray⟩, .int .i64 s.count, .slice K s.keys.length q9] 119)
 have HX := Lib.hid (hR.below hba)
 have HK := Lib.hid (hkv.below hba)
 have HF := Lib.hid hs
 clear hR hkv hs hB hlo
 go_enter Tryz.func57, Tryz.ntmps57
 go_upto_region 1 with fail
 generalize w.alloc (.cells #[.int .i64 s.sort, .bool s.flag, .int .u64 (s.bits : Int), .string ⟨s.text.toArray⟩, .int .i64 s.count, .slice K s.keys.length q9] 119) = w1 at *
 have HBA := Lib.hid hba
 clear hba
 have a0 : w1.cell? ⟨p, 0, none⟩ = some (.slice A l.length q) := hB1.cell 0
 have c0 : w1.cell? ⟨w.heap.size, 0, none⟩ = some (.int .i64 s.sort) := hS1.cell 0
 have c1 : w1.cell? ⟨w.heap.size, 1, none⟩ = some (.bool s.flag) := hS1.cell 1
 have c2 : w1.cell? ⟨w.heap.size, 2, none⟩ = some (.int .u64 (s.bits : Int)) := hS1.cell 2
 have c3 : w1.cell? ⟨w.heap.size, 3, none⟩ = some (.string ⟨s.text.toArray⟩) := hS1.cell 3
 have c4 : w1.cell? ⟨w.heap.size, 4, none⟩ = some (.int .i64 s.count) := hS1.cell 4
 have c5 : w1.cell? ⟨w.heap.size, 5, none⟩ = some (.slice K s.keys.length q9) := hS1.cell 5
 go_upto_region 5 with fail
 go_still_tail 4, (by kernel_rfl)
 go_wp2_with fail
 have hbd : Below w1.heap.size w1 w1.drew := drewN_below w1 1
 ((with_reducible refine (do_any s HF.out K q9 p ty B l _ (HX.out.below hbd) (HK.out.below hbd) (by omega)).mono ?_); rintro e w2 ⟨rfl, hx2, hb2⟩)
 have HPP : Hid (RwX p ty B (doT l s).2 w2 ∧ Apart p B w w2) := Lib.hid ⟨hx2, Apart.from_ (HBA.out.trans (hbd.mono HBA.out.size)) (by omega) hb2⟩
 clear hx2
 go_wp2
 go_ret
 exact ⟨rfl, HPP.out⟩
theorem mstep_any (s : Stp) (hs : s.Fine) (K : Option Addr) (q9 : Nat) (p : Nat) (ty : TypeId) (B : Nat) (l : List Tr) (w : World) (hR : RwX p ty B l w) (hkv : RdK w (.slice K s.keys.length q9) s.keys) (hn : l.length ≤ 65536) :
  Calls Tryz.prog 57 #[.pointer (some ⟨p, 0, none⟩), .agg #[.int .i64 s.sort, .bool s.flag, .int .u64 (s.bits : Int), .string ⟨s.text.toArray⟩, .int .i64 s.count, .slice K s.keys.length q9]] w fun e w' => e = .returned (errV (stepT l s).1) ∧ RwX p ty B (stepT l s).2 w' ∧ Apart p B w w' := by
 unfold stepT
 by_cases hlo : s.sort < 5
 ·by_cases hf : 65536 ≤ l.length
  ·rw [if_pos ⟨hlo, hf⟩]
   obtain ⟨A, q, hB⟩ := hR.slice
   refine (step_full s.sort s.flag (s.bits : Int) s.text s.count K s.keys.length q9 p ty A l.length q w hB hlo hf).mono ?_
   rintro e w' ⟨rfl, hb⟩
   exact ⟨rfl, hR.below hb, Apart.of hb (by have := hR.plt; omega)⟩
  ·rw [if_neg (by omega)]
   exact mstep_low s hs K q9 p ty B l w hR hkv hlo (by omega)
 ·rw [if_neg (by omega)]
  exact mstep_high s hs K q9 p ty B l w hR hkv hlo hn
end Nd
end Go.Proofs.YtbajkglacfheiaaGreatDoor
namespace Go.Proofs.YtbajkglacfheiaaGreatDoor
open Go.RowKit Mem
namespace Nd

theorem rdk_nil (w : World) : RdK w (.slice none 0 0) [] := ⟨none, 0, rfl, .inl rfl⟩
def listS (n : Int) : Stp := ⟨5, false, 0, [], n, []⟩
theorem list_fine (n : Int) : (listS n).Fine := ⟨by simp [listS], by simp [listS], by simp [listS], by simp [listS, lens], by simp [listS]⟩
theorem mk_list (n : Int) (p : Nat) (ty : TypeId) (B : Nat) (l : List Tr) (w : World) (hR : RwX p ty B l w) (hn : l.length ≤ 65536) :
  Calls Tryz.prog 24 #[.pointer (some ⟨p, 0, none⟩), .int .i64 n] w fun e w' => e = .returned (errV (stepT l (listS n)).1) ∧ RwX p ty B (stepT l (listS n)).2 w' ∧ Apart p B w w' := by
 have H := Lib.hid (mstep_any (listS n) (list_fine n) none 0 p ty B l w hR (rdk_nil w) hn)
 go_enter Tryz.func24, Tryz.ntmps24
 go_wp2_with fail
 refine H.out.mono ?_
 rintro e w2 ⟨rfl, h⟩
 have HH := Lib.hid h
 clear h
 go_wp2
 go_ret
 exact ⟨rfl, HH.out⟩
end Nd
end Go.Proofs.YtbajkglacfheiaaGreatDoor
namespace Go.Proofs.YtbajkglacfheiaaGreatDoor
open Go.RowKit Mem
namespace Nd

def numS (x : Nat) : Stp := ⟨3, false, x, [], 0, []⟩
theorem num_fine {x : Nat} (h : x < 18446744073709551616) : (numS x).Fine := ⟨h, by simp [numS], by simp [numS], by simp [numS, lens], by simp [numS]⟩
theorem mk_num (x : Nat) (hx : x < 18446744073709551616) (p : Nat) (ty : TypeId) (B : Nat) (l : List Tr) (w : World) (hR : RwX p ty B l w) (hn : l.length ≤ 65536) :
  Calls Tryz.prog 23 #[.pointer (some ⟨p, 0, none⟩), .float .f64 x] w fun e w' => e = .returned (errV (stepT l (numS x)).1) ∧ RwX p ty B (stepT l (numS x)).2 w' ∧ Apart p B w w' := by
 have H := Lib.hid (mstep_any (numS x) (num_fine hx) none 0 p ty B l w hR (rdk_nil w) hn)
 have hfb := f64bits x
 clear hx
 go_enter Tryz.func23, Tryz.ntmps23
 go_wp2_with fail
 refine H.out.mono ?_
 rintro e w2 ⟨rfl, h⟩
 have HH := Lib.hid h
 clear h
 go_wp2
 go_ret
 exact ⟨rfl, HH.out⟩
theorem mk_tree (p : Nat) (ty : TypeId) (B : Nat) (t : Tr) (w : World) (hR : RwX p ty B [t] w) :
  Calls Tryz.prog 25 #[.pointer (some ⟨p, 0, none⟩)] w fun e w' => (∃ g, e = .returned (.tuple #[.pointer (some ⟨g, 0, none⟩), .nilIface]) ∧ TreeAt B w' g t) ∧ Below w.heap.size w w' := by
 obtain ⟨v, xs, hR⟩ := hR
 obtain ⟨A, q, rfl⟩ := own_slice hR.own
 have hB := hR.bl
 have hle := hR.le
 have hfit := hR.fit t (by simp)
 have hcell : ∃ g tx ux, A = some ⟨g, 0, none⟩ ∧ w.cell? ⟨g, 0, none⟩ = some (.iface tx ux) ∧ RdT (fun k => B ≤ k) w t (.iface tx ux) := by
  have hl := hR.rd.len
  obtain ⟨x, rfl⟩ : ∃ x, xs = [x] := by
   match xs, hl with
   | [x], _ => exact ⟨x, rfl⟩
  have hx := hR.rd.at (j := 0) rfl rfl
  obtain ⟨tx, ux, rfl⟩ := hx.iface
  rcases hR.own.2 with ⟨_, h⟩ | ⟨g, cap, cur, h, _, hg, _, _, hs, ht⟩
  ·cases h
  ·injection h with h1 _ _
   refine ⟨g, tx, ux, h1, ?_, RdT.move (fun j hj hs => ⟨hs.1, rfl⟩) _ _ hx⟩
   rw [cell_of_row w g 0 cur _ _ hg]
   have h2 : (cur.toList.take ([t].length * 1))[0]? = some (.iface tx ux) := by rw [ht]; rfl
   rw [List.getElem?_take] at h2
   simpa using h2
 obtain ⟨g, tx, ux, rfl, hc, hrd⟩ := hcell
 simp only [List.length_cons, List.length_nil, Nat.zero_add] at hB
 have a0 : w.cell? ⟨p, 0, none⟩ = some (.slice (some ⟨g, 0, none⟩) 1 q) := hB.cell 0
 have HP : Hid (TreeAt B (w.alloc (.cells #[.iface tx ux] 123)) w.heap.size t) := Lib.hid ⟨hle, hfit, _, Blk.new _ _ _, RdT.move (fun j hj hs => ⟨hs, Below.heap_alloc w _ j hj⟩) _ _ hrd⟩
 clear hR hB hrd hfit
 go_enter Tryz.func25, Tryz.ntmps25
 go_wp2
 go_ret2
 exact ⟨⟨_, rfl, HP.out⟩, (Below.refl _ _).alloc (Nat.le_refl _) _⟩
end Nd
end Go.Proofs.YtbajkglacfheiaaGreatDoor
namespace Go.Proofs.YtbajkglacfheiaaGreatDoor
open Go.RowKit Mem Utf Ref3 Idx Tok TokC
set_option maxRecDepth 100000
namespace Nd
theorem nb_fin {u : Tr} (ho : u.Ok) : finB u.nb = true ∧ u.nb < 18446744073709551616 := by
 cases u with
 | num x => exact ⟨ho.1, ho.2.2⟩
 | _ => exact ⟨(by decide : finB 0 = true), (by decide : 0 < 18446744073709551616)⟩
end Nd
end Go.Proofs.YtbajkglacfheiaaGreatDoor
