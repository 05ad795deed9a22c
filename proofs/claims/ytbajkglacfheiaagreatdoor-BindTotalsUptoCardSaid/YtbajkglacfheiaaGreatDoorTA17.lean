/-
  Walks of package bind: number, whole: a number as a kind of whole number.
  Package utf: Units of a right text.
-/
import Derived.Test.YtbajkglacfheiaaGreatDoorTA16
import Derived.Test.YtbajkglacfheiaaGreatDoorTA15
import Derived.Test.YtbajkglacfheiaaGreatDoorTA5
import Derived.Test.YtbajkglacfheiaaGreatDoorTA1
import Derived.RangeFuncBox
import Derived.WalkKit
import Derived.Outline
import Derived.RangeFuncNested
import Derived.Laws.Cover4
import GoSem.Core.Utf8
import Derived.Laws.Bits128
import Derived.OwnWalk
import Derived.Maps.OwnRows
set_option linter.unusedVariables false
set_option maxRecDepth 100000
set_option maxHeartbeats 16000000
namespace Go.Proofs.YtbajkglacfheiaaGreatDoor
open Go.RowKit Mem
namespace Nd
theorem ref_boxB (w : World) (v : Value) : Below w.heap.size w (w.alloc (.cells #[v] 58)) := (Below.refl _ _).alloc (Nat.le_refl _) _
theorem bnumber_ok (x : Nat) (v : Value) (p : Tx) (w : World) (h : RdA w (.num x) v) : Calls Tryz.prog 82 #[.agg #[v], .string ⟨p.toArray⟩] w fun e w' => e = .returned (.tuple #[.float .f64 x, .nilIface]) ∧ Below w.heap.size w w' := by
 have hx := ref_boxB w v
 have c1 := (Blk.new w 58 #[v]).cell 0
 have HH := Lib.hid (rda_below h hx)
 have HX := Lib.hid hx
 clear h hx
 go_enter Tryz.func82, Tryz.ntmps82
 go_wp2_with fail
 ((with_reducible refine (numr_any (fun _ => True) (.num x) v _ HH.out).mono ?_); rintro e w2 ⟨rfl, hb2⟩)
 dsimp only [Tr.nb, Tr.isNb]
 have HB2 := Lib.hid (HX.out.trans (hb2.mono HX.out.size))
 clear hb2 c1
 go_wp2
 go_ret2
 exact ⟨rfl, HB2.out⟩
theorem bnumber_no (t : Tr) (ht : t.isNb = false) (v : Value) (p : Tx) (w : World) (h : RdA w t v) : Calls Tryz.prog 82 #[.agg #[v], .string ⟨p.toArray⟩] w fun e w' => e = .returned (.tuple #[.float .f64 0, trlV 5 p]) ∧ Below w.heap.size w w' := by
 have hx := ref_boxB w v
 have c1 := (Blk.new w 58 #[v]).cell 0
 have HH := Lib.hid (rda_below h hx)
 have HX := Lib.hid hx
 clear h hx
 go_enter Tryz.func82, Tryz.ntmps82
 go_wp2_with fail
 ((with_reducible refine (numr_any (fun _ => True) t v _ HH.out).mono ?_); rintro e w2 ⟨rfl, hb2⟩)
 rw [ht]
 have HB2 := Lib.hid (HX.out.trans (hb2.mono HX.out.size))
 clear hb2 c1 ht
 go_wp2_with fail
 ((with_reducible refine (btrail_any 5 p _).mono ?_); rintro e w3 ⟨rfl, rfl⟩)
 unfold trlV
 go_wp2
 go_ret2
 exact ⟨rfl, HB2.out⟩
def intV (k : Nat) (z : Int) : Value :=
 if k = 3 then .iface 257 (.int .i8 z) else
 if k = 4 then .iface 127 (.int .i16 z) else
 if k = 5 then .iface 258 (.int .i32 z) else
 if k = 6 then .iface 259 (.int .i64 z) else
 if k = 7 then .iface 260 (.int .u8 z) else
 if k = 8 then .iface 261 (.int .u16 z) else
 if k = 9 then .iface 262 (.int .u32 z) else
 .iface 263 (.int .u64 z)
def BwP (k : Nat) (p : Tx) (r : Int ⊕ Int) (w : World) (e : Ending) (w' : World) : Prop :=
 (match r with
  | .inl n => e = .returned (.tuple #[.nilIface, trlV n p])
  | .inr z => e = .returned (.tuple #[intV k z, .nilIface])) ∧ Below w.heap.size w w'
theorem bwhole3 (x : Nat) (v : Value) (p : Tx) (w : World) (h : RdA w (.num x) v) (hb : x < 18446744073709551616) (hf : finB x = true) : Calls Tryz.prog 88 #[.agg #[v], .string ⟨p.toArray⟩, .int .i64 3] w (BwP 3 p (intD 3 x) w) := by
 have hx := ref_boxB w v
 have c1 := (Blk.new w 58 #[v]).cell 0
 have HH := Lib.hid (rda_below h hx)
 have HX := Lib.hid hx
 have HB := Lib.hid (And.intro hb hf)
 have q1 := err_ne_nil
 have q2 := err_ne_held
 clear h hx hb hf
 obtain ⟨r, hr⟩ : ∃ r, intD 3 x = r := ⟨_, rfl⟩
 have HW := Lib.hid (within3_any x HB.out.1 HB.out.2)
 rw [hr] at HW ⊢
 go_enter Tryz.func88, Tryz.ntmps88
 go_wp2_with fail
 ((with_reducible refine (bnumber_ok x v p _ HH.out).mono ?_); rintro e w2 ⟨rfl, hb2⟩)
 have HB2 := Lib.hid (HX.out.trans (hb2.mono HX.out.size))
 clear hb2 c1 hr
 go_wp2_with fail
 ((with_reducible refine (HW.out _).mono ?_); rintro e w3 ⟨he, rfl⟩)
 cases r with
 | inl n =>
  obtain rfl := he
  unfold errN
  go_wp2_with fail
  ((with_reducible refine (btrail_any n p _).mono ?_); rintro e w3 ⟨rfl, rfl⟩)
  unfold trlV
  go_wp2
  go_ret2
  exact ⟨rfl, HB2.out⟩
 | inr z =>
  obtain rfl := he
  go_wp2
  go_ret2
  exact ⟨rfl, HB2.out⟩
theorem bwhole4 (x : Nat) (v : Value) (p : Tx) (w : World) (h : RdA w (.num x) v) (hb : x < 18446744073709551616) (hf : finB x = true) : Calls Tryz.prog 88 #[.agg #[v], .string ⟨p.toArray⟩, .int .i64 4] w (BwP 4 p (intD 4 x) w) := by
 have hx := ref_boxB w v
 have c1 := (Blk.new w 58 #[v]).cell 0
 have HH := Lib.hid (rda_below h hx)
 have HX := Lib.hid hx
 have HB := Lib.hid (And.intro hb hf)
 have q1 := err_ne_nil
 have q2 := err_ne_held
 clear h hx hb hf
 obtain ⟨r, hr⟩ : ∃ r, intD 4 x = r := ⟨_, rfl⟩
 have HW := Lib.hid (within4_any x HB.out.1 HB.out.2)
 rw [hr] at HW ⊢
 go_enter Tryz.func88, Tryz.ntmps88
 go_wp2_with fail
 ((with_reducible refine (bnumber_ok x v p _ HH.out).mono ?_); rintro e w2 ⟨rfl, hb2⟩)
 have HB2 := Lib.hid (HX.out.trans (hb2.mono HX.out.size))
 clear hb2 c1 hr
 go_wp2_with fail
 ((with_reducible refine (HW.out _).mono ?_); rintro e w3 ⟨he, rfl⟩)
 cases r with
 | inl n =>
  obtain rfl := he
  unfold errN
  go_wp2_with fail
  ((with_reducible refine (btrail_any n p _).mono ?_); rintro e w3 ⟨rfl, rfl⟩)
  unfold trlV
  go_wp2
  go_ret2
  exact ⟨rfl, HB2.out⟩
 | inr z =>
  obtain rfl := he
  go_wp2
  go_ret2
  exact ⟨rfl, HB2.out⟩
theorem bwhole5 (x : Nat) (v : Value) (p : Tx) (w : World) (h : RdA w (.num x) v) (hb : x < 18446744073709551616) (hf : finB x = true) : Calls Tryz.prog 88 #[.agg #[v], .string ⟨p.toArray⟩, .int .i64 5] w (BwP 5 p (intD 5 x) w) := by
 have hx := ref_boxB w v
 have c1 := (Blk.new w 58 #[v]).cell 0
 have HH := Lib.hid (rda_below h hx)
 have HX := Lib.hid hx
 have HB := Lib.hid (And.intro hb hf)
 have q1 := err_ne_nil
 have q2 := err_ne_held
 clear h hx hb hf
 obtain ⟨r, hr⟩ : ∃ r, intD 5 x = r := ⟨_, rfl⟩
 have HW := Lib.hid (within5_any x HB.out.1 HB.out.2)
 rw [hr] at HW ⊢
 go_enter Tryz.func88, Tryz.ntmps88
 go_wp2_with fail
 ((with_reducible refine (bnumber_ok x v p _ HH.out).mono ?_); rintro e w2 ⟨rfl, hb2⟩)
 have HB2 := Lib.hid (HX.out.trans (hb2.mono HX.out.size))
 clear hb2 c1 hr
 go_wp2_with fail
 ((with_reducible refine (HW.out _).mono ?_); rintro e w3 ⟨he, rfl⟩)
 cases r with
 | inl n =>
  obtain rfl := he
  unfold errN
  go_wp2_with fail
  ((with_reducible refine (btrail_any n p _).mono ?_); rintro e w3 ⟨rfl, rfl⟩)
  unfold trlV
  go_wp2
  go_ret2
  exact ⟨rfl, HB2.out⟩
 | inr z =>
  obtain rfl := he
  go_wp2
  go_ret2
  exact ⟨rfl, HB2.out⟩
theorem bwhole6 (x : Nat) (v : Value) (p : Tx) (w : World) (h : RdA w (.num x) v) (hb : x < 18446744073709551616) (hf : finB x = true) : Calls Tryz.prog 88 #[.agg #[v], .string ⟨p.toArray⟩, .int .i64 6] w (BwP 6 p (intD 6 x) w) := by
 have hx := ref_boxB w v
 have c1 := (Blk.new w 58 #[v]).cell 0
 have HH := Lib.hid (rda_below h hx)
 have HX := Lib.hid hx
 have HB := Lib.hid (And.intro hb hf)
 have q1 := err_ne_nil
 have q2 := err_ne_held
 clear h hx hb hf
 obtain ⟨r, hr⟩ : ∃ r, intD 6 x = r := ⟨_, rfl⟩
 have HW := Lib.hid (within6_any x HB.out.1 HB.out.2)
 rw [hr] at HW ⊢
 go_enter Tryz.func88, Tryz.ntmps88
 go_wp2_with fail
 ((with_reducible refine (bnumber_ok x v p _ HH.out).mono ?_); rintro e w2 ⟨rfl, hb2⟩)
 have HB2 := Lib.hid (HX.out.trans (hb2.mono HX.out.size))
 clear hb2 c1 hr
 go_wp2_with fail
 ((with_reducible refine (HW.out _).mono ?_); rintro e w3 ⟨he, rfl⟩)
 cases r with
 | inl n =>
  obtain rfl := he
  unfold errN
  go_wp2_with fail
  ((with_reducible refine (btrail_any n p _).mono ?_); rintro e w3 ⟨rfl, rfl⟩)
  unfold trlV
  go_wp2
  go_ret2
  exact ⟨rfl, HB2.out⟩
 | inr z =>
  obtain rfl := he
  go_wp2
  go_ret2
  exact ⟨rfl, HB2.out⟩
theorem bwhole7 (x : Nat) (v : Value) (p : Tx) (w : World) (h : RdA w (.num x) v) (hb : x < 18446744073709551616) (hf : finB x = true) : Calls Tryz.prog 88 #[.agg #[v], .string ⟨p.toArray⟩, .int .i64 7] w (BwP 7 p (intD 7 x) w) := by
 have hx := ref_boxB w v
 have c1 := (Blk.new w 58 #[v]).cell 0
 have HH := Lib.hid (rda_below h hx)
 have HX := Lib.hid hx
 have HB := Lib.hid (And.intro hb hf)
 have q1 := err_ne_nil
 have q2 := err_ne_held
 clear h hx hb hf
 obtain ⟨r, hr⟩ : ∃ r, intD 7 x = r := ⟨_, rfl⟩
 have HW := Lib.hid (counted7_any x HB.out.1 HB.out.2)
 rw [hr] at HW ⊢
 go_enter Tryz.func88, Tryz.ntmps88
 go_wp2_with fail
 ((with_reducible refine (bnumber_ok x v p _ HH.out).mono ?_); rintro e w2 ⟨rfl, hb2⟩)
 have HB2 := Lib.hid (HX.out.trans (hb2.mono HX.out.size))
 clear hb2 c1 hr
 go_wp2_with fail
 ((with_reducible refine (HW.out _).mono ?_); rintro e w3 ⟨he, rfl⟩)
 cases r with
 | inl n =>
  obtain rfl := he
  unfold errN
  go_wp2_with fail
  ((with_reducible refine (btrail_any n p _).mono ?_); rintro e w3 ⟨rfl, rfl⟩)
  unfold trlV
  go_wp2
  go_ret2
  exact ⟨rfl, HB2.out⟩
 | inr z =>
  obtain rfl := he
  go_wp2
  go_ret2
  exact ⟨rfl, HB2.out⟩
theorem bwhole8 (x : Nat) (v : Value) (p : Tx) (w : World) (h : RdA w (.num x) v) (hb : x < 18446744073709551616) (hf : finB x = true) : Calls Tryz.prog 88 #[.agg #[v], .string ⟨p.toArray⟩, .int .i64 8] w (BwP 8 p (intD 8 x) w) := by
 have hx := ref_boxB w v
 have c1 := (Blk.new w 58 #[v]).cell 0
 have HH := Lib.hid (rda_below h hx)
 have HX := Lib.hid hx
 have HB := Lib.hid (And.intro hb hf)
 have q1 := err_ne_nil
 have q2 := err_ne_held
 clear h hx hb hf
 obtain ⟨r, hr⟩ : ∃ r, intD 8 x = r := ⟨_, rfl⟩
 have HW := Lib.hid (counted8_any x HB.out.1 HB.out.2)
 rw [hr] at HW ⊢
 go_enter Tryz.func88, Tryz.ntmps88
 go_wp2_with fail
 ((with_reducible refine (bnumber_ok x v p _ HH.out).mono ?_); rintro e w2 ⟨rfl, hb2⟩)
 have HB2 := Lib.hid (HX.out.trans (hb2.mono HX.out.size))
 clear hb2 c1 hr
 go_wp2_with fail
 ((with_reducible refine (HW.out _).mono ?_); rintro e w3 ⟨he, rfl⟩)
 cases r with
 | inl n =>
  obtain rfl := he
  unfold errN
  go_wp2_with fail
  ((with_reducible refine (btrail_any n p _).mono ?_); rintro e w3 ⟨rfl, rfl⟩)
  unfold trlV
  go_wp2
  go_ret2
  exact ⟨rfl, HB2.out⟩
 | inr z =>
  obtain rfl := he
  go_wp2
  go_ret2
  exact ⟨rfl, HB2.out⟩
theorem bwhole9 (x : Nat) (v : Value) (p : Tx) (w : World) (h : RdA w (.num x) v) (hb : x < 18446744073709551616) (hf : finB x = true) : Calls Tryz.prog 88 #[.agg #[v], .string ⟨p.toArray⟩, .int .i64 9] w (BwP 9 p (intD 9 x) w) := by
 have hx := ref_boxB w v
 have c1 := (Blk.new w 58 #[v]).cell 0
 have HH := Lib.hid (rda_below h hx)
 have HX := Lib.hid hx
 have HB := Lib.hid (And.intro hb hf)
 have q1 := err_ne_nil
 have q2 := err_ne_held
 clear h hx hb hf
 obtain ⟨r, hr⟩ : ∃ r, intD 9 x = r := ⟨_, rfl⟩
 have HW := Lib.hid (counted9_any x HB.out.1 HB.out.2)
 rw [hr] at HW ⊢
 go_enter Tryz.func88, Tryz.ntmps88
 go_wp2_with fail
 ((with_reducible refine (bnumber_ok x v p _ HH.out).mono ?_); rintro e w2 ⟨rfl, hb2⟩)
 have HB2 := Lib.hid (HX.out.trans (hb2.mono HX.out.size))
 clear hb2 c1 hr
 go_wp2_with fail
 ((with_reducible refine (HW.out _).mono ?_); rintro e w3 ⟨he, rfl⟩)
 cases r with
 | inl n =>
  obtain rfl := he
  unfold errN
  go_wp2_with fail
  ((with_reducible refine (btrail_any n p _).mono ?_); rintro e w3 ⟨rfl, rfl⟩)
  unfold trlV
  go_wp2
  go_ret2
  exact ⟨rfl, HB2.out⟩
 | inr z =>
  obtain rfl := he
  go_wp2
  go_ret2
  exact ⟨rfl, HB2.out⟩
theorem bwhole10 (x : Nat) (v : Value) (p : Tx) (w : World) (h : RdA w (.num x) v) (hb : x < 18446744073709551616) (hf : finB x = true) : Calls Tryz.prog 88 #[.agg #[v], .string ⟨p.toArray⟩, .int .i64 10] w (BwP 10 p (intD 10 x) w) := by
 have hx := ref_boxB w v
 have c1 := (Blk.new w 58 #[v]).cell 0
 have HH := Lib.hid (rda_below h hx)
 have HX := Lib.hid hx
 have HB := Lib.hid (And.intro hb hf)
 have q1 := err_ne_nil
 have q2 := err_ne_held
 clear h hx hb hf
 obtain ⟨r, hr⟩ : ∃ r, intD 10 x = r := ⟨_, rfl⟩
 have HW := Lib.hid (counted10_any x HB.out.1 HB.out.2)
 rw [hr] at HW ⊢
 go_enter Tryz.func88, Tryz.ntmps88
 go_wp2_with fail
 ((with_reducible refine (bnumber_ok x v p _ HH.out).mono ?_); rintro e w2 ⟨rfl, hb2⟩)
 have HB2 := Lib.hid (HX.out.trans (hb2.mono HX.out.size))
 clear hb2 c1 hr
 go_wp2_with fail
 ((with_reducible refine (HW.out _).mono ?_); rintro e w3 ⟨he, rfl⟩)
 cases r with
 | inl n =>
  obtain rfl := he
  unfold errN
  go_wp2_with fail
  ((with_reducible refine (btrail_any n p _).mono ?_); rintro e w3 ⟨rfl, rfl⟩)
  unfold trlV
  go_wp2
  go_ret2
  exact ⟨rfl, HB2.out⟩
 | inr z =>
  obtain rfl := he
  go_wp2
  go_ret2
  exact ⟨rfl, HB2.out⟩
theorem bwhole_no (k : Int) (t : Tr) (ht : t.isNb = false) (v : Value) (p : Tx) (w : World) (h : RdA w t v) : Calls Tryz.prog 88 #[.agg #[v], .string ⟨p.toArray⟩, .int .i64 k] w fun e w' => e = .returned (.tuple #[.nilIface, trlV 5 p]) ∧ Below w.heap.size w w' := by
 have hx := ref_boxB w v
 have c1 := (Blk.new w 58 #[v]).cell 0
 have HH := Lib.hid (rda_below h hx)
 have HX := Lib.hid hx
 have HT := Lib.hid ht
 have q2 := err_ne_held
 clear h hx ht
 go_enter Tryz.func88, Tryz.ntmps88
 go_wp2_with fail
 ((with_reducible refine (bnumber_no t HT.out v p _ HH.out).mono ?_); rintro e w2 ⟨rfl, hb2⟩)
 have HB2 := Lib.hid (HX.out.trans (hb2.mono HX.out.size))
 clear hb2 c1
 unfold trlV
 go_wp2
 go_ret2
 exact ⟨rfl, HB2.out⟩
theorem bwhole_k (k : Nat) (h3 : 3 ≤ k) (h10 : k ≤ 10) (x : Nat) (v : Value) (p : Tx) (w : World) (h : RdA w (.num x) v) (hb : x < 18446744073709551616) (hf : finB x = true) : Calls Tryz.prog 88 #[.agg #[v], .string ⟨p.toArray⟩, .int .i64 (k : Int)] w (BwP k p (intD k x) w) := by
 rcases (by omega : k = 3 ∨ k = 4 ∨ k = 5 ∨ k = 6 ∨ k = 7 ∨ k = 8 ∨ k = 9 ∨ k = 10) with rfl | rfl | rfl | rfl | rfl | rfl | rfl | rfl
 ·exact bwhole3 x v p w h hb hf
 ·exact bwhole4 x v p w h hb hf
 ·exact bwhole5 x v p w h hb hf
 ·exact bwhole6 x v p w h hb hf
 ·exact bwhole7 x v p w h hb hf
 ·exact bwhole8 x v p w h hb hf
 ·exact bwhole9 x v p w h hb hf
 ·exact bwhole10 x v p w h hb hf
end Nd
end Go.Proofs.YtbajkglacfheiaaGreatDoor
namespace Go.Proofs.YtbajkglacfheiaaGreatDoor
open Go Go.RowKit Mem
namespace Nd
theorem own_lowB {w : World} {b b' : Nat} {e : TypeId} {z : Nat} {v : Value} {n : Nat} {xs : List Value} (h : w.ownsRow b e z v n xs) (hb : b' ≤ b) : w.ownsRow b' e z v n xs := by
 refine ⟨h.1, ?_⟩
 rcases h.2 with h | ⟨g, cap, cur, e1, h1, rest⟩
 ·exact .inl h
 ·exact .inr ⟨g, cap, cur, e1, by omega, rest⟩
end Nd
end Go.Proofs.YtbajkglacfheiaaGreatDoor
