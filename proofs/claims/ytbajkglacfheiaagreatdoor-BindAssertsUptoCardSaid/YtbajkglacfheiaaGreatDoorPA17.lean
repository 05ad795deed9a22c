/-
  Walks of package bind: number, whole: a number as a kind of whole number.
  Plain: a right text is its characters' forms, one behind the other.
  Plain: what the model decodes of a right text: its characters, one by one.
  Plain: the steps of a range over a string in any world; units of characters; texts out of characters.
  Package utf: put.
  Package utf: put of a character of two units.
  Plain: a character's form is a right text.
-/
import Derived.Test.YtbajkglacfheiaaGreatDoorPA16
import Derived.Test.YtbajkglacfheiaaGreatDoorPA15
import Derived.Test.YtbajkglacfheiaaGreatDoorPA5
import Derived.Test.YtbajkglacfheiaaGreatDoorPA1
import GoSem.Core.Utf8
import Derived.WalkKit
import Derived.Outline
import Derived.RangeFuncNested
import Derived.Laws.Cover4
import Derived.OwnWalk
import Derived.Maps.OwnRows
import Derived.Laws.Bits128
set_option linter.unusedVariables false
set_option linter.unusedSimpArgs false
set_option maxRecDepth 100000
set_option maxHeartbeats 16000000
namespace Go.Proofs.YtbajkglacfheiaaGreatDoor
open Go.RowKit Mem
namespace Nd
theorem ref_boxB (w : World) (v : Value) : Below w.heap.size w (w.alloc (.cells #[v] 58)) := (Below.refl _ _).alloc (Nat.le_refl _) _
theorem bnumber_ok (x : Nat) (v : Value) (p : Tx) (w : World) (h : RdA w (.num x) v) : Calls Tryz.prog 82 #[.agg #[v], .string ⟨p.toArray⟩] w fun e w' => e = .returned (.tuple #[.float .f64 x, .nilIface]) ∧ Below w.heap.size w w' := by
 have hx := ref_boxB w v
 have c1 := (Blk.new w 58 #[v]).cell 0
 have HH := Lib.hid (rda_below h hx)
 have HX := Lib.hid hx
 clear h hx
 go_enter Tryz.func82, Tryz.ntmps82
 go_wp2_with fail
 ((with_reducible refine (numr_any (fun _ => True) (.num x) v _ HH.out).mono ?_); rintro e w2 ⟨rfl, hb2⟩)
 dsimp only [Tr.nb, Tr.isNb]
 have HB2 := Lib.hid (HX.out.trans (hb2.mono HX.out.size))
 clear hb2 c1
 go_wp2
 go_ret2
 exact ⟨rfl, HB2.out⟩
theorem bnumber_no (t : Tr) (ht : t.isNb = false) (v : Value) (p : Tx) (w : World) (h : RdA w t v) : Calls Tryz.prog 82 #[.agg #[v], .string ⟨p.toArray⟩] w fun e w' => e = .returned (.tuple #[.float .f64 0, trlV 5 p]) ∧ Below w.heap.size w w' := by
 have hx := ref_boxB w v
 have c1 := (Blk.new w 58 #[v]).cell 0
 have HH := Lib.hid (rda_below h hx)
 have HX := Lib.hid hx
 clear h hx
 go_enter Tryz.func82, Tryz.ntmps82
 go_wp2_with fail
 ((with_reducible refine (numr_any (fun _ => True) t v _ HH.out).mono ?_); rintro e w2 ⟨rfl, hb2⟩)
 rw [ht]
 have HB2 := Lib.hid (HX.out.trans (hb2.mono HX.out.size))
 clear hb2 c1 ht
 go_wp2_with fail
 ((with_reducible refine (btrail_any 5 p _).mono ?_); rintro e w3 ⟨rfl, rfl⟩)
 unfold trlV
 go_wp2
 go_ret2
 exact ⟨rfl, HB2.out⟩
def intV (k : Nat) (z : Int) : Value :=
 if k = 3 then .iface 257 (.int .i8 z) else
 if k = 4 then .iface 127 (.int .i16 z) else
 if k = 5 then .iface 258 (.int .i32 z) else
 if k = 6 then .iface 259 (.int .i64 z) else
 if k = 7 then .iface 260 (.int .u8 z) else
 if k = 8 then .iface 261 (.int .u16 z) else
 if k = 9 then .iface 262 (.int .u32 z) else
 .iface 263 (.int .u64 z)
def BwP (k : Nat) (p : Tx) (r : Int ⊕ Int) (w : World) (e : Ending) (w' : World) : Prop :=
 (match r with
  | .inl n => e = .returned (.tuple #[.nilIface, trlV n p])
  | .inr z => e = .returned (.tuple #[intV k z, .nilIface])) ∧ Below w.heap.size w w'
theorem bwhole3 (x : Nat) (v : Value) (p : Tx) (w : World) (h : RdA w (.num x) v) (hb : x < 18446744073709551616) (hf : finB x = true) : Calls Tryz.prog 88 #[.agg #[v], .string ⟨p.toArray⟩, .int .i64 3] w (BwP 3 p (intD 3 x) w) := by
 have hx := ref_boxB w v
 have c1 := (Blk.new w 58 #[v]).cell 0
 have HH := Lib.hid (rda_below h hx)
 have HX := Lib.hid hx
 have HB := Lib.hid (And.intro hb hf)
 have q1 := err_ne_nil
 have q2 := err_ne_held
 clear h hx hb hf
 obtain ⟨r, hr⟩ : ∃ r, intD 3 x = r := ⟨_, rfl⟩
 have HW := Lib.hid (within3_any x HB.out.1 HB.out.2)
 rw [hr] at HW ⊢
 go_enter Tryz.func88, Tryz.ntmps88
 go_wp2_with fail
 ((with_reducible refine (bnumber_ok x v p _ HH.out).mono ?_); rintro e w2 ⟨rfl, hb2⟩)
 have HB2 := Lib.hid (HX.out.trans (hb2.mono HX.out.size))
 clear hb2 c1 hr
 go_wp2_with fail
 ((with_reducible refine (HW.out _).mono ?_); rintro e w3 ⟨he, rfl⟩)
 cases r with
 | inl n =>
  obtain rfl := he
  unfold errN
  go_wp2_with fail
  ((with_reducible refine (btrail_any n p _).mono ?_); rintro e w3 ⟨rfl, rfl⟩)
  unfold trlV
  go_wp2
  go_ret2
  exact ⟨rfl, HB2.out⟩
 | inr z =>
  obtain rfl := he
  go_wp2
  go_ret2
  exact ⟨rfl, HB2.out⟩
theorem bwhole4 (x : Nat) (v : Value) (p : Tx) (w : World) (h : RdA w (.num x) v) (hb : x < 18446744073709551616) (hf : finB x = true) : Calls Tryz.prog 88 #[.agg #[v], .string ⟨p.toArray⟩, .int .i64 4] w (BwP 4 p (intD 4 x) w) := by
 have hx := ref_boxB w v
 have c1 := (Blk.new w 58 #[v]).cell 0
 have HH := Lib.hid (rda_below h hx)
 have HX := Lib.hid hx
 have HB := Lib.hid (And.intro hb hf)
 have q1 := err_ne_nil
 have q2 := err_ne_held
 clear h hx hb hf
 obtain ⟨r, hr⟩ : ∃ r, intD 4 x = r := ⟨_, rfl⟩
 have HW := Lib.hid (within4_any x HB.out.1 HB.out.2)
 rw [hr] at HW ⊢
 go_enter Tryz.func88, Tryz.ntmps88
 go_wp2_with fail
 ((with_reducible refine (bnumber_ok x v p _ HH.out).mono ?_); rintro e w2 ⟨rfl, hb2⟩)
 have HB2 := Lib.hid (HX.out.trans (hb2.mono HX.out.size))
 clear hb2 c1 hr
 go_wp2_with fail
 ((with_reducible refine (HW.out _).mono ?_); rintro e w3 ⟨he, rfl⟩)
 cases r with
 | inl n =>
  obtain rfl := he
  unfold errN
  go_wp2_with fail
  ((with_reducible refine (btrail_any n p _).mono ?_); rintro e w3 ⟨rfl, rfl⟩)
  unfold trlV
  go_wp2
  go_ret2
  exact ⟨rfl, HB2.out⟩
 | inr z =>
  obtain rfl := he
  go_wp2
  go_ret2
  exact ⟨rfl, HB2.out⟩
theorem bwhole5 (x : Nat) (v : Value) (p : Tx) (w : World) (h : RdA w (.num x) v) (hb : x < 18446744073709551616) (hf : finB x = true) : Calls Tryz.prog 88 #[.agg #[v], .string ⟨p.toArray⟩, .int .i64 5] w (BwP 5 p (intD 5 x) w) := by
 have hx := ref_boxB w v
 have c1 := (Blk.new w 58 #[v]).cell 0
 have HH := Lib.hid (rda_below h hx)
 have HX := Lib.hid hx
 have HB := Lib.hid (And.intro hb hf)
 have q1 := err_ne_nil
 have q2 := err_ne_held
 clear h hx hb hf
 obtain ⟨r, hr⟩ : ∃ r, intD 5 x = r := ⟨_, rfl⟩
 have HW := Lib.hid (within5_any x HB.out.1 HB.out.2)
 rw [hr] at HW ⊢
 go_enter Tryz.func88, Tryz.ntmps88
 go_wp2_with fail
 ((with_reducible refine (bnumber_ok x v p _ HH.out).mono ?_); rintro e w2 ⟨rfl, hb2⟩)
 have HB2 := Lib.hid (HX.out.trans (hb2.mono HX.out.size))
 clear hb2 c1 hr
 go_wp2_with fail
 ((with_reducible refine (HW.out _).mono ?_); rintro e w3 ⟨he, rfl⟩)
 cases r with
 | inl n =>
  obtain rfl := he
  unfold errN
  go_wp2_with fail
  ((with_reducible refine (btrail_any n p _).mono ?_); rintro e w3 ⟨rfl, rfl⟩)
  unfold trlV
  go_wp2
  go_ret2
  exact ⟨rfl, HB2.out⟩
 | inr z =>
  obtain rfl := he
  go_wp2
  go_ret2
  exact ⟨rfl, HB2.out⟩
theorem bwhole6 (x : Nat) (v : Value) (p : Tx) (w : World) (h : RdA w (.num x) v) (hb : x < 18446744073709551616) (hf : finB x = true) : Calls Tryz.prog 88 #[.agg #[v], .string ⟨p.toArray⟩, .int .i64 6] w (BwP 6 p (intD 6 x) w) := by
 have hx := ref_boxB w v
 have c1 := (Blk.new w 58 #[v]).cell 0
 have HH := Lib.hid (rda_below h hx)
 have HX := Lib.hid hx
 have HB := Lib.hid (And.intro hb hf)
 have q1 := err_ne_nil
 have q2 := err_ne_held
 clear h hx hb hf
 obtain ⟨r, hr⟩ : ∃ r, intD 6 x = r := ⟨_, rfl⟩
 have HW := Lib.hid (within6_any x HB.out.1 HB.out.2)
 rw [hr] at HW ⊢
 go_enter Tryz.func88, Tryz.ntmps88
 go_wp2_with fail
 ((with_reducible refine (bnumber_ok x v p _ HH.out).mono ?_); rintro e w2 ⟨rfl, hb2⟩)
 have HB2 := Lib.hid (HX.out.trans (hb2.mono HX.out.size))
 clear hb2 c1 hr
 go_wp2_with fail
 ((with_reducible refine (HW.out _).mono ?_); rintro e w3 ⟨he, rfl⟩)
 cases r with
 | inl n =>
  obtain rfl := he
  unfold errN
  go_wp2_with fail
  ((with_reducible refine (btrail_any n p _).mono ?_); rintro e w3 ⟨rfl, rfl⟩)
  unfold trlV
  go_wp2
  go_ret2
  exact ⟨rfl, HB2.out⟩
 | inr z =>
  obtain rfl := he
  go_wp2
  go_ret2
  exact ⟨rfl, HB2.out⟩
theorem bwhole7 (x : Nat) (v : Value) (p : Tx) (w : World) (h : RdA w (.num x) v) (hb : x < 18446744073709551616) (hf : finB x = true) : Calls Tryz.prog 88 #[.agg #[v], .string ⟨p.toArray⟩, .int .i64 7] w (BwP 7 p (intD 7 x) w) := by
 have hx := ref_boxB w v
 have c1 := (Blk.new w 58 #[v]).cell 0
 have HH := Lib.hid (rda_below h hx)
 have HX := Lib.hid hx
 have HB := Lib.hid (And.intro hb hf)
 have q1 := err_ne_nil
 have q2 := err_ne_held
 clear h hx hb hf
 obtain ⟨r, hr⟩ : ∃ r, intD 7 x = r := ⟨_, rfl⟩
 have HW := Lib.hid (counted7_any x HB.out.1 HB.out.2)
 rw [hr] at HW ⊢
 go_enter Tryz.func88, Tryz.ntmps88
 go_wp2_with fail
 ((with_reducible refine (bnumber_ok x v p _ HH.out).mono ?_); rintro e w2 ⟨rfl, hb2⟩)
 have HB2 := Lib.hid (HX.out.trans (hb2.mono HX.out.size))
 clear hb2 c1 hr
 go_wp2_with fail
 ((with_reducible refine (HW.out _).mono ?_); rintro e w3 ⟨he, rfl⟩)
 cases r with
 | inl n =>
  obtain rfl := he
  unfold errN
  go_wp2_with fail
  ((with_reducible refine (btrail_any n p _).mono ?_); rintro e w3 ⟨rfl, rfl⟩)
  unfold trlV
  go_wp2
  go_ret2
  exact ⟨rfl, HB2.out⟩
 | inr z =>
  obtain rfl := he
  go_wp2
  go_ret2
  exact ⟨rfl, HB2.out⟩
theorem bwhole8 (x : Nat) (v : Value) (p : Tx) (w : World) (h : RdA w (.num x) v) (hb : x < 18446744073709551616) (hf : finB x = true) : Calls Tryz.prog 88 #[.agg #[v], .string ⟨p.toArray⟩, .int .i64 8] w (BwP 8 p (intD 8 x) w) := by
 have hx := ref_boxB w v
 have c1 := (Blk.new w 58 #[v]).cell 0
 have HH := Lib.hid (rda_below h hx)
 have HX := Lib.hid hx
 have HB := Lib.hid (And.intro hb hf)
 have q1 := err_ne_nil
 have q2 := err_ne_held
 clear h hx hb hf
 obtain ⟨r, hr⟩ : ∃ r, intD 8 x = r := ⟨_, rfl⟩
 have HW := Lib.hid (counted8_any x HB.out.1 HB.out.2)
 rw [hr] at HW ⊢
 go_enter Tryz.func88, Tryz.ntmps88
 go_wp2_with fail
 ((with_reducible refine (bnumber_ok x v p _ HH.out).mono ?_); rintro e w2 ⟨rfl, hb2⟩)
 have HB2 := Lib.hid (HX.out.trans (hb2.mono HX.out.size))
 clear hb2 c1 hr
 go_wp2_with fail
 ((with_reducible refine (HW.out _).mono ?_); rintro e w3 ⟨he, rfl⟩)
 cases r with
 | inl n =>
  obtain rfl := he
  unfold errN
  go_wp2_with fail
  ((with_reducible refine (btrail_any n p _).mono ?_); rintro e w3 ⟨rfl, rfl⟩)
  unfold trlV
  go_wp2
  go_ret2
  exact ⟨rfl, HB2.out⟩
 | inr z =>
  obtain rfl := he
  go_wp2
  go_ret2
  exact ⟨rfl, HB2.out⟩
theorem bwhole9 (x : Nat) (v : Value) (p : Tx) (w : World) (h : RdA w (.num x) v) (hb : x < 18446744073709551616) (hf : finB x = true) : Calls Tryz.prog 88 #[.agg #[v], .string ⟨p.toArray⟩, .int .i64 9] w (BwP 9 p (intD 9 x) w) := by
 have hx := ref_boxB w v
 have c1 := (Blk.new w 58 #[v]).cell 0
 have HH := Lib.hid (rda_below h hx)
 have HX := Lib.hid hx
 have HB := Lib.hid (And.intro hb hf)
 have q1 := err_ne_nil
 have q2 := err_ne_held
 clear h hx hb hf
 obtain ⟨r, hr⟩ : ∃ r, intD 9 x = r := ⟨_, rfl⟩
 have HW := Lib.hid (counted9_any x HB.out.1 HB.out.2)
 rw [hr] at HW ⊢
 go_enter Tryz.func88, Tryz.ntmps88
 go_wp2_with fail
 ((with_reducible refine (bnumber_ok x v p _ HH.out).mono ?_); rintro e w2 ⟨rfl, hb2⟩)
 have HB2 := Lib.hid (HX.out.trans (hb2.mono HX.out.size))
 clear hb2 c1 hr
 go_wp2_with fail
 ((with_reducible refine (HW.out _).mono ?_); rintro e w3 ⟨he, rfl⟩)
 cases r with
 | inl n =>
  obtain rfl := he
  unfold errN
  go_wp2_with fail
  ((with_reducible refine (btrail_any n p _).mono ?_); rintro e w3 ⟨rfl, rfl⟩)
  unfold trlV
  go_wp2
  go_ret2
  exact ⟨rfl, HB2.out⟩
 | inr z =>
  obtain rfl := he
  go_wp2
  go_ret2
  exact ⟨rfl, HB2.out⟩
theorem bwhole10 (x : Nat) (v : Value) (p : Tx) (w : World) (h : RdA w (.num x) v) (hb : x < 18446744073709551616) (hf : finB x = true) : Calls Tryz.prog 88 #[.agg #[v], .string ⟨p.toArray⟩, .int .i64 10] w (BwP 10 p (intD 10 x) w) := by
 have hx := ref_boxB w v
 have c1 := (Blk.new w 58 #[v]).cell 0
 have HH := Lib.hid (rda_below h hx)
 have HX := Lib.hid hx
 have HB := Lib.hid (And.intro hb hf)
 have q1 := err_ne_nil
 have q2 := err_ne_held
 clear h hx hb hf
 obtain ⟨r, hr⟩ : ∃ r, intD 10 x = r := ⟨_, rfl⟩
 have HW := Lib.hid (counted10_any x HB.out.1 HB.out.2)
 rw [hr] at HW ⊢
 go_enter Tryz.func88, Tryz.ntmps88
 go_wp2_with fail
 ((with_reducible refine (bnumber_ok x v p _ HH.out).mono ?_); rintro e w2 ⟨rfl, hb2⟩)
 have HB2 := Lib.hid (HX.out.trans (hb2.mono HX.out.size))
 clear hb2 c1 hr
 go_wp2_with fail
 ((with_reducible refine (HW.out _).mono ?_); rintro e w3 ⟨he, rfl⟩)
 cases r with
 | inl n =>
  obtain rfl := he
  unfold errN
  go_wp2_with fail
  ((with_reducible refine (btrail_any n p _).mono ?_); rintro e w3 ⟨rfl, rfl⟩)
  unfold trlV
  go_wp2
  go_ret2
  exact ⟨rfl, HB2.out⟩
 | inr z =>
  obtain rfl := he
  go_wp2
  go_ret2
  exact ⟨rfl, HB2.out⟩
theorem bwhole_no (k : Int) (t : Tr) (ht : t.isNb = false) (v : Value) (p : Tx) (w : World) (h : RdA w t v) : Calls Tryz.prog 88 #[.agg #[v], .string ⟨p.toArray⟩, .int .i64 k] w fun e w' => e = .returned (.tuple #[.nilIface, trlV 5 p]) ∧ Below w.heap.size w w' := by
 have hx := ref_boxB w v
 have c1 := (Blk.new w 58 #[v]).cell 0
 have HH := Lib.hid (rda_below h hx)
 have HX := Lib.hid hx
 have HT := Lib.hid ht
 have q2 := err_ne_held
 clear h hx ht
 go_enter Tryz.func88, Tryz.ntmps88
 go_wp2_with fail
 ((with_reducible refine (bnumber_no t HT.out v p _ HH.out).mono ?_); rintro e w2 ⟨rfl, hb2⟩)
 have HB2 := Lib.hid (HX.out.trans (hb2.mono HX.out.size))
 clear hb2 c1
 unfold trlV
 go_wp2
 go_ret2
 exact ⟨rfl, HB2.out⟩
theorem bwhole_k (k : Nat) (h3 : 3 ≤ k) (h10 : k ≤ 10) (x : Nat) (v : Value) (p : Tx) (w : World) (h : RdA w (.num x) v) (hb : x < 18446744073709551616) (hf : finB x = true) : Calls Tryz.prog 88 #[.agg #[v], .string ⟨p.toArray⟩, .int .i64 (k : Int)] w (BwP k p (intD k x) w) := by
 rcases (by omega : k = 3 ∨ k = 4 ∨ k = 5 ∨ k = 6 ∨ k = 7 ∨ k = 8 ∨ k = 9 ∨ k = 10) with rfl | rfl | rfl | rfl | rfl | rfl | rfl | rfl
 ·exact bwhole3 x v p w h hb hf
 ·exact bwhole4 x v p w h hb hf
 ·exact bwhole5 x v p w h hb hf
 ·exact bwhole6 x v p w h hb hf
 ·exact bwhole7 x v p w h hb hf
 ·exact bwhole8 x v p w h hb hf
 ·exact bwhole9 x v p w h hb hf
 ·exact bwhole10 x v p w h hb hf
end Nd
end Go.Proofs.YtbajkglacfheiaaGreatDoor
namespace Go.Proofs.YtbajkglacfheiaaGreatDoor
open Go
namespace Nd
def encB (r : Nat) : List UInt8 := (Go.Utf8.encode (r : Int)).data.toList
def okR (r : Nat) : Prop := r < 55296 ∨ (57344 ≤ r ∧ r ≤ 1114111)
theorem okR_valid {r : Nat} (h : okR r) : Go.Utf8.valid (r : Int) = true := by
 unfold okR at h
 unfold Go.Utf8.valid
 simp only [Bool.or_eq_true, Bool.and_eq_true, decide_eq_true_eq]
 omega
theorem enc_one {r : Nat} (h : r < 128) : encB r = [UInt8.ofNat r] := by
 unfold encB Go.Utf8.encode
 rw [if_pos (okR_valid (by unfold okR; omega))]
 simp only [Int.toNat_natCast]
 rw [if_pos h]
theorem enc_two {r : Nat} (h : 128 ≤ r) (h2 : r < 2048) : encB r = [UInt8.ofNat (0xC0 + r / 64), UInt8.ofNat (0x80 + r % 64)] := by
 unfold encB Go.Utf8.encode
 rw [if_pos (okR_valid (by unfold okR; omega))]
 simp only [Int.toNat_natCast]
 rw [if_neg (by omega), if_pos h2]
theorem enc_three {r : Nat} (h : 2048 ≤ r) (h2 : r < 65536) (ho : okR r) : encB r = [UInt8.ofNat (0xE0 + r / 4096), UInt8.ofNat (0x80 + r / 64 % 64), UInt8.ofNat (0x80 + r % 64)] := by
 unfold encB Go.Utf8.encode
 rw [if_pos (okR_valid ho)]
 simp only [Int.toNat_natCast]
 rw [if_neg (by omega), if_neg (by omega), if_pos h2]
theorem enc_four {r : Nat} (h : 65536 ≤ r) (ho : okR r) : encB r = [UInt8.ofNat (0xF0 + r / 262144), UInt8.ofNat (0x80 + r / 4096 % 64), UInt8.ofNat (0x80 + r / 64 % 64), UInt8.ofNat (0x80 + r % 64)] := by
 unfold encB Go.Utf8.encode
 rw [if_pos (okR_valid ho)]
 simp only [Int.toNat_natCast]
 rw [if_neg (by omega), if_neg (by omega), if_neg (by omega)]
theorem ofNat_eq {n : Nat} {c : UInt8} (h : n = c.toNat) : UInt8.ofNat n = c := by
 rw [h]
 exact UInt8.ofNat_toNat
def Fed (l : List UInt8) (p h m : Int) : Prop := ¬ 0 < (Utf.feed l p h m).2.2.1 ∧ (Utf.feed l p h m).2.2.2 = false
theorem right_fed {l : List UInt8} (h : rightB l = true) : Fed l 0 0 0 := by
 unfold rightB Utf.chkV Utf.endV Utf.faultV at h
 unfold Fed
 split at h
 ·simp [Utf.isNil, Utf.spotV] at h
 ·rename_i h1
  refine ⟨h1, ?_⟩
  split at h
  ·simp [Utf.isNil, Utf.spotV] at h
  ·rename_i h2
   simpa using h2
theorem fed_cons {c : UInt8} {r : List UInt8} {p h m : Int} (hf : Fed (c :: r) p h m) : ∃ x : Int × Int, Utf.fstep h m (c.toNat : Int) = some x ∧ Fed r (p + 1) x.1 x.2 := by
 unfold Fed Utf.feed at hf
 cases hs : Utf.fstep h m (c.toNat : Int) with
 | none =>
  rw [hs] at hf
  simp at hf
 | some x =>
  rw [hs] at hf
  exact ⟨x, rfl, hf⟩
theorem fed_nil {p h m : Int} (hf : Fed [] p h m) : ¬ 0 < m := hf.1
theorem fed_more {l : List UInt8} {p c m : Int} (hm : 0 < m) (hf : Fed l p c m) : ∃ (d : UInt8) (r : List UInt8), l = d :: r ∧ Utf.mayB (Utf.form c).2.1 (Utf.form c).2.2 m (d.toNat : Int) = true ∧ Fed r (p + 1) c (if m + 1 = (Utf.form c).1 then 0 else m + 1) := by
 cases l with
 | nil => exact absurd hm (fed_nil hf)
 | cons d r =>
  obtain ⟨x, hs, hr⟩ := fed_cons hf
  unfold Utf.fstep at hs
  rw [if_neg (by omega)] at hs
  split at hs
  ·rename_i hmay
   refine ⟨d, r, rfl, hmay, ?_⟩
   split at hs
   ·rename_i he
    rw [if_pos he]
    injection hs with hs
    subst hs
    exact hr
   ·rename_i he
    rw [if_neg he]
    injection hs with hs
    subst hs
    exact hr
  ·cases hs
theorem form_one {c : Int} (h : ¬ (Utf.form c).1 = 0) (h2 : ¬ 1 < (Utf.form c).1) : c < 128 := by
 generalize hx : Utf.form c = x at *
 unfold Utf.form at hx
 repeat' split at hx
 all_goals subst hx
 all_goals first | assumption | (exfalso; revert h; decide) | (exfalso; revert h2; decide)
theorem form_two {c : Int} (h : (Utf.form c).1 = 2) : 194 ≤ c ∧ c < 224 ∧ (Utf.form c).2.1 = 128 ∧ (Utf.form c).2.2 = 191 := by
 generalize hx : Utf.form c = x at *
 unfold Utf.form at hx
 repeat' split at hx
 all_goals subst hx
 all_goals first | (exfalso; revert h; decide) | (exact ⟨by omega, by omega, rfl, rfl⟩)
theorem form_three {c : Int} (h : (Utf.form c).1 = 3) : 224 ≤ c ∧ c < 240 ∧ (c = 224 → 160 ≤ (Utf.form c).2.1) ∧ 128 ≤ (Utf.form c).2.1 ∧ (Utf.form c).2.2 ≤ 191 ∧ (c = 237 → (Utf.form c).2.2 ≤ 159) := by
 generalize hx : Utf.form c = x at *
 unfold Utf.form at hx
 repeat' split at hx
 all_goals subst hx
 all_goals first | (exfalso; revert h; decide) | (dsimp only; exact ⟨by omega, by omega, fun _ => by omega, by omega, by omega, fun _ => by omega⟩)
theorem form_four {c : Int} (h : (Utf.form c).1 = 4) : 240 ≤ c ∧ c ≤ 244 ∧ (c = 240 → 144 ≤ (Utf.form c).2.1) ∧ 128 ≤ (Utf.form c).2.1 ∧ (Utf.form c).2.2 ≤ 191 ∧ (c = 244 → (Utf.form c).2.2 ≤ 143) := by
 generalize hx : Utf.form c = x at *
 unfold Utf.form at hx
 repeat' split at hx
 all_goals subst hx
 all_goals first | (exfalso; revert h; decide) | (dsimp only; exact ⟨by omega, by omega, fun _ => by omega, by omega, by omega, fun _ => by omega⟩)
theorem form_wide (c : Int) : (Utf.form c).1 ≤ 4 := (Utf.form_bd c).2.1
theorem may_oneB {lo hi c : Int} (h : Utf.mayB lo hi 1 c = true) : lo ≤ c ∧ c ≤ hi := by
 unfold Utf.mayB at h
 rw [if_pos rfl] at h
 simpa using h
theorem may_on {lo hi i c : Int} (hi1 : ¬ i = 1) (h : Utf.mayB lo hi i c = true) : 128 ≤ c ∧ c ≤ 191 := by
 unfold Utf.mayB at h
 rw [if_neg hi1] at h
 simpa using h
theorem fed_runes : ∀ (n : Nat) (l : List UInt8) (p h : Int), l.length ≤ n → Fed l p h 0 → ∃ rs : List Nat, (∀ r ∈ rs, okR r) ∧ l = rs.flatMap encB
 | _, [], _, _, _, _ => ⟨[], by simp, rfl⟩
 | 0, c :: r, _, _, hn, _ => by simp at hn
 | n + 1, c :: r, p, h, hn, hf => by
  obtain ⟨x, hs, hr⟩ := fed_cons hf
  have hc := c.toNat_lt
  unfold Utf.fstep at hs
  rw [if_pos rfl] at hs
  have go : ∀ (r' : List UInt8) (q k : Int) (z : Nat) (pre : List UInt8), Fed r' q k 0 → r'.length ≤ n → okR z → encB z = pre → c :: r = pre ++ r' → ∃ rs : List Nat, (∀ r ∈ rs, okR r) ∧ c :: r = rs.flatMap encB := by
   intro r' q k z pre hf' hl hz he hcr
   obtain ⟨rs, h1, h2⟩ := fed_runes n r' q k hl hf'
   refine ⟨z :: rs, fun y hy => ?_, ?_⟩
   ·rcases List.mem_cons.1 hy with rfl | hy
    ·exact hz
    ·exact h1 y hy
   ·rw [hcr, List.flatMap_cons, he, ← h2]
  simp only [List.length_cons] at hn
  by_cases h0 : (Utf.form (c.toNat : Int)).1 = 0
  ·rw [if_pos h0] at hs
   cases hs
  rw [if_neg h0] at hs
  by_cases hw : 1 < (Utf.form (c.toNat : Int)).1
  ·rw [if_pos hw] at hs
   injection hs with hs
   subst hs
   dsimp only at hr
   obtain ⟨d, r1, rfl, hd, hf1⟩ := fed_more (by omega) hr
   have hd := may_oneB hd
   have hd' := d.toNat_lt
   simp only [List.length_cons] at hn
   by_cases w2 : (1 : Int) + 1 = (Utf.form (c.toNat : Int)).1
   ·rw [if_pos w2] at hf1
    obtain ⟨a1, a2, a3, a4⟩ := form_two w2.symm
    rw [a3, a4] at hd
    refine go r1 _ _ ((c.toNat - 192) * 64 + (d.toNat - 128)) [c, d] hf1 (by omega) (by unfold okR; omega) ?_ rfl
    rw [enc_two (by omega) (by omega), ofNat_eq (c := c) (by omega), ofNat_eq (c := d) (by omega)]
   rw [if_neg w2] at hf1
   obtain ⟨e, r2, rfl, he, hf2⟩ := fed_more (by omega) hf1
   have he := may_on (by omega) he
   have he' := e.toNat_lt
   simp only [List.length_cons] at hn
   by_cases w3 : (1 : Int) + 1 + 1 = (Utf.form (c.toNat : Int)).1
   ·rw [if_pos w3] at hf2
    obtain ⟨a1, a2, a3, a4, a5, a6⟩ := form_three w3.symm
    refine go r2 _ _ ((c.toNat - 224) * 4096 + (d.toNat - 128) * 64 + (e.toNat - 128)) [c, d, e] hf2 (by omega) (by unfold okR; omega) ?_ rfl
    rw [enc_three (by omega) (by omega) (by unfold okR; omega), ofNat_eq (c := c) (by omega), ofNat_eq (c := d) (by omega), ofNat_eq (c := e) (by omega)]
   rw [if_neg w3] at hf2
   obtain ⟨f, r3, rfl, hff, hf3⟩ := fed_more (by omega) hf2
   have hff := may_on (by omega) hff
   have hf' := f.toNat_lt
   simp only [List.length_cons] at hn
   have w4 : (1 : Int) + 1 + 1 + 1 = (Utf.form (c.toNat : Int)).1 := by
    have := form_wide (c.toNat : Int)
    omega
   rw [if_pos w4] at hf3
   obtain ⟨a1, a2, a3, a4, a5, a6⟩ := form_four w4.symm
   refine go r3 _ _ ((c.toNat - 240) * 262144 + (d.toNat - 128) * 4096 + (e.toNat - 128) * 64 + (f.toNat - 128)) [c, d, e, f] hf3 (by omega) (by unfold okR; omega) ?_ rfl
   rw [enc_four (by omega) (by unfold okR; omega), ofNat_eq (c := c) (by omega), ofNat_eq (c := d) (by omega), ofNat_eq (c := e) (by omega), ofNat_eq (c := f) (by omega)]
  ·rw [if_neg hw] at hs
   injection hs with hs
   subst hs
   have h1 : c.toNat < 128 := by have := form_one h0 hw; omega
   exact go r _ _ c.toNat [c] hr (by omega) (by unfold okR; omega) (by rw [enc_one h1, ofNat_eq rfl]) rfl
theorem right_runes {l : List UInt8} (h : rightB l = true) : ∃ rs : List Nat, (∀ r ∈ rs, okR r) ∧ l = rs.flatMap encB := fed_runes l.length l 0 0 (Nat.le_refl _) (right_fed h)
end Nd
end Go.Proofs.YtbajkglacfheiaaGreatDoor
namespace Go.Proofs.YtbajkglacfheiaaGreatDoor
open Go
namespace Nd
theorem get_pre (pre l : List UInt8) (k : Nat) (c : UInt8) (h : l[k]? = some c) : ((ByteArray.mk (pre ++ l).toArray).get! (pre.length + k)).toNat = c.toNat := by
 have hk := (List.getElem?_eq_some_iff.1 h).1
 have e : (ByteArray.mk (pre ++ l).toArray).get! (pre.length + k) = (pre ++ l).toArray[pre.length + k]! := rfl
 rw [e, getElem!_pos (pre ++ l).toArray (pre.length + k) (by simp; omega), List.getElem_toArray, List.getElem_append_right (by omega)]
 have := (List.getElem?_eq_some_iff.1 h).2
 simp only [Nat.add_sub_cancel_left]
 rw [this]
theorem size_pre (pre l : List UInt8) : (ByteArray.mk (pre ++ l).toArray).size = pre.length + l.length := by
 show (pre ++ l).toArray.size = _
 simp
theorem nat8 (n : Nat) (h : n < 256) : (UInt8.ofNat n).toNat = n := by
 rw [UInt8.toNat_ofNat']
 exact Nat.mod_eq_of_lt h
theorem decode_at (pre post : List UInt8) (r : Nat) (h : okR r) : Go.Utf8.decode ⟨(pre ++ (encB r ++ post)).toArray⟩ pre.length = (r, (encB r).length) := by
 have hsz := size_pre pre (encB r ++ post)
 have hv := okR_valid h
 unfold okR at h
 by_cases h1 : r < 128
 ·rw [enc_one h1] at hsz ⊢
  have g0 := get_pre pre ([UInt8.ofNat r] ++ post) 0 (UInt8.ofNat r) rfl
  rw [nat8 r (by omega)] at g0
  unfold Go.Utf8.decode
  simp only [g0]
  rw [if_pos h1]
  rfl
 by_cases h2 : r < 2048
 ·rw [enc_two (by omega) h2] at hsz ⊢
  have g0 := get_pre pre ([UInt8.ofNat (0xC0 + r / 64), UInt8.ofNat (0x80 + r % 64)] ++ post) 0 _ rfl
  have g1 := get_pre pre ([UInt8.ofNat (0xC0 + r / 64), UInt8.ofNat (0x80 + r % 64)] ++ post) 1 _ rfl
  rw [nat8 _ (by omega)] at g0 g1
  simp only [List.length_append, List.length_cons, List.length_nil] at hsz
  have ec : (192 + r / 64) % 32 * 64 + (128 + r % 64) % 64 = r := by omega
  unfold Go.Utf8.decode
  simp only [g0, g1, hsz, ec]
  rw [if_neg (by omega), if_pos (by simp; omega), if_pos (by omega)]
  rfl
 by_cases h3 : r < 65536
 ·rw [enc_three (by omega) h3 h] at hsz ⊢
  have g0 := get_pre pre ([UInt8.ofNat (0xE0 + r / 4096), UInt8.ofNat (0x80 + r / 64 % 64), UInt8.ofNat (0x80 + r % 64)] ++ post) 0 _ rfl
  have g1 := get_pre pre ([UInt8.ofNat (0xE0 + r / 4096), UInt8.ofNat (0x80 + r / 64 % 64), UInt8.ofNat (0x80 + r % 64)] ++ post) 1 _ rfl
  have g2 := get_pre pre ([UInt8.ofNat (0xE0 + r / 4096), UInt8.ofNat (0x80 + r / 64 % 64), UInt8.ofNat (0x80 + r % 64)] ++ post) 2 _ rfl
  rw [nat8 _ (by omega)] at g0 g1 g2
  simp only [List.length_append, List.length_cons, List.length_nil] at hsz
  have ec : (224 + r / 4096) % 16 * 4096 + (128 + r / 64 % 64) % 64 * 64 + (128 + r % 64) % 64 = r := by omega
  unfold Go.Utf8.decode
  simp only [g0, g1, g2, hsz, ec, hv]
  rw [if_neg (by omega), if_neg (by simp; omega), if_pos (by simp; omega), if_pos (by simp; omega)]
  rfl
 ·rw [enc_four (by omega) h] at hsz ⊢
  have g0 := get_pre pre ([UInt8.ofNat (0xF0 + r / 262144), UInt8.ofNat (0x80 + r / 4096 % 64), UInt8.ofNat (0x80 + r / 64 % 64), UInt8.ofNat (0x80 + r % 64)] ++ post) 0 _ rfl
  have g1 := get_pre pre ([UInt8.ofNat (0xF0 + r / 262144), UInt8.ofNat (0x80 + r / 4096 % 64), UInt8.ofNat (0x80 + r / 64 % 64), UInt8.ofNat (0x80 + r % 64)] ++ post) 1 _ rfl
  have g2 := get_pre pre ([UInt8.ofNat (0xF0 + r / 262144), UInt8.ofNat (0x80 + r / 4096 % 64), UInt8.ofNat (0x80 + r / 64 % 64), UInt8.ofNat (0x80 + r % 64)] ++ post) 2 _ rfl
  have g3 := get_pre pre ([UInt8.ofNat (0xF0 + r / 262144), UInt8.ofNat (0x80 + r / 4096 % 64), UInt8.ofNat (0x80 + r / 64 % 64), UInt8.ofNat (0x80 + r % 64)] ++ post) 3 _ rfl
  rw [nat8 _ (by omega)] at g0 g1 g2 g3
  simp only [List.length_append, List.length_cons, List.length_nil] at hsz
  have ec : (240 + r / 262144) % 8 * 262144 + (128 + r / 4096 % 64) % 64 * 4096 + (128 + r / 64 % 64) % 64 * 64 + (128 + r % 64) % 64 = r := by omega
  unfold Go.Utf8.decode
  simp only [g0, g1, g2, g3, hsz, ec, hv]
  rw [if_neg (by omega), if_neg (by simp; omega), if_neg (by simp; omega), if_pos (by simp; omega), if_pos (by simp; omega)]
  rfl
theorem enc_pos (r : Nat) (h : okR r) : 1 ≤ (encB r).length := by
 by_cases h1 : r < 128
 ·rw [enc_one h1]; simp
 by_cases h2 : r < 2048
 ·rw [enc_two (by omega) h2]; simp
 by_cases h3 : r < 65536
 ·rw [enc_three (by omega) h3 h]; simp
 ·rw [enc_four (by omega) h]; simp
theorem runes_from (rs : List Nat) : ∀ (pre : List UInt8) (b : Nat) (acc : Array Value), (∀ r ∈ rs, okR r) → (rs.flatMap encB).length ≤ b →
  Go.Conv.runesFrom ⟨(pre ++ rs.flatMap encB).toArray⟩ b pre.length acc = acc ++ (rs.map fun r => Value.int .i32 (Int.ofNat r)).toArray := by
 induction rs with
 | nil =>
  intro pre b acc _ _
  cases b with
  | zero => simp [Go.Conv.runesFrom]
  | succ b =>
   unfold Go.Conv.runesFrom
   rw [if_neg (by rw [size_pre]; simp)]
   simp
 | cons r rs ih =>
  intro pre b acc hr hb
  have h1 := enc_pos r (hr r (by simp))
  rw [List.flatMap_cons, List.length_append] at hb
  cases b with
  | zero => omega
  | succ b =>
   unfold Go.Conv.runesFrom
   rw [List.flatMap_cons, if_pos (by rw [size_pre, List.length_append]; omega), decode_at pre (rs.flatMap encB) r (hr r (by simp))]
   dsimp only
   have ih := ih (pre ++ encB r) b (acc.push (.int .i32 (Int.ofNat r))) (fun x hx => hr x (by simp [hx])) (by omega)
   rw [List.length_append, List.append_assoc] at ih
   rw [ih]
   simp
theorem runes_all {l : List UInt8} {rs : List Nat} (hr : ∀ r ∈ rs, okR r) (hl : l = rs.flatMap encB) : Go.Conv.runesFrom ⟨l.toArray⟩ (ByteArray.mk l.toArray).size 0 #[] = (rs.map fun r => Value.int .i32 (Int.ofNat r)).toArray := by
 subst hl
 have := runes_from rs [] (ByteArray.mk (rs.flatMap encB).toArray).size #[] hr (by show _ ≤ (rs.flatMap encB).toArray.size; simp)
 simpa using this
end Nd
end Go.Proofs.YtbajkglacfheiaaGreatDoor
namespace Go.Proofs.YtbajkglacfheiaaGreatDoor
open Go Go.RowKit
namespace Nd
theorem next_str {P : Program} (w : World) (g pos : Nat) (s : ByteArray) (ty : TypeId) (hg : w.heap[g]? = some (.stringIter s pos)) (hp : pos < s.size) :
  (Instr.next (.pointer (some ⟨g, 0, none⟩)) true ty).run P w = .ok (.tuple #[.bool true, .int .i64 pos, .int .i32 (Go.Utf8.decode s pos).1]) (w.putObj g (.stringIter s (pos + (Go.Utf8.decode s pos).2))) := by
 simp [Instr.next, getObj, setObj, Sem.run_bind, Sem.run, hg, Result.andThen, hp, goInt, World.putObj]
theorem next_str_end {P : Program} (w : World) (g pos : Nat) (s : ByteArray) (ty : TypeId) (hg : w.heap[g]? = some (.stringIter s pos)) (hp : ¬ pos < s.size) :
  (Instr.next (.pointer (some ⟨g, 0, none⟩)) true ty).run P w = .ok (.tuple #[.bool false]) w := by
 simp [Instr.next, getObj, Sem.run, hg, hp]
end Nd
end Go.Proofs.YtbajkglacfheiaaGreatDoor
namespace Go.Proofs.YtbajkglacfheiaaGreatDoor
open Go Go.RowKit Mem
namespace Nd
def u16B (n : Nat) : Value := .int .u16 n
def unQ (r : Nat) : List Nat := if r < 65536 then [r] else [55296 + (r - 65536) / 1024, 56320 + (r - 65536) % 1024]
theorem info_u16B : (Tryz.prog.info? 131).map (fun i => (i.zero, i.size, i.bytes)) = some (some (.int .u16 0), 1, 2) := by kernel_rfl
theorem wrap_u16 (r : Nat) (h : r < 65536) : IntKind.u16.wrap (r : Int) = (r : Int) := by
 have hm : (r : Int) % 65536 = r := by omega
 unfold IntKind.wrap
 simp [IntKind.bits, IntKind.signed, hm]
def PutP (base : Nat) (v : Value) (us : List Nat) (r : Nat) (w : World) (e : Ending) (w' : World) : Prop :=
 ∃ v', e = .returned v' ∧ w'.ownsRow base 131 1 v' (us ++ unQ r).length ((us ++ unQ r).map u16B) ∧ w.grownBy w' v.ownBlock ∧ (v'.ownBlock = v.ownBlock ∨ ∃ g, v'.ownBlock = some g ∧ w.heap.size ≤ g)
theorem putP_of {base : Nat} {v v' : Value} {us : List Nat} {r : Nat} {w w' : World} {tmp : Obj} {xs : List Value} {n : Nat} (hn : n = (unQ r).length) (hx : xs = (unQ r).map u16B) (h1 : w'.ownsRow base 131 1 v' (us.length + n) (us.map u16B ++ xs)) (h2 : (w.alloc tmp).grownBy w' v.ownBlock) (h3 : v'.ownBlock = v.ownBlock ∨ v'.ownBlock = some (w.alloc tmp).heap.size) : PutP base v us r w (.returned v') w' := by
 subst hn hx
 refine ⟨v', rfl, ?_, (World.grownBy_alloc w tmp v.ownBlock).trans h2, h3.imp id fun h => ⟨_, h, by simp⟩⟩
 rw [List.length_append, List.map_append]
 exact h1
theorem put_one (base : Nat) (v : Value) (us : List Nat) (r : Nat) (w : World) (hr : r < 65536) (hown : w.ownsRow base 131 1 v us.length (us.map u16B)) (hn : us.length ≤ 4194304) (hb : base ≤ w.heap.size) :
  Calls Tryz.prog 36 #[v, .int .i32 r] w (PutP base v us r w) := by
 obtain ⟨i0, hi0, hz0, hz1, hz2⟩ := info_parts info_u16B
 obtain ⟨A, c, rfl⟩ := own_slice hown
 have e1 : ((r : Int) > 65535) = False := by simp; omega
 have e2 := wrap_u16 r hr
 have HR := Lib.hid hr
 go_enter Tryz.func36, Tryz.ntmps36
 go_wp2_with (at_builtin; refine wpList_append_own_at _ rfl _ _ 39 rfl base 131 i0 _ 1 2 Tryz.underlying39 hi0 hz0 hz1 hz2 rfl (by omega) (.slice A us.length c) us.length (us.map u16B) rfl (hown.alloc _) ⟨w.heap.size, 0, none⟩ 1 1 [u16B r] rfl rfl (one_new _ _ _) (one_cell _ rfl) ?b1 ?b2 ?b3 ?_; (unfold maxLen; omega); omega; (simp; omega); intro v9 w9 hown9 hgr9 hnil9 hat9)
 have HP := Lib.hid (putP_of (n := 1) (r := r) (by unfold unQ; rw [if_pos HR.out]; rfl) (by unfold unQ; rw [if_pos HR.out]; rfl) hown9 hgr9 hat9)
 clear hown9 hgr9 hnil9 hat9
 go_wp2
 go_ret
 exact HP.out
end Nd
end Go.Proofs.YtbajkglacfheiaaGreatDoor
namespace Go.Proofs.YtbajkglacfheiaaGreatDoor
open Go Go.RowKit Mem
namespace Nd
theorem i32_and1023 (q : Nat) (h : q < 1048576) : bits .and .i32 (q : Int) 1023 = ((q % 1024 : Nat) : Int) := by
 have h1 : (BitVec.ofInt 32 1023).toNat = 2 ^ 10 - 1 := by decide
 have key : (BitVec.ofInt 32 (q : Int) &&& BitVec.ofInt 32 1023).toNat = q % 2 ^ 10 := by
  rw [BitVec.toNat_and, BitVec.toNat_ofInt, h1, Nat.and_two_pow_sub_one_eq_mod]
  congr 1
  omega
 show IntKind.i32.wrap ((BitVec.ofInt 32 (q : Int) &&& BitVec.ofInt 32 1023).toNat : Nat) = _
 rw [key]
 have hm : ((q % 2 ^ 10 : Nat) : Int) % 4294967296 = ((q % 1024 : Nat) : Int) := by omega
 unfold IntKind.wrap
 simp only [IntKind.bits, IntKind.signed]
 have e : (2 : Int) ^ 32 = 4294967296 := by decide
 simp [hm]
 try omega
theorem two_newQ (w : World) (t : TypeId) (a b : Value) : ∀ (j : Nat) (u : Value), [a, b][j]? = some u → (w.alloc (.cells #[a, b] t)).cell? ((⟨w.heap.size, 0, none⟩ : Addr).add j) = some u := by
 intro j u hj
 have hadd : (⟨w.heap.size, 0, none⟩ : Addr).add j = ⟨w.heap.size, j, none⟩ := by unfold Addr.add; split <;> simp_all
 rw [hadd, (Blk.new w t #[a, b]).cell]
 simpa using hj
theorem unQ_two (q : Nat) : (unQ (65536 + q)).map u16B = [.int .u16 (55296 + (q : Int) / 1024), .int .u16 (56320 + (q : Int) % 1024)] := by
 unfold unQ u16B
 rw [if_neg (by omega), Nat.add_sub_cancel_left]
 simp
theorem put_two (base : Nat) (v : Value) (us : List Nat) (q : Nat) (w : World) (hq : q < 1048576) (hown : w.ownsRow base 131 1 v us.length (us.map u16B)) (hn : us.length ≤ 4194304) (hb : base ≤ w.heap.size) :
  Calls Tryz.prog 36 #[v, .int .i32 ((65536 + q : Nat) : Int)] w (PutP base v us (65536 + q) w) := by
 obtain ⟨i0, hi0, hz0, hz1, hz2⟩ := info_parts info_u16B
 obtain ⟨A, c, rfl⟩ := own_slice hown
 have e1 : (((65536 + q : Nat) : Int) > 65535) = True := by simp; omega
 have e2 : (65536 + (q : Int) - 65536) = (q : Int) := by omega
 have e3 := i32_and1023 q hq
 have e4 := wrap_u16 (q % 1024) (by omega)
 have HQ := Lib.hid hq
 go_enter Tryz.func36, Tryz.ntmps36
 go_wp2_with (at_builtin; refine wpList_append_own_at _ rfl _ _ 39 rfl base 131 i0 _ 1 2 Tryz.underlying39 hi0 hz0 hz1 hz2 rfl (by omega) (.slice A us.length c) us.length (us.map u16B) rfl (hown.alloc _) ⟨w.heap.size, 0, none⟩ 2 2 [.int .u16 (55296 + (q : Int) / 1024), .int .u16 (56320 + (q : Int) % 1024)] rfl rfl (two_newQ _ _ _ _) (by intro u hu; rcases List.mem_cons.1 hu with rfl | hu; rfl; rw [List.mem_singleton] at hu; rw [hu]; rfl) ?b1 ?b2 ?b3 ?_; (unfold maxLen; omega); omega; (simp; omega); intro v9 w9 hown9 hgr9 hnil9 hat9)
 have HP := Lib.hid (putP_of (n := 2) (r := 65536 + q) (by unfold unQ; rw [if_neg (by omega)]; rfl) (unQ_two q).symm hown9 hgr9 hat9)
 clear hown9 hgr9 hnil9 hat9
 go_wp2
 go_ret
 exact HP.out
theorem put_any (base : Nat) (v : Value) (us : List Nat) (r : Nat) (w : World) (hr : r < 1114112) (hown : w.ownsRow base 131 1 v us.length (us.map u16B)) (hn : us.length ≤ 4194304) (hb : base ≤ w.heap.size) :
  Calls Tryz.prog 36 #[v, .int .i32 r] w (PutP base v us r w) := by
 by_cases h : r < 65536
 ·exact put_one base v us r w h hown hn hb
 ·obtain ⟨q, rfl⟩ : ∃ q, r = 65536 + q := ⟨r - 65536, by omega⟩
  exact put_two base v us q w (by omega) hown hn hb
end Nd
end Go.Proofs.YtbajkglacfheiaaGreatDoor
namespace Go.Proofs.YtbajkglacfheiaaGreatDoor
open Go
namespace Nd
theorem chk_right {l : List UInt8} (h : rightB l = true) : Utf.chkV l = .nilIface := by
 rcases Utf.chkV_cases l with e | ⟨n, a, e⟩
 ·exact e
 ·unfold rightB at h
  rw [e] at h
  simp [Utf.isNil, Utf.spotV] at h
end Nd
end Go.Proofs.YtbajkglacfheiaaGreatDoor
