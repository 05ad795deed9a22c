/-
  Walks of package utf's Feeder: take as one fstep, Feed, End, Check, Right.
-/
import Derived.Test.YtfhfkggkbeahbaaUdB
import Derived.LoopTactic
import Derived.Lib.ConvBytes
import Derived.WalkSpells
import Derived.WideLaws
namespace Go.Proofs.Ytfhfkggkbeahbaa
open Go.RowKit Utf Mem
set_option linter.unusedVariables false
namespace Utf

/-- what take does: the first byte of the form that has begun, and how many bytes of it came -/
def fstep (h m c : Int) : Option (Int × Int) :=
  if m = 0 then (if (form c).1 = 0 then none else if 1 < (form c).1 then some (c, 1) else some (h, 0))
  else if mayB (form h).2.1 (form h).2.2 m c = true then (if m + 1 = (form h).1 then some (h, 0) else some (h, m + 1)) else none
def Inv (h m : Int) : Prop := 0 ≤ h ∧ h ≤ 255 ∧ 0 ≤ m ∧ (m = 0 ∨ m + 1 ≤ (form h).1)
theorem fstep_inv {h m c h' m' : Int} (hi : Inv h m) (hc0 : 0 ≤ c) (hc1 : c ≤ 255) (hs : fstep h m c = some (h', m')) : Inv h' m' := by
  obtain ⟨a, b, d, e⟩ := hi
  unfold fstep at hs
  repeat' split at hs
  all_goals simp only [Option.some.injEq, Prod.mk.injEq, reduceCtorEq] at hs
  all_goals obtain ⟨rfl, rfl⟩ := hs
  all_goals refine ⟨by omega, by omega, by omega, by omega⟩

def TakeP (g : Nat) (p h0 h1 h2 h3 m c : Int) (b : Bool) (w : World) (e : Ending) (w' : World) : Prop :=
  (fstep h0 m c = none → e = .returned (.bool false) ∧ IsFeed w' g p h0 h1 h2 h3 m b ∧ GrownD w w' (some g)) ∧
  (∀ h' m', fstep h0 m c = some (h', m') → ∃ k1 k2 k3, e = .returned (.bool true) ∧ IsFeed w' g p h' k1 k2 k3 m' b ∧ GrownD w w' (some g))
end Utf

theorem take_any (g : Nat) (p h0 h1 h2 h3 m c : Int) (b : Bool) (w : World) (hF : IsFeed w g p h0 h1 h2 h3 m b) (hc0 : 0 ≤ c) (hc1 : c ≤ 255) (hi : Inv h0 m) :
    Calls Try.prog 61 #[.pointer (some ⟨g, 0, none⟩), .int .u8 c] w (TakeP g p h0 h1 h2 h3 m c b w) := by
  obtain ⟨a0, a1, d0, d1⟩ := hi
  have hbc := form_bd c
  have hbh := form_bd h0
  by_cases hm : m = 0
  · subst hm
    by_cases hw : (form c).1 = 0
    · refine (take_bad g p h0 h1 h2 h3 c b w hF hc0 hc1 (by omega)).mono ?_
      rintro e w' ⟨he, h⟩
      refine ⟨fun _ => ⟨he, h⟩, fun h' m' hs => ?_⟩
      simp [fstep, hw] at hs
    · by_cases hw2 : 1 < (form c).1
      · refine (take_more g p h0 h1 h2 h3 c b w hF hc0 hc1 (by omega)).mono ?_
        rintro e w' ⟨he, h⟩
        refine ⟨fun hs => ?_, fun h' m' hs => ?_⟩
        · simp [fstep, hw, hw2] at hs
        · simp [fstep, hw, hw2] at hs
          obtain ⟨rfl, rfl⟩ := hs
          exact ⟨_, _, _, he, h⟩
      · refine (take_one g p h0 h1 h2 h3 c b w hF hc0 hc1 (by omega) (by omega)).mono ?_
        rintro e w' ⟨he, h⟩
        refine ⟨fun hs => ?_, fun h' m' hs => ?_⟩
        · simp [fstep, hw, hw2] at hs
        · simp [fstep, hw, hw2] at hs
          obtain ⟨rfl, rfl⟩ := hs
          exact ⟨_, _, _, he, h⟩
  · have hle : m + 1 ≤ (form h0).1 := by omega
    cases hno : mayB (form h0).2.1 (form h0).2.2 m c with
    | false =>
      refine (take_not g p h0 h1 h2 h3 m c b w hF hc0 hc1 a0 a1 (by omega) (by omega) hno).mono ?_
      rintro e w' ⟨he, h⟩
      refine ⟨fun _ => ⟨he, h⟩, fun h' m' hs => ?_⟩
      simp [fstep, hm, hno] at hs
    | true =>
      have hm3 : m = 1 ∨ m = 2 ∨ m = 3 := by omega
      by_cases hw : m + 1 = (form h0).1
      · rcases hm3 with rfl | rfl | rfl
        · refine (take_last1 g p h0 h1 h2 h3 c b w hF hc0 hc1 a0 a1 hno (by simp; omega)).mono ?_
          rintro e w' ⟨he, h⟩
          refine ⟨fun hs => ?_, fun h' m' hs => ?_⟩
          · simp [fstep, hno, ← hw] at hs
          · simp [fstep, hno, ← hw] at hs
            obtain ⟨rfl, rfl⟩ := hs
            exact ⟨_, _, _, he, h⟩
        · refine (take_last2 g p h0 h1 h2 h3 c b w hF hc0 hc1 a0 a1 hno (by simp; omega)).mono ?_
          rintro e w' ⟨he, h⟩
          refine ⟨fun hs => ?_, fun h' m' hs => ?_⟩
          · simp [fstep, hno, ← hw] at hs
          · simp [fstep, hno, ← hw] at hs
            obtain ⟨rfl, rfl⟩ := hs
            exact ⟨_, _, _, he, h⟩
        · refine (take_last3 g p h0 h1 h2 h3 c b w hF hc0 hc1 a0 a1 hno (by simp; omega)).mono ?_
          rintro e w' ⟨he, h⟩
          refine ⟨fun hs => ?_, fun h' m' hs => ?_⟩
          · simp [fstep, hno, ← hw] at hs
          · simp [fstep, hno, ← hw] at hs
            obtain ⟨rfl, rfl⟩ := hs
            exact ⟨_, _, _, he, h⟩
      · rcases hm3 with rfl | rfl | rfl
        · have hw' : ¬ (2 : Int) = (form h0).1 := by omega
          refine (take_mid1 g p h0 h1 h2 h3 c b w hF hc0 hc1 a0 a1 hno (by simp; omega)).mono ?_
          rintro e w' ⟨he, h⟩
          refine ⟨fun hs => ?_, fun h' m' hs => ?_⟩
          · simp [fstep, hno, hw'] at hs
          · simp [fstep, hno, hw'] at hs
            obtain ⟨rfl, rfl⟩ := hs
            exact ⟨_, _, _, he, h⟩
        · have hw' : ¬ (3 : Int) = (form h0).1 := by omega
          refine (take_mid2 g p h0 h1 h2 h3 c b w hF hc0 hc1 a0 a1 hno (by simp; omega)).mono ?_
          rintro e w' ⟨he, h⟩
          refine ⟨fun hs => ?_, fun h' m' hs => ?_⟩
          · simp [fstep, hno, hw'] at hs
          · simp [fstep, hno, hw'] at hs
            obtain ⟨rfl, rfl⟩ := hs
            exact ⟨_, _, _, he, h⟩
        · omega

namespace Utf
/-- an error at a place -/
def spotV (n a : Int) : Value := .iface 80 (.agg #[.int .i64 n, .int .i64 a])
def faultV (p : Int) (b : Bool) : Value := if b then spotV 30 p else .nilIface
def endV (p m : Int) (b : Bool) : Value := if 0 < m then spotV 31 p else faultV p b
theorem endV_pos {p m : Int} {b : Bool} (h : 0 < m) : spotV 31 p = endV p m b := by simp [endV, h]
theorem endV_not {p m : Int} {b : Bool} (h : ¬ 0 < m) : faultV p b = endV p m b := by simp [endV, h]
end Utf
theorem fault_any (g : Nat) (p h0 h1 h2 h3 m : Int) (b : Bool) (w : World) (hF : IsFeed w g p h0 h1 h2 h3 m b) :
    Calls Try.prog 62 #[.pointer (some ⟨g, 0, none⟩)] w fun e w' => e = .returned (faultV p b) ∧ w = w' := by
  obtain ⟨k0, k1, k2, k3, k4, k5, k6⟩ := IsFeed.cells hF
  cases b
  · go_enter Try.func62, Try.ntmps62
    go_wp2
    go_ret
    exact ⟨rfl, rfl⟩
  · go_enter Try.func62, Try.ntmps62
    go_wp2
    go_ret
    exact ⟨rfl, rfl⟩

theorem end_any (g : Nat) (p h0 h1 h2 h3 m : Int) (b : Bool) (w : World) (hF : IsFeed w g p h0 h1 h2 h3 m b) :
    Calls Try.prog 54 #[.pointer (some ⟨g, 0, none⟩)] w fun e w' => e = .returned (endV p m b) ∧ w = w' := by
  obtain ⟨k0, k1, k2, k3, k4, k5, k6⟩ := IsFeed.cells hF
  by_cases h0 : 0 < m
  · have e1 := Lib.hid (endV_pos (p := p) (b := b) h0)
    go_enter Try.func54, Try.ntmps54
    go_wp2
    go_ret
    exact ⟨congrArg Ending.returned e1.out, rfl⟩
  · have e1 := Lib.hid (endV_not (p := p) (b := b) h0)
    go_enter Try.func54, Try.ntmps54
    go_wp2_with fail
    refine (fault_any _ _ _ _ _ _ _ _ _ hF).mono ?_
    rintro e w' ⟨rfl, rfl⟩
    go_wp2
    go_ret
    exact ⟨congrArg Ending.returned e1.out, rfl⟩

theorem new_any (w : World) : Calls Try.prog 52 #[] w
      fun e w' => e = .returned (.pointer (some ⟨w.heap.size, 0, none⟩)) ∧ IsFeed w' w.heap.size 0 0 0 0 0 0 false ∧ BelowD w.heap.size w w' := by
  go_enter Try.func52, Try.ntmps52
  go_wp2
  go_ret
  exact ⟨rfl, Blk.new _ _ _, (BelowD.refl _ _).alloc (Nat.le_refl _) _⟩

namespace Utf
/-- what comes of bytes: how many were taken, the first byte of the form that has begun, how many of it came, was there a wrong one -/
def feed : List UInt8 → Int → Int → Int → Int × Int × Int × Bool
  | [], p, h, m => (p, h, m, false)
  | c :: r, p, h, m => match fstep h m (c.toNat : Int) with
    | none => (p, h, 0, true)
    | some x => feed r (p + 1) x.1 x.2
/-- the slice at A reads as the bytes l, and does not lie in block g -/
def Reads8 (w : World) (g : Nat) (A : Option Addr) (l : List UInt8) : Prop :=
  ∀ j (h : j < l.length), ∃ bb o, A = some ⟨bb, o, none⟩ ∧ bb ≠ g ∧ bb < w.heap.size ∧ w.cell? ⟨bb, o + j, none⟩ = some (.int .u8 (l[j].toNat : Int))
theorem Reads8.only {w w' : World} {g : Nat} {A : Option Addr} {l : List UInt8} (h : Reads8 w g A l) (hg : GrownD w w' (some g)) : Reads8 w' g A l := fun j hj => by
  obtain ⟨bb, o, rfl, hn, hl, hc⟩ := h j hj
  exact ⟨bb, o, rfl, hn, Nat.lt_of_lt_of_le hl hg.gr.size, (World.cell?_of_block (hg.gr.block _ hl (fun e => hn (by injection e)))).trans hc⟩
def FeedP (g : Nat) (l : List UInt8) (w : World) (e : Ending) (w' : World) : Prop :=
  ∃ v k1 k2 k3, e = .returned v ∧ IsFeed w' g (feed l 0 0 0).1 (feed l 0 0 0).2.1 k1 k2 k3 (feed l 0 0 0).2.2.1 (feed l 0 0 0).2.2.2 ∧ GrownD w w' (some g)
/-- how it stands behind k bytes -/
def FeedR (g : Nat) (l : List UInt8) (w : World) (i : Value) (w' : World) : Prop :=
  ∃ (k : Nat) (p h k1 k2 k3 m : Int) (b : Bool), k ≤ l.length ∧ i = .int .i64 k ∧ IsFeed w' g p h k1 k2 k3 m b ∧ GrownD w w' (some g) ∧ Inv h m ∧
    0 ≤ p ∧ p ≤ k ∧ ((b = false ∧ feed (l.drop k) p h m = feed l 0 0 0) ∨ (b = true ∧ m = 0 ∧ (p, h, m, b) = feed l 0 0 0))
theorem FeedR.start {g : Nat} {l : List UInt8} {w : World} (h : IsFeed w g 0 0 0 0 0 0 false) : FeedR g l w (.int .i64 0) w :=
  ⟨0, 0, 0, 0, 0, 0, 0, false, Nat.zero_le _, rfl, h, grownD_refl _ _, ⟨by decide, by decide, by decide, .inl rfl⟩, by decide, by decide, .inl ⟨rfl, rfl⟩⟩
end Utf

set_option maxHeartbeats 4000000 in
theorem feed_any (g : Nat) (A : Option Addr) (l : List UInt8) (cap : Nat) (w : World) (hl : l.length ≤ 140737488355328) (hF : IsFeed w g 0 0 0 0 0 0 false) (hR : Reads8 w g A l) :
    Calls Try.prog 53 #[.pointer (some ⟨g, 0, none⟩), .slice A l.length cap] w (FeedP g l w) := by
  have hlt := Blk.lt hF
  go_enter Try.func53, Try.ntmps53
  go_wp2
  go_loopw [5] (fun i wr => FeedR g l w i wr) (fun i _ => l.length - (intOf i).toNat)
  case atStart => exact FeedR.start hF
  case round =>
    obtain ⟨k, p, h, k1, k2, k3, m, b, hk, rfl, hF1, hg1, hi, hp0, hp1, hcase⟩ := hrel
    have hlt1 := Blk.lt hF1
    have hR1 := hR.only hg1
    obtain ⟨c0, c1, c2, c3, c4, c5, c6⟩ := IsFeed.cells hF1
    rcases hcase with ⟨rfl, hfd⟩ | ⟨rfl, rfl, hfd⟩
    · by_cases hkl : k < l.length
      · obtain ⟨bb, o, rfl, hne, hbl, hcell⟩ := hR1 k hkl
        have hb0 : (0 : Int) ≤ (l[k].toNat : Int) := by omega
        have hb1 : (l[k].toNat : Int) ≤ 255 := by have := l[k].toNat_lt; omega
        have Hfd := Lib.hid hfd
        have HF1 := Lib.hid hF1
        clear hfd hF1
        go_wp2_with fail
        refine (take_any g p h k1 k2 k3 m _ false _ HF1.out hb0 hb1 hi).mono ?_
        intro e w2 hT
        have hdrop : l.drop k = l[k] :: l.drop (k + 1) := List.drop_eq_getElem_cons hkl
        clear hcell c0 c1 c2 c3 c4 c5 c6
        cases hs : fstep h m (l[k].toNat : Int) with
        | none =>
          obtain ⟨rfl, hF2, hg2⟩ := hT.1 hs
          have hres : (p, h, 0, true) = feed l 0 0 0 := by rw [← Hfd.out, hdrop, feed, hs]
          have Hres := Lib.hid hres
          have HF2 := Lib.hid hF2
          clear hT hs hdrop hres
          obtain ⟨c0, c1, c2, c3, c4, c5, c6⟩ := IsFeed.cells hF2
          obtain ⟨f0, f1, f2, f3, f4, f5, f6⟩ := IsFeed.frozen hF2
          clear hF2
          go_wp2
          go_roundw
          case rel => exact ⟨k + 1, p, h, k1, k2, k3, 0, true, by omega, by go_num, Blk.put (Blk.put HF2.out 6 (.bool true)) 5 (.int .i64 0), grownD_put (grownD_put (grownD_trans hg1 hg2) 6 _) 5 _, ⟨hi.1, hi.2.1, by decide, .inl rfl⟩, hp0, by omega, .inr ⟨rfl, rfl, Hres.out⟩⟩
          case measure => simp [intOf]; omega
        | some x =>
          obtain ⟨j1, j2, j3, rfl, hF2, hg2⟩ := hT.2 x.1 x.2 hs
          have hres : feed (l.drop (k + 1)) (p + 1) x.1 x.2 = feed l 0 0 0 := by rw [← Hfd.out, hdrop, feed, hs]
          have hi2 := fstep_inv hi hb0 hb1 hs
          have Hres := Lib.hid hres
          have HF2 := Lib.hid hF2
          clear hT hs hdrop hres
          obtain ⟨c0, c1, c2, c3, c4, c5, c6⟩ := IsFeed.cells hF2
          obtain ⟨f0, f1, f2, f3, f4, f5, f6⟩ := IsFeed.frozen hF2
          clear hF2
          go_wp2
          go_roundw
          case rel => exact ⟨k + 1, p + 1, x.1, j1, j2, j3, x.2, false, by omega, by go_num, Blk.put HF2.out 0 (.int .i64 (p + 1)), grownD_put (grownD_trans hg1 hg2) 0 _, hi2, by omega, by omega, .inl ⟨rfl, Hres.out⟩⟩
          case measure => simp [intOf]; omega
      · have hres : (p, h, m, false) = feed l 0 0 0 := by rw [← hfd, List.drop_eq_nil_of_le (by omega), feed]
        have Hres := Lib.hid hres
        have HF1 := Lib.hid hF1
        clear hfd hres hF1
        go_wp2_with fail
        refine (fault_any _ _ _ _ _ _ _ _ _ HF1.out).mono ?_
        rintro e w2 ⟨rfl, rfl⟩
        go_wp2
        go_ret
        refine ⟨_, k1, k2, k3, rfl, ?_, hg1⟩
        rw [← Hres.out]
        exact HF1.out
    · have Hres := Lib.hid hfd
      have HF1 := Lib.hid hF1
      clear hfd hF1
      by_cases hkl : k < l.length
      all_goals
        go_wp2_with fail
        refine (fault_any _ _ _ _ _ _ _ _ _ HF1.out).mono ?_
        rintro e w2 ⟨rfl, rfl⟩
        go_wp2
        go_ret
        refine ⟨_, k1, k2, k3, rfl, ?_, hg1⟩
        rw [← Hres.out]
        exact HF1.out

namespace Utf
/-- the slice at A reads as the bytes l -/
def ReadsB (w : World) (A : Option Addr) (l : List UInt8) : Prop :=
  ∀ j (h : j < l.length), ∃ bb o, A = some ⟨bb, o, none⟩ ∧ bb < w.heap.size ∧ w.cell? ⟨bb, o + j, none⟩ = some (.int .u8 (l[j].toNat : Int))
/-- what Check tells -/
def chkV (l : List UInt8) : Value := endV (feed l 0 0 0).1 (feed l 0 0 0).2.2.1 (feed l 0 0 0).2.2.2
end Utf

set_option maxHeartbeats 1000000 in
theorem check_any (A : Option Addr) (l : List UInt8) (n cap : Nat) (w : World) (hn : l.length = n) (hl : n ≤ 140737488355328) (hR : ReadsB w A l) :
    Calls Try.prog 47 #[.slice A n cap] w fun e w' => e = .returned (chkV l) ∧ BelowD w.heap.size w w' := by
  subst hn
  go_enter Try.func47, Try.ntmps47
  go_wp2_with fail
  refine (new_any _).mono ?_
  rintro e w1 ⟨rfl, hF, hb⟩
  have hR1 : Reads8 w1 w.heap.size A l := fun j hj => by
    obtain ⟨bb, o, rfl, hlt, hc⟩ := hR j hj
    exact ⟨bb, o, rfl, by omega, Nat.lt_of_lt_of_le hlt hb.size, (hb.cell (by exact hlt)).trans hc⟩
  go_wp2_with fail
  refine (feed_any _ _ _ _ _ hl hF hR1).mono ?_
  rintro e w2 ⟨v, k1, k2, k3, rfl, hF2, hg2⟩
  go_wp2_with fail
  refine (end_any _ _ _ _ _ _ _ _ _ hF2).mono ?_
  rintro e w3 ⟨rfl, rfl⟩
  go_wp2
  go_ret
  exact ⟨rfl, hb.trans (belowD_of_grown hg2 (Nat.le_refl _) hb.size)⟩

namespace Utf
theorem conv_below (w : World) (e : TypeId) (s : ByteArray) : BelowD w.heap.size w (Lib.bytesWorld w e s) :=
  ⟨⟨rfl, rfl, rfl, by rw [Lib.bytesWorld_size]; omega, fun k hk => Lib.bytesWorld_at_old w e s k hk⟩, by show w.drawn ≤ (w.drew.drawn); simp⟩
theorem conv_reads (w : World) (e : TypeId) (s : ByteArray) : ReadsB (Lib.bytesWorld w e s) (some ⟨w.heap.size, 0, none⟩) s.data.toList := fun j hj => by
  refine ⟨_, _, rfl, by rw [Lib.bytesWorld_size]; omega, ?_⟩
  rw [Nat.zero_add, Lib.bytesWorld_cell w e s j (by simpa using hj), List.getD_eq_getElem?_getD, List.getElem?_eq_getElem hj]
  rfl
def isNil (v : Value) : Bool := match v with | .nilIface => true | _ => false
theorem chkV_cases (l : List UInt8) : chkV l = .nilIface ∨ ∃ n a, chkV l = spotV n a := by
  unfold chkV endV faultV
  repeat' split
  all_goals first | exact .inl rfl | exact .inr ⟨_, _, rfl⟩
end Utf
theorem errI : Try.prog.underlying 27 = some (.interface (Try.prog.methodsAt 27)) := by kernel_rfl
theorem err_eq_nil (w : World) : (binOp .eql 27 .nilIface .nilIface).run Try.prog w = .ok (.bool true) w := run_eql_nil_nil w _ errI
theorem err_ne_nil (w : World) : (binOp .neq 27 .nilIface .nilIface).run Try.prog w = .ok (.bool false) w := run_neq_nil_nil w _ errI
theorem err_eq_held (u : TypeId) (x : Value) (w : World) : (binOp .eql 27 (.iface u x) .nilIface).run Try.prog w = .ok (.bool false) w := run_eql_held_nil w _ u x errI
theorem err_ne_held (u : TypeId) (x : Value) (w : World) : (binOp .neq 27 (.iface u x) .nilIface).run Try.prog w = .ok (.bool true) w := run_neq_held_nil w _ u x errI
set_option maxHeartbeats 1000000 in
theorem right_any (s : ByteArray) (w : World) (hs : s.size ≤ 140737488355328) :
    Calls Try.prog 39 #[.string s] w fun e w' => e = .returned (.bool (isNil (chkV s.data.toList))) ∧ BelowD w.heap.size w w' := by
  have kc := fun (W : World) => Lib.run_convert_string_bytes (P := Try.prog) W 9 131 5 s Try.underlying9 Try.underlying131 Try.underlying5
  go_enter Try.func39, Try.ntmps39
  go_wp2_with fail
  refine (check_any _ s.data.toList _ _ _ rfl hs (conv_reads w _ s)).mono ?_
  rintro e w1 ⟨rfl, hb⟩
  have hb' := (conv_below w 5 s).trans (hb.mono (by rw [Lib.bytesWorld_size]; omega))
  have q1 := err_eq_nil
  have q2 := err_eq_held
  rcases chkV_cases s.data.toList with h | ⟨n, a, h⟩ <;> rw [h] <;> have H := Lib.hid h <;> clear h
  · go_wp2
    go_ret
    exact ⟨by rw [H.out]; rfl, hb'⟩
  · unfold spotV
    go_wp2
    go_ret
    exact ⟨by rw [H.out]; rfl, hb'⟩
end Go.Proofs.Ytfhfkggkbeahbaa
