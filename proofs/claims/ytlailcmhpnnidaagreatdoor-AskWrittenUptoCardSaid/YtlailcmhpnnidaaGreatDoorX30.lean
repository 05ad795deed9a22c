/-
  Walk of the statement PointerIndexes. Walks of the reference of layer 13: Piece, Print. The reference of layer 13: On, and layer 10's Find of a key. The reference of layer 13: Lead. The law's value: what steps make, by the reference.
  Walks of package ask: Tell, Size.
  What ask.Tell tells lies in blocks of its own.
  Layer 14: the tree of steps, and the document's value.
-/
import Derived.Test.YtlailcmhpnnidaaGreatDoorX14
import Derived.Test.YtlailcmhpnnidaaGreatDoorX20
import Derived.Test.YtlailcmhpnnidaaGreatDoorX27
import Derived.Test.YtlailcmhpnnidaaGreatDoorX29
import Derived.Test.YtlailcmhpnnidaaGreatDoorX22
import Derived.Test.YtlailcmhpnnidaaGreatDoorX23
import Derived.Test.YtlailcmhpnnidaaGreatDoorX17
import Derived.Test.YtlailcmhpnnidaaGreatDoorX10
import Derived.Lib.AppendStr
import Derived.Deep.RegionHeldLaw
import Derived.BigRegion
set_option linter.unusedVariables false
set_option linter.unusedSimpArgs false
set_option maxRecDepth 100000
set_option maxHeartbeats 16000000
namespace Go.Proofs.YtlailcmhpnnidaaGreatDoor
open Go.RowKit Mem Utf Ref3 Tok Idx

end Go.Proofs.YtlailcmhpnnidaaGreatDoor
namespace Go.Proofs.YtlailcmhpnnidaaGreatDoor
open Go.RowKit Mem Utf Ref3 Tok

end Go.Proofs.YtlailcmhpnnidaaGreatDoor
namespace Go.Proofs.YtlailcmhpnnidaaGreatDoor
open Go.RowKit Mem Idx
namespace Nd
end Nd
end Go.Proofs.YtlailcmhpnnidaaGreatDoor
namespace Go.Proofs.YtlailcmhpnnidaaGreatDoor
open Go.RowKit Mem Idx Tok
namespace Nd
theorem six_below {w w' : World} {P : Nat} (h : Below w.heap.size w w') (hP : w.heap.size ≤ P) (a b c d e f : Value) : Below w.heap.size w (six w' P a b c d e f) :=
 below_put (below_put (below_put (below_put (below_put (below_put h hP) hP) hP) hP) hP) hP
end Nd
end Go.Proofs.YtlailcmhpnnidaaGreatDoor
namespace Go.Proofs.YtlailcmhpnnidaaGreatDoor
open Go.RowKit Mem
namespace Nd
theorem runT_ne : ∀ (ss : List Stp) (l : List Tr) (i n j : Nat) (m : Int), runT l ss i = .inl (m, n) → m ≠ 0
 | [], l, i, n, j, m, h => by rw [runT] at h; cases h
 | s :: ss, l, i, n, j, m, h => by
  rw [runT] at h
  by_cases h0 : (doT l s).1 = 0
  ·rw [if_pos h0] at h
   exact runT_ne ss _ _ _ j _ h
  ·rw [if_neg h0] at h
   injection h with h
   injection h with h1 h2
   rw [← h1]
   exact h0
theorem buildT_ne {ss : List Stp} {n i : Int} (h : buildT ss = .inl (n, i)) : n ≠ 0 := by
 unfold buildT at h
 by_cases hl : 65536 < ss.length
 ·rw [if_pos hl] at h
  injection h with h
  injection h with h1 h2
  omega
 ·rw [if_neg hl] at h
  cases hr : runT [] ss 0 with
  | inl x =>
   rw [hr] at h
   injection h with h
   injection h with h1 h2
   have := runT_ne ss [] 0 x.2 0 x.1 hr
   rw [← h1]
   exact this
  | inr l =>
   rw [hr] at h
   match l, h with
   | [], h => injection h with h; injection h with h1 h2; omega
   | [t], h => cases h
   | _ :: _ :: _, h => injection h with h; injection h with h1 h2; omega
theorem refBuild_all (v : Value) (ss : List Stp) (w : World) (hS : RdS w v ss) (hF : ∀ s ∈ ss, s.Fine) (hC : ∀ s ∈ ss, s.Cnt) : Calls Tryz.prog 25 #[v] w (RBuildP ss w) := by
 by_cases hn : ss.length ≤ 65536
 ·exact refBuild_any v ss w hS hF hC hn
 ·exact refBuild_long v ss w hS (by omega)
end Nd
end Go.Proofs.YtlailcmhpnnidaaGreatDoor
namespace Go.Proofs.YtlailcmhpnnidaaGreatDoor
open Go.RowKit Mem Utf Ref3 Idx Tok TokC
namespace Nd
theorem two_out_0 (n : Int) (hn : n < 1 ∨ 11 < n) (w : World) : Calls Tryz.prog 30 #[.nilIface, .int .i64 n] w (BoolR false w) := by
 have e1 : (n == 1) = false := by rw [beq_eq_false_iff_ne]; omega
 have e2 : (n == 2) = false := by rw [beq_eq_false_iff_ne]; omega
 have e3 : (n == 3) = false := by rw [beq_eq_false_iff_ne]; omega
 have e4 : (n == 4) = false := by rw [beq_eq_false_iff_ne]; omega
 have e5 : (n == 5) = false := by rw [beq_eq_false_iff_ne]; omega
 have e6 : (n == 6) = false := by rw [beq_eq_false_iff_ne]; omega
 have e7 : (n == 7) = false := by rw [beq_eq_false_iff_ne]; omega
 have e8 : (n == 8) = false := by rw [beq_eq_false_iff_ne]; omega
 have e9 : (n == 9) = false := by rw [beq_eq_false_iff_ne]; omega
 have e10 : (n == 10) = false := by rw [beq_eq_false_iff_ne]; omega
 have e11 : (n == 11) = false := by rw [beq_eq_false_iff_ne]; omega
 clear hn
 go_enter Tryz.func30, Tryz.ntmps30
 go_wp2
 go_ret
 exact ⟨rfl, rfl⟩
theorem two_out_1 (x : Value) (n : Int) (hn : n < 1 ∨ 11 < n) (w : World) : Calls Tryz.prog 30 #[(.iface 103 x), .int .i64 n] w (BoolR false w) := by
 have e1 : (n == 1) = false := by rw [beq_eq_false_iff_ne]; omega
 have e2 : (n == 2) = false := by rw [beq_eq_false_iff_ne]; omega
 have e3 : (n == 3) = false := by rw [beq_eq_false_iff_ne]; omega
 have e4 : (n == 4) = false := by rw [beq_eq_false_iff_ne]; omega
 have e5 : (n == 5) = false := by rw [beq_eq_false_iff_ne]; omega
 have e6 : (n == 6) = false := by rw [beq_eq_false_iff_ne]; omega
 have e7 : (n == 7) = false := by rw [beq_eq_false_iff_ne]; omega
 have e8 : (n == 8) = false := by rw [beq_eq_false_iff_ne]; omega
 have e9 : (n == 9) = false := by rw [beq_eq_false_iff_ne]; omega
 have e10 : (n == 10) = false := by rw [beq_eq_false_iff_ne]; omega
 have e11 : (n == 11) = false := by rw [beq_eq_false_iff_ne]; omega
 clear hn
 go_enter Tryz.func30, Tryz.ntmps30
 go_wp2
 go_ret
 exact ⟨rfl, rfl⟩
theorem two_out_2 (x : Value) (n : Int) (hn : n < 1 ∨ 11 < n) (w : World) : Calls Tryz.prog 30 #[(.iface 104 x), .int .i64 n] w (BoolR false w) := by
 have e1 : (n == 1) = false := by rw [beq_eq_false_iff_ne]; omega
 have e2 : (n == 2) = false := by rw [beq_eq_false_iff_ne]; omega
 have e3 : (n == 3) = false := by rw [beq_eq_false_iff_ne]; omega
 have e4 : (n == 4) = false := by rw [beq_eq_false_iff_ne]; omega
 have e5 : (n == 5) = false := by rw [beq_eq_false_iff_ne]; omega
 have e6 : (n == 6) = false := by rw [beq_eq_false_iff_ne]; omega
 have e7 : (n == 7) = false := by rw [beq_eq_false_iff_ne]; omega
 have e8 : (n == 8) = false := by rw [beq_eq_false_iff_ne]; omega
 have e9 : (n == 9) = false := by rw [beq_eq_false_iff_ne]; omega
 have e10 : (n == 10) = false := by rw [beq_eq_false_iff_ne]; omega
 have e11 : (n == 11) = false := by rw [beq_eq_false_iff_ne]; omega
 clear hn
 go_enter Tryz.func30, Tryz.ntmps30
 go_wp2
 go_ret
 exact ⟨rfl, rfl⟩
theorem two_out_3 (x : Value) (n : Int) (hn : n < 1 ∨ 11 < n) (w : World) : Calls Tryz.prog 30 #[(.iface 106 x), .int .i64 n] w (BoolR false w) := by
 have e1 : (n == 1) = false := by rw [beq_eq_false_iff_ne]; omega
 have e2 : (n == 2) = false := by rw [beq_eq_false_iff_ne]; omega
 have e3 : (n == 3) = false := by rw [beq_eq_false_iff_ne]; omega
 have e4 : (n == 4) = false := by rw [beq_eq_false_iff_ne]; omega
 have e5 : (n == 5) = false := by rw [beq_eq_false_iff_ne]; omega
 have e6 : (n == 6) = false := by rw [beq_eq_false_iff_ne]; omega
 have e7 : (n == 7) = false := by rw [beq_eq_false_iff_ne]; omega
 have e8 : (n == 8) = false := by rw [beq_eq_false_iff_ne]; omega
 have e9 : (n == 9) = false := by rw [beq_eq_false_iff_ne]; omega
 have e10 : (n == 10) = false := by rw [beq_eq_false_iff_ne]; omega
 have e11 : (n == 11) = false := by rw [beq_eq_false_iff_ne]; omega
 clear hn
 go_enter Tryz.func30, Tryz.ntmps30
 go_wp2
 go_ret
 exact ⟨rfl, rfl⟩
theorem two_out_4 (x : Value) (n : Int) (hn : n < 1 ∨ 11 < n) (w : World) : Calls Tryz.prog 30 #[(.iface 108 x), .int .i64 n] w (BoolR false w) := by
 have e1 : (n == 1) = false := by rw [beq_eq_false_iff_ne]; omega
 have e2 : (n == 2) = false := by rw [beq_eq_false_iff_ne]; omega
 have e3 : (n == 3) = false := by rw [beq_eq_false_iff_ne]; omega
 have e4 : (n == 4) = false := by rw [beq_eq_false_iff_ne]; omega
 have e5 : (n == 5) = false := by rw [beq_eq_false_iff_ne]; omega
 have e6 : (n == 6) = false := by rw [beq_eq_false_iff_ne]; omega
 have e7 : (n == 7) = false := by rw [beq_eq_false_iff_ne]; omega
 have e8 : (n == 8) = false := by rw [beq_eq_false_iff_ne]; omega
 have e9 : (n == 9) = false := by rw [beq_eq_false_iff_ne]; omega
 have e10 : (n == 10) = false := by rw [beq_eq_false_iff_ne]; omega
 have e11 : (n == 11) = false := by rw [beq_eq_false_iff_ne]; omega
 clear hn
 go_enter Tryz.func30, Tryz.ntmps30
 go_wp2
 go_ret
 exact ⟨rfl, rfl⟩
theorem two_out_5 (x : Value) (n : Int) (hn : n < 1 ∨ 11 < n) (w : World) : Calls Tryz.prog 30 #[(.iface 109 x), .int .i64 n] w (BoolR false w) := by
 have e1 : (n == 1) = false := by rw [beq_eq_false_iff_ne]; omega
 have e2 : (n == 2) = false := by rw [beq_eq_false_iff_ne]; omega
 have e3 : (n == 3) = false := by rw [beq_eq_false_iff_ne]; omega
 have e4 : (n == 4) = false := by rw [beq_eq_false_iff_ne]; omega
 have e5 : (n == 5) = false := by rw [beq_eq_false_iff_ne]; omega
 have e6 : (n == 6) = false := by rw [beq_eq_false_iff_ne]; omega
 have e7 : (n == 7) = false := by rw [beq_eq_false_iff_ne]; omega
 have e8 : (n == 8) = false := by rw [beq_eq_false_iff_ne]; omega
 have e9 : (n == 9) = false := by rw [beq_eq_false_iff_ne]; omega
 have e10 : (n == 10) = false := by rw [beq_eq_false_iff_ne]; omega
 have e11 : (n == 11) = false := by rw [beq_eq_false_iff_ne]; omega
 clear hn
 go_enter Tryz.func30, Tryz.ntmps30
 go_wp2
 go_ret
 exact ⟨rfl, rfl⟩
theorem two_out_6 (x : Value) (n : Int) (hn : n < 1 ∨ 11 < n) (w : World) : Calls Tryz.prog 30 #[(.iface 112 x), .int .i64 n] w (BoolR false w) := by
 have e1 : (n == 1) = false := by rw [beq_eq_false_iff_ne]; omega
 have e2 : (n == 2) = false := by rw [beq_eq_false_iff_ne]; omega
 have e3 : (n == 3) = false := by rw [beq_eq_false_iff_ne]; omega
 have e4 : (n == 4) = false := by rw [beq_eq_false_iff_ne]; omega
 have e5 : (n == 5) = false := by rw [beq_eq_false_iff_ne]; omega
 have e6 : (n == 6) = false := by rw [beq_eq_false_iff_ne]; omega
 have e7 : (n == 7) = false := by rw [beq_eq_false_iff_ne]; omega
 have e8 : (n == 8) = false := by rw [beq_eq_false_iff_ne]; omega
 have e9 : (n == 9) = false := by rw [beq_eq_false_iff_ne]; omega
 have e10 : (n == 10) = false := by rw [beq_eq_false_iff_ne]; omega
 have e11 : (n == 11) = false := by rw [beq_eq_false_iff_ne]; omega
 clear hn
 go_enter Tryz.func30, Tryz.ntmps30
 go_wp2
 go_ret
 exact ⟨rfl, rfl⟩
theorem two_out_7 (x : Value) (n : Int) (hn : n < 1 ∨ 11 < n) (w : World) : Calls Tryz.prog 30 #[(.iface 53 x), .int .i64 n] w (BoolR false w) := by
 have e1 : (n == 1) = false := by rw [beq_eq_false_iff_ne]; omega
 have e2 : (n == 2) = false := by rw [beq_eq_false_iff_ne]; omega
 have e3 : (n == 3) = false := by rw [beq_eq_false_iff_ne]; omega
 have e4 : (n == 4) = false := by rw [beq_eq_false_iff_ne]; omega
 have e5 : (n == 5) = false := by rw [beq_eq_false_iff_ne]; omega
 have e6 : (n == 6) = false := by rw [beq_eq_false_iff_ne]; omega
 have e7 : (n == 7) = false := by rw [beq_eq_false_iff_ne]; omega
 have e8 : (n == 8) = false := by rw [beq_eq_false_iff_ne]; omega
 have e9 : (n == 9) = false := by rw [beq_eq_false_iff_ne]; omega
 have e10 : (n == 10) = false := by rw [beq_eq_false_iff_ne]; omega
 have e11 : (n == 11) = false := by rw [beq_eq_false_iff_ne]; omega
 clear hn
 go_enter Tryz.func30, Tryz.ntmps30
 go_wp2
 go_ret
 exact ⟨rfl, rfl⟩
theorem two_out {k : Nat} {v : Value} (h : IsK k v) (n : Int) (hn : n < 1 ∨ 11 < n) (w : World) : Calls Tryz.prog 30 #[v, .int .i64 n] w (BoolR false w) := by
 rcases h with ⟨_, rfl⟩ | ⟨_, rfl⟩ | ⟨_, x, rfl⟩ | ⟨_, x, rfl⟩ | ⟨_, x, rfl⟩ | ⟨_, x, rfl⟩ | ⟨_, x, rfl⟩ | ⟨_, x, rfl⟩ | ⟨_, rfl⟩
 ·exact two_out_0 n hn w
 ·exact two_out_1 _ n hn w
 ·exact two_out_2 _ n hn w
 ·exact two_out_3 _ n hn w
 ·exact two_out_4 _ n hn w
 ·exact two_out_5 _ n hn w
 ·exact two_out_6 _ n hn w
 ·exact two_out_7 _ n hn w
 ·exact two_out_7 _ n hn w
def wantB (k : Nat) (n : Int) : Bool := decide (1 ≤ n ∧ n ≤ 11) && holdB k n.toNat
theorem two_any {k : Nat} {v : Value} (h : IsK k v) (n : Int) (w : World) : Calls Tryz.prog 30 #[v, .int .i64 n] w (BoolR (wantB k n) w) := by
 unfold wantB
 by_cases hn : 1 ≤ n ∧ n ≤ 11
 ·obtain ⟨m, rfl⟩ : ∃ m : Nat, n = (m : Int) := ⟨n.toNat, by omega⟩
  rw [decide_eq_true hn, Bool.true_and, Int.toNat_natCast]
  exact two_k h (by omega) w
 ·rw [decide_eq_false hn, Bool.false_and]
  exact two_out h n (by omega) w
theorem lookP_val {w0 : World} {t : Tr} {l : List UInt8} {w w' : World} {e : Ending} (h : LookP w0 t l w e w') : ∃ v, e = .returned v ∧ IsK (lookK (some t) l) v := by
 obtain ⟨h, hb⟩ := h
 unfold lookK
 dsimp only
 cases hp : parseS (wrong l) l with
 | error x =>
  rw [hp] at h
  obtain rfl := h
  exact ⟨_, rfl, .inr (.inr (.inr (.inr (.inr (.inr (.inr (.inr ⟨rfl, rfl⟩)))))))⟩
 | ok ts =>
  rw [hp] at h
  dsimp only at h ⊢
  cases hle : leadT t ts 0 with
  | inl n =>
   rw [hle] at h
   obtain ⟨g, rfl, _⟩ := h
   exact ⟨_, rfl, .inr (.inr (.inr (.inr (.inr (.inr (.inr (.inl ⟨rfl, _, rfl⟩)))))))⟩
  | inr u =>
   rw [hle] at h
   obtain ⟨x, rfl, hx⟩ := h
   exact ⟨_, rfl, isK_told hx⟩
def TellV (b : Bool) (x : Value) : Value := if b = true then .tuple #[x, .bool true] else .tuple #[.nilIface, .bool false]
end Nd
end Go.Proofs.YtlailcmhpnnidaaGreatDoor
namespace Go.Proofs.YtlailcmhpnnidaaGreatDoor
open Go.RowKit Mem Utf Ref3 Idx Tok TokC
namespace Nd
def LookO (w0 : World) (t : Tr) (l : List UInt8) (w : World) (e : Ending) (w' : World) : Prop :=
 (match parseS (wrong l) l with
 | .error x => e = .returned (.iface 53 (.pointer none))
 | .ok ts => match leadT t ts 0 with
   | .inl n => ∃ g, e = .returned (.iface 53 (.pointer (some ⟨g, 0, none⟩))) ∧ Blk w' g 60 #[.int .i64 n] ∧ w.heap.size ≤ g
   | .inr u => ∃ x, e = .returned x ∧ TdR w' u w.heap.size w'.heap.size x) ∧ Below w.heap.size w w'
theorem lookO_P {w0 w w' : World} {t : Tr} {l : List UInt8} {e : Ending} (h : LookO w0 t l w e w') : LookP w0 t l w e w' := by
 unfold LookO at h
 unfold LookP
 cases hp : parseS (wrong l) l with
 | error x =>
  rw [hp] at h
  exact h
 | ok ts =>
  rw [hp] at h
  dsimp only at h ⊢
  cases hle : leadT t ts 0 with
  | inl n =>
   rw [hle] at h
   obtain ⟨⟨g, h1, h2, _⟩, h3⟩ := h
   exact ⟨⟨g, h1, h2⟩, h3⟩
  | inr u =>
   rw [hle] at h
   obtain ⟨⟨x, h1, h2⟩, h3⟩ := h
   exact ⟨⟨x, h1, TdT.move (fun _ _ _ => ⟨trivial, rfl⟩) _ _ (TdR.toT _ _ _ _ h2)⟩, h3⟩
theorem lookO_err {w0 : World} {t : Tr} {l : List UInt8} {w w' : World} {x : Int × Int} (h : parseS (wrong l) l = .error x) (hb : Below w.heap.size w w') : LookO w0 t l w (.returned (.iface 53 (.pointer none))) w' := by
 unfold LookO
 rw [h]
 exact ⟨rfl, hb⟩
theorem lookO_none {w0 : World} {t : Tr} {l : List UInt8} {w w' : World} {ts : List (List UInt8)} {n g : Nat} (h : parseS (wrong l) l = .ok ts) (h2 : leadT t ts 0 = .inl n) (hB : Blk w' g 60 #[.int .i64 n]) (hb : Below w.heap.size w w') (hg : w.heap.size ≤ g) : LookO w0 t l w (.returned (.iface 53 (.pointer (some ⟨g, 0, none⟩)))) w' := by
 unfold LookO
 rw [h]
 dsimp only
 rw [h2]
 exact ⟨⟨g, rfl, hB, hg⟩, hb⟩
theorem lookO_some {w0 : World} {t u : Tr} {l : List UInt8} {w w' : World} {ts : List (List UInt8)} {x : Value} (h : parseS (wrong l) l = .ok ts) (h2 : leadT t ts 0 = .inr u) (hx : TdR w' u w.heap.size w'.heap.size x) (hb : Below w.heap.size w w') : LookO w0 t l w (.returned x) w' := by
 unfold LookO
 rw [h]
 dsimp only
 rw [h2]
 exact ⟨⟨x, rfl, hx⟩, hb⟩
theorem plookO_any (g : Nat) (t : Tr) (v : Value) (l : List UInt8) (w0 w : World) (hB : Blk w0 g 155 #[v]) (h : RdA w0 t v) (hb0 : Below w0.heap.size w0 w) (ho : t.Ok) (hf : t.fit = true) (hl : l.length ≤ 4194304) (hG : Glob w) (hT : Tab w) :
  Calls Tryz.prog 37 #[.pointer (some ⟨g, 0, none⟩), .string ⟨l.toArray⟩] w (LookO w0 t l w) := by
 have HB := Lib.hid hB
 have HR := Lib.hid h
 have HB0 := Lib.hid hb0
 have HO := Lib.hid (And.intro ho hf)
 have HL := Lib.hid hl
 have HG := Lib.hid hG
 have HT := Lib.hid hT
 have q1 := err_ne_nil
 have q2 := err_ne_held
 have hsz0 : (ByteArray.mk l.toArray).size ≤ 2147483648 := by show l.toArray.size ≤ _; rw [List.size_toArray]; omega
 clear hB h hb0 ho hf hl hG hT
 go_enter Tryz.func37, Tryz.ntmps37
 go_wp2_with fail
 ((with_reducible refine (parse_any ⟨l.toArray⟩ hsz0 _ HG.out).mono ?_); rintro e w1 ⟨hbw1, he, hok⟩)
 have he' : ∀ x, parseS (wrong l) l = .error x → e = .returned (.tuple #[.slice none 0 0, Go.Proofs.YtlailcmhpnnidaaGreatDoor.errV x.1 x.2]) := he
 have hok' : ∀ ts, parseS (wrong l) l = .ok ts → ∃ v, e = .returned (.tuple #[v, .nilIface]) ∧ w1.ownsRow _ 9 1 v ts.length (ts.map strV) := hok
 clear he hok
 cases hp : parseS (wrong l) l with
 | error x =>
  obtain rfl := he' x hp
  have HF := Lib.hid (lookO_err (w0 := w0) (t := t) hp hbw1)
  clear he' hok' hp hbw1
  obtain ⟨T, u, hTu⟩ := errV_form x.1 x.2
  rw [hTu]
  clear hTu
  go_wp2
  go_ret
  exact HF.out
 | ok ts =>
  obtain ⟨tv, rfl, hown⟩ := hok' ts hp
  clear he' hok'
  obtain ⟨A, c, rfl⟩ := own_slice hown
  have hrd : Rd w1 (.slice A ts.length c) ts := Rd.of_own hown
  have htf := toks_fine hp
  have HP := Lib.hid hp
  have HBW1 := Lib.hid hbw1
  have HLD := Lib.hid (lead_any g t v A c ts w0 w1 HB.out HR.out (HB0.out.trans (hbw1.mono HB0.out.size)) HO.out.1 HO.out.2 hrd (fun x hx => ⟨(htf.1 x hx).1, by have := (htf.1 x hx).2; have := HL.out; omega⟩) htf.2.1 (HT.out.next hbw1))
  have hn := htf.2.1
  clear hp hown htf hrd hbw1
  go_wp2_with fail
  ((with_reducible refine HLD.out.mono ?_); rintro e w2 ⟨he, hb2⟩)
  have HBW2 := Lib.hid (HBW1.out.trans (hb2.mono HBW1.out.size))
  clear hb2 HLD
  cases hle : leadT t ts 0 with
  | inl n =>
   rw [hle] at he
   obtain rfl := he
   have hnl := lead_of_toks hle
   have hnt : (n : Int) < (ts.length : Int) := by omega
   have hb3 := HBW2.out.alloc HBW2.out.size (.cells #[.nilIface] 68)
   have hb4 := hb3.alloc hb3.size (.cells #[.int .i64 n] 60)
   have hsz : (w2.alloc (.cells #[.nilIface] 68)).heap.size = w2.heap.size + 1 := by simp
   have hB5 := Blk.new (w2.alloc (.cells #[.nilIface] 68)) 60 #[.int .i64 n]
   rw [hsz] at hB5
   have HF := Lib.hid (lookO_none (w0 := w0) HP.out hle hB5 hb4 (by have := HBW2.out.size; omega))
   clear hle hb3 hb4 hsz hB5
   go_wp2
   go_ret
   exact HF.out
  | inr u =>
   rw [hle] at he
   obtain ⟨tx, ux, rfl, hrd, huo⟩ := he
   have hb3 := HBW2.out.alloc HBW2.out.size (.cells #[.iface tx ux] 68)
   have HV := Lib.hid (valueR_any (fun _ => True) u huo.1 (fit_le huo.2).1 (.iface tx ux) (w2.alloc (.cells #[.iface tx ux] 68)) (rda_below hrd (HB0.out.trans (hb3.mono HB0.out.size))))
   have HB3 := Lib.hid hb3
   have HLE := Lib.hid hle
   clear hb3 hle hrd huo
   go_wp2_with fail
   ((with_reducible refine HV.out.mono ?_); rintro e w3 ⟨x, rfl, htd, hb4⟩)
   have HF := Lib.hid (lookO_some (w0 := w0) HP.out HLE.out (TdR.go _ _ _ _ _ _ htd HB3.out.size (Nat.le_refl _) fun _ _ _ _ => rfl) (HB3.out.trans (hb4.mono HB3.out.size)))
   clear hb4 htd HV
   go_wp2
   go_ret
   exact HF.out
theorem tellO_some (g : Nat) (t : Tr) (v : Value) (l : List UInt8) (w0 w : World) (hB : Blk w0 g 155 #[v]) (h : RdA w0 t v) (hb0 : Below w0.heap.size w0 w) (ho : t.Ok) (hf : t.fit = true) (hl : l.length ≤ 4194304) (hG : Glob w) (hT : Tab w) (n : Int) :
  Calls Tryz.prog 16 #[.pointer (some ⟨g, 0, none⟩), .string ⟨l.toArray⟩, .int .i64 n] w fun e w' => ∃ x, LookO w0 t l w (.returned x) w' ∧ e = .returned (TellV (wantB (lookK (some t) l) n) x) := by
 have HC := Lib.hid (plookO_any g t v l w0 w hB h hb0 ho hf hl hG hT)
 go_enter Tryz.func16, Tryz.ntmps16
 go_wp2_with fail
 ((with_reducible refine HC.out.mono ?_); intro e w2 hp; obtain ⟨x, rfl, hk⟩ := lookP_val (lookO_P hp); have HP := Lib.hid hp; have HK := Lib.hid hk; clear hp hk hB h hb0 ho hf hl hG hT HC)
 go_wp2_with fail
 ((with_reducible refine (two_any HK.out n _).mono ?_); rintro e w3 ⟨rfl, rfl⟩)
 obtain ⟨b, hb⟩ : ∃ b, wantB (lookK (some t) l) n = b := ⟨_, rfl⟩
 rw [hb]
 have HW := Lib.hid hb
 clear hb
 cases b with
 | true =>
  go_wp2
  go_ret2
  exact ⟨_, HP.out, by rw [HW.out]; rfl⟩
 | false =>
  go_wp2
  go_ret2
  exact ⟨_, HP.out, by rw [HW.out]; rfl⟩
end Nd
end Go.Proofs.YtlailcmhpnnidaaGreatDoor
namespace Go.Proofs.YtlailcmhpnnidaaGreatDoor
open Go.RowKit Mem
namespace Nd
def MadeP (ss : List Stp) (w : World) (e : Ending) (w' : World) : Prop :=
 Below w.heap.size w w' ∧ match buildT ss with
  | .inl _ => e = .returned (.tuple #[.pointer none, noVal, .bool false])
  | .inr t => ∃ g A c K d, e = .returned (.tuple #[.pointer (some ⟨g, 0, none⟩), valV t A c K d, .bool true]) ∧ RdVA w' t ((A, c), (K, d)) ∧ TreeAt w.heap.size w' g t
theorem madeP_no {ss : List Stp} {w w' : World} {x : Int × Int} (h : buildT ss = .inl x) (hb : Below w.heap.size w w') : MadeP ss w (.returned (.tuple #[.pointer none, noVal, .bool false])) w' := by
 unfold MadeP
 rw [h]
 exact ⟨hb, rfl⟩
theorem madeP_yes {ss : List Stp} {w w' : World} {t : Tr} {g : Nat} (h : buildT ss = .inr t) {A : Option Addr} {c : Nat} {K : Option Addr} {d : Nat} (hr : RdVA w' t ((A, c), (K, d))) (hT : TreeAt w.heap.size w' g t) (hb : Below w.heap.size w w') : MadeP ss w (.returned (.tuple #[.pointer (some ⟨g, 0, none⟩), valV t A c K d, .bool true])) w' := by
 unfold MadeP
 rw [h]
 exact ⟨hb, g, A, c, K, d, rfl, hr, hT⟩
theorem tree_far {B C p g : Nat} {t : Tr} {w w' : World} (h : TreeAt B w g t) (hC : C ≤ B) (hp : p < B) (hg : w.grownBy w' (some p)) : TreeAt C w'.drew g t := by
 obtain ⟨h1, h2, v, hB, hr⟩ := h
 exact ⟨by omega, h2, v, (hB.only hg (by intro e; injection e with e; omega)).drew, RdT.move (w' := w'.drew) (fun k hk hs => ⟨by have h9 : B ≤ k := hs; show C ≤ k; omega, hg.block k hk (by have h9 : B ≤ k := hs; intro e; injection e with e; omega)⟩) _ _ hr⟩
theorem made_law (v : Value) (ss : List Stp) (w : World) (hS : RdS w v ss) (hF : ∀ s ∈ ss, s.Fine) (hC : ∀ s ∈ ss, s.Cnt) (hn : ss.length ≤ 1048576) : Calls Tryz.prog 6 #[v] w (MadeP ss w) := by
 have hba : Below w.heap.size w (w.alloc (.cells #[.int .i64 0, .bool false, .int .u64 0, .string ⟨#[]⟩, .slice none 0 0, .slice none 0 0] 28)) := (Below.refl _ _).alloc (Nat.le_refl _) _
 have hB2 := Blk.new w 28 #[.int .i64 0, .bool false, .int .u64 0, .string ⟨#[]⟩, .slice none 0 0, .slice none 0 0]
 have hsz : (w.alloc (.cells #[.int .i64 0, .bool false, .int .u64 0, .string ⟨#[]⟩, .slice none 0 0, .slice none 0 0] 28)).heap.size = w.heap.size + 1 := by simp
 have hS1 := hS.below hba
 obtain ⟨A, c, rfl, _⟩ := id hS1
 obtain ⟨es, hes, hec⟩ := rds_es hS1
 have hel : es.length = ss.length := by rw [← hes]; simp
 obtain ⟨i0, hi0, hz0, hz1, hz2⟩ := info_parts info_rstep
 have HSS := Lib.hid hS1
 have HES := Lib.hid (And.intro hes hec)
 have HEL := Lib.hid hel
 have HFC := Lib.hid (And.intro hF hC)
 have HB2 := Lib.hid hB2
 have HBA := Lib.hid hba
 have hnn : ss.length < 1048577 := by omega
 clear hS hS1 hes hec hel hn hF hC hba hB2
 go_enter Tryz.func6, Tryz.ntmps6
 go_wp2_with fail
 generalize (w.alloc (.cells #[.int .i64 0, .bool false, .int .u64 0, .string ⟨#[]⟩, .slice none 0 0, .slice none 0 0] 28)) = w1 at *
 go_loopw [5, 15] (fun c5 c15 wr => ∃ k : Nat, k ≤ ss.length ∧ c15 = .int .i64 k ∧ Hid (wr.ownsRow w1.heap.size 81 6 c5 k (cellsE (es.take k)) ∧ Below w1.heap.size w1 wr)) (fun _ c15 _ => ss.length - (intOf c15).toNat)
 case atStart => exact ⟨0, Nat.zero_le _, rfl, Lib.hid ⟨World.ownsRow_nil _ _ _ _, Below.refl _ _⟩⟩
 case round =>
  obtain ⟨k, hk, rfl, HI⟩ := hrel
  have hbs := HI.out.2.size
  by_cases hlt : k < ss.length
  ·obtain ⟨g, o, K, q, rfl, hC, hek⟩ := HES.out.2 k hlt
   have hsn := cellsE_snoc es k _ hek
   obtain ⟨c0, c1, c2, c3, c4, c5, ck⟩ := hC.below HI.out.2
   have HSN := Lib.hid hsn
   clear ck hC hek hsn
   generalize ss[k] = s at *
   obtain ⟨A3, q3, rfl⟩ := own_slice HI.out.1
   have hba : Below wr.heap.size wr (wr.alloc (.cells #[.int .i64 s.sort, .bool s.flag, .int .u64 (s.bits : Int), .string ⟨s.text.toArray⟩, .int .i64 s.count, .slice K s.keys.length q] 79)) := (Below.refl _ _).alloc (Nat.le_refl _) _
   have ho9 : ((wr.alloc (.cells #[.int .i64 s.sort, .bool s.flag, .int .u64 (s.bits : Int), .string ⟨s.text.toArray⟩, .int .i64 s.count, .slice K s.keys.length q] 79)).alloc (.cells #[.int .i64 s.sort, .bool s.flag, .int .u64 (s.bits : Int), .string ⟨s.text.toArray⟩, .int .i64 s.count, .slice K s.keys.length q] 81)).ownsRow w1.heap.size 81 6 (.slice A3 k q3) k (cellsE (es.take k)) := own_below (own_below HI.out.1 hba) ((Below.refl _ _).alloc (Nat.le_refl _) _)
   have hcn := cells_new (wr.alloc (.cells #[.int .i64 s.sort, .bool s.flag, .int .u64 (s.bits : Int), .string ⟨s.text.toArray⟩, .int .i64 s.count, .slice K s.keys.length q] 79)) (cell6 s K q) 81
   rw [World.size_alloc] at hcn
   have HBB := Lib.hid (HI.out.2.trans ((hba.alloc hba.size (.cells #[.int .i64 s.sort, .bool s.flag, .int .u64 (s.bits : Int), .string ⟨s.text.toArray⟩, .int .i64 s.count, .slice K s.keys.length q] 81)).mono hbs))
   go_wp2_with (at_builtin; refine wpList_append_own_at _ rfl _ _ 76 rfl w1.heap.size 81 i0 _ 6 72 Tryz.underlying76 hi0 hz0 hz1 hz2 rfl (by omega) (.slice A3 k q3) k (cellsE (es.take k)) rfl ho9 ⟨wr.heap.size + 1, 0, none⟩ 1 1 (cell6 s K q) rfl rfl hcn (cell6_one s K q) ?b1 ?b2 ?b3 ?_; (unfold maxLen; omega); omega; (simp; omega); intro v9 w9 hown9 hgr9 hnil9 hat9)
   have hb9 : Below w1.heap.size w1 w9 := HBB.out.grown hgr9 (by simp; omega) (fun j hj => (own_typed ho9 j hj).1)
   have HN : Hid (w9.ownsRow w1.heap.size 81 6 v9 (k + 1) (cellsE (es.take (k + 1))) ∧ Below w1.heap.size w1 w9) := Lib.hid ⟨by rw [HSN.out]; exact hown9, hb9⟩
   clear hown9 hgr9 hnil9 hat9 hb9 ho9
   go_roundw
   case rel => exact ⟨k + 1, by omega, by go_num, HN⟩
   case measure => simp [intOf]; omega
  ·obtain rfl : k = ss.length := by omega
   have hfin : RdS wr u5 ss := by
    have h1 := HI.out.1
    rw [← HEL.out, List.take_of_length_le (Nat.le_refl _)] at h1
    have h2 := own_rds h1 (fun e he => by
     obtain ⟨j, hj, hje⟩ := List.getElem_of_mem he
     obtain ⟨g, o, K, q, _, hC, hek⟩ := HES.out.2 j (by rw [← HEL.out]; exact hj)
     rw [List.getElem?_eq_getElem hj, hje] at hek
     injection hek with hek
     rw [hek]
     exact ⟨hC.ks.below HI.out.2, hC.kc⟩)
    rw [HES.out.1] at h2
    exact h2
   have HFI := Lib.hid hfin
   clear hfin
   go_wp2_with fail
   ((with_reducible refine (refBuild_all u5 ss _ HFI.out HFC.out.1 HFC.out.2).mono ?_); rintro e w2 ⟨hb2, he⟩)
   have hb12 := HI.out.2.trans (hb2.mono hbs)
   have blk2 := HB2.out.below hb12 (by omega)
   have BLK2 := Lib.hid blk2
   have HBW := Lib.hid (HBA.out.trans (hb12.mono (by omega)))
   have hs2 := blk2.lt
   have HB2W := Lib.hid hb2
   clear hb12 hb2
   cases hbt : buildT ss with
   | inl x =>
    rw [hbt] at he
    obtain rfl := he
    have hx0 := buildT_ne hbt
    have hx1 : (x.1 != 0) = true := by simpa using hx0
    have HBT := Lib.hid hbt
    clear hbt hx0
    have z0 : w2.cell? ⟨w.heap.size, 0, none⟩ = some (.int .i64 0) := blk2.cell 0
    have z1 : w2.cell? ⟨w.heap.size, 1, none⟩ = some (.bool false) := blk2.cell 1
    have z2 : w2.cell? ⟨w.heap.size, 2, none⟩ = some (.int .u64 0) := blk2.cell 2
    have z3 : w2.cell? ⟨w.heap.size, 3, none⟩ = some (.string ⟨#[]⟩) := blk2.cell 3
    have z4 : w2.cell? ⟨w.heap.size, 4, none⟩ = some (.slice none 0 0) := blk2.cell 4
    have z5 : w2.cell? ⟨w.heap.size, 5, none⟩ = some (.slice none 0 0) := blk2.cell 5
    have q0 := blk2.frozen 0
    have q1 := blk2.frozen 1
    have q2 := blk2.frozen 2
    have q3 := blk2.frozen 3
    have q4 := blk2.frozen 4
    have q5 := blk2.frozen 5
    clear blk2
    go_upto_region 9 with fail
    go_region
    all_goals
     go_wp2
     have hf := (six_blk BLK2.out (.int .i64 0) (.bool false) (.int .u64 0) (.string ⟨#[]⟩) (.slice none 0 0) (.slice none 0 0)).alloc (.cells #[.int .i64 0, .bool false, .int .u64 0, .string ⟨#[]⟩, .slice none 0 0, .slice none 0 0] 28)
     have hbel := (six_below HBW.out (Nat.le_refl w.heap.size) (.int .i64 0) (.bool false) (.int .u64 0) (.string ⟨#[]⟩) (.slice none 0 0) (.slice none 0 0)).alloc (by have := HBW.out.size; simp [six]; omega) (.cells #[.int .i64 0, .bool false, .int .u64 0, .string ⟨#[]⟩, .slice none 0 0, .slice none 0 0] 28)
     unfold six at hf hbel
     generalize ((((((w2.setCell ⟨w.heap.size, 0, none⟩ (.int .i64 0)).setCell ⟨w.heap.size, 1, none⟩ (.bool false)).setCell ⟨w.heap.size, 2, none⟩ (.int .u64 0)).setCell ⟨w.heap.size, 3, none⟩ (.string ⟨#[]⟩)).setCell ⟨w.heap.size, 4, none⟩ (.slice none 0 0)).setCell ⟨w.heap.size, 5, none⟩ (.slice none 0 0)).alloc (.cells #[.int .i64 0, .bool false, .int .u64 0, .string ⟨#[]⟩, .slice none 0 0, .slice none 0 0] 28) = wf at *
     have dd0 : wf.cell? ⟨w.heap.size, 0, none⟩ = some (.int .i64 0) := hf.cell 0
     have dd1 : wf.cell? ⟨w.heap.size, 1, none⟩ = some (.bool false) := hf.cell 1
     have dd2 : wf.cell? ⟨w.heap.size, 2, none⟩ = some (.int .u64 0) := hf.cell 2
     have dd3 : wf.cell? ⟨w.heap.size, 3, none⟩ = some (.string ⟨#[]⟩) := hf.cell 3
     have dd4 : wf.cell? ⟨w.heap.size, 4, none⟩ = some (.slice none 0 0) := hf.cell 4
     have dd5 : wf.cell? ⟨w.heap.size, 5, none⟩ = some (.slice none 0 0) := hf.cell 5
     refine bodyPost_ret (v := .tuple #[.pointer none, noVal, .bool false]) ?_ rfl (madeP_no HBT.out (hbel.trans ((drewN_below wf 1).mono hbel.size)))
     simp [results, Tryz.results6, go_sem, dd0, dd1, dd2, dd3, dd4, dd5]
   | inr t =>
    rw [hbt] at he
    obtain ⟨A2, c2, K2, d2, rfl, hrd⟩ := he
    have hx1 : ((0 : Int) != 0) = false := by decide
    have hb8 : Below w2.heap.size w2 (w2.alloc (.cells #[.int .i64 (t.srt : Nat), .bool t.fl, .int .u64 (t.bi : Nat), .string ⟨t.tx.toArray⟩, .slice A2 t.kids.length c2, .slice K2 t.kn.length d2] 28)) := (Below.refl _ _).alloc (Nat.le_refl _) _
    have H8 := Lib.hid hb8
    have HB82 := Lib.hid (HBW.out.trans (hb8.mono HBW.out.size))
    have HRD := Lib.hid hrd
    have HBT := Lib.hid hbt
    have HS8 := Lib.hid ((HSS.out.below HI.out.2).below ((HB2W.out).trans (hb8.mono HB2W.out.size)))
    have b80 := (Blk.new w2 28 #[.int .i64 (t.srt : Nat), .bool t.fl, .int .u64 (t.bi : Nat), .string ⟨t.tx.toArray⟩, .slice A2 t.kids.length c2, .slice K2 t.kn.length d2])
    have HB80 := Lib.hid b80
    clear hbt hrd hb8 b80
    clear blk2
    go_wp2_with fail
    ((with_reducible refine (build_all _ ss _ HS8.out HFC.out.1).mono ?_); rintro e w3 ⟨hb3, he⟩)
    rw [HBT.out] at he
    obtain ⟨g, rfl, hTA⟩ := he
    have HTA := Lib.hid hTA
    have h23 := H8.out.trans (hb3.mono H8.out.size)
    have H23 := Lib.hid h23
    have HBW3 := Lib.hid (HBW.out.trans (h23.mono HBW.out.size))
    have blk2 := BLK2.out.below h23 hs2
    have BLK3 := Lib.hid blk2
    have hB80 := HB80.out.below hb3 HB80.out.lt
    have hs3 := blk2.lt
    have z0 : w3.cell? ⟨w.heap.size, 0, none⟩ = some (.int .i64 0) := blk2.cell 0
    have z1 : w3.cell? ⟨w.heap.size, 1, none⟩ = some (.bool false) := blk2.cell 1
    have z2 : w3.cell? ⟨w.heap.size, 2, none⟩ = some (.int .u64 0) := blk2.cell 2
    have z3 : w3.cell? ⟨w.heap.size, 3, none⟩ = some (.string ⟨#[]⟩) := blk2.cell 3
    have z4 : w3.cell? ⟨w.heap.size, 4, none⟩ = some (.slice none 0 0) := blk2.cell 4
    have z5 : w3.cell? ⟨w.heap.size, 5, none⟩ = some (.slice none 0 0) := blk2.cell 5
    have q0 := blk2.frozen 0
    have q1 := blk2.frozen 1
    have q2 := blk2.frozen 2
    have q3 := blk2.frozen 3
    have q4 := blk2.frozen 4
    have q5 := blk2.frozen 5
    clear blk2
    have y0 : w3.cell? ⟨w2.heap.size, 0, none⟩ = some (.int .i64 (t.srt : Nat)) := hB80.cell 0
    have y1 : w3.cell? ⟨w2.heap.size, 1, none⟩ = some (.bool t.fl) := hB80.cell 1
    have y2 : w3.cell? ⟨w2.heap.size, 2, none⟩ = some (.int .u64 (t.bi : Nat)) := hB80.cell 2
    have y3 : w3.cell? ⟨w2.heap.size, 3, none⟩ = some (.string ⟨t.tx.toArray⟩) := hB80.cell 3
    have y4 : w3.cell? ⟨w2.heap.size, 4, none⟩ = some (.slice A2 t.kids.length c2) := hB80.cell 4
    have y5 : w3.cell? ⟨w2.heap.size, 5, none⟩ = some (.slice K2 t.kn.length d2) := hB80.cell 5
    clear hB80 h23 hb3 hTA
    go_upto_region 11 with fail
    go_region
    all_goals
     go_wp2
     have hf := six_blk BLK3.out (.int .i64 (t.srt : Nat)) (.bool t.fl) (.int .u64 (t.bi : Nat)) (.string ⟨t.tx.toArray⟩) (.slice A2 t.kids.length c2) (.slice K2 t.kn.length d2)
     have hbel := six_below HBW3.out (Nat.le_refl w.heap.size) (.int .i64 (t.srt : Nat)) (.bool t.fl) (.int .u64 (t.bi : Nat)) (.string ⟨t.tx.toArray⟩) (.slice A2 t.kids.length c2) (.slice K2 t.kn.length d2)
     have hg6 := six_grown w3 w.heap.size (.int .i64 (t.srt : Nat)) (.bool t.fl) (.int .u64 (t.bi : Nat)) (.string ⟨t.tx.toArray⟩) (.slice A2 t.kids.length c2) (.slice K2 t.kn.length d2)
     have HH := Lib.hid (madeP_yes HBT.out (A := A2) (c := c2) (K := K2) (d := d2) (g := g) (RdV.move (w' := (six w3 w.heap.size (.int .i64 (t.srt : Nat)) (.bool t.fl) (.int .u64 (t.bi : Nat)) (.string ⟨t.tx.toArray⟩) (.slice A2 t.kids.length c2) (.slice K2 t.kn.length d2)).drew) (S' := fun _ => True) (fun k hk hs => ⟨trivial, (hg6.block k (Nat.lt_of_lt_of_le hk H23.out.size) (by have h9 : wr.heap.size ≤ k := hs; intro e; injection e with e; omega)).trans (H23.out.block k hk)⟩) _ _ HRD.out) (tree_far HTA.out (by have := H8.out.size; omega) (by have := H8.out.size; omega) hg6) (hbel.trans ((drewN_below _ 1).mono hbel.size)))
     unfold six at hf hbel HH
     generalize ((((((w3.setCell ⟨w.heap.size, 0, none⟩ (.int .i64 (t.srt : Nat))).setCell ⟨w.heap.size, 1, none⟩ (.bool t.fl)).setCell ⟨w.heap.size, 2, none⟩ (.int .u64 (t.bi : Nat))).setCell ⟨w.heap.size, 3, none⟩ (.string ⟨t.tx.toArray⟩)).setCell ⟨w.heap.size, 4, none⟩ (.slice A2 t.kids.length c2)).setCell ⟨w.heap.size, 5, none⟩ (.slice K2 t.kn.length d2)) = wf at *
     have dd0 : wf.cell? ⟨w.heap.size, 0, none⟩ = some (.int .i64 (t.srt : Nat)) := hf.cell 0
     have dd1 : wf.cell? ⟨w.heap.size, 1, none⟩ = some (.bool t.fl) := hf.cell 1
     have dd2 : wf.cell? ⟨w.heap.size, 2, none⟩ = some (.int .u64 (t.bi : Nat)) := hf.cell 2
     have dd3 : wf.cell? ⟨w.heap.size, 3, none⟩ = some (.string ⟨t.tx.toArray⟩) := hf.cell 3
     have dd4 : wf.cell? ⟨w.heap.size, 4, none⟩ = some (.slice A2 t.kids.length c2) := hf.cell 4
     have dd5 : wf.cell? ⟨w.heap.size, 5, none⟩ = some (.slice K2 t.kn.length d2) := hf.cell 5
     refine bodyPost_ret (v := .tuple #[.pointer (some ⟨g, 0, none⟩), valV t A2 c2 K2 d2, .bool true]) ?_ rfl HH.out
     simp [results, Tryz.results6, go_sem, dd0, dd1, dd2, dd3, dd4, dd5]
end Nd
end Go.Proofs.YtlailcmhpnnidaaGreatDoor
