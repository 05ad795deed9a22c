/-
  The Builder's contracts at this dump, out of the closure of strings.Replace. Plain laws: right texts joined and cut. Walks of package pointer: Parse. Walks of the reference of layer 13: Parse. Walks of the statements' own functions of layer 13: texts. Walks of package pointer: quoted, Print. Walks of the statements' own functions of layer 13: wakes. Walks of the index that a token says: strconv.Atoi, strconv.Itoa, Index of package pointer, Index of the reference.
-/
import Derived.Test.YtbajkglacfheiaaGreatDoorPA6
import Derived.Test.YtbajkglacfheiaaGreatDoorPA1
import Derived.Test.YtbajkglacfheiaaGreatDoorPA10
import Derived.Test.YtbajkglacfheiaaGreatDoorPA11
import Derived.Deep.LoopGhost
import Derived.Laws.IdiomStrings
import Derived.Laws.BytesArg
import Derived.KernelRfl
import Derived.Lib.AppendIntMem
import Derived.Lib.AtoiErrMem
import Derived.Lib.LaidTab
set_option linter.unusedVariables false
set_option linter.unusedSimpArgs false
set_option maxRecDepth 100000
set_option maxHeartbeats 16000000
namespace Go.Proofs.YtbajkglacfheiaaGreatDoor
open Go.RowKit
theorem laysW : Go.Proofs.Lays.n166 Tryz.prog Tryz.lays154_ren := {
 mixed := Tryz.lays154.mixed
 f166 := Tryz.lays154.f166
 f240 := Tryz.lays154.f240
 f276 := Tryz.lays154.f276
 t0 := Tryz.lays154.t0
 a0 := Tryz.lays154.a0
 z0 := Tryz.lays154.z0
 v0 := Tryz.lays154.v0
 t3 := Tryz.lays154.t3
 a3 := Tryz.lays154.a3
 z3 := Tryz.lays154.z3
 v3 := Tryz.lays154.v3
 t4 := Tryz.lays154.t4
 a4 := Tryz.lays154.a4
 z4 := Tryz.lays154.z4
 v4 := Tryz.lays154.v4
 t9 := Tryz.lays154.t9
 a9 := Tryz.lays154.a9
 z9 := Tryz.lays154.z9
 v9 := Tryz.lays154.v9
 t20 := Tryz.lays154.t20
 a20 := Tryz.lays154.a20
 z20 := Tryz.lays154.z20
 v20 := Tryz.lays154.v20
 t37 := Tryz.lays154.t37
 a37 := Tryz.lays154.a37
 z37 := Tryz.lays154.z37
 v37 := Tryz.lays154.v37
 t70 := Tryz.lays154.t70
 a70 := Tryz.lays154.a70
 z70 := Tryz.lays154.z70
 v70 := Tryz.lays154.v70
 t72 := Tryz.lays154.t72
 a72 := Tryz.lays154.a72
 z72 := Tryz.lays154.z72
 v72 := Tryz.lays154.v72
 t75 := Tryz.lays154.t75
 a75 := Tryz.lays154.a75
 z75 := Tryz.lays154.z75
 v75 := Tryz.lays154.v75
 t164 := Tryz.lays154.t164
 a164 := Tryz.lays154.a164
 z164 := Tryz.lays154.z164
 v164 := Tryz.lays154.v164 }
def Bld (w : World) (B b : Nat) (l : List UInt8) : Prop := Lib.IsBuilderF 230 5 B b (Lib.byteCells l) w
theorem writeString_any (B b : Nat) (l m : List UInt8) (w : World) (h : Bld w B b l) (hl : l.length + m.length ≤ 140737488355328) (hB : B ≤ w.heap.size) :
  Calls Tryz.prog 97 #[.pointer (some ⟨b, 0, none⟩), .string ⟨m.toArray⟩] w fun e w' =>
   e = .returned (.tuple #[.int .i64 m.length, .nilIface]) ∧ Bld w' B b (l ++ m) ∧ Below B w w' := by
 refine (Any.Builder_WriteString_f laysW Tryz.Builder_Extra_154 B b (Lib.byteCells l) ⟨m.toArray⟩ w h (by rw [Lib.byteCells_length]; exact hl) hB).mono ?_
 rintro e w' ⟨rfl, hb, hbel⟩
 refine ⟨rfl, ?_, hbel⟩
 unfold Bld
 have e : Lib.byteCells (l ++ m) = Lib.byteCells l ++ Lib.strCells ⟨m.toArray⟩ := by simp [Lib.byteCells, Lib.strCells]
 rw [e]
 exact .inr hb
theorem string_any (B b : Nat) (l : List UInt8) (w : World) (h : Bld w B b l) (hB : B ≤ w.heap.size) :
  Calls Tryz.prog 99 #[.pointer (some ⟨b, 0, none⟩)] w fun e w' =>
   e = .returned (.string ⟨l.toArray⟩) ∧ Bld w' B b l ∧ Below B w w' := Tryz.Builder_String_any_f B b l w h hB
end Go.Proofs.YtbajkglacfheiaaGreatDoor
namespace Go.Proofs.YtbajkglacfheiaaGreatDoor
open Go.RowKit Utf Ref3 UtfLaw Tok
namespace TokC
def go8 : List UInt8 → Int → Int → Option (Int × Int)
 | [], h, m => some (h, m)
 | c :: r, h, m => match fstep h m (c.toNat : Int) with
  | none => none
  | some x => go8 r x.1 x.2
theorem go8_cons (c : UInt8) (r : List UInt8) (h m : Int) : go8 (c :: r) h m = (fstep h m (c.toNat : Int)).bind fun x => go8 r x.1 x.2 := by
 rw [go8]
 cases fstep h m (c.toNat : Int) <;> rfl
theorem go8_append : ∀ (a b : List UInt8) (h m : Int), go8 (a ++ b) h m = (go8 a h m).bind fun x => go8 b x.1 x.2
 | [], b, h, m => rfl
 | c :: a, b, h, m => by
  rw [List.cons_append, go8_cons, go8_cons]
  cases fstep h m (c.toNat : Int) with
  | none => rfl
  | some x => exact go8_append a b x.1 x.2
theorem feed_go8 : ∀ (l : List UInt8) (p h m : Int), match go8 l h m with
  | none => (feed l p h m).2.2.2 = true ∧ (feed l p h m).2.2.1 = 0
  | some x => (feed l p h m).2.2.2 = false ∧ (feed l p h m).2.2.1 = x.2
 | [], p, h, m => ⟨rfl, rfl⟩
 | c :: r, p, h, m => by
  rw [go8_cons, feed_cons]
  cases fstep h m (c.toNat : Int) with
  | none => exact ⟨rfl, rfl⟩
  | some x => exact feed_go8 r (p + 1) x.1 x.2
theorem right_go8 (l : List UInt8) : (wrong l).1 = 0 ↔ ∃ x, go8 l 0 0 = some x ∧ ¬ 0 < x.2 := by
 rw [← end_wrong]
 have h := feed_go8 l 0 0 0
 unfold endP
 cases hg : go8 l 0 0 with
 | none =>
  rw [hg] at h
  obtain ⟨h1, h2⟩ := h
  rw [h1, h2]
  simp
 | some x =>
  rw [hg] at h
  obtain ⟨h1, h2⟩ := h
  rw [h1, h2]
  by_cases hx : 0 < x.2
  ·simp [hx]
  ·simp [hx]
   omega
theorem go8_inv : ∀ (l : List UInt8) (h m : Int) (x : Int × Int), Inv h m → go8 l h m = some x → Inv x.1 x.2
 | [], h, m, x, hi, e => by
  injection e with e
  rw [← e]
  exact hi
 | c :: r, h, m, x, hi, e => by
  rw [go8_cons] at e
  cases hs : fstep h m (c.toNat : Int) with
  | none =>
   rw [hs] at e
   cases e
  | some y =>
   rw [hs] at e
   have hc := c.toNat_lt
   exact go8_inv r y.1 y.2 x (fstep_inv hi (by omega) (by omega) hs) e
def Fine (l : List UInt8) (h : Int) : Prop := ∃ x, go8 l h 0 = some x ∧ ¬ 0 < x.2
theorem fstep_zero (h c : Int) : fstep h 0 c = if (form c).1 = 0 then none else if 1 < (form c).1 then some (c, 1) else some (h, 0) := by
 rw [fstep, if_pos rfl]
theorem fine_free (l : List UInt8) (h h' : Int) : Fine l h → Fine l h' := by
 induction l with
 | nil => exact fun _ => ⟨(h', 0), rfl, by simp⟩
 | cons c r ih =>
  unfold Fine at ih ⊢
  rw [go8_cons, go8_cons, fstep_zero, fstep_zero]
  generalize form (c.toNat : Int) = f at *
  by_cases h1 : f.1 = 0
  ·rw [if_pos h1, if_pos h1]
   rintro ⟨x, e, _⟩
   cases e
  ·rw [if_neg h1, if_neg h1]
   by_cases h2 : 1 < f.1
   ·rw [if_pos h2, if_pos h2]
    exact id
   ·rw [if_neg h2, if_neg h2]
    exact ih
theorem right_append {a b : List UInt8} (ha : (wrong a).1 = 0) (hb : (wrong b).1 = 0) : (wrong (a ++ b)).1 = 0 := by
 obtain ⟨x, e, hx⟩ := (right_go8 a).1 ha
 have hi := go8_inv a 0 0 x (by unfold Utf.Inv; omega) e
 have hx0 : x.2 = 0 := by unfold Utf.Inv at hi; omega
 obtain ⟨y, e2, hy⟩ := fine_free b 0 x.1 ((right_go8 b).1 hb)
 refine (right_go8 _).2 ⟨y, ?_, hy⟩
 rw [go8_append, e]
 show go8 b x.1 x.2 = some y
 rw [hx0]
 exact e2
theorem form_lo {h : Int} (h2 : 2 ≤ (form h).1) : 128 ≤ (form h).2.1 := by
 unfold form at h2 ⊢
 repeat' split
 all_goals first | (simp; done) | (simp_all; done) | omega
theorem fstep_low {h m c : Int} {y : Int × Int} (hi : Utf.Inv h m) (hc : c < 128) (e : fstep h m c = some y) : m = 0 ∧ y = (h, 0) := by
 obtain ⟨_, _, hm0, hm⟩ := hi
 by_cases h0 : m = 0
 ·subst h0
  refine ⟨rfl, ?_⟩
  rw [fstep_zero] at e
  have : form c = (1, 0, 0) := by unfold form; rw [if_pos hc]
  rw [this] at e
  simp at e
  exact e.symm
 ·exfalso
  have hlo := form_lo (h := h) (by omega)
  unfold fstep at e
  rw [if_neg h0] at e
  have hf : mayB (form h).2.1 (form h).2.2 m c = false := by
   unfold mayB
   split
   ·rw [decide_eq_false (by omega)]; rfl
   ·rw [decide_eq_false (by omega)]; rfl
  rw [hf] at e
  simp at e
theorem right_cut {a b : List UInt8} {c : UInt8} (hc : (c.toNat : Int) < 128) (h : (wrong (a ++ c :: b)).1 = 0) : (wrong a).1 = 0 ∧ (wrong b).1 = 0 := by
 obtain ⟨x, e, hx⟩ := (right_go8 _).1 h
 rw [go8_append] at e
 cases ha : go8 a 0 0 with
 | none =>
  rw [ha] at e
  cases e
 | some y =>
  rw [ha] at e
  replace e : go8 (c :: b) y.1 y.2 = some x := e
  rw [go8_cons] at e
  cases hs : fstep y.1 y.2 (c.toNat : Int) with
  | none =>
   rw [hs] at e
   cases e
  | some z =>
   rw [hs] at e
   obtain ⟨h1, h2⟩ := fstep_low (go8_inv a 0 0 y (by unfold Utf.Inv; omega) ha) hc hs
   subst h2
   refine ⟨(right_go8 a).2 ⟨y, ha, by omega⟩, (right_go8 b).2 (fine_free b y.1 0 ⟨x, e, hx⟩)⟩
theorem right_low {c : UInt8} (hc : (c.toNat : Int) < 128) : (wrong [c]).1 = 0 := by
 refine (right_go8 _).2 ⟨(0, 0), ?_, by simp⟩
 rw [go8_cons, fstep_zero]
 have : form (c.toNat : Int) = (1, 0, 0) := by unfold form; rw [if_pos hc]
 rw [this]
 rfl
theorem escs_split : ∀ l : List UInt8, escs l = l ∨ ∃ a c b, l = a ++ c :: b ∧ (c = 126 ∨ c = 47) ∧ escs l = a ++ (esc c ++ escs b)
 | [] => .inl rfl
 | c :: r => by
  by_cases hc : c = 126 ∨ c = 47
  ·exact .inr ⟨[], c, r, rfl, hc, escs_cons c r⟩
  ·have he : esc c = [c] := by
    unfold esc
    rw [if_neg (fun h => hc (.inl h)), if_neg (fun h => hc (.inr h))]
   rw [escs_cons, he]
   rcases escs_split r with h | ⟨a, d, b, h1, h2, h3⟩
   ·exact .inl (by rw [h]; rfl)
   ·exact .inr ⟨c :: a, d, b, by rw [h1]; rfl, h2, by rw [h3]; rfl⟩
theorem right_escs : ∀ (N : Nat) (l : List UInt8), l.length ≤ N → (wrong l).1 = 0 → (wrong (escs l)).1 = 0
 | N, l, hl, h => by
  rcases escs_split l with e | ⟨a, c, b, e1, hc, e2⟩
  ·rw [e]
   exact h
  ·cases N with
   | zero =>
    rw [e1, List.length_append, List.length_cons] at hl
    omega
   | succ N =>
    rw [e1, List.length_append, List.length_cons] at hl
    rw [e1] at h
    have hlow : (c.toNat : Int) < 128 := by rcases hc with rfl | rfl <;> decide
    obtain ⟨h1, h2⟩ := right_cut hlow h
    have h3 := right_escs N b (by omega) h2
    have h4 : (wrong (esc c)).1 = 0 := by
     rcases hc with rfl | rfl
     ·exact right_append (a := [126]) (b := [48]) (right_low (by decide)) (right_low (by decide))
     ·exact right_append (a := [126]) (b := [49]) (right_low (by decide)) (right_low (by decide))
    rw [e2]
    exact right_append h1 (right_append h4 h3)
theorem esc_two {c : UInt8} (hc : c = 126 ∨ c = 47) : ∃ x : UInt8, esc c = [126, x] ∧ (x.toNat : Int) < 128 := by
 rcases hc with rfl | rfl
 ·exact ⟨48, by rw [esc, if_pos rfl], by decide⟩
 ·exact ⟨49, by rw [esc, if_neg (by decide), if_pos rfl], by decide⟩
theorem right_of_escs (N : Nat) : ∀ l : List UInt8, l.length ≤ N → (wrong (escs l)).1 = 0 → (wrong l).1 = 0 := by
 induction N with
 | zero =>
  intro l hl h
  obtain rfl : l = [] := List.eq_nil_of_length_eq_zero (by omega)
  rfl
 | succ N ih =>
  intro l hl h
  rcases escs_split l with e | ⟨a, c, b, e1, hc, e2⟩
  ·rwa [e] at h
  ·rw [e1, List.length_append, List.length_cons] at hl
   have hlow : (c.toNat : Int) < 128 := by rcases hc with rfl | rfl <;> decide
   obtain ⟨x, hx, hxl⟩ := esc_two hc
   rw [e2, hx] at h
   have h' : (wrong (a ++ 126 :: (x :: escs b))).1 = 0 := h
   obtain ⟨h1, h2⟩ := right_cut (by decide) h'
   have h2' : (wrong ([] ++ x :: escs b)).1 = 0 := h2
   obtain ⟨_, h3⟩ := right_cut hxl h2'
   have h4 := ih b (by omega) h3
   rw [e1]
   exact right_append h1 (right_append (a := [c]) (b := b) (right_low hlow) h4)
theorem right_print : ∀ ts : List (List UInt8), (wrong (printS ts)).1 = 0 ↔ ∀ t ∈ ts, (wrong t).1 = 0
 | [] => ⟨fun _ t h => (by cases h), fun _ => rfl⟩
 | t :: ts => by
  have ih := right_print ts
  rw [print_cons]
  constructor
  ·intro h
   obtain ⟨_, h1⟩ := right_cut (a := []) (c := 47) (b := escs t ++ printS ts) (by decide) h
   have h2 : (wrong (escs t)).1 = 0 ∧ (wrong (printS ts)).1 = 0 := by
    rcases print_stroke ts with e | ⟨r, e⟩
    ·rw [e, List.append_nil] at h1
     rw [e]
     exact ⟨h1, rfl⟩
    ·rw [e] at h1 ⊢
     obtain ⟨h3, h4⟩ := right_cut (c := 47) (by decide) h1
     exact ⟨h3, right_append (a := [47]) (b := r) (right_low (by decide)) h4⟩
   intro u hu
   rcases List.mem_cons.1 hu with rfl | hu
   ·exact right_of_escs u.length u (Nat.le_refl _) h2.1
   ·exact ih.1 h2.2 u hu
  ·intro h
   exact right_append (a := [47]) (right_low (by decide)) (right_append (right_escs t.length t (Nat.le_refl _) (h t (List.mem_cons_self ..))) (ih.2 fun u hu => h u (List.mem_cons_of_mem _ hu)))
theorem badI_none : ∀ (ts : List (List UInt8)) (i : Nat), badI wrong ts i = none ↔ ∀ t ∈ ts, (wrong t).1 = 0
 | [], i => ⟨fun _ t h => (by cases h), fun _ => rfl⟩
 | t :: ts, i => by
  have ih := badI_none ts (i + 1)
  rw [badI]
  by_cases h : (wrong t).1 = 0
  ·rw [if_pos h, ih]
   exact ⟨fun h' u hu => (List.mem_cons.1 hu).elim (fun e => e ▸ h) (h' u), fun h' u hu => h' u (List.mem_cons_of_mem _ hu)⟩
  ·rw [if_neg h]
   exact ⟨fun e => (by cases e), fun h' => absurd (h' t (List.mem_cons_self ..)) h⟩
theorem parse_back {ts : List (List UInt8)} {l : List UInt8} (h : parseS (wrong l) l = .ok ts) : printR wrong ts = .ok l ∧ ∀ t ∈ ts, (wrong t).1 = 0 := by
 obtain ⟨h1, h2, h3⟩ := parse_print h
 have hr : ∀ t ∈ ts, (wrong t).1 = 0 := (right_print ts).1 (by rw [h2]; exact h1)
 refine ⟨?_, hr⟩
 unfold printR
 rw [if_neg (by omega), (badI_none ts 0).2 hr]
 show Except.ok (printS ts) = _
 rw [h2]
end TokC
end Go.Proofs.YtbajkglacfheiaaGreatDoor
namespace Go.Proofs.YtbajkglacfheiaaGreatDoor
open Go.RowKit Mem Utf Ref3 Tok

def Glob (w : World) : Prop := ∃ m : Int, w.cell? ⟨1, 0, none⟩ = some (.int .i64 m)
theorem Glob.below {w w' : World} {B : Nat} (h : Glob w) (hb : Below B w w') (hB : 1 < B) : Glob w' := by
 obtain ⟨m, hm⟩ := h
 exact ⟨m, (hb.cell (by exact hB)).trans hm⟩
theorem ta_nil (w : World) : (Instr.typeAssert .nilIface 25 220 true).run Tryz.prog w = .ok (.tuple #[.nilIface, .bool false]) w := by kernel_rfl
theorem ta_spot (v : Value) (w : World) : (Instr.typeAssert (.iface 122 v) 25 220 true).run Tryz.prog w = .ok (.tuple #[.iface 122 v, .bool true]) w := by kernel_rfl
theorem info_str : (Tryz.prog.info? 9).map (fun i => (i.zero, i.size, i.bytes)) = some (some (.string ByteArray.empty), 1, 16) := by kernel_rfl
theorem ra_any (l : List UInt8) (old new : ByteArray) (m : Int) (w : World) (hs : l.length ≤ 4294967280) (hm : w.cell? ⟨1, 0, none⟩ = some (.int .i64 m)) (h1 : 1 ≤ old.size) (h2 : new.size ≤ 2) :
  Calls Tryz.prog 94 #[.string ⟨l.toArray⟩, .string old, .string new] w fun e w' =>
   e = .returned (.string ⟨(Lib.replaceAll l old.data.toList new.data.toList).toArray⟩) ∧ Below w.heap.size w w' := by
 have hc := Lib.countB_le old h1 l.length ⟨l.toArray⟩ (Nat.le_refl _)
 have hz : (ByteArray.mk l.toArray).size = l.length := rfl
 rw [hz] at hc
 have hmul : Lib.countB ⟨l.toArray⟩ old * new.size ≤ l.length * 2 := Nat.mul_le_mul hc h2
 exact Tryz.strings_ReplaceAll ⟨l.toArray⟩ old new m w (by rw [hz]; omega) hm h1 (by rw [hz]; omega)
def strV (l : List UInt8) : Value := .string ⟨l.toArray⟩
def errV (n a : Int) : Value := if a < 0 then .iface 113 (.int .i64 n) else spotV n a
def ParseP (l : List UInt8) (w : World) (e : Ending) (w' : World) : Prop :=
 Below w.heap.size w w' ∧ (∀ x, parseS (wrong l) l = .error x → e = .returned (.tuple #[.slice none 0 0, errV x.1 x.2])) ∧
 (∀ ts, parseS (wrong l) l = .ok ts → ∃ v, e = .returned (.tuple #[v, .nilIface]) ∧ w'.ownsRow w.heap.size 9 1 v ts.length (ts.map strV))

namespace Tok
theorem byte_is (c : UInt8) (n : UInt8) : ((c.toNat : Int) = (n.toNat : Int)) ↔ c = n := by
 rw [Int.ofNat_inj, UInt8.toNat_inj]
theorem badT_at {s : ByteArray} {k : Nat} (hk : k < s.size) : badT (s.data.toList.drop k) k =
  if (s[k].toNat : Int) = 126 then (if h : k + 1 < s.size then (if (s[k + 1].toNat : Int) = 48 ∨ (s[k + 1].toNat : Int) = 49 then badT (s.data.toList.drop (k + 1)) (k + 1) else some (k + 1)) else some (k + 1))
  else badT (s.data.toList.drop (k + 1)) (k + 1) := by
 have hk' : k < s.data.toList.length := hk
 have e0 : s.data.toList.drop k = s[k] :: s.data.toList.drop (k + 1) := List.drop_eq_getElem_cons hk'
 have is126 : (s[k].toNat : Int) = 126 ↔ s[k] = 126 := byte_is _ 126
 rw [e0]
 by_cases hc : s[k] = 126
 ·rw [if_pos (is126.2 hc), hc]
  by_cases h : k + 1 < s.size
  ·have h' : k + 1 < s.data.toList.length := h
   have e1 : s.data.toList.drop (k + 1) = s[k + 1] :: s.data.toList.drop (k + 1 + 1) := List.drop_eq_getElem_cons h'
   have is48 : (s[k + 1].toNat : Int) = 48 ↔ s[k + 1] = 48 := byte_is _ 48
   have is49 : (s[k + 1].toNat : Int) = 49 ↔ s[k + 1] = 49 := byte_is _ 49
   rw [dif_pos h, e1, badT_two, ← e1]
   by_cases hx : s[k + 1] = 48 ∨ s[k + 1] = 49
   ·rw [if_pos hx, if_pos (by rcases hx with hx | hx; exact .inl (is48.2 hx); exact .inr (is49.2 hx))]
   ·rw [if_neg hx, if_neg (by rintro (h | h); exact hx (.inl (is48.1 h)); exact hx (.inr (is49.1 h)))]
  ·have e1 : s.data.toList.drop (k + 1) = [] := List.drop_eq_nil_of_le (by show s.size ≤ _; omega)
   rw [dif_neg h, e1]
   rfl
 ·rw [if_neg (fun h => hc (is126.1 h)), badT_not hc]
theorem toList_size (s : ByteArray) : s.toList.length = s.size := by rw [ByteArray.toList_eq]; rfl
theorem toList_pos {s : ByteArray} (h : 0 < s.size) : ¬ s.toList = [] := fun e => by
 have := toList_size s
 rw [e] at this
 simp at this
 omega
theorem stroke_of {s : ByteArray} (h : 0 < s.size) (h0 : (s[0].toNat : Int) = 47) : Stroke s.data.toList := by
 have h' : 0 < s.data.toList.length := h
 have e0 : s.data.toList.drop 0 = s[0] :: s.data.toList.drop (0 + 1) := List.drop_eq_getElem_cons h'
 rw [List.drop_zero, (byte_is _ 47).1 h0] at e0
 exact .inr ⟨_, e0⟩
theorem head_of {s : ByteArray} (h : 0 < s.size) (h0 : ¬ (s[0].toNat : Int) = 47) : ∃ c t, s.data.toList = c :: t ∧ c ≠ 47 := by
 have h' : 0 < s.data.toList.length := h
 have e0 : s.data.toList.drop 0 = s[0] :: s.data.toList.drop (0 + 1) := List.drop_eq_getElem_cons h'
 exact ⟨_, _, e0, fun e => h0 ((byte_is _ 47).2 e)⟩
end Tok
theorem parseP_err {l : List UInt8} {n a : Int} (h : parseS (wrong l) l = .error (n, a)) {w w' : World} (hb : Below w.heap.size w w') : ParseP l w (.returned (.tuple #[.slice none 0 0, errV n a])) w' := by
 refine ⟨hb, fun x hx => ?_, fun ts hx => ?_⟩
 ·rw [h] at hx
  injection hx with hx
  rw [← hx]
 ·rw [h] at hx
  cases hx
theorem errV_at (n : Int) {a : Int} (h : ¬ a < 0) : errV n a = .iface 122 (.agg #[.int .i64 n, .int .i64 a]) := by rw [errV, if_neg h]; rfl
theorem errV_no (n : Int) : errV n (-1) = .iface 113 (.int .i64 n) := rfl

theorem meth_place (k : Nat) (v : Value) (w : World) : (method (k + 1) 122 v "Place").run Tryz.prog w = .ok (266, v) w := by kernel_rfl
theorem call_place (args : Array Value) (w : World) : (callFunc 266 args).run Tryz.prog w = .ok (.enter 266 args) w := by kernel_rfl
theorem place_any (n a : Int) (w : World) : Calls Tryz.prog 266 #[.agg #[.int .i64 n, .int .i64 a]] w fun e w' => e = .returned (.int .i64 a) ∧ Below w.heap.size w w' := by
 go_enter Tryz.func266, Tryz.ntmps266
 go_wp2
 go_ret
 exact ⟨rfl, (Below.refl _ _).alloc (Nat.le_refl _) _⟩
theorem parseP_spot {l : List UInt8} {n a : Int} (h : parseS (wrong l) l = .error (n, a)) (ha : 0 ≤ a) {w w' : World} (hb : Below w.heap.size w w') :
  ParseP l w (.returned (.tuple #[.slice none 0 0, .iface 122 (.agg #[.int .i64 n, .int .i64 a])])) w' := by
 have := parseP_err h hb
 rwa [errV_at n (by omega)] at this
theorem parseP_no {l : List UInt8} {n : Int} (h : parseS (wrong l) l = .error (n, -1)) {w w' : World} (hb : Below w.heap.size w w') :
  ParseP l w (.returned (.tuple #[.slice none 0 0, .iface 113 (.int .i64 n)])) w' := parseP_err h hb
theorem parseP_ok {l : List UInt8} {ts : List (List UInt8)} (h : parseS (wrong l) l = .ok ts) {w w' : World} {v : Value} (hb : Below w.heap.size w w')
  (ho : w'.ownsRow w.heap.size 9 1 v ts.length (ts.map strV)) : ParseP l w (.returned (.tuple #[v, .nilIface])) w' := by
 refine ⟨hb, fun x hx => ?_, fun ts' hx => ?_⟩
 ·rw [h] at hx
  cases hx
 ·rw [h] at hx
  injection hx with hx
  rw [← hx]
  exact ⟨v, rfl, ho⟩

def LoopR (s : ByteArray) (w : World) (c0 c7 : Value) (wr : World) : Prop :=
 ∃ (r : ByteArray) (ts : List (List UInt8)), r.size ≤ s.size ∧ c0 = .string r ∧ Stroke r.data.toList ∧
  Hid (ts ++ splitF r.data.toList.length r.data.toList = splitF s.data.toList.length s.data.toList) ∧ wr.ownsRow w.heap.size 9 1 c7 ts.length (ts.map strV) ∧ Below w.heap.size w wr
theorem LoopR.start {s : ByteArray} {w w1 : World} (hs : Stroke s.data.toList) (hb : Below w.heap.size w w1) : LoopR s w (.string s) (.slice none 0 0) w1 :=
 ⟨s, [], Nat.le_refl _, rfl, hs, Lib.hid rfl, World.ownsRow_nil _ _ _ _, hb⟩
def strLen : Value → Nat | .string r => r.size | _ => 0

theorem parse_any (s : ByteArray) (hs : s.size ≤ 2147483648) (w : World) (hg : Glob w) :
  Calls Tryz.prog 37 #[.string s] w (ParseP s.data.toList w) := by
 have kc := fun (W : World) => Lib.run_convert_string_bytes (P := Tryz.prog) W 9 89 5 s Tryz.underlying9 Tryz.underlying89 Tryz.underlying5
 have t1 := ta_nil
 have t3 := fun (v : Value) (w : World) => meth_place 514 v w
 have t4 := fun (args : Array Value) (w : World) => call_place args w
 have t2 := ta_spot
 go_enter Tryz.func37, Tryz.ntmps37
 go_wp2_with fail
 refine (check_any _ s.data.toList s.size _ _ rfl (by omega) (conv_reads w _ s)).mono ?_
 rintro e w1 ⟨rfl, hb⟩
 replace hb := hb.toBelow
 have hb' := (conv_below w 5 s).toBelow.trans (hb.mono (by rw [Lib.bytesWorld_size]; omega))
 clear hb kc
 rw [UtfLaw.chk_wrong]
 by_cases hw : (wrong s.data.toList).1 = 0
 ·rw [if_pos hw]
  have HW := Lib.hid hw
  clear hw
  by_cases hcase : ∃ h : 0 < s.size, ¬ (s[0].toNat : Int) = 47
  ·obtain ⟨hpos, h47⟩ := hcase
   have hnil : (!s.toList.isEmpty) = true := by simpa using toList_pos hpos
   have h47' : ((s[0].toNat : Int) != 47) = true := by simpa using h47
   obtain ⟨c, t, hct, hc⟩ := head_of hpos h47
   have H := Lib.hid (parseP_err (l := s.data.toList) (n := 130) (a := 0) (w' := w1) (by rw [hct]; exact parse_head t (by rw [← hct]; exact HW.out) hc) hb')
   clear h47 hct
   go_wp2
   go_ret2
   exact H.out
  ·have hst : Stroke s.data.toList := by
    by_cases hpos : 0 < s.size
    ·exact stroke_of hpos (Classical.byContradiction fun h => hcase ⟨hpos, h⟩)
    ·exact .inl (List.eq_nil_of_length_eq_zero (by show s.size = 0; omega))
   have hway : Hid (s.toList = []) ∨ ∃ h : 0 < s.size, Hid ((!s.toList.isEmpty) = true ∧ ((s[0].toNat : Int) != 47) = false) := by
    by_cases hpos : 0 < s.size
    ·exact .inr ⟨hpos, Lib.hid ⟨by simpa using toList_pos hpos, by
      have : (s[0].toNat : Int) = 47 := Classical.byContradiction fun h => hcase ⟨hpos, h⟩
      simp [this]⟩⟩
    ·refine .inl (Lib.hid ?_)
     have h0 : s.size = 0 := by omega
     exact Classical.byContradiction fun h => by
      have := toList_size s
      have h1 : 0 < s.toList.length := List.length_pos_iff.2 h
      omega
   clear hcase
   have hg1 := hg.below hb' (by obtain ⟨m, hm⟩ := hg; exact World.block_lt_of_cell? w _ hm)
   go_upto_region 4 with fail
   go_cut [29] (fun c29 wx => c29 = .bool false ∧ wx = w1)
   case first =>
    rcases hway with hway | ⟨hpos, hway⟩
    ·have hnil := hway.out
     go_wp2_with fail
     go_meet
     exact ⟨rfl, rfl⟩
    ·have hnil := hway.out.1
     have h47' := hway.out.2
     go_wp2_with fail
     go_meet
     exact ⟨rfl, rfl⟩
   case rest =>
    obtain ⟨rfl, rfl⟩ := hcut
    go_wp2
    go_loop [34] (fun c => ∃ k : Nat, k ≤ s.size ∧ c = .int .i64 k ∧ Hid (badT (s.data.toList.drop k) k = badT s.data.toList 0)) (fun c => s.size - (intOf c).toNat)
    case atStart => exact ⟨0, by omega, rfl, Lib.hid rfl⟩
    case round =>
     obtain ⟨k, hk, rfl, HB⟩ := hrel
     by_cases hlt : k < s.size
     ·have hat := badT_at hlt
      rw [HB.out] at hat
      by_cases h126 : (s[k].toNat : Int) = 126
      ·rw [if_pos h126] at hat
       have e1 : ((s[k].toNat : Int) == 126) = true := by simpa using h126
       clear h126
       by_cases hnx : k + 1 < s.size
       ·rw [dif_pos hnx] at hat
        have e2 : ((k : Int) + 1 == (s.size : Int)) = false := by rw [beq_eq_false_iff_ne]; omega
        by_cases hx : (s[k + 1].toNat : Int) = 48 ∨ (s[k + 1].toNat : Int) = 49
        ·rw [if_pos hx] at hat
         have H := Lib.hid hat
         clear hat
         rcases hx with hx | hx
         ·have e3 : ((s[k + 1].toNat : Int) != 48) = false := by simpa using hx
          clear hx
          go_wp2
          go_round
          case rel => exact ⟨k + 1, by omega, by go_num, Lib.hid H.out.symm⟩
          case measure => simp [intOf]; omega
         ·have e3 : ((s[k + 1].toNat : Int) != 48) = true := by rw [hx]; decide
          have e4 : ((s[k + 1].toNat : Int) != 49) = false := by simpa using hx
          clear hx
          go_wp2
          go_round
          case rel => exact ⟨k + 1, by omega, by go_num, Lib.hid H.out.symm⟩
          case measure => simp [intOf]; omega
        ·rw [if_neg hx] at hat
         have H := Lib.hid (parseP_spot (w' := wc) (parse_bad HW.out hst hat) (by omega) hb')
         have e3 : ((s[k + 1].toNat : Int) != 48) = true := by simpa using fun h => hx (.inl h)
         have e4 : ((s[k + 1].toNat : Int) != 49) = true := by simpa using fun h => hx (.inr h)
         clear hx hat
         go_wp2
         go_ret2
         exact H.out
       ·rw [dif_neg hnx] at hat
        have e2 : ((k : Int) + 1 == (s.size : Int)) = true := by rw [beq_iff_eq]; omega
        have H := Lib.hid (parseP_spot (w' := wc) (parse_bad HW.out hst hat) (by omega) hb')
        clear hat
        go_wp2
        go_ret2
        exact H.out
      ·rw [if_neg h126] at hat
       have H := Lib.hid hat
       have e1 : ((s[k].toNat : Int) == 126) = false := by simpa using h126
       clear hat h126
       go_wp2
       go_round
       case rel => exact ⟨k + 1, by omega, by go_num, Lib.hid H.out.symm⟩
       case measure => simp [intOf]; omega
     ·obtain rfl : k = s.size := by omega
      have hbn : badT s.data.toList 0 = none := by
       rw [← HB.out, List.drop_eq_nil_of_le (by show s.data.toList.length ≤ s.size; exact Nat.le_refl _)]
       rfl
      have HN := Lib.hid hbn
      clear hbn
      go_wp2_with fail
      refine (Tryz.strings_Count_one s 47 _).mono ?_
      rintro e w2 ⟨rfl, rfl⟩
      have hcount : Lib.countByte s.data.toList 47 = s.data.toList.count 47 := rfl
      obtain ⟨N, hN⟩ : ∃ N, s.data.toList.count 47 = N := ⟨_, rfl⟩
      rw [hcount, hN]
      have HC := Lib.hid hN
      clear hN hcount
      by_cases hlong : 65536 < N
      ·have H := Lib.hid (parseP_no (w' := w2) (parse_long HW.out hst HN.out (by rw [HC.out]; exact hlong)) hb')
       go_wp2
       go_ret2
       exact H.out
      ·have H := Lib.hid (parse_good HW.out hst HN.out (by rw [HC.out]; exact hlong))
       clear HN
       go_wp2
       go_loopw [0, 7] (fun c0 c7 wr => LoopR s w c0 c7 wr) (fun c0 _ _ => strLen c0)
       case atStart => exact LoopR.start hst hb'
       case round =>
        obtain ⟨r, ts, hr0, rfl, hrs, hsp, hown, hbw⟩ := hrel
        have hsize : 1 < w.heap.size := by obtain ⟨m, hm⟩ := hg; exact World.block_lt_of_cell? w _ hm
        obtain ⟨m, hm⟩ := hg.below hbw hsize
        by_cases hpos : 0 < r.size
        ·have hnil : (!r.toList.isEmpty) = true := by simpa using toList_pos hpos
         obtain ⟨t, hrt⟩ : ∃ t, r.data.toList = 47 :: t := by
          rcases hrs with h | h
          ·exact absurd (congrArg List.length h) (by show ¬ r.size = 0; omega)
          ·exact h
         have hext : (r.extract 1 r.size).data.toList = t := by rw [Lib.extract_to_end, hrt]; rfl
         have hrsz : r.size = t.length + 1 := congrArg List.length hrt
         have hstep := split_step t
         have htl := token_le t
         have hrest := token_rest t
         have hsp1 := hsp.out
         rw [hrt, hstep] at hsp1
         have hlen := congrArg List.length hsp1
         rw [List.length_append, splitF_count _ _ (Nat.le_refl _) hst, HC.out, List.length_cons] at hlen
         have Hsp := Lib.hid hsp1
         clear hsp hsp1 hstep
         have Hrt := Lib.hid hrt
         clear hrt hrs
         have htn : ts.length + 1 ≤ 65536 := by omega
         have ht31 : t.length ≤ 2147483648 := by omega
         have Hlen := Lib.hid hrsz
         have hrsz' : t.length + 1 ≤ r.size := by omega
         clear hlen hrsz
         go_wp2_with fail
         refine (Tryz.strings_Cut (r.extract 1 r.size) ⟨#[47]⟩ m wr ?c1 hm).mono ?_
         case c1 => show (r.extract 1 r.size).data.toList.length < _; rw [hext]; omega
         rintro e w3 ⟨rfl, n3, rfl⟩
         rw [hext]
         have htok : (Lib.cut t [47]).1 = token t := rfl
         show _
         generalize hA : Lib.cut t (ByteArray.mk #[47]).data.toList = cc
         have hA1 : cc.1 = token t := by rw [← hA]; rfl
         rw [hA1]
         clear hA hA1 htok hext
         generalize htk : token t = tk at *
         have Htk := Lib.hid htk
         clear htk
         go_wp2_with fail
         refine (ra_any tk ⟨#[126, 49]⟩ ⟨#[47]⟩ m _ (by omega) (by exact hm) (by decide) (by decide)).mono ?_
         rintro e w4 ⟨rfl, hb4⟩
         have hsz4 : wr.heap.size ≤ w4.heap.size := hb4.size
         have hm4 : w4.cell? ⟨1, 0, none⟩ = some (.int .i64 m) := (hb4.cell (p := ⟨1, 0, none⟩) (Nat.lt_of_lt_of_le hsize hbw.size)).trans hm
         have hl4 : (Lib.replaceAll tk [126, 49] [47]).length ≤ tk.length := ra_len (by decide) (by decide) (by decide) _ _ (Nat.le_refl _)
         rw [show (ByteArray.mk #[126, 49]).data.toList = [126, 49] from rfl, show (ByteArray.mk #[47]).data.toList = [47] from rfl]
         generalize hq : Lib.replaceAll tk [126, 49] [47] = q at hl4 ⊢
         have Hq := Lib.hid hq
         clear hq
         go_wp2_with fail
         refine (ra_any q ⟨#[126, 48]⟩ ⟨#[126]⟩ m _ (by omega) hm4 (by decide) (by decide)).mono ?_
         rintro e w5 ⟨rfl, hb5⟩
         rw [show (ByteArray.mk #[126, 48]).data.toList = [126, 48] from rfl, show (ByteArray.mk #[126]).data.toList = [126] from rfl]
         have hq2 : Lib.replaceAll q [126, 48] [126] = unescP tk := by rw [← Hq.out]; rfl
         rw [hq2]
         clear hq2 hm4 hl4
         generalize hu : unescP tk = u at Hsp ⊢
         have Hu := Lib.hid hu
         clear hu
         have hb4' : Below wr.heap.size wr w4 := (drewN_below wr n3).trans hb4
         have hbB : Below w.heap.size w w5 := below_chain (below_chain hbw hbw.size hb4') (Nat.le_trans hbw.size hsz4) hb5
         have hown5 : w5.ownsRow w.heap.size 9 1 u7 ts.length (ts.map strV) := own_below (own_below hown hb4') hb5
         have hsz5 : w.heap.size ≤ w5.heap.size := hbB.size
         clear hb4 hb4' hb5 hsz4 hown hbw
         obtain ⟨i0, hi0, hz0, hz1, hz2⟩ := info_parts info_str
         go_wp2_with (at_builtin; refine wpList_append_own _ rfl (.tmp 85) (.tmp 89) _ rfl w.heap.size 9 i0 _ 1 16 Tryz.underlying77 hi0 hz0 hz1 hz2 rfl (by omega) u7 ts.length (ts.map strV) rfl (hown5.alloc _) ⟨w5.heap.size, 0, none⟩ 1 1 [strV u] rfl rfl ?d1 ?d2 ?d3 ?d4 ?d5 ?_)
         case d1 =>
          intro j x hj
          match j, hj with
          | 0, hj =>
           injection hj with hj
           subst hj
           exact Blk.cell (Blk.new w5 9 #[strV u]) 0
          | j + 1, hj => cases hj
         case d2 => simp [strV, Value.oneCell']
         case d3 => unfold maxLen; omega
         case d4 => omega
         case d5 => simp; omega
         intro v6 w6 hown6 hgr6 hnil6
         go_wp2
         go_roundw
         case rel =>
          have hext2 : (r.extract (1 + tk.length) r.size).data.toList = t.drop tk.length := by
           rw [Lib.extract_to_end, Hrt.out, Nat.add_comm, List.drop_succ_cons]
          have hsz2 : (r.extract (1 + tk.length) r.size).size ≤ s.size := by
           show (r.extract (1 + tk.length) r.size).data.toList.length ≤ s.size
           rw [hext2, List.length_drop]
           omega
          refine ⟨r.extract (1 + tk.length) r.size, ts ++ [u], hsz2, rfl, by rw [hext2]; exact hrest, Lib.hid ?_, by simpa using hown6, (hbB.alloc hsz5 _).grown hgr6 (by simp; omega) (fun k hk => (hown5.lt k hk).1)⟩
          rw [hext2, List.append_assoc]
          exact Hsp.out
         case measure =>
          show (r.extract (1 + tk.length) r.size).size < r.size
          rw [ByteArray.size_extract]
          omega
        ·have hnil : r.toList = [] := by
          rw [ByteArray.toList_eq]
          exact List.eq_nil_of_length_eq_zero (by show r.size = 0; omega)
         have hres : ts = splitF s.data.toList.length s.data.toList := by
          rw [← hsp.out, ← ByteArray.toList_eq, hnil, splitF_nil, List.append_nil]
         have HR := Lib.hid (parseP_ok (H.out.trans (congrArg Except.ok hres.symm)) hbw hown)
         clear hres hsp
         go_wp2
         go_ret2
         exact HR.out
 ·rw [if_neg hw]
  unfold spotV
  go_wp2_with fail
  refine (place_any _ _ _).mono ?_
  rintro e w2 ⟨rfl, hb2⟩
  have H := Lib.hid (parseP_spot (w' := w2) (parse_utf s.data.toList hw) (wrong_place s.data.toList) (below_chain hb' hb'.size hb2))
  clear hb2
  go_wp2
  go_ret2
  exact H.out
end Go.Proofs.YtbajkglacfheiaaGreatDoor
namespace Go.Proofs.YtbajkglacfheiaaGreatDoor
open Go.RowKit Mem Utf Ref3 Tok

theorem own_sliceP {w : World} {base size n : Nat} {e : TypeId} {v : Value} {xs : List Value} (h : w.ownsRow base e size v n xs) : ∃ A c, v = .slice A n c := by
 rcases Joins.ownsRow_forms h with ⟨rfl, rfl⟩ | ⟨g, cap, rfl, _⟩
 ·exact ⟨none, 0, rfl⟩
 ·exact ⟨_, _, rfl⟩
namespace Tok
end Tok
end Go.Proofs.YtbajkglacfheiaaGreatDoor
namespace Go.Proofs.YtbajkglacfheiaaGreatDoor
open Go.RowKit Mem Utf Ref3 Tok

def Rd (w : World) (v : Value) (xs : List (List UInt8)) : Prop :=
 ∃ A c, v = .slice A xs.length c ∧ ∀ j (h : j < xs.length), ∃ g o, A = some ⟨g, o, none⟩ ∧ g < w.heap.size ∧ w.cell? ⟨g, o + j, none⟩ = some (strV xs[j])
theorem Rd.of_own {w : World} {base : Nat} {e : TypeId} {v : Value} {xs : List (List UInt8)} (h : w.ownsRow base e 1 v xs.length (xs.map strV)) : Rd w v xs := by
 rcases Joins.ownsRow_forms h with ⟨rfl, h0⟩ | ⟨g, cap, rfl, hlt⟩
 ·refine ⟨none, 0, by rw [h0], fun j hj => by omega⟩
 ·refine ⟨_, _, rfl, fun j hj => ⟨g, 0, rfl, (h.lt g rfl).2, ?_⟩⟩
  have := h.cellAt j (by omega)
  rw [Nat.zero_add, this, List.getElem?_map, List.getElem?_eq_getElem hj]
  rfl
theorem Rd.below {w w' : World} {v : Value} {xs : List (List UInt8)} (h : Rd w v xs) (hb : Below w.heap.size w w') : Rd w' v xs := by
 obtain ⟨A, c, rfl, hc⟩ := h
 refine ⟨A, c, rfl, fun j hj => ?_⟩
 obtain ⟨g, o, rfl, hl, hcell⟩ := hc j hj
 exact ⟨g, o, rfl, Nat.lt_of_lt_of_le hl hb.size, (hb.cell (by exact hl)).trans hcell⟩

end Go.Proofs.YtbajkglacfheiaaGreatDoor
namespace Go.Proofs.YtbajkglacfheiaaGreatDoor
open Go.RowKit Mem Utf Ref3 Tok

theorem Bld.below {w w' : World} {B b : Nat} {l : List UInt8} (h : Bld w B b l) (hb : Below w.heap.size w w') : Bld w' B b l := by
 rcases h with ⟨hB, v, hh, hown, hne⟩ | ⟨hB, v, hh, hown, hne⟩
 ·exact .inl ⟨hB, v, (hb.block b (Array.getElem?_eq_some_iff.1 hh).1).trans hh, hown.kept (grown_of_below hb none) (Classical.em _), hne⟩
 ·exact .inr ⟨hB, v, (hb.block b (Array.getElem?_eq_some_iff.1 hh).1).trans hh, hown.kept (grown_of_below hb none) (Classical.em _), hne⟩
theorem Bld.new (w : World) : Bld (w.alloc (.cells #[.pointer none, .slice none 0 0] 230)) w.heap.size w.heap.size [] :=
 .inl ⟨Nat.le_refl _, .slice none 0 0, Mem.Blk.new _ _ _, World.ownsRowF_nil _ _ _ _, by simp [Value.ownBlock]⟩
theorem right_wrong (l : List UInt8) : isNil (chkV l) = decide ((wrong l).1 = 0) := by
 rw [UtfLaw.chk_wrong]
 by_cases h : (wrong l).1 = 0
 ·rw [if_pos h, decide_eq_true h]; rfl
 ·rw [if_neg h, decide_eq_false h]; rfl

theorem quoted_any (l : List UInt8) (hl : l.length ≤ 2147483640) (w : World) (hg : Glob w) :
  Calls Tryz.prog 98 #[.string ⟨l.toArray⟩] w fun e w' => e = .returned (.string ⟨(piece l).toArray⟩) ∧ Below w.heap.size w w' := by
 obtain ⟨m, hm⟩ := hg
 have hsize : 1 < w.heap.size := World.block_lt_of_cell? w _ hm
 have hl1 : (Lib.replaceAll l [126] [126, 48]).length ≤ 4294967280 := by
  have := tilde_le l
  omega
 go_enter Tryz.func98, Tryz.ntmps98
 go_wp2_with fail
 refine (ra_any l ⟨#[126]⟩ ⟨#[126, 48]⟩ m _ (by omega) hm (by decide) (by decide)).mono ?_
 rintro e w1 ⟨rfl, hb⟩
 rw [show (ByteArray.mk #[126]).data.toList = [126] from rfl, show (ByteArray.mk #[126, 48]).data.toList = [126, 48] from rfl]
 have hm1 : w1.cell? ⟨1, 0, none⟩ = some (.int .i64 m) := (hb.cell (p := ⟨1, 0, none⟩) hsize).trans hm
 have hq := quoted_piece l
 unfold quotedP at hq
 generalize Lib.replaceAll l [126] [126, 48] = q at hq hl1 ⊢
 have Hq := Lib.hid hq
 clear hq
 go_wp2_with fail
 refine (ra_any q ⟨#[47]⟩ ⟨#[126, 49]⟩ m _ hl1 hm1 (by decide) (by decide)).mono ?_
 rintro e w2 ⟨rfl, hb2⟩
 rw [show (ByteArray.mk #[47]).data.toList = [47] from rfl, show (ByteArray.mk #[126, 49]).data.toList = [126, 49] from rfl]
 have hl2 : (Lib.replaceAll q [47] [126, 49]).length ≤ 9223372036854775800 := by
  have := slash_le q
  omega
 generalize Lib.replaceAll q [47] [126, 49] = q2 at Hq hl2 ⊢
 go_wp2
 go_ret
 exact ⟨by rw [← Hq.out]; exact congrArg (fun x => Ending.returned (.string x)) (mk_append [47] q2), hb.trans (hb2.mono hb.size)⟩

def PrintP (ts : List (List UInt8)) (w : World) (e : Ending) (w' : World) : Prop :=
 Below w.heap.size w w' ∧ (∀ x, printR wrong ts = .error x → e = .returned (.tuple #[.string ⟨#[]⟩, errV x.1 x.2])) ∧
 (∀ l, printR wrong ts = .ok l → e = .returned (.tuple #[.string ⟨l.toArray⟩, .nilIface]))
theorem printP_err {ts : List (List UInt8)} {n a : Int} (h : printR wrong ts = .error (n, a)) {w w' : World} (hb : Below w.heap.size w w') : PrintP ts w (.returned (.tuple #[.string ⟨#[]⟩, errV n a])) w' := by
 refine ⟨hb, fun x hx => ?_, fun l hx => ?_⟩
 ·rw [h] at hx
  injection hx with hx
  rw [← hx]
 ·rw [h] at hx
  cases hx
theorem printP_ok {ts : List (List UInt8)} {l : List UInt8} (h : printR wrong ts = .ok l) {w w' : World} (hb : Below w.heap.size w w') : PrintP ts w (.returned (.tuple #[.string ⟨l.toArray⟩, .nilIface])) w' := by
 refine ⟨hb, fun x hx => ?_, fun l' hx => ?_⟩
 ·rw [h] at hx
  cases hx
 ·rw [h] at hx
  injection hx with hx
  rw [← hx]

theorem print_any (v : Value) (ts : List (List UInt8)) (w : World) (hv : Rd w v ts) (hbk : bulkS ts ≤ 1073741824) (hg : Glob w) :
  Calls Tryz.prog 39 #[v] w (PrintP ts w) := by
 have hlen := bulk_len ts
 obtain ⟨A, c, rfl, hA⟩ := hv
 have hv : Rd w (.slice A ts.length c) ts := ⟨A, c, rfl, hA⟩
 clear hA
 by_cases hlong : 65536 < ts.length
 ·have H := Lib.hid (printP_err (ts := ts) (n := 3) (a := -1) (w := w) (w' := w) (by rw [printR, if_pos hlong]) (Below.refl _ _))
  rw [errV_no] at H
  go_enter Tryz.func39, Tryz.ntmps39
  go_wp2
  go_ret2
  exact H.out
 ·go_enter Tryz.func39, Tryz.ntmps39
  go_wp2
  go_loopw [13] (fun c13 wr => ∃ k : Nat, k ≤ ts.length ∧ c13 = .int .i64 k ∧ Bld wr w.heap.size w.heap.size (printS (ts.take k)) ∧ Below w.heap.size w wr ∧ Hid (badI wrong (ts.drop k) k = badI wrong ts 0)) (fun c13 _ => ts.length - (intOf c13).toNat)
  case atStart => exact ⟨0, by omega, rfl, Bld.new w, (Below.refl _ _).alloc (Nat.le_refl _) _, Lib.hid rfl⟩
  case round =>
   obtain ⟨k, hk, rfl, hbld, hbw, hbad⟩ := hrel
   by_cases hlt : k < ts.length
   ·have hbk1 := bulk_at ts k hlt
    have hbk2 := bulk_le ts k
    have hbk3 := print_le (ts.take k)
    have hbk4 := piece_le ts[k]
    have hsn := print_snoc ts k hlt
    have hba := badI_at wrong hlt k
    rw [hbad.out] at hba
    have hvr := hv.below hbw
    obtain ⟨A', c', hAc, hcell⟩ := hvr
    injection hAc with hA1 _ hc1
    subst hA1; subst hc1
    obtain ⟨g, o, rfl, hgl, hcell⟩ := hcell k hlt
    have hcell' : wr.cell? ⟨g, o + k, none⟩ = some (.string ⟨ts[k].toArray⟩) := hcell
    have hgr : Glob wr := by
     obtain ⟨m, hm⟩ := hg
     exact Glob.below ⟨m, hm⟩ hbw (World.block_lt_of_cell? w _ hm)
    have hi0 : (0 : Int) ≤ (k : Int) := by omega
    have hi1 : (k : Int) < (ts.length : Int) := by omega
    have hsz := hbw.size
    have Hsn := Lib.hid hsn
    have Hba := Lib.hid hba
    clear hcell hsn hba
    generalize ts[k] = tk at *
    go_wp2_with fail
    refine (right_any ⟨tk.toArray⟩ _ (by show tk.length ≤ _; omega)).mono ?_
    rintro e w1 ⟨rfl, hb1⟩
    replace hb1 := hb1.toBelow
    rw [show (ByteArray.mk tk.toArray).data.toList = tk from rfl, right_wrong]
    by_cases hr : (wrong tk).1 = 0
    ·have HN : Hid (badI wrong (ts.drop (k + 1)) (k + 1) = badI wrong ts 0) := Lib.hid (by rw [Hba.out, if_pos hr])
     rw [decide_eq_true hr]
     clear hr hcell'
     go_wp2_with fail
     refine (quoted_any tk (by omega) _ (hgr.below hb1 (by obtain ⟨m, hm⟩ := hgr; exact World.block_lt_of_cell? wr _ hm))).mono ?_
     rintro e w2 ⟨rfl, hb2⟩
     have hbld2 := (hbld.below hb1).below hb2
     have hs1 := hb1.size
     have hs2 := hb2.size
     go_wp2_with fail
     refine (writeString_any _ _ _ (piece tk) _ hbld2 (by omega) (by omega)).mono ?_
     rintro e w3 ⟨rfl, hbld3, hb3⟩
     have hbB : Below w.heap.size w w3 := (below_chain (below_chain hbw hsz hb1) (by omega) hb2).trans hb3
     clear hbld hbld2 hb1 hb2 hb3 hbw
     go_wp2
     go_roundw
     case rel => exact ⟨k + 1, by omega, by go_num, by rw [Hsn.out]; exact hbld3, hbB, HN⟩
     case measure => simp [intOf]; omega
    ·have hres : badI wrong ts 0 = some k := by rw [Hba.out, if_neg hr]
     have H := Lib.hid (printP_err (ts := ts) (n := 100) (a := (k : Int)) (w := w) (w' := w1) (by rw [printR, if_neg hlong, hres]) (below_chain hbw hsz hb1))
     rw [errV_at 100 (by omega)] at H
     rw [decide_eq_false hr]
     clear hr hcell' hres
     go_wp2
     go_ret2
     exact H.out
   ·obtain rfl : k = ts.length := by omega
    have hres : badI wrong ts 0 = none := by rw [← hbad.out, List.drop_length]; rfl
    have HR := Lib.hid hres
    have htake : printS (ts.take ts.length) = printS ts := by rw [List.take_length]
    rw [htake] at hbld
    have hsz := hbw.size
    clear hres htake
    go_wp2_with fail
    refine (string_any _ _ _ _ hbld hsz).mono ?_
    rintro e w1 ⟨rfl, _, hb1⟩
    have H := Lib.hid (printP_ok (ts := ts) (l := printS ts) (w := w) (w' := w1) (by rw [printR, if_neg hlong, HR.out]) (hbw.trans hb1))
    go_wp2
    go_ret2
    exact H.out
end Go.Proofs.YtbajkglacfheiaaGreatDoor
namespace Go.Proofs.YtbajkglacfheiaaGreatDoor
open Go.RowKit Mem Utf Ref3 Tok

theorem Glob.size {w : World} (h : Glob w) : 1 < w.heap.size := by
 obtain ⟨m, hm⟩ := h
 exact World.block_lt_of_cell? w _ hm
theorem Glob.next {w w' : World} (h : Glob w) (hb : Below w.heap.size w w') : Glob w' := h.below hb h.size
end Go.Proofs.YtbajkglacfheiaaGreatDoor
namespace Go.Proofs.YtbajkglacfheiaaGreatDoor
open Go.RowKit Mem Utf Ref3 Tok Idx

def Tab (w : World) : Prop := Lib.TabIs Tryz.prog w "internal/strconv.uint64pow10" .u64 Lib.pow10Tab ∧
 (∃ t p, w.var? Tryz.prog "strconv.ErrSyntax" = some #[.iface t p]) ∧ ∃ t p, w.var? Tryz.prog "strconv.ErrRange" = some #[.iface t p]
theorem gPow : Tryz.prog.globalNamed "internal/strconv.uint64pow10" = some 4 := by kernel_rfl
theorem gSyn : Tryz.prog.globalNamed "strconv.ErrSyntax" = some 5 := by kernel_rfl
theorem gRan : Tryz.prog.globalNamed "strconv.ErrRange" = some 6 := by kernel_rfl
theorem Tab.next {w w' : World} (h : Tab w) (hb : Below w.heap.size w w') : Tab w' := by
 obtain ⟨h1, ⟨t, p, h2⟩, u, q, h3⟩ := h
 exact ⟨Joins.var_stays gPow h1 hb (Nat.le_refl _), ⟨t, p, Joins.var_stays gSyn h2 hb (Nat.le_refl _)⟩, u, q, Joins.var_stays gRan h3 hb (Nat.le_refl _)⟩
def AtoiP (l : List UInt8) (w : World) (e : Ending) (w' : World) : Prop := Below w.heap.size w w' ∧ (∀ v, Lib.atoiAll l = .ok v → e = .returned (.tuple #[.int .i64 v, .nilIface])) ∧
 ((∀ v, Lib.atoiAll l ≠ .ok v) → ∃ n T x, e = .returned (.tuple #[.int .i64 n, .iface T x]))
theorem atoi_any (l : List UInt8) (hl : l.length ≤ 281474976710656) (w : World) (hg : Tab w) :
  Calls Tryz.prog 164 #[.string ⟨l.toArray⟩] w (AtoiP l w) := by
 have hs : (ByteArray.mk l.toArray).size ≤ 281474976710656 := hl
 have he : (ByteArray.mk l.toArray).data.toList = l := rfl
 obtain ⟨_, ⟨t, p, h2⟩, u, q, h3⟩ := hg
 rcases h : Lib.atoiAll l with v | _ | _
 ·refine (Tryz.strconv_Atoi_ok ⟨l.toArray⟩ (by omega) v (by rw [he]; exact h) w).mono ?_
  rintro e w' ⟨rfl, hw⟩
  refine ⟨?_, fun v' hv => ?_, fun hn => absurd h (hn v)⟩
  ·rcases hw with rfl | ⟨t, rfl⟩
   ·exact Below.refl _ _
   ·exact Lib.bytesWorld_below w _ t
  ·rw [h] at hv
   injection hv with hv
   rw [hv]
 ·refine (show Calls Tryz.prog 164 #[.string ⟨l.toArray⟩] w _ from Any.strconv_Atoi_syntax_var Tryz.laysC172 ⟨l.toArray⟩ hs (by rw [he]; exact h) t p w h2).mono ?_
  rintro e w' ⟨N, rfl, _, _, hb⟩
  exact ⟨hb, fun v hv => by (rw [h] at hv; cases hv), fun _ => ⟨_, _, _, rfl⟩⟩
 ·refine (Tryz.strconv_Atoi_range_var ⟨l.toArray⟩ hs (by rw [he]; exact h) u q w h3).mono ?_
  rintro e w' ⟨N, rfl, _, _, hb⟩
  exact ⟨hb, fun v hv => by (rw [h] at hv; cases hv), fun _ => ⟨_, _, _, rfl⟩⟩
theorem itoa_any (n : Int) (h0 : -9223372036854775808 ≤ n) (h1 : n ≤ 9223372036854775807) (w : World) (hg : Tab w) :
  Calls Tryz.prog 112 #[.int .i64 n] w fun e w' => e = .returned (.string ⟨(Lib.itoa n).toArray⟩) ∧ Below w.heap.size w w' :=
 (Tryz.strconv_Itoa n h0 h1 w hg.1).mono fun e w' ⟨he, k, os, hw⟩ => ⟨he, by rw [hw]; exact Lib.below_grow _ _ (Nat.le_refl _) _ _⟩

def idxV (o : Option Int) : Value := match o with | none => .tuple #[.int .i64 0, .bool false] | some v => .tuple #[.int .i64 v, .bool true]
theorem index_any (l : List UInt8) (n : Int) (hl : l.length ≤ 281474976710656) (w : World) (hg : Tab w) :
  Calls Tryz.prog 138 #[.string ⟨l.toArray⟩, .int .i64 n] w fun e w' => e = .returned (idxV (idxC l n)) ∧ Below w.heap.size w w' := by
 have q1 := err_ne_nil
 have q2 := err_ne_held
 by_cases hv : ∃ v, Lib.atoiAll l = .ok v
 ·obtain ⟨v, hv⟩ := hv
  have hb := Lib.atoiAll_bounds hv
  have hb0 := hb.1
  have hb1 := hb.2
  have HC : Hid (idxC l n = if v < 0 ∨ n ≤ v ∨ ¬ Lib.itoa v = l then none else some v) := Lib.hid (by rw [idxC, hv])
  have HV := Lib.hid hv
  clear hv hb
  go_enter Tryz.func138, Tryz.ntmps138
  go_wp2_with fail
  refine (atoi_any l hl _ hg).mono ?_
  rintro e w1 ⟨hb, HO, _⟩
  obtain rfl := HO _ HV.out
  clear HO
  by_cases h0 : v < 0
  ·have HR : Hid (idxC l n = none) := Lib.hid (by rw [HC.out, if_pos (.inl h0)])
   go_wp2
   go_ret2
   exact ⟨by rw [HR.out]; rfl, hb⟩
  ·by_cases h1 : n ≤ v
   ·have HR : Hid (idxC l n = none) := Lib.hid (by rw [HC.out, if_pos (.inr (.inl h1))])
    go_wp2
    go_ret2
    exact ⟨by rw [HR.out]; rfl, hb⟩
   ·by_cases h2 : Lib.itoa v = l
    ·have HR : Hid (idxC l n = some v) := Lib.hid (by rw [HC.out, if_neg (by rintro (h | h | h); exact h0 h; exact h1 h; exact h h2)])
     have hs : (!Lib.itoa v == l) = false := by rw [h2]; simp
     clear h2
     go_wp2_with fail
     refine (itoa_any v hb0 hb1 _ (hg.next hb)).mono ?_
     rintro e w2 ⟨rfl, hb2⟩
     have hb3 := below_chain hb hb.size hb2
     go_wp2
     go_ret2
     exact ⟨by rw [HR.out]; rfl, hb3⟩
    ·have HR : Hid (idxC l n = none) := Lib.hid (by rw [HC.out, if_pos (.inr (.inr h2))])
     have hs : (!Lib.itoa v == l) = true := by simpa using h2
     clear h2
     go_wp2_with fail
     refine (itoa_any v hb0 hb1 _ (hg.next hb)).mono ?_
     rintro e w2 ⟨rfl, hb2⟩
     have hb3 := below_chain hb hb.size hb2
     go_wp2
     go_ret2
     exact ⟨by rw [HR.out]; rfl, hb3⟩
 ·have HR : Hid (idxC l n = none) := Lib.hid (by
   unfold idxC
   rcases h : Lib.atoiAll l with v | _ | _
   ·exact absurd ⟨v, h⟩ hv
   ·rfl
   ·rfl)
  have HV := Lib.hid fun v h => hv ⟨v, h⟩
  clear hv
  go_enter Tryz.func138, Tryz.ntmps138
  go_wp2_with fail
  refine (atoi_any l hl _ hg).mono ?_
  rintro e w1 ⟨hb, _, HO⟩
  obtain ⟨k, T, x, rfl⟩ := HO HV.out
  clear HO
  go_wp2
  go_ret2
  exact ⟨by rw [HR.out]; rfl, hb⟩
end Go.Proofs.YtbajkglacfheiaaGreatDoor
