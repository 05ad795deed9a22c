/-
  Plain laws: right texts joined and cut.
  Walks of package pointer: Parse.
  Walks of the reference of layer 13: Parse.
  Walks of the statements' own functions of layer 13: texts.
  Walks of package pointer: quoted, Print.
  Walks of the statements' own functions of layer 13: wakes.
  Walks of the index that a token says: strconv.Atoi, strconv.Itoa, Index of package pointer, Index of the reference.
-/
import Derived.Test.YtbcckpnngonoeaaGreatDoorMB
import Derived.Test.YtbcckpnngonoeaaGreatDoorMA
import Derived.Test.YtbcckpnngonoeaaGreatDoorShelf
import Derived.Deep.LoopGhost
import Derived.Laws.IdiomStrings
import Derived.Laws.BytesArg
import Derived.KernelRfl
import Derived.Lib.AppendIntMem
import Derived.Lib.AtoiErrMem
import Derived.Lib.LaidTab
namespace Go.Proofs.YtbcckpnngonoeaaGreatDoor
open Go.RowKit Utf Ref3 UtfLaw Tok
set_option linter.unusedVariables false
namespace TokC
/-- where the feeder stands behind these bytes, its places left out -/
def go8 : List UInt8 → Int → Int → Option (Int × Int)
  | [], h, m => some (h, m)
  | c :: r, h, m => match fstep h m (c.toNat : Int) with
    | none => none
    | some x => go8 r x.1 x.2
theorem go8_cons (c : UInt8) (r : List UInt8) (h m : Int) : go8 (c :: r) h m = (fstep h m (c.toNat : Int)).bind fun x => go8 r x.1 x.2 := by
  rw [go8]
  cases fstep h m (c.toNat : Int) <;> rfl
theorem go8_append : ∀ (a b : List UInt8) (h m : Int), go8 (a ++ b) h m = (go8 a h m).bind fun x => go8 b x.1 x.2
  | [], b, h, m => rfl
  | c :: a, b, h, m => by
    rw [List.cons_append, go8_cons, go8_cons]
    cases fstep h m (c.toNat : Int) with
    | none => rfl
    | some x => exact go8_append a b x.1 x.2
theorem feed_go8 : ∀ (l : List UInt8) (p h m : Int), match go8 l h m with
    | none => (feed l p h m).2.2.2 = true ∧ (feed l p h m).2.2.1 = 0
    | some x => (feed l p h m).2.2.2 = false ∧ (feed l p h m).2.2.1 = x.2
  | [], p, h, m => ⟨rfl, rfl⟩
  | c :: r, p, h, m => by
    rw [go8_cons, feed_cons]
    cases fstep h m (c.toNat : Int) with
    | none => exact ⟨rfl, rfl⟩
    | some x => exact feed_go8 r (p + 1) x.1 x.2
theorem right_go8 (l : List UInt8) : (wrong l).1 = 0 ↔ ∃ x, go8 l 0 0 = some x ∧ ¬ 0 < x.2 := by
  rw [← end_wrong]
  have h := feed_go8 l 0 0 0
  unfold endP
  cases hg : go8 l 0 0 with
  | none =>
    rw [hg] at h
    obtain ⟨h1, h2⟩ := h
    rw [h1, h2]
    simp
  | some x =>
    rw [hg] at h
    obtain ⟨h1, h2⟩ := h
    rw [h1, h2]
    by_cases hx : 0 < x.2
    · simp [hx]
    · simp [hx]
      omega
theorem go8_inv : ∀ (l : List UInt8) (h m : Int) (x : Int × Int), Inv h m → go8 l h m = some x → Inv x.1 x.2
  | [], h, m, x, hi, e => by
    injection e with e
    rw [← e]
    exact hi
  | c :: r, h, m, x, hi, e => by
    rw [go8_cons] at e
    cases hs : fstep h m (c.toNat : Int) with
    | none =>
      rw [hs] at e
      cases e
    | some y =>
      rw [hs] at e
      have hc := c.toNat_lt
      exact go8_inv r y.1 y.2 x (fstep_inv hi (by omega) (by omega) hs) e
theorem fstep_any (h h' : Int) (c : Int) : (fstep h 0 c).map (fun x => if x.2 = 0 then (0, 0) else x) = (fstep h' 0 c).map (fun x => if x.2 = 0 then (0, 0) else x) := by
  unfold fstep
  simp only [if_true]
  split
  · rfl
  · split <;> rfl
def Fine (l : List UInt8) (h : Int) : Prop := ∃ x, go8 l h 0 = some x ∧ ¬ 0 < x.2
theorem fstep_zero (h c : Int) : fstep h 0 c = if (form c).1 = 0 then none else if 1 < (form c).1 then some (c, 1) else some (h, 0) := by
  rw [fstep, if_pos rfl]
theorem fine_free (l : List UInt8) (h h' : Int) : Fine l h → Fine l h' := by
  induction l with
  | nil => exact fun _ => ⟨(h', 0), rfl, by simp⟩
  | cons c r ih =>
    unfold Fine at ih ⊢
    rw [go8_cons, go8_cons, fstep_zero, fstep_zero]
    generalize form (c.toNat : Int) = f at *
    by_cases h1 : f.1 = 0
    · rw [if_pos h1, if_pos h1]
      rintro ⟨x, e, _⟩
      cases e
    · rw [if_neg h1, if_neg h1]
      by_cases h2 : 1 < f.1
      · rw [if_pos h2, if_pos h2]
        exact id
      · rw [if_neg h2, if_neg h2]
        exact ih
theorem right_append {a b : List UInt8} (ha : (wrong a).1 = 0) (hb : (wrong b).1 = 0) : (wrong (a ++ b)).1 = 0 := by
  obtain ⟨x, e, hx⟩ := (right_go8 a).1 ha
  have hi := go8_inv a 0 0 x (by unfold Utf.Inv; omega) e
  have hx0 : x.2 = 0 := by unfold Utf.Inv at hi; omega
  obtain ⟨y, e2, hy⟩ := fine_free b 0 x.1 ((right_go8 b).1 hb)
  refine (right_go8 _).2 ⟨y, ?_, hy⟩
  rw [go8_append, e]
  show go8 b x.1 x.2 = some y
  rw [hx0]
  exact e2
theorem form_lo {h : Int} (h2 : 2 ≤ (form h).1) : 128 ≤ (form h).2.1 := by
  unfold form at h2 ⊢
  repeat' split
  all_goals first | (simp; done) | (simp_all; done) | omega
theorem fstep_low {h m c : Int} {y : Int × Int} (hi : Utf.Inv h m) (hc : c < 128) (e : fstep h m c = some y) : m = 0 ∧ y = (h, 0) := by
  obtain ⟨_, _, hm0, hm⟩ := hi
  by_cases h0 : m = 0
  · subst h0
    refine ⟨rfl, ?_⟩
    rw [fstep_zero] at e
    have : form c = (1, 0, 0) := by unfold form; rw [if_pos hc]
    rw [this] at e
    simp at e
    exact e.symm
  · exfalso
    have hlo := form_lo (h := h) (by omega)
    unfold fstep at e
    rw [if_neg h0] at e
    have hf : mayB (form h).2.1 (form h).2.2 m c = false := by
      unfold mayB
      split
      · rw [decide_eq_false (by omega)]; rfl
      · rw [decide_eq_false (by omega)]; rfl
    rw [hf] at e
    simp at e
theorem right_cut {a b : List UInt8} {c : UInt8} (hc : (c.toNat : Int) < 128) (h : (wrong (a ++ c :: b)).1 = 0) : (wrong a).1 = 0 ∧ (wrong b).1 = 0 := by
  obtain ⟨x, e, hx⟩ := (right_go8 _).1 h
  rw [go8_append] at e
  cases ha : go8 a 0 0 with
  | none =>
    rw [ha] at e
    cases e
  | some y =>
    rw [ha] at e
    replace e : go8 (c :: b) y.1 y.2 = some x := e
    rw [go8_cons] at e
    cases hs : fstep y.1 y.2 (c.toNat : Int) with
    | none =>
      rw [hs] at e
      cases e
    | some z =>
      rw [hs] at e
      obtain ⟨h1, h2⟩ := fstep_low (go8_inv a 0 0 y (by unfold Utf.Inv; omega) ha) hc hs
      subst h2
      refine ⟨(right_go8 a).2 ⟨y, ha, by omega⟩, (right_go8 b).2 (fine_free b y.1 0 ⟨x, e, hx⟩)⟩
theorem right_low {c : UInt8} (hc : (c.toNat : Int) < 128) : (wrong [c]).1 = 0 := by
  refine (right_go8 _).2 ⟨(0, 0), ?_, by simp⟩
  rw [go8_cons, fstep_zero]
  have : form (c.toNat : Int) = (1, 0, 0) := by unfold form; rw [if_pos hc]
  rw [this]
  rfl
theorem escs_split : ∀ l : List UInt8, escs l = l ∨ ∃ a c b, l = a ++ c :: b ∧ (c = 126 ∨ c = 47) ∧ escs l = a ++ (esc c ++ escs b)
  | [] => .inl rfl
  | c :: r => by
    by_cases hc : c = 126 ∨ c = 47
    · exact .inr ⟨[], c, r, rfl, hc, escs_cons c r⟩
    · have he : esc c = [c] := by
        unfold esc
        rw [if_neg (fun h => hc (.inl h)), if_neg (fun h => hc (.inr h))]
      rw [escs_cons, he]
      rcases escs_split r with h | ⟨a, d, b, h1, h2, h3⟩
      · exact .inl (by rw [h]; rfl)
      · exact .inr ⟨c :: a, d, b, by rw [h1]; rfl, h2, by rw [h3]; rfl⟩
theorem right_escs : ∀ (N : Nat) (l : List UInt8), l.length ≤ N → (wrong l).1 = 0 → (wrong (escs l)).1 = 0
  | N, l, hl, h => by
    rcases escs_split l with e | ⟨a, c, b, e1, hc, e2⟩
    · rw [e]
      exact h
    · cases N with
      | zero =>
        rw [e1, List.length_append, List.length_cons] at hl
        omega
      | succ N =>
        rw [e1, List.length_append, List.length_cons] at hl
        rw [e1] at h
        have hlow : (c.toNat : Int) < 128 := by rcases hc with rfl | rfl <;> decide
        obtain ⟨h1, h2⟩ := right_cut hlow h
        have h3 := right_escs N b (by omega) h2
        have h4 : (wrong (esc c)).1 = 0 := by
          rcases hc with rfl | rfl
          · exact right_append (a := [126]) (b := [48]) (right_low (by decide)) (right_low (by decide))
          · exact right_append (a := [126]) (b := [49]) (right_low (by decide)) (right_low (by decide))
        rw [e2]
        exact right_append h1 (right_append h4 h3)
theorem esc_two {c : UInt8} (hc : c = 126 ∨ c = 47) : ∃ x : UInt8, esc c = [126, x] ∧ (x.toNat : Int) < 128 := by
  rcases hc with rfl | rfl
  · exact ⟨48, by rw [esc, if_pos rfl], by decide⟩
  · exact ⟨49, by rw [esc, if_neg (by decide), if_pos rfl], by decide⟩
theorem right_of_escs (N : Nat) : ∀ l : List UInt8, l.length ≤ N → (wrong (escs l)).1 = 0 → (wrong l).1 = 0 := by
  induction N with
  | zero =>
    intro l hl h
    obtain rfl : l = [] := List.eq_nil_of_length_eq_zero (by omega)
    rfl
  | succ N ih =>
    intro l hl h
    rcases escs_split l with e | ⟨a, c, b, e1, hc, e2⟩
    · rwa [e] at h
    · rw [e1, List.length_append, List.length_cons] at hl
      have hlow : (c.toNat : Int) < 128 := by rcases hc with rfl | rfl <;> decide
      obtain ⟨x, hx, hxl⟩ := esc_two hc
      rw [e2, hx] at h
      have h' : (wrong (a ++ 126 :: (x :: escs b))).1 = 0 := h
      obtain ⟨h1, h2⟩ := right_cut (by decide) h'
      have h2' : (wrong ([] ++ x :: escs b)).1 = 0 := h2
      obtain ⟨_, h3⟩ := right_cut hxl h2'
      have h4 := ih b (by omega) h3
      rw [e1]
      exact right_append h1 (right_append (a := [c]) (b := b) (right_low hlow) h4)
theorem right_print : ∀ ts : List (List UInt8), (wrong (printS ts)).1 = 0 ↔ ∀ t ∈ ts, (wrong t).1 = 0
  | [] => ⟨fun _ t h => (by cases h), fun _ => rfl⟩
  | t :: ts => by
    have ih := right_print ts
    rw [print_cons]
    constructor
    · intro h
      obtain ⟨_, h1⟩ := right_cut (a := []) (c := 47) (b := escs t ++ printS ts) (by decide) h
      have h2 : (wrong (escs t)).1 = 0 ∧ (wrong (printS ts)).1 = 0 := by
        rcases print_stroke ts with e | ⟨r, e⟩
        · rw [e, List.append_nil] at h1
          rw [e]
          exact ⟨h1, rfl⟩
        · rw [e] at h1 ⊢
          obtain ⟨h3, h4⟩ := right_cut (c := 47) (by decide) h1
          exact ⟨h3, right_append (a := [47]) (b := r) (right_low (by decide)) h4⟩
      intro u hu
      rcases List.mem_cons.1 hu with rfl | hu
      · exact right_of_escs u.length u (Nat.le_refl _) h2.1
      · exact ih.1 h2.2 u hu
    · intro h
      exact right_append (a := [47]) (right_low (by decide)) (right_append (right_escs t.length t (Nat.le_refl _) (h t (List.mem_cons_self ..))) (ih.2 fun u hu => h u (List.mem_cons_of_mem _ hu)))
theorem badI_none : ∀ (ts : List (List UInt8)) (i : Nat), badI wrong ts i = none ↔ ∀ t ∈ ts, (wrong t).1 = 0
  | [], i => ⟨fun _ t h => (by cases h), fun _ => rfl⟩
  | t :: ts, i => by
    have ih := badI_none ts (i + 1)
    rw [badI]
    by_cases h : (wrong t).1 = 0
    · rw [if_pos h, ih]
      exact ⟨fun h' u hu => (List.mem_cons.1 hu).elim (fun e => e ▸ h) (h' u), fun h' u hu => h' u (List.mem_cons_of_mem _ hu)⟩
    · rw [if_neg h]
      exact ⟨fun e => (by cases e), fun h' => absurd (h' t (List.mem_cons_self ..)) h⟩
/-- what printed parses back -/
theorem print_back {ts : List (List UInt8)} {l : List UInt8} (h : printR wrong ts = .ok l) : l = printS ts ∧ ts.length ≤ 65536 ∧ parseS (wrong l) l = .ok ts := by
  unfold printR at h
  by_cases hl : 65536 < ts.length
  · rw [if_pos hl] at h
    cases h
  · rw [if_neg hl] at h
    cases hb : badI wrong ts 0 with
    | some i =>
      rw [hb] at h
      cases h
    | none =>
      rw [hb] at h
      injection h with h
      subst h
      exact ⟨rfl, by omega, parse_of_print ((right_print ts).2 ((badI_none ts 0).1 hb)) (by omega)⟩
/-- what parsed prints back -/
theorem parse_back {ts : List (List UInt8)} {l : List UInt8} (h : parseS (wrong l) l = .ok ts) : printR wrong ts = .ok l ∧ ∀ t ∈ ts, (wrong t).1 = 0 := by
  obtain ⟨h1, h2, h3⟩ := parse_print h
  have hr : ∀ t ∈ ts, (wrong t).1 = 0 := (right_print ts).1 (by rw [h2]; exact h1)
  refine ⟨?_, hr⟩
  unfold printR
  rw [if_neg (by omega), (badI_none ts 0).2 hr]
  show Except.ok (printS ts) = _
  rw [h2]
end TokC
end Go.Proofs.YtbcckpnngonoeaaGreatDoor
namespace Go.Proofs.YtbcckpnngonoeaaGreatDoor
open Go.RowKit Mem Utf Ref3 Tok
set_option linter.unusedVariables false

theorem info_str : (Tryz.prog.info? 9).map (fun i => (i.zero, i.size, i.bytes)) = some (some (.string ByteArray.empty), 1, 16) := by kernel_rfl
def strV (l : List UInt8) : Value := .string ⟨l.toArray⟩
def errV (n a : Int) : Value := if a < 0 then .iface 46 (.int .i64 n) else spotV n a
def ParseP (l : List UInt8) (w : World) (e : Ending) (w' : World) : Prop :=
  Below w.heap.size w w' ∧ (∀ x, parseS (wrong l) l = .error x → e = .returned (.tuple #[.slice none 0 0, errV x.1 x.2])) ∧
  (∀ ts, parseS (wrong l) l = .ok ts → ∃ v, e = .returned (.tuple #[v, .nilIface]) ∧ w'.ownsRow w.heap.size 9 1 v ts.length (ts.map strV))

namespace Tok
theorem byte_is (c : UInt8) (n : UInt8) : ((c.toNat : Int) = (n.toNat : Int)) ↔ c = n := by
  rw [Int.ofNat_inj, UInt8.toNat_inj]
theorem badT_at {s : ByteArray} {k : Nat} (hk : k < s.size) : badT (s.data.toList.drop k) k =
    if (s[k].toNat : Int) = 126 then (if h : k + 1 < s.size then (if (s[k + 1].toNat : Int) = 48 ∨ (s[k + 1].toNat : Int) = 49 then badT (s.data.toList.drop (k + 1)) (k + 1) else some (k + 1)) else some (k + 1))
    else badT (s.data.toList.drop (k + 1)) (k + 1) := by
  have hk' : k < s.data.toList.length := hk
  have e0 : s.data.toList.drop k = s[k] :: s.data.toList.drop (k + 1) := List.drop_eq_getElem_cons hk'
  have is126 : (s[k].toNat : Int) = 126 ↔ s[k] = 126 := byte_is _ 126
  rw [e0]
  by_cases hc : s[k] = 126
  · rw [if_pos (is126.2 hc), hc]
    by_cases h : k + 1 < s.size
    · have h' : k + 1 < s.data.toList.length := h
      have e1 : s.data.toList.drop (k + 1) = s[k + 1] :: s.data.toList.drop (k + 1 + 1) := List.drop_eq_getElem_cons h'
      have is48 : (s[k + 1].toNat : Int) = 48 ↔ s[k + 1] = 48 := byte_is _ 48
      have is49 : (s[k + 1].toNat : Int) = 49 ↔ s[k + 1] = 49 := byte_is _ 49
      rw [dif_pos h, e1, badT_two, ← e1]
      by_cases hx : s[k + 1] = 48 ∨ s[k + 1] = 49
      · rw [if_pos hx, if_pos (by rcases hx with hx | hx; exact .inl (is48.2 hx); exact .inr (is49.2 hx))]
      · rw [if_neg hx, if_neg (by rintro (h | h); exact hx (.inl (is48.1 h)); exact hx (.inr (is49.1 h)))]
    · have e1 : s.data.toList.drop (k + 1) = [] := List.drop_eq_nil_of_le (by show s.size ≤ _; omega)
      rw [dif_neg h, e1]
      rfl
  · rw [if_neg (fun h => hc (is126.1 h)), badT_not hc]
theorem toList_size (s : ByteArray) : s.toList.length = s.size := by rw [ByteArray.toList_eq]; rfl
theorem toList_pos {s : ByteArray} (h : 0 < s.size) : ¬ s.toList = [] := fun e => by
  have := toList_size s
  rw [e] at this
  simp at this
  omega
theorem stroke_of {s : ByteArray} (h : 0 < s.size) (h0 : (s[0].toNat : Int) = 47) : Stroke s.data.toList := by
  have h' : 0 < s.data.toList.length := h
  have e0 : s.data.toList.drop 0 = s[0] :: s.data.toList.drop (0 + 1) := List.drop_eq_getElem_cons h'
  rw [List.drop_zero, (byte_is _ 47).1 h0] at e0
  exact .inr ⟨_, e0⟩
theorem head_of {s : ByteArray} (h : 0 < s.size) (h0 : ¬ (s[0].toNat : Int) = 47) : ∃ c t, s.data.toList = c :: t ∧ c ≠ 47 := by
  have h' : 0 < s.data.toList.length := h
  have e0 : s.data.toList.drop 0 = s[0] :: s.data.toList.drop (0 + 1) := List.drop_eq_getElem_cons h'
  exact ⟨_, _, e0, fun e => h0 ((byte_is _ 47).2 e)⟩
end Tok
theorem parseP_err {l : List UInt8} {n a : Int} (h : parseS (wrong l) l = .error (n, a)) {w w' : World} (hb : Below w.heap.size w w') : ParseP l w (.returned (.tuple #[.slice none 0 0, errV n a])) w' := by
  refine ⟨hb, fun x hx => ?_, fun ts hx => ?_⟩
  · rw [h] at hx
    injection hx with hx
    rw [← hx]
  · rw [h] at hx
    cases hx
theorem errV_at (n : Int) {a : Int} (h : ¬ a < 0) : errV n a = .iface 104 (.agg #[.int .i64 n, .int .i64 a]) := by rw [errV, if_neg h]; rfl
theorem errV_no (n : Int) : errV n (-1) = .iface 46 (.int .i64 n) := rfl

theorem parseP_spot {l : List UInt8} {n a : Int} (h : parseS (wrong l) l = .error (n, a)) (ha : 0 ≤ a) {w w' : World} (hb : Below w.heap.size w w') :
    ParseP l w (.returned (.tuple #[.slice none 0 0, .iface 104 (.agg #[.int .i64 n, .int .i64 a])])) w' := by
  have := parseP_err h hb
  rwa [errV_at n (by omega)] at this
theorem parseP_no {l : List UInt8} {n : Int} (h : parseS (wrong l) l = .error (n, -1)) {w w' : World} (hb : Below w.heap.size w w') :
    ParseP l w (.returned (.tuple #[.slice none 0 0, .iface 46 (.int .i64 n)])) w' := parseP_err h hb
theorem parseP_ok {l : List UInt8} {ts : List (List UInt8)} (h : parseS (wrong l) l = .ok ts) {w w' : World} {v : Value} (hb : Below w.heap.size w w')
    (ho : w'.ownsRow w.heap.size 9 1 v ts.length (ts.map strV)) : ParseP l w (.returned (.tuple #[v, .nilIface])) w' := by
  refine ⟨hb, fun x hx => ?_, fun ts' hx => ?_⟩
  · rw [h] at hx
    cases hx
  · rw [h] at hx
    injection hx with hx
    rw [← hx]
    exact ⟨v, rfl, ho⟩

/-- how it stands while tokens are cut out: what is left, the tokens that came -/
def LoopR (s : ByteArray) (w : World) (c0 c7 : Value) (wr : World) : Prop :=
  ∃ (r : ByteArray) (ts : List (List UInt8)), r.size ≤ s.size ∧ c0 = .string r ∧ Stroke r.data.toList ∧
    Hid (ts ++ splitF r.data.toList.length r.data.toList = splitF s.data.toList.length s.data.toList) ∧ wr.ownsRow w.heap.size 9 1 c7 ts.length (ts.map strV) ∧ Below w.heap.size w wr
theorem LoopR.start {s : ByteArray} {w w1 : World} (hs : Stroke s.data.toList) (hb : Below w.heap.size w w1) : LoopR s w (.string s) (.slice none 0 0) w1 :=
  ⟨s, [], Nat.le_refl _, rfl, hs, Lib.hid rfl, World.ownsRow_nil _ _ _ _, hb⟩
def strLen : Value → Nat | .string r => r.size | _ => 0

end Go.Proofs.YtbcckpnngonoeaaGreatDoor
namespace Go.Proofs.YtbcckpnngonoeaaGreatDoor
open Go.RowKit Mem Utf Ref3 Tok
set_option linter.unusedVariables false

def byteV (c : UInt8) : Value := .int .u8 (c.toNat : Int)
/-- one new cell -/
theorem one_newP (w : World) (t : TypeId) (v : Value) : ∀ j u, [v][j]? = some u → (w.alloc (.cells #[v] t)).cell? ((⟨w.heap.size, 0, none⟩ : Addr).add j) = some u := by
  intro j u hj
  match j, hj with
  | 0, hj =>
    injection hj with hj
    subst hj
    exact Blk.cell (Blk.new w t #[v]) 0
  | j + 1, hj => cases hj
theorem one_cellP (v : Value) (h : v.oneCell' = true) : ∀ u ∈ [v], u.oneCell' = true := by
  intro u hu
  rw [List.mem_singleton] at hu
  rw [hu]
  exact h
/-- a row of the call's own is a slice of its length -/
theorem own_sliceP {w : World} {base size n : Nat} {e : TypeId} {v : Value} {xs : List Value} (h : w.ownsRow base e size v n xs) : ∃ A c, v = .slice A n c := by
  rcases Joins.ownsRow_forms h with ⟨rfl, rfl⟩ | ⟨g, cap, rfl, _⟩
  · exact ⟨none, 0, rfl⟩
  · exact ⟨_, _, rfl⟩
theorem info_u8 : (Tryz.prog.info? 5).map (fun i => (i.zero, i.size, i.bytes)) = some (some (.int .u8 0), 1, 1) := by kernel_rfl
/-- 'string(b)' of bytes of the call's own -/
theorem conv_own (w : World) (base : Nat) (v : Value) (l : List UInt8) (h : w.ownsRow base 5 1 v l.length (l.map byteV)) :
    (convert 265 9 v).run Tryz.prog w = .ok (.string ⟨l.toArray⟩) w := by
  rcases h.2 with ⟨rfl, hn⟩ | ⟨g, cap, cur, rfl, _⟩
  · obtain rfl : l = [] := by simpa using hn
    exact run_convert_bytes_nil w 265 5 Tryz.underlying265 Tryz.underlying5 0 0 9 Tryz.underlying9
  · refine run_convert_bytes_back w 265 9 5 _ cap l Tryz.underlying265 Tryz.underlying5 Tryz.underlying9 (fun j hj => ?_)
    exact h.cells (g := g) rfl j _ (by rw [List.getElem?_map, List.getElem?_eq_getElem hj]; rfl)
namespace Tok
theorem drop_at {s : ByteArray} {k : Nat} (hk : k < s.size) : s.data.toList.drop k = s[k] :: s.data.toList.drop (k + 1) := by
  have hk' : k < s.data.toList.length := hk
  exact List.drop_eq_getElem_cons hk'
theorem byte_eq {c : UInt8} (n : UInt8) {m : Int} (hm : (n.toNat : Int) = m) (h : (c.toNat : Int) = m) : c = n := (byte_is c n).1 (h.trans hm.symm)
theorem byte_ne {c : UInt8} (n : UInt8) {m : Int} (hm : (n.toNat : Int) = m) (h : ¬ (c.toNat : Int) = m) : c ≠ n := fun e => h (by rw [e]; exact hm)
theorem run_at (toks : List (List UInt8)) (b : List UInt8) {s : ByteArray} {k : Nat} (hk : k < s.size) (h47 : ¬ (s[k].toNat : Int) = 47) (h126 : ¬ (s[k].toNat : Int) = 126) :
    run toks (some b) (s.data.toList.drop k) k = run toks (some (b ++ [s[k]])) (s.data.toList.drop (k + 1)) (k + 1) := by
  rw [drop_at hk, run_some _ _ _ _ (byte_ne 47 rfl h47) (byte_ne 126 rfl h126)]
theorem run_at_end (toks : List (List UInt8)) (b : List UInt8) {s : ByteArray} {k : Nat} (hk : k < s.size) (h126 : (s[k].toNat : Int) = 126) (he : ¬ k + 1 < s.size) :
    run toks (some b) (s.data.toList.drop k) k = .error (k + 1) := by
  rw [drop_at hk, byte_eq 126 rfl h126, List.drop_eq_nil_of_le (by show s.size ≤ _; omega)]
  exact run_bad _ _ _ _ rfl
theorem run_at_0 (toks : List (List UInt8)) (b : List UInt8) {s : ByteArray} {k : Nat} (hk : k + 1 < s.size) (h126 : (s[k].toNat : Int) = 126) (h : (s[k + 1].toNat : Int) = 48) :
    run toks (some b) (s.data.toList.drop k) k = run toks (some (b ++ [126])) (s.data.toList.drop (k + 2)) (k + 2) := by
  rw [drop_at (by omega), drop_at hk, byte_eq 126 rfl h126, byte_eq 48 rfl h, run_0]
theorem run_at_1 (toks : List (List UInt8)) (b : List UInt8) {s : ByteArray} {k : Nat} (hk : k + 1 < s.size) (h126 : (s[k].toNat : Int) = 126) (h : (s[k + 1].toNat : Int) = 49) :
    run toks (some b) (s.data.toList.drop k) k = run toks (some (b ++ [47])) (s.data.toList.drop (k + 2)) (k + 2) := by
  rw [drop_at (by omega), drop_at hk, byte_eq 126 rfl h126, byte_eq 49 rfl h, run_1]
theorem run_at_bad (toks : List (List UInt8)) (b : List UInt8) {s : ByteArray} {k : Nat} (hk : k + 1 < s.size) (h126 : (s[k].toNat : Int) = 126) (h0 : ¬ (s[k + 1].toNat : Int) = 48) (h1 : ¬ (s[k + 1].toNat : Int) = 49) :
    run toks (some b) (s.data.toList.drop k) k = .error (k + 1) := by
  rw [drop_at (by omega), drop_at hk, byte_eq 126 rfl h126]
  refine run_bad _ _ _ _ ?_
  rw [badT_two, if_neg (by rintro (h | h); exact byte_ne 48 rfl h0 h; exact byte_ne 49 rfl h1 h)]
end Tok
def RefParseP (l : List UInt8) (w : World) (e : Ending) (w' : World) : Prop :=
  Below w.heap.size w w' ∧ (∀ x, parseS (wrong l) l = .error x → e = .returned (.tuple #[.slice none 0 0, .int .i64 x.1, .int .i64 x.2])) ∧
  (∀ ts, parseS (wrong l) l = .ok ts → ∃ v, e = .returned (.tuple #[v, .int .i64 0, .int .i64 0]) ∧ w'.ownsRow w.heap.size 9 1 v ts.length (ts.map strV))
theorem refP_err {l : List UInt8} {n a : Int} (h : parseS (wrong l) l = .error (n, a)) {w w' : World} (hb : Below w.heap.size w w') :
    RefParseP l w (.returned (.tuple #[.slice none 0 0, .int .i64 n, .int .i64 a])) w' := by
  refine ⟨hb, fun x hx => ?_, fun ts hx => ?_⟩
  · rw [h] at hx
    injection hx with hx
    rw [← hx]
  · rw [h] at hx
    cases hx
theorem refP_ok {l : List UInt8} {ts : List (List UInt8)} (h : parseS (wrong l) l = .ok ts) {w w' : World} {v : Value} (hb : Below w.heap.size w w')
    (ho : w'.ownsRow w.heap.size 9 1 v ts.length (ts.map strV)) : RefParseP l w (.returned (.tuple #[v, .int .i64 0, .int .i64 0])) w' := by
  refine ⟨hb, fun x hx => ?_, fun ts' hx => ?_⟩
  · rw [h] at hx
    cases hx
  · rw [h] at hx
    injection hx with hx
    rw [← hx]
    exact ⟨v, rfl, ho⟩
theorem parse_run_err {l : List UInt8} {p : Nat} (hw : (wrong l).1 = 0) (h : run [] none l 0 = .error p) : parseS (wrong l) l = .error (130, (p : Int)) := by rw [parseS, if_pos hw, h]
theorem parse_run_ok {l : List UInt8} {ts : List (List UInt8)} (hw : (wrong l).1 = 0) (h : run [] none l 0 = .ok ts) : parseS (wrong l) l = if 65536 < ts.length then .error (3, -1) else .ok ts := by rw [parseS, if_pos hw, h]
/-- how it stands at a token's beginning -/
def Outer (s : ByteArray) (w : World) (g : Nat) (c6 c7 : Value) (wr : World) : Prop :=
  ∃ (i : Nat) (ts : List (List UInt8)), i ≤ s.size ∧ g = s.size - i ∧ c7 = .int .i64 i ∧ ts.length ≤ i ∧ Hid (run ts none (s.data.toList.drop i) i = run [] none s.data.toList 0) ∧
    wr.ownsRow w.heap.size 9 1 c6 ts.length (ts.map strV) ∧ Below w.heap.size w wr
/-- how it stands within a token -/
def Inner (s : ByteArray) (ts : List (List UInt8)) (i0 : Nat) (w2 : World) (g : Nat) (c7 c8 : Value) (wr : World) : Prop :=
  ∃ (i : Nat) (b : List UInt8), i ≤ s.size ∧ i0 < i ∧ g = s.size - i ∧ c7 = .int .i64 i ∧ b.length ≤ i ∧ Hid (run ts (some b) (s.data.toList.drop i) i = run [] none s.data.toList 0) ∧
    wr.ownsRow w2.heap.size 5 1 c8 b.length (b.map byteV) ∧ Below w2.heap.size w2 wr

end Go.Proofs.YtbcckpnngonoeaaGreatDoor
namespace Go.Proofs.YtbcckpnngonoeaaGreatDoor
open Go.RowKit Mem Utf Ref3 Tok
set_option linter.unusedVariables false

/-- a slice of texts reads as these -/
def Rd (w : World) (v : Value) (xs : List (List UInt8)) : Prop :=
  ∃ A c, v = .slice A xs.length c ∧ ∀ j (h : j < xs.length), ∃ g o, A = some ⟨g, o, none⟩ ∧ g < w.heap.size ∧ w.cell? ⟨g, o + j, none⟩ = some (strV xs[j])
theorem Rd.of_own {w : World} {base : Nat} {e : TypeId} {v : Value} {xs : List (List UInt8)} (h : w.ownsRow base e 1 v xs.length (xs.map strV)) : Rd w v xs := by
  rcases Joins.ownsRow_forms h with ⟨rfl, h0⟩ | ⟨g, cap, rfl, hlt⟩
  · refine ⟨none, 0, by rw [h0], fun j hj => by omega⟩
  · refine ⟨_, _, rfl, fun j hj => ⟨g, 0, rfl, (h.lt g rfl).2, ?_⟩⟩
    have := h.cellAt j (by omega)
    rw [Nat.zero_add, this, List.getElem?_map, List.getElem?_eq_getElem hj]
    rfl
theorem Rd.below {w w' : World} {v : Value} {xs : List (List UInt8)} (h : Rd w v xs) (hb : Below w.heap.size w w') : Rd w' v xs := by
  obtain ⟨A, c, rfl, hc⟩ := h
  refine ⟨A, c, rfl, fun j hj => ?_⟩
  obtain ⟨g, o, rfl, hl, hcell⟩ := hc j hj
  exact ⟨g, o, rfl, Nat.lt_of_lt_of_le hl hb.size, (hb.cell (by exact hl)).trans hcell⟩

theorem ta_no_no (v : Value) (w : World) : (Instr.typeAssert (.iface 46 v) 30 46 true).run Tryz.prog w = .ok (.tuple #[v, .bool true]) w := by kernel_rfl
theorem ta_spot_no (v : Value) (w : World) : (Instr.typeAssert (.iface 104 v) 30 46 true).run Tryz.prog w = .ok (.tuple #[.int .i64 0, .bool false]) w := by kernel_rfl
theorem ta_spot_spot (v : Value) (w : World) : (Instr.typeAssert (.iface 104 v) 30 104 true).run Tryz.prog w = .ok (.tuple #[v, .bool true]) w := by kernel_rfl

end Go.Proofs.YtbcckpnngonoeaaGreatDoor
namespace Go.Proofs.YtbcckpnngonoeaaGreatDoor
open Go.RowKit Mem Utf Ref3 Tok
set_option linter.unusedVariables false

theorem right_wrong (l : List UInt8) : isNil (chkV l) = decide ((wrong l).1 = 0) := by
  rw [UtfLaw.chk_wrong]
  by_cases h : (wrong l).1 = 0
  · rw [if_pos h, decide_eq_true h]; rfl
  · rw [if_neg h, decide_eq_false h]; rfl

def PrintP (ts : List (List UInt8)) (w : World) (e : Ending) (w' : World) : Prop :=
  Below w.heap.size w w' ∧ (∀ x, printR wrong ts = .error x → e = .returned (.tuple #[.string ⟨#[]⟩, errV x.1 x.2])) ∧
  (∀ l, printR wrong ts = .ok l → e = .returned (.tuple #[.string ⟨l.toArray⟩, .nilIface]))
theorem printP_err {ts : List (List UInt8)} {n a : Int} (h : printR wrong ts = .error (n, a)) {w w' : World} (hb : Below w.heap.size w w') : PrintP ts w (.returned (.tuple #[.string ⟨#[]⟩, errV n a])) w' := by
  refine ⟨hb, fun x hx => ?_, fun l hx => ?_⟩
  · rw [h] at hx
    injection hx with hx
    rw [← hx]
  · rw [h] at hx
    cases hx
theorem printP_ok {ts : List (List UInt8)} {l : List UInt8} (h : printR wrong ts = .ok l) {w w' : World} (hb : Below w.heap.size w w') : PrintP ts w (.returned (.tuple #[.string ⟨l.toArray⟩, .nilIface])) w' := by
  refine ⟨hb, fun x hx => ?_, fun l' hx => ?_⟩
  · rw [h] at hx
    cases hx
  · rw [h] at hx
    injection hx with hx
    rw [← hx]

end Go.Proofs.YtbcckpnngonoeaaGreatDoor
namespace Go.Proofs.YtbcckpnngonoeaaGreatDoor
open Go.RowKit Mem Utf Ref3 Tok
set_option linter.unusedVariables false

theorem wk_parse : parseS (wrong [47, 97, 126, 49, 98, 47, 48]) [47, 97, 126, 49, 98, 47, 48] = .ok [[97, 47, 98], [48]] := by kernel_rfl
theorem wk_print : printR wrong [[97, 47, 98], [48]] = .ok [47, 97, 126, 49, 98, 47, 48] := by kernel_rfl

end Go.Proofs.YtbcckpnngonoeaaGreatDoor
namespace Go.Proofs.YtbcckpnngonoeaaGreatDoor
open Go.RowKit Mem Utf Ref3 Tok Idx
set_option linter.unusedVariables false

/-- the library's variables that Atoi and Itoa read -/
def Tab (w : World) : Prop := Lib.TabIs Tryz.prog w "internal/strconv.uint64pow10" .u64 Lib.pow10Tab ∧
  (∃ t p, w.var? Tryz.prog "strconv.ErrSyntax" = some #[.iface t p]) ∧ ∃ t p, w.var? Tryz.prog "strconv.ErrRange" = some #[.iface t p]
theorem gPow : Tryz.prog.globalNamed "internal/strconv.uint64pow10" = some 2 := by kernel_rfl
/-- what Atoi answers -/
def AtoiP (l : List UInt8) (w : World) (e : Ending) (w' : World) : Prop := Below w.heap.size w w' ∧ (∀ v, Lib.atoiAll l = .ok v → e = .returned (.tuple #[.int .i64 v, .nilIface])) ∧
  ((∀ v, Lib.atoiAll l ≠ .ok v) → ∃ n T x, e = .returned (.tuple #[.int .i64 n, .iface T x]))
theorem itoa_any (n : Int) (h0 : -9223372036854775808 ≤ n) (h1 : n ≤ 9223372036854775807) (w : World) (hg : Tab w) :
    Calls Tryz.prog 128 #[.int .i64 n] w fun e w' => e = .returned (.string ⟨(Lib.itoa n).toArray⟩) ∧ Below w.heap.size w w' :=
  (Tryz.strconv_Itoa n h0 h1 w hg.1).mono fun e w' ⟨he, k, os, hw⟩ => ⟨he, by rw [hw]; exact Lib.below_grow _ _ (Nat.le_refl _) _ _⟩

/-- what Index answers -/
def idxV (o : Option Int) : Value := match o with | none => .tuple #[.int .i64 0, .bool false] | some v => .tuple #[.int .i64 v, .bool true]
end Go.Proofs.YtbcckpnngonoeaaGreatDoor
