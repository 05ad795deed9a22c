/-
  Plain law of layer 25: the bounds of what an object claims; what Read comes to.
  Walk of package claims: Tree (printed by wip/gen_csc.py).
  Walk of the statements' own function same of layer 25.
-/
import Derived.Test.YtobaldkipnhlpaaGreatDoorS32
import Derived.Test.YtobaldkipnhlpaaGreatDoorS12
import Derived.Test.YtobaldkipnhlpaaGreatDoorS14
set_option linter.unusedVariables false
set_option linter.unusedSimpArgs false
set_option maxRecDepth 100000
set_option maxHeartbeats 16000000
namespace Go.Proofs.YtobaldkipnhlpaaGreatDoor
open Go.RowKit Mem Utf Ref3 Idx Tok TokC Cl
namespace Nd
def FitL (l : List Txt) : Prop := l.length ≤ 65536 ∧ ∀ t ∈ l, t.length ≤ 2097152
structure FitC (c : C) : Prop where
 about : c.about.length ≤ 2097152
 by_ : c.by_.length ≤ 2097152
 id_ : c.id_.length ≤ 2097152
 for_ : FitL c.for_
 may_ : FitL c.may_
theorem textK_fit {k : Nat} {t : Tr} {s : Txt} (hf : t.fit = true) (h : textK k t = .inr s) : s.length ≤ 2097152 := by
 cases t with
 | text u =>
  injection h with h
  subst h
  exact (fit_le hf).2.1
 | _ => cases h
theorem textsOf_fit : ∀ (l : List Tr) (i : Nat) (ts : List Txt), textsOf l i = .inr ts → ts.length = l.length ∧ ∀ s ∈ ts, s.length ≤ bytesL l
 | [], _, ts, h => by
  injection h with h
  subst h
  exact ⟨rfl, fun _ h => by cases h⟩
 | t :: r, i, ts, h => by
  cases t with
  | text s =>
   rw [textsOf] at h
   cases hr : textsOf r (i + 1) with
   | inl j =>
    rw [hr] at h
    cases h
   | inr l =>
    rw [hr] at h
    injection h with h
    subst h
    obtain ⟨h1, h2⟩ := textsOf_fit r (i + 1) l hr
    have hb : bytesL (.text s :: r) = s.length + bytesL r := rfl
    refine ⟨by rw [List.length_cons, List.length_cons, h1], fun x hx => ?_⟩
    rcases List.mem_cons.mp hx with rfl | hx
    ·omega
    ·have := h2 x hx
     omega
  | _ => cases h
theorem listK_fit {k : Nat} {al : Bool} {t : Tr} {ts : List Txt} (hf : t.fit = true) (h : listK k al t = .inr ts) : FitL ts := by
 cases t with
 | text s =>
  rw [listK] at h
  split at h
  ·injection h with h
   subst h
   refine ⟨by simp, fun x hx => ?_⟩
   rcases List.mem_cons.mp hx with rfl | hx
   ·exact (fit_le hf).2.1
   ·cases hx
  ·cases h
 | list l =>
  rw [listK] at h
  cases hx : textsOf l 0 with
  | inl j =>
   rw [hx] at h
   cases h
  | inr us =>
   rw [hx] at h
   dsimp only at h
   cases hw : twiceAt [] us 0 with
   | some i =>
    rw [hw] at h
    cases h
   | none =>
    rw [hw] at h
    injection h with h
    subst h
    obtain ⟨h1, h2⟩ := textsOf_fit l 0 us hx
    have hb := (fit_le hf).2.1
    have hk : l.length ≤ 65536 := kids_le hf
    have hb' : bytesL l ≤ 2097152 := hb
    exact ⟨by omega, fun s hs => Nat.le_trans (h2 s hs) hb'⟩
 | _ => cases h
theorem setK_fit {c d : C} {k : Nat} {t : Tr} (hk : k < 8) (hc : FitC c) (hf : t.fit = true) (h : setK c k t = .inr d) : FitC d := by
 rcases below8 hk with rfl | rfl | rfl | rfl | rfl | rfl | rfl | rfl
 ·rw [setK_0] at h
  cases hx : textK 0 t with
  | inl e => rw [hx] at h; cases h
  | inr s => rw [hx] at h; injection h with h; subst h; exact ⟨textK_fit hf hx, hc.by_, hc.id_, hc.for_, hc.may_⟩
 ·rw [setK_1] at h
  cases hx : timeK 1 t with
  | inl e => rw [hx] at h; cases h
  | inr s => rw [hx] at h; injection h with h; subst h; exact ⟨hc.about, hc.by_, hc.id_, hc.for_, hc.may_⟩
 ·rw [setK_2] at h
  cases hx : textK 2 t with
  | inl e => rw [hx] at h; cases h
  | inr s => rw [hx] at h; injection h with h; subst h; exact ⟨hc.about, textK_fit hf hx, hc.id_, hc.for_, hc.may_⟩
 ·rw [setK_3] at h
  cases hx : listK 3 true t with
  | inl e => rw [hx] at h; cases h
  | inr s => rw [hx] at h; injection h with h; subst h; exact ⟨hc.about, hc.by_, hc.id_, listK_fit hf hx, hc.may_⟩
 ·rw [setK_4] at h
  cases hx : timeK 4 t with
  | inl e => rw [hx] at h; cases h
  | inr s => rw [hx] at h; injection h with h; subst h; exact ⟨hc.about, hc.by_, hc.id_, hc.for_, hc.may_⟩
 ·rw [setK_5] at h
  cases hx : textK 5 t with
  | inl e => rw [hx] at h; cases h
  | inr s => rw [hx] at h; injection h with h; subst h; exact ⟨hc.about, hc.by_, textK_fit hf hx, hc.for_, hc.may_⟩
 ·rw [setK_6] at h
  cases hx : listK 6 false t with
  | inl e => rw [hx] at h; cases h
  | inr s => rw [hx] at h; injection h with h; subst h; exact ⟨hc.about, hc.by_, hc.id_, hc.for_, listK_fit hf hx⟩
 ·rw [setK_7] at h
  cases hx : timeK 7 t with
  | inl e => rw [hx] at h; cases h
  | inr s => rw [hx] at h; injection h with h; subst h; exact ⟨hc.about, hc.by_, hc.id_, hc.for_, hc.may_⟩
theorem readAt_fit {t : Tr} (ho : t.Ok) : ∀ k, k ≤ 8 → FitC (readAt t k).1
 | 0, _ => ⟨Nat.zero_le _, Nat.zero_le _, Nat.zero_le _, ⟨Nat.zero_le _, fun _ h => by cases h⟩, ⟨Nat.zero_le _, fun _ h => by cases h⟩⟩
 | k + 1, hk => by
  have ih := readAt_fit ho k (by omega)
  have iw : FitC (withHas (readAt t k).1 k) := ⟨ih.about, ih.by_, ih.id_, ih.for_, ih.may_⟩
  cases hn : onT (key k) t with
  | none => rw [readAt_none hn]; exact ih
  | some u =>
   cases hs : setK (withHas (readAt t k).1 k) k u with
   | inl e => rw [readAt_err hn hs]; exact iw
   | inr d => rw [readAt_ok hn hs]; exact setK_fit (by omega) iw (onT_ok ho hn).2 hs
theorem own_cap {B n : Nat} {w : World} {e : TypeId} {v : Value} {xs : List Value} (h : w.ownsRow B e 1 v n xs) : ∀ A q, v = .slice A n q → n ≤ q ∧ q ≤ 9223372036854775807 := by
 intro A q hv
 rcases h.2 with ⟨e, h0⟩ | ⟨g, cap, cur, e, _, _, hle, hmax, _⟩
 ·rw [e] at hv
  injection hv with _ h1 h2
  omega
 ·rw [e] at hv
  injection hv with _ h1 h2
  have : maxLen = 9223372036854775807 := by unfold maxLen; rfl
  omega
theorem clAt_own {B : Nat} {w : World} {c : C} {v0 v4 v7 : Value} (h0 : OwnT B w v0 c.has) (h4 : OwnT B w v4 c.for_) (h7 : OwnT B w v7 c.may_) (hf : FitC c) (hn : c.has.length ≤ 8) : ClAt w c v0 v4 v7 :=
 ⟨Rd.of_own h0, Rd.of_own h4, Rd.of_own h7, by omega, by have := hf.for_.1; omega, by have := hf.may_.1; omega, by have := hf.about; omega, by have := hf.by_; omega, by have := hf.id_; omega,
  fun t ht => by have := hf.for_.2 t ht; omega, fun t ht => by have := hf.may_.2 t ht; omega, own_cap h4, own_cap h7⟩
/-! ### what Read comes to -/
def TreO (w0 : World) (o : Option Tr) (tp : Value) : Prop :=
 (o = none ∧ tp = .pointer none) ∨ ∃ t g v, o = some t ∧ tp = .pointer (some ⟨g, 0, none⟩) ∧ Blk w0 g 87 #[v] ∧ RdA w0 t v ∧ t.Ok ∧ t.fit = true
def readO : Option Tr → Option C
 | none => none
 | some t => if (t.srt : Int) = 6 ∧ (readC t).2 = [] then some (readC t).1 else none
def ErrO (o : Option Tr) (B : Nat) (w : World) (er : Value) : Prop :=
 match o with
 | none => er = .iface 49 (.int .i64 1)
 | some t => if (t.srt : Int) = 6 then ∃ va, er = .iface 98 va ∧ OwnE B w va (readC t).2 else er = tlV (5, [])
theorem ErrO.iface {o : Option Tr} {B : Nat} {w : World} {er : Value} (h : ErrO o B w er) : ∃ T u, er = .iface T u := by
 unfold ErrO at h
 cases o with
 | none => exact ⟨_, _, h⟩
 | some t =>
  dsimp only at h
  split at h
  ·obtain ⟨va, h, _⟩ := h
   exact ⟨_, _, h⟩
  ·exact ⟨_, _, h⟩
theorem ErrO.below {o : Option Tr} {B : Nat} {w w' : World} {er : Value} (h : ErrO o B w er) (hb : Below w.heap.size w w') : ErrO o B w' er := by
 unfold ErrO at h ⊢
 cases o with
 | none => exact h
 | some t =>
  dsimp only at h ⊢
  split at h
  ·rename_i hs
   rw [if_pos hs]
   obtain ⟨va, h, ho⟩ := h
   exact ⟨va, h, own_below ho hb⟩
  ·rename_i hs
   rw [if_neg hs]
   exact h
def ReadE (o : Option Tr) (w : World) (e : Ending) (w' : World) : Prop :=
 (∃ c v0 v4 v7 er, e = .returned (.tuple #[.agg (clCells c v0 v4 v7), er]) ∧ ClAt w' c v0 v4 v7 ∧ OwnT w.heap.size w' v0 c.has ∧ OwnT w.heap.size w' v4 c.for_ ∧ OwnT w.heap.size w' v7 c.may_ ∧
  (er = .nilIface ∧ readO o = some c ∨ readO o = none ∧ c = cZero ∧ ErrO o w.heap.size w' er)) ∧ Below w.heap.size w w'
theorem own_nil (B : Nat) (w : World) : OwnT B w (.slice none 0 0) [] := World.ownsRow_nil _ _ _ _
theorem fit_zero : FitC cZero := ⟨Nat.zero_le _, Nat.zero_le _, Nat.zero_le _, ⟨Nat.zero_le _, fun _ h => by cases h⟩, ⟨Nat.zero_le _, fun _ h => by cases h⟩⟩
theorem readE_zero {o : Option Tr} {w w' : World} {er : Value} (hr : readO o = none) (he : ErrO o w.heap.size w' er) (hb : Below w.heap.size w w') : ReadE o w (.returned (.tuple #[.agg zClaims, er])) w' :=
 ⟨⟨cZero, .slice none 0 0, .slice none 0 0, .slice none 0 0, er, rfl, clAt_own (own_nil w.heap.size w') (own_nil _ _) (own_nil _ _) fit_zero (Nat.zero_le _), own_nil _ _, own_nil _ _, own_nil _ _, .inr ⟨hr, rfl, he⟩⟩, hb⟩
theorem srt6 {t : Tr} (h : (t.srt : Int) = 6) : ∃ ks l, t = .obj ks l := by
 cases t with
 | obj ks l => exact ⟨ks, l, rfl⟩
 | _ => simp [Tr.srt] at h
theorem readO_any (o : Option Tr) (tp : Value) (w0 w : World) (hT : TreO w0 o tp) (hb0 : Below w0.heap.size w0 w) (hA : TabP w) : Calls Tryz.prog 6 #[tp] w (ReadE o w) := by
 rcases hT with ⟨rfl, rfl⟩ | ⟨t, g, v, rfl, rfl, hB, hR, ho, hf⟩
 ·refine (readt_nil w).mono ?_
  rintro e w' ⟨rfl, hb⟩
  exact readE_zero rfl rfl hb
 ·by_cases hs : (t.srt : Int) = 6
  ·obtain ⟨ks, l, rfl⟩ := srt6 hs
   refine (readt_obj g ks l v w0 w hB hR hb0 ho hf hA).mono ?_
   rintro e w' ⟨hp, hb⟩
   by_cases he : (readC (.obj ks l)).2 = []
   ·rw [if_pos he] at hp
    obtain ⟨v0, v4, v7, rfl, h0, h4, h7⟩ := hp
    exact ⟨⟨_, v0, v4, v7, .nilIface, rfl, clAt_own h0 h4 h7 (readAt_fit ho 8 (Nat.le_refl _)) (readAt_len _ 8 (Nat.le_refl _)).1, h0, h4, h7, .inl ⟨rfl, by unfold readO; dsimp only; rw [if_pos ⟨hs, he⟩]⟩⟩, hb⟩
   ·rw [if_neg he] at hp
    obtain ⟨va, rfl, hE⟩ := hp
    exact readE_zero (by unfold readO; dsimp only; rw [if_neg fun h => he h.2]) (by unfold ErrO; dsimp only; rw [if_pos hs]; exact ⟨va, rfl, hE⟩) hb
  ·refine (readt_sort g t v w0 w hB hR hb0 hs).mono ?_
   rintro e w' ⟨rfl, hb⟩
   exact readE_zero (by unfold readO; dsimp only; rw [if_neg fun h => hs h.1]) (by unfold ErrO; dsimp only; rw [if_neg hs]) hb
end Nd
end Go.Proofs.YtobaldkipnhlpaaGreatDoor
namespace Go.Proofs.YtobaldkipnhlpaaGreatDoor
open Go.RowKit Mem Utf Ref3 Idx Tok TokC Cl
namespace Nd
def TreeP (o : Option Tr) (r : R) (w : World) (e : Ending) (w' : World) : Prop :=
 (∃ v, e = .returned v ∧ (o = none ∧ v = .iface 44 (.pointer none) ∨ (∃ c, readO o = some c ∧ VerdV w.heap.size w' v (judgeP c r)) ∨
  o ≠ none ∧ readO o = none ∧ ∃ b er, w.heap.size ≤ b ∧ v = .iface 44 (.pointer (some ⟨b, 0, none⟩)) ∧ Blk w' b 52 #[er] ∧ ErrO o w.heap.size w' er)) ∧ Below w.heap.size w w'
theorem ErrO.base {o : Option Tr} {B B' : Nat} {w : World} {er : Value} (h : ErrO o B w er) (hB : B' ≤ B) : ErrO o B' w er := by
 unfold ErrO at h ⊢
 cases o with
 | none => exact h
 | some t =>
  dsimp only at h ⊢
  split at h
  ·rename_i hs
   rw [if_pos hs]
   obtain ⟨va, h, ho⟩ := h
   exact ⟨va, h, own_baseR ho hB⟩
  ·rename_i hs
   rw [if_neg hs]
   exact h
theorem tree_none (r : R) (u1 u2 u3 : Value) (w : World) : Calls Tryz.prog 7 #[.pointer none, .agg #[.int .i64 r.now, .int .i64 r.slack, .string ⟨r.who.toArray⟩, u1, u2, u3]] w (TreeP none r w) := by
 have hb : Below w.heap.size w (w.alloc (.cells #[.int .i64 r.now, .int .i64 r.slack, .string ⟨r.who.toArray⟩, u1, u2, u3] 25)) := (Below.refl _ _).alloc (Nat.le_refl _) _
 go_enter Tryz.func7, Tryz.ntmps7
 go_wp2
 exact bodyPost_ret (by simp [results, Tryz.results7, go_sem]) rfl ⟨⟨_, rfl, .inl ⟨rfl, rfl⟩⟩, hb⟩
theorem tree_some (t : Tr) (g : Nat) (r : R) (u1 u2 u3 : Value) (w : World) (hT : TreO w (some t) (.pointer (some ⟨g, 0, none⟩))) (hr : RuAt w r u1 u2 u3) (hA : TabP w) : Calls Tryz.prog 7 #[.pointer (some ⟨g, 0, none⟩), .agg #[.int .i64 r.now, .int .i64 r.slack, .string ⟨r.who.toArray⟩, u1, u2, u3]] w (TreeP (some t) r w) := by
 have hb : Below w.heap.size w (w.alloc (.cells #[.int .i64 r.now, .int .i64 r.slack, .string ⟨r.who.toArray⟩, u1, u2, u3] 25)) := (Below.refl _ _).alloc (Nat.le_refl _) _
 have HT := Lib.hid hT
 have HR := Lib.hid hr
 have HA := Lib.hid hA
 have HB := Lib.hid hb
 have HRB := Lib.hid (Blk.new w 25 #[.int .i64 r.now, .int .i64 r.slack, .string ⟨r.who.toArray⟩, u1, u2, u3])
 have q1 := err_ne_nil
 have q2 := err_ne_held
 clear hT hr hA hb
 go_enter Tryz.func7, Tryz.ntmps7
 go_wp2_with fail
 ((with_reducible refine (readO_any (some t) _ w _ HT.out HB.out (HA.out.next HB.out)).mono ?_); rintro e w2 ⟨⟨c, v0, v4, v7, er, rfl, hC, h0, h4, h7, hE⟩, hb2⟩)
 have HC := Lib.hid hC
 have HE := Lib.hid hE
 have HB2 := Lib.hid (HB.out.trans (hb2.mono HB.out.size))
 have HRB2 := Lib.hid (HRB.out.below hb2 HRB.out.lt)
 have hrl := HRB2.out.lt
 have c0 := HRB2.out.cell 0
 have c1 := HRB2.out.cell 1
 have c2 := HRB2.out.cell 2
 have c3 := HRB2.out.cell 3
 have c4 := HRB2.out.cell 4
 have c5 := HRB2.out.cell 5
 simp at c0 c1 c2 c3 c4 c5
 obtain ⟨B0, r0, hv0⟩ := own_sliceP h0
 subst hv0
 obtain ⟨B4, r4, hv4⟩ := own_sliceP h4
 subst hv4
 obtain ⟨B7, r7, hv7⟩ := own_sliceP h7
 subst hv7
 clear hC hE hb2 h0 h4 h7
 unfold clCells
 rcases HE.out with ⟨rfl, hro⟩ | ⟨hro, rfl, hE⟩
 ·have hb3 : Below w2.heap.size w2 (w2.alloc (.cells #[.slice B0 c.has.length r0, .string ⟨c.about.toArray⟩, .int .i64 c.at_, .string ⟨c.by_.toArray⟩, .slice B4 c.for_.length r4, .int .i64 c.from_, .string ⟨c.id_.toArray⟩, .slice B7 c.may_.length r7, .int .i64 c.until_] 38)) := (Below.refl _ _).alloc (Nat.le_refl _) _
  have HB3 := Lib.hid (HB2.out.trans (hb3.mono HB2.out.size))
  have HC3 := Lib.hid (HC.out.below hb3)
  have HR3 := Lib.hid (HR.out.below HB3.out)
  clear hb3
  go_wp2_with fail
  ((with_reducible refine (judge_any c r _ _ _ u1 u2 u3 _ HC3.out HR3.out).mono ?_); rintro e w4 ⟨v, rfl, hV, hb4⟩)
  go_wp2
  exact bodyPost_ret (by simp [results, Tryz.results7, go_sem]) rfl ⟨⟨v, rfl, .inr (.inl ⟨c, hro, hV.base HB3.out.size⟩)⟩, HB3.out.trans (hb4.mono HB3.out.size)⟩
 ·obtain ⟨T, u, rfl⟩ := hE.iface
  have hsz := HB2.out.size
  go_wp2
  have hb3 : ∀ cs ds, Below w2.heap.size w2 ((w2.alloc (.cells cs 38)).alloc (.cells ds 52)) := fun cs ds => ((Below.refl _ _).alloc (Nat.le_refl _) _).alloc (by simp) _
  refine bodyPost_ret (by simp [results, Tryz.results7, go_sem]) rfl ⟨⟨_, rfl, .inr (.inr ⟨by simp, hro, w2.heap.size + 1, .iface T u, by omega, rfl, ?_, (hE.base HB.out.size).below (hb3 _ _)⟩)⟩, HB2.out.trans ((hb3 _ _).mono hsz)⟩
  have := Blk.new (w2.alloc (.cells #[.slice B0 cZero.has.length r0, .string ⟨cZero.about.toArray⟩, .int .i64 cZero.at_, .string ⟨cZero.by_.toArray⟩, .slice B4 cZero.for_.length r4, .int .i64 cZero.from_, .string ⟨cZero.id_.toArray⟩, .slice B7 cZero.may_.length r7, .int .i64 cZero.until_] 38)) 52 #[.iface T u]
  rwa [World.size_alloc] at this
end Nd
end Go.Proofs.YtobaldkipnhlpaaGreatDoor
namespace Go.Proofs.YtobaldkipnhlpaaGreatDoor
open Go.RowKit Mem Utf Ref3 Idx Tok TokC Cl
namespace Nd
def TrueC (w : World) (e : Ending) (w' : World) : Prop := e = .returned (.bool true) ∧ Below w.heap.size w w'
theorem same25_any (c : C) (v0 v4 v7 u0 u4 u7 : Value) (w : World) (h1 : ClAt w c v0 v4 v7) (h2 : ClAt w c u0 u4 u7) :
  Calls Tryz.prog 9 #[.agg #[v0, .string ⟨c.about.toArray⟩, .int .i64 c.at_, .string ⟨c.by_.toArray⟩, v4, .int .i64 c.from_, .string ⟨c.id_.toArray⟩, v7, .int .i64 c.until_], .agg #[u0, .string ⟨c.about.toArray⟩, .int .i64 c.at_, .string ⟨c.by_.toArray⟩, u4, .int .i64 c.from_, .string ⟨c.id_.toArray⟩, u7, .int .i64 c.until_]] w (TrueC w) := by
 have hba : Below w.heap.size w ((w.alloc (.cells #[v0, .string ⟨c.about.toArray⟩, .int .i64 c.at_, .string ⟨c.by_.toArray⟩, v4, .int .i64 c.from_, .string ⟨c.id_.toArray⟩, v7, .int .i64 c.until_] 38)).alloc (.cells #[u0, .string ⟨c.about.toArray⟩, .int .i64 c.at_, .string ⟨c.by_.toArray⟩, u4, .int .i64 c.from_, .string ⟨c.id_.toArray⟩, u7, .int .i64 c.until_] 38)) := ((Below.refl _ _).alloc (Nat.le_refl _) _).alloc (by simp) _
 have hb1 : Blk ((w.alloc (.cells #[v0, .string ⟨c.about.toArray⟩, .int .i64 c.at_, .string ⟨c.by_.toArray⟩, v4, .int .i64 c.from_, .string ⟨c.id_.toArray⟩, v7, .int .i64 c.until_] 38)).alloc (.cells #[u0, .string ⟨c.about.toArray⟩, .int .i64 c.at_, .string ⟨c.by_.toArray⟩, u4, .int .i64 c.from_, .string ⟨c.id_.toArray⟩, u7, .int .i64 c.until_] 38)) w.heap.size 38 #[v0, .string ⟨c.about.toArray⟩, .int .i64 c.at_, .string ⟨c.by_.toArray⟩, v4, .int .i64 c.from_, .string ⟨c.id_.toArray⟩, v7, .int .i64 c.until_] := (Blk.new w 38 #[v0, .string ⟨c.about.toArray⟩, .int .i64 c.at_, .string ⟨c.by_.toArray⟩, v4, .int .i64 c.from_, .string ⟨c.id_.toArray⟩, v7, .int .i64 c.until_]).alloc _
 have hb2 : Blk ((w.alloc (.cells #[v0, .string ⟨c.about.toArray⟩, .int .i64 c.at_, .string ⟨c.by_.toArray⟩, v4, .int .i64 c.from_, .string ⟨c.id_.toArray⟩, v7, .int .i64 c.until_] 38)).alloc (.cells #[u0, .string ⟨c.about.toArray⟩, .int .i64 c.at_, .string ⟨c.by_.toArray⟩, u4, .int .i64 c.from_, .string ⟨c.id_.toArray⟩, u7, .int .i64 c.until_] 38)) (w.heap.size + 1) 38 #[u0, .string ⟨c.about.toArray⟩, .int .i64 c.at_, .string ⟨c.by_.toArray⟩, u4, .int .i64 c.from_, .string ⟨c.id_.toArray⟩, u7, .int .i64 c.until_] := by
  have := Blk.new (w.alloc (.cells #[v0, .string ⟨c.about.toArray⟩, .int .i64 c.at_, .string ⟨c.by_.toArray⟩, v4, .int .i64 c.from_, .string ⟨c.id_.toArray⟩, v7, .int .i64 c.until_] 38)) 38 #[u0, .string ⟨c.about.toArray⟩, .int .i64 c.at_, .string ⟨c.by_.toArray⟩, u4, .int .i64 c.from_, .string ⟨c.id_.toArray⟩, u7, .int .i64 c.until_]
  rwa [World.size_alloc] at this
 have H1 := Lib.hid (h1.below hba)
 have H2 := Lib.hid (h2.below hba)
 have HB := Lib.hid hba
 have HX := Lib.hid hb1
 have HY := Lib.hid hb2
 have hN := Lib.hid (show c.has.length ≤ 140737488355328 ∧ c.for_.length ≤ 140737488355328 ∧ c.may_.length ≤ 140737488355328 from ⟨by have := h1.nhas; omega, by have := h1.nfor; omega, by have := h1.nmay; omega⟩)
 have e1 : (c.at_ == c.at_) = true := by simp
 have e2 : (c.from_ == c.from_) = true := by simp
 have e3 : (c.until_ == c.until_) = true := by simp
 have e4 : (c.about == c.about) = true := by simp
 have e5 : (c.by_ == c.by_) = true := by simp
 have e6 : (c.id_ == c.id_) = true := by simp
 clear h1 h2 hba hb1 hb2
 go_enter Tryz.func9, Tryz.ntmps9
 go_wp2_with fail
 generalize ((w.alloc (.cells #[v0, .string ⟨c.about.toArray⟩, .int .i64 c.at_, .string ⟨c.by_.toArray⟩, v4, .int .i64 c.from_, .string ⟨c.id_.toArray⟩, v7, .int .i64 c.until_] 38)).alloc (.cells #[u0, .string ⟨c.about.toArray⟩, .int .i64 c.at_, .string ⟨c.by_.toArray⟩, u4, .int .i64 c.from_, .string ⟨c.id_.toArray⟩, u7, .int .i64 c.until_] 38)) = w1 at *
 ((with_reducible refine (texts25_any v0 u0 c.has c.has w1 H1.out.has H2.out.has hN.out.1 hN.out.1).mono ?_); rintro e w2 ⟨rfl, hb⟩)
 rw [show decide (c.has = c.has) = true from decide_eq_true rfl]
 replace H1 := Lib.hid (H1.out.below hb)
 replace H2 := Lib.hid (H2.out.below hb)
 replace HX := Lib.hid (HX.out.below hb HX.out.lt)
 replace HY := Lib.hid (HY.out.below hb HY.out.lt)
 replace HB := Lib.hid (HB.out.trans (hb.mono HB.out.size))
 clear hb
 obtain ⟨c0, c1, c2, c3, c4, c5, c6, c7, c8⟩ := C9 HX.out
 obtain ⟨d0, d1, d2, d3, d4, d5, d6, d7, d8⟩ := C9 HY.out
 go_wp2_with fail
 clear c0 c1 c2 c3 c4 c5 c6 c7 c8 d0 d1 d2 d3 d4 d5 d6 d7 d8
 ((with_reducible refine (texts25_any v4 u4 c.for_ c.for_ w2 H1.out.for_ H2.out.for_ hN.out.2.1 hN.out.2.1).mono ?_); rintro e w3 ⟨rfl, hb⟩)
 rw [show decide (c.for_ = c.for_) = true from decide_eq_true rfl]
 replace H1 := Lib.hid (H1.out.below hb)
 replace H2 := Lib.hid (H2.out.below hb)
 replace HX := Lib.hid (HX.out.below hb HX.out.lt)
 replace HY := Lib.hid (HY.out.below hb HY.out.lt)
 replace HB := Lib.hid (HB.out.trans (hb.mono HB.out.size))
 clear hb
 obtain ⟨c0, c1, c2, c3, c4, c5, c6, c7, c8⟩ := C9 HX.out
 obtain ⟨d0, d1, d2, d3, d4, d5, d6, d7, d8⟩ := C9 HY.out
 go_wp2_with fail
 clear c0 c1 c2 c3 c4 c5 c6 c7 c8 d0 d1 d2 d3 d4 d5 d6 d7 d8
 ((with_reducible refine (texts25_any v7 u7 c.may_ c.may_ w3 H1.out.may H2.out.may hN.out.2.2 hN.out.2.2).mono ?_); rintro e w4 ⟨rfl, hb⟩)
 rw [show decide (c.may_ = c.may_) = true from decide_eq_true rfl]
 replace H1 := Lib.hid (H1.out.below hb)
 replace H2 := Lib.hid (H2.out.below hb)
 replace HX := Lib.hid (HX.out.below hb HX.out.lt)
 replace HY := Lib.hid (HY.out.below hb HY.out.lt)
 replace HB := Lib.hid (HB.out.trans (hb.mono HB.out.size))
 clear hb
 obtain ⟨c0, c1, c2, c3, c4, c5, c6, c7, c8⟩ := C9 HX.out
 obtain ⟨d0, d1, d2, d3, d4, d5, d6, d7, d8⟩ := C9 HY.out
 go_wp2
 go_ret
 exact ⟨rfl, HB.out⟩
theorem zero_at (w : World) : ClAt w cZero (.slice none 0 0) (.slice none 0 0) (.slice none 0 0) := clAt_own (own_nil w.heap.size w) (own_nil w.heap.size w) (own_nil w.heap.size w) fit_zero (Nat.zero_le _)
theorem same25_zero {d : C} (hd : d = cZero) (y0 y4 y7 : Value) (w : World) (h : ClAt w d y0 y4 y7) :
  Calls Tryz.prog 9 #[.agg #[y0, .string ⟨d.about.toArray⟩, .int .i64 d.at_, .string ⟨d.by_.toArray⟩, y4, .int .i64 d.from_, .string ⟨d.id_.toArray⟩, y7, .int .i64 d.until_], .agg #[.slice none 0 0, .string ⟨#[]⟩, .int .i64 0, .string ⟨#[]⟩, .slice none 0 0, .int .i64 0, .string ⟨#[]⟩, .slice none 0 0, .int .i64 0]] w (TrueC w) := by
 subst hd
 exact same25_any cZero y0 y4 y7 (.slice none 0 0) (.slice none 0 0) (.slice none 0 0) w h (zero_at w)
end Nd
end Go.Proofs.YtobaldkipnhlpaaGreatDoor
