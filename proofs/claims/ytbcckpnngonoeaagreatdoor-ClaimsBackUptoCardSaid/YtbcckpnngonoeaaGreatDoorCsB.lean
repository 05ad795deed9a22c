/-
  Plain law of layer 25: the bounds of what an object claims; what Read comes to.
-/
import Derived.Test.YtbcckpnngonoeaaGreatDoorCsA
import Derived.Test.YtbcckpnngonoeaaGreatDoorCvJ
namespace Go.Proofs.YtbcckpnngonoeaaGreatDoor
open Go.RowKit Mem Utf Ref3 Idx Tok TokC Cl
set_option linter.unusedVariables false
set_option linter.unusedSimpArgs false
namespace Nd
def FitL (l : List Txt) : Prop := l.length ≤ 65536 ∧ ∀ t ∈ l, t.length ≤ 2097152
structure FitC (c : C) : Prop where
  about : c.about.length ≤ 2097152
  by_ : c.by_.length ≤ 2097152
  id_ : c.id_.length ≤ 2097152
  for_ : FitL c.for_
  may_ : FitL c.may_
theorem textK_fit {k : Nat} {t : Tr} {s : Txt} (hf : t.fit = true) (h : textK k t = .inr s) : s.length ≤ 2097152 := by
  cases t with
  | text u =>
    injection h with h
    subst h
    exact (fit_le hf).2.1
  | _ => cases h
theorem textsOf_fit : ∀ (l : List Tr) (i : Nat) (ts : List Txt), textsOf l i = .inr ts → ts.length = l.length ∧ ∀ s ∈ ts, s.length ≤ bytesL l
  | [], _, ts, h => by
    injection h with h
    subst h
    exact ⟨rfl, fun _ h => by cases h⟩
  | t :: r, i, ts, h => by
    cases t with
    | text s =>
      rw [textsOf] at h
      cases hr : textsOf r (i + 1) with
      | inl j =>
        rw [hr] at h
        cases h
      | inr l =>
        rw [hr] at h
        injection h with h
        subst h
        obtain ⟨h1, h2⟩ := textsOf_fit r (i + 1) l hr
        have hb : bytesL (.text s :: r) = s.length + bytesL r := rfl
        refine ⟨by rw [List.length_cons, List.length_cons, h1], fun x hx => ?_⟩
        rcases List.mem_cons.mp hx with rfl | hx
        · omega
        · have := h2 x hx
          omega
    | _ => cases h
theorem listK_fit {k : Nat} {al : Bool} {t : Tr} {ts : List Txt} (hf : t.fit = true) (h : listK k al t = .inr ts) : FitL ts := by
  cases t with
  | text s =>
    rw [listK] at h
    split at h
    · injection h with h
      subst h
      refine ⟨by simp, fun x hx => ?_⟩
      rcases List.mem_cons.mp hx with rfl | hx
      · exact (fit_le hf).2.1
      · cases hx
    · cases h
  | list l =>
    rw [listK] at h
    cases hx : textsOf l 0 with
    | inl j =>
      rw [hx] at h
      cases h
    | inr us =>
      rw [hx] at h
      dsimp only at h
      cases hw : twiceAt [] us 0 with
      | some i =>
        rw [hw] at h
        cases h
      | none =>
        rw [hw] at h
        injection h with h
        subst h
        obtain ⟨h1, h2⟩ := textsOf_fit l 0 us hx
        have hb := (fit_le hf).2.1
        have hk : l.length ≤ 65536 := kids_le hf
        have hb' : bytesL l ≤ 2097152 := hb
        exact ⟨by omega, fun s hs => Nat.le_trans (h2 s hs) hb'⟩
  | _ => cases h
theorem setK_fit {c d : C} {k : Nat} {t : Tr} (hk : k < 8) (hc : FitC c) (hf : t.fit = true) (h : setK c k t = .inr d) : FitC d := by
  rcases below8 hk with rfl | rfl | rfl | rfl | rfl | rfl | rfl | rfl
  · rw [setK_0] at h
    cases hx : textK 0 t with
    | inl e => rw [hx] at h; cases h
    | inr s => rw [hx] at h; injection h with h; subst h; exact ⟨textK_fit hf hx, hc.by_, hc.id_, hc.for_, hc.may_⟩
  · rw [setK_1] at h
    cases hx : timeK 1 t with
    | inl e => rw [hx] at h; cases h
    | inr s => rw [hx] at h; injection h with h; subst h; exact ⟨hc.about, hc.by_, hc.id_, hc.for_, hc.may_⟩
  · rw [setK_2] at h
    cases hx : textK 2 t with
    | inl e => rw [hx] at h; cases h
    | inr s => rw [hx] at h; injection h with h; subst h; exact ⟨hc.about, textK_fit hf hx, hc.id_, hc.for_, hc.may_⟩
  · rw [setK_3] at h
    cases hx : listK 3 true t with
    | inl e => rw [hx] at h; cases h
    | inr s => rw [hx] at h; injection h with h; subst h; exact ⟨hc.about, hc.by_, hc.id_, listK_fit hf hx, hc.may_⟩
  · rw [setK_4] at h
    cases hx : timeK 4 t with
    | inl e => rw [hx] at h; cases h
    | inr s => rw [hx] at h; injection h with h; subst h; exact ⟨hc.about, hc.by_, hc.id_, hc.for_, hc.may_⟩
  · rw [setK_5] at h
    cases hx : textK 5 t with
    | inl e => rw [hx] at h; cases h
    | inr s => rw [hx] at h; injection h with h; subst h; exact ⟨hc.about, hc.by_, textK_fit hf hx, hc.for_, hc.may_⟩
  · rw [setK_6] at h
    cases hx : listK 6 false t with
    | inl e => rw [hx] at h; cases h
    | inr s => rw [hx] at h; injection h with h; subst h; exact ⟨hc.about, hc.by_, hc.id_, hc.for_, listK_fit hf hx⟩
  · rw [setK_7] at h
    cases hx : timeK 7 t with
    | inl e => rw [hx] at h; cases h
    | inr s => rw [hx] at h; injection h with h; subst h; exact ⟨hc.about, hc.by_, hc.id_, hc.for_, hc.may_⟩
theorem readAt_fit {t : Tr} (ho : t.Ok) : ∀ k, k ≤ 8 → FitC (readAt t k).1
  | 0, _ => ⟨Nat.zero_le _, Nat.zero_le _, Nat.zero_le _, ⟨Nat.zero_le _, fun _ h => by cases h⟩, ⟨Nat.zero_le _, fun _ h => by cases h⟩⟩
  | k + 1, hk => by
    have ih := readAt_fit ho k (by omega)
    have iw : FitC (withHas (readAt t k).1 k) := ⟨ih.about, ih.by_, ih.id_, ih.for_, ih.may_⟩
    cases hn : onT (key k) t with
    | none => rw [readAt_none hn]; exact ih
    | some u =>
      cases hs : setK (withHas (readAt t k).1 k) k u with
      | inl e => rw [readAt_err hn hs]; exact iw
      | inr d => rw [readAt_ok hn hs]; exact setK_fit (by omega) iw (onT_ok ho hn).2 hs
theorem own_cap {B n : Nat} {w : World} {e : TypeId} {v : Value} {xs : List Value} (h : w.ownsRow B e 1 v n xs) : ∀ A q, v = .slice A n q → n ≤ q ∧ q ≤ 9223372036854775807 := by
  intro A q hv
  rcases h.2 with ⟨e, h0⟩ | ⟨g, cap, cur, e, _, _, hle, hmax, _⟩
  · rw [e] at hv
    injection hv with _ h1 h2
    omega
  · rw [e] at hv
    injection hv with _ h1 h2
    have : maxLen = 9223372036854775807 := by unfold maxLen; rfl
    omega
theorem clAt_own {B : Nat} {w : World} {c : C} {v0 v4 v7 : Value} (h0 : OwnT B w v0 c.has) (h4 : OwnT B w v4 c.for_) (h7 : OwnT B w v7 c.may_) (hf : FitC c) (hn : c.has.length ≤ 8) : ClAt w c v0 v4 v7 :=
  ⟨Rd.of_own h0, Rd.of_own h4, Rd.of_own h7, by omega, by have := hf.for_.1; omega, by have := hf.may_.1; omega, by have := hf.about; omega, by have := hf.by_; omega, by have := hf.id_; omega,
    fun t ht => by have := hf.for_.2 t ht; omega, fun t ht => by have := hf.may_.2 t ht; omega, own_cap h4, own_cap h7⟩
/-! ### what Read comes to -/
/-- a tree, or none -/
def TreO (w0 : World) (o : Option Tr) (tp : Value) : Prop :=
  (o = none ∧ tp = .pointer none) ∨ ∃ t g v, o = some t ∧ tp = .pointer (some ⟨g, 0, none⟩) ∧ Blk w0 g 108 #[v] ∧ RdA w0 t v ∧ t.Ok ∧ t.fit = true
def readO : Option Tr → Option C
  | none => none
  | some t => if (t.srt : Int) = 6 ∧ (readC t).2 = [] then some (readC t).1 else none
/-- the error that Read tells -/
def ErrO (o : Option Tr) (B : Nat) (w : World) (er : Value) : Prop :=
  match o with
  | none => er = .iface 46 (.int .i64 1)
  | some t => if (t.srt : Int) = 6 then ∃ va, er = .iface 145 va ∧ OwnE B w va (readC t).2 else er = tlV (5, [])
theorem ErrO.iface {o : Option Tr} {B : Nat} {w : World} {er : Value} (h : ErrO o B w er) : ∃ T u, er = .iface T u := by
  unfold ErrO at h
  cases o with
  | none => exact ⟨_, _, h⟩
  | some t =>
    dsimp only at h
    split at h
    · obtain ⟨va, h, _⟩ := h
      exact ⟨_, _, h⟩
    · exact ⟨_, _, h⟩
theorem ErrO.below {o : Option Tr} {B : Nat} {w w' : World} {er : Value} (h : ErrO o B w er) (hb : Below w.heap.size w w') : ErrO o B w' er := by
  unfold ErrO at h ⊢
  cases o with
  | none => exact h
  | some t =>
    dsimp only at h ⊢
    split at h
    · rename_i hs
      rw [if_pos hs]
      obtain ⟨va, h, ho⟩ := h
      exact ⟨va, h, own_below ho hb⟩
    · rename_i hs
      rw [if_neg hs]
      exact h
def ReadE (o : Option Tr) (w : World) (e : Ending) (w' : World) : Prop :=
  (∃ c v0 v4 v7 er, e = .returned (.tuple #[.agg (clCells c v0 v4 v7), er]) ∧ ClAt w' c v0 v4 v7 ∧ OwnT w.heap.size w' v0 c.has ∧ OwnT w.heap.size w' v4 c.for_ ∧ OwnT w.heap.size w' v7 c.may_ ∧
    (er = .nilIface ∧ readO o = some c ∨ readO o = none ∧ c = cZero ∧ ErrO o w.heap.size w' er)) ∧ Below w.heap.size w w'
theorem own_nil (B : Nat) (w : World) : OwnT B w (.slice none 0 0) [] := World.ownsRow_nil _ _ _ _
theorem fit_zero : FitC cZero := ⟨Nat.zero_le _, Nat.zero_le _, Nat.zero_le _, ⟨Nat.zero_le _, fun _ h => by cases h⟩, ⟨Nat.zero_le _, fun _ h => by cases h⟩⟩
theorem readE_zero {o : Option Tr} {w w' : World} {er : Value} (hr : readO o = none) (he : ErrO o w.heap.size w' er) (hb : Below w.heap.size w w') : ReadE o w (.returned (.tuple #[.agg zClaims, er])) w' :=
  ⟨⟨cZero, .slice none 0 0, .slice none 0 0, .slice none 0 0, er, rfl, clAt_own (own_nil w.heap.size w') (own_nil _ _) (own_nil _ _) fit_zero (Nat.zero_le _), own_nil _ _, own_nil _ _, own_nil _ _, .inr ⟨hr, rfl, he⟩⟩, hb⟩
theorem srt6 {t : Tr} (h : (t.srt : Int) = 6) : ∃ ks l, t = .obj ks l := by
  cases t with
  | obj ks l => exact ⟨ks, l, rfl⟩
  | _ => simp [Tr.srt] at h
theorem readO_any (o : Option Tr) (tp : Value) (w0 w : World) (hT : TreO w0 o tp) (hb0 : Below w0.heap.size w0 w) (hA : TabP w) : Calls Tryz.prog 13 #[tp] w (ReadE o w) := by
  rcases hT with ⟨rfl, rfl⟩ | ⟨t, g, v, rfl, rfl, hB, hR, ho, hf⟩
  · refine (readt_nil w).mono ?_
    rintro e w' ⟨rfl, hb⟩
    exact readE_zero rfl rfl hb
  · by_cases hs : (t.srt : Int) = 6
    · obtain ⟨ks, l, rfl⟩ := srt6 hs
      refine (readt_obj g ks l v w0 w hB hR hb0 ho hf hA).mono ?_
      rintro e w' ⟨hp, hb⟩
      by_cases he : (readC (.obj ks l)).2 = []
      · rw [if_pos he] at hp
        obtain ⟨v0, v4, v7, rfl, h0, h4, h7⟩ := hp
        exact ⟨⟨_, v0, v4, v7, .nilIface, rfl, clAt_own h0 h4 h7 (readAt_fit ho 8 (Nat.le_refl _)) (readAt_len _ 8 (Nat.le_refl _)).1, h0, h4, h7, .inl ⟨rfl, by unfold readO; dsimp only; rw [if_pos ⟨hs, he⟩]⟩⟩, hb⟩
      · rw [if_neg he] at hp
        obtain ⟨va, rfl, hE⟩ := hp
        exact readE_zero (by unfold readO; dsimp only; rw [if_neg fun h => he h.2]) (by unfold ErrO; dsimp only; rw [if_pos hs]; exact ⟨va, rfl, hE⟩) hb
    · refine (readt_sort g t v w0 w hB hR hb0 hs).mono ?_
      rintro e w' ⟨rfl, hb⟩
      exact readE_zero (by unfold readO; dsimp only; rw [if_neg fun h => hs h.1]) (by unfold ErrO; dsimp only; rw [if_neg hs]) hb
end Nd
end Go.Proofs.YtbcckpnngonoeaaGreatDoor

