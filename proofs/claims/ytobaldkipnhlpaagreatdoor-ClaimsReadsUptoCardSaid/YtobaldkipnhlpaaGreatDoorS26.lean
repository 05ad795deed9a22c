/-
  How one claim is read, into what was read.
  The reference's claims of layer 25, as cells.
-/
import Derived.Test.YtobaldkipnhlpaaGreatDoorS25
import Derived.Test.YtobaldkipnhlpaaGreatDoorS12
import Derived.Test.YtobaldkipnhlpaaGreatDoorS24
set_option linter.unusedVariables false
set_option linter.unusedSimpArgs false
set_option maxRecDepth 100000
set_option maxHeartbeats 16000000
namespace Go.Proofs.YtobaldkipnhlpaaGreatDoor
open Go.RowKit Mem Utf Ref3 Idx Tok TokC Cl
namespace Nd
def OwnT (B : Nat) (w : World) (u : Value) (l : List Txt) : Prop := w.ownsRow B 9 1 u l.length (l.map strV)
def SetP (gc k : Nat) (t : Tr) (c : C) (v0 v4 v7 : Value) (w : World) (e : Ending) (w' : World) : Prop :=
 match setK c k t with
 | .inl x => e = .returned (tlV x) ∧ Below w.heap.size w w'
 | .inr d => e = .returned .nilIface ∧ w.grownBy w' (some gc) ∧ ∃ u4 u7, Blk w' gc 38 (clCells d v0 u4 u7) ∧ (u4 = v4 ∧ d.for_ = c.for_ ∨ OwnT w.heap.size w' u4 d.for_) ∧ (u7 = v7 ∧ d.may_ = c.may_ ∨ OwnT w.heap.size w' u7 d.may_)
section
variable {gc k : Nat} {t : Tr} {c d : C} {v0 v4 v7 : Value} {w w' : World}
theorem setP_no {x : Trl} (h : setK c k t = .inl x) (hb : Below w.heap.size w w') : SetP gc k t c v0 v4 v7 w (.returned (tlV x)) w' := by
 unfold SetP
 rw [h]
 exact ⟨rfl, hb⟩
theorem setP_yes (h : setK c k t = .inr d) {u4 u7 : Value} (hg : w.grownBy w' (some gc)) (hB : Blk w' gc 38 (clCells d v0 u4 u7)) (h4 : u4 = v4 ∧ d.for_ = c.for_ ∨ OwnT w.heap.size w' u4 d.for_) (h7 : u7 = v7 ∧ d.may_ = c.may_ ∨ OwnT w.heap.size w' u7 d.may_) : SetP gc k t c v0 v4 v7 w (.returned .nilIface) w' := by
 unfold SetP
 rw [h]
 exact ⟨rfl, hg, u4, u7, hB, h4, h7⟩
theorem setP_from {W : World} {e : Ending} (hb : Below w.heap.size w W) (h : SetP gc k t c v0 v4 v7 W e w') : SetP gc k t c v0 v4 v7 w e w' := by
 unfold SetP at h ⊢
 cases hs : setK c k t with
 | inl x =>
  rw [hs] at h
  exact ⟨h.1, hb.trans (h.2.mono hb.size)⟩
 | inr d =>
  rw [hs] at h
  obtain ⟨h1, h2, u4, u7, h3, h4, h5⟩ := h
  exact ⟨h1, grown_trans (grown_of_below hb _) h2, u4, u7, h3, h4.imp id (fun h => own_baseR h hb.size), h5.imp id (fun h => own_baseR h hb.size)⟩
theorem setP_keeps {e : Ending} (h : SetP gc k t c v0 v4 v7 w e w') : (∃ u, e = .returned u) ∧ ∀ (b : Nat) (x : Value), b ≠ gc → w.cell? ⟨b, 0, none⟩ = some x → w'.cell? ⟨b, 0, none⟩ = some x := by
 unfold SetP at h
 cases hs : setK c k t with
 | inl x =>
  rw [hs] at h
  exact ⟨⟨_, h.1⟩, fun b x hne hc => cell_keep hc h.2⟩
 | inr d =>
  rw [hs] at h
  obtain ⟨h1, h2, _⟩ := h
  exact ⟨⟨_, h1⟩, fun b x hne hc => h2.cell hc (by intro e; injection e with e; exact hne e)⟩
end
theorem tx_cases (t : Tr) : (∃ s, t = .text s) ∨ (t.isTx = false ∧ (∀ k, textK k t = .inl (5, path k))) := by
 cases t with
 | text s => exact .inl ⟨s, rfl⟩
 | null => exact .inr ⟨rfl, fun k => rfl⟩
 | flag b => exact .inr ⟨rfl, fun k => rfl⟩
 | num b => exact .inr ⟨rfl, fun k => rfl⟩
 | list b => exact .inr ⟨rfl, fun k => rfl⟩
 | obj a b => exact .inr ⟨rfl, fun k => rfl⟩
theorem nb_cases (t : Tr) : (∃ x, t = .num x) ∨ (t.isNb = false ∧ (∀ k, timeK k t = .inl (5, path k))) := by
 cases t with
 | num s => exact .inl ⟨s, rfl⟩
 | null => exact .inr ⟨rfl, fun k => rfl⟩
 | flag b => exact .inr ⟨rfl, fun k => rfl⟩
 | text b => exact .inr ⟨rfl, fun k => rfl⟩
 | list b => exact .inr ⟨rfl, fun k => rfl⟩
 | obj a b => exact .inr ⟨rfl, fun k => rfl⟩
theorem ls_cases (t : Tr) : (∃ l, t = .list l) ∨ (∃ s, t = .text s) ∨ (t.isTx = false ∧ ¬ (t.srt : Int) = 5 ∧ (∀ k a, listK k a t = .inl (5, path k))) := by
 cases t with
 | list l => exact .inl ⟨l, rfl⟩
 | text s => exact .inr (.inl ⟨s, rfl⟩)
 | null => exact .inr (.inr ⟨rfl, by simp [Tr.srt], fun k a => rfl⟩)
 | flag b => exact .inr (.inr ⟨rfl, by simp [Tr.srt], fun k a => rfl⟩)
 | num b => exact .inr (.inr ⟨rfl, by simp [Tr.srt], fun k a => rfl⟩)
 | obj a b => exact .inr (.inr ⟨rfl, by simp [Tr.srt], fun k a => rfl⟩)
theorem read_0 (c : C) (A0 : Option Addr) (n0 q0 : Nat) (v4 v7 : Value) (gc : Nat) (bf : Nat) (t : Tr) (v : Value) (w0 w : World) (hB : Blk w gc 38 (clCells c (.slice A0 n0 q0) v4 v7)) (hf : w.cell? ⟨bf, 0, none⟩ = some (fnV 0)) (h : RdA w0 t v) (hb0 : Below w0.heap.size w0 w) (ht : t.Ok) (hfit : t.fit = true) (hT : TabP w) (p : ByteArray) (hp : p = ⟨(path 0).toArray⟩) :
  Calls Tryz.prog 49 #[.pointer (some ⟨gc, 0, none⟩), .agg #[v], .string p, .pointer (some ⟨bf, 0, none⟩)] w (SetP gc 0 t c (.slice A0 n0 q0) v4 v7 w) := by
 subst hp
 have hx := ref_box w v
 have hxd : Below w.heap.size w (w.alloc (.cells #[v] 93)).drew := hx.trans ((drewN_below _ 1).mono hx.size)
 have hne : bf ≠ gc := by
  rintro rfl
  have := (hB.cell 0).symm.trans hf
  cases this
 have hbox : w.heap.size ≠ gc := by have := hB.lt; omega
 have cbox : (w.alloc (.cells #[v] 93)).drew.cell? ⟨w.heap.size, 0, none⟩ = some v := (Blk.new w 93 #[v]).cell 0
 have hBW : Blk (w.alloc (.cells #[v] 93)).drew gc 38 (clCells c (.slice A0 n0 q0) v4 v7) := (hB.alloc _).drew
 have hr := rda_below h (hb0.trans (hxd.mono hb0.size))
 have hTW := hT.next hxd
 have cf := cell_keep hf hxd
 refine ((rdc1_any (R := SetP gc 0 t c (.slice A0 n0 q0) v4 v7 (w.alloc (.cells #[v] 93)).drew) (fnK 0) gc bf 1 v ⟨(path 0).toArray⟩ w (fun b w => fld_any (k := 0) (by decide) b w) (fun a w => enter_any (k := 0) (by decide) a w) hf ?_ (fun e w' hr => ⟨(setP_keeps hr).1, (setP_keeps hr).2 _ _ hne cf, (setP_keeps hr).2 _ _ hbox cbox⟩)).mono fun e w' h => setP_from hxd h)
 generalize (w.alloc (.cells #[v] 93)).drew = W at *
 rcases tx_cases t with ⟨s, rfl⟩ | ⟨h1, h2⟩
 ·refine (ctext_ok v gc 1 _ _ (path 0) W s hr hBW (by show _ < 9; decide)).mono ?_
  rintro e w' ⟨rfl, hg, hB'⟩
  exact setP_yes (setK_0 c (.text s)) hg hB' (.inl ⟨rfl, rfl⟩) (.inl ⟨rfl, rfl⟩)
 ·refine (ctext_no v gc 1 _ _ (path 0) W t h1 hr hBW (by show _ < 9; decide)).mono ?_
  rintro e w' ⟨rfl, hb'⟩
  exact setP_no (by rw [setK_0, h2]) hb'
theorem read_1 (c : C) (A0 : Option Addr) (n0 q0 : Nat) (v4 v7 : Value) (gc : Nat) (bf : Nat) (t : Tr) (v : Value) (w0 w : World) (hB : Blk w gc 38 (clCells c (.slice A0 n0 q0) v4 v7)) (hf : w.cell? ⟨bf, 0, none⟩ = some (fnV 1)) (h : RdA w0 t v) (hb0 : Below w0.heap.size w0 w) (ht : t.Ok) (hfit : t.fit = true) (hT : TabP w) (p : ByteArray) (hp : p = ⟨(path 1).toArray⟩) :
  Calls Tryz.prog 52 #[.pointer (some ⟨gc, 0, none⟩), .agg #[v], .string p, .pointer (some ⟨bf, 0, none⟩)] w (SetP gc 1 t c (.slice A0 n0 q0) v4 v7 w) := by
 subst hp
 have hx := ref_box w v
 have hxd : Below w.heap.size w (w.alloc (.cells #[v] 93)).drew := hx.trans ((drewN_below _ 1).mono hx.size)
 have hne : bf ≠ gc := by
  rintro rfl
  have := (hB.cell 0).symm.trans hf
  cases this
 have hbox : w.heap.size ≠ gc := by have := hB.lt; omega
 have cbox : (w.alloc (.cells #[v] 93)).drew.cell? ⟨w.heap.size, 0, none⟩ = some v := (Blk.new w 93 #[v]).cell 0
 have hBW : Blk (w.alloc (.cells #[v] 93)).drew gc 38 (clCells c (.slice A0 n0 q0) v4 v7) := (hB.alloc _).drew
 have hr := rda_below h (hb0.trans (hxd.mono hb0.size))
 have hTW := hT.next hxd
 have cf := cell_keep hf hxd
 refine ((rdc2_any (R := SetP gc 1 t c (.slice A0 n0 q0) v4 v7 (w.alloc (.cells #[v] 93)).drew) (fnK 1) gc bf 2 v ⟨(path 1).toArray⟩ w (fun b w => fld_any (k := 1) (by decide) b w) (fun a w => enter_any (k := 1) (by decide) a w) hf ?_ (fun e w' hr => ⟨(setP_keeps hr).1, (setP_keeps hr).2 _ _ hne cf, (setP_keeps hr).2 _ _ hbox cbox⟩)).mono fun e w' h => setP_from hxd h)
 generalize (w.alloc (.cells #[v] 93)).drew = W at *
 rcases nb_cases t with ⟨x, rfl⟩ | ⟨h1, h2⟩
 ·have hok : finB x = true ∧ normB x = x ∧ x < 18446744073709551616 := by unfold Tr.Ok at ht; exact ht
  obtain ⟨o1, o2, o3⟩ := hok
  have hz : x ≠ 9223372036854775808 := by
   rintro rfl
   exact absurd o2 (by decide)
  by_cases htm : 0 ≤ timeD x
  ·refine (cmoment_ok v gc 2 _ _ (path 1) W x o3 o1 htm hr hBW (by show _ < 9; decide)).mono ?_
   rintro e w' ⟨rfl, hg, hB'⟩
   exact setP_yes (d := { c with at_ := timeD x }) (by rw [setK_1, timeK, if_pos htm]) hg hB' (.inl ⟨rfl, rfl⟩) (.inl ⟨rfl, rfl⟩)
  ·refine (cmoment_bad v gc 2 _ _ (path 1) W x o3 hz o1 (by omega) hr hBW (by show _ < 9; decide)).mono ?_
   rintro e w' ⟨rfl, hb'⟩
   exact setP_no (by rw [setK_1, timeK, if_neg htm]) hb'
 ·refine (cmoment_no v gc 2 _ _ (path 1) W t h1 hr hBW (by show _ < 9; decide)).mono ?_
  rintro e w' ⟨rfl, hb'⟩
  exact setP_no (by rw [setK_1, h2]) hb'
theorem read_2 (c : C) (A0 : Option Addr) (n0 q0 : Nat) (v4 v7 : Value) (gc : Nat) (bf : Nat) (t : Tr) (v : Value) (w0 w : World) (hB : Blk w gc 38 (clCells c (.slice A0 n0 q0) v4 v7)) (hf : w.cell? ⟨bf, 0, none⟩ = some (fnV 2)) (h : RdA w0 t v) (hb0 : Below w0.heap.size w0 w) (ht : t.Ok) (hfit : t.fit = true) (hT : TabP w) (p : ByteArray) (hp : p = ⟨(path 2).toArray⟩) :
  Calls Tryz.prog 49 #[.pointer (some ⟨gc, 0, none⟩), .agg #[v], .string p, .pointer (some ⟨bf, 0, none⟩)] w (SetP gc 2 t c (.slice A0 n0 q0) v4 v7 w) := by
 subst hp
 have hx := ref_box w v
 have hxd : Below w.heap.size w (w.alloc (.cells #[v] 93)).drew := hx.trans ((drewN_below _ 1).mono hx.size)
 have hne : bf ≠ gc := by
  rintro rfl
  have := (hB.cell 0).symm.trans hf
  cases this
 have hbox : w.heap.size ≠ gc := by have := hB.lt; omega
 have cbox : (w.alloc (.cells #[v] 93)).drew.cell? ⟨w.heap.size, 0, none⟩ = some v := (Blk.new w 93 #[v]).cell 0
 have hBW : Blk (w.alloc (.cells #[v] 93)).drew gc 38 (clCells c (.slice A0 n0 q0) v4 v7) := (hB.alloc _).drew
 have hr := rda_below h (hb0.trans (hxd.mono hb0.size))
 have hTW := hT.next hxd
 have cf := cell_keep hf hxd
 refine ((rdc1_any (R := SetP gc 2 t c (.slice A0 n0 q0) v4 v7 (w.alloc (.cells #[v] 93)).drew) (fnK 2) gc bf 3 v ⟨(path 2).toArray⟩ w (fun b w => fld_any (k := 2) (by decide) b w) (fun a w => enter_any (k := 2) (by decide) a w) hf ?_ (fun e w' hr => ⟨(setP_keeps hr).1, (setP_keeps hr).2 _ _ hne cf, (setP_keeps hr).2 _ _ hbox cbox⟩)).mono fun e w' h => setP_from hxd h)
 generalize (w.alloc (.cells #[v] 93)).drew = W at *
 rcases tx_cases t with ⟨s, rfl⟩ | ⟨h1, h2⟩
 ·refine (ctext_ok v gc 3 _ _ (path 2) W s hr hBW (by show _ < 9; decide)).mono ?_
  rintro e w' ⟨rfl, hg, hB'⟩
  exact setP_yes (setK_2 c (.text s)) hg hB' (.inl ⟨rfl, rfl⟩) (.inl ⟨rfl, rfl⟩)
 ·refine (ctext_no v gc 3 _ _ (path 2) W t h1 hr hBW (by show _ < 9; decide)).mono ?_
  rintro e w' ⟨rfl, hb'⟩
  exact setP_no (by rw [setK_2, h2]) hb'
theorem read_3 (c : C) (A0 : Option Addr) (n0 q0 : Nat) (v4 v7 : Value) (gc : Nat) (bf ba : Nat) (t : Tr) (v : Value) (w0 w : World) (hB : Blk w gc 38 (clCells c (.slice A0 n0 q0) v4 v7)) (hf : w.cell? ⟨bf, 0, none⟩ = some (fnV 3)) (ha : w.cell? ⟨ba, 0, none⟩ = some (.bool true)) (h : RdA w0 t v) (hb0 : Below w0.heap.size w0 w) (ht : t.Ok) (hfit : t.fit = true) (hT : TabP w) (p : ByteArray) (hp : p = ⟨(path 3).toArray⟩) :
  Calls Tryz.prog 55 #[.pointer (some ⟨gc, 0, none⟩), .agg #[v], .string p, .pointer (some ⟨bf, 0, none⟩), .pointer (some ⟨ba, 0, none⟩)] w (SetP gc 3 t c (.slice A0 n0 q0) v4 v7 w) := by
 subst hp
 have hx := ref_box w v
 have hxd : Below w.heap.size w (w.alloc (.cells #[v] 93)).drew := hx.trans ((drewN_below _ 1).mono hx.size)
 have hne : bf ≠ gc := by
  rintro rfl
  have := (hB.cell 0).symm.trans hf
  cases this
 have hbox : w.heap.size ≠ gc := by have := hB.lt; omega
 have cbox : (w.alloc (.cells #[v] 93)).drew.cell? ⟨w.heap.size, 0, none⟩ = some v := (Blk.new w 93 #[v]).cell 0
 have hBW : Blk (w.alloc (.cells #[v] 93)).drew gc 38 (clCells c (.slice A0 n0 q0) v4 v7) := (hB.alloc _).drew
 have hr := rda_below h (hb0.trans (hxd.mono hb0.size))
 have hTW := hT.next hxd
 have cf := cell_keep hf hxd
 have hna : ba ≠ gc := by
  rintro rfl
  have := (hB.cell 0).symm.trans ha
  cases this
 have ca := cell_keep ha hxd
 refine ((rdc3_any (R := SetP gc 3 t c (.slice A0 n0 q0) v4 v7 (w.alloc (.cells #[v] 93)).drew) (fnK 3) gc bf ba 4 true v ⟨(path 3).toArray⟩ w (fun b w => fld_any (k := 3) (by decide) b w) (fun a w => enter_any (k := 3) (by decide) a w) hf ha ?_ (fun e w' hr => ⟨(setP_keeps hr).1, (setP_keeps hr).2 _ _ hne cf, (setP_keeps hr).2 _ _ hbox cbox, (setP_keeps hr).2 _ _ hna ca⟩)).mono fun e w' h => setP_from hxd h)
 generalize (w.alloc (.cells #[v] 93)).drew = W at *
 rcases ls_cases t with ⟨l, rfl⟩ | ⟨s, rfl⟩ | ⟨h1, h5, h2⟩
 ·refine (clist_list l v gc 4 _ _ (path 3) true W hr hBW (by show _ < 9; decide) (kids_le hfit) (by decide) hTW).mono ?_
  intro e w' hp
  unfold ClP at hp
  cases htx : textsOf l 0 with
  | inl j =>
   rw [htx] at hp
   obtain ⟨rfl, hb'⟩ := hp
   exact setP_no (by rw [setK_3, listK, htx]; rfl) hb'
  | inr ts =>
   rw [htx] at hp
   dsimp only at hp
   cases htw : twiceAt [] ts 0 with
   | some i =>
    rw [htw] at hp
    obtain ⟨rfl, hb'⟩ := hp
    exact setP_no (by rw [setK_3, listK, htx]; dsimp only; rw [htw]; rfl) hb'
   | none =>
    rw [htw] at hp
    obtain ⟨rfl, hg, u, hu, hB'⟩ := hp
    exact setP_yes (d := { c with for_ := ts }) (by rw [setK_3, listK, htx]; dsimp only; rw [htw]) hg hB' (.inr hu) (.inl ⟨rfl, rfl⟩)
 ·refine (clist_one s v gc 4 _ _ (path 3) W hr hBW (by show _ < 9; decide)).mono ?_
  rintro e w' ⟨rfl, hg, u, hu, hB'⟩
  exact setP_yes (d := { c with for_ := [s] }) (by rw [setK_3, listK, if_pos rfl]) hg hB' (.inr hu) (.inl ⟨rfl, rfl⟩)
 ·refine (clist_sort t h5 v gc 4 _ _ (path 3) true W (by rw [h1]; rfl) hr hBW (by show _ < 9; decide)).mono ?_
  rintro e w' ⟨rfl, hb'⟩
  exact setP_no (by rw [setK_3, h2]) hb'
theorem read_4 (c : C) (A0 : Option Addr) (n0 q0 : Nat) (v4 v7 : Value) (gc : Nat) (bf : Nat) (t : Tr) (v : Value) (w0 w : World) (hB : Blk w gc 38 (clCells c (.slice A0 n0 q0) v4 v7)) (hf : w.cell? ⟨bf, 0, none⟩ = some (fnV 4)) (h : RdA w0 t v) (hb0 : Below w0.heap.size w0 w) (ht : t.Ok) (hfit : t.fit = true) (hT : TabP w) (p : ByteArray) (hp : p = ⟨(path 4).toArray⟩) :
  Calls Tryz.prog 52 #[.pointer (some ⟨gc, 0, none⟩), .agg #[v], .string p, .pointer (some ⟨bf, 0, none⟩)] w (SetP gc 4 t c (.slice A0 n0 q0) v4 v7 w) := by
 subst hp
 have hx := ref_box w v
 have hxd : Below w.heap.size w (w.alloc (.cells #[v] 93)).drew := hx.trans ((drewN_below _ 1).mono hx.size)
 have hne : bf ≠ gc := by
  rintro rfl
  have := (hB.cell 0).symm.trans hf
  cases this
 have hbox : w.heap.size ≠ gc := by have := hB.lt; omega
 have cbox : (w.alloc (.cells #[v] 93)).drew.cell? ⟨w.heap.size, 0, none⟩ = some v := (Blk.new w 93 #[v]).cell 0
 have hBW : Blk (w.alloc (.cells #[v] 93)).drew gc 38 (clCells c (.slice A0 n0 q0) v4 v7) := (hB.alloc _).drew
 have hr := rda_below h (hb0.trans (hxd.mono hb0.size))
 have hTW := hT.next hxd
 have cf := cell_keep hf hxd
 refine ((rdc2_any (R := SetP gc 4 t c (.slice A0 n0 q0) v4 v7 (w.alloc (.cells #[v] 93)).drew) (fnK 4) gc bf 5 v ⟨(path 4).toArray⟩ w (fun b w => fld_any (k := 4) (by decide) b w) (fun a w => enter_any (k := 4) (by decide) a w) hf ?_ (fun e w' hr => ⟨(setP_keeps hr).1, (setP_keeps hr).2 _ _ hne cf, (setP_keeps hr).2 _ _ hbox cbox⟩)).mono fun e w' h => setP_from hxd h)
 generalize (w.alloc (.cells #[v] 93)).drew = W at *
 rcases nb_cases t with ⟨x, rfl⟩ | ⟨h1, h2⟩
 ·have hok : finB x = true ∧ normB x = x ∧ x < 18446744073709551616 := by unfold Tr.Ok at ht; exact ht
  obtain ⟨o1, o2, o3⟩ := hok
  have hz : x ≠ 9223372036854775808 := by
   rintro rfl
   exact absurd o2 (by decide)
  by_cases htm : 0 ≤ timeD x
  ·refine (cmoment_ok v gc 5 _ _ (path 4) W x o3 o1 htm hr hBW (by show _ < 9; decide)).mono ?_
   rintro e w' ⟨rfl, hg, hB'⟩
   exact setP_yes (d := { c with from_ := timeD x }) (by rw [setK_4, timeK, if_pos htm]) hg hB' (.inl ⟨rfl, rfl⟩) (.inl ⟨rfl, rfl⟩)
  ·refine (cmoment_bad v gc 5 _ _ (path 4) W x o3 hz o1 (by omega) hr hBW (by show _ < 9; decide)).mono ?_
   rintro e w' ⟨rfl, hb'⟩
   exact setP_no (by rw [setK_4, timeK, if_neg htm]) hb'
 ·refine (cmoment_no v gc 5 _ _ (path 4) W t h1 hr hBW (by show _ < 9; decide)).mono ?_
  rintro e w' ⟨rfl, hb'⟩
  exact setP_no (by rw [setK_4, h2]) hb'
theorem read_5 (c : C) (A0 : Option Addr) (n0 q0 : Nat) (v4 v7 : Value) (gc : Nat) (bf : Nat) (t : Tr) (v : Value) (w0 w : World) (hB : Blk w gc 38 (clCells c (.slice A0 n0 q0) v4 v7)) (hf : w.cell? ⟨bf, 0, none⟩ = some (fnV 5)) (h : RdA w0 t v) (hb0 : Below w0.heap.size w0 w) (ht : t.Ok) (hfit : t.fit = true) (hT : TabP w) (p : ByteArray) (hp : p = ⟨(path 5).toArray⟩) :
  Calls Tryz.prog 49 #[.pointer (some ⟨gc, 0, none⟩), .agg #[v], .string p, .pointer (some ⟨bf, 0, none⟩)] w (SetP gc 5 t c (.slice A0 n0 q0) v4 v7 w) := by
 subst hp
 have hx := ref_box w v
 have hxd : Below w.heap.size w (w.alloc (.cells #[v] 93)).drew := hx.trans ((drewN_below _ 1).mono hx.size)
 have hne : bf ≠ gc := by
  rintro rfl
  have := (hB.cell 0).symm.trans hf
  cases this
 have hbox : w.heap.size ≠ gc := by have := hB.lt; omega
 have cbox : (w.alloc (.cells #[v] 93)).drew.cell? ⟨w.heap.size, 0, none⟩ = some v := (Blk.new w 93 #[v]).cell 0
 have hBW : Blk (w.alloc (.cells #[v] 93)).drew gc 38 (clCells c (.slice A0 n0 q0) v4 v7) := (hB.alloc _).drew
 have hr := rda_below h (hb0.trans (hxd.mono hb0.size))
 have hTW := hT.next hxd
 have cf := cell_keep hf hxd
 refine ((rdc1_any (R := SetP gc 5 t c (.slice A0 n0 q0) v4 v7 (w.alloc (.cells #[v] 93)).drew) (fnK 5) gc bf 6 v ⟨(path 5).toArray⟩ w (fun b w => fld_any (k := 5) (by decide) b w) (fun a w => enter_any (k := 5) (by decide) a w) hf ?_ (fun e w' hr => ⟨(setP_keeps hr).1, (setP_keeps hr).2 _ _ hne cf, (setP_keeps hr).2 _ _ hbox cbox⟩)).mono fun e w' h => setP_from hxd h)
 generalize (w.alloc (.cells #[v] 93)).drew = W at *
 rcases tx_cases t with ⟨s, rfl⟩ | ⟨h1, h2⟩
 ·refine (ctext_ok v gc 6 _ _ (path 5) W s hr hBW (by show _ < 9; decide)).mono ?_
  rintro e w' ⟨rfl, hg, hB'⟩
  exact setP_yes (setK_5 c (.text s)) hg hB' (.inl ⟨rfl, rfl⟩) (.inl ⟨rfl, rfl⟩)
 ·refine (ctext_no v gc 6 _ _ (path 5) W t h1 hr hBW (by show _ < 9; decide)).mono ?_
  rintro e w' ⟨rfl, hb'⟩
  exact setP_no (by rw [setK_5, h2]) hb'
theorem read_6 (c : C) (A0 : Option Addr) (n0 q0 : Nat) (v4 v7 : Value) (gc : Nat) (bf ba : Nat) (t : Tr) (v : Value) (w0 w : World) (hB : Blk w gc 38 (clCells c (.slice A0 n0 q0) v4 v7)) (hf : w.cell? ⟨bf, 0, none⟩ = some (fnV 6)) (ha : w.cell? ⟨ba, 0, none⟩ = some (.bool false)) (h : RdA w0 t v) (hb0 : Below w0.heap.size w0 w) (ht : t.Ok) (hfit : t.fit = true) (hT : TabP w) (p : ByteArray) (hp : p = ⟨(path 6).toArray⟩) :
  Calls Tryz.prog 55 #[.pointer (some ⟨gc, 0, none⟩), .agg #[v], .string p, .pointer (some ⟨bf, 0, none⟩), .pointer (some ⟨ba, 0, none⟩)] w (SetP gc 6 t c (.slice A0 n0 q0) v4 v7 w) := by
 subst hp
 have hx := ref_box w v
 have hxd : Below w.heap.size w (w.alloc (.cells #[v] 93)).drew := hx.trans ((drewN_below _ 1).mono hx.size)
 have hne : bf ≠ gc := by
  rintro rfl
  have := (hB.cell 0).symm.trans hf
  cases this
 have hbox : w.heap.size ≠ gc := by have := hB.lt; omega
 have cbox : (w.alloc (.cells #[v] 93)).drew.cell? ⟨w.heap.size, 0, none⟩ = some v := (Blk.new w 93 #[v]).cell 0
 have hBW : Blk (w.alloc (.cells #[v] 93)).drew gc 38 (clCells c (.slice A0 n0 q0) v4 v7) := (hB.alloc _).drew
 have hr := rda_below h (hb0.trans (hxd.mono hb0.size))
 have hTW := hT.next hxd
 have cf := cell_keep hf hxd
 have hna : ba ≠ gc := by
  rintro rfl
  have := (hB.cell 0).symm.trans ha
  cases this
 have ca := cell_keep ha hxd
 refine ((rdc3_any (R := SetP gc 6 t c (.slice A0 n0 q0) v4 v7 (w.alloc (.cells #[v] 93)).drew) (fnK 6) gc bf ba 7 false v ⟨(path 6).toArray⟩ w (fun b w => fld_any (k := 6) (by decide) b w) (fun a w => enter_any (k := 6) (by decide) a w) hf ha ?_ (fun e w' hr => ⟨(setP_keeps hr).1, (setP_keeps hr).2 _ _ hne cf, (setP_keeps hr).2 _ _ hbox cbox, (setP_keeps hr).2 _ _ hna ca⟩)).mono fun e w' h => setP_from hxd h)
 generalize (w.alloc (.cells #[v] 93)).drew = W at *
 rcases ls_cases t with ⟨l, rfl⟩ | ⟨s, rfl⟩ | ⟨h1, h5, h2⟩
 ·refine (clist_list l v gc 7 _ _ (path 6) false W hr hBW (by show _ < 9; decide) (kids_le hfit) (by decide) hTW).mono ?_
  intro e w' hp
  unfold ClP at hp
  cases htx : textsOf l 0 with
  | inl j =>
   rw [htx] at hp
   obtain ⟨rfl, hb'⟩ := hp
   exact setP_no (by rw [setK_6, listK, htx]; rfl) hb'
  | inr ts =>
   rw [htx] at hp
   dsimp only at hp
   cases htw : twiceAt [] ts 0 with
   | some i =>
    rw [htw] at hp
    obtain ⟨rfl, hb'⟩ := hp
    exact setP_no (by rw [setK_6, listK, htx]; dsimp only; rw [htw]; rfl) hb'
   | none =>
    rw [htw] at hp
    obtain ⟨rfl, hg, u, hu, hB'⟩ := hp
    exact setP_yes (d := { c with may_ := ts }) (by rw [setK_6, listK, htx]; dsimp only; rw [htw]) hg hB' (.inl ⟨rfl, rfl⟩) (.inr hu)
 ·refine (clist_sort (.text s) (by simp [Tr.srt]) v gc 7 _ _ (path 6) false W rfl hr hBW (by show _ < 9; decide)).mono ?_
  rintro e w' ⟨rfl, hb'⟩
  exact setP_no (by rw [setK_6, listK, if_neg (by decide)]) hb'
 ·refine (clist_sort t h5 v gc 7 _ _ (path 6) false W (by rw [h1]; rfl) hr hBW (by show _ < 9; decide)).mono ?_
  rintro e w' ⟨rfl, hb'⟩
  exact setP_no (by rw [setK_6, h2]) hb'
theorem read_7 (c : C) (A0 : Option Addr) (n0 q0 : Nat) (v4 v7 : Value) (gc : Nat) (bf : Nat) (t : Tr) (v : Value) (w0 w : World) (hB : Blk w gc 38 (clCells c (.slice A0 n0 q0) v4 v7)) (hf : w.cell? ⟨bf, 0, none⟩ = some (fnV 7)) (h : RdA w0 t v) (hb0 : Below w0.heap.size w0 w) (ht : t.Ok) (hfit : t.fit = true) (hT : TabP w) (p : ByteArray) (hp : p = ⟨(path 7).toArray⟩) :
  Calls Tryz.prog 52 #[.pointer (some ⟨gc, 0, none⟩), .agg #[v], .string p, .pointer (some ⟨bf, 0, none⟩)] w (SetP gc 7 t c (.slice A0 n0 q0) v4 v7 w) := by
 subst hp
 have hx := ref_box w v
 have hxd : Below w.heap.size w (w.alloc (.cells #[v] 93)).drew := hx.trans ((drewN_below _ 1).mono hx.size)
 have hne : bf ≠ gc := by
  rintro rfl
  have := (hB.cell 0).symm.trans hf
  cases this
 have hbox : w.heap.size ≠ gc := by have := hB.lt; omega
 have cbox : (w.alloc (.cells #[v] 93)).drew.cell? ⟨w.heap.size, 0, none⟩ = some v := (Blk.new w 93 #[v]).cell 0
 have hBW : Blk (w.alloc (.cells #[v] 93)).drew gc 38 (clCells c (.slice A0 n0 q0) v4 v7) := (hB.alloc _).drew
 have hr := rda_below h (hb0.trans (hxd.mono hb0.size))
 have hTW := hT.next hxd
 have cf := cell_keep hf hxd
 refine ((rdc2_any (R := SetP gc 7 t c (.slice A0 n0 q0) v4 v7 (w.alloc (.cells #[v] 93)).drew) (fnK 7) gc bf 8 v ⟨(path 7).toArray⟩ w (fun b w => fld_any (k := 7) (by decide) b w) (fun a w => enter_any (k := 7) (by decide) a w) hf ?_ (fun e w' hr => ⟨(setP_keeps hr).1, (setP_keeps hr).2 _ _ hne cf, (setP_keeps hr).2 _ _ hbox cbox⟩)).mono fun e w' h => setP_from hxd h)
 generalize (w.alloc (.cells #[v] 93)).drew = W at *
 rcases nb_cases t with ⟨x, rfl⟩ | ⟨h1, h2⟩
 ·have hok : finB x = true ∧ normB x = x ∧ x < 18446744073709551616 := by unfold Tr.Ok at ht; exact ht
  obtain ⟨o1, o2, o3⟩ := hok
  have hz : x ≠ 9223372036854775808 := by
   rintro rfl
   exact absurd o2 (by decide)
  by_cases htm : 0 ≤ timeD x
  ·refine (cmoment_ok v gc 8 _ _ (path 7) W x o3 o1 htm hr hBW (by show _ < 9; decide)).mono ?_
   rintro e w' ⟨rfl, hg, hB'⟩
   exact setP_yes (d := { c with until_ := timeD x }) (by rw [setK_7, timeK, if_pos htm]) hg hB' (.inl ⟨rfl, rfl⟩) (.inl ⟨rfl, rfl⟩)
  ·refine (cmoment_bad v gc 8 _ _ (path 7) W x o3 hz o1 (by omega) hr hBW (by show _ < 9; decide)).mono ?_
   rintro e w' ⟨rfl, hb'⟩
   exact setP_no (by rw [setK_7, timeK, if_neg htm]) hb'
 ·refine (cmoment_no v gc 8 _ _ (path 7) W t h1 hr hBW (by show _ < 9; decide)).mono ?_
  rintro e w' ⟨rfl, hb'⟩
  exact setP_no (by rw [setK_7, h2]) hb'
theorem en_rd1 (args : Array Value) (w : World) : (callFunc 49 args).run Tryz.prog w = .ok (.enter 49 args) w := by kernel_rfl
theorem en_rd2 (args : Array Value) (w : World) : (callFunc 52 args).run Tryz.prog w = .ok (.enter 52 args) w := by kernel_rfl
theorem en_rd3 (args : Array Value) (w : World) : (callFunc 55 args).run Tryz.prog w = .ok (.enter 55 args) w := by kernel_rfl
theorem readk_enter {k : Nat} {x : FuncId × Array Value} {w : World} (hx : RdAt w k x) (args : Array Value) (W : World) : (callFunc x.1 args).run Tryz.prog W = .ok (.enter x.1 args) W := by
 rcases hx with ⟨_, bf, rfl, _⟩ | ⟨_, bf, rfl, _⟩ | ⟨_, bf, ba, rfl, _⟩
 ·exact en_rd1 args W
 ·exact en_rd2 args W
 ·exact en_rd3 args W
theorem readk_any {k : Nat} (x : FuncId × Array Value) (c : C) (A0 : Option Addr) (n0 q0 : Nat) (v4 v7 : Value) (gc : Nat) (t : Tr) (v : Value) (w0 w : World) (hx : RdAt w k x) (hB : Blk w gc 38 (clCells c (.slice A0 n0 q0) v4 v7)) (h : RdA w0 t v) (hb0 : Below w0.heap.size w0 w) (ht : t.Ok) (hfit : t.fit = true) (hT : TabP w) (p : ByteArray) (hp : p = ⟨(path k).toArray⟩) :
  Calls Tryz.prog x.1 (#[.pointer (some ⟨gc, 0, none⟩), .agg #[v], .string p] ++ x.2) w (SetP gc k t c (.slice A0 n0 q0) v4 v7 w) := by
 rcases hx with ⟨hk, bf, rfl, hf⟩ | ⟨hk, bf, rfl, hf⟩ | ⟨hk, bf, ba, rfl, hf, ha⟩
 ·rcases hk with rfl | rfl | rfl
  ·exact read_0 c A0 n0 q0 v4 v7 gc bf t v w0 w hB hf h hb0 ht hfit hT p hp
  ·exact read_2 c A0 n0 q0 v4 v7 gc bf t v w0 w hB hf h hb0 ht hfit hT p hp
  ·exact read_5 c A0 n0 q0 v4 v7 gc bf t v w0 w hB hf h hb0 ht hfit hT p hp
 ·rcases hk with rfl | rfl | rfl
  ·exact read_1 c A0 n0 q0 v4 v7 gc bf t v w0 w hB hf h hb0 ht hfit hT p hp
  ·exact read_4 c A0 n0 q0 v4 v7 gc bf t v w0 w hB hf h hb0 ht hfit hT p hp
  ·exact read_7 c A0 n0 q0 v4 v7 gc bf t v w0 w hB hf h hb0 ht hfit hT p hp
 ·rcases hk with rfl | rfl
  ·exact read_3 c A0 n0 q0 v4 v7 gc bf ba t v w0 w hB hf ha h hb0 ht hfit hT p hp
  ·exact read_6 c A0 n0 q0 v4 v7 gc bf ba t v w0 w hB hf ha h hb0 ht hfit hT p hp
end Nd
end Go.Proofs.YtobaldkipnhlpaaGreatDoor
namespace Go.Proofs.YtobaldkipnhlpaaGreatDoor
open Go.RowKit Mem Utf Ref3 Tok Cl
namespace Nd
def upd {α : Type} (f : Nat → α) (k : Nat) (v : α) : Nat → α := fun i => if i = k then v else f i
theorem upd_at {α : Type} (f : Nat → α) (k : Nat) (v : α) : upd f k v k = v := if_pos rfl
def rCells (b : Nat → Bool) (x : Nat → Txt) (n : Nat → Int) (l : Nat → Value) : Array Value := #[.bool (b 0), .bool (b 1), .bool (b 2), .bool (b 3), .bool (b 4), .bool (b 5), .bool (b 6), .bool (b 7), .string ⟨(x 0).toArray⟩, .string ⟨(x 1).toArray⟩, .string ⟨(x 2).toArray⟩, .string ⟨(x 3).toArray⟩, .string ⟨(x 4).toArray⟩, .string ⟨(x 5).toArray⟩, .string ⟨(x 6).toArray⟩, .string ⟨(x 7).toArray⟩, .int .i64 (n 0), .int .i64 (n 1), .int .i64 (n 2), .int .i64 (n 3), .int .i64 (n 4), .int .i64 (n 5), .int .i64 (n 6), .int .i64 (n 7), l 0, l 1, l 2, l 3, l 4, l 5, l 6, l 7]
theorem rCells_b (b : Nat → Bool) (x : Nat → Txt) (n : Nat → Int) (l : Nat → Value) {k : Nat} (hk : k < 8) (v : Bool) : (rCells b x n l).setIfInBounds (k) (.bool v) = rCells (upd b k v) x n l := by
 rcases below8 hk with rfl | rfl | rfl | rfl | rfl | rfl | rfl | rfl <;> simp [rCells, upd]
theorem rCells_x (b : Nat → Bool) (x : Nat → Txt) (n : Nat → Int) (l : Nat → Value) {k : Nat} (hk : k < 8) (v : Txt) : (rCells b x n l).setIfInBounds (8 + k) (.string ⟨v.toArray⟩) = rCells b (upd x k v) n l := by
 rcases below8 hk with rfl | rfl | rfl | rfl | rfl | rfl | rfl | rfl <;> simp [rCells, upd]
theorem rCells_n (b : Nat → Bool) (x : Nat → Txt) (n : Nat → Int) (l : Nat → Value) {k : Nat} (hk : k < 8) (v : Int) : (rCells b x n l).setIfInBounds (16 + k) (.int .i64 v) = rCells b x (upd n k v) l := by
 rcases below8 hk with rfl | rfl | rfl | rfl | rfl | rfl | rfl | rfl <;> simp [rCells, upd]
theorem rCells_l (b : Nat → Bool) (x : Nat → Txt) (n : Nat → Int) (l : Nat → Value) {k : Nat} (hk : k < 8) (v : Value) : (rCells b x n l).setIfInBounds (24 + k) (v) = rCells b x n (upd l k v) := by
 rcases below8 hk with rfl | rfl | rfl | rfl | rfl | rfl | rfl | rfl <;> simp [rCells, upd]
theorem rCells_at_n {b : Nat → Bool} {x : Nat → Txt} {n : Nat → Int} {l : Nat → Value} {w : World} {g : Nat} {t : TypeId} (h : Blk w g t (rCells b x n l)) {k : Nat} (hk : k < 8) : w.cell? ⟨g, 16 + k, none⟩ = some (.int .i64 (n k)) := by
 rcases below8 hk with rfl | rfl | rfl | rfl | rfl | rfl | rfl | rfl
 ·exact h.cell 16
 ·exact h.cell 17
 ·exact h.cell 18
 ·exact h.cell 19
 ·exact h.cell 20
 ·exact h.cell 21
 ·exact h.cell 22
 ·exact h.cell 23
theorem rCells_at_x {b : Nat → Bool} {x : Nat → Txt} {n : Nat → Int} {l : Nat → Value} {w : World} {g : Nat} {t : TypeId} (h : Blk w g t (rCells b x n l)) {k : Nat} (hk : k < 8) : w.cell? ⟨g, 8 + k, none⟩ = some (.string ⟨(x k).toArray⟩) := by
 rcases below8 hk with rfl | rfl | rfl | rfl | rfl | rfl | rfl | rfl
 ·exact h.cell 8
 ·exact h.cell 9
 ·exact h.cell 10
 ·exact h.cell 11
 ·exact h.cell 12
 ·exact h.cell 13
 ·exact h.cell 14
 ·exact h.cell 15
theorem rCells_at_l {b : Nat → Bool} {x : Nat → Txt} {n : Nat → Int} {l : Nat → Value} {w : World} {g : Nat} {t : TypeId} (h : Blk w g t (rCells b x n l)) {k : Nat} (hk : k < 8) : w.cell? ⟨g, 24 + k, none⟩ = some (l k) := by
 rcases below8 hk with rfl | rfl | rfl | rfl | rfl | rfl | rfl | rfl
 ·exact h.cell 24
 ·exact h.cell 25
 ·exact h.cell 26
 ·exact h.cell 27
 ·exact h.cell 28
 ·exact h.cell 29
 ·exact h.cell 30
 ·exact h.cell 31
theorem rCells_at_b {b : Nat → Bool} {x : Nat → Txt} {n : Nat → Int} {l : Nat → Value} {w : World} {g : Nat} {t : TypeId} (h : Blk w g t (rCells b x n l)) {k : Nat} (hk : k < 8) : w.cell? ⟨g, k, none⟩ = some (.bool (b k)) := by
 rcases below8 hk with rfl | rfl | rfl | rfl | rfl | rfl | rfl | rfl
 ·exact h.cell 0
 ·exact h.cell 1
 ·exact h.cell 2
 ·exact h.cell 3
 ·exact h.cell 4
 ·exact h.cell 5
 ·exact h.cell 6
 ·exact h.cell 7
theorem rCells_one {b : Nat → Bool} {x : Nat → Txt} {n : Nat → Int} {l : Nat → Value} (hl : ∀ i, i < 8 → (l i).oneCell' = true) : ∀ v ∈ (rCells b x n l).toList, v.oneCell' = true := by
 intro v hv
 unfold rCells at hv
 simp only [List.mem_cons, List.not_mem_nil, or_false] at hv
 rcases hv with rfl | rfl | rfl | rfl | rfl | rfl | rfl | rfl | rfl | rfl | rfl | rfl | rfl | rfl | rfl | rfl | rfl | rfl | rfl | rfl | rfl | rfl | rfl | rfl | rfl | rfl | rfl | rfl | rfl | rfl | rfl | rfl
 ·rfl
 ·rfl
 ·rfl
 ·rfl
 ·rfl
 ·rfl
 ·rfl
 ·rfl
 ·rfl
 ·rfl
 ·rfl
 ·rfl
 ·rfl
 ·rfl
 ·rfl
 ·rfl
 ·rfl
 ·rfl
 ·rfl
 ·rfl
 ·rfl
 ·rfl
 ·rfl
 ·rfl
 ·exact hl 0 (by omega)
 ·exact hl 1 (by omega)
 ·exact hl 2 (by omega)
 ·exact hl 3 (by omega)
 ·exact hl 4 (by omega)
 ·exact hl 5 (by omega)
 ·exact hl 6 (by omega)
 ·exact hl 7 (by omega)
theorem upd_one {l : Nat → Value} (hl : ∀ i, i < 8 → (l i).oneCell' = true) (k : Nat) {u : Value} (hu : u.oneCell' = true) : ∀ i, i < 8 → (upd l k u i).oneCell' = true := fun i hi => by
 unfold upd
 split
 ·exact hu
 ·exact hl i hi
def xOf (c : C) : Nat → Txt
 | 0 => c.about
 | 2 => c.by_
 | 5 => c.id_
 | _ => []
def nOf (c : C) : Nat → Int
 | 1 => c.at_
 | 4 => c.from_
 | 7 => c.until_
 | _ => 0
def lOf (v4 v7 : Value) : Nat → Value
 | 3 => v4
 | 6 => v7
 | _ => .slice none 0 0
structure DC (c : C) (v4 v7 : Value) (x : Nat → Txt) (n : Nat → Int) (l : Nat → Value) : Prop where
 hx : ∀ i, i < 8 → x i = xOf c i
 hn : ∀ i, i < 8 → n i = nOf c i
 hl : ∀ i, i < 8 → l i = lOf v4 v7 i
theorem dc_cells {c : C} {v4 v7 : Value} {x : Nat → Txt} {n : Nat → Int} {l : Nat → Value} (h : DC c v4 v7 x n l) (b : Nat → Bool) : rCells b x n l = dCells b c v4 v7 := by
 unfold rCells dCells
 rw [h.hx 0 (by omega), h.hn 0 (by omega), h.hl 0 (by omega)]
 rw [h.hx 1 (by omega), h.hn 1 (by omega), h.hl 1 (by omega)]
 rw [h.hx 2 (by omega), h.hn 2 (by omega), h.hl 2 (by omega)]
 rw [h.hx 3 (by omega), h.hn 3 (by omega), h.hl 3 (by omega)]
 rw [h.hx 4 (by omega), h.hn 4 (by omega), h.hl 4 (by omega)]
 rw [h.hx 5 (by omega), h.hn 5 (by omega), h.hl 5 (by omega)]
 rw [h.hx 6 (by omega), h.hn 6 (by omega), h.hl 6 (by omega)]
 rw [h.hx 7 (by omega), h.hn 7 (by omega), h.hl 7 (by omega)]
 rfl
theorem dc_zero : DC cZero (.slice none 0 0) (.slice none 0 0) (fun _ => []) (fun _ => 0) (fun _ => .slice none 0 0) := by
 refine ⟨fun i hi => ?_, fun i hi => ?_, fun i hi => ?_⟩
 ·rcases below8 hi with rfl | rfl | rfl | rfl | rfl | rfl | rfl | rfl <;> rfl
 ·rcases below8 hi with rfl | rfl | rfl | rfl | rfl | rfl | rfl | rfl <;> rfl
 ·rcases below8 hi with rfl | rfl | rfl | rfl | rfl | rfl | rfl | rfl <;> rfl
theorem dc_text {c : C} {v4 v7 : Value} {x : Nat → Txt} {n : Nat → Int} {l : Nat → Value} (h : DC c v4 v7 x n l) {k : Nat} (s : Txt) (hk : k = 0 ∨ k = 2 ∨ k = 5) : ∃ c', setK c k (.text s) = .inr c' ∧ c'.has = c.has ∧ c'.for_ = c.for_ ∧ c'.may_ = c.may_ ∧ DC c' v4 v7 (upd x k s) n l := by
 rcases hk with rfl | rfl | rfl
 ·refine ⟨{ c with about := s }, rfl, rfl, rfl, rfl, ⟨fun i hi => ?_, h.hn, h.hl⟩⟩
  have hx := h.hx i hi
  rcases below8 hi with rfl | rfl | rfl | rfl | rfl | rfl | rfl | rfl <;> first | exact hx | rfl
 ·refine ⟨{ c with by_ := s }, rfl, rfl, rfl, rfl, ⟨fun i hi => ?_, h.hn, h.hl⟩⟩
  have hx := h.hx i hi
  rcases below8 hi with rfl | rfl | rfl | rfl | rfl | rfl | rfl | rfl <;> first | exact hx | rfl
 ·refine ⟨{ c with id_ := s }, rfl, rfl, rfl, rfl, ⟨fun i hi => ?_, h.hn, h.hl⟩⟩
  have hx := h.hx i hi
  rcases below8 hi with rfl | rfl | rfl | rfl | rfl | rfl | rfl | rfl <;> first | exact hx | rfl
theorem timeK_yes {s k : Nat} (hs : 0 ≤ timeD s) : timeK k (.num s) = .inr (timeD s) := if_pos hs
theorem timeK_no {s k : Nat} (hs : ¬ 0 ≤ timeD s) : timeK k (.num s) = .inl (250, path k) := if_neg hs
theorem setK_notext {t : Tr} (h : ∀ k, textK k t = .inl (5, path k)) {k : Nat} (hk : k = 0 ∨ k = 2 ∨ k = 5) (c : C) : setK c k t = .inl (5, path k) := by
 rcases hk with rfl | rfl | rfl
 ·rw [setK_0, h]
 ·rw [setK_2, h]
 ·rw [setK_5, h]
theorem setK_notime {t : Tr} {k : Nat} {y : Trl} (h : timeK k t = .inl y) (hk : k = 1 ∨ k = 4 ∨ k = 7) (c : C) : setK c k t = .inl y := by
 rcases hk with rfl | rfl | rfl
 ·rw [setK_1, h]
 ·rw [setK_4, h]
 ·rw [setK_7, h]
theorem setK_nolist3 {t : Tr} {y : Trl} (h : listK 3 true t = .inl y) (c : C) : setK c 3 t = .inl y := by rw [setK_3, h]
theorem setK_nolist6 {t : Tr} {y : Trl} (h : listK 6 false t = .inl y) (c : C) : setK c 6 t = .inl y := by rw [setK_6, h]
theorem dc_time {c : C} {v4 v7 : Value} {x : Nat → Txt} {n : Nat → Int} {l : Nat → Value} (h : DC c v4 v7 x n l) {k : Nat} {s : Nat} (hs : 0 ≤ timeD s) (hk : k = 1 ∨ k = 4 ∨ k = 7) : ∃ c', setK c k (.num s) = .inr c' ∧ c'.has = c.has ∧ c'.for_ = c.for_ ∧ c'.may_ = c.may_ ∧ DC c' v4 v7 x (upd n k (timeD s)) l := by
 rcases hk with rfl | rfl | rfl
 ·refine ⟨{ c with at_ := timeD s }, ?_, rfl, rfl, rfl, ⟨h.hx, fun i hi => ?_, h.hl⟩⟩
  ·rw [setK_1, timeK_yes hs]
  have hn := h.hn i hi
  rcases below8 hi with rfl | rfl | rfl | rfl | rfl | rfl | rfl | rfl <;> first | exact hn | rfl
 ·refine ⟨{ c with from_ := timeD s }, ?_, rfl, rfl, rfl, ⟨h.hx, fun i hi => ?_, h.hl⟩⟩
  ·rw [setK_4, timeK_yes hs]
  have hn := h.hn i hi
  rcases below8 hi with rfl | rfl | rfl | rfl | rfl | rfl | rfl | rfl <;> first | exact hn | rfl
 ·refine ⟨{ c with until_ := timeD s }, ?_, rfl, rfl, rfl, ⟨h.hx, fun i hi => ?_, h.hl⟩⟩
  ·rw [setK_7, timeK_yes hs]
  have hn := h.hn i hi
  rcases below8 hi with rfl | rfl | rfl | rfl | rfl | rfl | rfl | rfl <;> first | exact hn | rfl
theorem dc_list3 {c : C} {v4 v7 : Value} {x : Nat → Txt} {n : Nat → Int} {l : Nat → Value} (h : DC c v4 v7 x n l) {t : Tr} {ts : List Txt} (u : Value) (hs : listK 3 true t = .inr ts) : ∃ c', setK c 3 t = .inr c' ∧ c'.has = c.has ∧ c'.for_ = ts ∧ c'.may_ = c.may_ ∧ DC c' u v7 x n (upd l 3 u) := by
 refine ⟨{ c with for_ := ts }, ?_, rfl, rfl, rfl, ⟨fun i hi => ?_, fun i hi => ?_, fun i hi => ?_⟩⟩
 ·rw [setK_3, hs]
 ·have hx := h.hx i hi
  rcases below8 hi with rfl | rfl | rfl | rfl | rfl | rfl | rfl | rfl <;> exact hx
 ·have hn := h.hn i hi
  rcases below8 hi with rfl | rfl | rfl | rfl | rfl | rfl | rfl | rfl <;> exact hn
 ·have hl := h.hl i hi
  rcases below8 hi with rfl | rfl | rfl | rfl | rfl | rfl | rfl | rfl <;> first | exact hl | rfl
theorem dc_list6 {c : C} {v4 v7 : Value} {x : Nat → Txt} {n : Nat → Int} {l : Nat → Value} (h : DC c v4 v7 x n l) {t : Tr} {ts : List Txt} (u : Value) (hs : listK 6 false t = .inr ts) : ∃ c', setK c 6 t = .inr c' ∧ c'.has = c.has ∧ c'.may_ = ts ∧ c'.for_ = c.for_ ∧ DC c' v4 u x n (upd l 6 u) := by
 refine ⟨{ c with may_ := ts }, ?_, rfl, rfl, rfl, ⟨fun i hi => ?_, fun i hi => ?_, fun i hi => ?_⟩⟩
 ·rw [setK_6, hs]
 ·have hx := h.hx i hi
  rcases below8 hi with rfl | rfl | rfl | rfl | rfl | rfl | rfl | rfl <;> exact hx
 ·have hn := h.hn i hi
  rcases below8 hi with rfl | rfl | rfl | rfl | rfl | rfl | rfl | rfl <;> exact hn
 ·have hl := h.hl i hi
  rcases below8 hi with rfl | rfl | rfl | rfl | rfl | rfl | rfl | rfl <;> first | exact hl | rfl
end Nd
end Go.Proofs.YtobaldkipnhlpaaGreatDoor
