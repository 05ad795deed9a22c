/-
  Bind of whole numbers and of texts; the statements' own functions fault and wakes of layer 16.
-/
import Derived.Test.YtbajkglacfheiaaGreatDoorBvE
import Derived.Test.YtbajkglacfheiaaGreatDoorGF
namespace Go.Proofs.YtbajkglacfheiaaGreatDoor
open Go.RowKit Mem Utf Ref3 Idx Tok TokC
set_option linter.unusedVariables false
set_option linter.unusedSimpArgs false
namespace Nd
theorem later_join {R : World → Ending → World → Prop} {w : World} {e : Ending} {w' : World} (h : Later (Later R) w e w') : Later R w e w' := by
  obtain ⟨W, hb, W2, hb2, hr⟩ := h
  exact ⟨W2, hb.trans (hb2.mono hb.size), hr⟩
theorem bindP_join {R : Tr → World → Ending → World → Prop} {t : Tr} {l : Tx} {w : World} {e : Ending} {w' : World} (h : BindP (fun u => Later (R u)) t l w e w') : BindP R t l w e w' := by
  unfold BindP at h ⊢
  split at h
  · exact h
  · split at h
    · exact h
    · exact later_join h
/-- what is bound of a value as a whole number -/
def WholeR (k : Nat) (p : Tx) (u : Tr) (W : World) (e : Ending) (w' : World) : Prop :=
  if u.isNb = true then BwP k p (intD k u.nb) W e w' else e = .returned (.tuple #[.nilIface, trlV 5 p]) ∧ Below W.heap.size W w'
/-- the characters of a right text -/
noncomputable def runesOf (s : Tx) : List Nat := if h : rightB s = true then Classical.choose (right_runes h) else []
theorem runesOf_right {s : Tx} (h : rightB s = true) : (∀ r ∈ runesOf s, okR r) ∧ s = (runesOf s).flatMap encB := by
  have e : runesOf s = Classical.choose (right_runes h) := dif_pos h
  rw [e]
  exact Classical.choose_spec (right_runes h)
/-- what is bound of a value as a text -/
def TextR (k : Nat) (p : Tx) (u : Tr) (W : World) (e : Ending) (w' : World) : Prop :=
  if u.isTx = true then TxtP k u.tx (runesOf u.tx) W e w' else e = .returned (.tuple #[.nilIface, trlV 5 p]) ∧ Below W.heap.size W w'
theorem wholeR_two {k : Nat} {p : Tx} {u : Tr} {W : World} {e : Ending} {w' : World} (h : WholeR k p u W e w') : ∃ a b, e = .returned (.tuple #[a, b]) := by
  unfold WholeR at h
  split at h
  · unfold BwP at h
    obtain ⟨h, _⟩ := h
    split at h
    · exact ⟨_, _, h⟩
    · exact ⟨_, _, h⟩
  · exact ⟨_, _, h.1⟩
theorem textR_two {k : Nat} {p : Tx} {u : Tr} {W : World} {e : Ending} {w' : World} (h : TextR k p u W e w') : ∃ a b, e = .returned (.tuple #[a, b]) := by
  unfold TextR at h
  split at h
  · obtain ⟨h, _⟩ := h
    split at h
    · exact ⟨_, _, h⟩
    · split at h
      · obtain ⟨g, cap, h, _⟩ := h
        exact ⟨_, _, h⟩
      · obtain ⟨v, h, _⟩ := h
        exact ⟨_, _, h⟩
  · exact ⟨_, _, h.1⟩
theorem bwholeR (k : Nat) (h3 : 3 ≤ k) (h10 : k ≤ 10) (u : Tr) (v : Value) (p : Tx) (w : World) (h : RdA w u v) (ho : u.Ok) : Calls Tryz.prog 88 #[.agg #[v], .string ⟨p.toArray⟩, .int .i64 (k : Int)] w (WholeR k p u w) := by
  by_cases hn : u.isNb = true
  · cases u <;> simp [Tr.isNb] at hn
    rename_i x
    refine (bwhole_k k h3 h10 x v p w h ho.2.2 ho.1).mono fun e w' hp => ?_
    unfold WholeR
    rw [if_pos (show (Tr.num x).isNb = true from rfl)]
    exact hp
  · refine (bwhole_no k u (by simpa using hn) v p w h).mono fun e w' hp => ?_
    unfold WholeR
    rw [if_neg hn]
    exact hp
theorem btextR (k : Nat) (h15 : 15 ≤ k) (h17 : k ≤ 17) (u : Tr) (v : Value) (p : Tx) (w : World) (h : RdA w u v) (ho : u.Ok) (hf : u.fit = true) : Calls Tryz.prog 86 #[.agg #[v], .string ⟨p.toArray⟩, .int .i64 (k : Int)] w (TextR k p u w) := by
  by_cases hn : u.isTx = true
  · cases u <;> simp [Tr.isTx] at hn
    rename_i s
    have hr : rightB s = true := ho
    have hlen : s.length ≤ 2097152 := (fit_le hf).2.1
    obtain ⟨h1, h2⟩ := runesOf_right hr
    have fin : ∀ e w', TxtP k s (runesOf s) w e w' → TextR k p (.text s) w e w' := fun e w' hp => by
      unfold TextR
      rw [if_pos (show (Tr.text s).isTx = true from rfl)]
      exact hp
    rcases (by omega : k = 15 ∨ k = 16 ∨ k = 17) with rfl | rfl | rfl
    · exact (txt_15 s _ v p w h).mono fin
    · exact (txt_16 s _ h1 h2 hlen v p w h).mono fin
    · exact (txt_17 s _ h1 h2 hr hlen v p w h).mono fin
  · refine (txt_no k u (by simpa using hn) v p w h).mono fun e w' hp => ?_
    unfold TextR
    rw [if_neg hn]
    exact hp
theorem bound_wholeR (k : Nat) (h3 : 3 ≤ k) (h10 : k ≤ 10) (u : Tr) (v : Value) (p : Tx) (w : World) (h : RdA w u v) (ho : u.Ok) : Calls Tryz.prog 34 #[.agg #[v], .string ⟨p.toArray⟩, .int .i64 (k : Int)] w (Later (WholeR k p u) w) := by
  have hc := fun W (hb : Below w.heap.size w W) => bwholeR k h3 h10 u v p W (rda_below h hb) ho
  rcases (by omega : k = 3 ∨ k = 4 ∨ k = 5 ∨ k = 6 ∨ k = 7 ∨ k = 8 ∨ k = 9 ∨ k = 10) with rfl | rfl | rfl | rfl | rfl | rfl | rfl | rfl
  · exact bound_3 _ v p w hc fun _ _ _ => wholeR_two
  · exact bound_4 _ v p w hc fun _ _ _ => wholeR_two
  · exact bound_5 _ v p w hc fun _ _ _ => wholeR_two
  · exact bound_6 _ v p w hc fun _ _ _ => wholeR_two
  · exact bound_7 _ v p w hc fun _ _ _ => wholeR_two
  · exact bound_8 _ v p w hc fun _ _ _ => wholeR_two
  · exact bound_9 _ v p w hc fun _ _ _ => wholeR_two
  · exact bound_10 _ v p w hc fun _ _ _ => wholeR_two
theorem bound_textR (k : Nat) (h15 : 15 ≤ k) (h17 : k ≤ 17) (u : Tr) (v : Value) (p : Tx) (w : World) (h : RdA w u v) (ho : u.Ok) (hf : u.fit = true) : Calls Tryz.prog 34 #[.agg #[v], .string ⟨p.toArray⟩, .int .i64 (k : Int)] w (Later (TextR k p u) w) := by
  have hc := fun W (hb : Below w.heap.size w W) => btextR k h15 h17 u v p W (rda_below h hb) ho hf
  rcases (by omega : k = 15 ∨ k = 16 ∨ k = 17) with rfl | rfl | rfl
  · exact bound_15 _ v p w hc fun _ _ _ => textR_two
  · exact bound_16 _ v p w hc fun _ _ _ => textR_two
  · exact bound_17 _ v p w hc fun _ _ _ => textR_two
theorem bind_whole (k : Nat) (h3 : 3 ≤ k) (h10 : k ≤ 10) (g : Nat) (t : Tr) (v : Value) (l : Tx) (w0 w : World) (hB : Blk w0 g 123 #[v]) (h : RdA w0 t v) (hb0 : Below w0.heap.size w0 w) (ho : t.Ok) (hf : t.fit = true) (hl : l.length ≤ 4194304) (hG : Glob w) (hT : Tab w) :
    Calls Tryz.prog 9 #[.pointer (some ⟨g, 0, none⟩), .string ⟨l.toArray⟩, .int .i64 (k : Int)] w (BindP (WholeR k l) t l w) :=
  (bind_any (fun u => Later (WholeR k l u)) k (by omega) (by omega) g t v l w0 w hB h hb0 ho hf hl hG hT (fun u tx ux W hb hr ho _ => bound_wholeR k h3 h10 u _ l W hr ho) (fun u W e w' ⟨_, _, hr⟩ => wholeR_two hr)).mono fun e w' hp => bindP_join hp
theorem bind_text (k : Nat) (h15 : 15 ≤ k) (h17 : k ≤ 17) (g : Nat) (t : Tr) (v : Value) (l : Tx) (w0 w : World) (hB : Blk w0 g 123 #[v]) (h : RdA w0 t v) (hb0 : Below w0.heap.size w0 w) (ho : t.Ok) (hf : t.fit = true) (hl : l.length ≤ 4194304) (hG : Glob w) (hT : Tab w) :
    Calls Tryz.prog 9 #[.pointer (some ⟨g, 0, none⟩), .string ⟨l.toArray⟩, .int .i64 (k : Int)] w (BindP (TextR k l) t l w) :=
  (bind_any (fun u => Later (TextR k l u)) k (by omega) (by omega) g t v l w0 w hB h hb0 ho hf hl hG hT (fun u tx ux W hb hr ho hf => bound_textR k h15 h17 u _ l W hr ho hf) (fun u W e w' ⟨_, _, hr⟩ => textR_two hr)).mono fun e w' hp => bindP_join hp
/-! ### the law's fault -/
theorem f16_no_no (v : Value) (w : World) : (Instr.typeAssert (.iface 113 v) 25 113 true).run Tryz.prog w = .ok (.tuple #[v, .bool true]) w := by kernel_rfl
theorem f16_spot_no (v : Value) (w : World) : (Instr.typeAssert (.iface 122 v) 25 113 true).run Tryz.prog w = .ok (.tuple #[.int .i64 0, .bool false]) w := by kernel_rfl
theorem f16_spot_spot (v : Value) (w : World) : (Instr.typeAssert (.iface 122 v) 25 122 true).run Tryz.prog w = .ok (.tuple #[v, .bool true]) w := by kernel_rfl
theorem f16_tr_no (v : Value) (w : World) : (Instr.typeAssert (.iface 139 v) 25 113 true).run Tryz.prog w = .ok (.tuple #[.int .i64 0, .bool false]) w := by kernel_rfl
theorem f16_tr_spot (v : Value) (w : World) : (Instr.typeAssert (.iface 139 v) 25 122 true).run Tryz.prog w = .ok (.tuple #[.agg #[.int .i64 0, .int .i64 0], .bool false]) w := by kernel_rfl
theorem f16_tr_tr (v : Value) (w : World) : (Instr.typeAssert (.iface 139 v) 25 139 true).run Tryz.prog w = .ok (.tuple #[v, .bool true]) w := by kernel_rfl
theorem bind_wholeI (K : Int) (k : Nat) (hK : K = (k : Int)) (h3 : 3 ≤ k) (h10 : k ≤ 10) (g : Nat) (t : Tr) (v : Value) (l : Tx) (w0 w : World) (hB : Blk w0 g 123 #[v]) (h : RdA w0 t v) (hb0 : Below w0.heap.size w0 w) (ho : t.Ok) (hf : t.fit = true) (hl : l.length ≤ 4194304) (hG : Glob w) (hT : Tab w) :
    Calls Tryz.prog 9 #[.pointer (some ⟨g, 0, none⟩), .string ⟨l.toArray⟩, .int .i64 K] w (BindP (WholeR k l) t l w) := by
  subst hK
  exact bind_whole k h3 h10 g t v l w0 w hB h hb0 ho hf hl hG hT
theorem bind_textI (K : Int) (k : Nat) (hK : K = (k : Int)) (h15 : 15 ≤ k) (h17 : k ≤ 17) (g : Nat) (t : Tr) (v : Value) (l : Tx) (w0 w : World) (hB : Blk w0 g 123 #[v]) (h : RdA w0 t v) (hb0 : Below w0.heap.size w0 w) (ho : t.Ok) (hf : t.fit = true) (hl : l.length ≤ 4194304) (hG : Glob w) (hT : Tab w) :
    Calls Tryz.prog 9 #[.pointer (some ⟨g, 0, none⟩), .string ⟨l.toArray⟩, .int .i64 K] w (BindP (TextR k l) t l w) := by
  subst hK
  exact bind_text k h15 h17 g t v l w0 w hB h hb0 ho hf hl hG hT
set_option maxRecDepth 100000 in
set_option maxHeartbeats 8000000 in
theorem fault16_no (n a : Int) (p : Tx) (ha : a < 0) (w : World) :
    Calls Tryz.prog 19 #[.iface 113 (.int .i64 n), .agg #[.int .i64 n, .int .i64 a, .bool false, .string ⟨p.toArray⟩]] w fun e w' => e = .returned (.bool true) ∧ Below w.heap.size w w' := by
  have t1 := f16_no_no
  have e1 : (n == n) = true := by simp
  have e2 : (p == p) = true := by simp
  go_enter Tryz.func19, Tryz.ntmps19
  go_wp2
  go_ret
  exact ⟨rfl, (Below.refl _ _).alloc (Nat.le_refl _) _⟩
set_option maxRecDepth 100000 in
set_option maxHeartbeats 8000000 in
theorem fault16_spot (n a : Int) (p : Tx) (ha : 0 ≤ a) (w : World) :
    Calls Tryz.prog 19 #[.iface 122 (.agg #[.int .i64 n, .int .i64 a]), .agg #[.int .i64 n, .int .i64 a, .bool false, .string ⟨p.toArray⟩]] w fun e w' => e = .returned (.bool true) ∧ Below w.heap.size w w' := by
  have t1 := f16_spot_no
  have t2 := f16_spot_spot
  have e1 : (n == n) = true := by simp
  have e2 : (p == p) = true := by simp
  go_enter Tryz.func19, Tryz.ntmps19
  go_wp2
  go_ret
  exact ⟨rfl, ((Below.refl _ _).alloc (Nat.le_refl _) _).alloc (by simp) _⟩
set_option maxRecDepth 100000 in
set_option maxHeartbeats 8000000 in
theorem fault16_trail (n a : Int) (p : Tx) (w : World) :
    Calls Tryz.prog 19 #[trlV n p, .agg #[.int .i64 n, .int .i64 a, .bool true, .string ⟨p.toArray⟩]] w fun e w' => e = .returned (.bool true) ∧ Below w.heap.size w w' := by
  unfold trlV
  have t1 := f16_tr_no
  have t2 := f16_tr_spot
  have t3 := f16_tr_tr
  have e1 : (n == n) = true := by simp
  have e2 : (p == p) = true := by simp
  go_enter Tryz.func19, Tryz.ntmps19
  go_wp2
  go_ret
  exact ⟨rfl, ((Below.refl _ _).alloc (Nat.le_refl _) _).alloc (by simp) _⟩
theorem fault16_err (n a : Int) (p : Tx) (w : World) :
    Calls Tryz.prog 19 #[Go.Proofs.YtbajkglacfheiaaGreatDoor.errV n a, .agg #[.int .i64 n, .int .i64 a, .bool false, .string ⟨p.toArray⟩]] w
      fun e w' => e = .returned (.bool true) ∧ Below w.heap.size w w' := by
  by_cases h : a < 0
  · rw [Go.Proofs.YtbajkglacfheiaaGreatDoor.errV, if_pos h]
    exact fault16_no n a p h w
  · rw [errV_at n h]
    exact fault16_spot n a p (by omega) w
/-! ### wakes -/
def wk16 : List Stp := [⟨3, false, 4643985272004935680, [], 0, []⟩]
theorem wk16_build : buildT wk16 = .inr (.num 4643985272004935680) := by rfl
theorem wk16_fine : ∀ s ∈ wk16, s.Fine := by
  intro s hs
  simp [wk16] at hs
  subst hs
  exact ⟨by decide, by decide, by simp, by decide, by decide⟩
abbrev wk16Cells : Array Value := #[.int .i64 3, .bool false, .int .u64 4643985272004935680, .string ⟨([] : Tx).toArray⟩, .int .i64 0, .slice none 0 0]
theorem wk16_rd (w : World) (t : TypeId) : RdS (w.alloc (.cells wk16Cells t)) (.slice (some ⟨w.heap.size, 0, none⟩) 1 1) wk16 := by
  have hB := Blk.new w t wk16Cells
  refine ⟨_, _, rfl, .inr ⟨w.heap.size, 0, rfl, fun j s hs => ?_⟩⟩
  have hk : RdK (w.alloc (.cells wk16Cells t)) (.slice none 0 0) [] := ⟨none, 0, rfl, .inl rfl⟩
  match j, hs with
  | 0, hs =>
    injection hs with hs
    subst hs
    exact ⟨none, 0, hB.cell 0, hB.cell 1, hB.cell 2, hB.cell 3, hB.cell 4, hB.cell 5, hk, Nat.le_refl _⟩
  | j + 1, hs => cases hs
theorem val300 : finB 4643985272004935680 = true ∧ wholeD 4643985272004935680 = some 300 := by
  have e : bitsZ 300 = 4643985272004935680 := by decide
  have h := bitsZ_val (z := 300) (by decide)
  rw [e] at h
  exact ⟨h.1, whole_of h.2⟩
theorem int300_4 : intD 4 4643985272004935680 = .inr 300 := intD_y val300.2 (by decide) (by decide)
theorem int300_7 : intD 7 4643985272004935680 = .inl 161 := intD_f val300.2 (by decide)
theorem parse_nil : parseS (wrong []) [] = .ok [] := parse_of_print (w := wrong []) (ts := []) (by decide) (by decide)
theorem bindP_nil {R : Tr → World → Ending → World → Prop} {t : Tr} {w : World} {e : Ending} {w' : World} (h : BindP R t [] w e w') : Later (R t) w e w' := by
  unfold BindP at h
  rw [parse_nil] at h
  exact h
theorem ta_i16 (v : Value) (W : World) : (Instr.typeAssert (.iface 127 v) 29 127 true).run Tryz.prog W = .ok (.tuple #[v, .bool true]) W := by kernel_rfl
set_option maxRecDepth 100000 in
set_option maxHeartbeats 8000000 in
theorem wakes16_any (w : World) (hG : Glob w) (hT : Tab w) : Calls Tryz.prog 10 #[] w fun e w' => e = .returned (.bool true) ∧ Below w.heap.size w w' := by
  have q1 := err_ne_nil
  have q3 := err_eq_nil
  have hfb := f64bits 4643985272004935680
  have t1 := ta_i16
  have HG := Lib.hid hG
  have HT := Lib.hid hT
  clear hG hT
  go_enter Tryz.func10, Tryz.ntmps10
  go_wp2_with fail
  ((with_reducible refine (build_any _ wk16 _ (wk16_rd w _) wk16_fine (by decide)).mono ?_); intro e w1 hP)
  obtain ⟨hb1, hP⟩ := hP
  simp only [wk16_build] at hP
  obtain ⟨g, rfl, _, hfit, v, hBt, hrd⟩ := hP
  have hbw : Below w.heap.size w w1 := ((Below.refl _ _).alloc (Nat.le_refl _) _).trans (hb1.mono (by simp))
  have HB1 := Lib.hid hbw
  have hok : (Tr.num 4643985272004935680).Ok := (buildT_ok wk16_fine wk16_build).1
  have hra : RdA w1 (.num 4643985272004935680) v := RdT.move (fun j hj hs => ⟨trivial, rfl⟩) _ _ hrd
  have HBT := Lib.hid (And.intro hBt (And.intro hra (And.intro hok hfit)))
  clear hb1 hBt hrd hfit hra hok hbw
  go_wp2_with fail
  ((with_reducible refine (bind_wholeI 4 4 rfl (by omega) (by omega) g _ v [] w1 _ HBT.out.1 HBT.out.2.1 (Below.refl _ _) HBT.out.2.2.1 HBT.out.2.2.2 (by decide) (HG.out.next HB1.out) (HT.out.next HB1.out)).mono ?_); intro e w2 hp)
  obtain ⟨W2, hbW, hp⟩ := bindP_nil hp
  unfold WholeR at hp
  rw [if_pos (show (Tr.num 4643985272004935680).isNb = true from rfl)] at hp
  unfold BwP at hp
  dsimp only [Tr.nb] at hp
  rw [int300_4] at hp
  obtain ⟨rfl, hb2⟩ := hp
  have HB2 := Lib.hid (HB1.out.trans ((hbW.trans (hb2.mono hbW.size)).mono HB1.out.size))
  have HBX := Lib.hid (hbW.trans (hb2.mono hbW.size))
  clear hbW hb2
  unfold intV
  simp only [Nat.reduceEqDiff, if_true, if_false]
  go_wp2_with fail
  ((with_reducible refine (bind_wholeI 7 7 rfl (by omega) (by omega) g _ v [] w1 _ HBT.out.1 HBT.out.2.1 HBX.out HBT.out.2.2.1 HBT.out.2.2.2 (by decide) (HG.out.next HB2.out) (HT.out.next HB2.out)).mono ?_); intro e w3 hp)
  obtain ⟨W3, hbW, hp⟩ := bindP_nil hp
  unfold WholeR at hp
  rw [if_pos (show (Tr.num 4643985272004935680).isNb = true from rfl)] at hp
  unfold BwP at hp
  dsimp only [Tr.nb] at hp
  rw [int300_7] at hp
  obtain ⟨rfl, hb2⟩ := hp
  have HB3 := Lib.hid (HB2.out.trans ((hbW.trans (hb2.mono hbW.size)).mono HB2.out.size))
  clear hbW hb2
  have HF := Lib.hid (fault16_trail 161 0 [])
  unfold trlV at HF ⊢
  go_wp2_with fail
  ((with_reducible refine (HF.out _).mono ?_); rintro e w4 ⟨rfl, hb4⟩)
  have HB4 := Lib.hid (HB3.out.trans (hb4.mono HB3.out.size))
  clear hb4
  go_wp2
  go_ret
  exact ⟨rfl, HB4.out⟩
end Nd
end Go.Proofs.YtbajkglacfheiaaGreatDoor

