/-
  Walks of package claims: Read.
-/
import Derived.Test.YtbcckpnngonoeaaGreatDoorCrY
import Derived.Test.YtbcckpnngonoeaaGreatDoorGF
namespace Go.Proofs.YtbcckpnngonoeaaGreatDoor
open Go.RowKit Mem Utf Ref3 Idx Tok TokC Cl
set_option linter.unusedVariables false
set_option linter.unusedSimpArgs false
namespace Nd
def zClaims : Array Value := #[.slice none 0 0, .string ⟨#[]⟩, .int .i64 0, .string ⟨#[]⟩, .slice none 0 0, .int .i64 0, .string ⟨#[]⟩, .slice none 0 0, .int .i64 0]
/-- nine cells written anew -/
abbrev nineW (w : World) (P : Nat) (a b c d e f g h i : Value) : World := ((((((((w.setCell ⟨P, 0, none⟩ a).setCell ⟨P, 1, none⟩ b).setCell ⟨P, 2, none⟩ c).setCell ⟨P, 3, none⟩ d).setCell ⟨P, 4, none⟩ e).setCell ⟨P, 5, none⟩ f).setCell ⟨P, 6, none⟩ g).setCell ⟨P, 7, none⟩ h).setCell ⟨P, 8, none⟩ i
theorem nine_grown (w : World) (P : Nat) (a b c d e f g h i : Value) : w.grownBy (nineW w P a b c d e f g h i) (some P) := grown_put (grown_put (grown_put (grown_put (grown_put (grown_put (grown_put (grown_put (grown_put (grown_refl w _) 0 _) 1 _) 2 _) 3 _) 4 _) 5 _) 6 _) 7 _) 8 _
theorem nine_blk {w : World} {P : Nat} {t : TypeId} {z0 z1 z2 z3 z4 z5 z6 z7 z8 : Value} (h : Blk w P t #[z0, z1, z2, z3, z4, z5, z6, z7, z8]) (a b c d e f g k i : Value) : Blk (nineW w P a b c d e f g k i) P t #[a, b, c, d, e, f, g, k, i] := by
  have h0 : Blk (w.setCell ⟨P, 0, none⟩ a) P t #[a, z1, z2, z3, z4, z5, z6, z7, z8] := h.put 0 a
  have h1 : Blk ((w.setCell ⟨P, 0, none⟩ a).setCell ⟨P, 1, none⟩ b) P t #[a, b, z2, z3, z4, z5, z6, z7, z8] := h0.put 1 b
  have h2 : Blk (((w.setCell ⟨P, 0, none⟩ a).setCell ⟨P, 1, none⟩ b).setCell ⟨P, 2, none⟩ c) P t #[a, b, c, z3, z4, z5, z6, z7, z8] := h1.put 2 c
  have h3 : Blk ((((w.setCell ⟨P, 0, none⟩ a).setCell ⟨P, 1, none⟩ b).setCell ⟨P, 2, none⟩ c).setCell ⟨P, 3, none⟩ d) P t #[a, b, c, d, z4, z5, z6, z7, z8] := h2.put 3 d
  have h4 : Blk (((((w.setCell ⟨P, 0, none⟩ a).setCell ⟨P, 1, none⟩ b).setCell ⟨P, 2, none⟩ c).setCell ⟨P, 3, none⟩ d).setCell ⟨P, 4, none⟩ e) P t #[a, b, c, d, e, z5, z6, z7, z8] := h3.put 4 e
  have h5 : Blk ((((((w.setCell ⟨P, 0, none⟩ a).setCell ⟨P, 1, none⟩ b).setCell ⟨P, 2, none⟩ c).setCell ⟨P, 3, none⟩ d).setCell ⟨P, 4, none⟩ e).setCell ⟨P, 5, none⟩ f) P t #[a, b, c, d, e, f, z6, z7, z8] := h4.put 5 f
  have h6 : Blk (((((((w.setCell ⟨P, 0, none⟩ a).setCell ⟨P, 1, none⟩ b).setCell ⟨P, 2, none⟩ c).setCell ⟨P, 3, none⟩ d).setCell ⟨P, 4, none⟩ e).setCell ⟨P, 5, none⟩ f).setCell ⟨P, 6, none⟩ g) P t #[a, b, c, d, e, f, g, z7, z8] := h5.put 6 g
  have h7 : Blk ((((((((w.setCell ⟨P, 0, none⟩ a).setCell ⟨P, 1, none⟩ b).setCell ⟨P, 2, none⟩ c).setCell ⟨P, 3, none⟩ d).setCell ⟨P, 4, none⟩ e).setCell ⟨P, 5, none⟩ f).setCell ⟨P, 6, none⟩ g).setCell ⟨P, 7, none⟩ k) P t #[a, b, c, d, e, f, g, k, z8] := h6.put 7 k
  have h8 : Blk (((((((((w.setCell ⟨P, 0, none⟩ a).setCell ⟨P, 1, none⟩ b).setCell ⟨P, 2, none⟩ c).setCell ⟨P, 3, none⟩ d).setCell ⟨P, 4, none⟩ e).setCell ⟨P, 5, none⟩ f).setCell ⟨P, 6, none⟩ g).setCell ⟨P, 7, none⟩ k).setCell ⟨P, 8, none⟩ i) P t #[a, b, c, d, e, f, g, k, i] := h7.put 8 i
  exact h8
theorem rows_rd {w : World} {g : Nat} {rd : Nat → FuncId × Array Value} (h : Blk w g 153 (rowCells rd)) {k : Nat} (hk : k < 8) : w.cell? ⟨g, k * 5 + 1, none⟩ = some (.func (.func (rd k).1) #[] (rd k).2) := by
  have hc := fun i => h.cell i
  unfold rowCells at hc
  rcases below8 hk with rfl | rfl | rfl | rfl | rfl | rfl | rfl | rfl
  · exact hc 1
  · exact hc 6
  · exact hc 11
  · exact hc 16
  · exact hc 21
  · exact hc 26
  · exact hc 31
  · exact hc 36
theorem key_fine {k : Nat} (hk : k < 8) : rightB (key k) = true ∧ (key k).length ≤ 10 := by
  rcases below8 hk with rfl | rfl | rfl | rfl | rfl | rfl | rfl | rfl <;> decide
theorem path_cat (K : Txt) : (⟨#[47]⟩ : ByteArray) ++ ⟨K.toArray⟩ = ⟨(47 :: K).toArray⟩ := by
  apply ByteArray.ext
  simp
theorem info_err : (Tryz.prog.info? 30).map (fun i => (i.zero, i.size, i.bytes)) = some (some .nilIface, 1, 16) := by kernel_rfl
theorem readAt_none {t : Tr} {k : Nat} (h : onT (key k) t = none) : readAt t (k + 1) = readAt t k := by
  rw [readAt, readK, h]
theorem readAt_ok {t u : Tr} {k : Nat} {d : C} (h : onT (key k) t = some u) (hs : setK (withHas (readAt t k).1 k) k u = .inr d) : readAt t (k + 1) = (d, (readAt t k).2) := by
  rw [readAt, readK, h]
  dsimp only
  rw [hs]
theorem readAt_err {t u : Tr} {k : Nat} {e : Trl} (h : onT (key k) t = some u) (hs : setK (withHas (readAt t k).1 k) k u = .inl e) : readAt t (k + 1) = (withHas (readAt t k).1 k, (readAt t k).2 ++ [e]) := by
  rw [readAt, readK, h]
  dsimp only
  rw [hs]
set_option maxRecDepth 100000 in
set_option maxHeartbeats 16000000 in
theorem readt_nil (w : World) : Calls Tryz.prog 13 #[.pointer none] w fun e w' => e = .returned (.tuple #[.agg zClaims, .iface 46 (.int .i64 1)]) ∧ Below w.heap.size w w' := by
  have hb : Below w.heap.size w (w.alloc (.cells #[.slice none 0 0, .string ⟨#[]⟩, .int .i64 0, .string ⟨#[]⟩, .slice none 0 0, .int .i64 0, .string ⟨#[]⟩, .slice none 0 0, .int .i64 0] 24)) := (Below.refl _ _).alloc (Nat.le_refl _) _
  go_enter Tryz.func13, Tryz.ntmps13
  go_wp2
  refine bodyPost_ret (v := .tuple #[.agg #[.slice none 0 0, .string ⟨#[]⟩, .int .i64 0, .string ⟨#[]⟩, .slice none 0 0, .int .i64 0, .string ⟨#[]⟩, .slice none 0 0, .int .i64 0], .iface 46 (.int .i64 1)]) ?_ rfl ⟨rfl, ?_⟩
  · simp [results, Tryz.results13, go_sem]
  · exact hb
/-- what an object's claims come to -/
def ReadOP (t : Tr) (w : World) (e : Ending) (w' : World) : Prop :=
  (if (readC t).2 = [] then ∃ v0 v4 v7, e = .returned (.tuple #[.agg (clCells (readC t).1 v0 v4 v7), .nilIface]) ∧ OwnT w.heap.size w' v0 (readC t).1.has ∧ OwnT w.heap.size w' v4 (readC t).1.for_ ∧ OwnT w.heap.size w' v7 (readC t).1.may_
  else ∃ va, e = .returned (.tuple #[.agg zClaims, .iface 145 va]) ∧ OwnE w.heap.size w' va (readC t).2) ∧ Below w.heap.size w w'
set_option maxRecDepth 100000 in
set_option maxHeartbeats 16000000 in
theorem readt_sort (g : Nat) (t : Tr) (v : Value) (w0 w : World) (hB : Blk w0 g 108 #[v]) (h : RdA w0 t v) (hb0 : Below w0.heap.size w0 w) (hs : ¬ (t.srt : Int) = 6) : Calls Tryz.prog 13 #[.pointer (some ⟨g, 0, none⟩)] w fun e w' => e = .returned (.tuple #[.agg zClaims, tlV (5, [])]) ∧ Below w.heap.size w w' := by
  have hs6 : ((t.srt : Int) != 6) = true := by simpa using hs
  clear hs
  have hb1 : Below w.heap.size w (w.alloc (.cells #[.slice none 0 0, .string ⟨#[]⟩, .int .i64 0, .string ⟨#[]⟩, .slice none 0 0, .int .i64 0, .string ⟨#[]⟩, .slice none 0 0, .int .i64 0] 24)) := (Below.refl _ _).alloc (Nat.le_refl _) _
  have HBR := Lib.hid (Blk.new w 24 #[.slice none 0 0, .string ⟨#[]⟩, .int .i64 0, .string ⟨#[]⟩, .slice none 0 0, .int .i64 0, .string ⟨#[]⟩, .slice none 0 0, .int .i64 0])
  obtain ⟨tx, ux, rfl⟩ := h.iface
  have HR := Lib.hid h
  have HB0 := Lib.hid hb0
  have HTB := Lib.hid (hB.below (hb0.trans (hb1.mono hb0.size)) hB.lt)
  have HB1 := Lib.hid hb1
  clear hB h hb0 hb1
  go_enter Tryz.func13, Tryz.ntmps13
  go_wp2_with fail
  ((with_reducible refine (root_any g _ tx ux _ HTB.out).mono ?_); rintro e w1 ⟨rfl, hb2⟩)
  have HB2 := Lib.hid (HB1.out.trans (hb2.mono HB1.out.size))
  have HBR1 := Lib.hid (HBR.out.below hb2 HBR.out.lt)
  have hbr : Below w1.heap.size w1 (w1.alloc (.cells #[.iface tx ux] 140)) := (Below.refl _ _).alloc (Nat.le_refl _) _
  have HBX := Lib.hid (Blk.new w1 140 #[.iface tx ux])
  have HB3 := Lib.hid (HB2.out.trans (hbr.mono HB2.out.size))
  have HBR2 := Lib.hid (HBR1.out.below hbr HBR1.out.lt)
  have cx := HBX.out.cell 0
  simp at cx
  clear hb2 hbr HBR HBR1 HTB
  go_wp2_with fail
  ((with_reducible refine (sort_any (fun _ => True) t (.iface tx ux) _ (rda_below HR.out (HB0.out.trans (HB3.out.mono HB0.out.size)))).mono ?_); rintro e w2 ⟨rfl, hb4⟩)
  have HB4 := Lib.hid (HB3.out.trans (hb4.mono HB3.out.size))
  have HBX4 := Lib.hid (HBX.out.below hb4 HBX.out.lt)
  have HBR4 := Lib.hid (HBR2.out.below hb4 HBR2.out.lt)
  clear hb4 cx HBX HBR2
  have z0 := HBR4.out.cell 0
  have z1 := HBR4.out.cell 1
  have z2 := HBR4.out.cell 2
  have z3 := HBR4.out.cell 3
  have z4 := HBR4.out.cell 4
  have z5 := HBR4.out.cell 5
  have z6 := HBR4.out.cell 6
  have z7 := HBR4.out.cell 7
  have z8 := HBR4.out.cell 8
  have y0 := HBR4.out.frozen 0
  have y1 := HBR4.out.frozen 1
  have y2 := HBR4.out.frozen 2
  have y3 := HBR4.out.frozen 3
  have y4 := HBR4.out.frozen 4
  have y5 := HBR4.out.frozen 5
  have y6 := HBR4.out.frozen 6
  have y7 := HBR4.out.frozen 7
  have y8 := HBR4.out.frozen 8
  simp at z0 z1 z2 z3 z4 z5 z6 z7 z8
  go_wp2_with fail
  ((with_reducible refine (ctrail_any 5 [] _).mono ?_); rintro e w3 ⟨rfl, rfl⟩)
  go_wp2
  have hf := nine_blk HBR4.out (.slice none 0 0) (.string ⟨#[]⟩) (.int .i64 0) (.string ⟨#[]⟩) (.slice none 0 0) (.int .i64 0) (.string ⟨#[]⟩) (.slice none 0 0) (.int .i64 0)
  have hg := nine_grown w2 w.heap.size (.slice none 0 0) (.string ⟨#[]⟩) (.int .i64 0) (.string ⟨#[]⟩) (.slice none 0 0) (.int .i64 0) (.string ⟨#[]⟩) (.slice none 0 0) (.int .i64 0)
  unfold nineW at hf hg
  generalize (((((((((w2.setCell ⟨w.heap.size, 0, none⟩ (.slice none 0 0)).setCell ⟨w.heap.size, 1, none⟩ (.string ⟨#[]⟩)).setCell ⟨w.heap.size, 2, none⟩ (.int .i64 0)).setCell ⟨w.heap.size, 3, none⟩ (.string ⟨#[]⟩)).setCell ⟨w.heap.size, 4, none⟩ (.slice none 0 0)).setCell ⟨w.heap.size, 5, none⟩ (.int .i64 0)).setCell ⟨w.heap.size, 6, none⟩ (.string ⟨#[]⟩)).setCell ⟨w.heap.size, 7, none⟩ (.slice none 0 0)).setCell ⟨w.heap.size, 8, none⟩ (.int .i64 0)) = wf at *
  have e0 := hf.cell 0
  have e1 := hf.cell 1
  have e2 := hf.cell 2
  have e3 := hf.cell 3
  have e4 := hf.cell 4
  have e5 := hf.cell 5
  have e6 := hf.cell 6
  have e7 := hf.cell 7
  have e8 := hf.cell 8
  simp at e0 e1 e2 e3 e4 e5 e6 e7 e8
  refine bodyPost_ret (v := .tuple #[.agg #[.slice none 0 0, .string ⟨#[]⟩, .int .i64 0, .string ⟨#[]⟩, .slice none 0 0, .int .i64 0, .string ⟨#[]⟩, .slice none 0 0, .int .i64 0], tlV (5, [])]) ?_ rfl ⟨rfl, HB4.out.trans (below_of_grown hg (Nat.le_refl _) HB4.out.size)⟩
  simp [results, Tryz.results13, go_sem, e0, e1, e2, e3, e4, e5, e6, e7, e8, tlV]
end Nd
end Go.Proofs.YtbcckpnngonoeaaGreatDoor

