/-
  The law's asked of layer 16, where no kinds are asked for.
  The law BindNarrows of layer 16: its walk.
-/
import Derived.Test.YtbajkglacfheiaaGreatDoorTA35
import Derived.Test.YtbajkglacfheiaaGreatDoorTA36
import Derived.Test.YtbajkglacfheiaaGreatDoorTA27
set_option linter.unusedVariables false
set_option linter.unusedSimpArgs false
set_option maxRecDepth 100000
set_option maxHeartbeats 16000000
namespace Go.Proofs.YtbajkglacfheiaaGreatDoor
open Go.RowKit Mem Utf Ref3 Idx Tok TokC
namespace Nd
def AskP (ss : List Stp) (l : Tx) (w : World) (e : Ending) (w' : World) : Prop :=
 (match buildT ss with
  | .inl _ => e = .returned (.tuple #[noVal, .agg #[.int .i64 1, .int .i64 (-1), .bool false, .string ⟨#[]⟩]])
  | .inr t => match parseS (wrong l) l with
   | .error x => e = .returned (.tuple #[noVal, .agg #[.int .i64 x.1, .int .i64 x.2, .bool false, .string ⟨#[]⟩]])
   | .ok ts => match leadT t ts 0 with
    | .inl n => e = .returned (.tuple #[noVal, .agg #[.int .i64 4, .int .i64 0, .bool true, .string ⟨(printS (ts.take n)).toArray⟩]])
    | .inr u => ∃ A c K d, e = .returned (.tuple #[valV u A c K d, .agg #[.int .i64 0, .int .i64 0, .bool false, .string ⟨#[]⟩]]) ∧ RdVA w' u ((A, c), (K, d)) ∧ u.Ok ∧ u.fit = true) ∧ Below w.heap.size w w'
theorem askP_no {ss : List Stp} {l : Tx} {w w' : World} {x : Int × Int} (h : buildT ss = .inl x) (hb : Below w.heap.size w w') : AskP ss l w (.returned (.tuple #[noVal, .agg #[.int .i64 1, .int .i64 (-1), .bool false, .string ⟨#[]⟩]])) w' := by
 unfold AskP
 rw [h]
 exact ⟨rfl, hb⟩
theorem askP_err {ss : List Stp} {l : Tx} {w w' : World} {t : Tr} {x : Int × Int} (h : buildT ss = .inr t) (h1 : parseS (wrong l) l = .error x) (hb : Below w.heap.size w w') : AskP ss l w (.returned (.tuple #[noVal, .agg #[.int .i64 x.1, .int .i64 x.2, .bool false, .string ⟨#[]⟩]])) w' := by
 unfold AskP
 rw [h]
 dsimp only
 rw [h1]
 exact ⟨rfl, hb⟩
theorem askP_lost {ss : List Stp} {l : Tx} {w w' : World} {t : Tr} {ts : List Tx} {n : Nat} (h : buildT ss = .inr t) (h1 : parseS (wrong l) l = .ok ts) (h2 : leadT t ts 0 = .inl n) (hb : Below w.heap.size w w') : AskP ss l w (.returned (.tuple #[noVal, .agg #[.int .i64 4, .int .i64 0, .bool true, .string ⟨(printS (ts.take n)).toArray⟩]])) w' := by
 unfold AskP
 rw [h]
 dsimp only
 rw [h1]
 dsimp only
 rw [h2]
 exact ⟨rfl, hb⟩
theorem askP_yes {ss : List Stp} {l : Tx} {w w' : World} {t u : Tr} {ts : List Tx} {A : Option Addr} {c : Nat} {K : Option Addr} {d : Nat} (h : buildT ss = .inr t) (h1 : parseS (wrong l) l = .ok ts) (h2 : leadT t ts 0 = .inr u) (hr : RdVA w' u ((A, c), (K, d))) (ho : u.Ok ∧ u.fit = true) (hb : Below w.heap.size w w') : AskP ss l w (.returned (.tuple #[valV u A c K d, .agg #[.int .i64 0, .int .i64 0, .bool false, .string ⟨#[]⟩]])) w' := by
 unfold AskP
 rw [h]
 dsimp only
 rw [h1]
 dsimp only
 rw [h2]
 exact ⟨⟨A, c, K, d, rfl, hr, ho⟩, hb⟩
theorem four_grown (w : World) (P : Nat) (a b c d : Value) : w.grownBy (four w P a b c d) (some P) := grown_put (grown_put (grown_put (grown_put (grown_refl w _) 0 _) 1 _) 2 _) 3 _
theorem asked_any (v : Value) (ss : List Stp) (l : Tx) (w : World) (hS : RdS w v ss) (hF : ∀ s ∈ ss, s.Fine) (hC : ∀ s ∈ ss, s.Cnt) (hn : ss.length ≤ 1048576) (hl : l.length ≤ 4194304) : Calls Tryz.prog 17 #[v, .string ⟨l.toArray⟩, .slice none 0 0] w (AskP ss l w) := by
 have hb0 : Below w.heap.size w ((w.alloc (.cells #[.int .i64 0, .bool false, .int .u64 0, .string ⟨#[]⟩, .slice none 0 0, .slice none 0 0] 79)).alloc (.cells #[.int .i64 0, .int .i64 0, .bool false, .string ⟨#[]⟩] 81)) := ((Below.refl _ _).alloc (Nat.le_refl _) _).alloc (by simp) _
 have hb4 : Blk ((w.alloc (.cells #[.int .i64 0, .bool false, .int .u64 0, .string ⟨#[]⟩, .slice none 0 0, .slice none 0 0] 79)).alloc (.cells #[.int .i64 0, .int .i64 0, .bool false, .string ⟨#[]⟩] 81)) w.heap.size 79 #[.int .i64 0, .bool false, .int .u64 0, .string ⟨#[]⟩, .slice none 0 0, .slice none 0 0] := (Blk.new w _ _).alloc _
 have hb5 : Blk ((w.alloc (.cells #[.int .i64 0, .bool false, .int .u64 0, .string ⟨#[]⟩, .slice none 0 0, .slice none 0 0] 79)).alloc (.cells #[.int .i64 0, .int .i64 0, .bool false, .string ⟨#[]⟩] 81)) (w.heap.size + 1) 81 #[.int .i64 0, .int .i64 0, .bool false, .string ⟨#[]⟩] := by
  have := Blk.new (w.alloc (.cells #[.int .i64 0, .bool false, .int .u64 0, .string ⟨#[]⟩, .slice none 0 0, .slice none 0 0] 79)) 81 #[.int .i64 0, .int .i64 0, .bool false, .string ⟨#[]⟩]
  rw [World.size_alloc] at this
  exact this
 obtain ⟨SA, sc, rfl, _⟩ := id hS
 have HS := Lib.hid (hS.below hb0)
 have HFC := Lib.hid (And.intro hF (And.intro hC (And.intro hn hl)))
 have HB0 := Lib.hid (And.intro hb0 (And.intro hb4 hb5))
 clear hS hF hC hn hl hb0 hb4 hb5
 go_enter Tryz.func17, Tryz.ntmps17
 go_upto_region 1 with fail
 generalize ((w.alloc (.cells #[.int .i64 0, .bool false, .int .u64 0, .string ⟨#[]⟩, .slice none 0 0, .slice none 0 0] 79)).alloc (.cells #[.int .i64 0, .int .i64 0, .bool false, .string ⟨#[]⟩] 81)) = w1 at *
 go_wp2_with fail
 ((with_reducible refine (value16_law _ ss _ HS.out HFC.out.1 HFC.out.2.1 HFC.out.2.2.1).mono ?_); rintro e w2 ⟨hb2, he⟩)
 have HBW := Lib.hid (HB0.out.1.trans (hb2.mono HB0.out.1.size))
 have BK4 := Lib.hid (HB0.out.2.1.below hb2 HB0.out.2.1.lt)
 have BK5 := Lib.hid (HB0.out.2.2.below hb2 HB0.out.2.2.lt)
 have hk5 := BK5.out.lt
 have hk4 := BK4.out.lt
 clear hb2
 cases hbt : buildT ss with
 | inl x =>
  rw [hbt] at he
  obtain rfl := he
  have HBT := Lib.hid hbt
  clear hbt
  unfold noVal
  have z0 : w2.cell? ⟨w.heap.size, 0, none⟩ = some (.int .i64 0) := BK4.out.cell 0
  have z1 : w2.cell? ⟨w.heap.size, 1, none⟩ = some (.bool false) := BK4.out.cell 1
  have z2 : w2.cell? ⟨w.heap.size, 2, none⟩ = some (.int .u64 0) := BK4.out.cell 2
  have z3 : w2.cell? ⟨w.heap.size, 3, none⟩ = some (.string ⟨#[]⟩) := BK4.out.cell 3
  have z4 : w2.cell? ⟨w.heap.size, 4, none⟩ = some (.slice none 0 0) := BK4.out.cell 4
  have z5 : w2.cell? ⟨w.heap.size, 5, none⟩ = some (.slice none 0 0) := BK4.out.cell 5
  have q0 := BK4.out.frozen 0
  have q1 := BK4.out.frozen 1
  have q2 := BK4.out.frozen 2
  have q3 := BK4.out.frozen 3
  have q4 := BK4.out.frozen 4
  have q5 := BK4.out.frozen 5
  have y0 : w2.cell? ⟨w.heap.size + 1, 0, none⟩ = some (.int .i64 0) := BK5.out.cell 0
  have y1 : w2.cell? ⟨w.heap.size + 1, 1, none⟩ = some (.int .i64 0) := BK5.out.cell 1
  have y2 : w2.cell? ⟨w.heap.size + 1, 2, none⟩ = some (.bool false) := BK5.out.cell 2
  have y3 : w2.cell? ⟨w.heap.size + 1, 3, none⟩ = some (.string ⟨#[]⟩) := BK5.out.cell 3
  have r0 := BK5.out.frozen 0
  have r1 := BK5.out.frozen 1
  have r2 := BK5.out.frozen 2
  have r3 := BK5.out.frozen 3
  go_wp2
  have hf4 := (four_far (six_blk BK4.out (.int .i64 0) (.bool false) (.int .u64 0) (.string ⟨#[]⟩) (.slice none 0 0) (.slice none 0 0)) (show w.heap.size ≠ w.heap.size + 1 by omega) (.int .i64 1) (.int .i64 (-1)) (.bool false) (.string ⟨#[]⟩)).alloc (.cells #[.int .i64 0, .bool false, .int .u64 0, .string ⟨#[]⟩, .slice none 0 0, .slice none 0 0] 79)
  have hf5 := (four_blk (six_far BK5.out (show w.heap.size + 1 ≠ w.heap.size by omega) (.int .i64 0) (.bool false) (.int .u64 0) (.string ⟨#[]⟩) (.slice none 0 0) (.slice none 0 0)) (.int .i64 1) (.int .i64 (-1)) (.bool false) (.string ⟨#[]⟩)).alloc (.cells #[.int .i64 0, .bool false, .int .u64 0, .string ⟨#[]⟩, .slice none 0 0, .slice none 0 0] 79)
  have hbel := (four_below (six_below HBW.out (Nat.le_refl w.heap.size) (.int .i64 0) (.bool false) (.int .u64 0) (.string ⟨#[]⟩) (.slice none 0 0) (.slice none 0 0)) (show w.heap.size ≤ w.heap.size + 1 by omega) (.int .i64 1) (.int .i64 (-1)) (.bool false) (.string ⟨#[]⟩)).alloc (by have := HBW.out.size; simp [six, four]; omega) (.cells #[.int .i64 0, .bool false, .int .u64 0, .string ⟨#[]⟩, .slice none 0 0, .slice none 0 0] 79)
  unfold four six at hf4 hf5 hbel
  generalize ((((((((((w2.setCell ⟨w.heap.size, 0, none⟩ (.int .i64 0)).setCell ⟨w.heap.size, 1, none⟩ (.bool false)).setCell ⟨w.heap.size, 2, none⟩ (.int .u64 0)).setCell ⟨w.heap.size, 3, none⟩ (.string ⟨#[]⟩)).setCell ⟨w.heap.size, 4, none⟩ (.slice none 0 0)).setCell ⟨w.heap.size, 5, none⟩ (.slice none 0 0)).setCell ⟨w.heap.size + 1, 0, none⟩ (.int .i64 1)).setCell ⟨w.heap.size + 1, 1, none⟩ (.int .i64 (-1))).setCell ⟨w.heap.size + 1, 2, none⟩ (.bool false)).setCell ⟨w.heap.size + 1, 3, none⟩ (.string ⟨#[]⟩)).alloc (.cells #[.int .i64 0, .bool false, .int .u64 0, .string ⟨#[]⟩, .slice none 0 0, .slice none 0 0] 79) = wf at *
  have dd0 : wf.cell? ⟨w.heap.size, 0, none⟩ = some (.int .i64 0) := hf4.cell 0
  have dd1 : wf.cell? ⟨w.heap.size, 1, none⟩ = some (.bool false) := hf4.cell 1
  have dd2 : wf.cell? ⟨w.heap.size, 2, none⟩ = some (.int .u64 0) := hf4.cell 2
  have dd3 : wf.cell? ⟨w.heap.size, 3, none⟩ = some (.string ⟨#[]⟩) := hf4.cell 3
  have dd4 : wf.cell? ⟨w.heap.size, 4, none⟩ = some (.slice none 0 0) := hf4.cell 4
  have dd5 : wf.cell? ⟨w.heap.size, 5, none⟩ = some (.slice none 0 0) := hf4.cell 5
  have ee0 : wf.cell? ⟨w.heap.size + 1, 0, none⟩ = some (.int .i64 1) := hf5.cell 0
  have ee1 : wf.cell? ⟨w.heap.size + 1, 1, none⟩ = some (.int .i64 (-1)) := hf5.cell 1
  have ee2 : wf.cell? ⟨w.heap.size + 1, 2, none⟩ = some (.bool false) := hf5.cell 2
  have ee3 : wf.cell? ⟨w.heap.size + 1, 3, none⟩ = some (.string ⟨#[]⟩) := hf5.cell 3
  refine bodyPost_ret (v := .tuple #[noVal, .agg #[.int .i64 1, .int .i64 (-1), .bool false, .string ⟨#[]⟩]]) ?_ rfl (askP_no HBT.out hbel)
  simp [results, Tryz.results17, go_sem, dd0, dd1, dd2, dd3, dd4, dd5, ee0, ee1, ee2, ee3]
 | inr t =>
  rw [hbt] at he
  obtain ⟨A2, c2, K2, d2, rfl, hrd⟩ := he
  have HBT := Lib.hid hbt
  have hok := buildT_ok HFC.out.1 hbt
  have hba : Below w2.heap.size w2 (w2.alloc (.cells #[.int .i64 (t.srt : Nat), .bool t.fl, .int .u64 (t.bi : Nat), .string ⟨t.tx.toArray⟩, .slice A2 t.kids.length c2, .slice K2 t.kn.length d2] 79)) := (Below.refl _ _).alloc (Nat.le_refl _) _
  have HRF := Lib.hid (rffindS_any (fun k => w1.heap.size ≤ k) t A2 c2 K2 d2 l w2 _ hrd hba hok.1 hok.2 HFC.out.2.2.2)
  have HBW' := Lib.hid (HBW.out.trans (hba.mono HBW.out.size))
  have BK4' := Lib.hid (BK4.out.below hba BK4.out.lt)
  have BK5' := Lib.hid (BK5.out.below hba BK5.out.lt)
  have HBA := Lib.hid hba
  unfold valV at HRF ⊢
  clear hbt hrd hok hba
  go_wp2_with fail
  go_loop [23] (fun c23 => c23 = .int .i64 0) (fun _ => 0)
  case atStart => rfl
  case round =>
   subst hrel
   go_wp2_with fail
   ((with_reducible refine HRF.out.mono ?_); rintro e w3 ⟨he, hb3⟩)
   have HBX := Lib.hid (HBW'.out.trans (hb3.mono HBW'.out.size))
   have HB23 := Lib.hid (HBA.out.trans (hb3.mono HBA.out.size))
   have BK4 := Lib.hid (BK4'.out.below hb3 BK4'.out.lt)
   have BK5 := Lib.hid (BK5'.out.below hb3 BK5'.out.lt)
   have HBW := HBX
   have hk53 := BK5.out.lt
   have hk43 := BK4.out.lt
   clear hb3 HRF
   cases hp : parseS (wrong l) l with
   | error x =>
    rw [hp] at he
    obtain rfl := he
    have HP := Lib.hid hp
    clear hp
    obtain ⟨x1, x2⟩ := x
    unfold noVal
    have z0 : w3.cell? ⟨w.heap.size, 0, none⟩ = some (.int .i64 0) := BK4.out.cell 0
    have z1 : w3.cell? ⟨w.heap.size, 1, none⟩ = some (.bool false) := BK4.out.cell 1
    have z2 : w3.cell? ⟨w.heap.size, 2, none⟩ = some (.int .u64 0) := BK4.out.cell 2
    have z3 : w3.cell? ⟨w.heap.size, 3, none⟩ = some (.string ⟨#[]⟩) := BK4.out.cell 3
    have z4 : w3.cell? ⟨w.heap.size, 4, none⟩ = some (.slice none 0 0) := BK4.out.cell 4
    have z5 : w3.cell? ⟨w.heap.size, 5, none⟩ = some (.slice none 0 0) := BK4.out.cell 5
    have q0 := BK4.out.frozen 0
    have q1 := BK4.out.frozen 1
    have q2 := BK4.out.frozen 2
    have q3 := BK4.out.frozen 3
    have q4 := BK4.out.frozen 4
    have q5 := BK4.out.frozen 5
    have y0 : w3.cell? ⟨w.heap.size + 1, 0, none⟩ = some (.int .i64 0) := BK5.out.cell 0
    have y1 : w3.cell? ⟨w.heap.size + 1, 1, none⟩ = some (.int .i64 0) := BK5.out.cell 1
    have y2 : w3.cell? ⟨w.heap.size + 1, 2, none⟩ = some (.bool false) := BK5.out.cell 2
    have y3 : w3.cell? ⟨w.heap.size + 1, 3, none⟩ = some (.string ⟨#[]⟩) := BK5.out.cell 3
    have r0 := BK5.out.frozen 0
    have r1 := BK5.out.frozen 1
    have r2 := BK5.out.frozen 2
    have r3 := BK5.out.frozen 3
    go_wp2
    have hf4 := (four_far (six_blk BK4.out (.int .i64 0) (.bool false) (.int .u64 0) (.string ⟨#[]⟩) (.slice none 0 0) (.slice none 0 0)) (show w.heap.size ≠ w.heap.size + 1 by omega) (.int .i64 x1) (.int .i64 x2) (.bool false) (.string ⟨#[]⟩))
    have hf5 := (four_blk (six_far BK5.out (show w.heap.size + 1 ≠ w.heap.size by omega) (.int .i64 0) (.bool false) (.int .u64 0) (.string ⟨#[]⟩) (.slice none 0 0) (.slice none 0 0)) (.int .i64 x1) (.int .i64 x2) (.bool false) (.string ⟨#[]⟩))
    have hbel := (four_below (six_below HBW.out (Nat.le_refl w.heap.size) (.int .i64 0) (.bool false) (.int .u64 0) (.string ⟨#[]⟩) (.slice none 0 0) (.slice none 0 0)) (show w.heap.size ≤ w.heap.size + 1 by omega) (.int .i64 x1) (.int .i64 x2) (.bool false) (.string ⟨#[]⟩))
    unfold four six at hf4 hf5 hbel
    generalize ((((((((((w3.setCell ⟨w.heap.size, 0, none⟩ (.int .i64 0)).setCell ⟨w.heap.size, 1, none⟩ (.bool false)).setCell ⟨w.heap.size, 2, none⟩ (.int .u64 0)).setCell ⟨w.heap.size, 3, none⟩ (.string ⟨#[]⟩)).setCell ⟨w.heap.size, 4, none⟩ (.slice none 0 0)).setCell ⟨w.heap.size, 5, none⟩ (.slice none 0 0)).setCell ⟨w.heap.size + 1, 0, none⟩ (.int .i64 x1)).setCell ⟨w.heap.size + 1, 1, none⟩ (.int .i64 x2)).setCell ⟨w.heap.size + 1, 2, none⟩ (.bool false)).setCell ⟨w.heap.size + 1, 3, none⟩ (.string ⟨#[]⟩)) = wf at *
    have dd0 : wf.cell? ⟨w.heap.size, 0, none⟩ = some (.int .i64 0) := hf4.cell 0
    have dd1 : wf.cell? ⟨w.heap.size, 1, none⟩ = some (.bool false) := hf4.cell 1
    have dd2 : wf.cell? ⟨w.heap.size, 2, none⟩ = some (.int .u64 0) := hf4.cell 2
    have dd3 : wf.cell? ⟨w.heap.size, 3, none⟩ = some (.string ⟨#[]⟩) := hf4.cell 3
    have dd4 : wf.cell? ⟨w.heap.size, 4, none⟩ = some (.slice none 0 0) := hf4.cell 4
    have dd5 : wf.cell? ⟨w.heap.size, 5, none⟩ = some (.slice none 0 0) := hf4.cell 5
    have ee0 : wf.cell? ⟨w.heap.size + 1, 0, none⟩ = some (.int .i64 x1) := hf5.cell 0
    have ee1 : wf.cell? ⟨w.heap.size + 1, 1, none⟩ = some (.int .i64 x2) := hf5.cell 1
    have ee2 : wf.cell? ⟨w.heap.size + 1, 2, none⟩ = some (.bool false) := hf5.cell 2
    have ee3 : wf.cell? ⟨w.heap.size + 1, 3, none⟩ = some (.string ⟨#[]⟩) := hf5.cell 3
    refine bodyPost_ret (v := .tuple #[noVal, .agg #[.int .i64 x1, .int .i64 x2, .bool false, .string ⟨#[]⟩]]) ?_ rfl (askP_err HBT.out HP.out hbel)
    simp [results, Tryz.results17, go_sem, dd0, dd1, dd2, dd3, dd4, dd5, ee0, ee1, ee2, ee3]
   | ok ts =>
    rw [hp] at he
    dsimp only at he
    cases hle : leadT t ts 0 with
    | inl n =>
     rw [hle] at he
     obtain rfl := he
     have HP := Lib.hid (And.intro hp hle)
     clear hp hle
     unfold noVal
     have z0 : w3.cell? ⟨w.heap.size, 0, none⟩ = some (.int .i64 0) := BK4.out.cell 0
     have z1 : w3.cell? ⟨w.heap.size, 1, none⟩ = some (.bool false) := BK4.out.cell 1
     have z2 : w3.cell? ⟨w.heap.size, 2, none⟩ = some (.int .u64 0) := BK4.out.cell 2
     have z3 : w3.cell? ⟨w.heap.size, 3, none⟩ = some (.string ⟨#[]⟩) := BK4.out.cell 3
     have z4 : w3.cell? ⟨w.heap.size, 4, none⟩ = some (.slice none 0 0) := BK4.out.cell 4
     have z5 : w3.cell? ⟨w.heap.size, 5, none⟩ = some (.slice none 0 0) := BK4.out.cell 5
     have q0 := BK4.out.frozen 0
     have q1 := BK4.out.frozen 1
     have q2 := BK4.out.frozen 2
     have q3 := BK4.out.frozen 3
     have q4 := BK4.out.frozen 4
     have q5 := BK4.out.frozen 5
     have y0 : w3.cell? ⟨w.heap.size + 1, 0, none⟩ = some (.int .i64 0) := BK5.out.cell 0
     have y1 : w3.cell? ⟨w.heap.size + 1, 1, none⟩ = some (.int .i64 0) := BK5.out.cell 1
     have y2 : w3.cell? ⟨w.heap.size + 1, 2, none⟩ = some (.bool false) := BK5.out.cell 2
     have y3 : w3.cell? ⟨w.heap.size + 1, 3, none⟩ = some (.string ⟨#[]⟩) := BK5.out.cell 3
     have r0 := BK5.out.frozen 0
     have r1 := BK5.out.frozen 1
     have r2 := BK5.out.frozen 2
     have r3 := BK5.out.frozen 3
     go_wp2
     have hf4 := (four_far (six_blk BK4.out (.int .i64 0) (.bool false) (.int .u64 0) (.string ⟨#[]⟩) (.slice none 0 0) (.slice none 0 0)) (show w.heap.size ≠ w.heap.size + 1 by omega) (.int .i64 4) (.int .i64 0) (.bool true) (.string ⟨(printS (ts.take n)).toArray⟩))
     have hf5 := (four_blk (six_far BK5.out (show w.heap.size + 1 ≠ w.heap.size by omega) (.int .i64 0) (.bool false) (.int .u64 0) (.string ⟨#[]⟩) (.slice none 0 0) (.slice none 0 0)) (.int .i64 4) (.int .i64 0) (.bool true) (.string ⟨(printS (ts.take n)).toArray⟩))
     have hbel := (four_below (six_below HBW.out (Nat.le_refl w.heap.size) (.int .i64 0) (.bool false) (.int .u64 0) (.string ⟨#[]⟩) (.slice none 0 0) (.slice none 0 0)) (show w.heap.size ≤ w.heap.size + 1 by omega) (.int .i64 4) (.int .i64 0) (.bool true) (.string ⟨(printS (ts.take n)).toArray⟩))
     unfold four six at hf4 hf5 hbel
     generalize ((((((((((w3.setCell ⟨w.heap.size, 0, none⟩ (.int .i64 0)).setCell ⟨w.heap.size, 1, none⟩ (.bool false)).setCell ⟨w.heap.size, 2, none⟩ (.int .u64 0)).setCell ⟨w.heap.size, 3, none⟩ (.string ⟨#[]⟩)).setCell ⟨w.heap.size, 4, none⟩ (.slice none 0 0)).setCell ⟨w.heap.size, 5, none⟩ (.slice none 0 0)).setCell ⟨w.heap.size + 1, 0, none⟩ (.int .i64 4)).setCell ⟨w.heap.size + 1, 1, none⟩ (.int .i64 0)).setCell ⟨w.heap.size + 1, 2, none⟩ (.bool true)).setCell ⟨w.heap.size + 1, 3, none⟩ (.string ⟨(printS (ts.take n)).toArray⟩)) = wf at *
     have dd0 : wf.cell? ⟨w.heap.size, 0, none⟩ = some (.int .i64 0) := hf4.cell 0
     have dd1 : wf.cell? ⟨w.heap.size, 1, none⟩ = some (.bool false) := hf4.cell 1
     have dd2 : wf.cell? ⟨w.heap.size, 2, none⟩ = some (.int .u64 0) := hf4.cell 2
     have dd3 : wf.cell? ⟨w.heap.size, 3, none⟩ = some (.string ⟨#[]⟩) := hf4.cell 3
     have dd4 : wf.cell? ⟨w.heap.size, 4, none⟩ = some (.slice none 0 0) := hf4.cell 4
     have dd5 : wf.cell? ⟨w.heap.size, 5, none⟩ = some (.slice none 0 0) := hf4.cell 5
     have ee0 : wf.cell? ⟨w.heap.size + 1, 0, none⟩ = some (.int .i64 4) := hf5.cell 0
     have ee1 : wf.cell? ⟨w.heap.size + 1, 1, none⟩ = some (.int .i64 0) := hf5.cell 1
     have ee2 : wf.cell? ⟨w.heap.size + 1, 2, none⟩ = some (.bool true) := hf5.cell 2
     have ee3 : wf.cell? ⟨w.heap.size + 1, 3, none⟩ = some (.string ⟨(printS (ts.take n)).toArray⟩) := hf5.cell 3
     refine bodyPost_ret (v := .tuple #[noVal, .agg #[.int .i64 4, .int .i64 0, .bool true, .string ⟨(printS (ts.take n)).toArray⟩]]) ?_ rfl (askP_lost HBT.out HP.out.1 HP.out.2 hbel)
     simp [results, Tryz.results17, go_sem, dd0, dd1, dd2, dd3, dd4, dd5, ee0, ee1, ee2, ee3]
    | inr u =>
     rw [hle] at he
     obtain ⟨A5, c5, K5, d5, rfl, hru, huo⟩ := he
     have HP := Lib.hid (And.intro hp hle)
     have HU := Lib.hid (And.intro hru huo)
     unfold valV
     clear hp hle hru huo
     have z0 : w3.cell? ⟨w.heap.size, 0, none⟩ = some (.int .i64 0) := BK4.out.cell 0
     have z1 : w3.cell? ⟨w.heap.size, 1, none⟩ = some (.bool false) := BK4.out.cell 1
     have z2 : w3.cell? ⟨w.heap.size, 2, none⟩ = some (.int .u64 0) := BK4.out.cell 2
     have z3 : w3.cell? ⟨w.heap.size, 3, none⟩ = some (.string ⟨#[]⟩) := BK4.out.cell 3
     have z4 : w3.cell? ⟨w.heap.size, 4, none⟩ = some (.slice none 0 0) := BK4.out.cell 4
     have z5 : w3.cell? ⟨w.heap.size, 5, none⟩ = some (.slice none 0 0) := BK4.out.cell 5
     have q0 := BK4.out.frozen 0
     have q1 := BK4.out.frozen 1
     have q2 := BK4.out.frozen 2
     have q3 := BK4.out.frozen 3
     have q4 := BK4.out.frozen 4
     have q5 := BK4.out.frozen 5
     have y0 : w3.cell? ⟨w.heap.size + 1, 0, none⟩ = some (.int .i64 0) := BK5.out.cell 0
     have y1 : w3.cell? ⟨w.heap.size + 1, 1, none⟩ = some (.int .i64 0) := BK5.out.cell 1
     have y2 : w3.cell? ⟨w.heap.size + 1, 2, none⟩ = some (.bool false) := BK5.out.cell 2
     have y3 : w3.cell? ⟨w.heap.size + 1, 3, none⟩ = some (.string ⟨#[]⟩) := BK5.out.cell 3
     have r0 := BK5.out.frozen 0
     have r1 := BK5.out.frozen 1
     have r2 := BK5.out.frozen 2
     have r3 := BK5.out.frozen 3
     go_wp2
     have hf4 := (four_far (six_blk BK4.out (.int .i64 (u.srt : Nat)) (.bool u.fl) (.int .u64 (u.bi : Nat)) (.string ⟨u.tx.toArray⟩) (.slice A5 u.kids.length c5) (.slice K5 u.kn.length d5)) (show w.heap.size ≠ w.heap.size + 1 by omega) (.int .i64 0) (.int .i64 0) (.bool false) (.string ⟨#[]⟩))
     have hf5 := (four_blk (six_far BK5.out (show w.heap.size + 1 ≠ w.heap.size by omega) (.int .i64 (u.srt : Nat)) (.bool u.fl) (.int .u64 (u.bi : Nat)) (.string ⟨u.tx.toArray⟩) (.slice A5 u.kids.length c5) (.slice K5 u.kn.length d5)) (.int .i64 0) (.int .i64 0) (.bool false) (.string ⟨#[]⟩))
     have hbel := (four_below (six_below HBW.out (Nat.le_refl w.heap.size) (.int .i64 (u.srt : Nat)) (.bool u.fl) (.int .u64 (u.bi : Nat)) (.string ⟨u.tx.toArray⟩) (.slice A5 u.kids.length c5) (.slice K5 u.kn.length d5)) (show w.heap.size ≤ w.heap.size + 1 by omega) (.int .i64 0) (.int .i64 0) (.bool false) (.string ⟨#[]⟩))
     have hgr := (four_grown (six w3 w.heap.size (.int .i64 (u.srt : Nat)) (.bool u.fl) (.int .u64 (u.bi : Nat)) (.string ⟨u.tx.toArray⟩) (.slice A5 u.kids.length c5) (.slice K5 u.kn.length d5)) (w.heap.size + 1) (.int .i64 0) (.int .i64 0) (.bool false) (.string ⟨#[]⟩)).block
     have hgs := (six_grown w3 w.heap.size (.int .i64 (u.srt : Nat)) (.bool u.fl) (.int .u64 (u.bi : Nat)) (.string ⟨u.tx.toArray⟩) (.slice A5 u.kids.length c5) (.slice K5 u.kn.length d5)).block
     have hs1 : w.heap.size + 1 < w1.heap.size := HB0.out.2.2.lt
     have hz3 := HB23.out.size
     unfold six at hgs
     unfold four six at hf4 hf5 hbel hgr
     generalize ((((((((((w3.setCell ⟨w.heap.size, 0, none⟩ (.int .i64 (u.srt : Nat))).setCell ⟨w.heap.size, 1, none⟩ (.bool u.fl)).setCell ⟨w.heap.size, 2, none⟩ (.int .u64 (u.bi : Nat))).setCell ⟨w.heap.size, 3, none⟩ (.string ⟨u.tx.toArray⟩)).setCell ⟨w.heap.size, 4, none⟩ (.slice A5 u.kids.length c5)).setCell ⟨w.heap.size, 5, none⟩ (.slice K5 u.kn.length d5)).setCell ⟨w.heap.size + 1, 0, none⟩ (.int .i64 0)).setCell ⟨w.heap.size + 1, 1, none⟩ (.int .i64 0)).setCell ⟨w.heap.size + 1, 2, none⟩ (.bool false)).setCell ⟨w.heap.size + 1, 3, none⟩ (.string ⟨#[]⟩)) = wf at *
     have dd0 : wf.cell? ⟨w.heap.size, 0, none⟩ = some (.int .i64 (u.srt : Nat)) := hf4.cell 0
     have dd1 : wf.cell? ⟨w.heap.size, 1, none⟩ = some (.bool u.fl) := hf4.cell 1
     have dd2 : wf.cell? ⟨w.heap.size, 2, none⟩ = some (.int .u64 (u.bi : Nat)) := hf4.cell 2
     have dd3 : wf.cell? ⟨w.heap.size, 3, none⟩ = some (.string ⟨u.tx.toArray⟩) := hf4.cell 3
     have dd4 : wf.cell? ⟨w.heap.size, 4, none⟩ = some (.slice A5 u.kids.length c5) := hf4.cell 4
     have dd5 : wf.cell? ⟨w.heap.size, 5, none⟩ = some (.slice K5 u.kn.length d5) := hf4.cell 5
     have ee0 : wf.cell? ⟨w.heap.size + 1, 0, none⟩ = some (.int .i64 0) := hf5.cell 0
     have ee1 : wf.cell? ⟨w.heap.size + 1, 1, none⟩ = some (.int .i64 0) := hf5.cell 1
     have ee2 : wf.cell? ⟨w.heap.size + 1, 2, none⟩ = some (.bool false) := hf5.cell 2
     have ee3 : wf.cell? ⟨w.heap.size + 1, 3, none⟩ = some (.string ⟨#[]⟩) := hf5.cell 3
     refine bodyPost_ret (v := .tuple #[valV u A5 c5 K5 d5, .agg #[.int .i64 0, .int .i64 0, .bool false, .string ⟨#[]⟩]]) ?_ rfl (askP_yes HBT.out HP.out.1 HP.out.2 (A := A5) (c := c5) (K := K5) (d := d5) (RdV.move (fun k hk hs => ⟨trivial, (hgr k (by simp; omega) (by intro e; injection e with e; have h9 : w1.heap.size ≤ k := hs; omega)).trans ((hgs k (by omega) (by intro e; injection e with e; have h9 : w1.heap.size ≤ k := hs; omega)).trans (HB23.out.block k hk))⟩) _ _ HU.out.1) HU.out.2 hbel)
     simp [results, Tryz.results17, go_sem, dd0, dd1, dd2, dd3, dd4, dd5, ee0, ee1, ee2, ee3]
end Nd
end Go.Proofs.YtbajkglacfheiaaGreatDoor
namespace Go.Proofs.YtbajkglacfheiaaGreatDoor
open Go.RowKit Mem Utf Ref3 Idx Tok TokC
namespace Nd
def TrueN (w : World) (e : Ending) (w' : World) : Prop := e = .returned (.bool true) ∧ Below w.heap.size w w'
end Nd
end Go.Proofs.YtbajkglacfheiaaGreatDoor
