/-
  The reference of layer 13: Find. The law's fault: a Trail; number. The law's told, of scalars. The law's told, of a list. The law's told, of an object. The law's told, of every tree.
-/
import Derived.Test.YtlailcmhpnnidaaGreatDoorS24
import Derived.Test.YtlailcmhpnnidaaGreatDoorS16
import Derived.Test.YtlailcmhpnnidaaGreatDoorS14
import Derived.Deep.RegionHeldLaw
set_option linter.unusedVariables false
set_option linter.unusedSimpArgs false
set_option maxRecDepth 100000
set_option maxHeartbeats 16000000
namespace Go.Proofs.YtlailcmhpnnidaaGreatDoor
open Go.RowKit Mem Utf Ref3 Idx Tok TokC
namespace Nd
abbrev four (w : World) (P : Nat) (a b c d : Value) : World := (((w.setCell ⟨P, 0, none⟩ a).setCell ⟨P, 1, none⟩ b).setCell ⟨P, 2, none⟩ c).setCell ⟨P, 3, none⟩ d
theorem four_blk {w : World} {P : Nat} {t : TypeId} {z0 z1 z2 z3 : Value} (h : Blk w P t #[z0, z1, z2, z3]) (a b c d : Value) : Blk (four w P a b c d) P t #[a, b, c, d] := (((h.put 0 a).put 1 b).put 2 c).put 3 d
theorem four_far {w : World} {P g : Nat} {ty : TypeId} {cs : Array Value} (h : Blk w g ty cs) (hne : g ≠ P) (a b c d : Value) : Blk (four w P a b c d) g ty cs :=
 (((h.far (p := ⟨P, 0, none⟩) hne a).far (p := ⟨P, 1, none⟩) hne b).far (p := ⟨P, 2, none⟩) hne c).far (p := ⟨P, 3, none⟩) hne d
theorem four_below {w w' : World} {P : Nat} (h : Below w.heap.size w w') (hP : w.heap.size ≤ P) (a b c d : Value) : Below w.heap.size w (four w' P a b c d) :=
 below_put (below_put (below_put (below_put h hP) hP) hP) hP
def RFindP (w0 : World) (t : Tr) (l : List UInt8) (w : World) (e : Ending) (w' : World) : Prop :=
 (match parseS (wrong l) l with
  | .error x => e = .returned (.tuple #[noVal, .agg #[.int .i64 x.1, .int .i64 x.2, .bool false, .string ⟨#[]⟩]])
  | .ok ts => match leadT t ts 0 with
   | .inl n => e = .returned (.tuple #[noVal, .agg #[.int .i64 4, .int .i64 0, .bool true, .string ⟨(printS (ts.take n)).toArray⟩]])
   | .inr u => ∃ A c K d, e = .returned (.tuple #[valV u A c K d, .agg #[.int .i64 0, .int .i64 0, .bool false, .string ⟨#[]⟩]]) ∧ RdVA w0 u ((A, c), (K, d)) ∧ u.Ok ∧ u.fit = true) ∧ Below w.heap.size w w'
theorem rfindP_err {w0 : World} {t : Tr} {l : List UInt8} {w w' : World} {x : Int × Int} (h : parseS (wrong l) l = .error x) (hb : Below w.heap.size w w') : RFindP w0 t l w (.returned (.tuple #[noVal, .agg #[.int .i64 x.1, .int .i64 x.2, .bool false, .string ⟨#[]⟩]])) w' := by
 unfold RFindP
 rw [h]
 exact ⟨rfl, hb⟩
theorem rfindP_none {w0 : World} {t : Tr} {l : List UInt8} {w w' : World} {ts : List (List UInt8)} {n : Nat} (h : parseS (wrong l) l = .ok ts) (h2 : leadT t ts 0 = .inl n) (hb : Below w.heap.size w w') : RFindP w0 t l w (.returned (.tuple #[noVal, .agg #[.int .i64 4, .int .i64 0, .bool true, .string ⟨(printS (ts.take n)).toArray⟩]])) w' := by
 unfold RFindP
 rw [h]
 dsimp only
 rw [h2]
 exact ⟨rfl, hb⟩
theorem rfindP_some {w0 : World} {t u : Tr} {l : List UInt8} {w w' : World} {ts : List (List UInt8)} {A : Option Addr} {c : Nat} {K : Option Addr} {d : Nat} (h : parseS (wrong l) l = .ok ts) (h2 : leadT t ts 0 = .inr u) (hr : RdVA w0 u ((A, c), (K, d))) (ho : u.Ok ∧ u.fit = true) (hb : Below w.heap.size w w') : RFindP w0 t l w (.returned (.tuple #[valV u A c K d, .agg #[.int .i64 0, .int .i64 0, .bool false, .string ⟨#[]⟩]])) w' := by
 unfold RFindP
 rw [h]
 dsimp only
 rw [h2]
 exact ⟨⟨A, c, K, d, rfl, hr, ho⟩, hb⟩
theorem err_num {l : List UInt8} {x : Int × Int} (h : parseS (wrong l) l = .error x) : x.1 ≠ 0 := by
 by_cases hw : (wrong l).1 = 0
 ·unfold parseS at h
  rw [if_pos hw] at h
  cases hr : run [] none l 0 with
  | error p =>
   rw [hr] at h
   injection h with h
   rw [← h]
   show (130 : Int) ≠ 0
   decide
  | ok ts =>
   rw [hr] at h
   dsimp only at h
   split at h
   ·injection h with h
    rw [← h]
    decide
   ·cases h
 ·rw [parse_utf l hw] at h
  injection h with h
  rw [← h]
  show (100 : Int) ≠ 0
  decide
theorem rffind_any (t : Tr) (A : Option Addr) (c : Nat) (K : Option Addr) (d : Nat) (l : List UInt8) (w0 w : World) (h : RdVA w0 t ((A, c), (K, d))) (hb0 : Below w0.heap.size w0 w) (ho : t.Ok) (hf : t.fit = true) (hl : l.length ≤ 4194304) :
  Calls Tryz.prog 17 #[valV t A c K d, .string ⟨l.toArray⟩] w (RFindP w0 t l w) := by
 have hb1 : Below w.heap.size w (w.alloc (.cells #[.int .i64 (t.srt : Nat), .bool t.fl, .int .u64 (t.bi : Nat), .string ⟨t.tx.toArray⟩, .slice A t.kids.length c, .slice K t.kn.length d] 28)) := (Below.refl _ _).alloc (Nat.le_refl _) _
 have hb2 : Below w.heap.size w ((w.alloc (.cells #[.int .i64 (t.srt : Nat), .bool t.fl, .int .u64 (t.bi : Nat), .string ⟨t.tx.toArray⟩, .slice A t.kids.length c, .slice K t.kn.length d] 28)).alloc (.cells #[.int .i64 0, .bool false, .int .u64 0, .string ⟨#[]⟩, .slice none 0 0, .slice none 0 0] 28)) := hb1.alloc hb1.size _
 have hb3 : Below w.heap.size w (((w.alloc (.cells #[.int .i64 (t.srt : Nat), .bool t.fl, .int .u64 (t.bi : Nat), .string ⟨t.tx.toArray⟩, .slice A t.kids.length c, .slice K t.kn.length d] 28)).alloc (.cells #[.int .i64 0, .bool false, .int .u64 0, .string ⟨#[]⟩, .slice none 0 0, .slice none 0 0] 28)).alloc (.cells #[.int .i64 0, .int .i64 0, .bool false, .string ⟨#[]⟩] 49)) := hb2.alloc hb2.size _
 have hB2 : Blk (((w.alloc (.cells #[.int .i64 (t.srt : Nat), .bool t.fl, .int .u64 (t.bi : Nat), .string ⟨t.tx.toArray⟩, .slice A t.kids.length c, .slice K t.kn.length d] 28)).alloc (.cells #[.int .i64 0, .bool false, .int .u64 0, .string ⟨#[]⟩, .slice none 0 0, .slice none 0 0] 28)).alloc (.cells #[.int .i64 0, .int .i64 0, .bool false, .string ⟨#[]⟩] 49)) w.heap.size 28 #[.int .i64 (t.srt : Nat), .bool t.fl, .int .u64 (t.bi : Nat), .string ⟨t.tx.toArray⟩, .slice A t.kids.length c, .slice K t.kn.length d] := ((Blk.new w 28 #[.int .i64 (t.srt : Nat), .bool t.fl, .int .u64 (t.bi : Nat), .string ⟨t.tx.toArray⟩, .slice A t.kids.length c, .slice K t.kn.length d]).alloc _).alloc _
 have hB4 : Blk (((w.alloc (.cells #[.int .i64 (t.srt : Nat), .bool t.fl, .int .u64 (t.bi : Nat), .string ⟨t.tx.toArray⟩, .slice A t.kids.length c, .slice K t.kn.length d] 28)).alloc (.cells #[.int .i64 0, .bool false, .int .u64 0, .string ⟨#[]⟩, .slice none 0 0, .slice none 0 0] 28)).alloc (.cells #[.int .i64 0, .int .i64 0, .bool false, .string ⟨#[]⟩] 49)) (w.heap.size + 1) 28 #[.int .i64 0, .bool false, .int .u64 0, .string ⟨#[]⟩, .slice none 0 0, .slice none 0 0] := by
  have := (Blk.new (w.alloc (.cells #[.int .i64 (t.srt : Nat), .bool t.fl, .int .u64 (t.bi : Nat), .string ⟨t.tx.toArray⟩, .slice A t.kids.length c, .slice K t.kn.length d] 28)) 28 #[.int .i64 0, .bool false, .int .u64 0, .string ⟨#[]⟩, .slice none 0 0, .slice none 0 0]).alloc (.cells #[.int .i64 0, .int .i64 0, .bool false, .string ⟨#[]⟩] 49)
  rw [World.size_alloc] at this
  exact this
 have hB5 : Blk (((w.alloc (.cells #[.int .i64 (t.srt : Nat), .bool t.fl, .int .u64 (t.bi : Nat), .string ⟨t.tx.toArray⟩, .slice A t.kids.length c, .slice K t.kn.length d] 28)).alloc (.cells #[.int .i64 0, .bool false, .int .u64 0, .string ⟨#[]⟩, .slice none 0 0, .slice none 0 0] 28)).alloc (.cells #[.int .i64 0, .int .i64 0, .bool false, .string ⟨#[]⟩] 49)) (w.heap.size + 1 + 1) 49 #[.int .i64 0, .int .i64 0, .bool false, .string ⟨#[]⟩] := by
  have := Blk.new ((w.alloc (.cells #[.int .i64 (t.srt : Nat), .bool t.fl, .int .u64 (t.bi : Nat), .string ⟨t.tx.toArray⟩, .slice A t.kids.length c, .slice K t.kn.length d] 28)).alloc (.cells #[.int .i64 0, .bool false, .int .u64 0, .string ⟨#[]⟩, .slice none 0 0, .slice none 0 0] 28)) 49 #[.int .i64 0, .int .i64 0, .bool false, .string ⟨#[]⟩]
  rw [World.size_alloc, World.size_alloc] at this
  exact this
 have HINI := Lib.hid (And.intro hB2 (And.intro hB4 (And.intro hB5 hb3)))
 have HR := Lib.hid h
 have HB0 := Lib.hid hb0
 have HO := Lib.hid (And.intro ho hf)
 have HL := Lib.hid hl
 have hsz0 : (ByteArray.mk l.toArray).size ≤ 2147483648 := by show l.toArray.size ≤ _; rw [List.size_toArray]; omega
 clear h hb0 ho hf hl hb1 hb2 hb3 hB2 hB4 hB5
 go_enter Tryz.func17, Tryz.ntmps17
 go_upto_region 1 with fail
 generalize (((w.alloc (.cells #[.int .i64 (t.srt : Nat), .bool t.fl, .int .u64 (t.bi : Nat), .string ⟨t.tx.toArray⟩, .slice A t.kids.length c, .slice K t.kn.length d] 28)).alloc (.cells #[.int .i64 0, .bool false, .int .u64 0, .string ⟨#[]⟩, .slice none 0 0, .slice none 0 0] 28)).alloc (.cells #[.int .i64 0, .int .i64 0, .bool false, .string ⟨#[]⟩] 49)) = w1 at *
 go_wp2_with fail
 ((with_reducible refine (refParse_any ⟨l.toArray⟩ hsz0 _).mono ?_); rintro e w2 ⟨hb2, he, hok⟩)
 have BK4 := Lib.hid (HINI.out.2.1.below hb2 HINI.out.2.1.lt)
 have BK5 := Lib.hid (HINI.out.2.2.1.below hb2 HINI.out.2.2.1.lt)
 have BK2 := Lib.hid (HINI.out.1.below hb2 HINI.out.1.lt)
 have HBW := Lib.hid (HINI.out.2.2.2.trans (hb2.mono HINI.out.2.2.2.size))
 have he' : ∀ x, parseS (wrong l) l = .error x → e = .returned (.tuple #[.slice none 0 0, .int .i64 x.1, .int .i64 x.2]) := he
 have hok' : ∀ ts, parseS (wrong l) l = .ok ts → ∃ v, e = .returned (.tuple #[v, .int .i64 0, .int .i64 0]) ∧ w2.ownsRow _ 9 1 v ts.length (ts.map strV) := hok
 have hk5 := BK5.out.lt
 clear he hok hb2 HINI
 cases hp : parseS (wrong l) l with
 | error x =>
  obtain rfl := he' x hp
  have hx0 : (x.1 != 0) = true := by simpa using err_num hp
  have HP := Lib.hid hp
  clear he' hok' hp
  obtain ⟨x1, x2⟩ := x
  have z0 : w2.cell? ⟨w.heap.size + 1, 0, none⟩ = some (.int .i64 0) := BK4.out.cell 0
  have z1 : w2.cell? ⟨w.heap.size + 1, 1, none⟩ = some (.bool false) := BK4.out.cell 1
  have z2 : w2.cell? ⟨w.heap.size + 1, 2, none⟩ = some (.int .u64 0) := BK4.out.cell 2
  have z3 : w2.cell? ⟨w.heap.size + 1, 3, none⟩ = some (.string ⟨#[]⟩) := BK4.out.cell 3
  have z4 : w2.cell? ⟨w.heap.size + 1, 4, none⟩ = some (.slice none 0 0) := BK4.out.cell 4
  have z5 : w2.cell? ⟨w.heap.size + 1, 5, none⟩ = some (.slice none 0 0) := BK4.out.cell 5
  have q0 := BK4.out.frozen 0
  have q1 := BK4.out.frozen 1
  have q2 := BK4.out.frozen 2
  have q3 := BK4.out.frozen 3
  have q4 := BK4.out.frozen 4
  have q5 := BK4.out.frozen 5
  have y0 : w2.cell? ⟨w.heap.size + 1 + 1, 0, none⟩ = some (.int .i64 0) := BK5.out.cell 0
  have y1 : w2.cell? ⟨w.heap.size + 1 + 1, 1, none⟩ = some (.int .i64 0) := BK5.out.cell 1
  have y2 : w2.cell? ⟨w.heap.size + 1 + 1, 2, none⟩ = some (.bool false) := BK5.out.cell 2
  have y3 : w2.cell? ⟨w.heap.size + 1 + 1, 3, none⟩ = some (.string ⟨#[]⟩) := BK5.out.cell 3
  have r0 := BK5.out.frozen 0
  have r1 := BK5.out.frozen 1
  have r2 := BK5.out.frozen 2
  have r3 := BK5.out.frozen 3
  go_wp2
  have hf4 := (four_far (six_blk BK4.out (.int .i64 0) (.bool false) (.int .u64 0) (.string ⟨#[]⟩) (.slice none 0 0) (.slice none 0 0)) (show w.heap.size + 1 ≠ w.heap.size + 1 + 1 by omega) (.int .i64 x1) (.int .i64 x2) (.bool false) (.string ⟨#[]⟩))
  have hf5 := (four_blk (six_far BK5.out (show w.heap.size + 1 + 1 ≠ w.heap.size + 1 by omega) (.int .i64 0) (.bool false) (.int .u64 0) (.string ⟨#[]⟩) (.slice none 0 0) (.slice none 0 0)) (.int .i64 x1) (.int .i64 x2) (.bool false) (.string ⟨#[]⟩))
  have hbel := (four_below (six_below HBW.out (show w.heap.size ≤ w.heap.size + 1 by omega) (.int .i64 0) (.bool false) (.int .u64 0) (.string ⟨#[]⟩) (.slice none 0 0) (.slice none 0 0)) (show w.heap.size ≤ w.heap.size + 1 + 1 by omega) (.int .i64 x1) (.int .i64 x2) (.bool false) (.string ⟨#[]⟩))
  unfold four six at hf4 hf5 hbel
  generalize ((((((((((w2.setCell ⟨w.heap.size + 1, 0, none⟩ (.int .i64 0)).setCell ⟨w.heap.size + 1, 1, none⟩ (.bool false)).setCell ⟨w.heap.size + 1, 2, none⟩ (.int .u64 0)).setCell ⟨w.heap.size + 1, 3, none⟩ (.string ⟨#[]⟩)).setCell ⟨w.heap.size + 1, 4, none⟩ (.slice none 0 0)).setCell ⟨w.heap.size + 1, 5, none⟩ (.slice none 0 0)).setCell ⟨w.heap.size + 1 + 1, 0, none⟩ (.int .i64 x1)).setCell ⟨w.heap.size + 1 + 1, 1, none⟩ (.int .i64 x2)).setCell ⟨w.heap.size + 1 + 1, 2, none⟩ (.bool false)).setCell ⟨w.heap.size + 1 + 1, 3, none⟩ (.string ⟨#[]⟩)) = wf at *
  have dd0 : wf.cell? ⟨w.heap.size + 1, 0, none⟩ = some (.int .i64 0) := hf4.cell 0
  have dd1 : wf.cell? ⟨w.heap.size + 1, 1, none⟩ = some (.bool false) := hf4.cell 1
  have dd2 : wf.cell? ⟨w.heap.size + 1, 2, none⟩ = some (.int .u64 0) := hf4.cell 2
  have dd3 : wf.cell? ⟨w.heap.size + 1, 3, none⟩ = some (.string ⟨#[]⟩) := hf4.cell 3
  have dd4 : wf.cell? ⟨w.heap.size + 1, 4, none⟩ = some (.slice none 0 0) := hf4.cell 4
  have dd5 : wf.cell? ⟨w.heap.size + 1, 5, none⟩ = some (.slice none 0 0) := hf4.cell 5
  have ee0 : wf.cell? ⟨w.heap.size + 1 + 1, 0, none⟩ = some (.int .i64 x1) := hf5.cell 0
  have ee1 : wf.cell? ⟨w.heap.size + 1 + 1, 1, none⟩ = some (.int .i64 x2) := hf5.cell 1
  have ee2 : wf.cell? ⟨w.heap.size + 1 + 1, 2, none⟩ = some (.bool false) := hf5.cell 2
  have ee3 : wf.cell? ⟨w.heap.size + 1 + 1, 3, none⟩ = some (.string ⟨#[]⟩) := hf5.cell 3
  refine bodyPost_ret (v := .tuple #[noVal, .agg #[.int .i64 x1, .int .i64 x2, .bool false, .string ⟨#[]⟩]]) ?_ rfl (rfindP_err HP.out hbel)
  simp [results, Tryz.results17, go_sem, dd0, dd1, dd2, dd3, dd4, dd5, ee0, ee1, ee2, ee3]
 | ok ts =>
  obtain ⟨tv, rfl, hown⟩ := hok' ts hp
  clear he' hok'
  obtain ⟨TA, tc, rfl⟩ := own_slice hown
  have hrd : Rd w2 (.slice TA ts.length tc) ts := Rd.of_own hown
  have htf := toks_fine hp
  have hnc : ts.length ≤ tc := own_capP hown
  have HP := Lib.hid hp
  have HTF := Lib.hid htf
  have HRD := Lib.hid hrd
  have hn := htf.2.1
  have HLD := Lib.hid (rlead_any t A c K d TA tc ts w0 w2 HR.out (HB0.out.trans (HBW.out.mono HB0.out.size)) HO.out.1 HO.out.2 hrd (fun x hx => by have := (htf.1 x hx).2; have := HL.out; omega) htf.2.1)
  have b0 : w2.cell? ⟨w.heap.size, 0, none⟩ = some (.int .i64 (t.srt : Nat)) := BK2.out.cell 0
  have b1 : w2.cell? ⟨w.heap.size, 1, none⟩ = some (.bool t.fl) := BK2.out.cell 1
  have b2 : w2.cell? ⟨w.heap.size, 2, none⟩ = some (.int .u64 (t.bi : Nat)) := BK2.out.cell 2
  have b3 : w2.cell? ⟨w.heap.size, 3, none⟩ = some (.string ⟨t.tx.toArray⟩) := BK2.out.cell 3
  have b4 : w2.cell? ⟨w.heap.size, 4, none⟩ = some (.slice A t.kids.length c) := BK2.out.cell 4
  have b5 : w2.cell? ⟨w.heap.size, 5, none⟩ = some (.slice K t.kn.length d) := BK2.out.cell 5
  clear hp hown htf hrd
  go_wp2_with fail
  ((with_reducible refine HLD.out.mono ?_); rintro e w3 ⟨he, hb3⟩)
  have BK43 := Lib.hid (BK4.out.below hb3 BK4.out.lt)
  have BK53 := Lib.hid (BK5.out.below hb3 BK5.out.lt)
  have HBW3 := Lib.hid (HBW.out.trans (hb3.mono HBW.out.size))
  have HRD3 := Lib.hid (HRD.out.below hb3)
  have hk53 := BK53.out.lt
  have hk43 := BK43.out.lt
  clear hb3 HLD BK4 BK5 BK2 HBW b0 b1 b2 b3 b4 b5
  cases hle : leadT t ts 0 with
  | inl n =>
   rw [hle] at he
   obtain rfl := he
   have hnl := lead_of_toks hle
   have HLE := Lib.hid hle
   have hba9 : Below w3.heap.size w3 (w3.alloc (.cells #[.int .i64 0, .bool false, .int .u64 0, .string ⟨#[]⟩, .slice none 0 0, .slice none 0 0] 28)) := (Below.refl _ _).alloc (Nat.le_refl _) _
   have HPA := Lib.hid (refPrint_any (.slice TA n tc) (ts.take n) (w3.alloc (.cells #[.int .i64 0, .bool false, .int .u64 0, .string ⟨#[]⟩, .slice none 0 0, .slice none 0 0] 28)) (rd_take (HRD3.out.below hba9) (by omega) tc) (by have := bulk_le ts n; have := HTF.out.2.2; have := HL.out; omega))
   have HBW4 := Lib.hid (HBW3.out.trans (hba9.mono HBW3.out.size))
   have hnt : (n : Int) < (ts.length : Int) := by omega
   have hnc2 : (n : Int) ≤ (tc : Int) := by omega
   have hnc3 : n ≤ tc := by omega
   clear hle hba9
   go_wp2_with fail
   ((with_reducible refine HPA.out.mono ?_); rintro e w5 ⟨rfl, hb5⟩)
   have BK4 := Lib.hid ((BK43.out.alloc (.cells #[.int .i64 0, .bool false, .int .u64 0, .string ⟨#[]⟩, .slice none 0 0, .slice none 0 0] 28)).below hb5 (BK43.out.alloc _).lt)
   have BK5 := Lib.hid ((BK53.out.alloc (.cells #[.int .i64 0, .bool false, .int .u64 0, .string ⟨#[]⟩, .slice none 0 0, .slice none 0 0] 28)).below hb5 (BK53.out.alloc _).lt)
   have HBW := Lib.hid (HBW4.out.trans (hb5.mono HBW4.out.size))
   have hk55 := BK5.out.lt
   clear hb5 HPA
   have z0 : w5.cell? ⟨w.heap.size + 1, 0, none⟩ = some (.int .i64 0) := BK4.out.cell 0
   have z1 : w5.cell? ⟨w.heap.size + 1, 1, none⟩ = some (.bool false) := BK4.out.cell 1
   have z2 : w5.cell? ⟨w.heap.size + 1, 2, none⟩ = some (.int .u64 0) := BK4.out.cell 2
   have z3 : w5.cell? ⟨w.heap.size + 1, 3, none⟩ = some (.string ⟨#[]⟩) := BK4.out.cell 3
   have z4 : w5.cell? ⟨w.heap.size + 1, 4, none⟩ = some (.slice none 0 0) := BK4.out.cell 4
   have z5 : w5.cell? ⟨w.heap.size + 1, 5, none⟩ = some (.slice none 0 0) := BK4.out.cell 5
   have q0 := BK4.out.frozen 0
   have q1 := BK4.out.frozen 1
   have q2 := BK4.out.frozen 2
   have q3 := BK4.out.frozen 3
   have q4 := BK4.out.frozen 4
   have q5 := BK4.out.frozen 5
   have y0 : w5.cell? ⟨w.heap.size + 1 + 1, 0, none⟩ = some (.int .i64 0) := BK5.out.cell 0
   have y1 : w5.cell? ⟨w.heap.size + 1 + 1, 1, none⟩ = some (.int .i64 0) := BK5.out.cell 1
   have y2 : w5.cell? ⟨w.heap.size + 1 + 1, 2, none⟩ = some (.bool false) := BK5.out.cell 2
   have y3 : w5.cell? ⟨w.heap.size + 1 + 1, 3, none⟩ = some (.string ⟨#[]⟩) := BK5.out.cell 3
   have r0 := BK5.out.frozen 0
   have r1 := BK5.out.frozen 1
   have r2 := BK5.out.frozen 2
   have r3 := BK5.out.frozen 3
   go_wp2
   have hf4 := (four_far (six_blk BK4.out (.int .i64 0) (.bool false) (.int .u64 0) (.string ⟨#[]⟩) (.slice none 0 0) (.slice none 0 0)) (show w.heap.size + 1 ≠ w.heap.size + 1 + 1 by omega) (.int .i64 4) (.int .i64 0) (.bool true) (.string ⟨(printS (ts.take n)).toArray⟩))
   have hf5 := (four_blk (six_far BK5.out (show w.heap.size + 1 + 1 ≠ w.heap.size + 1 by omega) (.int .i64 0) (.bool false) (.int .u64 0) (.string ⟨#[]⟩) (.slice none 0 0) (.slice none 0 0)) (.int .i64 4) (.int .i64 0) (.bool true) (.string ⟨(printS (ts.take n)).toArray⟩))
   have hbel := (four_below (six_below HBW.out (show w.heap.size ≤ w.heap.size + 1 by omega) (.int .i64 0) (.bool false) (.int .u64 0) (.string ⟨#[]⟩) (.slice none 0 0) (.slice none 0 0)) (show w.heap.size ≤ w.heap.size + 1 + 1 by omega) (.int .i64 4) (.int .i64 0) (.bool true) (.string ⟨(printS (ts.take n)).toArray⟩))
   unfold four six at hf4 hf5 hbel
   generalize ((((((((((w5.setCell ⟨w.heap.size + 1, 0, none⟩ (.int .i64 0)).setCell ⟨w.heap.size + 1, 1, none⟩ (.bool false)).setCell ⟨w.heap.size + 1, 2, none⟩ (.int .u64 0)).setCell ⟨w.heap.size + 1, 3, none⟩ (.string ⟨#[]⟩)).setCell ⟨w.heap.size + 1, 4, none⟩ (.slice none 0 0)).setCell ⟨w.heap.size + 1, 5, none⟩ (.slice none 0 0)).setCell ⟨w.heap.size + 1 + 1, 0, none⟩ (.int .i64 4)).setCell ⟨w.heap.size + 1 + 1, 1, none⟩ (.int .i64 0)).setCell ⟨w.heap.size + 1 + 1, 2, none⟩ (.bool true)).setCell ⟨w.heap.size + 1 + 1, 3, none⟩ (.string ⟨(printS (ts.take n)).toArray⟩)) = wf at *
   have dd0 : wf.cell? ⟨w.heap.size + 1, 0, none⟩ = some (.int .i64 0) := hf4.cell 0
   have dd1 : wf.cell? ⟨w.heap.size + 1, 1, none⟩ = some (.bool false) := hf4.cell 1
   have dd2 : wf.cell? ⟨w.heap.size + 1, 2, none⟩ = some (.int .u64 0) := hf4.cell 2
   have dd3 : wf.cell? ⟨w.heap.size + 1, 3, none⟩ = some (.string ⟨#[]⟩) := hf4.cell 3
   have dd4 : wf.cell? ⟨w.heap.size + 1, 4, none⟩ = some (.slice none 0 0) := hf4.cell 4
   have dd5 : wf.cell? ⟨w.heap.size + 1, 5, none⟩ = some (.slice none 0 0) := hf4.cell 5
   have ee0 : wf.cell? ⟨w.heap.size + 1 + 1, 0, none⟩ = some (.int .i64 4) := hf5.cell 0
   have ee1 : wf.cell? ⟨w.heap.size + 1 + 1, 1, none⟩ = some (.int .i64 0) := hf5.cell 1
   have ee2 : wf.cell? ⟨w.heap.size + 1 + 1, 2, none⟩ = some (.bool true) := hf5.cell 2
   have ee3 : wf.cell? ⟨w.heap.size + 1 + 1, 3, none⟩ = some (.string ⟨(printS (ts.take n)).toArray⟩) := hf5.cell 3
   refine bodyPost_ret (v := .tuple #[noVal, .agg #[.int .i64 4, .int .i64 0, .bool true, .string ⟨(printS (ts.take n)).toArray⟩]]) ?_ rfl (rfindP_none HP.out HLE.out hbel)
   simp [results, Tryz.results17, go_sem, dd0, dd1, dd2, dd3, dd4, dd5, ee0, ee1, ee2, ee3]
  | inr u =>
   rw [hle] at he
   obtain ⟨A2, c2, K2, d2, rfl, hrd, huo⟩ := he
   have HLE := Lib.hid hle
   have HU := Lib.hid (And.intro hrd huo)
   have BK4 := BK43
   have BK5 := BK53
   have HBW := HBW3
   clear hle hrd huo BK43 BK53
   have z0 : w3.cell? ⟨w.heap.size + 1, 0, none⟩ = some (.int .i64 0) := BK4.out.cell 0
   have z1 : w3.cell? ⟨w.heap.size + 1, 1, none⟩ = some (.bool false) := BK4.out.cell 1
   have z2 : w3.cell? ⟨w.heap.size + 1, 2, none⟩ = some (.int .u64 0) := BK4.out.cell 2
   have z3 : w3.cell? ⟨w.heap.size + 1, 3, none⟩ = some (.string ⟨#[]⟩) := BK4.out.cell 3
   have z4 : w3.cell? ⟨w.heap.size + 1, 4, none⟩ = some (.slice none 0 0) := BK4.out.cell 4
   have z5 : w3.cell? ⟨w.heap.size + 1, 5, none⟩ = some (.slice none 0 0) := BK4.out.cell 5
   have q0 := BK4.out.frozen 0
   have q1 := BK4.out.frozen 1
   have q2 := BK4.out.frozen 2
   have q3 := BK4.out.frozen 3
   have q4 := BK4.out.frozen 4
   have q5 := BK4.out.frozen 5
   have y0 : w3.cell? ⟨w.heap.size + 1 + 1, 0, none⟩ = some (.int .i64 0) := BK5.out.cell 0
   have y1 : w3.cell? ⟨w.heap.size + 1 + 1, 1, none⟩ = some (.int .i64 0) := BK5.out.cell 1
   have y2 : w3.cell? ⟨w.heap.size + 1 + 1, 2, none⟩ = some (.bool false) := BK5.out.cell 2
   have y3 : w3.cell? ⟨w.heap.size + 1 + 1, 3, none⟩ = some (.string ⟨#[]⟩) := BK5.out.cell 3
   have r0 := BK5.out.frozen 0
   have r1 := BK5.out.frozen 1
   have r2 := BK5.out.frozen 2
   have r3 := BK5.out.frozen 3
   go_wp2
   have hf4 := (four_far (six_blk BK4.out (.int .i64 (u.srt : Nat)) (.bool u.fl) (.int .u64 (u.bi : Nat)) (.string ⟨u.tx.toArray⟩) (.slice A2 u.kids.length c2) (.slice K2 u.kn.length d2)) (show w.heap.size + 1 ≠ w.heap.size + 1 + 1 by omega) (.int .i64 0) (.int .i64 0) (.bool false) (.string ⟨#[]⟩)).alloc (.cells #[.int .i64 (u.srt : Nat), .bool u.fl, .int .u64 (u.bi : Nat), .string ⟨u.tx.toArray⟩, .slice A2 u.kids.length c2, .slice K2 u.kn.length d2] 28)
   have hf5 := (four_blk (six_far BK5.out (show w.heap.size + 1 + 1 ≠ w.heap.size + 1 by omega) (.int .i64 (u.srt : Nat)) (.bool u.fl) (.int .u64 (u.bi : Nat)) (.string ⟨u.tx.toArray⟩) (.slice A2 u.kids.length c2) (.slice K2 u.kn.length d2)) (.int .i64 0) (.int .i64 0) (.bool false) (.string ⟨#[]⟩)).alloc (.cells #[.int .i64 (u.srt : Nat), .bool u.fl, .int .u64 (u.bi : Nat), .string ⟨u.tx.toArray⟩, .slice A2 u.kids.length c2, .slice K2 u.kn.length d2] 28)
   have hbel := (four_below (six_below HBW.out (show w.heap.size ≤ w.heap.size + 1 by omega) (.int .i64 (u.srt : Nat)) (.bool u.fl) (.int .u64 (u.bi : Nat)) (.string ⟨u.tx.toArray⟩) (.slice A2 u.kids.length c2) (.slice K2 u.kn.length d2)) (show w.heap.size ≤ w.heap.size + 1 + 1 by omega) (.int .i64 0) (.int .i64 0) (.bool false) (.string ⟨#[]⟩)).alloc (by have := HBW.out.size; simp [six, four]; omega) (.cells #[.int .i64 (u.srt : Nat), .bool u.fl, .int .u64 (u.bi : Nat), .string ⟨u.tx.toArray⟩, .slice A2 u.kids.length c2, .slice K2 u.kn.length d2] 28)
   unfold four six at hf4 hf5 hbel
   generalize ((((((((((w3.setCell ⟨w.heap.size + 1, 0, none⟩ (.int .i64 (u.srt : Nat))).setCell ⟨w.heap.size + 1, 1, none⟩ (.bool u.fl)).setCell ⟨w.heap.size + 1, 2, none⟩ (.int .u64 (u.bi : Nat))).setCell ⟨w.heap.size + 1, 3, none⟩ (.string ⟨u.tx.toArray⟩)).setCell ⟨w.heap.size + 1, 4, none⟩ (.slice A2 u.kids.length c2)).setCell ⟨w.heap.size + 1, 5, none⟩ (.slice K2 u.kn.length d2)).setCell ⟨w.heap.size + 1 + 1, 0, none⟩ (.int .i64 0)).setCell ⟨w.heap.size + 1 + 1, 1, none⟩ (.int .i64 0)).setCell ⟨w.heap.size + 1 + 1, 2, none⟩ (.bool false)).setCell ⟨w.heap.size + 1 + 1, 3, none⟩ (.string ⟨#[]⟩)).alloc (.cells #[.int .i64 (u.srt : Nat), .bool u.fl, .int .u64 (u.bi : Nat), .string ⟨u.tx.toArray⟩, .slice A2 u.kids.length c2, .slice K2 u.kn.length d2] 28) = wf at *
   have dd0 : wf.cell? ⟨w.heap.size + 1, 0, none⟩ = some (.int .i64 (u.srt : Nat)) := hf4.cell 0
   have dd1 : wf.cell? ⟨w.heap.size + 1, 1, none⟩ = some (.bool u.fl) := hf4.cell 1
   have dd2 : wf.cell? ⟨w.heap.size + 1, 2, none⟩ = some (.int .u64 (u.bi : Nat)) := hf4.cell 2
   have dd3 : wf.cell? ⟨w.heap.size + 1, 3, none⟩ = some (.string ⟨u.tx.toArray⟩) := hf4.cell 3
   have dd4 : wf.cell? ⟨w.heap.size + 1, 4, none⟩ = some (.slice A2 u.kids.length c2) := hf4.cell 4
   have dd5 : wf.cell? ⟨w.heap.size + 1, 5, none⟩ = some (.slice K2 u.kn.length d2) := hf4.cell 5
   have ee0 : wf.cell? ⟨w.heap.size + 1 + 1, 0, none⟩ = some (.int .i64 0) := hf5.cell 0
   have ee1 : wf.cell? ⟨w.heap.size + 1 + 1, 1, none⟩ = some (.int .i64 0) := hf5.cell 1
   have ee2 : wf.cell? ⟨w.heap.size + 1 + 1, 2, none⟩ = some (.bool false) := hf5.cell 2
   have ee3 : wf.cell? ⟨w.heap.size + 1 + 1, 3, none⟩ = some (.string ⟨#[]⟩) := hf5.cell 3
   refine bodyPost_ret (v := .tuple #[valV u A2 c2 K2 d2, .agg #[.int .i64 0, .int .i64 0, .bool false, .string ⟨#[]⟩]]) ?_ rfl (rfindP_some HP.out HLE.out HU.out.1 HU.out.2 hbel)
   simp [results, Tryz.results17, go_sem, dd0, dd1, dd2, dd3, dd4, dd5, ee0, ee1, ee2, ee3]
end Nd
end Go.Proofs.YtlailcmhpnnidaaGreatDoor
namespace Go.Proofs.YtlailcmhpnnidaaGreatDoor
open Go.RowKit Mem
namespace Nd
end Nd
end Go.Proofs.YtlailcmhpnnidaaGreatDoor
namespace Go.Proofs.YtlailcmhpnnidaaGreatDoor
open Go.RowKit Mem
namespace Nd
theorem tv_0_0  (w : World) : (Instr.typeAssert (.iface 103 (.agg #[])) 35 103 true).run Tryz.prog w = .ok (.tuple #[.agg #[], .bool true]) w := by kernel_rfl
theorem tv_1_0 (b : Bool) (w : World) : (Instr.typeAssert (.iface 104 (.bool b)) 35 103 true).run Tryz.prog w = .ok (.tuple #[.agg #[], .bool false]) w := by kernel_rfl
theorem tv_1_1 (b : Bool) (w : World) : (Instr.typeAssert (.iface 104 (.bool b)) 35 104 true).run Tryz.prog w = .ok (.tuple #[.bool b, .bool true]) w := by kernel_rfl
theorem tv_2_0 (x : Nat) (w : World) : (Instr.typeAssert (.iface 106 (.float .f64 x)) 35 103 true).run Tryz.prog w = .ok (.tuple #[.agg #[], .bool false]) w := by kernel_rfl
theorem tv_2_1 (x : Nat) (w : World) : (Instr.typeAssert (.iface 106 (.float .f64 x)) 35 104 true).run Tryz.prog w = .ok (.tuple #[.bool false, .bool false]) w := by kernel_rfl
theorem tv_2_2 (x : Nat) (w : World) : (Instr.typeAssert (.iface 106 (.float .f64 x)) 35 106 true).run Tryz.prog w = .ok (.tuple #[.float .f64 x, .bool true]) w := by kernel_rfl
theorem tv_3_0 (s : ByteArray) (w : World) : (Instr.typeAssert (.iface 108 (.string s)) 35 103 true).run Tryz.prog w = .ok (.tuple #[.agg #[], .bool false]) w := by kernel_rfl
theorem tv_3_1 (s : ByteArray) (w : World) : (Instr.typeAssert (.iface 108 (.string s)) 35 104 true).run Tryz.prog w = .ok (.tuple #[.bool false, .bool false]) w := by kernel_rfl
theorem tv_3_2 (s : ByteArray) (w : World) : (Instr.typeAssert (.iface 108 (.string s)) 35 106 true).run Tryz.prog w = .ok (.tuple #[.float .f64 0, .bool false]) w := by kernel_rfl
theorem tv_3_3 (s : ByteArray) (w : World) : (Instr.typeAssert (.iface 108 (.string s)) 35 108 true).run Tryz.prog w = .ok (.tuple #[.string s, .bool true]) w := by kernel_rfl
theorem tv_4_0 (A : Option Addr) (n c : Nat) (w : World) : (Instr.typeAssert (.iface 109 (.slice A n c)) 35 103 true).run Tryz.prog w = .ok (.tuple #[.agg #[], .bool false]) w := by kernel_rfl
theorem tv_4_1 (A : Option Addr) (n c : Nat) (w : World) : (Instr.typeAssert (.iface 109 (.slice A n c)) 35 104 true).run Tryz.prog w = .ok (.tuple #[.bool false, .bool false]) w := by kernel_rfl
theorem tv_4_2 (A : Option Addr) (n c : Nat) (w : World) : (Instr.typeAssert (.iface 109 (.slice A n c)) 35 106 true).run Tryz.prog w = .ok (.tuple #[.float .f64 0, .bool false]) w := by kernel_rfl
theorem tv_4_3 (A : Option Addr) (n c : Nat) (w : World) : (Instr.typeAssert (.iface 109 (.slice A n c)) 35 108 true).run Tryz.prog w = .ok (.tuple #[.string ⟨#[]⟩, .bool false]) w := by kernel_rfl
theorem tv_4_4 (A : Option Addr) (n c : Nat) (w : World) : (Instr.typeAssert (.iface 109 (.slice A n c)) 35 109 true).run Tryz.prog w = .ok (.tuple #[.slice A n c, .bool true]) w := by kernel_rfl
theorem tv_5_0 (A : Option Addr) (n c : Nat) (w : World) : (Instr.typeAssert (.iface 112 (.slice A n c)) 35 103 true).run Tryz.prog w = .ok (.tuple #[.agg #[], .bool false]) w := by kernel_rfl
theorem tv_5_1 (A : Option Addr) (n c : Nat) (w : World) : (Instr.typeAssert (.iface 112 (.slice A n c)) 35 104 true).run Tryz.prog w = .ok (.tuple #[.bool false, .bool false]) w := by kernel_rfl
theorem tv_5_2 (A : Option Addr) (n c : Nat) (w : World) : (Instr.typeAssert (.iface 112 (.slice A n c)) 35 106 true).run Tryz.prog w = .ok (.tuple #[.float .f64 0, .bool false]) w := by kernel_rfl
theorem tv_5_3 (A : Option Addr) (n c : Nat) (w : World) : (Instr.typeAssert (.iface 112 (.slice A n c)) 35 108 true).run Tryz.prog w = .ok (.tuple #[.string ⟨#[]⟩, .bool false]) w := by kernel_rfl
theorem tv_5_4 (A : Option Addr) (n c : Nat) (w : World) : (Instr.typeAssert (.iface 112 (.slice A n c)) 35 109 true).run Tryz.prog w = .ok (.tuple #[.slice none 0 0, .bool false]) w := by kernel_rfl
theorem tv_5_5 (A : Option Addr) (n c : Nat) (w : World) : (Instr.typeAssert (.iface 112 (.slice A n c)) 35 112 true).run Tryz.prog w = .ok (.tuple #[.slice A n c, .bool true]) w := by kernel_rfl
def ToldP (w : World) (e : Ending) (w' : World) : Prop := e = .returned (.bool true) ∧ Below w.heap.size w w'
end Nd
end Go.Proofs.YtlailcmhpnnidaaGreatDoor
namespace Go.Proofs.YtlailcmhpnnidaaGreatDoor
open Go.RowKit Mem
namespace Nd
theorem trow_at {w : World} {e : TypeId} {X : Option Addr} {n xc k : Nat} {vs : List Value} {l : List Tr} (hrow : Row (fun _ => True) w e (.slice X n xc) vs) (hl : TdL (fun _ => True) w l vs) (hk : k < l.length) :
  ∃ g o tx ux, X = some ⟨g, o, none⟩ ∧ w.cell? ⟨g, o + k, none⟩ = some (.iface tx ux) ∧ TdT (fun _ => True) w l[k] (.iface tx ux) := by
 obtain ⟨A', c', e', h'⟩ := hrow
 injection e' with e1 e2 e3
 have hvl := hl.len
 rcases h' with ⟨h', _⟩ | ⟨g, o, cur, hA, _, hBg, hc⟩
 ·rw [h'] at hvl
  simp at hvl
  omega
 ·have hvk : vs[k]? = some (vs[k]'(by omega)) := List.getElem?_eq_getElem (by omega)
  have hrd := hl.at (List.getElem?_eq_getElem hk) hvk
  obtain ⟨tx, ux, he⟩ := hrd.iface
  rw [he] at hrd
  exact ⟨g, o, tx, ux, by rw [e1, hA], (hBg.cell _).trans (hc k _ (by rw [hvk, he])), hrd⟩
abbrev TdA (w : World) (t : Tr) (v : Value) : Prop := TdT (fun _ => True) w t v
theorem tda_below {w w' : World} {t : Tr} {v : Value} (h : TdA w t v) (hb : Below w.heap.size w w') : TdA w' t v := TdT.move (fun j hj hs => ⟨trivial, hb.block j hj⟩) _ _ h
end Nd
end Go.Proofs.YtlailcmhpnnidaaGreatDoor
namespace Go.Proofs.YtlailcmhpnnidaaGreatDoor
open Go.RowKit Mem
namespace Nd
theorem pairs_at : ∀ (ks : List Tx) (vs : List Value) (k : Nat) (h1 : k < ks.length) (h2 : k < vs.length), (pairs ks vs)[2 * k]? = some (txV ks[k]) ∧ (pairs ks vs)[2 * k + 1]? = some vs[k]
 | [], vs, k, h1, h2 => by simp at h1
 | y :: ks, [], k, h1, h2 => by simp at h2
 | y :: ks, v :: vs, 0, h1, h2 => ⟨rfl, rfl⟩
 | y :: ks, v :: vs, k + 1, h1, h2 => by
  have ih := pairs_at ks vs k (by simpa using h1) (by simpa using h2)
  have e1 : 2 * (k + 1) = 2 * k + 1 + 1 := by omega
  have e2 : 2 * (k + 1) + 1 = 2 * k + 1 + 1 + 1 := by omega
  rw [e1]
  simp only [pairs, List.getElem?_cons_succ, List.getElem_cons_succ]
  exact ih
theorem trow2_at {w : World} {e : TypeId} {X : Option Addr} {xc k : Nat} {ks : List Tx} {vs : List Value} {l : List Tr} (hrow : Row2 (fun _ => True) w e (.slice X l.length xc) l.length (pairs ks vs)) (hl : TdL (fun _ => True) w l vs) (hkl : ks.length = l.length) (hk : k < l.length) :
  ∃ g o tx ux, X = some ⟨g, o, none⟩ ∧ w.cell? ⟨g, o + k * 2, none⟩ = some (.string ⟨(ks[k]'(by omega)).toArray⟩) ∧ w.cell? ⟨g, o + k * 2 + 1, none⟩ = some (.iface tx ux) ∧ TdT (fun _ => True) w l[k] (.iface tx ux) := by
 obtain ⟨A', c', e', hlen, h'⟩ := hrow
 injection e' with e1 e2 e3
 have hvl := hl.len
 rcases h' with h' | ⟨g, o, cur, hA, _, hBg, hc⟩
 ·omega
 ·have hvk : vs[k]? = some (vs[k]'(by omega)) := List.getElem?_eq_getElem (by omega)
  have hrd := hl.at (List.getElem?_eq_getElem hk) hvk
  obtain ⟨tx, ux, he⟩ := hrd.iface
  obtain ⟨q1, q2⟩ := pairs_at ks vs k (by omega) (by omega)
  rw [he] at hrd q2
  refine ⟨g, o, tx, ux, by rw [e1, hA], ?_, ?_, hrd⟩
  ·rw [show k * 2 = 2 * k by omega]
   exact (hBg.cell _).trans (hc _ _ q1)
  ·rw [show o + k * 2 + 1 = o + (2 * k + 1) by omega]
   exact (hBg.cell _).trans (hc _ _ q2)
end Nd
end Go.Proofs.YtlailcmhpnnidaaGreatDoor
namespace Go.Proofs.YtlailcmhpnnidaaGreatDoor
open Go.RowKit Mem Utf Ref3 Idx Tok TokC
namespace Nd
end Nd
end Go.Proofs.YtlailcmhpnnidaaGreatDoor
