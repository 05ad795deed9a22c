/-
  Package utf: Units of a right text.
  Walks of package bind: texts: a text as what it is, as characters, as units.
-/
import Derived.Test.YtbajkglacfheiaaGreatDoorPA17
import Derived.RangeFuncBox
set_option linter.unusedVariables false
set_option linter.unusedSimpArgs false
set_option maxRecDepth 100000
set_option maxHeartbeats 16000000
namespace Go.Proofs.YtbajkglacfheiaaGreatDoor
open Go Go.RowKit Mem
namespace Nd
def unitsQ (rs : List Nat) : List Nat := rs.flatMap unQ
theorem unQ_len (r : Nat) : 1 ≤ (unQ r).length ∧ (unQ r).length ≤ 2 := by
 unfold unQ
 split <;> simp
theorem unitsq_snoc (rs : List Nat) (r : Nat) : unitsQ (rs ++ [r]) = unitsQ rs ++ unQ r := by
 unfold unitsQ
 rw [List.flatMap_append]
 simp
theorem units_le : ∀ rs : List Nat, (∀ r ∈ rs, okR r) → (unitsQ rs).length ≤ 2 * (rs.flatMap encB).length
 | [], _ => by simp [unitsQ]
 | r :: rs, h => by
  have h1 := units_le rs fun x hx => h x (by simp [hx])
  have h2 := enc_pos r (h r (by simp))
  have h3 := (unQ_len r).2
  unfold unitsQ at h1 ⊢
  rw [List.flatMap_cons, List.flatMap_cons, List.length_append, List.length_append]
  omega
theorem below_obj {B : Nat} {a w : World} (h : Below B a w) {g : Nat} (hg : B ≤ g) (o : Obj) : Below B a (w.putObj g o) :=
 ⟨h.os, h.tape, h.output, by rw [World.putObj_size]; exact h.size, fun k hk => (World.putObj_heap_other (by omega)).trans (h.block k hk)⟩
structure UnS (s : ByteArray) (rs : List Nat) (base it : Nat) (w : World) (k : Nat) (u : Value) (wr : World) : Prop where
 bl : Below base w wr
 itr : wr.heap[it]? = some (.stringIter s ((rs.take k).flatMap encB).length)
 own : wr.ownsRow (it + 1) 131 1 u (unitsQ (rs.take k)).length ((unitsQ (rs.take k)).map u16B)
def UnitsP (rs : List Nat) (w : World) (e : Ending) (w' : World) : Prop :=
 ∃ v, e = .returned (.tuple #[v, .nilIface]) ∧ w'.ownsRow w.heap.size 131 1 v (unitsQ rs).length ((unitsQ rs).map u16B) ∧ Below w.heap.size w w'
theorem own_lowB {w : World} {b b' : Nat} {e : TypeId} {z : Nat} {v : Value} {n : Nat} {xs : List Value} (h : w.ownsRow b e z v n xs) (hb : b' ≤ b) : w.ownsRow b' e z v n xs := by
 refine ⟨h.1, ?_⟩
 rcases h.2 with h | ⟨g, cap, cur, e1, h1, rest⟩
 ·exact .inl h
 ·exact .inr ⟨g, cap, cur, e1, by omega, rest⟩
theorem take_next {rs : List Nat} {k : Nat} (h : k < rs.length) : rs.take (k + 1) = rs.take k ++ [rs[k]] := List.take_succ_eq_append_getElem h
theorem uns_step {s : ByteArray} {rs : List Nat} {base it : Nat} {w wr wp w2 : World} {k : Nat} {u u' : Value} (hk : k < rs.length) (h : UnS s rs base it w k u wr) (hbi : base ≤ it) (hit : it < wr.heap.size)
  (hwp : wp = wr.putObj it (.stringIter s (((rs.take k).flatMap encB).length + (encB rs[k]).length)))
  (ho : w2.ownsRow (it + 1) 131 1 u' (unitsQ (rs.take k) ++ unQ rs[k]).length ((unitsQ (rs.take k) ++ unQ rs[k]).map u16B)) (hg : wp.grownBy w2 u.ownBlock) : UnS s rs base it w (k + 1) u' w2 := by
 have hz : wp.heap.size = wr.heap.size := by rw [hwp, World.putObj_size]
 have hne : some it ≠ u.ownBlock := fun e => by
  have := (h.own.lt it e.symm).1
  omega
 refine ⟨?_, ?_, ?_⟩
 ·have hb1 : Below base w wp := by rw [hwp]; exact below_obj h.bl hbi _
  exact hb1.grown hg (by have := h.bl.size; have := hb1.size; omega) fun j hj => by have := (h.own.lt j hj).1; omega
 ·rw [hg.block it (by omega) hne, hwp, World.putObj_heap_same hit, take_next hk, List.flatMap_append, List.length_append]
  simp
 ·rw [take_next hk, unitsq_snoc]
  exact ho
theorem uunits_any (rs : List Nat) (l : Tx) (hr : ∀ r ∈ rs, okR r) (hl : l = rs.flatMap encB) (hok : rightB l = true) (hn : l.length ≤ 2097152) (w : World) :
  Calls Tryz.prog 11 #[.string ⟨l.toArray⟩] w (UnitsP rs w) := by
 have kc := fun (W : World) => Lib.run_convert_string_bytes (P := Tryz.prog) W 9 89 5 ⟨l.toArray⟩ Tryz.underlying9 Tryz.underlying89 Tryz.underlying5
 have HC := Lib.hid (chk_right hok)
 have HR := Lib.hid hr
 have HL := Lib.hid hl
 have HN := Lib.hid hn
 have q1 := err_ne_nil
 have hcv : BelowD w.heap.size w (Lib.bytesWorld w 5 ⟨l.toArray⟩) := Utf.conv_below w 5 ⟨l.toArray⟩
 have HCV := Lib.hid hcv
 have hsz : l.length ≤ 140737488355328 := by omega
 have hgr := fun (W : World) => run_range_string (P := Tryz.prog) W 9 ⟨l.toArray⟩ Tryz.underlying9
 clear hok hr hl hn hcv
 go_enter Tryz.func11, Tryz.ntmps11
 go_wp2_with fail
 ((with_reducible refine (check_any _ l _ _ _ rfl hsz (Utf.conv_reads w _ ⟨l.toArray⟩)).mono ?_); rintro e w1 ⟨rfl, hb⟩)
 rw [HC.out]
 have HB1 := Lib.hid (HCV.out.toBelow.trans (hb.toBelow.mono HCV.out.toBelow.size))
 clear hb kc hsz
 go_wp2_with fail
 have HS0 : Hid (UnS ⟨l.toArray⟩ rs w.heap.size w1.heap.size w 0 (.slice none 0 0) (w1.iter ⟨l.toArray⟩ 0)) := Lib.hid (by
  refine ⟨HB1.out.alloc HB1.out.size _, ?_, World.ownsRow_nil _ _ _ _⟩
  exact World.iter_heap w1 _ 0)
 have HZ := Lib.hid (show w1.heap.size < (w1.iter ⟨l.toArray⟩ 0).heap.size by show w1.heap.size < (w1.alloc _).heap.size; simp)
 have HW1 := Lib.hid HB1.out.size
 go_loopw [5] (fun u wr => ∃ k : Nat, k ≤ rs.length ∧ Hid (UnS ⟨l.toArray⟩ rs w.heap.size w1.heap.size w k u wr ∧ w1.heap.size < wr.heap.size)) (fun u wr => l.length - wr.iterPos w1.heap.size)
 case atStart => exact ⟨0, Nat.zero_le _, Lib.hid ⟨HS0.out, HZ.out⟩⟩
 case round =>
  obtain ⟨k, hk, HI⟩ := hrel
  by_cases hlt : k < rs.length
  ·obtain ⟨r, hrk⟩ : ∃ r, rs[k] = r := ⟨_, rfl⟩
   have hor : okR r := by rw [← hrk]; exact HR.out _ (List.getElem_mem hlt)
   have hls : l = (rs.take k).flatMap encB ++ (encB r ++ (rs.drop (k + 1)).flatMap encB) := by
    rw [HL.out, ← List.flatMap_cons, ← hrk, List.getElem_cons_drop hlt, ← List.flatMap_append, List.take_append_drop]
   have hdec := decode_at ((rs.take k).flatMap encB) ((rs.drop (k + 1)).flatMap encB) r hor
   rw [← hls] at hdec
   have hlen := congrArg List.length hls
   rw [List.length_append, List.length_append] at hlen
   have hep := enc_pos r hor
   obtain ⟨pos, hpos⟩ : ∃ pos, ((rs.take k).flatMap encB).length = pos := ⟨_, rfl⟩
   have hit := HI.out.1.itr
   have hul := units_le (rs.take k) fun x hx => HR.out x (List.mem_of_mem_take hx)
   rw [hpos] at hit hdec hlen hul
   have hps : pos < (ByteArray.mk l.toArray).size := by show pos < l.toArray.size; rw [List.size_toArray]; omega
   have hnx : ∀ ty, (Instr.next (.pointer (some ⟨w1.heap.size, 0, none⟩)) true ty).run Tryz.prog wr = .ok (.tuple #[.bool true, .int .i64 pos, .int .i32 (r : Int)]) (wr.putObj w1.heap.size (.stringIter ⟨l.toArray⟩ (pos + (encB r).length))) := fun ty => by
    rw [next_str wr _ _ _ ty hit hps, hdec]
   obtain ⟨wp, hwp⟩ : ∃ wp, wr.putObj w1.heap.size (.stringIter ⟨l.toArray⟩ (pos + (encB r).length)) = wp := ⟨_, rfl⟩
   rw [hwp] at hnx
   have hown : wp.ownsRow (w1.heap.size + 1) 131 1 u5 (unitsQ (rs.take k)).length ((unitsQ (rs.take k)).map u16B) := by
    rw [← hwp]
    exact ownsRow_putObj HI.out.1.own _ hit rfl
   have HOWN := Lib.hid hown
   have HN2 := Lib.hid (show (unitsQ (rs.take k)).length ≤ 4194304 ∧ r < 1114112 ∧ w1.heap.size + 1 ≤ wp.heap.size by
    refine ⟨by have := HN.out; omega, by unfold okR at hor; omega, ?_⟩
    rw [← hwp, World.putObj_size]
    exact HI.out.2)
   have HMS := Lib.hid (show wr.iterPos w1.heap.size = pos from iterPos_of hit)
   have HEND := Lib.hid (fun (u' : Value) (w2 : World) (ho : w2.ownsRow (w1.heap.size + 1) 131 1 u' (unitsQ (rs.take k) ++ unQ r).length ((unitsQ (rs.take k) ++ unQ r).map u16B)) (hg : wp.grownBy w2 u5.ownBlock) => uns_step hlt HI.out.1 HW1.out HI.out.2 (by rw [hpos, hrk]; exact hwp.symm) (by rw [hrk]; exact ho) hg)
   have HLT := Lib.hid (And.intro hlt (And.intro hep hlen))
   have HZP := Lib.hid (show wp.heap.size = wr.heap.size by rw [← hwp, World.putObj_size])
   have HRK := Lib.hid hrk
   have HPOS := Lib.hid hpos
   clear hor hls hdec hlen hep hit hul hps hwp hown hrk hpos
   go_wp2_with fail
   ((with_reducible refine (put_any (w1.heap.size + 1) u5 (unitsQ (rs.take k)) r _ HN2.out.2.1 HOWN.out HN2.out.1 HN2.out.2.2).mono ?_); rintro e w2 ⟨u2, rfl, hown2, hgr2, _⟩)
   have HE := Lib.hid (HEND.out u2 w2 hown2 hgr2)
   have HZ2 := Lib.hid hgr2.size
   clear hown2 hgr2
   go_wp2
   go_roundw
   case rel => exact ⟨k + 1, HLT.out.1, Lib.hid ⟨HE.out, by have h1 := HZ2.out; have h2 := HZP.out; have h3 := HI.out.2; omega⟩⟩
   case measure =>
    have h1 := HE.out.itr
    rw [take_next hlt, List.flatMap_append, List.length_append, HPOS.out, HRK.out] at h1
    have h2 := iterPos_of h1
    simp only [List.flatMap_cons, List.flatMap_nil, List.append_nil] at h2
    rw [h2, HMS.out]
    have h3 := HLT.out.2
    omega
  ·obtain rfl : k = rs.length := by omega
   have hit := HI.out.1.itr
   rw [List.take_length, ← HL.out] at hit
   have hps : ¬ l.length < (ByteArray.mk l.toArray).size := by show ¬ l.length < l.toArray.size; rw [List.size_toArray]; omega
   have hnx : ∀ ty, (Instr.next (.pointer (some ⟨w1.heap.size, 0, none⟩)) true ty).run Tryz.prog wr = .ok (.tuple #[.bool false]) wr := fun ty => next_str_end wr _ _ _ ty hit hps
   clear hit hps hlt
   go_wp2
   go_ret2
   have hi := HI.out.1
   refine ⟨u5, rfl, ?_, hi.bl⟩
   have ho := hi.own
   rw [List.take_length] at ho
   exact own_lowB ho (by have := HW1.out; omega)
end Nd
end Go.Proofs.YtbajkglacfheiaaGreatDoor
namespace Go.Proofs.YtbajkglacfheiaaGreatDoor
open Go Go.RowKit Mem
namespace Nd
def i32B (n : Nat) : Value := .int .i32 (n : Int)
def TxtP (k : Nat) (s : Tx) (rs : List Nat) (w : World) (e : Ending) (w' : World) : Prop :=
 (if k = 15 then e = .returned (.tuple #[.iface 34 (.string ⟨s.toArray⟩), .nilIface])
  else if k = 16 then ∃ g cap, e = .returned (.tuple #[.iface 37 (.slice (some ⟨g, 0, none⟩) rs.length cap), .nilIface]) ∧ w.heap.size ≤ g ∧ rs.length ≤ cap ∧ ∀ j r, rs[j]? = some r → w'.cell? ⟨g, j, none⟩ = some (i32B r)
  else ∃ v, e = .returned (.tuple #[.iface 40 v, .nilIface]) ∧ w'.ownsRow w.heap.size 131 1 v (unitsQ rs).length ((unitsQ rs).map u16B)) ∧ Below w.heap.size w w'
theorem txt_no (k : Int) (t : Tr) (ht : t.isTx = false) (v : Value) (p : Tx) (w : World) (h : RdA w t v) : Calls Tryz.prog 86 #[.agg #[v], .string ⟨p.toArray⟩, .int .i64 k] w fun e w' => e = .returned (.tuple #[.nilIface, trlV 5 p]) ∧ Below w.heap.size w w' := by
 have hx := ref_boxB w v
 have c1 := (Blk.new w 58 #[v]).cell 0
 have HH := Lib.hid (rda_below h hx)
 have HX := Lib.hid hx
 clear h hx
 go_enter Tryz.func86, Tryz.ntmps86
 go_wp2_with fail
 ((with_reducible refine (textr_any (fun _ => True) t v _ HH.out).mono ?_); rintro e w2 ⟨rfl, hb2⟩)
 rw [ht]
 have HB2 := Lib.hid (HX.out.trans (hb2.mono HX.out.size))
 clear hb2 c1 ht
 go_wp2_with fail
 ((with_reducible refine (btrail_any 5 p _).mono ?_); rintro e w3 ⟨rfl, rfl⟩)
 unfold trlV
 go_wp2
 go_ret2
 exact ⟨rfl, HB2.out⟩
theorem txt_15 (s : Tx) (rs : List Nat) (v : Value) (p : Tx) (w : World) (h : RdA w (.text s) v) : Calls Tryz.prog 86 #[.agg #[v], .string ⟨p.toArray⟩, .int .i64 15] w (TxtP 15 s rs w) := by
 have hx := ref_boxB w v
 have c1 := (Blk.new w 58 #[v]).cell 0
 have HH := Lib.hid (rda_below h hx)
 have HX := Lib.hid hx
 clear h hx
 go_enter Tryz.func86, Tryz.ntmps86
 go_wp2_with fail
 ((with_reducible refine (textr_any (fun _ => True) (.text s) v _ HH.out).mono ?_); rintro e w2 ⟨rfl, hb2⟩)
 dsimp only [Tr.tx, Tr.isTx]
 have HB2 : Hid (TxtP 15 s rs w (.returned (.tuple #[.iface 34 (.string ⟨s.toArray⟩), .nilIface])) w2) := Lib.hid ⟨rfl, HX.out.trans (hb2.mono HX.out.size)⟩
 clear hb2 c1
 go_wp2
 go_ret2
 exact HB2.out
theorem txt_16 (s : Tx) (rs : List Nat) (hr : ∀ r ∈ rs, okR r) (hl : s = rs.flatMap encB) (hn : s.length ≤ 2097152) (v : Value) (p : Tx) (w : World) (h : RdA w (.text s) v) : Calls Tryz.prog 86 #[.agg #[v], .string ⟨p.toArray⟩, .int .i64 16] w (TxtP 16 s rs w) := by
 have hx := ref_boxB w v
 have c1 := (Blk.new w 58 #[v]).cell 0
 have HH := Lib.hid (rda_below h hx)
 have HX := Lib.hid hx
 have hra := runes_all hr hl
 have hsz : (Go.Conv.runesFrom ⟨s.toArray⟩ (ByteArray.mk s.toArray).size 0 #[]).size = rs.length := by
  rw [hra]
  simp
 have hle : rs.length ≤ 2097152 := by
  have h1 : rs.length ≤ (rs.flatMap encB).length := by
   clear hl hra hsz
   induction rs with
   | nil => simp
   | cons r rs ih =>
    have h2 := enc_pos r (hr r (by simp))
    have h3 := ih fun x hx => hr x (by simp [hx])
    rw [List.flatMap_cons, List.length_append, List.length_cons]
    omega
  rw [← hl] at h1
  omega
 have hcv := fun (W : World) => run_runes_of_string (P := Tryz.prog) W 9 36 21 ⟨s.toArray⟩ Tryz.underlying9 Tryz.underlying36 Tryz.underlying21 (by rw [hsz]; omega)
 rw [hra] at hcv
 simp only [List.size_toArray, List.length_map] at hcv
 clear h hx hra hsz hl
 go_enter Tryz.func86, Tryz.ntmps86
 go_wp2_with fail
 ((with_reducible refine (textr_any (fun _ => True) (.text s) v _ HH.out).mono ?_); rintro e w2 ⟨rfl, hb2⟩)
 dsimp only [Tr.tx, Tr.isTx]
 have HB2 := Lib.hid (HX.out.trans (hb2.mono HX.out.size))
 clear hb2 c1
 go_wp2
 go_ret2
 refine ⟨?_, ?_⟩
 ·refine ⟨_, _, rfl, HB2.out.size, ?_, fun j r hj => ?_⟩
  ·exact grownCap_ge _ _ _ _
  ·refine ((Blk.new w2.drew 21 _).cell j).trans ?_
   have hjl := (List.getElem?_eq_some_iff.1 hj).1
   rw [Array.getElem?_append_left (by simpa using hjl)]
   simp [hj, i32B]
 ·exact (HB2.out.drew).alloc HB2.out.size _
theorem txt_17 (s : Tx) (rs : List Nat) (hr : ∀ r ∈ rs, okR r) (hl : s = rs.flatMap encB) (hok : rightB s = true) (hn : s.length ≤ 2097152) (v : Value) (p : Tx) (w : World) (h : RdA w (.text s) v) : Calls Tryz.prog 86 #[.agg #[v], .string ⟨p.toArray⟩, .int .i64 17] w (TxtP 17 s rs w) := by
 have hx := ref_boxB w v
 have c1 := (Blk.new w 58 #[v]).cell 0
 have HH := Lib.hid (rda_below h hx)
 have HX := Lib.hid hx
 have HC := Lib.hid (And.intro hr (And.intro hl (And.intro hok hn)))
 clear h hx hr hl hok hn
 go_enter Tryz.func86, Tryz.ntmps86
 go_wp2_with fail
 ((with_reducible refine (textr_any (fun _ => True) (.text s) v _ HH.out).mono ?_); rintro e w2 ⟨rfl, hb2⟩)
 dsimp only [Tr.tx, Tr.isTx]
 have HB2 := Lib.hid (HX.out.trans (hb2.mono HX.out.size))
 clear hb2 c1
 go_wp2_with fail
 ((with_reducible refine (uunits_any rs s HC.out.1 HC.out.2.1 HC.out.2.2.1 HC.out.2.2.2 _).mono ?_); rintro e w3 ⟨u, rfl, hown, hb3⟩)
 have HP : Hid (TxtP 17 s rs w (.returned (.tuple #[.iface 40 u, .nilIface])) w3) := Lib.hid ⟨⟨u, rfl, own_lowB hown HB2.out.size⟩, HB2.out.trans (hb3.mono HB2.out.size)⟩
 clear hown hb3
 go_wp2
 go_ret2
 exact HP.out
end Nd
end Go.Proofs.YtbajkglacfheiaaGreatDoor
