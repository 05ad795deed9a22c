/-
  Walks of package bind: texts: a text as what it is, as characters, as units.
-/
import Derived.Test.YtbajkglacfheiaaGreatDoorBvC
import Derived.Test.YtbajkglacfheiaaGreatDoorBuF
namespace Go.Proofs.YtbajkglacfheiaaGreatDoor
open Go Go.RowKit Mem
set_option linter.unusedVariables false
set_option linter.unusedSimpArgs false
set_option maxRecDepth 100000
namespace Nd
def i32V (n : Nat) : Value := .int .i32 (n : Int)
/-- what texts answers of a text -/
def TxtP (k : Nat) (s : Tx) (rs : List Nat) (w : World) (e : Ending) (w' : World) : Prop :=
  (if k = 15 then e = .returned (.tuple #[.iface 34 (.string ⟨s.toArray⟩), .nilIface])
   else if k = 16 then ∃ g cap, e = .returned (.tuple #[.iface 37 (.slice (some ⟨g, 0, none⟩) rs.length cap), .nilIface]) ∧ w.heap.size ≤ g ∧ rs.length ≤ cap ∧ ∀ j r, rs[j]? = some r → w'.cell? ⟨g, j, none⟩ = some (i32V r)
   else ∃ v, e = .returned (.tuple #[.iface 40 v, .nilIface]) ∧ w'.ownsRow w.heap.size 131 1 v (unitsQ rs).length ((unitsQ rs).map u16V)) ∧ Below w.heap.size w w'
theorem txt_no (k : Int) (t : Tr) (ht : t.isTx = false) (v : Value) (p : Tx) (w : World) (h : RdA w t v) : Calls Tryz.prog 86 #[.agg #[v], .string ⟨p.toArray⟩, .int .i64 k] w fun e w' => e = .returned (.tuple #[.nilIface, trlV 5 p]) ∧ Below w.heap.size w w' := by
  have hx := ref_boxB w v
  have c1 := (Blk.new w 58 #[v]).cell 0
  have HH := Lib.hid (rda_below h hx)
  have HX := Lib.hid hx
  clear h hx
  go_enter Tryz.func86, Tryz.ntmps86
  go_wp2_with fail
  ((with_reducible refine (textr_any (fun _ => True) t v _ HH.out).mono ?_); rintro e w2 ⟨rfl, hb2⟩)
  rw [ht]
  have HB2 := Lib.hid (HX.out.trans (hb2.mono HX.out.size))
  clear hb2 c1 ht
  go_wp2_with fail
  ((with_reducible refine (btrail_any 5 p _).mono ?_); rintro e w3 ⟨rfl, rfl⟩)
  unfold trlV
  go_wp2
  go_ret2
  exact ⟨rfl, HB2.out⟩
theorem txt_15 (s : Tx) (rs : List Nat) (v : Value) (p : Tx) (w : World) (h : RdA w (.text s) v) : Calls Tryz.prog 86 #[.agg #[v], .string ⟨p.toArray⟩, .int .i64 15] w (TxtP 15 s rs w) := by
  have hx := ref_boxB w v
  have c1 := (Blk.new w 58 #[v]).cell 0
  have HH := Lib.hid (rda_below h hx)
  have HX := Lib.hid hx
  clear h hx
  go_enter Tryz.func86, Tryz.ntmps86
  go_wp2_with fail
  ((with_reducible refine (textr_any (fun _ => True) (.text s) v _ HH.out).mono ?_); rintro e w2 ⟨rfl, hb2⟩)
  dsimp only [Tr.tx, Tr.isTx]
  have HB2 : Hid (TxtP 15 s rs w (.returned (.tuple #[.iface 34 (.string ⟨s.toArray⟩), .nilIface])) w2) := Lib.hid ⟨rfl, HX.out.trans (hb2.mono HX.out.size)⟩
  clear hb2 c1
  go_wp2
  go_ret2
  exact HB2.out
theorem txt_16 (s : Tx) (rs : List Nat) (hr : ∀ r ∈ rs, okR r) (hl : s = rs.flatMap encB) (hn : s.length ≤ 2097152) (v : Value) (p : Tx) (w : World) (h : RdA w (.text s) v) : Calls Tryz.prog 86 #[.agg #[v], .string ⟨p.toArray⟩, .int .i64 16] w (TxtP 16 s rs w) := by
  have hx := ref_boxB w v
  have c1 := (Blk.new w 58 #[v]).cell 0
  have HH := Lib.hid (rda_below h hx)
  have HX := Lib.hid hx
  have hra := runes_all hr hl
  have hsz : (Go.Conv.runesFrom ⟨s.toArray⟩ (ByteArray.mk s.toArray).size 0 #[]).size = rs.length := by
    rw [hra]
    simp
  have hle : rs.length ≤ 2097152 := by
    have h1 : rs.length ≤ (rs.flatMap encB).length := by
      clear hl hra hsz
      induction rs with
      | nil => simp
      | cons r rs ih =>
        have h2 := enc_pos r (hr r (by simp))
        have h3 := ih fun x hx => hr x (by simp [hx])
        rw [List.flatMap_cons, List.length_append, List.length_cons]
        omega
    rw [← hl] at h1
    omega
  have hcv := fun (W : World) => run_runes_of_string (P := Tryz.prog) W 9 36 21 ⟨s.toArray⟩ Tryz.underlying9 Tryz.underlying36 Tryz.underlying21 (by rw [hsz]; omega)
  rw [hra] at hcv
  simp only [List.size_toArray, List.length_map] at hcv
  clear h hx hra hsz hl
  go_enter Tryz.func86, Tryz.ntmps86
  go_wp2_with fail
  ((with_reducible refine (textr_any (fun _ => True) (.text s) v _ HH.out).mono ?_); rintro e w2 ⟨rfl, hb2⟩)
  dsimp only [Tr.tx, Tr.isTx]
  have HB2 := Lib.hid (HX.out.trans (hb2.mono HX.out.size))
  clear hb2 c1
  go_wp2
  go_ret2
  refine ⟨?_, ?_⟩
  · refine ⟨_, _, rfl, HB2.out.size, ?_, fun j r hj => ?_⟩
    · exact grownCap_ge _ _ _ _
    · refine ((Blk.new w2.drew 21 _).cell j).trans ?_
      have hjl := (List.getElem?_eq_some_iff.1 hj).1
      rw [Array.getElem?_append_left (by simpa using hjl)]
      simp [hj, i32V]
  · exact (HB2.out.drew).alloc HB2.out.size _
theorem txt_17 (s : Tx) (rs : List Nat) (hr : ∀ r ∈ rs, okR r) (hl : s = rs.flatMap encB) (hok : rightB s = true) (hn : s.length ≤ 2097152) (v : Value) (p : Tx) (w : World) (h : RdA w (.text s) v) : Calls Tryz.prog 86 #[.agg #[v], .string ⟨p.toArray⟩, .int .i64 17] w (TxtP 17 s rs w) := by
  have hx := ref_boxB w v
  have c1 := (Blk.new w 58 #[v]).cell 0
  have HH := Lib.hid (rda_below h hx)
  have HX := Lib.hid hx
  have HC := Lib.hid (And.intro hr (And.intro hl (And.intro hok hn)))
  clear h hx hr hl hok hn
  go_enter Tryz.func86, Tryz.ntmps86
  go_wp2_with fail
  ((with_reducible refine (textr_any (fun _ => True) (.text s) v _ HH.out).mono ?_); rintro e w2 ⟨rfl, hb2⟩)
  dsimp only [Tr.tx, Tr.isTx]
  have HB2 := Lib.hid (HX.out.trans (hb2.mono HX.out.size))
  clear hb2 c1
  go_wp2_with fail
  ((with_reducible refine (uunits_any rs s HC.out.1 HC.out.2.1 HC.out.2.2.1 HC.out.2.2.2 _).mono ?_); rintro e w3 ⟨u, rfl, hown, hb3⟩)
  have HP : Hid (TxtP 17 s rs w (.returned (.tuple #[.iface 40 u, .nilIface])) w3) := Lib.hid ⟨⟨u, rfl, own_lower hown HB2.out.size⟩, HB2.out.trans (hb3.mono HB2.out.size)⟩
  clear hown hb3
  go_wp2
  go_ret2
  exact HP.out
end Nd
end Go.Proofs.YtbajkglacfheiaaGreatDoor

