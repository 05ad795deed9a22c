/-
  Walks of package pointer: quoted, Print.
-/
import Derived.Test.YtfhchnkoggdilaaGreatDoorBld
import Derived.Test.YtfhchnkoggdilaaGreatDoorPvL
namespace Go.Proofs.YtfhchnkoggdilaaGreatDoor
open Go.RowKit Mem Utf Ref3 Tok
set_option linter.unusedVariables false

theorem Bld.below {w w' : World} {B b : Nat} {l : List UInt8} (h : Bld w B b l) (hb : Below w.heap.size w w') : Bld w' B b l := by
  rcases h with ⟨hB, v, hh, hown, hne⟩ | ⟨hB, v, hh, hown, hne⟩
  · exact .inl ⟨hB, v, (hb.block b (Array.getElem?_eq_some_iff.1 hh).1).trans hh, hown.kept (grown_of_below hb none) (Classical.em _), hne⟩
  · exact .inr ⟨hB, v, (hb.block b (Array.getElem?_eq_some_iff.1 hh).1).trans hh, hown.kept (grown_of_below hb none) (Classical.em _), hne⟩
theorem Bld.new (w : World) : Bld (w.alloc (.cells #[.pointer none, .slice none 0 0] 149)) w.heap.size w.heap.size [] :=
  .inl ⟨Nat.le_refl _, .slice none 0 0, Mem.Blk.new _ _ _, World.ownsRowF_nil _ _ _ _, by simp [Value.ownBlock]⟩
theorem right_wrong (l : List UInt8) : isNil (chkV l) = decide ((wrong l).1 = 0) := by
  rw [UtfLaw.chk_wrong]
  by_cases h : (wrong l).1 = 0
  · rw [if_pos h, decide_eq_true h]; rfl
  · rw [if_neg h, decide_eq_false h]; rfl

set_option maxHeartbeats 1000000 in
theorem quoted_any (l : List UInt8) (hl : l.length ≤ 2147483640) (w : World) (hg : Glob w) :
    Calls Tryz.prog 48 #[.string ⟨l.toArray⟩] w fun e w' => e = .returned (.string ⟨(piece l).toArray⟩) ∧ Below w.heap.size w w' := by
  obtain ⟨m, hm⟩ := hg
  have hsize : 1 < w.heap.size := World.block_lt_of_cell? w _ hm
  have hl1 : (Lib.replaceAll l [126] [126, 48]).length ≤ 4294967280 := by
    have := tilde_le l
    omega
  go_enter Tryz.func48, Tryz.ntmps48
  go_wp2_with fail
  refine (ra_any l ⟨#[126]⟩ ⟨#[126, 48]⟩ m _ (by omega) hm (by decide) (by decide)).mono ?_
  rintro e w1 ⟨rfl, hb⟩
  rw [show (ByteArray.mk #[126]).data.toList = [126] from rfl, show (ByteArray.mk #[126, 48]).data.toList = [126, 48] from rfl]
  have hm1 : w1.cell? ⟨1, 0, none⟩ = some (.int .i64 m) := (hb.cell (p := ⟨1, 0, none⟩) hsize).trans hm
  have hq := quoted_piece l
  unfold quotedP at hq
  generalize Lib.replaceAll l [126] [126, 48] = q at hq hl1 ⊢
  have Hq := Lib.hid hq
  clear hq
  go_wp2_with fail
  refine (ra_any q ⟨#[47]⟩ ⟨#[126, 49]⟩ m _ hl1 hm1 (by decide) (by decide)).mono ?_
  rintro e w2 ⟨rfl, hb2⟩
  rw [show (ByteArray.mk #[47]).data.toList = [47] from rfl, show (ByteArray.mk #[126, 49]).data.toList = [126, 49] from rfl]
  have hl2 : (Lib.replaceAll q [47] [126, 49]).length ≤ 9223372036854775800 := by
    have := slash_le q
    omega
  generalize Lib.replaceAll q [47] [126, 49] = q2 at Hq hl2 ⊢
  go_wp2
  go_ret
  exact ⟨by rw [← Hq.out]; exact congrArg (fun x => Ending.returned (.string x)) (mk_append [47] q2), hb.trans (hb2.mono hb.size)⟩

def PrintP (ts : List (List UInt8)) (w : World) (e : Ending) (w' : World) : Prop :=
  Below w.heap.size w w' ∧ (∀ x, printR wrong ts = .error x → e = .returned (.tuple #[.string ⟨#[]⟩, errV x.1 x.2])) ∧
  (∀ l, printR wrong ts = .ok l → e = .returned (.tuple #[.string ⟨l.toArray⟩, .nilIface]))
theorem printP_err {ts : List (List UInt8)} {n a : Int} (h : printR wrong ts = .error (n, a)) {w w' : World} (hb : Below w.heap.size w w') : PrintP ts w (.returned (.tuple #[.string ⟨#[]⟩, errV n a])) w' := by
  refine ⟨hb, fun x hx => ?_, fun l hx => ?_⟩
  · rw [h] at hx
    injection hx with hx
    rw [← hx]
  · rw [h] at hx
    cases hx
theorem printP_ok {ts : List (List UInt8)} {l : List UInt8} (h : printR wrong ts = .ok l) {w w' : World} (hb : Below w.heap.size w w') : PrintP ts w (.returned (.tuple #[.string ⟨l.toArray⟩, .nilIface])) w' := by
  refine ⟨hb, fun x hx => ?_, fun l' hx => ?_⟩
  · rw [h] at hx
    cases hx
  · rw [h] at hx
    injection hx with hx
    rw [← hx]

set_option maxRecDepth 100000 in
set_option maxHeartbeats 4000000 in
theorem print_any (v : Value) (ts : List (List UInt8)) (w : World) (hv : Rd w v ts) (hbk : bulkS ts ≤ 1073741824) (hg : Glob w) :
    Calls Tryz.prog 23 #[v] w (PrintP ts w) := by
  have hlen := bulk_len ts
  obtain ⟨A, c, rfl, hA⟩ := hv
  have hv : Rd w (.slice A ts.length c) ts := ⟨A, c, rfl, hA⟩
  clear hA
  by_cases hlong : 65536 < ts.length
  · have H := Lib.hid (printP_err (ts := ts) (n := 3) (a := -1) (w := w) (w' := w) (by rw [printR, if_pos hlong]) (Below.refl _ _))
    rw [errV_no] at H
    go_enter Tryz.func23, Tryz.ntmps23
    go_wp2
    go_ret2
    exact H.out
  · go_enter Tryz.func23, Tryz.ntmps23
    go_wp2
    go_loopw [13] (fun c13 wr => ∃ k : Nat, k ≤ ts.length ∧ c13 = .int .i64 k ∧ Bld wr w.heap.size w.heap.size (printS (ts.take k)) ∧ Below w.heap.size w wr ∧ Hid (badI wrong (ts.drop k) k = badI wrong ts 0)) (fun c13 _ => ts.length - (intOf c13).toNat)
    case atStart => exact ⟨0, by omega, rfl, Bld.new w, (Below.refl _ _).alloc (Nat.le_refl _) _, Lib.hid rfl⟩
    case round =>
      obtain ⟨k, hk, rfl, hbld, hbw, hbad⟩ := hrel
      by_cases hlt : k < ts.length
      · have hbk1 := bulk_at ts k hlt
        have hbk2 := bulk_le ts k
        have hbk3 := print_le (ts.take k)
        have hbk4 := piece_le ts[k]
        have hsn := print_snoc ts k hlt
        have hba := badI_at wrong hlt k
        rw [hbad.out] at hba
        have hvr := hv.below hbw
        obtain ⟨A', c', hAc, hcell⟩ := hvr
        injection hAc with hA1 _ hc1
        subst hA1; subst hc1
        obtain ⟨g, o, rfl, hgl, hcell⟩ := hcell k hlt
        have hcell' : wr.cell? ⟨g, o + k, none⟩ = some (.string ⟨ts[k].toArray⟩) := hcell
        have hgr : Glob wr := by
          obtain ⟨m, hm⟩ := hg
          exact Glob.below ⟨m, hm⟩ hbw (World.block_lt_of_cell? w _ hm)
        have hi0 : (0 : Int) ≤ (k : Int) := by omega
        have hi1 : (k : Int) < (ts.length : Int) := by omega
        have hsz := hbw.size
        have Hsn := Lib.hid hsn
        have Hba := Lib.hid hba
        clear hcell hsn hba
        generalize ts[k] = tk at *
        go_wp2_with fail
        refine (right_any ⟨tk.toArray⟩ _ (by show tk.length ≤ _; omega)).mono ?_
        rintro e w1 ⟨rfl, hb1⟩
        replace hb1 := hb1.toBelow
        rw [show (ByteArray.mk tk.toArray).data.toList = tk from rfl, right_wrong]
        by_cases hr : (wrong tk).1 = 0
        · have HN : Hid (badI wrong (ts.drop (k + 1)) (k + 1) = badI wrong ts 0) := Lib.hid (by rw [Hba.out, if_pos hr])
          rw [decide_eq_true hr]
          clear hr hcell'
          go_wp2_with fail
          refine (quoted_any tk (by omega) _ (hgr.below hb1 (by obtain ⟨m, hm⟩ := hgr; exact World.block_lt_of_cell? wr _ hm))).mono ?_
          rintro e w2 ⟨rfl, hb2⟩
          have hbld2 := (hbld.below hb1).below hb2
          have hs1 := hb1.size
          have hs2 := hb2.size
          go_wp2_with fail
          refine (writeString_any _ _ _ (piece tk) _ hbld2 (by omega) (by omega)).mono ?_
          rintro e w3 ⟨rfl, hbld3, hb3⟩
          have hbB : Below w.heap.size w w3 := (below_chain (below_chain hbw hsz hb1) (by omega) hb2).trans hb3
          clear hbld hbld2 hb1 hb2 hb3 hbw
          go_wp2
          go_roundw
          case rel => exact ⟨k + 1, by omega, by go_num, by rw [Hsn.out]; exact hbld3, hbB, HN⟩
          case measure => simp [intOf]; omega
        · have hres : badI wrong ts 0 = some k := by rw [Hba.out, if_neg hr]
          have H := Lib.hid (printP_err (ts := ts) (n := 100) (a := (k : Int)) (w := w) (w' := w1) (by rw [printR, if_neg hlong, hres]) (below_chain hbw hsz hb1))
          rw [errV_at 100 (by omega)] at H
          rw [decide_eq_false hr]
          clear hr hcell' hres
          go_wp2
          go_ret2
          exact H.out
      · obtain rfl : k = ts.length := by omega
        have hres : badI wrong ts 0 = none := by rw [← hbad.out, List.drop_length]; rfl
        have HR := Lib.hid hres
        have htake : printS (ts.take ts.length) = printS ts := by rw [List.take_length]
        rw [htake] at hbld
        have hsz := hbw.size
        clear hres htake
        go_wp2_with fail
        refine (string_any _ _ _ _ hbld hsz).mono ?_
        rintro e w1 ⟨rfl, _, hb1⟩
        have H := Lib.hid (printP_ok (ts := ts) (l := printS ts) (w := w) (w' := w1) (by rw [printR, if_neg hlong, HR.out]) (hbw.trans hb1))
        go_wp2
        go_ret2
        exact H.out
end Go.Proofs.YtfhchnkoggdilaaGreatDoor
