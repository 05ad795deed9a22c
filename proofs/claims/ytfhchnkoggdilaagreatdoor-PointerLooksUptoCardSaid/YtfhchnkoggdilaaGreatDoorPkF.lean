/-
  Walks of package pointer: Look.
-/
import Derived.Test.YtfhchnkoggdilaaGreatDoorPkE
import Derived.Test.YtfhchnkoggdilaaGreatDoorPkS
namespace Go.Proofs.YtfhchnkoggdilaaGreatDoor
open Go.RowKit Mem Utf Ref3 Idx Tok TokC
set_option linter.unusedVariables false
namespace Nd
theorem look_nil (l : List UInt8) (w : World) : Calls Tryz.prog 8 #[.pointer none, .string ⟨l.toArray⟩] w fun e w' => e = .returned .nilIface ∧ Below w.heap.size w w' := by
  go_enter Tryz.func8, Tryz.ntmps8
  go_wp2
  go_ret
  exact ⟨rfl, Below.refl _ _⟩
set_option maxRecDepth 100000 in
set_option maxHeartbeats 8000000 in
theorem plook_any (g : Nat) (t : Tr) (v : Value) (l : List UInt8) (w0 w : World) (hB : Blk w0 g 80 #[v]) (h : RdA w0 t v) (hb0 : Below w0.heap.size w0 w) (ho : t.Ok) (hf : t.fit = true) (hl : l.length ≤ 4194304) (hG : Glob w) (hT : Tab w) :
    Calls Tryz.prog 8 #[.pointer (some ⟨g, 0, none⟩), .string ⟨l.toArray⟩] w (LookP w0 t l w) := by
  have HB := Lib.hid hB
  have HR := Lib.hid h
  have HB0 := Lib.hid hb0
  have HO := Lib.hid (And.intro ho hf)
  have HL := Lib.hid hl
  have HG := Lib.hid hG
  have HT := Lib.hid hT
  have q1 := err_ne_nil
  have q2 := err_ne_held
  have hsz0 : (ByteArray.mk l.toArray).size ≤ 2147483648 := by show l.toArray.size ≤ _; rw [List.size_toArray]; omega
  clear hB h hb0 ho hf hl hG hT
  go_enter Tryz.func8, Tryz.ntmps8
  go_wp2_with fail
  ((with_reducible refine (parse_any ⟨l.toArray⟩ hsz0 _ HG.out).mono ?_); rintro e w1 ⟨hbw1, he, hok⟩)
  have he' : ∀ x, parseS (wrong l) l = .error x → e = .returned (.tuple #[.slice none 0 0, Go.Proofs.YtfhchnkoggdilaaGreatDoor.errV x.1 x.2]) := he
  have hok' : ∀ ts, parseS (wrong l) l = .ok ts → ∃ v, e = .returned (.tuple #[v, .nilIface]) ∧ w1.ownsRow _ 9 1 v ts.length (ts.map strV) := hok
  clear he hok
  cases hp : parseS (wrong l) l with
  | error x =>
    obtain rfl := he' x hp
    have HF := Lib.hid (lookP_err (w0 := w0) (t := t) hp hbw1)
    clear he' hok' hp hbw1
    obtain ⟨T, u, hTu⟩ := errV_form x.1 x.2
    rw [hTu]
    clear hTu
    go_wp2
    go_ret
    exact HF.out
  | ok ts =>
    obtain ⟨tv, rfl, hown⟩ := hok' ts hp
    clear he' hok'
    obtain ⟨A, c, rfl⟩ := own_slice hown
    have hrd : Rd w1 (.slice A ts.length c) ts := Rd.of_own hown
    have htf := toks_fine hp
    have HP := Lib.hid hp
    have HBW1 := Lib.hid hbw1
    have HLD := Lib.hid (lead_any g t v A c ts w0 w1 HB.out HR.out (HB0.out.trans (hbw1.mono HB0.out.size)) HO.out.1 HO.out.2 hrd (fun x hx => ⟨(htf.1 x hx).1, by have := (htf.1 x hx).2; have := HL.out; omega⟩) htf.2.1 (HT.out.next hbw1))
    have hn := htf.2.1
    clear hp hown htf hrd hbw1
    go_wp2_with fail
    ((with_reducible refine HLD.out.mono ?_); rintro e w2 ⟨he, hb2⟩)
    have HBW2 := Lib.hid (HBW1.out.trans (hb2.mono HBW1.out.size))
    clear hb2 HLD
    cases hle : leadT t ts 0 with
    | inl n =>
      rw [hle] at he
      obtain rfl := he
      have hnl := lead_of_toks hle
      have hnt : (n : Int) < (ts.length : Int) := by omega
      have hb3 := HBW2.out.alloc HBW2.out.size (.cells #[.nilIface] 38)
      have hb4 := hb3.alloc hb3.size (.cells #[.int .i64 n] 63)
      have hsz : (w2.alloc (.cells #[.nilIface] 38)).heap.size = w2.heap.size + 1 := by simp
      have hB5 := Blk.new (w2.alloc (.cells #[.nilIface] 38)) 63 #[.int .i64 n]
      rw [hsz] at hB5
      have HF := Lib.hid (lookP_none (w0 := w0) HP.out hle hB5 hb4)
      clear hle hb3 hb4 hsz hB5
      go_wp2
      go_ret
      exact HF.out
    | inr u =>
      rw [hle] at he
      obtain ⟨tx, ux, rfl, hrd, huo⟩ := he
      have hb3 := HBW2.out.alloc HBW2.out.size (.cells #[.iface tx ux] 38)
      have HV := Lib.hid (value_any (fun _ => True) u huo.1 (fit_le huo.2).1 (.iface tx ux) (w2.alloc (.cells #[.iface tx ux] 38)) (rda_below hrd (HB0.out.trans (hb3.mono HB0.out.size))))
      have HB3 := Lib.hid hb3
      have HLE := Lib.hid hle
      clear hb3 hle hrd huo
      go_wp2_with fail
      ((with_reducible refine HV.out.mono ?_); rintro e w3 ⟨x, rfl, htd, hb4⟩)
      have HF := Lib.hid (lookP_some (w0 := w0) HP.out HLE.out (TdT.move (S' := fun _ => True) (w' := w3) (fun j hj hs => ⟨trivial, rfl⟩) _ _ htd) (HB3.out.trans (hb4.mono HB3.out.size)))
      clear hb4 htd HV
      go_wp2
      go_ret
      exact HF.out
end Nd
end Go.Proofs.YtfhchnkoggdilaaGreatDoor
