/-
  Walks of package pointer: Up.
-/
import Derived.Test.YtnldkbgbgngjjaaDoorMoveB
namespace Go.Proofs.YtnldkbgbgngjjaaDoor
open Go.RowKit Mem Utf Ref3 Tok
set_option linter.unusedVariables false

theorem last_at (a b : List UInt8) (hb : b.count 47 = 0) : Lib.lastIndexByte ⟨(a ++ 47 :: b).toArray⟩ 47 = (a.length : Int) := by
  have hsz : (ByteArray.mk (a ++ 47 :: b).toArray).size = a.length + (b.length + 1) := by
    show (a ++ 47 :: b).length = _
    simp
  have hbk : ∀ j : Nat, ((ByteArray.mk (a ++ 47 :: b).toArray).data[j]!) = (a ++ 47 :: b)[j]! := fun j => by simp
  have hat : (a ++ 47 :: b)[a.length]! = 47 := by simp
  have hpast : ∀ j, a.length < j → j < a.length + (b.length + 1) → (a ++ 47 :: b)[j]! ≠ 47 := by
    intro j h1 h2 h
    obtain ⟨k, rfl⟩ : ∃ k, j = a.length + (k + 1) := ⟨j - a.length - 1, by omega⟩
    have hk : k < b.length := by omega
    have : (a ++ 47 :: b)[a.length + (k + 1)]! = b[k] := by
      rw [List.getElem!_eq_getElem?_getD, List.getElem?_append_right (by omega)]
      simp [Nat.add_sub_cancel_left, List.getElem?_eq_getElem hk]
    rw [this] at h
    have hm : (47 : UInt8) ∈ b := h ▸ List.getElem_mem hk
    exact absurd hm (List.count_eq_zero.1 hb)
  rcases Lib.lastIndexByte_spec ⟨(a ++ 47 :: b).toArray⟩ 47 with ⟨h, hn⟩ | ⟨i, hi, h, hc, hn⟩
  · exfalso
    refine hn a.length (by rw [hsz]; omega) ?_
    rw [hbk, hat]
    rfl
  · rw [h]
    rw [hsz] at hi hn
    rw [hbk] at hc
    have hi1 : ¬ i < a.length := fun hlt => hn a.length hlt (by omega) (by rw [hbk, hat]; rfl)
    have hi2 : ¬ a.length < i := fun hlt => hpast i hlt hi (by
      have : ((a ++ 47 :: b)[i]!).toNat = 47 := by omega
      exact UInt8.toNat_inj.1 this)
    have : i = a.length := by omega
    rw [this]

/-- what Up answers -/
def upR (l : List UInt8) : Except (Int × Int) (List UInt8 × List UInt8) :=
  match parseS (wrong l) l with
  | .error x => .error x
  | .ok ts => if ts = [] then .error (4, -1) else .ok (printS ts.dropLast, ts.getLastD [])
def UpP (l : List UInt8) (w : World) (e : Ending) (w' : World) : Prop :=
  Below w.heap.size w w' ∧ (∀ x, upR l = .error x → e = .returned (.tuple #[.string ⟨#[]⟩, .string ⟨#[]⟩, errV x.1 x.2])) ∧
  (∀ r, upR l = .ok r → e = .returned (.tuple #[.string ⟨r.1.toArray⟩, .string ⟨r.2.toArray⟩, .nilIface]))
theorem upP_err {l : List UInt8} {x : Int × Int} (h : upR l = .error x) {w w' : World} (hb : Below w.heap.size w w') : UpP l w (.returned (.tuple #[.string ⟨#[]⟩, .string ⟨#[]⟩, errV x.1 x.2])) w' := by
  refine ⟨hb, fun y hy => ?_, fun r hy => ?_⟩
  · rw [h] at hy
    injection hy with hy
    rw [← hy]
  · rw [h] at hy
    cases hy
theorem upP_ok {l a b : List UInt8} (h : upR l = .ok (a, b)) {w w' : World} (hb : Below w.heap.size w w') : UpP l w (.returned (.tuple #[.string ⟨a.toArray⟩, .string ⟨b.toArray⟩, .nilIface])) w' := by
  refine ⟨hb, fun y hy => ?_, fun r hy => ?_⟩
  · rw [h] at hy
    cases hy
  · rw [h] at hy
    injection hy with hy
    rw [← hy]
theorem upR_err {l : List UInt8} {x : Int × Int} (h : parseS (wrong l) l = .error x) : upR l = .error x := by rw [upR, h]
theorem upR_none {l : List UInt8} (h : parseS (wrong l) l = .ok []) : upR l = .error (4, -1) := by rw [upR, h]; rfl
theorem upR_ok {l : List UInt8} {ts : List (List UInt8)} (h : parseS (wrong l) l = .ok ts) (h0 : ts ≠ []) : upR l = .ok (printS ts.dropLast, ts.getLast h0) := by
  rw [upR, h]
  simp only []
  rw [if_neg h0, List.getLastD_eq_getLast?, List.getLast?_eq_some_getLast h0]
  rfl

theorem ext_front (d x : List UInt8) : (ByteArray.mk (d ++ 47 :: x).toArray).extract 0 d.length = ByteArray.mk d.toArray := by
  rw [← Joins.bytes_eta ((ByteArray.mk (d ++ 47 :: x).toArray).extract 0 d.length)]
  congr 2
  rw [ByteArray.data_extract]
  simp

set_option maxRecDepth 100000 in
set_option maxHeartbeats 4000000 in
theorem up_any (l : List UInt8) (hl : l.length ≤ 2147483640) (w : World) (hg : Glob w) :
    Calls Tryd.prog 17 #[.string ⟨l.toArray⟩] w (UpP l w) := by
  have hz : 0 < w.heap.size := by
    obtain ⟨m, hm⟩ := hg
    exact Nat.lt_of_le_of_lt (Nat.zero_le _) (World.block_lt_of_cell? w _ hm)
  go_enter Tryd.func17, Tryd.ntmps17
  go_wp2_with fail
  refine (parse_any ⟨l.toArray⟩ (by show l.length ≤ _; omega) _ hg).mono ?_
  rintro e w1 ⟨hb1, HE, HO⟩
  rw [list_of] at HE HO
  cases hp : parseS (wrong l) l with
  | error x =>
    obtain rfl := HE x hp
    have H := Lib.hid (upP_err (upR_err hp) hb1)
    obtain ⟨n, a⟩ := x
    clear HE HO hp
    simp only [] at H ⊢
    by_cases ha : a < 0
    · rw [errV, if_pos ha] at H ⊢
      go_wp2
      go_ret3
      exact H.out
    · rw [errV, if_neg ha, spotV] at H ⊢
      go_wp2
      go_ret3
      exact H.out
  | ok ts =>
    obtain ⟨v, rfl, hown⟩ := HO ts hp
    have hrd := Rd.of_own hown
    obtain ⟨A, c, rfl, hA⟩ := hrd
    clear HE HO hown
    by_cases h0 : ts = []
    · subst h0
      have H := Lib.hid (upP_err (upR_none hp) hb1)
      simp only [errV_no] at H
      clear hp hA
      simp only [List.length_nil]
      go_wp2
      go_ret3
      exact H.out
    · have hlt : ts.length - 1 < ts.length := by
        have : ts.length ≠ 0 := fun h => h0 (List.length_eq_zero_iff.1 h)
        omega
      obtain ⟨g, o, rfl, hgl, hcell⟩ := hA (ts.length - 1) hlt
      have hok := upR_ok hp h0
      have hpl := print_last ts h0
      rw [(parse_print hp).2.1] at hpl
      have hlast : ts[ts.length - 1] = ts.getLast h0 := (List.getLast_eq_getElem h0).symm
      rw [hlast] at hcell
      have hcell' : w1.cell? ⟨g, o + (ts.length - 1), none⟩ = some (.string ⟨(ts.getLast h0).toArray⟩) := hcell
      have hno := escs_no (ts.getLast h0)
      have hlen0 : ts.length ≤ 65536 := (parse_print hp).2.2
      have H : ∀ q : Nat, Hid (UpP l w (.returned (.tuple #[.string ⟨(printS ts.dropLast).toArray⟩, .string ⟨(ts.getLast h0).toArray⟩, .nilIface])) (w1.drewN q)) := fun q => Lib.hid (upP_ok hok (hb1.trans (drewN_below w1 q)))
      clear hcell hlast hok hp hA
      generalize ts.getLast h0 = tl at *
      generalize printS ts.dropLast = d at *
      generalize escs tl = x at *
      subst hpl
      have hli := last_at d x hno
      have hdl : d.length + (x.length + 1) ≤ 2147483640 := by simpa using hl
      generalize hn : ts.length - 1 = n at *
      obtain hn' : ts.length = n + 1 := by omega
      rw [hn'] at hlt hlen0 ⊢
      have hn1 : n ≤ 4611686018427387000 := by omega
      have hi2 : ((n : Int) + 1 - 1) = (n : Int) := by omega
      have hsz : (ByteArray.mk (d ++ 47 :: x).toArray).size < 4611686018427387904 := by
        show (d ++ 47 :: x).length < _
        omega
      clear hn hn' hlt hno h0 hlen0
      go_wp2_with fail
      have hext := ext_front d x
      have hsd : d.length ≤ (ByteArray.mk (d ++ 47 :: x).toArray).size := by
        show d.length ≤ (d ++ 47 :: x).length
        rw [List.length_append]
        omega
      generalize UpP (d ++ 47 :: x) w = U at *
      generalize ByteArray.mk (d ++ 47 :: x).toArray = S at *
      have HC : ∀ W : World, Calls Tryd.prog 31 #[.string S, .int .u8 47] W fun e w' => e = .returned (.int .i64 (d.length : Int)) ∧ w' = W := by
        intro W
        have := Tryd.strings_LastIndexByte S 47 hsz W
        rwa [hli] at this
      have b1 : (0 : Int) ≤ (d.length : Int) := by omega
      have b2 : (d.length : Int) ≤ (S.size : Int) := by omega
      have b3 : (0 : Int) ≤ (n : Int) := by omega
      have b4 : (n : Int) < (n : Int) + 1 := by omega
      go_quiet ((go_at_call 31; exact Calls.quiet_of_same (HC _)))
      go_wp2
      go_ret3
      exact (H _).out
end Go.Proofs.YtnldkbgbgngjjaaDoor
