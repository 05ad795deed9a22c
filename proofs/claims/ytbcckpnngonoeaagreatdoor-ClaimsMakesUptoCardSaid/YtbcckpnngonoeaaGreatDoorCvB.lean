/-
  Walks of package claims: rows, lacking (printed by wip/gen_clb.py).
-/
import Derived.Test.YtbcckpnngonoeaaGreatDoorCvA
import Derived.Laws.EntriesVeiled
import Derived.Laws.AppendOwnNone
namespace Go.Proofs.YtbcckpnngonoeaaGreatDoor
open Go.RowKit Mem Utf Ref3 Tok Cl
set_option linter.unusedVariables false

theorem row1_any (k : ByteArray) (j : FuncId) (w : World) :
    Calls Tryz.prog 83 #[.string k, .func (.func j) #[] #[]] w fun e w' => (∃ q cap, e = .returned (.agg #[.string k, .func (.func q) #[] cap, .func (.func j) #[] #[], .nilFunc, .nilFunc])) ∧ Below w.heap.size w w' := by
  have hmf : ∀ (fn : Fn) (first cap : Array Value) (w : World), (Instr.makeFunc fn first cap).run Tryz.prog w = .ok (.func fn first cap) w := fun _ _ _ _ => rfl
  go_enter Tryz.func83, Tryz.ntmps83
  go_wp2
  refine bodyPost_ret (v := .agg #[.string k, .func (.func 84) #[] #[.pointer (some ⟨w.heap.size, 0, none⟩)], .func (.func j) #[] #[], .nilFunc, .nilFunc]) (by simp [results, Tryz.results83, go_sem]) rfl ⟨⟨_, _, rfl⟩, ?_⟩
  exact ((Below.refl _ _).alloc (Nat.le_refl _) _).alloc (by simp) _

theorem row2_any (k : ByteArray) (j : FuncId) (w : World) :
    Calls Tryz.prog 86 #[.string k, .func (.func j) #[] #[]] w fun e w' => (∃ q cap, e = .returned (.agg #[.string k, .func (.func q) #[] cap, .nilFunc, .func (.func j) #[] #[], .nilFunc])) ∧ Below w.heap.size w w' := by
  have hmf : ∀ (fn : Fn) (first cap : Array Value) (w : World), (Instr.makeFunc fn first cap).run Tryz.prog w = .ok (.func fn first cap) w := fun _ _ _ _ => rfl
  go_enter Tryz.func86, Tryz.ntmps86
  go_wp2
  refine bodyPost_ret (v := .agg #[.string k, .func (.func 87) #[] #[.pointer (some ⟨w.heap.size, 0, none⟩)], .nilFunc, .func (.func j) #[] #[], .nilFunc]) (by simp [results, Tryz.results86, go_sem]) rfl ⟨⟨_, _, rfl⟩, ?_⟩
  exact ((Below.refl _ _).alloc (Nat.le_refl _) _).alloc (by simp) _

theorem row3_any (k : ByteArray) (b : Bool) (j : FuncId) (w : World) :
    Calls Tryz.prog 89 #[.string k, .bool b, .func (.func j) #[] #[]] w fun e w' => (∃ q cap, e = .returned (.agg #[.string k, .func (.func q) #[] cap, .nilFunc, .nilFunc, .func (.func j) #[] #[]])) ∧ Below w.heap.size w w' := by
  have hmf : ∀ (fn : Fn) (first cap : Array Value) (w : World), (Instr.makeFunc fn first cap).run Tryz.prog w = .ok (.func fn first cap) w := fun _ _ _ _ => rfl
  go_enter Tryz.func89, Tryz.ntmps89
  go_wp2
  refine bodyPost_ret (v := .agg #[.string k, .func (.func 90) #[] #[.pointer (some ⟨w.heap.size + 1, 0, none⟩), .pointer (some ⟨w.heap.size, 0, none⟩)], .nilFunc, .nilFunc, .func (.func j) #[] #[]]) (by simp [results, Tryz.results89, go_sem]) rfl ⟨⟨_, _, rfl⟩, ?_⟩
  exact (((Below.refl _ _).alloc (Nat.le_refl _) _).alloc (by simp) _).alloc (by simp; omega) _

/-- the table's cells (its first word is how a claim is read): the key, how it is read, how it is told: as a text, a time, a list -/
def rdV (x : FuncId × Array Value) : Value := .func (.func x.1) #[] x.2
def rowCells (rd : Nat → FuncId × Array Value) : Array Value := #[.string ⟨(key 0).toArray⟩, rdV (rd 0), .func (.func 92) #[] #[], .nilFunc, .nilFunc,
  .string ⟨(key 1).toArray⟩, rdV (rd 1), .nilFunc, .func (.func 93) #[] #[], .nilFunc,
  .string ⟨(key 2).toArray⟩, rdV (rd 2), .func (.func 94) #[] #[], .nilFunc, .nilFunc,
  .string ⟨(key 3).toArray⟩, rdV (rd 3), .nilFunc, .nilFunc, .func (.func 95) #[] #[],
  .string ⟨(key 4).toArray⟩, rdV (rd 4), .nilFunc, .func (.func 96) #[] #[], .nilFunc,
  .string ⟨(key 5).toArray⟩, rdV (rd 5), .func (.func 97) #[] #[], .nilFunc, .nilFunc,
  .string ⟨(key 6).toArray⟩, rdV (rd 6), .nilFunc, .nilFunc, .func (.func 98) #[] #[],
  .string ⟨(key 7).toArray⟩, rdV (rd 7), .nilFunc, .func (.func 99) #[] #[], .nilFunc]

set_option maxRecDepth 100000 in
set_option maxHeartbeats 1000000 in
theorem rows_any (w : World) : Calls Tryz.prog 45 #[] w fun e w' => ∃ g rd, e = .returned (.slice (some ⟨g, 0, none⟩) 8 8) ∧ Blk w' g 153 (rowCells rd) ∧ w.heap.size ≤ g ∧ Below w.heap.size w w' := by
  have hbw : Below w.heap.size w w := Below.refl _ _
  go_enter Tryz.func45, Tryz.ntmps45
  go_wp2_with fail
  refine (row1_any ⟨#[97, 98, 111, 117, 116]⟩ 92 _).mono ?_
  rintro e w' ⟨⟨q0, d0, rfl⟩, hb⟩
  replace hbw := below_chain hbw hbw.size hb
  clear hb
  go_wp2_with fail
  refine (row2_any ⟨#[97, 116]⟩ 93 _).mono ?_
  rintro e w' ⟨⟨q1, d1, rfl⟩, hb⟩
  replace hbw := below_chain hbw hbw.size hb
  clear hb
  go_wp2_with fail
  refine (row1_any ⟨#[98, 121]⟩ 94 _).mono ?_
  rintro e w' ⟨⟨q2, d2, rfl⟩, hb⟩
  replace hbw := below_chain hbw hbw.size hb
  clear hb
  go_wp2_with fail
  refine (row3_any ⟨#[102, 111, 114]⟩ true 95 _).mono ?_
  rintro e w' ⟨⟨q3, d3, rfl⟩, hb⟩
  replace hbw := below_chain hbw hbw.size hb
  clear hb
  go_wp2_with fail
  refine (row2_any ⟨#[102, 114, 111, 109]⟩ 96 _).mono ?_
  rintro e w' ⟨⟨q4, d4, rfl⟩, hb⟩
  replace hbw := below_chain hbw hbw.size hb
  clear hb
  go_wp2_with fail
  refine (row1_any ⟨#[105, 100]⟩ 97 _).mono ?_
  rintro e w' ⟨⟨q5, d5, rfl⟩, hb⟩
  replace hbw := below_chain hbw hbw.size hb
  clear hb
  go_wp2_with fail
  refine (row3_any ⟨#[109, 97, 121]⟩ false 98 _).mono ?_
  rintro e w' ⟨⟨q6, d6, rfl⟩, hb⟩
  replace hbw := below_chain hbw hbw.size hb
  clear hb
  go_wp2_with fail
  refine (row2_any ⟨#[117, 110, 116, 105, 108]⟩ 99 _).mono ?_
  rintro e w' ⟨⟨q7, d7, rfl⟩, hb⟩
  replace hbw := below_chain hbw hbw.size hb
  clear hb
  go_wp2
  go_ret
  refine ⟨_, fun k => match k with | 0 => (q0, d0) | 1 => (q1, d1) | 2 => (q2, d2) | 3 => (q3, d3) | 4 => (q4, d4) | 5 => (q5, d5) | 6 => (q6, d6) | _ => (q7, d7), rfl, Blk.new _ _ _, hbw.size, hbw.alloc hbw.size _⟩

set_option maxRecDepth 100000 in
set_option maxHeartbeats 2000000 in
theorem lacking_any (v1 v2 : Value) (l among : List Txt) (w : World) (h1 : Rd w v1 l) (h2 : Rd w v2 among) (hl : l.length ≤ 1099511627776) (hm : among.length ≤ 1099511627776) :
    Calls Tryz.prog 41 #[v1, v2] w fun e w' => (∃ v, e = .returned v ∧ w'.ownsRow w.heap.size 9 1 v (lackF among [] l).length ((lackF among [] l).map strV)) ∧ Below w.heap.size w w' := by
  obtain ⟨i0, hi0, hz0, hz1, hz2⟩ := info_parts info_str
  obtain ⟨A, c, rfl, hA⟩ := h1
  have h1 : Rd w (.slice A l.length c) l := ⟨A, c, rfl, hA⟩
  clear hA
  go_enter Tryz.func41, Tryz.ntmps41
  go_wp2
  go_loopw [5, 10] (fun c5 c10 wr => ∃ k : Nat, k ≤ l.length ∧ c10 = .int .i64 k ∧ wr.ownsRow w.heap.size 9 1 c5 (lackF among [] (l.take k)).length ((lackF among [] (l.take k)).map strV) ∧ Below w.heap.size w wr) (fun _ c10 _ => l.length - (intOf c10).toNat)
  case atStart => exact ⟨0, by omega, rfl, World.ownsRow_nil _ _ _ _, Below.refl _ _⟩
  case round =>
    obtain ⟨k, hk, rfl, hown, hbw⟩ := hrel
    have hll : (lackF among [] (l.take k)).length ≤ 1099511627776 := by
      have := lackF_len among (l.take k) []
      rw [List.length_take, List.length_nil] at this
      omega
    by_cases hlt : k < l.length
    · have hst := lackF_take among l k hlt
      obtain ⟨A', c', hAc, hcell⟩ := h1.below hbw
      injection hAc with hA1 _ hc1
      subst hA1; subst hc1
      obtain ⟨g, o, rfl, hgl, hcell⟩ := hcell k hlt
      have hc2 : wr.cell? ⟨g, o + k, none⟩ = some (.string ⟨l[k].toArray⟩) := hcell
      have hi0' : (0 : Int) ≤ (k : Int) := by omega
      have hi1 : (k : Int) < (l.length : Int) := by omega
      have hr5 := Rd.of_own hown
      have hr2 := h2.below hbw
      have hbs := hbw.size
      have Hst := Lib.hid hst
      clear hcell hst
      generalize l[k] = t at *
      go_wp2_with fail
      refine (contains_any v2 among t _ hr2 hm).mono ?_
      rintro e w' ⟨rfl, rfl⟩
      by_cases ha : inB among t = true
      · have HT : Hid (lackF among [] (l.take (k + 1)) = lackF among [] (l.take k)) := Lib.hid (by
          rw [Hst.out, show among.contains t = true from ha]
          simp)
        rw [ha]
        clear ha
        go_wp2
        go_roundw
        case rel => exact ⟨k + 1, by omega, by go_num, by rw [HT.out]; exact hown, hbw⟩
        case measure => simp [intOf]; omega
      · rw [Bool.not_eq_true] at ha
        rw [ha]
        go_wp2_with fail
        refine (contains_any u5 _ t _ hr5 (by omega)).mono ?_
        rintro e w' ⟨rfl, rfl⟩
        by_cases hb : inB (lackF among [] (l.take k)) t = true
        · have HT : Hid (lackF among [] (l.take (k + 1)) = lackF among [] (l.take k)) := Lib.hid (by
            rw [Hst.out, show (lackF among [] (l.take k)).contains t = true from hb]
            simp)
          rw [hb]
          clear hb ha
          go_wp2
          go_roundw
          case rel => exact ⟨k + 1, by omega, by go_num, by rw [HT.out]; exact hown, hbw⟩
          case measure => simp [intOf]; omega
        · rw [Bool.not_eq_true] at hb
          have HT : Hid (lackF among [] (l.take (k + 1)) = lackF among [] (l.take k) ++ [t]) := Lib.hid (by
            rw [Hst.out, show (lackF among [] (l.take k)).contains t = false from hb, show among.contains t = false from ha]
            simp)
          rw [hb]
          clear hb ha hr5
          generalize lackF among [] (l.take k) = q at *
          go_wp2_with (at_builtin; refine wpList_append_own _ rfl (.tmp 24) (.tmp 26) _ rfl w.heap.size 9 i0 _ 1 16 Tryz.underlying22 hi0 hz0 hz1 hz2 rfl (by omega) u5 q.length (q.map strV) rfl (hown.alloc _) ⟨wr.heap.size, 0, none⟩ 1 1 [.string ⟨t.toArray⟩] rfl rfl (one_newP _ _ _) (one_cellP _ rfl) (by unfold maxLen; omega) (by omega) (by simp; omega) ?_; intro v9 w9 hown9 hgr9 hnil9)
          go_wp2
          go_roundw
          case rel => exact ⟨k + 1, by omega, by go_num, by rw [HT.out, List.length_append, List.map_append]; exact hown9, (hbw.alloc hbs _).grown hgr9 (by simp; omega) (fun q hq => (hown.lt q hq).1)⟩
          case measure => simp [intOf]; omega
    · obtain rfl : k = l.length := by omega
      have HT : Hid (lackF among [] (l.take l.length) = lackF among [] l) := Lib.hid (by rw [List.take_length])
      rw [HT.out] at hown
      go_wp2
      go_ret
      exact ⟨⟨_, rfl, hown⟩, hbw⟩
end Go.Proofs.YtbcckpnngonoeaaGreatDoor
