/-
  Walk of the statement PointerMoves (printed by wip/gen_moves.py).
-/
import Derived.Test.YtnldkbgbgngjjaaDoorMoveC
import Derived.Test.YtnldkbgbgngjjaaDoorPrints
import Derived.Test.YtnldkbgbgngjjaaDoorParses
namespace Go.Proofs.YtnldkbgbgngjjaaDoor
open Go.RowKit Mem Utf Ref3 Tok
set_option linter.unusedVariables false


theorem Rd.take {w : World} {A : Option Addr} {n c : Nat} {xs : List (List UInt8)} (h : Rd w (.slice A n c) xs) {k : Nat} (hk : k ≤ xs.length) (c' : Nat) : Rd w (.slice A k c') (xs.take k) := by
  obtain ⟨A, c, e, hc⟩ := h
  injection e with e1 _ _
  subst e1
  have hl : (xs.take k).length = k := by rw [List.length_take]; omega
  refine ⟨_, c', by rw [hl], fun j hj => ?_⟩
  obtain ⟨g, o, rfl, hl, hcell⟩ := hc j (by omega)
  exact ⟨g, o, rfl, hl, by rw [List.getElem_take]; exact hcell⟩
theorem Rd.cellAt {w : World} {g o n c : Nat} {xs : List (List UInt8)} (h : Rd w (.slice (some ⟨g, o, none⟩) n c) xs) {j : Nat} (hj : j < xs.length) : w.cell? ⟨g, o + j, none⟩ = some (strV xs[j]) := by
  obtain ⟨A, c, e, hc⟩ := h
  injection e with e1 _ _
  obtain ⟨g', o', h1, _, hcell⟩ := hc j hj
  rw [← e1] at h1
  injection h1 with h1
  injection h1 with h2 h3
  subst h2; subst h3
  exact hcell
theorem own_cap {w : World} {base n : Nat} {e : TypeId} {A : Option Addr} {m c : Nat} {xs : List Value} (h : w.ownsRow base e 1 (.slice A m c) n xs) : m ≤ c := by
  rcases App.RowOf.of_own h with ⟨h', rfl⟩ | ⟨g, cap, cur, h', hg, hn, hc, hs⟩
  · injection h' with _ h1 h2
    omega
  · injection h' with _ h1 h2
    omega
theorem escs_len : ∀ t : List UInt8, t.length ≤ (escs t).length
  | [] => Nat.le_refl _
  | c :: t => by
    rw [escs_cons, List.length_append, List.length_cons]
    have := escs_len t
    have : 1 ≤ (esc c).length := by
      unfold esc
      split
      · simp
      · split <;> simp
    omega
theorem bulk_print : ∀ ts : List (List UInt8), bulkS ts ≤ (printS ts).length
  | [] => Nat.le_refl _
  | t :: ts => by
    rw [print_cons, List.length_cons, List.length_append, bulkS]
    have := bulk_print ts
    have := escs_len t
    omega
theorem drop_take (ts : List (List UInt8)) {n : Nat} (h : ts.length = n + 1) : ts.dropLast = ts.take n := by rw [List.dropLast_eq_take, h]; rfl
theorem prefix_take {ts ms : List (List UInt8)} : ts.isPrefixOf ms = decide (ts = ms.take ts.length) := by
  rw [Bool.eq_iff_iff, List.isPrefixOf_iff_prefix, decide_eq_true_iff, List.prefix_iff_eq_take]
theorem prefix_long {ts ms : List (List UInt8)} (h : ms.length < ts.length) : ts.isPrefixOf ms = false := by
  rw [Bool.eq_false_iff]
  intro hp
  have := (List.isPrefixOf_iff_prefix.1 hp).length_le
  omega


set_option maxRecDepth 100000 in
set_option maxHeartbeats 16000000 in
theorem moves_err (l t q : List UInt8) (hl : l.length ≤ 1048576) (ht : t.length ≤ 1048576) (hq : q.length ≤ 1048576) (w : World) (hg : Glob w) (x : Int × Int) (hp : parseS (wrong l) l = .error x) :
    Calls Tryd.prog 5 #[.string ⟨l.toArray⟩, .string ⟨t.toArray⟩, .string ⟨q.toArray⟩] w fun e w' => e = .returned (.bool true) ∧ Below w.heap.size w w' := by
  have q1 := err_eq_nil
  have q2 := err_ne_nil
  go_enter Tryd.func5, Tryd.ntmps5
  go_wp2_with fail
  refine (refParse_any ⟨l.toArray⟩ (by show l.length ≤ _; omega) _).mono ?_
  rintro e w1 ⟨hb1, HE, HO⟩
  rw [list_of] at HE HO
  have hg1 := hg.next hb1
  ·
    obtain rfl := HE x hp
    have hcode := parse_code hp
    have hne : (x.1 != 0) = true := by rw [bne_iff_ne]; omega
    have HU := Lib.hid (upR_err hp)
    have HD := Lib.hid (downR_err (t := t) hp)
    have HW := Lib.hid (withR_err (t := q) hp)
    clear HE HO hp hcode
    obtain ⟨n, a⟩ := x
    simp only [] at hne HU HD HW ⊢
    go_wp2_with fail
    refine (up_any l (by omega) _ hg1).mono ?_
    rintro e w2 ⟨hb2, HE, _⟩
    obtain rfl := HE _ HU.out
    have hg2 := hg1.next hb2
    clear HE
    have hbw2 := below_chain hb1 hb1.size hb2
    clear hb1 hb2
    go_wp2_with fail
    refine (down_any l t (by omega) (by omega) _ hg2).mono ?_
    rintro e w3 ⟨hb3, HE, _⟩
    obtain rfl := HE _ HD.out
    have hg3 := hg2.next hb3
    clear HE
    have hbw3 := below_chain hbw2 hbw2.size hb3
    clear hbw2 hb3
    go_wp2_with fail
    refine (within_any l q (by omega) (by omega) _ hg3).mono ?_
    rintro e w4 ⟨hb4, HE, _⟩
    obtain rfl := HE _ HW.out
    have hg4 := hg3.next hb4
    clear HE
    have hbw4 := below_chain hbw3 hbw3.size hb4
    clear hbw3 hb4
    go_wp2_with fail
    refine (wakes_any _ hg4).mono ?_
    rintro e w5 ⟨rfl, hb5⟩
    have hbw5 := below_chain hbw4 hbw4.size hb5
    clear hbw4 hb5
    go_wp2_with fail
    refine (fault_err n a _ _).mono ?_
    rintro e w6 ⟨rfl, hb6⟩
    have k6 : Blk w6 w5.heap.size 31 #[.int .i64 n, .int .i64 a, .bool false, .string ⟨#[]⟩] := (Blk.new w5 _ _).below hb6 (Blk.new w5 _ _).lt
    have c60 := k6.cell 0
    have c61 := k6.cell 1
    have c62 := k6.cell 2
    have c63 := k6.cell 3
    simp only [List.getElem?_toArray, List.getElem?_cons_zero, List.getElem?_cons_succ] at c60 c61 c62 c63
    have hbw6 := below_chain (hbw5.alloc hbw5.size _) (hbw5.alloc hbw5.size _).size hb6
    clear hbw5 hb6
    go_wp2_with fail
    refine (fault_err n a _ _).mono ?_
    rintro e w7 ⟨rfl, hb7⟩
    have k7 := k6.below hb7 k6.lt
    have d60 := k7.cell 0
    have d61 := k7.cell 1
    have d62 := k7.cell 2
    have d63 := k7.cell 3
    simp only [List.getElem?_toArray, List.getElem?_cons_zero, List.getElem?_cons_succ] at d60 d61 d62 d63
    have hbw7 := below_chain hbw6 hbw6.size hb7
    clear hbw6 hb7 c60 c61 c62 c63
    go_wp2_with fail
    refine (fault_err n a _ _).mono ?_
    rintro e w8 ⟨rfl, hb8⟩
    have hbw8 := below_chain hbw7 hbw7.size hb8
    clear hbw7 hb8
    go_wp2
    go_ret
    exact ⟨rfl, hbw8⟩

set_option maxRecDepth 100000 in
set_option maxHeartbeats 400000 in
theorem moves_none_bad_err (l t q : List UInt8) (hl : l.length ≤ 1048576) (ht : t.length ≤ 1048576) (hq : q.length ≤ 1048576) (w : World) (hg : Glob w) (ts : List (List UInt8)) (hp : parseS (wrong l) l = .ok ts) (hts : ts = []) (hr : ¬ (wrong t).1 = 0) (m b : Int) (hq2 : parseS (wrong q) q = .error (m, b)) :
    Calls Tryd.prog 5 #[.string ⟨l.toArray⟩, .string ⟨t.toArray⟩, .string ⟨q.toArray⟩] w fun e w' => e = .returned (.bool true) ∧ Below w.heap.size w w' := by
  have q1 := err_eq_nil
  have q2 := err_ne_nil
  have hlen0 : ts.length ≤ 65536 := (parse_print hp).2.2
  have hpr := (parse_print hp).2.1
  have hbk : bulkS ts ≤ 1048576 := by
    have := bulk_print ts
    rw [hpr] at this
    omega
  have Hpr := Lib.hid hpr
  have HP := Lib.hid hp
  have hpc : (piece t).length ≤ 2097200 := by
    have := piece_le t
    omega
  subst hts
  have HU := Lib.hid (upR_none hp)
  have HD := downR_ok (t := t) hp
  rw [if_neg hr] at HD
  replace HD := Lib.hid HD
  have HW := Lib.hid (withR_err2 hp hq2)
  have HNE : Hid ((m != 0) = true) := Lib.hid (by have := parse_code hq2; rw [bne_iff_ne]; omega)
  have HQ := Lib.hid hq2
  clear hp hq2 hpr
  have HR := decide_eq_false hr
  clear hr
  clear hlen0
  go_enter Tryd.func5, Tryd.ntmps5
  go_wp2_with fail
  refine (refParse_any ⟨l.toArray⟩ (by show l.length ≤ _; omega) _).mono ?_
  rintro e w1 ⟨hb1, _, HO⟩
  rw [list_of] at HO
  obtain ⟨v, rfl, hown⟩ := HO _ HP.out
  replace hg := hg.next hb1
  have hbw := hb1
  obtain ⟨A, c, rfl⟩ := own_slice hown
  have hrd := Rd.of_own hown
  have hcap := own_cap hown
  clear hb1 HO hown
  simp only [List.length_nil] at hrd ⊢
  go_wp2_with fail
  refine (up_any l (by omega) _ hg).mono ?_
  rintro e w' ⟨hb, UE, UO⟩
  replace hg := hg.next hb
  replace hrd := hrd.below hb
  replace hbw := below_chain hbw hbw.size hb
  clear hb
  obtain rfl := UE _ HU.out
  simp only [errV_no]
  clear UE UO
  go_wp2_with fail
  refine (down_any l t (by omega) (by omega) _ hg).mono ?_
  rintro e w' ⟨hb, UE, UO⟩
  replace hg := hg.next hb
  replace hrd := hrd.below hb
  replace hbw := below_chain hbw hbw.size hb
  clear hb
  obtain rfl := UE _ HD.out
  simp only [errV_no]
  clear UE UO
  go_wp2_with fail
  refine (within_any l q (by omega) (by omega) _ hg).mono ?_
  rintro e w' ⟨hb, UE, UO⟩
  replace hg := hg.next hb
  replace hrd := hrd.below hb
  replace hbw := below_chain hbw hbw.size hb
  clear hb
  obtain rfl := UE _ HW.out
  clear UE UO
  go_wp2_with fail
  refine (wakes_any _ hg).mono ?_
  rintro e w' ⟨rfl, hb⟩
  replace hbw := below_chain hbw hbw.size hb
  replace hrd := hrd.below hb
  replace hg := hg.next hb
  clear hb
  go_wp2_with fail
  refine (number_any 4 _).mono ?_
  rintro e w' ⟨rfl, hb⟩
  replace hbw := below_chain hbw hbw.size hb
  replace hrd := hrd.below hb
  replace hg := hg.next hb
  clear hb
  go_wp2_with fail
  refine (fault_no 4 (-1) ⟨#[]⟩ (by decide) _).mono ?_
  rintro e w' ⟨rfl, hb⟩
  replace hbw := below_chain hbw hbw.size hb
  replace hrd := hrd.below hb
  replace hg := hg.next hb
  clear hb
  go_wp2_with fail
  refine (refRight_any ⟨t.toArray⟩ (by show t.length ≤ _; omega) _).mono ?_
  rintro e w' ⟨rfl, rfl⟩
  rw [list_of, rightR, HR]
  go_wp2_with fail
  refine (number_any 100 _).mono ?_
  rintro e w' ⟨rfl, hb⟩
  replace hbw := below_chain hbw hbw.size hb
  replace hrd := hrd.below hb
  replace hg := hg.next hb
  clear hb
  go_wp2_with fail
  refine (fault_no 100 (-1) ⟨#[]⟩ (by decide) _).mono ?_
  rintro e w' ⟨rfl, hb⟩
  replace hbw := below_chain hbw hbw.size hb
  replace hrd := hrd.below hb
  replace hg := hg.next hb
  clear hb
  go_wp2_with fail
  refine (refParse_any ⟨q.toArray⟩ (by show q.length ≤ _; omega) _).mono ?_
  rintro e w' ⟨hb, RE, RO⟩
  replace hg := hg.next hb
  replace hrd := hrd.below hb
  replace hbw := below_chain hbw hbw.size hb
  clear hb
  rw [list_of] at RE RO
  obtain rfl := RE _ HQ.out
  clear RE RO
  have hne : (m != 0) = true := HNE.out
  go_wp2_with fail
  refine (fault_err m b _ _).mono ?_
  rintro e w' ⟨rfl, hb⟩
  replace hbw := below_chain hbw hbw.size hb
  replace hrd := hrd.below hb
  replace hg := hg.next hb
  clear hb
  go_wp2
  go_ret
  exact ⟨rfl, hbw⟩

set_option maxRecDepth 100000 in
set_option maxHeartbeats 400000 in
theorem moves_none_bad_le (l t q : List UInt8) (hl : l.length ≤ 1048576) (ht : t.length ≤ 1048576) (hq : q.length ≤ 1048576) (w : World) (hg : Glob w) (ts : List (List UInt8)) (hp : parseS (wrong l) l = .ok ts) (hts : ts = []) (hr : ¬ (wrong t).1 = 0) (ms : List (List UInt8)) (hq2 : parseS (wrong q) q = .ok ms) (hle : ts.length ≤ ms.length) :
    Calls Tryd.prog 5 #[.string ⟨l.toArray⟩, .string ⟨t.toArray⟩, .string ⟨q.toArray⟩] w fun e w' => e = .returned (.bool true) ∧ Below w.heap.size w w' := by
  have q1 := err_eq_nil
  have q2 := err_ne_nil
  have hlen0 : ts.length ≤ 65536 := (parse_print hp).2.2
  have hpr := (parse_print hp).2.1
  have hbk : bulkS ts ≤ 1048576 := by
    have := bulk_print ts
    rw [hpr] at this
    omega
  have Hpr := Lib.hid hpr
  have HP := Lib.hid hp
  have hpc : (piece t).length ≤ 2097200 := by
    have := piece_le t
    omega
  subst hts
  have HU := Lib.hid (upR_none hp)
  have HD := downR_ok (t := t) hp
  rw [if_neg hr] at HD
  replace HD := Lib.hid HD
  have HW := withR_ok hp hq2
  rw [prefix_take, List.length_nil] at HW
  have HLE : Hid (0 ≤ ms.length) := Lib.hid (by omega)
  replace HW := Lib.hid HW
  have hm0 : ms.length ≤ 65536 := (parse_print hq2).2.2
  have HQ := Lib.hid hq2
  clear hp hq2 hpr
  have HR := decide_eq_false hr
  clear hr
  clear hlen0
  have hm7 : ms.length ≤ 1048576 := by omega
  clear hm0
  go_enter Tryd.func5, Tryd.ntmps5
  go_wp2_with fail
  refine (refParse_any ⟨l.toArray⟩ (by show l.length ≤ _; omega) _).mono ?_
  rintro e w1 ⟨hb1, _, HO⟩
  rw [list_of] at HO
  obtain ⟨v, rfl, hown⟩ := HO _ HP.out
  replace hg := hg.next hb1
  have hbw := hb1
  obtain ⟨A, c, rfl⟩ := own_slice hown
  have hrd := Rd.of_own hown
  have hcap := own_cap hown
  clear hb1 HO hown
  simp only [List.length_nil] at hrd ⊢
  go_wp2_with fail
  refine (up_any l (by omega) _ hg).mono ?_
  rintro e w' ⟨hb, UE, UO⟩
  replace hg := hg.next hb
  replace hrd := hrd.below hb
  replace hbw := below_chain hbw hbw.size hb
  clear hb
  obtain rfl := UE _ HU.out
  simp only [errV_no]
  clear UE UO
  go_wp2_with fail
  refine (down_any l t (by omega) (by omega) _ hg).mono ?_
  rintro e w' ⟨hb, UE, UO⟩
  replace hg := hg.next hb
  replace hrd := hrd.below hb
  replace hbw := below_chain hbw hbw.size hb
  clear hb
  obtain rfl := UE _ HD.out
  simp only [errV_no]
  clear UE UO
  go_wp2_with fail
  refine (within_any l q (by omega) (by omega) _ hg).mono ?_
  rintro e w' ⟨hb, UE, UO⟩
  replace hg := hg.next hb
  replace hrd := hrd.below hb
  replace hbw := below_chain hbw hbw.size hb
  clear hb
  obtain rfl := UO _ HW.out
  clear UE UO
  go_wp2_with fail
  refine (wakes_any _ hg).mono ?_
  rintro e w' ⟨rfl, hb⟩
  replace hbw := below_chain hbw hbw.size hb
  replace hrd := hrd.below hb
  replace hg := hg.next hb
  clear hb
  go_wp2_with fail
  refine (number_any 4 _).mono ?_
  rintro e w' ⟨rfl, hb⟩
  replace hbw := below_chain hbw hbw.size hb
  replace hrd := hrd.below hb
  replace hg := hg.next hb
  clear hb
  go_wp2_with fail
  refine (fault_no 4 (-1) ⟨#[]⟩ (by decide) _).mono ?_
  rintro e w' ⟨rfl, hb⟩
  replace hbw := below_chain hbw hbw.size hb
  replace hrd := hrd.below hb
  replace hg := hg.next hb
  clear hb
  go_wp2_with fail
  refine (refRight_any ⟨t.toArray⟩ (by show t.length ≤ _; omega) _).mono ?_
  rintro e w' ⟨rfl, rfl⟩
  rw [list_of, rightR, HR]
  go_wp2_with fail
  refine (number_any 100 _).mono ?_
  rintro e w' ⟨rfl, hb⟩
  replace hbw := below_chain hbw hbw.size hb
  replace hrd := hrd.below hb
  replace hg := hg.next hb
  clear hb
  go_wp2_with fail
  refine (fault_no 100 (-1) ⟨#[]⟩ (by decide) _).mono ?_
  rintro e w' ⟨rfl, hb⟩
  replace hbw := below_chain hbw hbw.size hb
  replace hrd := hrd.below hb
  replace hg := hg.next hb
  clear hb
  go_wp2_with fail
  refine (refParse_any ⟨q.toArray⟩ (by show q.length ≤ _; omega) _).mono ?_
  rintro e w' ⟨hb, RE, RO⟩
  replace hg := hg.next hb
  replace hrd := hrd.below hb
  replace hbw := below_chain hbw hbw.size hb
  clear hb
  rw [list_of] at RE RO
  obtain ⟨v2, rfl, hown2⟩ := RO _ HQ.out
  obtain ⟨A2, c2, rfl⟩ := own_slice hown2
  have hrd2 := Rd.of_own hown2
  have hcap2 := own_cap hown2
  clear RE RO hown2
  have hrd3 := fun c' => hrd2.take (k := 0) HLE.out c'
  go_wp2_with fail
  refine (texts_any _ _ [] (ms.take 0) _ hrd (hrd3 _) (by simp) (by rw [List.length_take]; omega)).mono ?_
  rintro e w' ⟨rfl, hb⟩
  replace hbw := below_chain hbw hbw.size hb
  replace hrd := hrd.below hb
  replace hg := hg.next hb
  clear hb
  go_wp2
  go_ret
  exact ⟨rfl, hbw⟩

set_option maxRecDepth 100000 in
set_option maxHeartbeats 400000 in
theorem moves_none_ok_err (l t q : List UInt8) (hl : l.length ≤ 1048576) (ht : t.length ≤ 1048576) (hq : q.length ≤ 1048576) (w : World) (hg : Glob w) (ts : List (List UInt8)) (hp : parseS (wrong l) l = .ok ts) (hts : ts = []) (hr : (wrong t).1 = 0) (m b : Int) (hq2 : parseS (wrong q) q = .error (m, b)) :
    Calls Tryd.prog 5 #[.string ⟨l.toArray⟩, .string ⟨t.toArray⟩, .string ⟨q.toArray⟩] w fun e w' => e = .returned (.bool true) ∧ Below w.heap.size w w' := by
  have q1 := err_eq_nil
  have q2 := err_ne_nil
  have hlen0 : ts.length ≤ 65536 := (parse_print hp).2.2
  have hpr := (parse_print hp).2.1
  have hbk : bulkS ts ≤ 1048576 := by
    have := bulk_print ts
    rw [hpr] at this
    omega
  have Hpr := Lib.hid hpr
  have HP := Lib.hid hp
  have hpc : (piece t).length ≤ 2097200 := by
    have := piece_le t
    omega
  subst hts
  have HU := Lib.hid (upR_none hp)
  have HD := downR_ok (t := t) hp
  rw [if_pos hr] at HD
  rw [if_pos (by decide)] at HD
  replace HD := Lib.hid HD
  have HW := Lib.hid (withR_err2 hp hq2)
  have HNE : Hid ((m != 0) = true) := Lib.hid (by have := parse_code hq2; rw [bne_iff_ne]; omega)
  have HQ := Lib.hid hq2
  clear hp hq2 hpr
  have HR := decide_eq_true hr
  clear hr
  clear hlen0
  go_enter Tryd.func5, Tryd.ntmps5
  go_wp2_with fail
  refine (refParse_any ⟨l.toArray⟩ (by show l.length ≤ _; omega) _).mono ?_
  rintro e w1 ⟨hb1, _, HO⟩
  rw [list_of] at HO
  obtain ⟨v, rfl, hown⟩ := HO _ HP.out
  replace hg := hg.next hb1
  have hbw := hb1
  obtain ⟨A, c, rfl⟩ := own_slice hown
  have hrd := Rd.of_own hown
  have hcap := own_cap hown
  clear hb1 HO hown
  simp only [List.length_nil] at hrd ⊢
  go_wp2_with fail
  refine (up_any l (by omega) _ hg).mono ?_
  rintro e w' ⟨hb, UE, UO⟩
  replace hg := hg.next hb
  replace hrd := hrd.below hb
  replace hbw := below_chain hbw hbw.size hb
  clear hb
  obtain rfl := UE _ HU.out
  simp only [errV_no]
  clear UE UO
  go_wp2_with fail
  refine (down_any l t (by omega) (by omega) _ hg).mono ?_
  rintro e w' ⟨hb, UE, UO⟩
  replace hg := hg.next hb
  replace hrd := hrd.below hb
  replace hbw := below_chain hbw hbw.size hb
  clear hb
  obtain rfl := UO _ HD.out
  clear UE UO
  rw [← mk_append2]
  go_wp2_with fail
  refine (within_any l q (by omega) (by omega) _ hg).mono ?_
  rintro e w' ⟨hb, UE, UO⟩
  replace hg := hg.next hb
  replace hrd := hrd.below hb
  replace hbw := below_chain hbw hbw.size hb
  clear hb
  obtain rfl := UE _ HW.out
  clear UE UO
  go_wp2_with fail
  refine (wakes_any _ hg).mono ?_
  rintro e w' ⟨rfl, hb⟩
  replace hbw := below_chain hbw hbw.size hb
  replace hrd := hrd.below hb
  replace hg := hg.next hb
  clear hb
  go_wp2_with fail
  refine (number_any 4 _).mono ?_
  rintro e w' ⟨rfl, hb⟩
  replace hbw := below_chain hbw hbw.size hb
  replace hrd := hrd.below hb
  replace hg := hg.next hb
  clear hb
  go_wp2_with fail
  refine (fault_no 4 (-1) ⟨#[]⟩ (by decide) _).mono ?_
  rintro e w' ⟨rfl, hb⟩
  replace hbw := below_chain hbw hbw.size hb
  replace hrd := hrd.below hb
  replace hg := hg.next hb
  clear hb
  go_wp2_with fail
  refine (refRight_any ⟨t.toArray⟩ (by show t.length ≤ _; omega) _).mono ?_
  rintro e w' ⟨rfl, rfl⟩
  rw [list_of, rightR, HR]
  go_wp2_with fail
  refine (refPrint_any _ [] _ hrd (by omega)).mono ?_
  rintro e w' ⟨rfl, hb⟩
  replace hbw := below_chain hbw hbw.size hb
  replace hrd := hrd.below hb
  replace hg := hg.next hb
  clear hb
  rw [Hpr.out]
  go_wp2_with fail
  refine (refPiece_any t (by omega) _).mono ?_
  rintro e w' ⟨rfl, hb⟩
  replace hbw := below_chain hbw hbw.size hb
  replace hrd := hrd.below hb
  replace hg := hg.next hb
  clear hb
  go_wp2_with fail
  refine (refParse_any ⟨q.toArray⟩ (by show q.length ≤ _; omega) _).mono ?_
  rintro e w' ⟨hb, RE, RO⟩
  replace hg := hg.next hb
  replace hrd := hrd.below hb
  replace hbw := below_chain hbw hbw.size hb
  clear hb
  rw [list_of] at RE RO
  obtain rfl := RE _ HQ.out
  clear RE RO
  have hne : (m != 0) = true := HNE.out
  go_wp2_with fail
  refine (fault_err m b _ _).mono ?_
  rintro e w' ⟨rfl, hb⟩
  replace hbw := below_chain hbw hbw.size hb
  replace hrd := hrd.below hb
  replace hg := hg.next hb
  clear hb
  go_wp2
  go_ret
  exact ⟨rfl, hbw⟩

set_option maxRecDepth 100000 in
set_option maxHeartbeats 400000 in
theorem moves_none_ok_le (l t q : List UInt8) (hl : l.length ≤ 1048576) (ht : t.length ≤ 1048576) (hq : q.length ≤ 1048576) (w : World) (hg : Glob w) (ts : List (List UInt8)) (hp : parseS (wrong l) l = .ok ts) (hts : ts = []) (hr : (wrong t).1 = 0) (ms : List (List UInt8)) (hq2 : parseS (wrong q) q = .ok ms) (hle : ts.length ≤ ms.length) :
    Calls Tryd.prog 5 #[.string ⟨l.toArray⟩, .string ⟨t.toArray⟩, .string ⟨q.toArray⟩] w fun e w' => e = .returned (.bool true) ∧ Below w.heap.size w w' := by
  have q1 := err_eq_nil
  have q2 := err_ne_nil
  have hlen0 : ts.length ≤ 65536 := (parse_print hp).2.2
  have hpr := (parse_print hp).2.1
  have hbk : bulkS ts ≤ 1048576 := by
    have := bulk_print ts
    rw [hpr] at this
    omega
  have Hpr := Lib.hid hpr
  have HP := Lib.hid hp
  have hpc : (piece t).length ≤ 2097200 := by
    have := piece_le t
    omega
  subst hts
  have HU := Lib.hid (upR_none hp)
  have HD := downR_ok (t := t) hp
  rw [if_pos hr] at HD
  rw [if_pos (by decide)] at HD
  replace HD := Lib.hid HD
  have HW := withR_ok hp hq2
  rw [prefix_take, List.length_nil] at HW
  have HLE : Hid (0 ≤ ms.length) := Lib.hid (by omega)
  replace HW := Lib.hid HW
  have hm0 : ms.length ≤ 65536 := (parse_print hq2).2.2
  have HQ := Lib.hid hq2
  clear hp hq2 hpr
  have HR := decide_eq_true hr
  clear hr
  clear hlen0
  have hm7 : ms.length ≤ 1048576 := by omega
  clear hm0
  go_enter Tryd.func5, Tryd.ntmps5
  go_wp2_with fail
  refine (refParse_any ⟨l.toArray⟩ (by show l.length ≤ _; omega) _).mono ?_
  rintro e w1 ⟨hb1, _, HO⟩
  rw [list_of] at HO
  obtain ⟨v, rfl, hown⟩ := HO _ HP.out
  replace hg := hg.next hb1
  have hbw := hb1
  obtain ⟨A, c, rfl⟩ := own_slice hown
  have hrd := Rd.of_own hown
  have hcap := own_cap hown
  clear hb1 HO hown
  simp only [List.length_nil] at hrd ⊢
  go_wp2_with fail
  refine (up_any l (by omega) _ hg).mono ?_
  rintro e w' ⟨hb, UE, UO⟩
  replace hg := hg.next hb
  replace hrd := hrd.below hb
  replace hbw := below_chain hbw hbw.size hb
  clear hb
  obtain rfl := UE _ HU.out
  simp only [errV_no]
  clear UE UO
  go_wp2_with fail
  refine (down_any l t (by omega) (by omega) _ hg).mono ?_
  rintro e w' ⟨hb, UE, UO⟩
  replace hg := hg.next hb
  replace hrd := hrd.below hb
  replace hbw := below_chain hbw hbw.size hb
  clear hb
  obtain rfl := UO _ HD.out
  clear UE UO
  rw [← mk_append2]
  go_wp2_with fail
  refine (within_any l q (by omega) (by omega) _ hg).mono ?_
  rintro e w' ⟨hb, UE, UO⟩
  replace hg := hg.next hb
  replace hrd := hrd.below hb
  replace hbw := below_chain hbw hbw.size hb
  clear hb
  obtain rfl := UO _ HW.out
  clear UE UO
  go_wp2_with fail
  refine (wakes_any _ hg).mono ?_
  rintro e w' ⟨rfl, hb⟩
  replace hbw := below_chain hbw hbw.size hb
  replace hrd := hrd.below hb
  replace hg := hg.next hb
  clear hb
  go_wp2_with fail
  refine (number_any 4 _).mono ?_
  rintro e w' ⟨rfl, hb⟩
  replace hbw := below_chain hbw hbw.size hb
  replace hrd := hrd.below hb
  replace hg := hg.next hb
  clear hb
  go_wp2_with fail
  refine (fault_no 4 (-1) ⟨#[]⟩ (by decide) _).mono ?_
  rintro e w' ⟨rfl, hb⟩
  replace hbw := below_chain hbw hbw.size hb
  replace hrd := hrd.below hb
  replace hg := hg.next hb
  clear hb
  go_wp2_with fail
  refine (refRight_any ⟨t.toArray⟩ (by show t.length ≤ _; omega) _).mono ?_
  rintro e w' ⟨rfl, rfl⟩
  rw [list_of, rightR, HR]
  go_wp2_with fail
  refine (refPrint_any _ [] _ hrd (by omega)).mono ?_
  rintro e w' ⟨rfl, hb⟩
  replace hbw := below_chain hbw hbw.size hb
  replace hrd := hrd.below hb
  replace hg := hg.next hb
  clear hb
  rw [Hpr.out]
  go_wp2_with fail
  refine (refPiece_any t (by omega) _).mono ?_
  rintro e w' ⟨rfl, hb⟩
  replace hbw := below_chain hbw hbw.size hb
  replace hrd := hrd.below hb
  replace hg := hg.next hb
  clear hb
  go_wp2_with fail
  refine (refParse_any ⟨q.toArray⟩ (by show q.length ≤ _; omega) _).mono ?_
  rintro e w' ⟨hb, RE, RO⟩
  replace hg := hg.next hb
  replace hrd := hrd.below hb
  replace hbw := below_chain hbw hbw.size hb
  clear hb
  rw [list_of] at RE RO
  obtain ⟨v2, rfl, hown2⟩ := RO _ HQ.out
  obtain ⟨A2, c2, rfl⟩ := own_slice hown2
  have hrd2 := Rd.of_own hown2
  have hcap2 := own_cap hown2
  clear RE RO hown2
  have hrd3 := fun c' => hrd2.take (k := 0) HLE.out c'
  go_wp2_with fail
  refine (texts_any _ _ [] (ms.take 0) _ hrd (hrd3 _) (by simp) (by rw [List.length_take]; omega)).mono ?_
  rintro e w' ⟨rfl, hb⟩
  replace hbw := below_chain hbw hbw.size hb
  replace hrd := hrd.below hb
  replace hg := hg.next hb
  clear hb
  go_wp2
  go_ret
  exact ⟨rfl, hbw⟩

set_option maxRecDepth 100000 in
set_option maxHeartbeats 400000 in
theorem moves_some_bad_err (l t q : List UInt8) (hl : l.length ≤ 1048576) (ht : t.length ≤ 1048576) (hq : q.length ≤ 1048576) (w : World) (hg : Glob w) (ts : List (List UInt8)) (hp : parseS (wrong l) l = .ok ts) (n : Nat) (hn : ts.length = n + 1) (hr : ¬ (wrong t).1 = 0) (m b : Int) (hq2 : parseS (wrong q) q = .error (m, b)) :
    Calls Tryd.prog 5 #[.string ⟨l.toArray⟩, .string ⟨t.toArray⟩, .string ⟨q.toArray⟩] w fun e w' => e = .returned (.bool true) ∧ Below w.heap.size w w' := by
  have q1 := err_eq_nil
  have q2 := err_ne_nil
  have hlen0 : ts.length ≤ 65536 := (parse_print hp).2.2
  have hpr := (parse_print hp).2.1
  have hbk : bulkS ts ≤ 1048576 := by
    have := bulk_print ts
    rw [hpr] at this
    omega
  have Hpr := Lib.hid hpr
  have HP := Lib.hid hp
  have hpc : (piece t).length ≤ 2097200 := by
    have := piece_le t
    omega
  have h0 : ts ≠ [] := by
    rintro rfl
    simp at hn
  have HU := upR_ok hp h0
  have hti : n < ts.length := by omega
  have htl : ts.getLast h0 = ts[n] := by
    rw [List.getLast_eq_getElem]
    congr 1
    omega
  rw [htl, drop_take ts hn] at HU
  have HC : ∀ (w : World) (g o c : Nat), Rd w (.slice (some ⟨g, o, none⟩) (n + 1) c) ts → w.cell? ⟨g, o + n, none⟩ = some (.string ⟨ts[n].toArray⟩) := fun w g o c h => h.cellAt hti
  have hbt := bulk_le ts n
  generalize ts[n] = tl at *
  clear htl
  replace HU := Lib.hid HU
  have HD := downR_ok (t := t) hp
  rw [if_neg hr] at HD
  replace HD := Lib.hid HD
  have HW := Lib.hid (withR_err2 hp hq2)
  have HNE : Hid ((m != 0) = true) := Lib.hid (by have := parse_code hq2; rw [bne_iff_ne]; omega)
  have HQ := Lib.hid hq2
  clear hp hq2 hpr
  have HR := decide_eq_false hr
  clear hr
  have hl7 : ts.length ≤ 1048576 := by omega
  clear hlen0
  go_enter Tryd.func5, Tryd.ntmps5
  go_wp2_with fail
  refine (refParse_any ⟨l.toArray⟩ (by show l.length ≤ _; omega) _).mono ?_
  rintro e w1 ⟨hb1, _, HO⟩
  rw [list_of] at HO
  obtain ⟨v, rfl, hown⟩ := HO _ HP.out
  replace hg := hg.next hb1
  have hbw := hb1
  obtain ⟨A, c, rfl⟩ := own_slice hown
  have hrd := Rd.of_own hown
  have hcap := own_cap hown
  clear hb1 HO hown
  obtain ⟨g, o, rfl⟩ : ∃ g o, A = some ⟨g, o, none⟩ := by
    obtain ⟨A', c', e, hc⟩ := hrd
    injection e with e1 _ _
    subst e1
    obtain ⟨g, o, h1, _⟩ := hc n hti
    exact ⟨g, o, h1⟩
  rw [hn] at hrd hcap ⊢
  clear hti
  have e6 : ((n : Int) + 1 - 1) = (n : Int) := by omega
  have e7 : n ≤ 1048576 := by omega
  go_wp2_with fail
  refine (up_any l (by omega) _ hg).mono ?_
  rintro e w' ⟨hb, UE, UO⟩
  replace hg := hg.next hb
  replace hrd := hrd.below hb
  replace hbw := below_chain hbw hbw.size hb
  clear hb
  obtain rfl := UO _ HU.out
  clear UE UO
  go_wp2_with fail
  refine (down_any l t (by omega) (by omega) _ hg).mono ?_
  rintro e w' ⟨hb, UE, UO⟩
  replace hg := hg.next hb
  replace hrd := hrd.below hb
  replace hbw := below_chain hbw hbw.size hb
  clear hb
  obtain rfl := UE _ HD.out
  simp only [errV_no]
  clear UE UO
  go_wp2_with fail
  refine (within_any l q (by omega) (by omega) _ hg).mono ?_
  rintro e w' ⟨hb, UE, UO⟩
  replace hg := hg.next hb
  replace hrd := hrd.below hb
  replace hbw := below_chain hbw hbw.size hb
  clear hb
  obtain rfl := UE _ HW.out
  clear UE UO
  go_wp2_with fail
  refine (wakes_any _ hg).mono ?_
  rintro e w' ⟨rfl, hb⟩
  replace hbw := below_chain hbw hbw.size hb
  replace hrd := hrd.below hb
  replace hg := hg.next hb
  clear hb
  have hrdD := fun c' => hrd.take (k := n) (by omega) c'
  have hcell := HC _ _ _ _ hrd
  go_wp2_with fail
  refine (refPrint_any _ (ts.take n) _ (hrdD _) (by omega)).mono ?_
  rintro e w' ⟨rfl, hb⟩
  replace hbw := below_chain hbw hbw.size hb
  replace hrd := hrd.below hb
  replace hg := hg.next hb
  clear hb
  clear hcell hrdD
  have hcell := HC _ _ _ _ hrd
  go_wp2_with fail
  refine (refRight_any ⟨t.toArray⟩ (by show t.length ≤ _; omega) _).mono ?_
  rintro e w' ⟨rfl, rfl⟩
  rw [list_of, rightR, HR]
  go_wp2_with fail
  refine (number_any 100 _).mono ?_
  rintro e w' ⟨rfl, hb⟩
  replace hbw := below_chain hbw hbw.size hb
  replace hrd := hrd.below hb
  replace hg := hg.next hb
  clear hb
  go_wp2_with fail
  refine (fault_no 100 (-1) ⟨#[]⟩ (by decide) _).mono ?_
  rintro e w' ⟨rfl, hb⟩
  replace hbw := below_chain hbw hbw.size hb
  replace hrd := hrd.below hb
  replace hg := hg.next hb
  clear hb
  go_wp2_with fail
  refine (refParse_any ⟨q.toArray⟩ (by show q.length ≤ _; omega) _).mono ?_
  rintro e w' ⟨hb, RE, RO⟩
  replace hg := hg.next hb
  replace hrd := hrd.below hb
  replace hbw := below_chain hbw hbw.size hb
  clear hb
  rw [list_of] at RE RO
  obtain rfl := RE _ HQ.out
  clear RE RO
  have hne : (m != 0) = true := HNE.out
  go_wp2_with fail
  refine (fault_err m b _ _).mono ?_
  rintro e w' ⟨rfl, hb⟩
  replace hbw := below_chain hbw hbw.size hb
  replace hrd := hrd.below hb
  replace hg := hg.next hb
  clear hb
  go_wp2
  go_ret
  exact ⟨rfl, hbw⟩

set_option maxRecDepth 100000 in
set_option maxHeartbeats 400000 in
theorem moves_some_bad_le (l t q : List UInt8) (hl : l.length ≤ 1048576) (ht : t.length ≤ 1048576) (hq : q.length ≤ 1048576) (w : World) (hg : Glob w) (ts : List (List UInt8)) (hp : parseS (wrong l) l = .ok ts) (n : Nat) (hn : ts.length = n + 1) (hr : ¬ (wrong t).1 = 0) (ms : List (List UInt8)) (hq2 : parseS (wrong q) q = .ok ms) (hle : ts.length ≤ ms.length) :
    Calls Tryd.prog 5 #[.string ⟨l.toArray⟩, .string ⟨t.toArray⟩, .string ⟨q.toArray⟩] w fun e w' => e = .returned (.bool true) ∧ Below w.heap.size w w' := by
  have q1 := err_eq_nil
  have q2 := err_ne_nil
  have hlen0 : ts.length ≤ 65536 := (parse_print hp).2.2
  have hpr := (parse_print hp).2.1
  have hbk : bulkS ts ≤ 1048576 := by
    have := bulk_print ts
    rw [hpr] at this
    omega
  have Hpr := Lib.hid hpr
  have HP := Lib.hid hp
  have hpc : (piece t).length ≤ 2097200 := by
    have := piece_le t
    omega
  have h0 : ts ≠ [] := by
    rintro rfl
    simp at hn
  have HU := upR_ok hp h0
  have hti : n < ts.length := by omega
  have htl : ts.getLast h0 = ts[n] := by
    rw [List.getLast_eq_getElem]
    congr 1
    omega
  rw [htl, drop_take ts hn] at HU
  have HC : ∀ (w : World) (g o c : Nat), Rd w (.slice (some ⟨g, o, none⟩) (n + 1) c) ts → w.cell? ⟨g, o + n, none⟩ = some (.string ⟨ts[n].toArray⟩) := fun w g o c h => h.cellAt hti
  have hbt := bulk_le ts n
  generalize ts[n] = tl at *
  clear htl
  replace HU := Lib.hid HU
  have HD := downR_ok (t := t) hp
  rw [if_neg hr] at HD
  replace HD := Lib.hid HD
  have HW := withR_ok hp hq2
  rw [prefix_take, hn] at HW
  have HLE : Hid (n + 1 ≤ ms.length) := Lib.hid (by omega)
  replace HW := Lib.hid HW
  have hm0 : ms.length ≤ 65536 := (parse_print hq2).2.2
  have HQ := Lib.hid hq2
  clear hp hq2 hpr
  have HR := decide_eq_false hr
  clear hr
  have hl7 : ts.length ≤ 1048576 := by omega
  clear hlen0
  have hm7 : ms.length ≤ 1048576 := by omega
  clear hm0
  go_enter Tryd.func5, Tryd.ntmps5
  go_wp2_with fail
  refine (refParse_any ⟨l.toArray⟩ (by show l.length ≤ _; omega) _).mono ?_
  rintro e w1 ⟨hb1, _, HO⟩
  rw [list_of] at HO
  obtain ⟨v, rfl, hown⟩ := HO _ HP.out
  replace hg := hg.next hb1
  have hbw := hb1
  obtain ⟨A, c, rfl⟩ := own_slice hown
  have hrd := Rd.of_own hown
  have hcap := own_cap hown
  clear hb1 HO hown
  obtain ⟨g, o, rfl⟩ : ∃ g o, A = some ⟨g, o, none⟩ := by
    obtain ⟨A', c', e, hc⟩ := hrd
    injection e with e1 _ _
    subst e1
    obtain ⟨g, o, h1, _⟩ := hc n hti
    exact ⟨g, o, h1⟩
  rw [hn] at hrd hcap ⊢
  clear hti
  have e6 : ((n : Int) + 1 - 1) = (n : Int) := by omega
  have e7 : n ≤ 1048576 := by omega
  go_wp2_with fail
  refine (up_any l (by omega) _ hg).mono ?_
  rintro e w' ⟨hb, UE, UO⟩
  replace hg := hg.next hb
  replace hrd := hrd.below hb
  replace hbw := below_chain hbw hbw.size hb
  clear hb
  obtain rfl := UO _ HU.out
  clear UE UO
  go_wp2_with fail
  refine (down_any l t (by omega) (by omega) _ hg).mono ?_
  rintro e w' ⟨hb, UE, UO⟩
  replace hg := hg.next hb
  replace hrd := hrd.below hb
  replace hbw := below_chain hbw hbw.size hb
  clear hb
  obtain rfl := UE _ HD.out
  simp only [errV_no]
  clear UE UO
  go_wp2_with fail
  refine (within_any l q (by omega) (by omega) _ hg).mono ?_
  rintro e w' ⟨hb, UE, UO⟩
  replace hg := hg.next hb
  replace hrd := hrd.below hb
  replace hbw := below_chain hbw hbw.size hb
  clear hb
  obtain rfl := UO _ HW.out
  clear UE UO
  go_wp2_with fail
  refine (wakes_any _ hg).mono ?_
  rintro e w' ⟨rfl, hb⟩
  replace hbw := below_chain hbw hbw.size hb
  replace hrd := hrd.below hb
  replace hg := hg.next hb
  clear hb
  have hrdD := fun c' => hrd.take (k := n) (by omega) c'
  have hcell := HC _ _ _ _ hrd
  go_wp2_with fail
  refine (refPrint_any _ (ts.take n) _ (hrdD _) (by omega)).mono ?_
  rintro e w' ⟨rfl, hb⟩
  replace hbw := below_chain hbw hbw.size hb
  replace hrd := hrd.below hb
  replace hg := hg.next hb
  clear hb
  clear hcell hrdD
  have hcell := HC _ _ _ _ hrd
  go_wp2_with fail
  refine (refRight_any ⟨t.toArray⟩ (by show t.length ≤ _; omega) _).mono ?_
  rintro e w' ⟨rfl, rfl⟩
  rw [list_of, rightR, HR]
  go_wp2_with fail
  refine (number_any 100 _).mono ?_
  rintro e w' ⟨rfl, hb⟩
  replace hbw := below_chain hbw hbw.size hb
  replace hrd := hrd.below hb
  replace hg := hg.next hb
  clear hb
  go_wp2_with fail
  refine (fault_no 100 (-1) ⟨#[]⟩ (by decide) _).mono ?_
  rintro e w' ⟨rfl, hb⟩
  replace hbw := below_chain hbw hbw.size hb
  replace hrd := hrd.below hb
  replace hg := hg.next hb
  clear hb
  go_wp2_with fail
  refine (refParse_any ⟨q.toArray⟩ (by show q.length ≤ _; omega) _).mono ?_
  rintro e w' ⟨hb, RE, RO⟩
  replace hg := hg.next hb
  replace hrd := hrd.below hb
  replace hbw := below_chain hbw hbw.size hb
  clear hb
  rw [list_of] at RE RO
  obtain ⟨v2, rfl, hown2⟩ := RO _ HQ.out
  obtain ⟨A2, c2, rfl⟩ := own_slice hown2
  have hrd2 := Rd.of_own hown2
  have hcap2 := own_cap hown2
  clear RE RO hown2
  have hrd3 := fun c' => hrd2.take (k := n + 1) HLE.out c'
  have hlm : (ms.take (n + 1)).length ≤ 1048576 := by rw [List.length_take]; omega
  have hle1 := HLE.out
  clear hrd2 hle
  generalize ms.take (n + 1) = mt at *
  generalize ms.length = M at *
  have hI : ((n : Int) + 1 ≤ (M : Int)) = True := by simp; omega
  have hmin : min ((n : Int) + 1) (M : Int) = (n : Int) + 1 := by omega
  go_wp2_with fail
  refine (texts_any _ _ ts mt _ hrd (hrd3 _) (by omega) (by omega)).mono ?_
  rintro e w' ⟨rfl, hb⟩
  replace hbw := below_chain hbw hbw.size hb
  replace hrd := hrd.below hb
  replace hg := hg.next hb
  clear hb
  go_wp2
  go_ret
  exact ⟨rfl, hbw⟩

set_option maxRecDepth 100000 in
set_option maxHeartbeats 400000 in
theorem moves_some_bad_gt (l t q : List UInt8) (hl : l.length ≤ 1048576) (ht : t.length ≤ 1048576) (hq : q.length ≤ 1048576) (w : World) (hg : Glob w) (ts : List (List UInt8)) (hp : parseS (wrong l) l = .ok ts) (n : Nat) (hn : ts.length = n + 1) (hr : ¬ (wrong t).1 = 0) (ms : List (List UInt8)) (hq2 : parseS (wrong q) q = .ok ms) (hle : ms.length < ts.length) :
    Calls Tryd.prog 5 #[.string ⟨l.toArray⟩, .string ⟨t.toArray⟩, .string ⟨q.toArray⟩] w fun e w' => e = .returned (.bool true) ∧ Below w.heap.size w w' := by
  have q1 := err_eq_nil
  have q2 := err_ne_nil
  have hlen0 : ts.length ≤ 65536 := (parse_print hp).2.2
  have hpr := (parse_print hp).2.1
  have hbk : bulkS ts ≤ 1048576 := by
    have := bulk_print ts
    rw [hpr] at this
    omega
  have Hpr := Lib.hid hpr
  have HP := Lib.hid hp
  have hpc : (piece t).length ≤ 2097200 := by
    have := piece_le t
    omega
  have h0 : ts ≠ [] := by
    rintro rfl
    simp at hn
  have HU := upR_ok hp h0
  have hti : n < ts.length := by omega
  have htl : ts.getLast h0 = ts[n] := by
    rw [List.getLast_eq_getElem]
    congr 1
    omega
  rw [htl, drop_take ts hn] at HU
  have HC : ∀ (w : World) (g o c : Nat), Rd w (.slice (some ⟨g, o, none⟩) (n + 1) c) ts → w.cell? ⟨g, o + n, none⟩ = some (.string ⟨ts[n].toArray⟩) := fun w g o c h => h.cellAt hti
  have hbt := bulk_le ts n
  generalize ts[n] = tl at *
  clear htl
  replace HU := Lib.hid HU
  have HD := downR_ok (t := t) hp
  rw [if_neg hr] at HD
  replace HD := Lib.hid HD
  have HW := withR_ok hp hq2
  rw [prefix_long hle] at HW
  replace HW := Lib.hid HW
  have hm0 : ms.length ≤ 65536 := (parse_print hq2).2.2
  have HQ := Lib.hid hq2
  clear hp hq2 hpr
  have HR := decide_eq_false hr
  clear hr
  have hl7 : ts.length ≤ 1048576 := by omega
  clear hlen0
  have hm7 : ms.length ≤ 1048576 := by omega
  clear hm0
  go_enter Tryd.func5, Tryd.ntmps5
  go_wp2_with fail
  refine (refParse_any ⟨l.toArray⟩ (by show l.length ≤ _; omega) _).mono ?_
  rintro e w1 ⟨hb1, _, HO⟩
  rw [list_of] at HO
  obtain ⟨v, rfl, hown⟩ := HO _ HP.out
  replace hg := hg.next hb1
  have hbw := hb1
  obtain ⟨A, c, rfl⟩ := own_slice hown
  have hrd := Rd.of_own hown
  have hcap := own_cap hown
  clear hb1 HO hown
  obtain ⟨g, o, rfl⟩ : ∃ g o, A = some ⟨g, o, none⟩ := by
    obtain ⟨A', c', e, hc⟩ := hrd
    injection e with e1 _ _
    subst e1
    obtain ⟨g, o, h1, _⟩ := hc n hti
    exact ⟨g, o, h1⟩
  rw [hn] at hrd hcap ⊢
  clear hti
  have e6 : ((n : Int) + 1 - 1) = (n : Int) := by omega
  have e7 : n ≤ 1048576 := by omega
  go_wp2_with fail
  refine (up_any l (by omega) _ hg).mono ?_
  rintro e w' ⟨hb, UE, UO⟩
  replace hg := hg.next hb
  replace hrd := hrd.below hb
  replace hbw := below_chain hbw hbw.size hb
  clear hb
  obtain rfl := UO _ HU.out
  clear UE UO
  go_wp2_with fail
  refine (down_any l t (by omega) (by omega) _ hg).mono ?_
  rintro e w' ⟨hb, UE, UO⟩
  replace hg := hg.next hb
  replace hrd := hrd.below hb
  replace hbw := below_chain hbw hbw.size hb
  clear hb
  obtain rfl := UE _ HD.out
  simp only [errV_no]
  clear UE UO
  go_wp2_with fail
  refine (within_any l q (by omega) (by omega) _ hg).mono ?_
  rintro e w' ⟨hb, UE, UO⟩
  replace hg := hg.next hb
  replace hrd := hrd.below hb
  replace hbw := below_chain hbw hbw.size hb
  clear hb
  obtain rfl := UO _ HW.out
  clear UE UO
  go_wp2_with fail
  refine (wakes_any _ hg).mono ?_
  rintro e w' ⟨rfl, hb⟩
  replace hbw := below_chain hbw hbw.size hb
  replace hrd := hrd.below hb
  replace hg := hg.next hb
  clear hb
  have hrdD := fun c' => hrd.take (k := n) (by omega) c'
  have hcell := HC _ _ _ _ hrd
  go_wp2_with fail
  refine (refPrint_any _ (ts.take n) _ (hrdD _) (by omega)).mono ?_
  rintro e w' ⟨rfl, hb⟩
  replace hbw := below_chain hbw hbw.size hb
  replace hrd := hrd.below hb
  replace hg := hg.next hb
  clear hb
  clear hcell hrdD
  have hcell := HC _ _ _ _ hrd
  go_wp2_with fail
  refine (refRight_any ⟨t.toArray⟩ (by show t.length ≤ _; omega) _).mono ?_
  rintro e w' ⟨rfl, rfl⟩
  rw [list_of, rightR, HR]
  go_wp2_with fail
  refine (number_any 100 _).mono ?_
  rintro e w' ⟨rfl, hb⟩
  replace hbw := below_chain hbw hbw.size hb
  replace hrd := hrd.below hb
  replace hg := hg.next hb
  clear hb
  go_wp2_with fail
  refine (fault_no 100 (-1) ⟨#[]⟩ (by decide) _).mono ?_
  rintro e w' ⟨rfl, hb⟩
  replace hbw := below_chain hbw hbw.size hb
  replace hrd := hrd.below hb
  replace hg := hg.next hb
  clear hb
  go_wp2_with fail
  refine (refParse_any ⟨q.toArray⟩ (by show q.length ≤ _; omega) _).mono ?_
  rintro e w' ⟨hb, RE, RO⟩
  replace hg := hg.next hb
  replace hrd := hrd.below hb
  replace hbw := below_chain hbw hbw.size hb
  clear hb
  rw [list_of] at RE RO
  obtain ⟨v2, rfl, hown2⟩ := RO _ HQ.out
  obtain ⟨A2, c2, rfl⟩ := own_slice hown2
  have hrd2 := Rd.of_own hown2
  have hcap2 := own_cap hown2
  clear RE RO hown2
  go_wp2
  go_ret
  exact ⟨rfl, hbw⟩

set_option maxRecDepth 100000 in
set_option maxHeartbeats 400000 in
theorem moves_some_long_err (l t q : List UInt8) (hl : l.length ≤ 1048576) (ht : t.length ≤ 1048576) (hq : q.length ≤ 1048576) (w : World) (hg : Glob w) (ts : List (List UInt8)) (hp : parseS (wrong l) l = .ok ts) (n : Nat) (hn : ts.length = n + 1) (hr : (wrong t).1 = 0) (h6 : n + 1 = 65536) (m b : Int) (hq2 : parseS (wrong q) q = .error (m, b)) :
    Calls Tryd.prog 5 #[.string ⟨l.toArray⟩, .string ⟨t.toArray⟩, .string ⟨q.toArray⟩] w fun e w' => e = .returned (.bool true) ∧ Below w.heap.size w w' := by
  have q1 := err_eq_nil
  have q2 := err_ne_nil
  have hlen0 : ts.length ≤ 65536 := (parse_print hp).2.2
  have hpr := (parse_print hp).2.1
  have hbk : bulkS ts ≤ 1048576 := by
    have := bulk_print ts
    rw [hpr] at this
    omega
  have Hpr := Lib.hid hpr
  have HP := Lib.hid hp
  have hpc : (piece t).length ≤ 2097200 := by
    have := piece_le t
    omega
  have h0 : ts ≠ [] := by
    rintro rfl
    simp at hn
  have HU := upR_ok hp h0
  have hti : n < ts.length := by omega
  have htl : ts.getLast h0 = ts[n] := by
    rw [List.getLast_eq_getElem]
    congr 1
    omega
  rw [htl, drop_take ts hn] at HU
  have HC : ∀ (w : World) (g o c : Nat), Rd w (.slice (some ⟨g, o, none⟩) (n + 1) c) ts → w.cell? ⟨g, o + n, none⟩ = some (.string ⟨ts[n].toArray⟩) := fun w g o c h => h.cellAt hti
  have hbt := bulk_le ts n
  generalize ts[n] = tl at *
  clear htl
  replace HU := Lib.hid HU
  have HD := downR_ok (t := t) hp
  rw [if_pos hr] at HD
  rw [if_neg (by omega)] at HD
  replace HD := Lib.hid HD
  have HW := Lib.hid (withR_err2 hp hq2)
  have HNE : Hid ((m != 0) = true) := Lib.hid (by have := parse_code hq2; rw [bne_iff_ne]; omega)
  have HQ := Lib.hid hq2
  have HE8 : Hid (((n : Int) + 1 == 65536) = true) := Lib.hid (by rw [beq_iff_eq]; omega)
  clear hp hq2 hpr
  have HR := decide_eq_true hr
  clear hr
  have hl7 : ts.length ≤ 1048576 := by omega
  clear h6
  clear hlen0
  go_enter Tryd.func5, Tryd.ntmps5
  go_wp2_with fail
  refine (refParse_any ⟨l.toArray⟩ (by show l.length ≤ _; omega) _).mono ?_
  rintro e w1 ⟨hb1, _, HO⟩
  rw [list_of] at HO
  obtain ⟨v, rfl, hown⟩ := HO _ HP.out
  replace hg := hg.next hb1
  have hbw := hb1
  obtain ⟨A, c, rfl⟩ := own_slice hown
  have hrd := Rd.of_own hown
  have hcap := own_cap hown
  clear hb1 HO hown
  obtain ⟨g, o, rfl⟩ : ∃ g o, A = some ⟨g, o, none⟩ := by
    obtain ⟨A', c', e, hc⟩ := hrd
    injection e with e1 _ _
    subst e1
    obtain ⟨g, o, h1, _⟩ := hc n hti
    exact ⟨g, o, h1⟩
  rw [hn] at hrd hcap ⊢
  clear hti
  have e6 : ((n : Int) + 1 - 1) = (n : Int) := by omega
  have e7 : n ≤ 1048576 := by omega
  go_wp2_with fail
  refine (up_any l (by omega) _ hg).mono ?_
  rintro e w' ⟨hb, UE, UO⟩
  replace hg := hg.next hb
  replace hrd := hrd.below hb
  replace hbw := below_chain hbw hbw.size hb
  clear hb
  obtain rfl := UO _ HU.out
  clear UE UO
  go_wp2_with fail
  refine (down_any l t (by omega) (by omega) _ hg).mono ?_
  rintro e w' ⟨hb, UE, UO⟩
  replace hg := hg.next hb
  replace hrd := hrd.below hb
  replace hbw := below_chain hbw hbw.size hb
  clear hb
  obtain rfl := UE _ HD.out
  simp only [errV_no]
  clear UE UO
  go_wp2_with fail
  refine (within_any l q (by omega) (by omega) _ hg).mono ?_
  rintro e w' ⟨hb, UE, UO⟩
  replace hg := hg.next hb
  replace hrd := hrd.below hb
  replace hbw := below_chain hbw hbw.size hb
  clear hb
  obtain rfl := UE _ HW.out
  clear UE UO
  go_wp2_with fail
  refine (wakes_any _ hg).mono ?_
  rintro e w' ⟨rfl, hb⟩
  replace hbw := below_chain hbw hbw.size hb
  replace hrd := hrd.below hb
  replace hg := hg.next hb
  clear hb
  have hrdD := fun c' => hrd.take (k := n) (by omega) c'
  have hcell := HC _ _ _ _ hrd
  go_wp2_with fail
  refine (refPrint_any _ (ts.take n) _ (hrdD _) (by omega)).mono ?_
  rintro e w' ⟨rfl, hb⟩
  replace hbw := below_chain hbw hbw.size hb
  replace hrd := hrd.below hb
  replace hg := hg.next hb
  clear hb
  clear hcell hrdD
  have hcell := HC _ _ _ _ hrd
  go_wp2_with fail
  refine (refRight_any ⟨t.toArray⟩ (by show t.length ≤ _; omega) _).mono ?_
  rintro e w' ⟨rfl, rfl⟩
  rw [list_of, rightR, HR]
  have e8 : ((n : Int) + 1 == 65536) = true := HE8.out
  go_wp2_with fail
  refine (number_any 3 _).mono ?_
  rintro e w' ⟨rfl, hb⟩
  replace hbw := below_chain hbw hbw.size hb
  replace hrd := hrd.below hb
  replace hg := hg.next hb
  clear hb
  go_wp2_with fail
  refine (fault_no 3 (-1) ⟨#[]⟩ (by decide) _).mono ?_
  rintro e w' ⟨rfl, hb⟩
  replace hbw := below_chain hbw hbw.size hb
  replace hrd := hrd.below hb
  replace hg := hg.next hb
  clear hb
  go_wp2_with fail
  refine (refParse_any ⟨q.toArray⟩ (by show q.length ≤ _; omega) _).mono ?_
  rintro e w' ⟨hb, RE, RO⟩
  replace hg := hg.next hb
  replace hrd := hrd.below hb
  replace hbw := below_chain hbw hbw.size hb
  clear hb
  rw [list_of] at RE RO
  obtain rfl := RE _ HQ.out
  clear RE RO
  have hne : (m != 0) = true := HNE.out
  go_wp2_with fail
  refine (fault_err m b _ _).mono ?_
  rintro e w' ⟨rfl, hb⟩
  replace hbw := below_chain hbw hbw.size hb
  replace hrd := hrd.below hb
  replace hg := hg.next hb
  clear hb
  go_wp2
  go_ret
  exact ⟨rfl, hbw⟩

set_option maxRecDepth 100000 in
set_option maxHeartbeats 400000 in
theorem moves_some_long_le (l t q : List UInt8) (hl : l.length ≤ 1048576) (ht : t.length ≤ 1048576) (hq : q.length ≤ 1048576) (w : World) (hg : Glob w) (ts : List (List UInt8)) (hp : parseS (wrong l) l = .ok ts) (n : Nat) (hn : ts.length = n + 1) (hr : (wrong t).1 = 0) (h6 : n + 1 = 65536) (ms : List (List UInt8)) (hq2 : parseS (wrong q) q = .ok ms) (hle : ts.length ≤ ms.length) :
    Calls Tryd.prog 5 #[.string ⟨l.toArray⟩, .string ⟨t.toArray⟩, .string ⟨q.toArray⟩] w fun e w' => e = .returned (.bool true) ∧ Below w.heap.size w w' := by
  have q1 := err_eq_nil
  have q2 := err_ne_nil
  have hlen0 : ts.length ≤ 65536 := (parse_print hp).2.2
  have hpr := (parse_print hp).2.1
  have hbk : bulkS ts ≤ 1048576 := by
    have := bulk_print ts
    rw [hpr] at this
    omega
  have Hpr := Lib.hid hpr
  have HP := Lib.hid hp
  have hpc : (piece t).length ≤ 2097200 := by
    have := piece_le t
    omega
  have h0 : ts ≠ [] := by
    rintro rfl
    simp at hn
  have HU := upR_ok hp h0
  have hti : n < ts.length := by omega
  have htl : ts.getLast h0 = ts[n] := by
    rw [List.getLast_eq_getElem]
    congr 1
    omega
  rw [htl, drop_take ts hn] at HU
  have HC : ∀ (w : World) (g o c : Nat), Rd w (.slice (some ⟨g, o, none⟩) (n + 1) c) ts → w.cell? ⟨g, o + n, none⟩ = some (.string ⟨ts[n].toArray⟩) := fun w g o c h => h.cellAt hti
  have hbt := bulk_le ts n
  generalize ts[n] = tl at *
  clear htl
  replace HU := Lib.hid HU
  have HD := downR_ok (t := t) hp
  rw [if_pos hr] at HD
  rw [if_neg (by omega)] at HD
  replace HD := Lib.hid HD
  have HW := withR_ok hp hq2
  rw [prefix_take, hn] at HW
  have HLE : Hid (n + 1 ≤ ms.length) := Lib.hid (by omega)
  replace HW := Lib.hid HW
  have hm0 : ms.length ≤ 65536 := (parse_print hq2).2.2
  have HQ := Lib.hid hq2
  have HE8 : Hid (((n : Int) + 1 == 65536) = true) := Lib.hid (by rw [beq_iff_eq]; omega)
  clear hp hq2 hpr
  have HR := decide_eq_true hr
  clear hr
  have hl7 : ts.length ≤ 1048576 := by omega
  clear h6
  clear hlen0
  have hm7 : ms.length ≤ 1048576 := by omega
  clear hm0
  go_enter Tryd.func5, Tryd.ntmps5
  go_wp2_with fail
  refine (refParse_any ⟨l.toArray⟩ (by show l.length ≤ _; omega) _).mono ?_
  rintro e w1 ⟨hb1, _, HO⟩
  rw [list_of] at HO
  obtain ⟨v, rfl, hown⟩ := HO _ HP.out
  replace hg := hg.next hb1
  have hbw := hb1
  obtain ⟨A, c, rfl⟩ := own_slice hown
  have hrd := Rd.of_own hown
  have hcap := own_cap hown
  clear hb1 HO hown
  obtain ⟨g, o, rfl⟩ : ∃ g o, A = some ⟨g, o, none⟩ := by
    obtain ⟨A', c', e, hc⟩ := hrd
    injection e with e1 _ _
    subst e1
    obtain ⟨g, o, h1, _⟩ := hc n hti
    exact ⟨g, o, h1⟩
  rw [hn] at hrd hcap ⊢
  clear hti
  have e6 : ((n : Int) + 1 - 1) = (n : Int) := by omega
  have e7 : n ≤ 1048576 := by omega
  go_wp2_with fail
  refine (up_any l (by omega) _ hg).mono ?_
  rintro e w' ⟨hb, UE, UO⟩
  replace hg := hg.next hb
  replace hrd := hrd.below hb
  replace hbw := below_chain hbw hbw.size hb
  clear hb
  obtain rfl := UO _ HU.out
  clear UE UO
  go_wp2_with fail
  refine (down_any l t (by omega) (by omega) _ hg).mono ?_
  rintro e w' ⟨hb, UE, UO⟩
  replace hg := hg.next hb
  replace hrd := hrd.below hb
  replace hbw := below_chain hbw hbw.size hb
  clear hb
  obtain rfl := UE _ HD.out
  simp only [errV_no]
  clear UE UO
  go_wp2_with fail
  refine (within_any l q (by omega) (by omega) _ hg).mono ?_
  rintro e w' ⟨hb, UE, UO⟩
  replace hg := hg.next hb
  replace hrd := hrd.below hb
  replace hbw := below_chain hbw hbw.size hb
  clear hb
  obtain rfl := UO _ HW.out
  clear UE UO
  go_wp2_with fail
  refine (wakes_any _ hg).mono ?_
  rintro e w' ⟨rfl, hb⟩
  replace hbw := below_chain hbw hbw.size hb
  replace hrd := hrd.below hb
  replace hg := hg.next hb
  clear hb
  have hrdD := fun c' => hrd.take (k := n) (by omega) c'
  have hcell := HC _ _ _ _ hrd
  go_wp2_with fail
  refine (refPrint_any _ (ts.take n) _ (hrdD _) (by omega)).mono ?_
  rintro e w' ⟨rfl, hb⟩
  replace hbw := below_chain hbw hbw.size hb
  replace hrd := hrd.below hb
  replace hg := hg.next hb
  clear hb
  clear hcell hrdD
  have hcell := HC _ _ _ _ hrd
  go_wp2_with fail
  refine (refRight_any ⟨t.toArray⟩ (by show t.length ≤ _; omega) _).mono ?_
  rintro e w' ⟨rfl, rfl⟩
  rw [list_of, rightR, HR]
  have e8 : ((n : Int) + 1 == 65536) = true := HE8.out
  go_wp2_with fail
  refine (number_any 3 _).mono ?_
  rintro e w' ⟨rfl, hb⟩
  replace hbw := below_chain hbw hbw.size hb
  replace hrd := hrd.below hb
  replace hg := hg.next hb
  clear hb
  go_wp2_with fail
  refine (fault_no 3 (-1) ⟨#[]⟩ (by decide) _).mono ?_
  rintro e w' ⟨rfl, hb⟩
  replace hbw := below_chain hbw hbw.size hb
  replace hrd := hrd.below hb
  replace hg := hg.next hb
  clear hb
  go_wp2_with fail
  refine (refParse_any ⟨q.toArray⟩ (by show q.length ≤ _; omega) _).mono ?_
  rintro e w' ⟨hb, RE, RO⟩
  replace hg := hg.next hb
  replace hrd := hrd.below hb
  replace hbw := below_chain hbw hbw.size hb
  clear hb
  rw [list_of] at RE RO
  obtain ⟨v2, rfl, hown2⟩ := RO _ HQ.out
  obtain ⟨A2, c2, rfl⟩ := own_slice hown2
  have hrd2 := Rd.of_own hown2
  have hcap2 := own_cap hown2
  clear RE RO hown2
  have hrd3 := fun c' => hrd2.take (k := n + 1) HLE.out c'
  have hlm : (ms.take (n + 1)).length ≤ 1048576 := by rw [List.length_take]; omega
  have hle1 := HLE.out
  clear hrd2 hle
  generalize ms.take (n + 1) = mt at *
  generalize ms.length = M at *
  have hI : ((n : Int) + 1 ≤ (M : Int)) = True := by simp; omega
  have hmin : min ((n : Int) + 1) (M : Int) = (n : Int) + 1 := by omega
  go_wp2_with fail
  refine (texts_any _ _ ts mt _ hrd (hrd3 _) (by omega) (by omega)).mono ?_
  rintro e w' ⟨rfl, hb⟩
  replace hbw := below_chain hbw hbw.size hb
  replace hrd := hrd.below hb
  replace hg := hg.next hb
  clear hb
  go_wp2
  go_ret
  exact ⟨rfl, hbw⟩

set_option maxRecDepth 100000 in
set_option maxHeartbeats 400000 in
theorem moves_some_long_gt (l t q : List UInt8) (hl : l.length ≤ 1048576) (ht : t.length ≤ 1048576) (hq : q.length ≤ 1048576) (w : World) (hg : Glob w) (ts : List (List UInt8)) (hp : parseS (wrong l) l = .ok ts) (n : Nat) (hn : ts.length = n + 1) (hr : (wrong t).1 = 0) (h6 : n + 1 = 65536) (ms : List (List UInt8)) (hq2 : parseS (wrong q) q = .ok ms) (hle : ms.length < ts.length) :
    Calls Tryd.prog 5 #[.string ⟨l.toArray⟩, .string ⟨t.toArray⟩, .string ⟨q.toArray⟩] w fun e w' => e = .returned (.bool true) ∧ Below w.heap.size w w' := by
  have q1 := err_eq_nil
  have q2 := err_ne_nil
  have hlen0 : ts.length ≤ 65536 := (parse_print hp).2.2
  have hpr := (parse_print hp).2.1
  have hbk : bulkS ts ≤ 1048576 := by
    have := bulk_print ts
    rw [hpr] at this
    omega
  have Hpr := Lib.hid hpr
  have HP := Lib.hid hp
  have hpc : (piece t).length ≤ 2097200 := by
    have := piece_le t
    omega
  have h0 : ts ≠ [] := by
    rintro rfl
    simp at hn
  have HU := upR_ok hp h0
  have hti : n < ts.length := by omega
  have htl : ts.getLast h0 = ts[n] := by
    rw [List.getLast_eq_getElem]
    congr 1
    omega
  rw [htl, drop_take ts hn] at HU
  have HC : ∀ (w : World) (g o c : Nat), Rd w (.slice (some ⟨g, o, none⟩) (n + 1) c) ts → w.cell? ⟨g, o + n, none⟩ = some (.string ⟨ts[n].toArray⟩) := fun w g o c h => h.cellAt hti
  have hbt := bulk_le ts n
  generalize ts[n] = tl at *
  clear htl
  replace HU := Lib.hid HU
  have HD := downR_ok (t := t) hp
  rw [if_pos hr] at HD
  rw [if_neg (by omega)] at HD
  replace HD := Lib.hid HD
  have HW := withR_ok hp hq2
  rw [prefix_long hle] at HW
  replace HW := Lib.hid HW
  have hm0 : ms.length ≤ 65536 := (parse_print hq2).2.2
  have HQ := Lib.hid hq2
  have HE8 : Hid (((n : Int) + 1 == 65536) = true) := Lib.hid (by rw [beq_iff_eq]; omega)
  clear hp hq2 hpr
  have HR := decide_eq_true hr
  clear hr
  have hl7 : ts.length ≤ 1048576 := by omega
  clear h6
  clear hlen0
  have hm7 : ms.length ≤ 1048576 := by omega
  clear hm0
  go_enter Tryd.func5, Tryd.ntmps5
  go_wp2_with fail
  refine (refParse_any ⟨l.toArray⟩ (by show l.length ≤ _; omega) _).mono ?_
  rintro e w1 ⟨hb1, _, HO⟩
  rw [list_of] at HO
  obtain ⟨v, rfl, hown⟩ := HO _ HP.out
  replace hg := hg.next hb1
  have hbw := hb1
  obtain ⟨A, c, rfl⟩ := own_slice hown
  have hrd := Rd.of_own hown
  have hcap := own_cap hown
  clear hb1 HO hown
  obtain ⟨g, o, rfl⟩ : ∃ g o, A = some ⟨g, o, none⟩ := by
    obtain ⟨A', c', e, hc⟩ := hrd
    injection e with e1 _ _
    subst e1
    obtain ⟨g, o, h1, _⟩ := hc n hti
    exact ⟨g, o, h1⟩
  rw [hn] at hrd hcap ⊢
  clear hti
  have e6 : ((n : Int) + 1 - 1) = (n : Int) := by omega
  have e7 : n ≤ 1048576 := by omega
  go_wp2_with fail
  refine (up_any l (by omega) _ hg).mono ?_
  rintro e w' ⟨hb, UE, UO⟩
  replace hg := hg.next hb
  replace hrd := hrd.below hb
  replace hbw := below_chain hbw hbw.size hb
  clear hb
  obtain rfl := UO _ HU.out
  clear UE UO
  go_wp2_with fail
  refine (down_any l t (by omega) (by omega) _ hg).mono ?_
  rintro e w' ⟨hb, UE, UO⟩
  replace hg := hg.next hb
  replace hrd := hrd.below hb
  replace hbw := below_chain hbw hbw.size hb
  clear hb
  obtain rfl := UE _ HD.out
  simp only [errV_no]
  clear UE UO
  go_wp2_with fail
  refine (within_any l q (by omega) (by omega) _ hg).mono ?_
  rintro e w' ⟨hb, UE, UO⟩
  replace hg := hg.next hb
  replace hrd := hrd.below hb
  replace hbw := below_chain hbw hbw.size hb
  clear hb
  obtain rfl := UO _ HW.out
  clear UE UO
  go_wp2_with fail
  refine (wakes_any _ hg).mono ?_
  rintro e w' ⟨rfl, hb⟩
  replace hbw := below_chain hbw hbw.size hb
  replace hrd := hrd.below hb
  replace hg := hg.next hb
  clear hb
  have hrdD := fun c' => hrd.take (k := n) (by omega) c'
  have hcell := HC _ _ _ _ hrd
  go_wp2_with fail
  refine (refPrint_any _ (ts.take n) _ (hrdD _) (by omega)).mono ?_
  rintro e w' ⟨rfl, hb⟩
  replace hbw := below_chain hbw hbw.size hb
  replace hrd := hrd.below hb
  replace hg := hg.next hb
  clear hb
  clear hcell hrdD
  have hcell := HC _ _ _ _ hrd
  go_wp2_with fail
  refine (refRight_any ⟨t.toArray⟩ (by show t.length ≤ _; omega) _).mono ?_
  rintro e w' ⟨rfl, rfl⟩
  rw [list_of, rightR, HR]
  have e8 : ((n : Int) + 1 == 65536) = true := HE8.out
  go_wp2_with fail
  refine (number_any 3 _).mono ?_
  rintro e w' ⟨rfl, hb⟩
  replace hbw := below_chain hbw hbw.size hb
  replace hrd := hrd.below hb
  replace hg := hg.next hb
  clear hb
  go_wp2_with fail
  refine (fault_no 3 (-1) ⟨#[]⟩ (by decide) _).mono ?_
  rintro e w' ⟨rfl, hb⟩
  replace hbw := below_chain hbw hbw.size hb
  replace hrd := hrd.below hb
  replace hg := hg.next hb
  clear hb
  go_wp2_with fail
  refine (refParse_any ⟨q.toArray⟩ (by show q.length ≤ _; omega) _).mono ?_
  rintro e w' ⟨hb, RE, RO⟩
  replace hg := hg.next hb
  replace hrd := hrd.below hb
  replace hbw := below_chain hbw hbw.size hb
  clear hb
  rw [list_of] at RE RO
  obtain ⟨v2, rfl, hown2⟩ := RO _ HQ.out
  obtain ⟨A2, c2, rfl⟩ := own_slice hown2
  have hrd2 := Rd.of_own hown2
  have hcap2 := own_cap hown2
  clear RE RO hown2
  go_wp2
  go_ret
  exact ⟨rfl, hbw⟩

set_option maxRecDepth 100000 in
set_option maxHeartbeats 400000 in
theorem moves_some_ok_err (l t q : List UInt8) (hl : l.length ≤ 1048576) (ht : t.length ≤ 1048576) (hq : q.length ≤ 1048576) (w : World) (hg : Glob w) (ts : List (List UInt8)) (hp : parseS (wrong l) l = .ok ts) (n : Nat) (hn : ts.length = n + 1) (hr : (wrong t).1 = 0) (h6 : n + 1 < 65536) (m b : Int) (hq2 : parseS (wrong q) q = .error (m, b)) :
    Calls Tryd.prog 5 #[.string ⟨l.toArray⟩, .string ⟨t.toArray⟩, .string ⟨q.toArray⟩] w fun e w' => e = .returned (.bool true) ∧ Below w.heap.size w w' := by
  have q1 := err_eq_nil
  have q2 := err_ne_nil
  have hlen0 : ts.length ≤ 65536 := (parse_print hp).2.2
  have hpr := (parse_print hp).2.1
  have hbk : bulkS ts ≤ 1048576 := by
    have := bulk_print ts
    rw [hpr] at this
    omega
  have Hpr := Lib.hid hpr
  have HP := Lib.hid hp
  have hpc : (piece t).length ≤ 2097200 := by
    have := piece_le t
    omega
  have h0 : ts ≠ [] := by
    rintro rfl
    simp at hn
  have HU := upR_ok hp h0
  have hti : n < ts.length := by omega
  have htl : ts.getLast h0 = ts[n] := by
    rw [List.getLast_eq_getElem]
    congr 1
    omega
  rw [htl, drop_take ts hn] at HU
  have HC : ∀ (w : World) (g o c : Nat), Rd w (.slice (some ⟨g, o, none⟩) (n + 1) c) ts → w.cell? ⟨g, o + n, none⟩ = some (.string ⟨ts[n].toArray⟩) := fun w g o c h => h.cellAt hti
  have hbt := bulk_le ts n
  generalize ts[n] = tl at *
  clear htl
  replace HU := Lib.hid HU
  have HD := downR_ok (t := t) hp
  rw [if_pos hr] at HD
  rw [if_pos (by omega)] at HD
  replace HD := Lib.hid HD
  have HW := Lib.hid (withR_err2 hp hq2)
  have HNE : Hid ((m != 0) = true) := Lib.hid (by have := parse_code hq2; rw [bne_iff_ne]; omega)
  have HQ := Lib.hid hq2
  have HE8 : Hid (((n : Int) + 1 == 65536) = false) := Lib.hid (by rw [beq_eq_false_iff_ne]; omega)
  clear hp hq2 hpr
  have HR := decide_eq_true hr
  clear hr
  have hl7 : ts.length ≤ 1048576 := by omega
  clear h6
  clear hlen0
  go_enter Tryd.func5, Tryd.ntmps5
  go_wp2_with fail
  refine (refParse_any ⟨l.toArray⟩ (by show l.length ≤ _; omega) _).mono ?_
  rintro e w1 ⟨hb1, _, HO⟩
  rw [list_of] at HO
  obtain ⟨v, rfl, hown⟩ := HO _ HP.out
  replace hg := hg.next hb1
  have hbw := hb1
  obtain ⟨A, c, rfl⟩ := own_slice hown
  have hrd := Rd.of_own hown
  have hcap := own_cap hown
  clear hb1 HO hown
  obtain ⟨g, o, rfl⟩ : ∃ g o, A = some ⟨g, o, none⟩ := by
    obtain ⟨A', c', e, hc⟩ := hrd
    injection e with e1 _ _
    subst e1
    obtain ⟨g, o, h1, _⟩ := hc n hti
    exact ⟨g, o, h1⟩
  rw [hn] at hrd hcap ⊢
  clear hti
  have e6 : ((n : Int) + 1 - 1) = (n : Int) := by omega
  have e7 : n ≤ 1048576 := by omega
  go_wp2_with fail
  refine (up_any l (by omega) _ hg).mono ?_
  rintro e w' ⟨hb, UE, UO⟩
  replace hg := hg.next hb
  replace hrd := hrd.below hb
  replace hbw := below_chain hbw hbw.size hb
  clear hb
  obtain rfl := UO _ HU.out
  clear UE UO
  go_wp2_with fail
  refine (down_any l t (by omega) (by omega) _ hg).mono ?_
  rintro e w' ⟨hb, UE, UO⟩
  replace hg := hg.next hb
  replace hrd := hrd.below hb
  replace hbw := below_chain hbw hbw.size hb
  clear hb
  obtain rfl := UO _ HD.out
  clear UE UO
  rw [← mk_append2]
  go_wp2_with fail
  refine (within_any l q (by omega) (by omega) _ hg).mono ?_
  rintro e w' ⟨hb, UE, UO⟩
  replace hg := hg.next hb
  replace hrd := hrd.below hb
  replace hbw := below_chain hbw hbw.size hb
  clear hb
  obtain rfl := UE _ HW.out
  clear UE UO
  go_wp2_with fail
  refine (wakes_any _ hg).mono ?_
  rintro e w' ⟨rfl, hb⟩
  replace hbw := below_chain hbw hbw.size hb
  replace hrd := hrd.below hb
  replace hg := hg.next hb
  clear hb
  have hrdD := fun c' => hrd.take (k := n) (by omega) c'
  have hcell := HC _ _ _ _ hrd
  go_wp2_with fail
  refine (refPrint_any _ (ts.take n) _ (hrdD _) (by omega)).mono ?_
  rintro e w' ⟨rfl, hb⟩
  replace hbw := below_chain hbw hbw.size hb
  replace hrd := hrd.below hb
  replace hg := hg.next hb
  clear hb
  clear hcell hrdD
  have hcell := HC _ _ _ _ hrd
  go_wp2_with fail
  refine (refRight_any ⟨t.toArray⟩ (by show t.length ≤ _; omega) _).mono ?_
  rintro e w' ⟨rfl, rfl⟩
  rw [list_of, rightR, HR]
  have e8 : ((n : Int) + 1 == 65536) = false := HE8.out
  go_wp2_with fail
  refine (refPrint_any _ ts _ hrd (by omega)).mono ?_
  rintro e w' ⟨rfl, hb⟩
  replace hbw := below_chain hbw hbw.size hb
  replace hrd := hrd.below hb
  replace hg := hg.next hb
  clear hb
  rw [Hpr.out]
  go_wp2_with fail
  refine (refPiece_any t (by omega) _).mono ?_
  rintro e w' ⟨rfl, hb⟩
  replace hbw := below_chain hbw hbw.size hb
  replace hrd := hrd.below hb
  replace hg := hg.next hb
  clear hb
  go_wp2_with fail
  refine (refParse_any ⟨q.toArray⟩ (by show q.length ≤ _; omega) _).mono ?_
  rintro e w' ⟨hb, RE, RO⟩
  replace hg := hg.next hb
  replace hrd := hrd.below hb
  replace hbw := below_chain hbw hbw.size hb
  clear hb
  rw [list_of] at RE RO
  obtain rfl := RE _ HQ.out
  clear RE RO
  have hne : (m != 0) = true := HNE.out
  go_wp2_with fail
  refine (fault_err m b _ _).mono ?_
  rintro e w' ⟨rfl, hb⟩
  replace hbw := below_chain hbw hbw.size hb
  replace hrd := hrd.below hb
  replace hg := hg.next hb
  clear hb
  go_wp2
  go_ret
  exact ⟨rfl, hbw⟩

set_option maxRecDepth 100000 in
set_option maxHeartbeats 400000 in
theorem moves_some_ok_le (l t q : List UInt8) (hl : l.length ≤ 1048576) (ht : t.length ≤ 1048576) (hq : q.length ≤ 1048576) (w : World) (hg : Glob w) (ts : List (List UInt8)) (hp : parseS (wrong l) l = .ok ts) (n : Nat) (hn : ts.length = n + 1) (hr : (wrong t).1 = 0) (h6 : n + 1 < 65536) (ms : List (List UInt8)) (hq2 : parseS (wrong q) q = .ok ms) (hle : ts.length ≤ ms.length) :
    Calls Tryd.prog 5 #[.string ⟨l.toArray⟩, .string ⟨t.toArray⟩, .string ⟨q.toArray⟩] w fun e w' => e = .returned (.bool true) ∧ Below w.heap.size w w' := by
  have q1 := err_eq_nil
  have q2 := err_ne_nil
  have hlen0 : ts.length ≤ 65536 := (parse_print hp).2.2
  have hpr := (parse_print hp).2.1
  have hbk : bulkS ts ≤ 1048576 := by
    have := bulk_print ts
    rw [hpr] at this
    omega
  have Hpr := Lib.hid hpr
  have HP := Lib.hid hp
  have hpc : (piece t).length ≤ 2097200 := by
    have := piece_le t
    omega
  have h0 : ts ≠ [] := by
    rintro rfl
    simp at hn
  have HU := upR_ok hp h0
  have hti : n < ts.length := by omega
  have htl : ts.getLast h0 = ts[n] := by
    rw [List.getLast_eq_getElem]
    congr 1
    omega
  rw [htl, drop_take ts hn] at HU
  have HC : ∀ (w : World) (g o c : Nat), Rd w (.slice (some ⟨g, o, none⟩) (n + 1) c) ts → w.cell? ⟨g, o + n, none⟩ = some (.string ⟨ts[n].toArray⟩) := fun w g o c h => h.cellAt hti
  have hbt := bulk_le ts n
  generalize ts[n] = tl at *
  clear htl
  replace HU := Lib.hid HU
  have HD := downR_ok (t := t) hp
  rw [if_pos hr] at HD
  rw [if_pos (by omega)] at HD
  replace HD := Lib.hid HD
  have HW := withR_ok hp hq2
  rw [prefix_take, hn] at HW
  have HLE : Hid (n + 1 ≤ ms.length) := Lib.hid (by omega)
  replace HW := Lib.hid HW
  have hm0 : ms.length ≤ 65536 := (parse_print hq2).2.2
  have HQ := Lib.hid hq2
  have HE8 : Hid (((n : Int) + 1 == 65536) = false) := Lib.hid (by rw [beq_eq_false_iff_ne]; omega)
  clear hp hq2 hpr
  have HR := decide_eq_true hr
  clear hr
  have hl7 : ts.length ≤ 1048576 := by omega
  clear h6
  clear hlen0
  have hm7 : ms.length ≤ 1048576 := by omega
  clear hm0
  go_enter Tryd.func5, Tryd.ntmps5
  go_wp2_with fail
  refine (refParse_any ⟨l.toArray⟩ (by show l.length ≤ _; omega) _).mono ?_
  rintro e w1 ⟨hb1, _, HO⟩
  rw [list_of] at HO
  obtain ⟨v, rfl, hown⟩ := HO _ HP.out
  replace hg := hg.next hb1
  have hbw := hb1
  obtain ⟨A, c, rfl⟩ := own_slice hown
  have hrd := Rd.of_own hown
  have hcap := own_cap hown
  clear hb1 HO hown
  obtain ⟨g, o, rfl⟩ : ∃ g o, A = some ⟨g, o, none⟩ := by
    obtain ⟨A', c', e, hc⟩ := hrd
    injection e with e1 _ _
    subst e1
    obtain ⟨g, o, h1, _⟩ := hc n hti
    exact ⟨g, o, h1⟩
  rw [hn] at hrd hcap ⊢
  clear hti
  have e6 : ((n : Int) + 1 - 1) = (n : Int) := by omega
  have e7 : n ≤ 1048576 := by omega
  go_wp2_with fail
  refine (up_any l (by omega) _ hg).mono ?_
  rintro e w' ⟨hb, UE, UO⟩
  replace hg := hg.next hb
  replace hrd := hrd.below hb
  replace hbw := below_chain hbw hbw.size hb
  clear hb
  obtain rfl := UO _ HU.out
  clear UE UO
  go_wp2_with fail
  refine (down_any l t (by omega) (by omega) _ hg).mono ?_
  rintro e w' ⟨hb, UE, UO⟩
  replace hg := hg.next hb
  replace hrd := hrd.below hb
  replace hbw := below_chain hbw hbw.size hb
  clear hb
  obtain rfl := UO _ HD.out
  clear UE UO
  rw [← mk_append2]
  go_wp2_with fail
  refine (within_any l q (by omega) (by omega) _ hg).mono ?_
  rintro e w' ⟨hb, UE, UO⟩
  replace hg := hg.next hb
  replace hrd := hrd.below hb
  replace hbw := below_chain hbw hbw.size hb
  clear hb
  obtain rfl := UO _ HW.out
  clear UE UO
  go_wp2_with fail
  refine (wakes_any _ hg).mono ?_
  rintro e w' ⟨rfl, hb⟩
  replace hbw := below_chain hbw hbw.size hb
  replace hrd := hrd.below hb
  replace hg := hg.next hb
  clear hb
  have hrdD := fun c' => hrd.take (k := n) (by omega) c'
  have hcell := HC _ _ _ _ hrd
  go_wp2_with fail
  refine (refPrint_any _ (ts.take n) _ (hrdD _) (by omega)).mono ?_
  rintro e w' ⟨rfl, hb⟩
  replace hbw := below_chain hbw hbw.size hb
  replace hrd := hrd.below hb
  replace hg := hg.next hb
  clear hb
  clear hcell hrdD
  have hcell := HC _ _ _ _ hrd
  go_wp2_with fail
  refine (refRight_any ⟨t.toArray⟩ (by show t.length ≤ _; omega) _).mono ?_
  rintro e w' ⟨rfl, rfl⟩
  rw [list_of, rightR, HR]
  have e8 : ((n : Int) + 1 == 65536) = false := HE8.out
  go_wp2_with fail
  refine (refPrint_any _ ts _ hrd (by omega)).mono ?_
  rintro e w' ⟨rfl, hb⟩
  replace hbw := below_chain hbw hbw.size hb
  replace hrd := hrd.below hb
  replace hg := hg.next hb
  clear hb
  rw [Hpr.out]
  go_wp2_with fail
  refine (refPiece_any t (by omega) _).mono ?_
  rintro e w' ⟨rfl, hb⟩
  replace hbw := below_chain hbw hbw.size hb
  replace hrd := hrd.below hb
  replace hg := hg.next hb
  clear hb
  go_wp2_with fail
  refine (refParse_any ⟨q.toArray⟩ (by show q.length ≤ _; omega) _).mono ?_
  rintro e w' ⟨hb, RE, RO⟩
  replace hg := hg.next hb
  replace hrd := hrd.below hb
  replace hbw := below_chain hbw hbw.size hb
  clear hb
  rw [list_of] at RE RO
  obtain ⟨v2, rfl, hown2⟩ := RO _ HQ.out
  obtain ⟨A2, c2, rfl⟩ := own_slice hown2
  have hrd2 := Rd.of_own hown2
  have hcap2 := own_cap hown2
  clear RE RO hown2
  have hrd3 := fun c' => hrd2.take (k := n + 1) HLE.out c'
  have hlm : (ms.take (n + 1)).length ≤ 1048576 := by rw [List.length_take]; omega
  have hle1 := HLE.out
  clear hrd2 hle
  generalize ms.take (n + 1) = mt at *
  generalize ms.length = M at *
  have hI : ((n : Int) + 1 ≤ (M : Int)) = True := by simp; omega
  have hmin : min ((n : Int) + 1) (M : Int) = (n : Int) + 1 := by omega
  go_wp2_with fail
  refine (texts_any _ _ ts mt _ hrd (hrd3 _) (by omega) (by omega)).mono ?_
  rintro e w' ⟨rfl, hb⟩
  replace hbw := below_chain hbw hbw.size hb
  replace hrd := hrd.below hb
  replace hg := hg.next hb
  clear hb
  go_wp2
  go_ret
  exact ⟨rfl, hbw⟩

set_option maxRecDepth 100000 in
set_option maxHeartbeats 400000 in
theorem moves_some_ok_gt (l t q : List UInt8) (hl : l.length ≤ 1048576) (ht : t.length ≤ 1048576) (hq : q.length ≤ 1048576) (w : World) (hg : Glob w) (ts : List (List UInt8)) (hp : parseS (wrong l) l = .ok ts) (n : Nat) (hn : ts.length = n + 1) (hr : (wrong t).1 = 0) (h6 : n + 1 < 65536) (ms : List (List UInt8)) (hq2 : parseS (wrong q) q = .ok ms) (hle : ms.length < ts.length) :
    Calls Tryd.prog 5 #[.string ⟨l.toArray⟩, .string ⟨t.toArray⟩, .string ⟨q.toArray⟩] w fun e w' => e = .returned (.bool true) ∧ Below w.heap.size w w' := by
  have q1 := err_eq_nil
  have q2 := err_ne_nil
  have hlen0 : ts.length ≤ 65536 := (parse_print hp).2.2
  have hpr := (parse_print hp).2.1
  have hbk : bulkS ts ≤ 1048576 := by
    have := bulk_print ts
    rw [hpr] at this
    omega
  have Hpr := Lib.hid hpr
  have HP := Lib.hid hp
  have hpc : (piece t).length ≤ 2097200 := by
    have := piece_le t
    omega
  have h0 : ts ≠ [] := by
    rintro rfl
    simp at hn
  have HU := upR_ok hp h0
  have hti : n < ts.length := by omega
  have htl : ts.getLast h0 = ts[n] := by
    rw [List.getLast_eq_getElem]
    congr 1
    omega
  rw [htl, drop_take ts hn] at HU
  have HC : ∀ (w : World) (g o c : Nat), Rd w (.slice (some ⟨g, o, none⟩) (n + 1) c) ts → w.cell? ⟨g, o + n, none⟩ = some (.string ⟨ts[n].toArray⟩) := fun w g o c h => h.cellAt hti
  have hbt := bulk_le ts n
  generalize ts[n] = tl at *
  clear htl
  replace HU := Lib.hid HU
  have HD := downR_ok (t := t) hp
  rw [if_pos hr] at HD
  rw [if_pos (by omega)] at HD
  replace HD := Lib.hid HD
  have HW := withR_ok hp hq2
  rw [prefix_long hle] at HW
  replace HW := Lib.hid HW
  have hm0 : ms.length ≤ 65536 := (parse_print hq2).2.2
  have HQ := Lib.hid hq2
  have HE8 : Hid (((n : Int) + 1 == 65536) = false) := Lib.hid (by rw [beq_eq_false_iff_ne]; omega)
  clear hp hq2 hpr
  have HR := decide_eq_true hr
  clear hr
  have hl7 : ts.length ≤ 1048576 := by omega
  clear h6
  clear hlen0
  have hm7 : ms.length ≤ 1048576 := by omega
  clear hm0
  go_enter Tryd.func5, Tryd.ntmps5
  go_wp2_with fail
  refine (refParse_any ⟨l.toArray⟩ (by show l.length ≤ _; omega) _).mono ?_
  rintro e w1 ⟨hb1, _, HO⟩
  rw [list_of] at HO
  obtain ⟨v, rfl, hown⟩ := HO _ HP.out
  replace hg := hg.next hb1
  have hbw := hb1
  obtain ⟨A, c, rfl⟩ := own_slice hown
  have hrd := Rd.of_own hown
  have hcap := own_cap hown
  clear hb1 HO hown
  obtain ⟨g, o, rfl⟩ : ∃ g o, A = some ⟨g, o, none⟩ := by
    obtain ⟨A', c', e, hc⟩ := hrd
    injection e with e1 _ _
    subst e1
    obtain ⟨g, o, h1, _⟩ := hc n hti
    exact ⟨g, o, h1⟩
  rw [hn] at hrd hcap ⊢
  clear hti
  have e6 : ((n : Int) + 1 - 1) = (n : Int) := by omega
  have e7 : n ≤ 1048576 := by omega
  go_wp2_with fail
  refine (up_any l (by omega) _ hg).mono ?_
  rintro e w' ⟨hb, UE, UO⟩
  replace hg := hg.next hb
  replace hrd := hrd.below hb
  replace hbw := below_chain hbw hbw.size hb
  clear hb
  obtain rfl := UO _ HU.out
  clear UE UO
  go_wp2_with fail
  refine (down_any l t (by omega) (by omega) _ hg).mono ?_
  rintro e w' ⟨hb, UE, UO⟩
  replace hg := hg.next hb
  replace hrd := hrd.below hb
  replace hbw := below_chain hbw hbw.size hb
  clear hb
  obtain rfl := UO _ HD.out
  clear UE UO
  rw [← mk_append2]
  go_wp2_with fail
  refine (within_any l q (by omega) (by omega) _ hg).mono ?_
  rintro e w' ⟨hb, UE, UO⟩
  replace hg := hg.next hb
  replace hrd := hrd.below hb
  replace hbw := below_chain hbw hbw.size hb
  clear hb
  obtain rfl := UO _ HW.out
  clear UE UO
  go_wp2_with fail
  refine (wakes_any _ hg).mono ?_
  rintro e w' ⟨rfl, hb⟩
  replace hbw := below_chain hbw hbw.size hb
  replace hrd := hrd.below hb
  replace hg := hg.next hb
  clear hb
  have hrdD := fun c' => hrd.take (k := n) (by omega) c'
  have hcell := HC _ _ _ _ hrd
  go_wp2_with fail
  refine (refPrint_any _ (ts.take n) _ (hrdD _) (by omega)).mono ?_
  rintro e w' ⟨rfl, hb⟩
  replace hbw := below_chain hbw hbw.size hb
  replace hrd := hrd.below hb
  replace hg := hg.next hb
  clear hb
  clear hcell hrdD
  have hcell := HC _ _ _ _ hrd
  go_wp2_with fail
  refine (refRight_any ⟨t.toArray⟩ (by show t.length ≤ _; omega) _).mono ?_
  rintro e w' ⟨rfl, rfl⟩
  rw [list_of, rightR, HR]
  have e8 : ((n : Int) + 1 == 65536) = false := HE8.out
  go_wp2_with fail
  refine (refPrint_any _ ts _ hrd (by omega)).mono ?_
  rintro e w' ⟨rfl, hb⟩
  replace hbw := below_chain hbw hbw.size hb
  replace hrd := hrd.below hb
  replace hg := hg.next hb
  clear hb
  rw [Hpr.out]
  go_wp2_with fail
  refine (refPiece_any t (by omega) _).mono ?_
  rintro e w' ⟨rfl, hb⟩
  replace hbw := below_chain hbw hbw.size hb
  replace hrd := hrd.below hb
  replace hg := hg.next hb
  clear hb
  go_wp2_with fail
  refine (refParse_any ⟨q.toArray⟩ (by show q.length ≤ _; omega) _).mono ?_
  rintro e w' ⟨hb, RE, RO⟩
  replace hg := hg.next hb
  replace hrd := hrd.below hb
  replace hbw := below_chain hbw hbw.size hb
  clear hb
  rw [list_of] at RE RO
  obtain ⟨v2, rfl, hown2⟩ := RO _ HQ.out
  obtain ⟨A2, c2, rfl⟩ := own_slice hown2
  have hrd2 := Rd.of_own hown2
  have hcap2 := own_cap hown2
  clear RE RO hown2
  go_wp2
  go_ret
  exact ⟨rfl, hbw⟩


theorem moves_any (l t q : List UInt8) (hl : l.length ≤ 1048576) (ht : t.length ≤ 1048576) (hq : q.length ≤ 1048576) (w : World) (hg : Glob w) :
    Calls Tryd.prog 5 #[.string ⟨l.toArray⟩, .string ⟨t.toArray⟩, .string ⟨q.toArray⟩] w fun e w' => e = .returned (.bool true) ∧ Below w.heap.size w w' := by
  cases hp : parseS (wrong l) l with
  | error x => exact moves_err l t q hl ht hq w hg x hp
  | ok ts =>
    have HQ : (∃ m b, parseS (wrong q) q = .error (m, b)) ∨ ∃ ms, parseS (wrong q) q = .ok ms := by
      cases parseS (wrong q) q with
      | error x => exact .inl ⟨x.1, x.2, rfl⟩
      | ok ms => exact .inr ⟨ms, rfl⟩
    have hlen0 : ts.length ≤ 65536 := (parse_print hp).2.2
    by_cases hts : ts = []
    · by_cases hr : (wrong t).1 = 0
      ·
        rcases HQ with ⟨m, b, hq2⟩ | ⟨ms, hq2⟩
        · exact moves_none_ok_err l t q hl ht hq w hg ts hp hts hr m b hq2
        · by_cases hle : ts.length ≤ ms.length
          · exact moves_none_ok_le l t q hl ht hq w hg ts hp hts hr ms hq2 hle
          · exact absurd (by rw [hts]; exact Nat.zero_le _) hle
      ·
        rcases HQ with ⟨m, b, hq2⟩ | ⟨ms, hq2⟩
        · exact moves_none_bad_err l t q hl ht hq w hg ts hp hts hr m b hq2
        · by_cases hle : ts.length ≤ ms.length
          · exact moves_none_bad_le l t q hl ht hq w hg ts hp hts hr ms hq2 hle
          · exact absurd (by rw [hts]; exact Nat.zero_le _) hle
    · obtain ⟨n, hn⟩ : ∃ n, ts.length = n + 1 := ⟨ts.length - 1, by have : ts.length ≠ 0 := fun h => hts (List.length_eq_zero_iff.1 h); omega⟩
      by_cases hr : (wrong t).1 = 0
      · by_cases h6 : n + 1 = 65536
        ·
          rcases HQ with ⟨m, b, hq2⟩ | ⟨ms, hq2⟩
          · exact moves_some_long_err l t q hl ht hq w hg ts hp n hn hr h6 m b hq2
          · by_cases hle : ts.length ≤ ms.length
            · exact moves_some_long_le l t q hl ht hq w hg ts hp n hn hr h6 ms hq2 hle
            · exact moves_some_long_gt l t q hl ht hq w hg ts hp n hn hr h6 ms hq2 (Nat.lt_of_not_le hle)
        · have h6 : n + 1 < 65536 := by omega
          rcases HQ with ⟨m, b, hq2⟩ | ⟨ms, hq2⟩
          · exact moves_some_ok_err l t q hl ht hq w hg ts hp n hn hr h6 m b hq2
          · by_cases hle : ts.length ≤ ms.length
            · exact moves_some_ok_le l t q hl ht hq w hg ts hp n hn hr h6 ms hq2 hle
            · exact moves_some_ok_gt l t q hl ht hq w hg ts hp n hn hr h6 ms hq2 (Nat.lt_of_not_le hle)
      ·
        rcases HQ with ⟨m, b, hq2⟩ | ⟨ms, hq2⟩
        · exact moves_some_bad_err l t q hl ht hq w hg ts hp n hn hr m b hq2
        · by_cases hle : ts.length ≤ ms.length
          · exact moves_some_bad_le l t q hl ht hq w hg ts hp n hn hr ms hq2 hle
          · exact moves_some_bad_gt l t q hl ht hq w hg ts hp n hn hr ms hq2 (Nat.lt_of_not_le hle)
end Go.Proofs.YtnldkbgbgngjjaaDoor
