/-
  Walk of the statement PointerBack (printed by wip/gen_back.py).
-/
import Derived.Test.YtnldkbgbgngjjaaDoorTokC
import Derived.Test.YtnldkbgbgngjjaaDoorMoves
namespace Go.Proofs.YtnldkbgbgngjjaaDoor
open Go.RowKit Mem Utf Ref3 Tok
set_option linter.unusedVariables false
theorem errV_held (n a : Int) : ∃ T x, errV n a = .iface T x := by
  unfold errV
  split
  · exact ⟨_, _, rfl⟩
  · exact ⟨_, _, rfl⟩
/-- down and up again -/
theorem down_cases {l t r : List UInt8} (h : downR l t = .ok r) : ∃ ts, parseS (wrong l) l = .ok ts ∧ (wrong t).1 = 0 ∧ ts.length < 65536 ∧ r = l ++ piece t := by
  unfold downR at h
  cases hp : parseS (wrong l) l with
  | error x =>
    rw [hp] at h
    cases h
  | ok ts =>
    rw [hp] at h
    simp only [] at h
    by_cases hr : (wrong t).1 = 0
    · rw [if_pos hr] at h
      by_cases hl : ts.length < 65536
      · rw [if_pos hl] at h
        injection h with h
        exact ⟨ts, rfl, hr, hl, h.symm⟩
      · rw [if_neg hl] at h
        cases h
    · rw [if_neg hr] at h
      cases h
theorem down_parse {l t r : List UInt8} {ts : List (List UInt8)} (hp : parseS (wrong l) l = .ok ts) (h : downR l t = .ok r) : parseS (wrong r) r = .ok (ts ++ [t]) := by
  obtain ⟨ts', hp', hr, hl, rfl⟩ := down_cases h
  rw [hp] at hp'
  injection hp' with hp'
  subst hp'
  obtain ⟨h1, h2, h3⟩ := parse_print hp
  have e : printS (ts ++ [t]) = l ++ piece t := by
    unfold printS at h2 ⊢
    rw [List.flatMap_append, h2]
    simp
  rw [← e]
  refine parse_of_print ?_ (by simp; omega)
  refine (TokC.right_print _).2 fun u hu => ?_
  rcases List.mem_append.1 hu with hu | hu
  · exact (TokC.parse_back hp).2 u hu
  · rw [List.mem_singleton.1 hu]
    exact hr
theorem down_up {l t r : List UInt8} {ts : List (List UInt8)} (hp : parseS (wrong l) l = .ok ts) (h : downR l t = .ok r) : upR r = .ok (l, t) := by
  rw [upR_ok (down_parse hp h) (by simp)]
  simp [(parse_print hp).2.1]
theorem down_in {l t r : List UInt8} {ts : List (List UInt8)} (hp : parseS (wrong l) l = .ok ts) (h : downR l t = .ok r) : withR l r = .ok true := by
  rw [withR_ok hp (down_parse hp h)]
  congr 1
  rw [List.isPrefixOf_iff_prefix]
  exact ⟨[t], rfl⟩
theorem down_out {l t r : List UInt8} {ts : List (List UInt8)} (hp : parseS (wrong l) l = .ok ts) (h : downR l t = .ok r) : withR r l = .ok false := by
  rw [withR_ok (down_parse hp h) hp, prefix_long (by simp)]
theorem down_len {l t r : List UInt8} (h : downR l t = .ok r) : r.length ≤ l.length + (2 * t.length + 1) := by
  obtain ⟨_, _, _, _, rfl⟩ := down_cases h
  rw [List.length_append]
  have := piece_le t
  omega
theorem print_code {w : List UInt8 → Int × Int} {ts : List (List UInt8)} {x : Int × Int} (h : printR w ts = .error x) : x.1 = 3 ∨ x.1 = 100 := by
  unfold printR at h
  by_cases hl : 65536 < ts.length
  · rw [if_pos hl] at h
    injection h with h
    rw [← h]
    exact .inl rfl
  · rw [if_neg hl] at h
    cases hb : badI w ts 0 with
    | some i =>
      rw [hb] at h
      injection h with h
      rw [← h]
      exact .inr rfl
    | none =>
      rw [hb] at h
      cases h

set_option maxRecDepth 100000 in
set_option maxHeartbeats 400000 in
theorem back_err_err (A : Option Addr) (c : Nat) (tk : List (List UInt8)) (l t : List UInt8) (w : World) (htk : Rd w (.slice A tk.length c) tk) (hbk : bulkS tk ≤ 1048576) (hl : l.length ≤ 1048576) (ht : t.length ≤ 1048576) (hg : Glob w) (n a : Int) (h1 : printR wrong tk = .error (n, a)) (m b : Int) (h2 : parseS (wrong l) l = .error (m, b)) :
    Calls Tryd.prog 6 #[.slice A tk.length c, .string ⟨l.toArray⟩, .string ⟨t.toArray⟩] w fun e w' => e = .returned (.bool true) ∧ Below w.heap.size w w' := by
  have q1 := err_eq_nil
  have q2 := err_ne_nil
  have q3 := err_eq_held
  have q4 := err_ne_held
  have hlen := bulk_len tk
  have hbw : Below w.heap.size w w := Below.refl _ _
  have hn1 : (n != 0) = true := by
    have := print_code h1
    rw [bne_iff_ne]
    simp only [] at this
    omega
  have H1 := Lib.hid h1
  clear h1
  have hm1 : (m != 0) = true := by
    have := parse_code h2
    rw [bne_iff_ne]
    simp only [] at this
    omega
  have H2 := Lib.hid h2
  clear h2
  go_enter Tryd.func6, Tryd.ntmps6
  go_wp2_with fail
  refine (print_any _ tk _ htk (by omega) hg).mono ?_
  rintro e w' ⟨hb, HE, _⟩
  replace hg := hg.next hb
  replace htk := htk.below hb
  replace hbw := below_chain hbw hbw.size hb
  clear hb
  obtain rfl := HE _ H1.out
  clear HE
  simp only []
  obtain ⟨T1, x1, he1⟩ := errV_held n a
  rw [he1]
  clear he1
  go_wp2_with fail
  refine (parse_any ⟨l.toArray⟩ (by show l.length ≤ _; omega) _ hg).mono ?_
  rintro e w' ⟨hb, HE, _⟩
  replace hg := hg.next hb
  replace htk := htk.below hb
  replace hbw := below_chain hbw hbw.size hb
  clear hb
  rw [list_of] at HE
  obtain rfl := HE _ H2.out
  clear HE
  simp only []
  obtain ⟨T2, x2, he2⟩ := errV_held m b
  rw [he2]
  clear he2
  go_wp2_with fail
  refine (wakes_any _ hg).mono ?_
  rintro e w' ⟨rfl, hb⟩
  replace hbw := below_chain hbw hbw.size hb
  clear hb
  go_wp2
  go_ret
  exact ⟨rfl, hbw⟩

set_option maxRecDepth 100000 in
set_option maxHeartbeats 400000 in
theorem back_err_no (A : Option Addr) (c : Nat) (tk : List (List UInt8)) (l t : List UInt8) (w : World) (htk : Rd w (.slice A tk.length c) tk) (hbk : bulkS tk ≤ 1048576) (hl : l.length ≤ 1048576) (ht : t.length ≤ 1048576) (hg : Glob w) (n a : Int) (h1 : printR wrong tk = .error (n, a)) (ts : List (List UInt8)) (h2 : parseS (wrong l) l = .ok ts) (m b : Int) (h3 : downR l t = .error (m, b)) :
    Calls Tryd.prog 6 #[.slice A tk.length c, .string ⟨l.toArray⟩, .string ⟨t.toArray⟩] w fun e w' => e = .returned (.bool true) ∧ Below w.heap.size w w' := by
  have q1 := err_eq_nil
  have q2 := err_ne_nil
  have q3 := err_eq_held
  have q4 := err_ne_held
  have hlen := bulk_len tk
  have hbw : Below w.heap.size w w := Below.refl _ _
  have hn1 : (n != 0) = true := by
    have := print_code h1
    rw [bne_iff_ne]
    simp only [] at this
    omega
  have H1 := Lib.hid h1
  clear h1
  have H2 := Lib.hid h2
  have HQ := Lib.hid (TokC.parse_back h2).1
  have hlt : ts.length ≤ 1048576 := by have := (parse_print h2).2.2; omega
  have hbt : bulkS ts ≤ 1048576 := by
    have := bulk_print ts
    rw [(parse_print h2).2.1] at this
    omega
  have H3 := Lib.hid h3
  have hm1 : (m != 0) = true := by
    rw [bne_iff_ne]
    rw [downR_ok h2] at h3
    split at h3
    · split at h3
      · cases h3
      · injection h3 with h3
        injection h3 with h3
        omega
    · injection h3 with h3
      injection h3 with h3
      omega
  clear h2 h3
  go_enter Tryd.func6, Tryd.ntmps6
  go_wp2_with fail
  refine (print_any _ tk _ htk (by omega) hg).mono ?_
  rintro e w' ⟨hb, HE, _⟩
  replace hg := hg.next hb
  replace htk := htk.below hb
  replace hbw := below_chain hbw hbw.size hb
  clear hb
  obtain rfl := HE _ H1.out
  clear HE
  simp only []
  obtain ⟨T1, x1, he1⟩ := errV_held n a
  rw [he1]
  clear he1
  go_wp2_with fail
  refine (parse_any ⟨l.toArray⟩ (by show l.length ≤ _; omega) _ hg).mono ?_
  rintro e w' ⟨hb, _, HP⟩
  replace hg := hg.next hb
  replace htk := htk.below hb
  replace hbw := below_chain hbw hbw.size hb
  clear hb
  rw [list_of] at HP
  obtain ⟨v, rfl, hown⟩ := HP _ H2.out
  have hrd := Rd.of_own hown
  obtain ⟨A2, c2, rfl⟩ := own_slice hown
  clear HP hown
  have hs1 : (!l == l) = false := by simp
  go_wp2_with fail
  refine (print_any _ ts _ hrd (by omega) hg).mono ?_
  rintro e w' ⟨hb, _, HP⟩
  replace hg := hg.next hb
  replace htk := htk.below hb
  replace hbw := below_chain hbw hbw.size hb
  clear hb
  obtain rfl := HP _ HQ.out
  clear HP hrd
  go_wp2_with fail
  refine (down_any l t (by omega) (by omega) _ hg).mono ?_
  rintro e w' ⟨hb, HE, _⟩
  replace hg := hg.next hb
  replace htk := htk.below hb
  replace hbw := below_chain hbw hbw.size hb
  clear hb
  obtain rfl := HE _ H3.out
  clear HE
  simp only []
  obtain ⟨T2, x2, he2⟩ := errV_held m b
  rw [he2]
  clear he2
  go_wp2_with fail
  refine (wakes_any _ hg).mono ?_
  rintro e w' ⟨rfl, hb⟩
  replace hbw := below_chain hbw hbw.size hb
  clear hb
  go_wp2
  go_ret
  exact ⟨rfl, hbw⟩

set_option maxRecDepth 100000 in
set_option maxHeartbeats 400000 in
theorem back_err_yes (A : Option Addr) (c : Nat) (tk : List (List UInt8)) (l t : List UInt8) (w : World) (htk : Rd w (.slice A tk.length c) tk) (hbk : bulkS tk ≤ 1048576) (hl : l.length ≤ 1048576) (ht : t.length ≤ 1048576) (hg : Glob w) (n a : Int) (h1 : printR wrong tk = .error (n, a)) (ts : List (List UInt8)) (h2 : parseS (wrong l) l = .ok ts) (d : List UInt8) (h3 : downR l t = .ok d) :
    Calls Tryd.prog 6 #[.slice A tk.length c, .string ⟨l.toArray⟩, .string ⟨t.toArray⟩] w fun e w' => e = .returned (.bool true) ∧ Below w.heap.size w w' := by
  have q1 := err_eq_nil
  have q2 := err_ne_nil
  have q3 := err_eq_held
  have q4 := err_ne_held
  have hlen := bulk_len tk
  have hbw : Below w.heap.size w w := Below.refl _ _
  have hn1 : (n != 0) = true := by
    have := print_code h1
    rw [bne_iff_ne]
    simp only [] at this
    omega
  have H1 := Lib.hid h1
  clear h1
  have H2 := Lib.hid h2
  have HQ := Lib.hid (TokC.parse_back h2).1
  have hlt : ts.length ≤ 1048576 := by have := (parse_print h2).2.2; omega
  have hbt : bulkS ts ≤ 1048576 := by
    have := bulk_print ts
    rw [(parse_print h2).2.1] at this
    omega
  have H3 := Lib.hid h3
  have HU := Lib.hid (down_up h2 h3)
  have HI := Lib.hid (down_in h2 h3)
  have HO := Lib.hid (down_out h2 h3)
  have hdl : d.length ≤ 4194304 := by have := down_len h3; omega
  clear h2 h3
  go_enter Tryd.func6, Tryd.ntmps6
  go_wp2_with fail
  refine (print_any _ tk _ htk (by omega) hg).mono ?_
  rintro e w' ⟨hb, HE, _⟩
  replace hg := hg.next hb
  replace htk := htk.below hb
  replace hbw := below_chain hbw hbw.size hb
  clear hb
  obtain rfl := HE _ H1.out
  clear HE
  simp only []
  obtain ⟨T1, x1, he1⟩ := errV_held n a
  rw [he1]
  clear he1
  go_wp2_with fail
  refine (parse_any ⟨l.toArray⟩ (by show l.length ≤ _; omega) _ hg).mono ?_
  rintro e w' ⟨hb, _, HP⟩
  replace hg := hg.next hb
  replace htk := htk.below hb
  replace hbw := below_chain hbw hbw.size hb
  clear hb
  rw [list_of] at HP
  obtain ⟨v, rfl, hown⟩ := HP _ H2.out
  have hrd := Rd.of_own hown
  obtain ⟨A2, c2, rfl⟩ := own_slice hown
  clear HP hown
  have hs1 : (!l == l) = false := by simp
  go_wp2_with fail
  refine (print_any _ ts _ hrd (by omega) hg).mono ?_
  rintro e w' ⟨hb, _, HP⟩
  replace hg := hg.next hb
  replace htk := htk.below hb
  replace hbw := below_chain hbw hbw.size hb
  clear hb
  obtain rfl := HP _ HQ.out
  clear HP hrd
  go_wp2_with fail
  refine (down_any l t (by omega) (by omega) _ hg).mono ?_
  rintro e w' ⟨hb, _, HP⟩
  replace hg := hg.next hb
  replace htk := htk.below hb
  replace hbw := below_chain hbw hbw.size hb
  clear hb
  obtain rfl := HP _ H3.out
  clear HP
  go_wp2_with fail
  refine (up_any d (by omega) _ hg).mono ?_
  rintro e w' ⟨hb, _, HP⟩
  replace hg := hg.next hb
  replace htk := htk.below hb
  replace hbw := below_chain hbw hbw.size hb
  clear hb
  obtain rfl := HP _ HU.out
  clear HP
  simp only []
  go_wp2_with fail
  refine (within_any l d (by omega) (by omega) _ hg).mono ?_
  rintro e w' ⟨hb, _, HP⟩
  replace hg := hg.next hb
  replace htk := htk.below hb
  replace hbw := below_chain hbw hbw.size hb
  clear hb
  obtain rfl := HP _ HI.out
  clear HP
  go_wp2_with fail
  refine (within_any d l (by omega) (by omega) _ hg).mono ?_
  rintro e w' ⟨hb, _, HP⟩
  replace hg := hg.next hb
  replace htk := htk.below hb
  replace hbw := below_chain hbw hbw.size hb
  clear hb
  obtain rfl := HP _ HO.out
  clear HP
  have hs2 : (!t == t) = false := by simp
  go_wp2_with fail
  refine (wakes_any _ hg).mono ?_
  rintro e w' ⟨rfl, hb⟩
  replace hbw := below_chain hbw hbw.size hb
  clear hb
  go_wp2
  go_ret
  exact ⟨rfl, hbw⟩

set_option maxRecDepth 100000 in
set_option maxHeartbeats 400000 in
theorem back_ok_err (A : Option Addr) (c : Nat) (tk : List (List UInt8)) (l t : List UInt8) (w : World) (htk : Rd w (.slice A tk.length c) tk) (hbk : bulkS tk ≤ 1048576) (hl : l.length ≤ 1048576) (ht : t.length ≤ 1048576) (hg : Glob w) (pl : List UInt8) (h1 : printR wrong tk = .ok pl) (m b : Int) (h2 : parseS (wrong l) l = .error (m, b)) :
    Calls Tryd.prog 6 #[.slice A tk.length c, .string ⟨l.toArray⟩, .string ⟨t.toArray⟩] w fun e w' => e = .returned (.bool true) ∧ Below w.heap.size w w' := by
  have q1 := err_eq_nil
  have q2 := err_ne_nil
  have q3 := err_eq_held
  have q4 := err_ne_held
  have hlen := bulk_len tk
  have hbw : Below w.heap.size w w := Below.refl _ _
  have H1 := Lib.hid h1
  have HB := Lib.hid (TokC.print_back h1).2.2
  have hpl : pl.length ≤ 2097152 := by
    have := print_le tk
    rw [(TokC.print_back h1).1]
    omega
  clear h1
  have hm1 : (m != 0) = true := by
    have := parse_code h2
    rw [bne_iff_ne]
    simp only [] at this
    omega
  have H2 := Lib.hid h2
  clear h2
  go_enter Tryd.func6, Tryd.ntmps6
  go_wp2_with fail
  refine (print_any _ tk _ htk (by omega) hg).mono ?_
  rintro e w' ⟨hb, _, HP⟩
  replace hg := hg.next hb
  replace htk := htk.below hb
  replace hbw := below_chain hbw hbw.size hb
  clear hb
  obtain rfl := HP _ H1.out
  clear HP
  go_wp2_with fail
  refine (parse_any ⟨pl.toArray⟩ (by show pl.length ≤ _; omega) _ hg).mono ?_
  rintro e w' ⟨hb, _, HP⟩
  replace hg := hg.next hb
  replace htk := htk.below hb
  replace hbw := below_chain hbw hbw.size hb
  clear hb
  rw [list_of] at HP
  obtain ⟨v, rfl, hown⟩ := HP _ HB.out
  have hrd := Rd.of_own hown
  obtain ⟨A1, c1, rfl⟩ := own_slice hown
  clear HP hown
  go_wp2_with fail
  refine (texts_any _ _ tk tk _ hrd htk (by omega) (by omega)).mono ?_
  rintro e w' ⟨rfl, hb⟩
  replace hg := hg.next hb
  replace htk := htk.below hb
  replace hbw := below_chain hbw hbw.size hb
  clear hb
  rw [decide_eq_true rfl]
  clear hrd
  go_wp2_with fail
  refine (parse_any ⟨l.toArray⟩ (by show l.length ≤ _; omega) _ hg).mono ?_
  rintro e w' ⟨hb, HE, _⟩
  replace hg := hg.next hb
  replace htk := htk.below hb
  replace hbw := below_chain hbw hbw.size hb
  clear hb
  rw [list_of] at HE
  obtain rfl := HE _ H2.out
  clear HE
  simp only []
  obtain ⟨T2, x2, he2⟩ := errV_held m b
  rw [he2]
  clear he2
  go_wp2_with fail
  refine (wakes_any _ hg).mono ?_
  rintro e w' ⟨rfl, hb⟩
  replace hbw := below_chain hbw hbw.size hb
  clear hb
  go_wp2
  go_ret
  exact ⟨rfl, hbw⟩

set_option maxRecDepth 100000 in
set_option maxHeartbeats 400000 in
theorem back_ok_no (A : Option Addr) (c : Nat) (tk : List (List UInt8)) (l t : List UInt8) (w : World) (htk : Rd w (.slice A tk.length c) tk) (hbk : bulkS tk ≤ 1048576) (hl : l.length ≤ 1048576) (ht : t.length ≤ 1048576) (hg : Glob w) (pl : List UInt8) (h1 : printR wrong tk = .ok pl) (ts : List (List UInt8)) (h2 : parseS (wrong l) l = .ok ts) (m b : Int) (h3 : downR l t = .error (m, b)) :
    Calls Tryd.prog 6 #[.slice A tk.length c, .string ⟨l.toArray⟩, .string ⟨t.toArray⟩] w fun e w' => e = .returned (.bool true) ∧ Below w.heap.size w w' := by
  have q1 := err_eq_nil
  have q2 := err_ne_nil
  have q3 := err_eq_held
  have q4 := err_ne_held
  have hlen := bulk_len tk
  have hbw : Below w.heap.size w w := Below.refl _ _
  have H1 := Lib.hid h1
  have HB := Lib.hid (TokC.print_back h1).2.2
  have hpl : pl.length ≤ 2097152 := by
    have := print_le tk
    rw [(TokC.print_back h1).1]
    omega
  clear h1
  have H2 := Lib.hid h2
  have HQ := Lib.hid (TokC.parse_back h2).1
  have hlt : ts.length ≤ 1048576 := by have := (parse_print h2).2.2; omega
  have hbt : bulkS ts ≤ 1048576 := by
    have := bulk_print ts
    rw [(parse_print h2).2.1] at this
    omega
  have H3 := Lib.hid h3
  have hm1 : (m != 0) = true := by
    rw [bne_iff_ne]
    rw [downR_ok h2] at h3
    split at h3
    · split at h3
      · cases h3
      · injection h3 with h3
        injection h3 with h3
        omega
    · injection h3 with h3
      injection h3 with h3
      omega
  clear h2 h3
  go_enter Tryd.func6, Tryd.ntmps6
  go_wp2_with fail
  refine (print_any _ tk _ htk (by omega) hg).mono ?_
  rintro e w' ⟨hb, _, HP⟩
  replace hg := hg.next hb
  replace htk := htk.below hb
  replace hbw := below_chain hbw hbw.size hb
  clear hb
  obtain rfl := HP _ H1.out
  clear HP
  go_wp2_with fail
  refine (parse_any ⟨pl.toArray⟩ (by show pl.length ≤ _; omega) _ hg).mono ?_
  rintro e w' ⟨hb, _, HP⟩
  replace hg := hg.next hb
  replace htk := htk.below hb
  replace hbw := below_chain hbw hbw.size hb
  clear hb
  rw [list_of] at HP
  obtain ⟨v, rfl, hown⟩ := HP _ HB.out
  have hrd := Rd.of_own hown
  obtain ⟨A1, c1, rfl⟩ := own_slice hown
  clear HP hown
  go_wp2_with fail
  refine (texts_any _ _ tk tk _ hrd htk (by omega) (by omega)).mono ?_
  rintro e w' ⟨rfl, hb⟩
  replace hg := hg.next hb
  replace htk := htk.below hb
  replace hbw := below_chain hbw hbw.size hb
  clear hb
  rw [decide_eq_true rfl]
  clear hrd
  go_wp2_with fail
  refine (parse_any ⟨l.toArray⟩ (by show l.length ≤ _; omega) _ hg).mono ?_
  rintro e w' ⟨hb, _, HP⟩
  replace hg := hg.next hb
  replace htk := htk.below hb
  replace hbw := below_chain hbw hbw.size hb
  clear hb
  rw [list_of] at HP
  obtain ⟨v, rfl, hown⟩ := HP _ H2.out
  have hrd := Rd.of_own hown
  obtain ⟨A2, c2, rfl⟩ := own_slice hown
  clear HP hown
  have hs1 : (!l == l) = false := by simp
  go_wp2_with fail
  refine (print_any _ ts _ hrd (by omega) hg).mono ?_
  rintro e w' ⟨hb, _, HP⟩
  replace hg := hg.next hb
  replace htk := htk.below hb
  replace hbw := below_chain hbw hbw.size hb
  clear hb
  obtain rfl := HP _ HQ.out
  clear HP hrd
  go_wp2_with fail
  refine (down_any l t (by omega) (by omega) _ hg).mono ?_
  rintro e w' ⟨hb, HE, _⟩
  replace hg := hg.next hb
  replace htk := htk.below hb
  replace hbw := below_chain hbw hbw.size hb
  clear hb
  obtain rfl := HE _ H3.out
  clear HE
  simp only []
  obtain ⟨T2, x2, he2⟩ := errV_held m b
  rw [he2]
  clear he2
  go_wp2_with fail
  refine (wakes_any _ hg).mono ?_
  rintro e w' ⟨rfl, hb⟩
  replace hbw := below_chain hbw hbw.size hb
  clear hb
  go_wp2
  go_ret
  exact ⟨rfl, hbw⟩

set_option maxRecDepth 100000 in
set_option maxHeartbeats 400000 in
theorem back_ok_yes (A : Option Addr) (c : Nat) (tk : List (List UInt8)) (l t : List UInt8) (w : World) (htk : Rd w (.slice A tk.length c) tk) (hbk : bulkS tk ≤ 1048576) (hl : l.length ≤ 1048576) (ht : t.length ≤ 1048576) (hg : Glob w) (pl : List UInt8) (h1 : printR wrong tk = .ok pl) (ts : List (List UInt8)) (h2 : parseS (wrong l) l = .ok ts) (d : List UInt8) (h3 : downR l t = .ok d) :
    Calls Tryd.prog 6 #[.slice A tk.length c, .string ⟨l.toArray⟩, .string ⟨t.toArray⟩] w fun e w' => e = .returned (.bool true) ∧ Below w.heap.size w w' := by
  have q1 := err_eq_nil
  have q2 := err_ne_nil
  have q3 := err_eq_held
  have q4 := err_ne_held
  have hlen := bulk_len tk
  have hbw : Below w.heap.size w w := Below.refl _ _
  have H1 := Lib.hid h1
  have HB := Lib.hid (TokC.print_back h1).2.2
  have hpl : pl.length ≤ 2097152 := by
    have := print_le tk
    rw [(TokC.print_back h1).1]
    omega
  clear h1
  have H2 := Lib.hid h2
  have HQ := Lib.hid (TokC.parse_back h2).1
  have hlt : ts.length ≤ 1048576 := by have := (parse_print h2).2.2; omega
  have hbt : bulkS ts ≤ 1048576 := by
    have := bulk_print ts
    rw [(parse_print h2).2.1] at this
    omega
  have H3 := Lib.hid h3
  have HU := Lib.hid (down_up h2 h3)
  have HI := Lib.hid (down_in h2 h3)
  have HO := Lib.hid (down_out h2 h3)
  have hdl : d.length ≤ 4194304 := by have := down_len h3; omega
  clear h2 h3
  go_enter Tryd.func6, Tryd.ntmps6
  go_wp2_with fail
  refine (print_any _ tk _ htk (by omega) hg).mono ?_
  rintro e w' ⟨hb, _, HP⟩
  replace hg := hg.next hb
  replace htk := htk.below hb
  replace hbw := below_chain hbw hbw.size hb
  clear hb
  obtain rfl := HP _ H1.out
  clear HP
  go_wp2_with fail
  refine (parse_any ⟨pl.toArray⟩ (by show pl.length ≤ _; omega) _ hg).mono ?_
  rintro e w' ⟨hb, _, HP⟩
  replace hg := hg.next hb
  replace htk := htk.below hb
  replace hbw := below_chain hbw hbw.size hb
  clear hb
  rw [list_of] at HP
  obtain ⟨v, rfl, hown⟩ := HP _ HB.out
  have hrd := Rd.of_own hown
  obtain ⟨A1, c1, rfl⟩ := own_slice hown
  clear HP hown
  go_wp2_with fail
  refine (texts_any _ _ tk tk _ hrd htk (by omega) (by omega)).mono ?_
  rintro e w' ⟨rfl, hb⟩
  replace hg := hg.next hb
  replace htk := htk.below hb
  replace hbw := below_chain hbw hbw.size hb
  clear hb
  rw [decide_eq_true rfl]
  clear hrd
  go_wp2_with fail
  refine (parse_any ⟨l.toArray⟩ (by show l.length ≤ _; omega) _ hg).mono ?_
  rintro e w' ⟨hb, _, HP⟩
  replace hg := hg.next hb
  replace htk := htk.below hb
  replace hbw := below_chain hbw hbw.size hb
  clear hb
  rw [list_of] at HP
  obtain ⟨v, rfl, hown⟩ := HP _ H2.out
  have hrd := Rd.of_own hown
  obtain ⟨A2, c2, rfl⟩ := own_slice hown
  clear HP hown
  have hs1 : (!l == l) = false := by simp
  go_wp2_with fail
  refine (print_any _ ts _ hrd (by omega) hg).mono ?_
  rintro e w' ⟨hb, _, HP⟩
  replace hg := hg.next hb
  replace htk := htk.below hb
  replace hbw := below_chain hbw hbw.size hb
  clear hb
  obtain rfl := HP _ HQ.out
  clear HP hrd
  go_wp2_with fail
  refine (down_any l t (by omega) (by omega) _ hg).mono ?_
  rintro e w' ⟨hb, _, HP⟩
  replace hg := hg.next hb
  replace htk := htk.below hb
  replace hbw := below_chain hbw hbw.size hb
  clear hb
  obtain rfl := HP _ H3.out
  clear HP
  go_wp2_with fail
  refine (up_any d (by omega) _ hg).mono ?_
  rintro e w' ⟨hb, _, HP⟩
  replace hg := hg.next hb
  replace htk := htk.below hb
  replace hbw := below_chain hbw hbw.size hb
  clear hb
  obtain rfl := HP _ HU.out
  clear HP
  simp only []
  go_wp2_with fail
  refine (within_any l d (by omega) (by omega) _ hg).mono ?_
  rintro e w' ⟨hb, _, HP⟩
  replace hg := hg.next hb
  replace htk := htk.below hb
  replace hbw := below_chain hbw hbw.size hb
  clear hb
  obtain rfl := HP _ HI.out
  clear HP
  go_wp2_with fail
  refine (within_any d l (by omega) (by omega) _ hg).mono ?_
  rintro e w' ⟨hb, _, HP⟩
  replace hg := hg.next hb
  replace htk := htk.below hb
  replace hbw := below_chain hbw hbw.size hb
  clear hb
  obtain rfl := HP _ HO.out
  clear HP
  have hs2 : (!t == t) = false := by simp
  go_wp2_with fail
  refine (wakes_any _ hg).mono ?_
  rintro e w' ⟨rfl, hb⟩
  replace hbw := below_chain hbw hbw.size hb
  clear hb
  go_wp2
  go_ret
  exact ⟨rfl, hbw⟩

theorem back_any (A : Option Addr) (c : Nat) (tk : List (List UInt8)) (l t : List UInt8) (w : World) (htk : Rd w (.slice A tk.length c) tk) (hbk : bulkS tk ≤ 1048576) (hl : l.length ≤ 1048576) (ht : t.length ≤ 1048576) (hg : Glob w) :
    Calls Tryd.prog 6 #[.slice A tk.length c, .string ⟨l.toArray⟩, .string ⟨t.toArray⟩] w fun e w' => e = .returned (.bool true) ∧ Below w.heap.size w w' := by
  have H1 : (∃ n a, printR wrong tk = .error (n, a)) ∨ ∃ pl, printR wrong tk = .ok pl := by
    cases printR wrong tk with
    | error x => exact .inl ⟨x.1, x.2, rfl⟩
    | ok pl => exact .inr ⟨pl, rfl⟩
  have H2 : (∃ m b, parseS (wrong l) l = .error (m, b)) ∨ ∃ ts, parseS (wrong l) l = .ok ts := by
    cases parseS (wrong l) l with
    | error x => exact .inl ⟨x.1, x.2, rfl⟩
    | ok ts => exact .inr ⟨ts, rfl⟩
  have H3 : (∃ m b, downR l t = .error (m, b)) ∨ ∃ d, downR l t = .ok d := by
    cases downR l t with
    | error x => exact .inl ⟨x.1, x.2, rfl⟩
    | ok d => exact .inr ⟨d, rfl⟩
  rcases H1 with ⟨n, a, h1⟩ | ⟨pl, h1⟩
  · rcases H2 with ⟨m, b, h2⟩ | ⟨ts, h2⟩
    · exact back_err_err A c tk l t w htk hbk hl ht hg n a h1 m b h2
    · rcases H3 with ⟨m, b, h3⟩ | ⟨d, h3⟩
      · exact back_err_no A c tk l t w htk hbk hl ht hg n a h1 ts h2 m b h3
      · exact back_err_yes A c tk l t w htk hbk hl ht hg n a h1 ts h2 d h3
  · rcases H2 with ⟨m, b, h2⟩ | ⟨ts, h2⟩
    · exact back_ok_err A c tk l t w htk hbk hl ht hg pl h1 m b h2
    · rcases H3 with ⟨m, b, h3⟩ | ⟨d, h3⟩
      · exact back_ok_no A c tk l t w htk hbk hl ht hg pl h1 ts h2 m b h3
      · exact back_ok_yes A c tk l t w htk hbk hl ht hg pl h1 ts h2 d h3
end Go.Proofs.YtnldkbgbgngjjaaDoor
