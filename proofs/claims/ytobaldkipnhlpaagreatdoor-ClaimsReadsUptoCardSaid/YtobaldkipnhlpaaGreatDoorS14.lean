/-
  Walks of the reference of layer 25: in, right, time, lacking (printed by wip/gen_clm.py).
  Walks of the statements' own functions of layer 25: rules, number, broken, verdict (printed by wip/gen_clq.py).
  Walk of package claims: Worst.
-/
import Derived.Test.YtobaldkipnhlpaaGreatDoorS13
set_option linter.unusedVariables false
set_option linter.unusedSimpArgs false
set_option maxRecDepth 100000
set_option maxHeartbeats 16000000
namespace Go.Proofs.YtobaldkipnhlpaaGreatDoor
open Go.RowKit Mem Utf Ref3 Tok Cl

theorem texts25_any (v1 v2 : Value) (xs ys : List (List UInt8)) (w : World) (h1 : Rd w v1 xs) (h2 : Rd w v2 ys) (hx : xs.length ≤ 140737488355328) (hy : ys.length ≤ 140737488355328) :
  Calls Tryz.prog 27 #[v1, v2] w fun e w' => e = .returned (.bool (decide (xs = ys))) ∧ Below w.heap.size w w' := by
 obtain ⟨A, c, rfl, hA⟩ := h1
 obtain ⟨A', c', rfl, hA'⟩ := h2
 by_cases hlen : xs.length = ys.length
 ·have e0 : ((xs.length : Int) != (ys.length : Int)) = false := by simp [hlen]
  have Hlen := Lib.hid hlen
  have hle : ys.length ≤ xs.length := by omega
  have hle' : xs.length ≤ ys.length := by omega
  clear hlen
  go_enter Tryz.func27, Tryz.ntmps27
  go_wp2
  go_loopw [13] (fun c13 wr => ∃ k q : Nat, k ≤ xs.length ∧ c13 = .int .i64 k ∧ Hid (xs.take k = ys.take k) ∧ wr = w.drewN q) (fun c13 _ => xs.length - (intOf c13).toNat)
  case atStart => exact ⟨0, 0, by omega, rfl, Lib.hid rfl, rfl⟩
  case round =>
   obtain ⟨k, q, hk, rfl, heq, rfl⟩ := hrel
   by_cases hlt : k < xs.length
   ·have hlt' : k < ys.length := by omega
    obtain ⟨g, o, rfl, hg, hcell⟩ := hA k hlt
    obtain ⟨g', o', rfl, hg', hcell'⟩ := hA' k hlt'
    have hs1 : w.cell? ⟨g, o + k, none⟩ = some (.string ⟨xs[k].toArray⟩) := hcell
    have hs2 : w.cell? ⟨g', o' + k, none⟩ = some (.string ⟨ys[k].toArray⟩) := hcell'
    clear hcell hcell' hA hA'
    have hi0 : (0 : Int) ≤ (k : Int) := by omega
    have hi1 : (k : Int) < (xs.length : Int) := by omega
    have hi2 : (k : Int) < (ys.length : Int) := by omega
    by_cases hk2 : xs[k] = ys[k]
    ·have e5 : (!xs[k] == ys[k]) = false := by rw [hk2]; simp
     have HT : Hid (xs.take (k + 1) = ys.take (k + 1)) := Lib.hid (by
      rw [List.take_succ_eq_append_getElem hlt, List.take_succ_eq_append_getElem hlt', heq.out, hk2])
     clear hk2
     go_wp2
     go_quiet (fail)
     go_wp2
     go_roundw
     case rel => exact ⟨k + 1, _, by omega, by go_num, HT, rfl⟩
     case measure => simp [intOf]; omega
    ·have e5 : (!xs[k] == ys[k]) = true := by simpa using hk2
     have H : Hid (¬ xs = ys) := Lib.hid fun e => hk2 (by subst e; rfl)
     clear hk2
     go_wp2
     go_quiet (fail)
     go_wp2
     go_ret
     exact ⟨by rw [decide_eq_false H.out]; rfl, (drewN_below _ _).trans (drewN_below _ _)⟩
   ·obtain rfl : k = xs.length := by omega
    have hres : xs = ys := by
     have := heq.out
     rwa [List.take_length, List.take_of_length_le hle] at this
    have H := Lib.hid hres
    clear hres
    go_wp2
    go_ret
    exact ⟨by rw [decide_eq_true H.out]; rfl, drewN_below _ _⟩
 ·have e0 : ((xs.length : Int) != (ys.length : Int)) = true := by rw [bne_iff_ne]; omega
  have H : Hid (¬ xs = ys) := Lib.hid fun e => hlen (by rw [e])
  clear hlen
  go_enter Tryz.func27, Tryz.ntmps27
  go_wp2
  go_ret
  exact ⟨by rw [decide_eq_false H.out]; rfl, Below.refl _ _⟩

theorem inB_drop {l : List Txt} {t : Txt} {k : Nat} (hk : k < l.length) : inB (l.drop k) t = (l[k] == t || inB (l.drop (k + 1)) t) := by
 unfold inB
 rw [List.drop_eq_getElem_cons hk, List.contains_cons]
 congr 1
 rw [Bool.eq_iff_iff, beq_iff_eq, beq_iff_eq]
 exact eq_comm
theorem in_any (v : Value) (l : List Txt) (t : Txt) (w : World) (h : Rd w v l) (hl : l.length ≤ 1099511627776) :
  Calls Tryz.prog 32 #[v, .string ⟨t.toArray⟩] w fun e w' => e = .returned (.bool (inB l t)) ∧ w = w' := by
 obtain ⟨A, c, rfl, hA⟩ := h
 go_enter Tryz.func32, Tryz.ntmps32
 go_wp2
 go_loop [5] (fun c5 => ∃ k : Nat, k ≤ l.length ∧ c5 = .int .i64 k ∧ Hid (inB (l.drop k) t = inB l t)) (fun c5 => l.length - (intOf c5).toNat)
 case atStart => exact ⟨0, by omega, rfl, Lib.hid rfl⟩
 case round =>
  obtain ⟨k, hk, rfl, H⟩ := hrel
  by_cases hlt : k < l.length
  ·have hst := inB_drop (t := t) hlt
   rw [H.out] at hst
   obtain ⟨g, o, rfl, hgl, hcell⟩ := hA k hlt
   have hc2 : w.cell? ⟨g, o + k, none⟩ = some (.string ⟨l[k].toArray⟩) := hcell
   have hi0 : (0 : Int) ≤ (k : Int) := by omega
   have hi1 : (k : Int) < (l.length : Int) := by omega
   have Hst := Lib.hid hst
   clear hcell hst
   generalize l[k] = x at *
   by_cases hx : x = t
   ·have HV : Hid (inB l t = true) := Lib.hid (by rw [Hst.out, hx]; simp)
    have he : (x == t) = true := by simpa using hx
    clear hx
    go_wp2
    go_ret
    exact ⟨by rw [HV.out]; rfl, rfl⟩
   ·have HN : Hid (inB (l.drop (k + 1)) t = inB l t) := Lib.hid (by rw [Hst.out]; simp [hx])
    have he : (x == t) = false := by simpa using hx
    clear hx
    go_wp2
    go_round
    case rel => exact ⟨k + 1, by omega, by go_num, HN⟩
    case measure => simp [intOf]; omega
  ·obtain rfl : k = l.length := by omega
   have HV : Hid (inB l t = false) := Lib.hid (by rw [← H.out, List.drop_length]; rfl)
   go_wp2
   go_ret
   exact ⟨by rw [HV.out]; rfl, rfl⟩

theorem refTime_any (t : Int) (w : World) : Calls Tryz.prog 105 #[.int .i64 t] w fun e w' => e = .returned (.bool (Cl.isTime t)) ∧ w = w' := by
 unfold Cl.isTime
 by_cases h : 0 ≤ t
 ·by_cases h2 : t ≤ 9007199254740991
  ·rw [decide_eq_true ⟨h, h2⟩]
   go_enter Tryz.func105, Tryz.ntmps105
   go_wp2
   go_ret
   exact ⟨rfl, rfl⟩
  ·rw [decide_eq_false fun x => h2 x.2]
   go_enter Tryz.func105, Tryz.ntmps105
   go_wp2
   go_ret
   exact ⟨rfl, rfl⟩
 ·rw [decide_eq_false fun x => h x.1]
  go_enter Tryz.func105, Tryz.ntmps105
  go_wp2
  go_ret
  exact ⟨rfl, rfl⟩

theorem refRightL_any (v : Value) (l : List Txt) (w : World) (h : Rd w v l) (hl : l.length ≤ 1099511627776) (hs : ∀ t ∈ l, t.length ≤ 140737488355328) (hcap : ∀ A c, v = .slice A l.length c → l.length ≤ c ∧ c ≤ 9223372036854775807) :
  Calls Tryz.prog 106 #[v] w fun e w' => e = .returned (.bool (rightL [] l)) ∧ Below w.heap.size w w' := by
 obtain ⟨A, c, rfl, hA⟩ := h
 have h : Rd w (.slice A l.length c) l := ⟨A, c, rfl, hA⟩
 obtain ⟨hc1, hc2⟩ := hcap A c rfl
 clear hA hcap
 go_enter Tryz.func106, Tryz.ntmps106
 go_wp2
 go_loopw [3] (fun c3 wr => ∃ k : Nat, k ≤ l.length ∧ c3 = .int .i64 k ∧ Hid (rightL (l.take k) (l.drop k) = rightL [] l) ∧ Below w.heap.size w wr) (fun c3 _ => l.length - (intOf c3).toNat)
 case atStart => exact ⟨0, by omega, rfl, Lib.hid rfl, Below.refl _ _⟩
 case round =>
  obtain ⟨k, hk, rfl, H, hbw⟩ := hrel
  by_cases hlt : k < l.length
  ·have hst := rightL_drop l k hlt
   rw [H.out] at hst
   have hsl := hs l[k] (List.getElem_mem hlt)
   have hwr := h.below hbw
   have hrd : ∀ c' n, Rd (wr.drewN n) (.slice A k c') (l.take k) := fun c' n => by
    obtain ⟨A', c2, e, hcell⟩ := hwr.below (drewN_below wr n)
    injection e with e1 _ _
    subst e1
    have hlk : (l.take k).length = k := by rw [List.length_take]; omega
    refine ⟨_, c', by rw [hlk], fun j hj => ?_⟩
    obtain ⟨g, o, h1, h2, h3⟩ := hcell j (by omega)
    exact ⟨g, o, h1, h2, by rw [List.getElem_take]; exact h3⟩
   have hlk : (l.take k).length ≤ 1099511627776 := by rw [List.length_take]; omega
   obtain ⟨A', c', hAc, hcell⟩ := hwr
   injection hAc with hA1 _ hc1'
   subst hA1; subst hc1'
   obtain ⟨g, o, rfl, hgl, hcell⟩ := hcell k hlt
   have hcc : wr.cell? ⟨g, o + k, none⟩ = some (.string ⟨l[k].toArray⟩) := hcell
   have hi0 : (0 : Int) ≤ (k : Int) := by omega
   have hi1 : (k : Int) < (l.length : Int) := by omega
   have hi2 : (k : Int) ≤ (c : Int) := by omega
   have Hst := Lib.hid hst
   clear hcell hst
   generalize l[k] = t at *
   have HR : ∀ W : World, Calls Tryz.prog 87 #[.string ⟨t.toArray⟩] W fun e w' => e = .returned (.bool (rightR t)) ∧ w' = W := fun W => (refRight_any ⟨t.toArray⟩ hsl W).mono fun e w' ⟨he, hw⟩ => ⟨he, hw.symm⟩
   have HI : ∀ c' n, Calls Tryz.prog 32 #[.slice (some ⟨g, o, none⟩) k c', .string ⟨t.toArray⟩] (wr.drewN n) fun e w' => e = .returned (.bool (inB (l.take k) t)) ∧ w' = wr.drewN n := fun c' n => by
    have h5 := in_any _ (l.take k) t _ (hrd c' n) hlk
    exact h5.mono fun e w' ⟨he, hw⟩ => ⟨he, hw.symm⟩
   clear hrd
   cases hr : rightR t with
   | false =>
    have HV : Hid (rightL [] l = false) := Lib.hid (by rw [Hst.out, hr]; simp)
    rw [hr] at HR
    have G1 := Lib.hid HR
    clear HR HI hr
    go_wp2
    go_quiet ((go_at_call 87; exact Calls.quiet_of_same (G1.out _)))
    go_wp2
    go_ret
    exact ⟨by rw [HV.out]; rfl, hbw.trans ((drewN_below _ _).mono hbw.size)⟩
   | true =>
    rw [hr] at HR
    cases hi : inB (l.take k) t with
    | true =>
     have HV : Hid (rightL [] l = false) := Lib.hid (by rw [Hst.out, show (l.take k).contains t = true from hi]; simp)
     rw [hi] at HI
     have G1 := Lib.hid HR
     have G2 := Lib.hid HI
     clear HR HI hr hi
     go_wp2
     go_quiet ((first | (go_at_call 87; exact Calls.quiet_of_same (G1.out _)) | (go_at_call 32; exact Calls.quiet_of_same (G2.out _ _))))
     go_wp2
     go_ret
     exact ⟨by rw [HV.out]; rfl, hbw.trans ((drewN_below _ _).mono hbw.size)⟩
    | false =>
     have HN : Hid (rightL (l.take (k + 1)) (l.drop (k + 1)) = rightL [] l) := Lib.hid (by rw [Hst.out, hr, show (l.take k).contains t = false from hi]; simp)
     rw [hi] at HI
     have G1 := Lib.hid HR
     have G2 := Lib.hid HI
     clear HR HI hr hi
     go_wp2
     go_quiet ((first | (go_at_call 87; exact Calls.quiet_of_same (G1.out _)) | (go_at_call 32; exact Calls.quiet_of_same (G2.out _ _))))
     go_wp2
     go_roundw
     case rel => exact ⟨k + 1, by omega, by go_num, HN, hbw.trans ((drewN_below _ _).mono hbw.size)⟩
     case measure => simp [intOf]; omega
  ·obtain rfl : k = l.length := by omega
   have HF : Hid (rightL [] l = true) := Lib.hid (by rw [← H.out, List.drop_length]; rfl)
   go_wp2
   go_ret
   exact ⟨by rw [HF.out]; rfl, hbw⟩

theorem refLacking_any (v1 v2 : Value) (l among : List Txt) (w : World) (h1 : Rd w v1 l) (h2 : Rd w v2 among) (hl : l.length ≤ 1099511627776) (hm : among.length ≤ 1099511627776) :
  Calls Tryz.prog 34 #[v1, v2] w fun e w' => (∃ v, e = .returned v ∧ w'.ownsRow w.heap.size 9 1 v (lackF among [] l).length ((lackF among [] l).map strV)) ∧ Below w.heap.size w w' := by
 obtain ⟨i0, hi0, hz0, hz1, hz2⟩ := info_parts info_str
 obtain ⟨A, c, rfl, hA⟩ := h1
 have h1 : Rd w (.slice A l.length c) l := ⟨A, c, rfl, hA⟩
 clear hA
 go_enter Tryz.func34, Tryz.ntmps34
 go_wp2
 go_loopw [5, 6] (fun c5 c10 wr => ∃ k : Nat, k ≤ l.length ∧ c10 = .int .i64 k ∧ wr.ownsRow w.heap.size 9 1 c5 (lackF among [] (l.take k)).length ((lackF among [] (l.take k)).map strV) ∧ Below w.heap.size w wr) (fun _ c10 _ => l.length - (intOf c10).toNat)
 case atStart => exact ⟨0, by omega, rfl, World.ownsRow_nil _ _ _ _, Below.refl _ _⟩
 case round =>
  obtain ⟨k, hk, rfl, hown, hbw⟩ := hrel
  have hll : (lackF among [] (l.take k)).length ≤ 1099511627776 := by
   have := lackF_len among (l.take k) []
   rw [List.length_take, List.length_nil] at this
   omega
  by_cases hlt : k < l.length
  ·have hst := lackF_take among l k hlt
   obtain ⟨A', c', hAc, hcell⟩ := h1.below hbw
   injection hAc with hA1 _ hc1
   subst hA1; subst hc1
   obtain ⟨g, o, rfl, hgl, hcell⟩ := hcell k hlt
   have hc2 : wr.cell? ⟨g, o + k, none⟩ = some (.string ⟨l[k].toArray⟩) := hcell
   have hi0' : (0 : Int) ≤ (k : Int) := by omega
   have hi1 : (k : Int) < (l.length : Int) := by omega
   have hr5 := Rd.of_own hown
   have hr2 := h2.below hbw
   have hbs := hbw.size
   have Hst := Lib.hid hst
   clear hcell hst
   generalize l[k] = t at *
   go_wp2_with fail
   refine (in_any v2 among t _ hr2 hm).mono ?_
   rintro e w' ⟨rfl, rfl⟩
   by_cases ha : inB among t = true
   ·have HT : Hid (lackF among [] (l.take (k + 1)) = lackF among [] (l.take k)) := Lib.hid (by
     rw [Hst.out, show among.contains t = true from ha]
     simp)
    rw [ha]
    clear ha
    go_wp2
    go_roundw
    case rel => exact ⟨k + 1, by omega, by go_num, by rw [HT.out]; exact hown, hbw⟩
    case measure => simp [intOf]; omega
   ·rw [Bool.not_eq_true] at ha
    rw [ha]
    go_wp2_with fail
    refine (in_any u5 _ t _ hr5 (by omega)).mono ?_
    rintro e w' ⟨rfl, rfl⟩
    by_cases hb : inB (lackF among [] (l.take k)) t = true
    ·have HT : Hid (lackF among [] (l.take (k + 1)) = lackF among [] (l.take k)) := Lib.hid (by
      rw [Hst.out, show (lackF among [] (l.take k)).contains t = true from hb]
      simp)
     rw [hb]
     clear hb ha
     go_wp2
     go_roundw
     case rel => exact ⟨k + 1, by omega, by go_num, by rw [HT.out]; exact hown, hbw⟩
     case measure => simp [intOf]; omega
    ·rw [Bool.not_eq_true] at hb
     have HT : Hid (lackF among [] (l.take (k + 1)) = lackF among [] (l.take k) ++ [t]) := Lib.hid (by
      rw [Hst.out, show (lackF among [] (l.take k)).contains t = false from hb, show among.contains t = false from ha]
      simp)
     rw [hb]
     clear hb ha hr5
     generalize lackF among [] (l.take k) = q at *
     go_wp2_with (at_builtin; refine wpList_append_own _ rfl (.tmp 29) (.tmp 34) _ rfl w.heap.size 9 i0 _ 1 16 Tryz.underlying23 hi0 hz0 hz1 hz2 rfl (by omega) u5 q.length (q.map strV) rfl (hown.alloc _) ⟨wr.heap.size, 0, none⟩ 1 1 [.string ⟨t.toArray⟩] rfl rfl (one_newP _ _ _) (one_cellP _ rfl) (by unfold maxLen; omega) (by omega) (by simp; omega) ?_; intro v9 w9 hown9 hgr9 hnil9)
     go_wp2
     go_roundw
     case rel => exact ⟨k + 1, by omega, by go_num, by rw [HT.out, List.length_append, List.map_append]; exact hown9, (hbw.alloc hbs _).grown hgr9 (by simp; omega) (fun q hq => (hown.lt q hq).1)⟩
     case measure => simp [intOf]; omega
  ·obtain rfl : k = l.length := by omega
   have HT : Hid (lackF among [] (l.take l.length) = lackF among [] l) := Lib.hid (by rw [List.take_length])
   rw [HT.out] at hown
   go_wp2
   go_ret
   exact ⟨⟨_, rfl, hown⟩, hbw⟩
end Go.Proofs.YtobaldkipnhlpaaGreatDoor
namespace Go.Proofs.YtobaldkipnhlpaaGreatDoor
open Go.RowKit Mem Utf Ref3 Tok Cl

theorem rules_any (r : R) (A1 A2 A3 : Option Addr) (n1 n2 n3 c1 c2 c3 : Nat) (w : World) :
  Calls Tryz.prog 15 #[.agg #[.int .i64 r.now, .int .i64 r.slack, .string ⟨r.who.toArray⟩, .slice A1 n1 c1, .slice A2 n2 c2, .slice A3 n3 c3]] w
   fun e w' => e = .returned (.tuple #[.agg #[.int .i64 r.now, .int .i64 r.slack, .string ⟨r.who.toArray⟩, .slice A1 n1 c1, .slice A2 n2 c2, .slice A3 n3 c3], .bool (Cl.isTime r.now && Cl.isTime r.slack)]) ∧ Below w.heap.size w w' := by
 have HA : Hid (∀ t : Int, Cl.isTime t = decide (0 ≤ t ∧ t ≤ 9007199254740991)) := Lib.hid fun t => rfl
 generalize r.now = a
 generalize r.slack = b
 generalize r.who = s
 by_cases h1 : 0 ≤ a
 ·by_cases h2 : a ≤ 9007199254740991
  ·by_cases h3 : 0 ≤ b
   ·by_cases h4 : b ≤ 9007199254740991
    ·
     have HV : Hid ((Cl.isTime a && Cl.isTime b) = true) := Lib.hid (by rw [HA.out, HA.out]; simp; omega)
     clear HA
     go_enter Tryz.func15, Tryz.ntmps15
     go_wp2
     refine bodyPost_ret (v := .tuple #[.agg #[.int .i64 a, .int .i64 b, .string ⟨s.toArray⟩, .slice A1 n1 c1, .slice A2 n2 c2, .slice A3 n3 c3], .bool true]) (by simp [results, Tryz.results15, go_sem]) rfl ⟨by rw [HV.out], ?_⟩
     exact ((Below.refl _ _).alloc (Nat.le_refl _) _).alloc (by simp) _
    ·
     have HV : Hid ((Cl.isTime a && Cl.isTime b) = false) := Lib.hid (by rw [HA.out, HA.out]; simp; omega)
     clear HA
     go_enter Tryz.func15, Tryz.ntmps15
     go_wp2
     refine bodyPost_ret (v := .tuple #[.agg #[.int .i64 a, .int .i64 b, .string ⟨s.toArray⟩, .slice A1 n1 c1, .slice A2 n2 c2, .slice A3 n3 c3], .bool false]) (by simp [results, Tryz.results15, go_sem]) rfl ⟨by rw [HV.out], ?_⟩
     exact ((Below.refl _ _).alloc (Nat.le_refl _) _).alloc (by simp) _
   ·
    have HV : Hid ((Cl.isTime a && Cl.isTime b) = false) := Lib.hid (by rw [HA.out, HA.out]; simp; omega)
    clear HA
    go_enter Tryz.func15, Tryz.ntmps15
    go_wp2
    refine bodyPost_ret (v := .tuple #[.agg #[.int .i64 a, .int .i64 b, .string ⟨s.toArray⟩, .slice A1 n1 c1, .slice A2 n2 c2, .slice A3 n3 c3], .bool false]) (by simp [results, Tryz.results15, go_sem]) rfl ⟨by rw [HV.out], ?_⟩
    exact ((Below.refl _ _).alloc (Nat.le_refl _) _).alloc (by simp) _
  ·
   have HV : Hid ((Cl.isTime a && Cl.isTime b) = false) := Lib.hid (by rw [HA.out, HA.out]; simp; omega)
   clear HA
   go_enter Tryz.func15, Tryz.ntmps15
   go_wp2
   refine bodyPost_ret (v := .tuple #[.agg #[.int .i64 a, .int .i64 b, .string ⟨s.toArray⟩, .slice A1 n1 c1, .slice A2 n2 c2, .slice A3 n3 c3], .bool false]) (by simp [results, Tryz.results15, go_sem]) rfl ⟨by rw [HV.out], ?_⟩
   exact ((Below.refl _ _).alloc (Nat.le_refl _) _).alloc (by simp) _
 ·
  have HV : Hid ((Cl.isTime a && Cl.isTime b) = false) := Lib.hid (by rw [HA.out, HA.out]; simp; omega)
  clear HA
  go_enter Tryz.func15, Tryz.ntmps15
  go_wp2
  refine bodyPost_ret (v := .tuple #[.agg #[.int .i64 a, .int .i64 b, .string ⟨s.toArray⟩, .slice A1 n1 c1, .slice A2 n2 c2, .slice A3 n3 c3], .bool false]) (by simp [results, Tryz.results15, go_sem]) rfl ⟨by rw [HV.out], ?_⟩
  exact ((Below.refl _ _).alloc (Nat.le_refl _) _).alloc (by simp) _

theorem tb_ok (v : Value) (w : World) : (Instr.typeAssert (.iface 44 v) 42 44 true).run Tryz.prog w = .ok (.tuple #[v, .bool true]) w := by kernel_rfl
theorem tn_ok (v : Value) (w : World) : (Instr.typeAssert (.iface 49 v) 28 49 true).run Tryz.prog w = .ok (.tuple #[v, .bool true]) w := by kernel_rfl
theorem number25_any (n : Int) (w : World) : Calls Tryz.prog 10 #[.iface 49 (.int .i64 n), .int .i64 n] w fun e w' => e = .returned (.bool true) ∧ w = w' := by
 have t1 := tn_ok
 have e1 : (n == n) = true := by simp
 go_enter Tryz.func10, Tryz.ntmps10
 go_wp2
 go_ret
 exact ⟨rfl, rfl⟩
theorem ptr_ne (a : Addr) (w : World) : (binOp .neq 44 (.pointer (some a)) (.pointer none)).run Tryz.prog w = .ok (.bool true) w := by kernel_rfl
theorem broken_any (b : Nat) (w : World) (h : Blk w b 52 #[.iface 49 (.int .i64 2)]) :
  Calls Tryz.prog 16 #[.iface 44 (.pointer (some ⟨b, 0, none⟩)), .int .i64 2] w fun e w' => e = .returned (.bool true) ∧ Below w.heap.size w w' := by
 have t1 := tb_ok
 have p1 := ptr_ne
 have c0 := h.cell 0
 have c1 : w.cell? ⟨b, 0, none⟩ = some (.iface 49 (.int .i64 2)) := c0
 clear c0
 go_enter Tryz.func16, Tryz.ntmps16
 go_wp2_with fail
 refine (number25_any 2 _).mono ?_
 rintro e w' ⟨rfl, rfl⟩
 go_wp2
 go_ret
 exact ⟨rfl, Below.refl _ _⟩
theorem tv_0_0 (v : Value) (w : World) : (Instr.typeAssert (.iface 112 v) 42 112 true).run Tryz.prog w = .ok (.tuple #[v, .bool true]) w := by kernel_rfl
theorem tv_1_0 (v : Value) (w : World) : (Instr.typeAssert (.iface 131 v) 42 112 true).run Tryz.prog w = .ok (.tuple #[.agg #[.int .i64 0], .bool false]) w := by kernel_rfl
theorem tv_1_1 (v : Value) (w : World) : (Instr.typeAssert (.iface 131 v) 42 131 true).run Tryz.prog w = .ok (.tuple #[v, .bool true]) w := by kernel_rfl
theorem tv_2_0 (v : Value) (w : World) : (Instr.typeAssert (.iface 114 v) 42 112 true).run Tryz.prog w = .ok (.tuple #[.agg #[.int .i64 0], .bool false]) w := by kernel_rfl
theorem tv_2_1 (v : Value) (w : World) : (Instr.typeAssert (.iface 114 v) 42 131 true).run Tryz.prog w = .ok (.tuple #[.agg #[.int .i64 0], .bool false]) w := by kernel_rfl
theorem tv_2_2 (v : Value) (w : World) : (Instr.typeAssert (.iface 114 v) 42 114 true).run Tryz.prog w = .ok (.tuple #[v, .bool true]) w := by kernel_rfl
theorem tv_3_0 (v : Value) (w : World) : (Instr.typeAssert (.iface 133 v) 42 112 true).run Tryz.prog w = .ok (.tuple #[.agg #[.int .i64 0], .bool false]) w := by kernel_rfl
theorem tv_3_1 (v : Value) (w : World) : (Instr.typeAssert (.iface 133 v) 42 131 true).run Tryz.prog w = .ok (.tuple #[.agg #[.int .i64 0], .bool false]) w := by kernel_rfl
theorem tv_3_2 (v : Value) (w : World) : (Instr.typeAssert (.iface 133 v) 42 114 true).run Tryz.prog w = .ok (.tuple #[.agg #[.int .i64 0], .bool false]) w := by kernel_rfl
theorem tv_3_3 (v : Value) (w : World) : (Instr.typeAssert (.iface 133 v) 42 133 true).run Tryz.prog w = .ok (.tuple #[v, .bool true]) w := by kernel_rfl
theorem tv_4_0 (v : Value) (w : World) : (Instr.typeAssert (.iface 135 v) 42 112 true).run Tryz.prog w = .ok (.tuple #[.agg #[.int .i64 0], .bool false]) w := by kernel_rfl
theorem tv_4_1 (v : Value) (w : World) : (Instr.typeAssert (.iface 135 v) 42 131 true).run Tryz.prog w = .ok (.tuple #[.agg #[.int .i64 0], .bool false]) w := by kernel_rfl
theorem tv_4_2 (v : Value) (w : World) : (Instr.typeAssert (.iface 135 v) 42 114 true).run Tryz.prog w = .ok (.tuple #[.agg #[.int .i64 0], .bool false]) w := by kernel_rfl
theorem tv_4_3 (v : Value) (w : World) : (Instr.typeAssert (.iface 135 v) 42 133 true).run Tryz.prog w = .ok (.tuple #[.agg #[.string ⟨#[]⟩], .bool false]) w := by kernel_rfl
theorem tv_4_4 (v : Value) (w : World) : (Instr.typeAssert (.iface 135 v) 42 135 true).run Tryz.prog w = .ok (.tuple #[v, .bool true]) w := by kernel_rfl
theorem tv_5_0 (v : Value) (w : World) : (Instr.typeAssert (.iface 137 v) 42 112 true).run Tryz.prog w = .ok (.tuple #[.agg #[.int .i64 0], .bool false]) w := by kernel_rfl
theorem tv_5_1 (v : Value) (w : World) : (Instr.typeAssert (.iface 137 v) 42 131 true).run Tryz.prog w = .ok (.tuple #[.agg #[.int .i64 0], .bool false]) w := by kernel_rfl
theorem tv_5_2 (v : Value) (w : World) : (Instr.typeAssert (.iface 137 v) 42 114 true).run Tryz.prog w = .ok (.tuple #[.agg #[.int .i64 0], .bool false]) w := by kernel_rfl
theorem tv_5_3 (v : Value) (w : World) : (Instr.typeAssert (.iface 137 v) 42 133 true).run Tryz.prog w = .ok (.tuple #[.agg #[.string ⟨#[]⟩], .bool false]) w := by kernel_rfl
theorem tv_5_4 (v : Value) (w : World) : (Instr.typeAssert (.iface 137 v) 42 135 true).run Tryz.prog w = .ok (.tuple #[.agg #[.string ⟨#[]⟩], .bool false]) w := by kernel_rfl
theorem tv_5_5 (v : Value) (w : World) : (Instr.typeAssert (.iface 137 v) 42 137 true).run Tryz.prog w = .ok (.tuple #[v, .bool true]) w := by kernel_rfl
theorem tv_6_0 (v : Value) (w : World) : (Instr.typeAssert (.iface 139 v) 42 112 true).run Tryz.prog w = .ok (.tuple #[.agg #[.int .i64 0], .bool false]) w := by kernel_rfl
theorem tv_6_1 (v : Value) (w : World) : (Instr.typeAssert (.iface 139 v) 42 131 true).run Tryz.prog w = .ok (.tuple #[.agg #[.int .i64 0], .bool false]) w := by kernel_rfl
theorem tv_6_2 (v : Value) (w : World) : (Instr.typeAssert (.iface 139 v) 42 114 true).run Tryz.prog w = .ok (.tuple #[.agg #[.int .i64 0], .bool false]) w := by kernel_rfl
theorem tv_6_3 (v : Value) (w : World) : (Instr.typeAssert (.iface 139 v) 42 133 true).run Tryz.prog w = .ok (.tuple #[.agg #[.string ⟨#[]⟩], .bool false]) w := by kernel_rfl
theorem tv_6_4 (v : Value) (w : World) : (Instr.typeAssert (.iface 139 v) 42 135 true).run Tryz.prog w = .ok (.tuple #[.agg #[.string ⟨#[]⟩], .bool false]) w := by kernel_rfl
theorem tv_6_5 (v : Value) (w : World) : (Instr.typeAssert (.iface 139 v) 42 137 true).run Tryz.prog w = .ok (.tuple #[.agg #[.slice none 0 0], .bool false]) w := by kernel_rfl
theorem tv_6_6 (v : Value) (w : World) : (Instr.typeAssert (.iface 139 v) 42 139 true).run Tryz.prog w = .ok (.tuple #[v, .bool true]) w := by kernel_rfl
def VerdR (w : World) (v : Value) (x : Verd) : Prop := ∃ s, v = .agg #[.int .i64 (x.kind : Int), .int .i64 x.time, .string ⟨x.text.toArray⟩, s] ∧ Rd w s x.list

theorem verdict1_any (t : Int) (x : ByteArray) (A : Option Addr) (n q : Nat) (w : World) : Calls Tryz.prog 17 #[.iface 112 (.agg #[.int .i64 t]), .agg #[.int .i64 1, .int .i64 t, .string x, .slice A n q]] w fun e w' => e = .returned (.bool true) ∧ Below w.heap.size w w' := by
 have t0 := tv_0_0
 have e1 : (t == t) = true := by simp
 go_enter Tryz.func17, Tryz.ntmps17
 go_wp2
 go_ret
 exact ⟨rfl, ((Below.refl _ _).alloc (Nat.le_refl _) _).alloc (by simp) _⟩

theorem verdict2_any (t : Int) (x : ByteArray) (A : Option Addr) (n q : Nat) (w : World) : Calls Tryz.prog 17 #[.iface 131 (.agg #[.int .i64 t]), .agg #[.int .i64 2, .int .i64 t, .string x, .slice A n q]] w fun e w' => e = .returned (.bool true) ∧ Below w.heap.size w w' := by
 have t0 := tv_1_0
 have t1 := tv_1_1
 have e1 : (t == t) = true := by simp
 go_enter Tryz.func17, Tryz.ntmps17
 go_wp2
 go_ret
 exact ⟨rfl, ((Below.refl _ _).alloc (Nat.le_refl _) _).alloc (by simp) _⟩

theorem verdict3_any (t : Int) (x : ByteArray) (A : Option Addr) (n q : Nat) (w : World) : Calls Tryz.prog 17 #[.iface 114 (.agg #[.int .i64 t]), .agg #[.int .i64 3, .int .i64 t, .string x, .slice A n q]] w fun e w' => e = .returned (.bool true) ∧ Below w.heap.size w w' := by
 have t0 := tv_2_0
 have t1 := tv_2_1
 have t2 := tv_2_2
 have e1 : (t == t) = true := by simp
 go_enter Tryz.func17, Tryz.ntmps17
 go_wp2
 go_ret
 exact ⟨rfl, ((Below.refl _ _).alloc (Nat.le_refl _) _).alloc (by simp) _⟩

theorem verdict4_any (t : Int) (x : Txt) (A : Option Addr) (n q : Nat) (w : World) : Calls Tryz.prog 17 #[.iface 133 (.agg #[.string ⟨x.toArray⟩]), .agg #[.int .i64 4, .int .i64 t, .string ⟨x.toArray⟩, .slice A n q]] w fun e w' => e = .returned (.bool true) ∧ Below w.heap.size w w' := by
 have t0 := tv_3_0
 have t1 := tv_3_1
 have t2 := tv_3_2
 have t3 := tv_3_3
 have e1 : (x == x) = true := by simp
 go_enter Tryz.func17, Tryz.ntmps17
 go_wp2
 go_ret
 exact ⟨rfl, ((Below.refl _ _).alloc (Nat.le_refl _) _).alloc (by simp) _⟩

theorem verdict5_any (t : Int) (x : Txt) (A : Option Addr) (n q : Nat) (w : World) : Calls Tryz.prog 17 #[.iface 135 (.agg #[.string ⟨x.toArray⟩]), .agg #[.int .i64 5, .int .i64 t, .string ⟨x.toArray⟩, .slice A n q]] w fun e w' => e = .returned (.bool true) ∧ Below w.heap.size w w' := by
 have t0 := tv_4_0
 have t1 := tv_4_1
 have t2 := tv_4_2
 have t3 := tv_4_3
 have t4 := tv_4_4
 have e1 : (x == x) = true := by simp
 go_enter Tryz.func17, Tryz.ntmps17
 go_wp2
 go_ret
 exact ⟨rfl, ((Below.refl _ _).alloc (Nat.le_refl _) _).alloc (by simp) _⟩

theorem verdict6_any (t : Int) (x : ByteArray) (A A' : Option Addr) (q q' : Nat) (l : List Txt) (w : World) (h1 : Rd w (.slice A l.length q) l) (h2 : Rd w (.slice A' l.length q') l) (hl : l.length ≤ 1099511627776) :
  Calls Tryz.prog 17 #[.iface 137 (.agg #[.slice A l.length q]), .agg #[.int .i64 6, .int .i64 t, .string x, .slice A' l.length q']] w fun e w' => e = .returned (.bool true) ∧ Below w.heap.size w w' := by
 have t0 := tv_5_0
 have t1 := tv_5_1
 have t2 := tv_5_2
 have t3 := tv_5_3
 have t4 := tv_5_4
 have t5 := tv_5_5
 have hb : ∀ cs ds, Below w.heap.size w ((w.alloc (.cells cs 72)).alloc (.cells ds 137)) := fun cs ds => ((Below.refl _ _).alloc (Nat.le_refl _) _).alloc (by simp) _
 go_enter Tryz.func17, Tryz.ntmps17
 go_wp2_with fail
 refine (texts25_any _ _ l l _ (h1.below (hb _ _)) (h2.below (hb _ _)) (by omega) (by omega)).mono ?_
 rintro e w' ⟨rfl, hb2⟩
 rw [decide_eq_true rfl]
 have hb3 := below_chain (hb _ _) (hb _ _).size hb2
 clear hb hb2
 go_wp2
 go_ret
 exact ⟨rfl, hb3⟩

theorem verdict7_any (t : Int) (x : ByteArray) (A A' : Option Addr) (q q' : Nat) (l : List Txt) (w : World) (h1 : Rd w (.slice A l.length q) l) (h2 : Rd w (.slice A' l.length q') l) (hl : l.length ≤ 1099511627776) :
  Calls Tryz.prog 17 #[.iface 139 (.agg #[.slice A l.length q]), .agg #[.int .i64 7, .int .i64 t, .string x, .slice A' l.length q']] w fun e w' => e = .returned (.bool true) ∧ Below w.heap.size w w' := by
 have t0 := tv_6_0
 have t1 := tv_6_1
 have t2 := tv_6_2
 have t3 := tv_6_3
 have t4 := tv_6_4
 have t5 := tv_6_5
 have t6 := tv_6_6
 have hb : ∀ cs ds, Below w.heap.size w ((w.alloc (.cells cs 72)).alloc (.cells ds 139)) := fun cs ds => ((Below.refl _ _).alloc (Nat.le_refl _) _).alloc (by simp) _
 go_enter Tryz.func17, Tryz.ntmps17
 go_wp2_with fail
 refine (texts25_any _ _ l l _ (h1.below (hb _ _)) (h2.below (hb _ _)) (by omega) (by omega)).mono ?_
 rintro e w' ⟨rfl, hb2⟩
 rw [decide_eq_true rfl]
 have hb3 := below_chain (hb _ _) (hb _ _).size hb2
 clear hb hb2
 go_wp2
 go_ret
 exact ⟨rfl, hb3⟩

theorem verdict_any (B : Nat) (v u : Value) (x : Verd) (w : World) (hv : VerdV B w v x) (hu : VerdR w u x) (hk : 1 ≤ x.kind ∧ x.kind ≤ 7) (hl : x.list.length ≤ 1099511627776) :
  Calls Tryz.prog 17 #[v, u] w fun e w' => e = .returned (.bool true) ∧ Below w.heap.size w w' := by
 obtain ⟨k, t, s, l⟩ := x
 obtain ⟨sl, rfl, hr⟩ := hu
 obtain ⟨A, q, rfl, hA⟩ := hr
 have hr : Rd w (.slice A l.length q) l := ⟨A, q, rfl, hA⟩
 clear hA
 simp only [] at hk hl hv
 have h8 : k = 1 ∨ k = 2 ∨ k = 3 ∨ k = 4 ∨ k = 5 ∨ k = 6 ∨ k = 7 := by omega
 rcases h8 with rfl | rfl | rfl | rfl | rfl | rfl | rfl
 ·obtain rfl : v = _ := hv
  exact verdict1_any t ⟨s.toArray⟩ A l.length q w
 ·obtain rfl : v = _ := hv
  exact verdict2_any t ⟨s.toArray⟩ A l.length q w
 ·obtain rfl : v = _ := hv
  exact verdict3_any t ⟨s.toArray⟩ A l.length q w
 ·obtain rfl : v = _ := hv
  exact verdict4_any t s A l.length q w
 ·obtain rfl : v = _ := hv
  exact verdict5_any t s A l.length q w
 ·obtain ⟨y, rfl, ho⟩ := (hv : ∃ s, v = .iface 137 (.agg #[s]) ∧ w.ownsRow B 9 1 s l.length (l.map strV))
  have h1 := Rd.of_own ho
  obtain ⟨A', q', rfl⟩ := own_sliceP ho
  exact verdict6_any t ⟨s.toArray⟩ A' A q' q l w h1 hr hl
 ·obtain ⟨y, rfl, ho⟩ := (hv : ∃ s, v = .iface 139 (.agg #[s]) ∧ w.ownsRow B 9 1 s l.length (l.map strV))
  have h1 := Rd.of_own ho
  obtain ⟨A', q', rfl⟩ := own_sliceP ho
  exact verdict7_any t ⟨s.toArray⟩ A' A q' q l w h1 hr hl
end Go.Proofs.YtobaldkipnhlpaaGreatDoor
namespace Go.Proofs.YtobaldkipnhlpaaGreatDoor
open Go.RowKit Mem Utf Ref3 Tok Cl

namespace Cl
theorem judgeP_kind (c : C) (r : R) : (judgeP c r).kind ≤ 7 := by
 unfold judgeP
 split
 ·unfold judge0
  split
  ·exact (by decide : 4 ≤ 7)
  ·unfold judge1
   split
   ·exact (by decide : 5 ≤ 7)
   ·unfold judge2
    split
    ·exact (by decide : 6 ≤ 7)
    ·unfold judge3
     split
     ·exact (by decide : 2 ≤ 7)
     ·unfold judge4
      split
      ·exact (by decide : 3 ≤ 7)
      ·unfold judge5
       split
       ·exact (by decide : 1 ≤ 7)
       ·exact (by decide : 7 ≤ 7)
 ·exact Nat.zero_le _
end Cl
theorem VerdV.below {B : Nat} {w w' : World} {v : Value} {x : Verd} (h : VerdV B w v x) (hb : Below w.heap.size w w') : VerdV B w' v x := by
 obtain ⟨k, t, s, l⟩ := x
 unfold VerdV at h ⊢
 split <;> simp_all only
 ·obtain ⟨b, h1, rfl, h3⟩ := h
  exact ⟨b, h1, rfl, h3.below hb h3.lt⟩
 ·obtain ⟨y, rfl, h3⟩ := h
  exact ⟨y, rfl, own_below h3 hb⟩
 ·obtain ⟨y, rfl, h3⟩ := h
  exact ⟨y, rfl, own_below h3 hb⟩
theorem own_base {w : World} {B B' size n : Nat} {e : TypeId} {v : Value} {xs : List Value} (h : w.ownsRow B e size v n xs) (hB : B' ≤ B) : w.ownsRow B' e size v n xs :=
 ⟨h.1, h.2.imp id fun ⟨g, cap, cur, e1, e2, e3⟩ => ⟨g, cap, cur, e1, Nat.le_trans hB e2, e3⟩⟩
theorem VerdV.base {B B' : Nat} {w : World} {v : Value} {x : Verd} (h : VerdV B w v x) (hB : B' ≤ B) : VerdV B' w v x := by
 obtain ⟨k, t, s, l⟩ := x
 unfold VerdV at h ⊢
 split <;> simp_all only
 ·obtain ⟨b, h1, rfl, h3⟩ := h
  exact ⟨b, Nat.le_trans hB h1, rfl, h3⟩
 ·obtain ⟨y, rfl, h3⟩ := h
  exact ⟨y, rfl, own_base h3 hB⟩
 ·obtain ⟨y, rfl, h3⟩ := h
  exact ⟨y, rfl, own_base h3 hB⟩
end Go.Proofs.YtobaldkipnhlpaaGreatDoor
