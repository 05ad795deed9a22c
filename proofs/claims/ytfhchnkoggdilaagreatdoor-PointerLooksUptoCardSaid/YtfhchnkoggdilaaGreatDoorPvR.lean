/-
  Walks of the reference of layer 13: Parse.
-/
import Derived.Test.YtfhchnkoggdilaaGreatDoorPvA
import Derived.Deep.LoopGhost
import Derived.Laws.IdiomStrings
import Derived.Laws.BytesArg
namespace Go.Proofs.YtfhchnkoggdilaaGreatDoor
open Go.RowKit Mem Utf Ref3 Tok
set_option linter.unusedVariables false

def byteV (c : UInt8) : Value := .int .u8 (c.toNat : Int)
/-- one new cell -/
theorem one_newP (w : World) (t : TypeId) (v : Value) : ∀ j u, [v][j]? = some u → (w.alloc (.cells #[v] t)).cell? ((⟨w.heap.size, 0, none⟩ : Addr).add j) = some u := by
  intro j u hj
  match j, hj with
  | 0, hj =>
    injection hj with hj
    subst hj
    exact Blk.cell (Blk.new w t #[v]) 0
  | j + 1, hj => cases hj
theorem one_cellP (v : Value) (h : v.oneCell' = true) : ∀ u ∈ [v], u.oneCell' = true := by
  intro u hu
  rw [List.mem_singleton] at hu
  rw [hu]
  exact h
/-- a row of the call's own is a slice of its length -/
theorem own_sliceP {w : World} {base size n : Nat} {e : TypeId} {v : Value} {xs : List Value} (h : w.ownsRow base e size v n xs) : ∃ A c, v = .slice A n c := by
  rcases Joins.ownsRow_forms h with ⟨rfl, rfl⟩ | ⟨g, cap, rfl, _⟩
  · exact ⟨none, 0, rfl⟩
  · exact ⟨_, _, rfl⟩
theorem info_u8 : (Tryz.prog.info? 5).map (fun i => (i.zero, i.size, i.bytes)) = some (some (.int .u8 0), 1, 1) := by kernel_rfl
/-- 'string(b)' of bytes of the call's own -/
theorem conv_own (w : World) (base : Nat) (v : Value) (l : List UInt8) (h : w.ownsRow base 5 1 v l.length (l.map byteV)) :
    (convert 119 9 v).run Tryz.prog w = .ok (.string ⟨l.toArray⟩) w := by
  rcases h.2 with ⟨rfl, hn⟩ | ⟨g, cap, cur, rfl, _⟩
  · obtain rfl : l = [] := by simpa using hn
    exact run_convert_bytes_nil w 119 5 Tryz.underlying119 Tryz.underlying5 0 0 9 Tryz.underlying9
  · refine run_convert_bytes_back w 119 9 5 _ cap l Tryz.underlying119 Tryz.underlying5 Tryz.underlying9 (fun j hj => ?_)
    exact h.cells (g := g) rfl j _ (by rw [List.getElem?_map, List.getElem?_eq_getElem hj]; rfl)
namespace Tok
theorem drop_at {s : ByteArray} {k : Nat} (hk : k < s.size) : s.data.toList.drop k = s[k] :: s.data.toList.drop (k + 1) := by
  have hk' : k < s.data.toList.length := hk
  exact List.drop_eq_getElem_cons hk'
theorem byte_eq {c : UInt8} (n : UInt8) {m : Int} (hm : (n.toNat : Int) = m) (h : (c.toNat : Int) = m) : c = n := (byte_is c n).1 (h.trans hm.symm)
theorem byte_ne {c : UInt8} (n : UInt8) {m : Int} (hm : (n.toNat : Int) = m) (h : ¬ (c.toNat : Int) = m) : c ≠ n := fun e => h (by rw [e]; exact hm)
theorem run_at (toks : List (List UInt8)) (b : List UInt8) {s : ByteArray} {k : Nat} (hk : k < s.size) (h47 : ¬ (s[k].toNat : Int) = 47) (h126 : ¬ (s[k].toNat : Int) = 126) :
    run toks (some b) (s.data.toList.drop k) k = run toks (some (b ++ [s[k]])) (s.data.toList.drop (k + 1)) (k + 1) := by
  rw [drop_at hk, run_some _ _ _ _ (byte_ne 47 rfl h47) (byte_ne 126 rfl h126)]
theorem run_at_end (toks : List (List UInt8)) (b : List UInt8) {s : ByteArray} {k : Nat} (hk : k < s.size) (h126 : (s[k].toNat : Int) = 126) (he : ¬ k + 1 < s.size) :
    run toks (some b) (s.data.toList.drop k) k = .error (k + 1) := by
  rw [drop_at hk, byte_eq 126 rfl h126, List.drop_eq_nil_of_le (by show s.size ≤ _; omega)]
  exact run_bad _ _ _ _ rfl
theorem run_at_0 (toks : List (List UInt8)) (b : List UInt8) {s : ByteArray} {k : Nat} (hk : k + 1 < s.size) (h126 : (s[k].toNat : Int) = 126) (h : (s[k + 1].toNat : Int) = 48) :
    run toks (some b) (s.data.toList.drop k) k = run toks (some (b ++ [126])) (s.data.toList.drop (k + 2)) (k + 2) := by
  rw [drop_at (by omega), drop_at hk, byte_eq 126 rfl h126, byte_eq 48 rfl h, run_0]
theorem run_at_1 (toks : List (List UInt8)) (b : List UInt8) {s : ByteArray} {k : Nat} (hk : k + 1 < s.size) (h126 : (s[k].toNat : Int) = 126) (h : (s[k + 1].toNat : Int) = 49) :
    run toks (some b) (s.data.toList.drop k) k = run toks (some (b ++ [47])) (s.data.toList.drop (k + 2)) (k + 2) := by
  rw [drop_at (by omega), drop_at hk, byte_eq 126 rfl h126, byte_eq 49 rfl h, run_1]
theorem run_at_bad (toks : List (List UInt8)) (b : List UInt8) {s : ByteArray} {k : Nat} (hk : k + 1 < s.size) (h126 : (s[k].toNat : Int) = 126) (h0 : ¬ (s[k + 1].toNat : Int) = 48) (h1 : ¬ (s[k + 1].toNat : Int) = 49) :
    run toks (some b) (s.data.toList.drop k) k = .error (k + 1) := by
  rw [drop_at (by omega), drop_at hk, byte_eq 126 rfl h126]
  refine run_bad _ _ _ _ ?_
  rw [badT_two, if_neg (by rintro (h | h); exact byte_ne 48 rfl h0 h; exact byte_ne 49 rfl h1 h)]
end Tok
def RefParseP (l : List UInt8) (w : World) (e : Ending) (w' : World) : Prop :=
  Below w.heap.size w w' ∧ (∀ x, parseS (wrong l) l = .error x → e = .returned (.tuple #[.slice none 0 0, .int .i64 x.1, .int .i64 x.2])) ∧
  (∀ ts, parseS (wrong l) l = .ok ts → ∃ v, e = .returned (.tuple #[v, .int .i64 0, .int .i64 0]) ∧ w'.ownsRow w.heap.size 9 1 v ts.length (ts.map strV))
theorem refP_err {l : List UInt8} {n a : Int} (h : parseS (wrong l) l = .error (n, a)) {w w' : World} (hb : Below w.heap.size w w') :
    RefParseP l w (.returned (.tuple #[.slice none 0 0, .int .i64 n, .int .i64 a])) w' := by
  refine ⟨hb, fun x hx => ?_, fun ts hx => ?_⟩
  · rw [h] at hx
    injection hx with hx
    rw [← hx]
  · rw [h] at hx
    cases hx
theorem refP_ok {l : List UInt8} {ts : List (List UInt8)} (h : parseS (wrong l) l = .ok ts) {w w' : World} {v : Value} (hb : Below w.heap.size w w')
    (ho : w'.ownsRow w.heap.size 9 1 v ts.length (ts.map strV)) : RefParseP l w (.returned (.tuple #[v, .int .i64 0, .int .i64 0])) w' := by
  refine ⟨hb, fun x hx => ?_, fun ts' hx => ?_⟩
  · rw [h] at hx
    cases hx
  · rw [h] at hx
    injection hx with hx
    rw [← hx]
    exact ⟨v, rfl, ho⟩
theorem parse_run_err {l : List UInt8} {p : Nat} (hw : (wrong l).1 = 0) (h : run [] none l 0 = .error p) : parseS (wrong l) l = .error (130, (p : Int)) := by rw [parseS, if_pos hw, h]
theorem parse_run_ok {l : List UInt8} {ts : List (List UInt8)} (hw : (wrong l).1 = 0) (h : run [] none l 0 = .ok ts) : parseS (wrong l) l = if 65536 < ts.length then .error (3, -1) else .ok ts := by rw [parseS, if_pos hw, h]
/-- how it stands at a token's beginning -/
def Outer (s : ByteArray) (w : World) (g : Nat) (c6 c7 : Value) (wr : World) : Prop :=
  ∃ (i : Nat) (ts : List (List UInt8)), i ≤ s.size ∧ g = s.size - i ∧ c7 = .int .i64 i ∧ ts.length ≤ i ∧ Hid (run ts none (s.data.toList.drop i) i = run [] none s.data.toList 0) ∧
    wr.ownsRow w.heap.size 9 1 c6 ts.length (ts.map strV) ∧ Below w.heap.size w wr
/-- how it stands within a token -/
def Inner (s : ByteArray) (ts : List (List UInt8)) (i0 : Nat) (w2 : World) (g : Nat) (c7 c8 : Value) (wr : World) : Prop :=
  ∃ (i : Nat) (b : List UInt8), i ≤ s.size ∧ i0 < i ∧ g = s.size - i ∧ c7 = .int .i64 i ∧ b.length ≤ i ∧ Hid (run ts (some b) (s.data.toList.drop i) i = run [] none s.data.toList 0) ∧
    wr.ownsRow w2.heap.size 5 1 c8 b.length (b.map byteV) ∧ Below w2.heap.size w2 wr

set_option maxRecDepth 100000 in
set_option maxHeartbeats 8000000 in
theorem refParse_any (s : ByteArray) (hs : s.size ≤ 2147483648) (w : World) :
    Calls Tryz.prog 16 #[.string s] w (RefParseP s.data.toList w) := by
  have hpl := wrong_place s.data.toList
  obtain ⟨i0, hi0, hz0, hz1, hz2⟩ := info_parts info_u8
  obtain ⟨j0, hj0, hy0, hy1, hy2⟩ := info_parts info_str
  go_enter Tryz.func16, Tryz.ntmps16
  go_wp2_with fail
  refine (refCheck_any s (by omega) _).mono ?_
  rintro e w1 ⟨rfl, rfl⟩
  by_cases hw : (wrong s.data.toList).1 = 0
  · have hc : checkR s.data.toList = -1 := by rw [checkR, if_pos hw]
    rw [hc]
    have HW := Lib.hid hw
    clear hw hc hpl
    go_wp2
    go_loopg [6, 7] (s.size) (fun g c6 c7 wr => Outer s w g c6 c7 wr)
    case atStart => exact ⟨0, [], by omega, rfl, rfl, Nat.le_refl _, Lib.hid rfl, World.ownsRow_nil _ _ _ _, Below.refl _ _⟩
    case round =>
      obtain ⟨i, ts, hi, rfl, rfl, htn, hrun, hown, hbw⟩ := hrel
      obtain ⟨wo, rfl⟩ : ∃ wo : World, wo = wr := ⟨_, rfl⟩
      by_cases hlt : i < s.size
      · by_cases h47 : (s[i].toNat : Int) = 47
        · have hnx : run ts (some []) (s.data.toList.drop (i + 1)) (i + 1) = run [] none s.data.toList 0 := by
            rw [← hrun.out, drop_at hlt, run_none, if_pos (byte_eq 47 rfl h47)]
          have Hnx := Lib.hid hnx
          have e47 : ((s[i].toNat : Int) != 47) = false := by simpa using h47
          clear hnx h47 hrun
          go_wp2
          go_loopg [7, 8] (s.size - (i + 1)) (fun g c7 c8 wx => Inner s ts i wo g c7 c8 wx)
          case atStart => exact ⟨i + 1, [], by omega, by omega, rfl, by go_num, by simp, Hnx, World.ownsRow_nil _ _ _ _, Below.refl _ _⟩
          case round =>
            obtain ⟨k, b, hk, hik, rfl, rfl, hbn, hrun2, hown2, hbw2⟩ := hrel
            by_cases hin : ∃ h : k < s.size, ¬ (s[k].toNat : Int) = 47
            · obtain ⟨hk1, h47⟩ := hin
              have e47 : ((s[k].toNat : Int) != 47) = true := by simpa using h47
              by_cases h126 : (s[k].toNat : Int) = 126
              · have e126 : ((s[k].toNat : Int) == 126) = true := by simpa using h126
                by_cases hk2 : k + 1 < s.size
                · have e2 : ((k : Int) + 1 == (s.size : Int)) = false := by rw [beq_eq_false_iff_ne]; omega
                  by_cases h48 : (s[k + 1].toNat : Int) = 48
                  · have hr := hrun2.out.symm.trans (run_at_0 ts b hk2 h126 h48)
                    rw [← byte_eq 126 rfl h126] at hr
                    have HR := Lib.hid hr
                    clear hr
                    have e3 : ((s[k + 1].toNat : Int) != 48) = false := by simpa using h48
                    have e4 : ((s[k + 1].toNat : Int) == 49) = false := by rw [h48]; decide
                    have hbb : b.length + 1 ≤ 2147483648 := by omega
                    have hbs := hbw2.size
                    clear hrun2 h126 h48 h47
                    go_wp2_with (at_builtin; refine wpList_append_own _ rfl (.tmp 66) (.tmp 68) _ rfl wo.heap.size 5 i0 _ 1 1 Tryz.underlying119 hi0 hz0 hz1 hz2 rfl (by omega) u8 b.length (b.map byteV) rfl (hown2.alloc _) ⟨wr.heap.size, 0, none⟩ 1 1 [byteV s[k]] rfl rfl (one_newP _ _ _) (one_cellP _ rfl) (by unfold maxLen; omega) (by omega) (by simp; omega) ?_; intro v9 w9 hown9 hgr9 hnil9)
                    go_wp2
                    go_roundg (s.size - (k + 2))
                    case measure => omega
                    case rel => exact ⟨k + 2, b ++ [s[k]], by omega, by omega, rfl, by go_num, by simp; omega, Lib.hid HR.out.symm, by simpa [byteV] using hown9, (hbw2.alloc hbw2.size _).grown hgr9 (by have := hbw2.size; simp; omega) (fun q hq => (hown2.lt q hq).1)⟩
                  · have e3 : ((s[k + 1].toNat : Int) != 48) = true := by simpa using h48
                    by_cases h49 : (s[k + 1].toNat : Int) = 49
                    · have HR := Lib.hid (hrun2.out.symm.trans (run_at_1 ts b hk2 h126 h49))
                      have e4 : ((s[k + 1].toNat : Int) != 49) = false := by simpa using h49
                      have e5 : ((s[k + 1].toNat : Int) == 49) = true := by simpa using h49
                      have hbb : b.length + 1 ≤ 2147483648 := by omega
                      have hbs := hbw2.size
                      clear hrun2 h126 h48 h47 h49
                      go_wp2_with (at_builtin; refine wpList_append_own _ rfl (.tmp 66) (.tmp 68) _ rfl wo.heap.size 5 i0 _ 1 1 Tryz.underlying119 hi0 hz0 hz1 hz2 rfl (by omega) u8 b.length (b.map byteV) rfl (hown2.alloc _) ⟨wr.heap.size, 0, none⟩ 1 1 [.int .u8 47] rfl rfl (one_newP _ _ _) (one_cellP _ rfl) (by unfold maxLen; omega) (by omega) (by simp; omega) ?_; intro v9 w9 hown9 hgr9 hnil9)
                      go_wp2
                      go_roundg (s.size - (k + 2))
                      case measure => omega
                      case rel => exact ⟨k + 2, b ++ [47], by omega, by omega, rfl, by go_num, by simp; omega, Lib.hid HR.out.symm, by simpa [byteV] using hown9, (hbw2.alloc hbw2.size _).grown hgr9 (by have := hbw2.size; simp; omega) (fun q hq => (hown2.lt q hq).1)⟩
                    · have hres := hrun2.out.symm.trans (run_at_bad ts b hk2 h126 h48 h49)
                      have H := Lib.hid (refP_err (w' := wr) (parse_run_err HW.out hres) (below_chain hbw hbw.size hbw2))
                      have e4 : ((s[k + 1].toNat : Int) != 49) = true := by simpa using h49
                      clear hrun2 h126 h48 h47 h49 hres
                      go_wp2
                      go_ret3
                      exact H.out
                · have e2 : ((k : Int) + 1 == (s.size : Int)) = true := by rw [beq_iff_eq]; omega
                  have hres := hrun2.out.symm.trans (run_at_end ts b hk1 h126 hk2)
                  have H := Lib.hid (refP_err (w' := wr) (parse_run_err HW.out hres) (below_chain hbw hbw.size hbw2))
                  clear hrun2 h126 h47 hres
                  go_wp2
                  go_ret3
                  exact H.out
              · have HR := Lib.hid (hrun2.out.symm.trans (run_at ts b hk1 h47 h126))
                have e126 : ((s[k].toNat : Int) == 126) = false := by simpa using h126
                have hbb : b.length + 1 ≤ 2147483648 := by omega
                have hbs := hbw2.size
                clear hrun2 h126 h47
                go_wp2_with (at_builtin; refine wpList_append_own _ rfl (.tmp 66) (.tmp 68) _ rfl wo.heap.size 5 i0 _ 1 1 Tryz.underlying119 hi0 hz0 hz1 hz2 rfl (by omega) u8 b.length (b.map byteV) rfl (hown2.alloc _) ⟨wr.heap.size, 0, none⟩ 1 1 [byteV s[k]] rfl rfl (one_newP _ _ _) (one_cellP _ rfl) (by unfold maxLen; omega) (by omega) (by simp; omega) ?_; intro v9 w9 hown9 hgr9 hnil9)
                go_wp2
                go_roundg (s.size - (k + 1))
                case measure => omega
                case rel => exact ⟨k + 1, b ++ [s[k]], by omega, by omega, rfl, by go_num, by simp; omega, Lib.hid HR.out.symm, by simpa [byteV] using hown9, (hbw2.alloc hbw2.size _).grown hgr9 (by have := hbw2.size; simp; omega) (fun q hq => (hown2.lt q hq).1)⟩
            · have hst : Stroke (s.data.toList.drop k) := by
                by_cases h : k < s.size
                · rw [drop_at h, byte_eq 47 rfl (Classical.byContradiction fun h' => hin ⟨h, h'⟩)]
                  exact .inr ⟨_, rfl⟩
                · rw [List.drop_eq_nil_of_le (by show s.size ≤ _; omega)]
                  exact .inl rfl
              have HR := Lib.hid (hrun2.out.symm.trans (run_close ts b k hst))
              have hown6 := own_below hown hbw2
              have hcv := conv_own wr _ _ b hown2
              have hbs := hbw2.size
              have hbs0 := hbw.size
              have hway : (∃ h : k < s.size, ((s[k].toNat : Int) != 47) = false) ∨ s.size ≤ k := by
                by_cases h : k < s.size
                · have : (s[k].toNat : Int) = 47 := Classical.byContradiction fun h' => hin ⟨h, h'⟩
                  exact .inl ⟨h, by simp [this]⟩
                · exact .inr (by omega)
              clear hrun2 hin hst hown2
              rcases hway with ⟨hk1, e47⟩ | hk1
              all_goals
                go_wp2_with (at_builtin; refine wpList_append_own _ rfl (.tmp 70) (.tmp 73) _ rfl w.heap.size 9 j0 _ 1 16 Tryz.underlying30 hj0 hy0 hy1 hy2 rfl (by omega) u6 ts.length (ts.map strV) rfl (hown6.alloc _) ⟨wr.heap.size, 0, none⟩ 1 1 [strV b] rfl rfl (one_newP _ _ _) (one_cellP _ rfl) (by unfold maxLen; omega) (by omega) (by simp; omega) ?_; intro v9 w9 hown9 hgr9 hnil9)
                go_wp2
                go_roundg (s.size - k)
                case measure => omega
                case rel => exact ⟨k, ts ++ [b], by omega, rfl, rfl, by simp; omega, Lib.hid HR.out.symm, by simpa using hown9, ((below_chain hbw hbs0 hbw2).alloc (by omega) _).grown hgr9 (by simp; omega) (fun q hq => (hown6.lt q hq).1)⟩
        · have hres : run [] none s.data.toList 0 = .error i := by
            rw [← hrun.out, drop_at hlt, run_none, if_neg (byte_ne 47 rfl h47)]
          have H := Lib.hid (refP_err (w' := wo) (parse_run_err HW.out hres) hbw)
          have e47 : ((s[i].toNat : Int) != 47) = true := by simpa using h47
          clear hres h47
          go_wp2
          go_ret3
          exact H.out
      · have hres : run [] none s.data.toList 0 = .ok ts := by
          rw [← hrun.out, List.drop_eq_nil_of_le (by show s.size ≤ _; omega)]
          rfl
        have hp := parse_run_ok HW.out hres
        by_cases hl : 65536 < ts.length
        · rw [if_pos hl] at hp
          have H := Lib.hid (refP_err (w' := wo) hp hbw)
          clear hp hres
          obtain ⟨A6, C6, hv6⟩ := own_sliceP hown
          subst hv6
          go_wp2
          go_ret3
          exact H.out
        · rw [if_neg hl] at hp
          have H := Lib.hid (refP_ok (w' := wo) hp hbw hown)
          clear hp hres
          obtain ⟨A6, C6, hv6⟩ := own_sliceP hown
          subst hv6
          go_wp2
          go_ret3
          exact H.out
  · have hc : checkR s.data.toList = (wrong s.data.toList).2 := by rw [checkR, if_neg hw]
    rw [hc]
    have H := Lib.hid (refP_err (w' := w) (parse_utf s.data.toList hw) (Below.refl _ _))
    clear hw hc
    go_wp2
    go_ret3
    exact H.out
end Go.Proofs.YtfhchnkoggdilaaGreatDoor
