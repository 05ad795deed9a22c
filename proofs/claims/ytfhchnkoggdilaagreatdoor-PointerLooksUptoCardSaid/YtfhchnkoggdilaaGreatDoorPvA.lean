/-
  Walks of package pointer: Parse.
-/
import Derived.Test.YtfhchnkoggdilaaGreatDoorShelf
import Derived.Test.YtfhchnkoggdilaaGreatDoorRdL
import Derived.Test.YtfhchnkoggdilaaGreatDoorTok
namespace Go.Proofs.YtfhchnkoggdilaaGreatDoor
open Go.RowKit Mem Utf Ref3 Tok
set_option linter.unusedVariables false

/-- bytealg.MaxLen is an int: what the searches read -/
def Glob (w : World) : Prop := ∃ m : Int, w.cell? ⟨1, 0, none⟩ = some (.int .i64 m)
theorem Glob.below {w w' : World} {B : Nat} (h : Glob w) (hb : Below B w w') (hB : 1 < B) : Glob w' := by
  obtain ⟨m, hm⟩ := h
  exact ⟨m, (hb.cell (by exact hB)).trans hm⟩
theorem ta_nil (w : World) : (Instr.typeAssert .nilIface 25 122 true).run Tryz.prog w = .ok (.tuple #[.nilIface, .bool false]) w := by kernel_rfl
theorem ta_spot (v : Value) (w : World) : (Instr.typeAssert (.iface 79 v) 25 122 true).run Tryz.prog w = .ok (.tuple #[.iface 79 v, .bool true]) w := by kernel_rfl
theorem info_str : (Tryz.prog.info? 9).map (fun i => (i.zero, i.size, i.bytes)) = some (some (.string ByteArray.empty), 1, 16) := by kernel_rfl
/-- ReplaceAll where the text is of less than 2^32 bytes and what is put is no longer than two bytes -/
theorem ra_any (l : List UInt8) (old new : ByteArray) (m : Int) (w : World) (hs : l.length ≤ 4294967280) (hm : w.cell? ⟨1, 0, none⟩ = some (.int .i64 m)) (h1 : 1 ≤ old.size) (h2 : new.size ≤ 2) :
    Calls Tryz.prog 31 #[.string ⟨l.toArray⟩, .string old, .string new] w fun e w' =>
      e = .returned (.string ⟨(Lib.replaceAll l old.data.toList new.data.toList).toArray⟩) ∧ Below w.heap.size w w' := by
  have hc := Lib.countB_le old h1 l.length ⟨l.toArray⟩ (Nat.le_refl _)
  have hz : (ByteArray.mk l.toArray).size = l.length := rfl
  rw [hz] at hc
  have hmul : Lib.countB ⟨l.toArray⟩ old * new.size ≤ l.length * 2 := Nat.mul_le_mul hc h2
  exact Tryz.strings_ReplaceAll ⟨l.toArray⟩ old new m w (by rw [hz]; omega) hm h1 (by rw [hz]; omega)
def strV (l : List UInt8) : Value := .string ⟨l.toArray⟩
def errV (n a : Int) : Value := if a < 0 then .iface 51 (.int .i64 n) else spotV n a
def ParseP (l : List UInt8) (w : World) (e : Ending) (w' : World) : Prop :=
  Below w.heap.size w w' ∧ (∀ x, parseS (wrong l) l = .error x → e = .returned (.tuple #[.slice none 0 0, errV x.1 x.2])) ∧
  (∀ ts, parseS (wrong l) l = .ok ts → ∃ v, e = .returned (.tuple #[v, .nilIface]) ∧ w'.ownsRow w.heap.size 9 1 v ts.length (ts.map strV))

namespace Tok
theorem byte_is (c : UInt8) (n : UInt8) : ((c.toNat : Int) = (n.toNat : Int)) ↔ c = n := by
  rw [Int.ofNat_inj, UInt8.toNat_inj]
theorem badT_at {s : ByteArray} {k : Nat} (hk : k < s.size) : badT (s.data.toList.drop k) k =
    if (s[k].toNat : Int) = 126 then (if h : k + 1 < s.size then (if (s[k + 1].toNat : Int) = 48 ∨ (s[k + 1].toNat : Int) = 49 then badT (s.data.toList.drop (k + 1)) (k + 1) else some (k + 1)) else some (k + 1))
    else badT (s.data.toList.drop (k + 1)) (k + 1) := by
  have hk' : k < s.data.toList.length := hk
  have e0 : s.data.toList.drop k = s[k] :: s.data.toList.drop (k + 1) := List.drop_eq_getElem_cons hk'
  have is126 : (s[k].toNat : Int) = 126 ↔ s[k] = 126 := byte_is _ 126
  rw [e0]
  by_cases hc : s[k] = 126
  · rw [if_pos (is126.2 hc), hc]
    by_cases h : k + 1 < s.size
    · have h' : k + 1 < s.data.toList.length := h
      have e1 : s.data.toList.drop (k + 1) = s[k + 1] :: s.data.toList.drop (k + 1 + 1) := List.drop_eq_getElem_cons h'
      have is48 : (s[k + 1].toNat : Int) = 48 ↔ s[k + 1] = 48 := byte_is _ 48
      have is49 : (s[k + 1].toNat : Int) = 49 ↔ s[k + 1] = 49 := byte_is _ 49
      rw [dif_pos h, e1, badT_two, ← e1]
      by_cases hx : s[k + 1] = 48 ∨ s[k + 1] = 49
      · rw [if_pos hx, if_pos (by rcases hx with hx | hx; exact .inl (is48.2 hx); exact .inr (is49.2 hx))]
      · rw [if_neg hx, if_neg (by rintro (h | h); exact hx (.inl (is48.1 h)); exact hx (.inr (is49.1 h)))]
    · have e1 : s.data.toList.drop (k + 1) = [] := List.drop_eq_nil_of_le (by show s.size ≤ _; omega)
      rw [dif_neg h, e1]
      rfl
  · rw [if_neg (fun h => hc (is126.1 h)), badT_not hc]
theorem toList_size (s : ByteArray) : s.toList.length = s.size := by rw [ByteArray.toList_eq]; rfl
theorem toList_pos {s : ByteArray} (h : 0 < s.size) : ¬ s.toList = [] := fun e => by
  have := toList_size s
  rw [e] at this
  simp at this
  omega
theorem stroke_of {s : ByteArray} (h : 0 < s.size) (h0 : (s[0].toNat : Int) = 47) : Stroke s.data.toList := by
  have h' : 0 < s.data.toList.length := h
  have e0 : s.data.toList.drop 0 = s[0] :: s.data.toList.drop (0 + 1) := List.drop_eq_getElem_cons h'
  rw [List.drop_zero, (byte_is _ 47).1 h0] at e0
  exact .inr ⟨_, e0⟩
theorem head_of {s : ByteArray} (h : 0 < s.size) (h0 : ¬ (s[0].toNat : Int) = 47) : ∃ c t, s.data.toList = c :: t ∧ c ≠ 47 := by
  have h' : 0 < s.data.toList.length := h
  have e0 : s.data.toList.drop 0 = s[0] :: s.data.toList.drop (0 + 1) := List.drop_eq_getElem_cons h'
  exact ⟨_, _, e0, fun e => h0 ((byte_is _ 47).2 e)⟩
end Tok
theorem parseP_err {l : List UInt8} {n a : Int} (h : parseS (wrong l) l = .error (n, a)) {w w' : World} (hb : Below w.heap.size w w') : ParseP l w (.returned (.tuple #[.slice none 0 0, errV n a])) w' := by
  refine ⟨hb, fun x hx => ?_, fun ts hx => ?_⟩
  · rw [h] at hx
    injection hx with hx
    rw [← hx]
  · rw [h] at hx
    cases hx
theorem errV_at (n : Int) {a : Int} (h : ¬ a < 0) : errV n a = .iface 79 (.agg #[.int .i64 n, .int .i64 a]) := by rw [errV, if_neg h]; rfl
theorem errV_no (n : Int) : errV n (-1) = .iface 51 (.int .i64 n) := rfl

theorem meth_place (k : Nat) (v : Value) (w : World) : (method (k + 1) 79 v "Place").run Tryz.prog w = .ok (181, v) w := by kernel_rfl
theorem call_place (args : Array Value) (w : World) : (callFunc 181 args).run Tryz.prog w = .ok (.enter 181 args) w := by kernel_rfl
theorem place_any (n a : Int) (w : World) : Calls Tryz.prog 181 #[.agg #[.int .i64 n, .int .i64 a]] w fun e w' => e = .returned (.int .i64 a) ∧ Below w.heap.size w w' := by
  go_enter Tryz.func181, Tryz.ntmps181
  go_wp2
  go_ret
  exact ⟨rfl, (Below.refl _ _).alloc (Nat.le_refl _) _⟩
theorem parseP_spot {l : List UInt8} {n a : Int} (h : parseS (wrong l) l = .error (n, a)) (ha : 0 ≤ a) {w w' : World} (hb : Below w.heap.size w w') :
    ParseP l w (.returned (.tuple #[.slice none 0 0, .iface 79 (.agg #[.int .i64 n, .int .i64 a])])) w' := by
  have := parseP_err h hb
  rwa [errV_at n (by omega)] at this
theorem parseP_no {l : List UInt8} {n : Int} (h : parseS (wrong l) l = .error (n, -1)) {w w' : World} (hb : Below w.heap.size w w') :
    ParseP l w (.returned (.tuple #[.slice none 0 0, .iface 51 (.int .i64 n)])) w' := parseP_err h hb
theorem parseP_ok {l : List UInt8} {ts : List (List UInt8)} (h : parseS (wrong l) l = .ok ts) {w w' : World} {v : Value} (hb : Below w.heap.size w w')
    (ho : w'.ownsRow w.heap.size 9 1 v ts.length (ts.map strV)) : ParseP l w (.returned (.tuple #[v, .nilIface])) w' := by
  refine ⟨hb, fun x hx => ?_, fun ts' hx => ?_⟩
  · rw [h] at hx
    cases hx
  · rw [h] at hx
    injection hx with hx
    rw [← hx]
    exact ⟨v, rfl, ho⟩

/-- how it stands while tokens are cut out: what is left, the tokens that came -/
def LoopR (s : ByteArray) (w : World) (c0 c7 : Value) (wr : World) : Prop :=
  ∃ (r : ByteArray) (ts : List (List UInt8)), r.size ≤ s.size ∧ c0 = .string r ∧ Stroke r.data.toList ∧
    Hid (ts ++ splitF r.data.toList.length r.data.toList = splitF s.data.toList.length s.data.toList) ∧ wr.ownsRow w.heap.size 9 1 c7 ts.length (ts.map strV) ∧ Below w.heap.size w wr
theorem LoopR.start {s : ByteArray} {w w1 : World} (hs : Stroke s.data.toList) (hb : Below w.heap.size w w1) : LoopR s w (.string s) (.slice none 0 0) w1 :=
  ⟨s, [], Nat.le_refl _, rfl, hs, Lib.hid rfl, World.ownsRow_nil _ _ _ _, hb⟩
def strLen : Value → Nat | .string r => r.size | _ => 0

set_option maxRecDepth 100000 in
set_option maxHeartbeats 8000000 in
theorem parse_any (s : ByteArray) (hs : s.size ≤ 2147483648) (w : World) (hg : Glob w) :
    Calls Tryz.prog 18 #[.string s] w (ParseP s.data.toList w) := by
  have kc := fun (W : World) => Lib.run_convert_string_bytes (P := Tryz.prog) W 9 119 5 s Tryz.underlying9 Tryz.underlying119 Tryz.underlying5
  have t1 := ta_nil
  have t3 := fun (v : Value) (w : World) => meth_place 384 v w
  have t4 := fun (args : Array Value) (w : World) => call_place args w
  have t2 := ta_spot
  go_enter Tryz.func18, Tryz.ntmps18
  go_wp2_with fail
  refine (check_any _ s.data.toList s.size _ _ rfl (by omega) (conv_reads w _ s)).mono ?_
  rintro e w1 ⟨rfl, hb⟩
  replace hb := hb.toBelow
  have hb' := (conv_below w 5 s).toBelow.trans (hb.mono (by rw [Lib.bytesWorld_size]; omega))
  clear hb kc
  rw [UtfLaw.chk_wrong]
  by_cases hw : (wrong s.data.toList).1 = 0
  · rw [if_pos hw]
    have HW := Lib.hid hw
    clear hw
    by_cases hcase : ∃ h : 0 < s.size, ¬ (s[0].toNat : Int) = 47
    · obtain ⟨hpos, h47⟩ := hcase
      have hnil : (!s.toList.isEmpty) = true := by simpa using toList_pos hpos
      have h47' : ((s[0].toNat : Int) != 47) = true := by simpa using h47
      obtain ⟨c, t, hct, hc⟩ := head_of hpos h47
      have H := Lib.hid (parseP_err (l := s.data.toList) (n := 130) (a := 0) (w' := w1) (by rw [hct]; exact parse_head t (by rw [← hct]; exact HW.out) hc) hb')
      clear h47 hct
      go_wp2
      go_ret2
      exact H.out
    · have hst : Stroke s.data.toList := by
        by_cases hpos : 0 < s.size
        · exact stroke_of hpos (Classical.byContradiction fun h => hcase ⟨hpos, h⟩)
        · exact .inl (List.eq_nil_of_length_eq_zero (by show s.size = 0; omega))
      have hway : Hid (s.toList = []) ∨ ∃ h : 0 < s.size, Hid ((!s.toList.isEmpty) = true ∧ ((s[0].toNat : Int) != 47) = false) := by
        by_cases hpos : 0 < s.size
        · exact .inr ⟨hpos, Lib.hid ⟨by simpa using toList_pos hpos, by
            have : (s[0].toNat : Int) = 47 := Classical.byContradiction fun h => hcase ⟨hpos, h⟩
            simp [this]⟩⟩
        · refine .inl (Lib.hid ?_)
          have h0 : s.size = 0 := by omega
          exact Classical.byContradiction fun h => by
            have := toList_size s
            have h1 : 0 < s.toList.length := List.length_pos_iff.2 h
            omega
      clear hcase
      have hg1 := hg.below hb' (by obtain ⟨m, hm⟩ := hg; exact World.block_lt_of_cell? w _ hm)
      go_upto_region 4 with fail
      go_cut [29] (fun c29 wx => c29 = .bool false ∧ wx = w1)
      case first =>
        rcases hway with hway | ⟨hpos, hway⟩
        · have hnil := hway.out
          go_wp2_with fail
          go_meet
          exact ⟨rfl, rfl⟩
        · have hnil := hway.out.1
          have h47' := hway.out.2
          go_wp2_with fail
          go_meet
          exact ⟨rfl, rfl⟩
      case rest =>
        obtain ⟨rfl, rfl⟩ := hcut
        go_wp2
        go_loop [34] (fun c => ∃ k : Nat, k ≤ s.size ∧ c = .int .i64 k ∧ Hid (badT (s.data.toList.drop k) k = badT s.data.toList 0)) (fun c => s.size - (intOf c).toNat)
        case atStart => exact ⟨0, by omega, rfl, Lib.hid rfl⟩
        case round =>
          obtain ⟨k, hk, rfl, HB⟩ := hrel
          by_cases hlt : k < s.size
          · have hat := badT_at hlt
            rw [HB.out] at hat
            by_cases h126 : (s[k].toNat : Int) = 126
            · rw [if_pos h126] at hat
              have e1 : ((s[k].toNat : Int) == 126) = true := by simpa using h126
              clear h126
              by_cases hnx : k + 1 < s.size
              · rw [dif_pos hnx] at hat
                have e2 : ((k : Int) + 1 == (s.size : Int)) = false := by rw [beq_eq_false_iff_ne]; omega
                by_cases hx : (s[k + 1].toNat : Int) = 48 ∨ (s[k + 1].toNat : Int) = 49
                · rw [if_pos hx] at hat
                  have H := Lib.hid hat
                  clear hat
                  rcases hx with hx | hx
                  · have e3 : ((s[k + 1].toNat : Int) != 48) = false := by simpa using hx
                    clear hx
                    go_wp2
                    go_round
                    case rel => exact ⟨k + 1, by omega, by go_num, Lib.hid H.out.symm⟩
                    case measure => simp [intOf]; omega
                  · have e3 : ((s[k + 1].toNat : Int) != 48) = true := by rw [hx]; decide
                    have e4 : ((s[k + 1].toNat : Int) != 49) = false := by simpa using hx
                    clear hx
                    go_wp2
                    go_round
                    case rel => exact ⟨k + 1, by omega, by go_num, Lib.hid H.out.symm⟩
                    case measure => simp [intOf]; omega
                · rw [if_neg hx] at hat
                  have H := Lib.hid (parseP_spot (w' := wc) (parse_bad HW.out hst hat) (by omega) hb')
                  have e3 : ((s[k + 1].toNat : Int) != 48) = true := by simpa using fun h => hx (.inl h)
                  have e4 : ((s[k + 1].toNat : Int) != 49) = true := by simpa using fun h => hx (.inr h)
                  clear hx hat
                  go_wp2
                  go_ret2
                  exact H.out
              · rw [dif_neg hnx] at hat
                have e2 : ((k : Int) + 1 == (s.size : Int)) = true := by rw [beq_iff_eq]; omega
                have H := Lib.hid (parseP_spot (w' := wc) (parse_bad HW.out hst hat) (by omega) hb')
                clear hat
                go_wp2
                go_ret2
                exact H.out
            · rw [if_neg h126] at hat
              have H := Lib.hid hat
              have e1 : ((s[k].toNat : Int) == 126) = false := by simpa using h126
              clear hat h126
              go_wp2
              go_round
              case rel => exact ⟨k + 1, by omega, by go_num, Lib.hid H.out.symm⟩
              case measure => simp [intOf]; omega
          · obtain rfl : k = s.size := by omega
            have hbn : badT s.data.toList 0 = none := by
              rw [← HB.out, List.drop_eq_nil_of_le (by show s.data.toList.length ≤ s.size; exact Nat.le_refl _)]
              rfl
            have HN := Lib.hid hbn
            clear hbn
            go_wp2_with fail
            refine (Tryz.strings_Count_one s 47 _).mono ?_
            rintro e w2 ⟨rfl, rfl⟩
            have hcount : Lib.countByte s.data.toList 47 = s.data.toList.count 47 := rfl
            obtain ⟨N, hN⟩ : ∃ N, s.data.toList.count 47 = N := ⟨_, rfl⟩
            rw [hcount, hN]
            have HC := Lib.hid hN
            clear hN hcount
            by_cases hlong : 65536 < N
            · have H := Lib.hid (parseP_no (w' := w2) (parse_long HW.out hst HN.out (by rw [HC.out]; exact hlong)) hb')
              go_wp2
              go_ret2
              exact H.out
            · have H := Lib.hid (parse_good HW.out hst HN.out (by rw [HC.out]; exact hlong))
              clear HN
              go_wp2
              go_loopw [0, 7] (fun c0 c7 wr => LoopR s w c0 c7 wr) (fun c0 _ _ => strLen c0)
              case atStart => exact LoopR.start hst hb'
              case round =>
                obtain ⟨r, ts, hr0, rfl, hrs, hsp, hown, hbw⟩ := hrel
                have hsize : 1 < w.heap.size := by obtain ⟨m, hm⟩ := hg; exact World.block_lt_of_cell? w _ hm
                obtain ⟨m, hm⟩ := hg.below hbw hsize
                by_cases hpos : 0 < r.size
                · have hnil : (!r.toList.isEmpty) = true := by simpa using toList_pos hpos
                  obtain ⟨t, hrt⟩ : ∃ t, r.data.toList = 47 :: t := by
                    rcases hrs with h | h
                    · exact absurd (congrArg List.length h) (by show ¬ r.size = 0; omega)
                    · exact h
                  have hext : (r.extract 1 r.size).data.toList = t := by rw [Lib.extract_to_end, hrt]; rfl
                  have hrsz : r.size = t.length + 1 := congrArg List.length hrt
                  have hstep := split_step t
                  have htl := token_le t
                  have hrest := token_rest t
                  have hsp1 := hsp.out
                  rw [hrt, hstep] at hsp1
                  have hlen := congrArg List.length hsp1
                  rw [List.length_append, splitF_count _ _ (Nat.le_refl _) hst, HC.out, List.length_cons] at hlen
                  have Hsp := Lib.hid hsp1
                  clear hsp hsp1 hstep
                  have Hrt := Lib.hid hrt
                  clear hrt hrs
                  have htn : ts.length + 1 ≤ 65536 := by omega
                  have ht31 : t.length ≤ 2147483648 := by omega
                  have Hlen := Lib.hid hrsz
                  have hrsz' : t.length + 1 ≤ r.size := by omega
                  clear hlen hrsz
                  go_wp2_with fail
                  refine (Tryz.strings_Cut (r.extract 1 r.size) ⟨#[47]⟩ m wr ?c1 hm).mono ?_
                  case c1 => show (r.extract 1 r.size).data.toList.length < _; rw [hext]; omega
                  rintro e w3 ⟨rfl, n3, rfl⟩
                  rw [hext]
                  have htok : (Lib.cut t [47]).1 = token t := rfl
                  show _
                  generalize hA : Lib.cut t (ByteArray.mk #[47]).data.toList = cc
                  have hA1 : cc.1 = token t := by rw [← hA]; rfl
                  rw [hA1]
                  clear hA hA1 htok hext
                  generalize htk : token t = tk at *
                  have Htk := Lib.hid htk
                  clear htk
                  go_wp2_with fail
                  refine (ra_any tk ⟨#[126, 49]⟩ ⟨#[47]⟩ m _ (by omega) (by exact hm) (by decide) (by decide)).mono ?_
                  rintro e w4 ⟨rfl, hb4⟩
                  have hsz4 : wr.heap.size ≤ w4.heap.size := hb4.size
                  have hm4 : w4.cell? ⟨1, 0, none⟩ = some (.int .i64 m) := (hb4.cell (p := ⟨1, 0, none⟩) (Nat.lt_of_lt_of_le hsize hbw.size)).trans hm
                  have hl4 : (Lib.replaceAll tk [126, 49] [47]).length ≤ tk.length := ra_len (by decide) (by decide) (by decide) _ _ (Nat.le_refl _)
                  rw [show (ByteArray.mk #[126, 49]).data.toList = [126, 49] from rfl, show (ByteArray.mk #[47]).data.toList = [47] from rfl]
                  generalize hq : Lib.replaceAll tk [126, 49] [47] = q at hl4 ⊢
                  have Hq := Lib.hid hq
                  clear hq
                  go_wp2_with fail
                  refine (ra_any q ⟨#[126, 48]⟩ ⟨#[126]⟩ m _ (by omega) hm4 (by decide) (by decide)).mono ?_
                  rintro e w5 ⟨rfl, hb5⟩
                  rw [show (ByteArray.mk #[126, 48]).data.toList = [126, 48] from rfl, show (ByteArray.mk #[126]).data.toList = [126] from rfl]
                  have hq2 : Lib.replaceAll q [126, 48] [126] = unescP tk := by rw [← Hq.out]; rfl
                  rw [hq2]
                  clear hq2 hm4 hl4
                  generalize hu : unescP tk = u at Hsp ⊢
                  have Hu := Lib.hid hu
                  clear hu
                  have hb4' : Below wr.heap.size wr w4 := (drewN_below wr n3).trans hb4
                  have hbB : Below w.heap.size w w5 := below_chain (below_chain hbw hbw.size hb4') (Nat.le_trans hbw.size hsz4) hb5
                  have hown5 : w5.ownsRow w.heap.size 9 1 u7 ts.length (ts.map strV) := own_below (own_below hown hb4') hb5
                  have hsz5 : w.heap.size ≤ w5.heap.size := hbB.size
                  clear hb4 hb4' hb5 hsz4 hown hbw
                  obtain ⟨i0, hi0, hz0, hz1, hz2⟩ := info_parts info_str
                  go_wp2_with (at_builtin; refine wpList_append_own _ rfl (.tmp 85) (.tmp 89) _ rfl w.heap.size 9 i0 _ 1 16 Tryz.underlying30 hi0 hz0 hz1 hz2 rfl (by omega) u7 ts.length (ts.map strV) rfl (hown5.alloc _) ⟨w5.heap.size, 0, none⟩ 1 1 [strV u] rfl rfl ?d1 ?d2 ?d3 ?d4 ?d5 ?_)
                  case d1 =>
                    intro j x hj
                    match j, hj with
                    | 0, hj =>
                      injection hj with hj
                      subst hj
                      exact Blk.cell (Blk.new w5 9 #[strV u]) 0
                    | j + 1, hj => cases hj
                  case d2 => simp [strV, Value.oneCell']
                  case d3 => unfold maxLen; omega
                  case d4 => omega
                  case d5 => simp; omega
                  intro v6 w6 hown6 hgr6 hnil6
                  go_wp2
                  go_roundw
                  case rel =>
                    have hext2 : (r.extract (1 + tk.length) r.size).data.toList = t.drop tk.length := by
                      rw [Lib.extract_to_end, Hrt.out, Nat.add_comm, List.drop_succ_cons]
                    have hsz2 : (r.extract (1 + tk.length) r.size).size ≤ s.size := by
                      show (r.extract (1 + tk.length) r.size).data.toList.length ≤ s.size
                      rw [hext2, List.length_drop]
                      omega
                    refine ⟨r.extract (1 + tk.length) r.size, ts ++ [u], hsz2, rfl, by rw [hext2]; exact hrest, Lib.hid ?_, by simpa using hown6, (hbB.alloc hsz5 _).grown hgr6 (by simp; omega) (fun k hk => (hown5.lt k hk).1)⟩
                    rw [hext2, List.append_assoc]
                    exact Hsp.out
                  case measure =>
                    show (r.extract (1 + tk.length) r.size).size < r.size
                    rw [ByteArray.size_extract]
                    omega
                · have hnil : r.toList = [] := by
                    rw [ByteArray.toList_eq]
                    exact List.eq_nil_of_length_eq_zero (by show r.size = 0; omega)
                  have hres : ts = splitF s.data.toList.length s.data.toList := by
                    rw [← hsp.out, ← ByteArray.toList_eq, hnil, splitF_nil, List.append_nil]
                  have HR := Lib.hid (parseP_ok (H.out.trans (congrArg Except.ok hres.symm)) hbw hown)
                  clear hres hsp
                  go_wp2
                  go_ret2
                  exact HR.out
  · rw [if_neg hw]
    unfold spotV
    go_wp2_with fail
    refine (place_any _ _ _).mono ?_
    rintro e w2 ⟨rfl, hb2⟩
    have H := Lib.hid (parseP_spot (w' := w2) (parse_utf s.data.toList hw) (wrong_place s.data.toList) (below_chain hb' hb'.size hb2))
    clear hb2
    go_wp2
    go_ret2
    exact H.out
end Go.Proofs.YtfhchnkoggdilaaGreatDoor
