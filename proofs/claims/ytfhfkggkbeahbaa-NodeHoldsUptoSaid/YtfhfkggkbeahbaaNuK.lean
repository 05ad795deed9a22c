/-
  Assertions of a told value to the six types and to the three kinds; Keys and Len of the told groups.
-/
import Derived.Test.YtfhfkggkbeahbaaNuF
import Derived.LoopTactic
import Derived.Stop.Asserts
namespace Go.Proofs.Ytfhfkggkbeahbaa
open Go.RowKit Mem
set_option linter.unusedVariables false
namespace Nd

theorem tb_0_0  (W : World) : (Instr.typeAssert (.iface 106 (.agg #[])) 56 106 true).run Try.prog W = .ok (.tuple #[.agg #[], .bool true]) W := by kernel_rfl
theorem tb_0_1  (W : World) : (Instr.typeAssert (.iface 106 (.agg #[])) 56 107 true).run Try.prog W = .ok (.tuple #[.bool false, .bool false]) W := by kernel_rfl
theorem tb_0_2  (W : World) : (Instr.typeAssert (.iface 106 (.agg #[])) 56 104 true).run Try.prog W = .ok (.tuple #[.float .f64 0, .bool false]) W := by kernel_rfl
theorem tb_0_3  (W : World) : (Instr.typeAssert (.iface 106 (.agg #[])) 56 75 true).run Try.prog W = .ok (.tuple #[.string ⟨#[]⟩, .bool false]) W := by kernel_rfl
theorem tb_0_4  (W : World) : (Instr.typeAssert (.iface 106 (.agg #[])) 56 53 true).run Try.prog W = .ok (.tuple #[.slice none 0 0, .bool false]) W := by kernel_rfl
theorem tb_0_5  (W : World) : (Instr.typeAssert (.iface 106 (.agg #[])) 56 100 true).run Try.prog W = .ok (.tuple #[.slice none 0 0, .bool false]) W := by kernel_rfl
theorem tk_0_0  (W : World) : (Instr.typeAssert (.iface 106 (.agg #[])) 56 91 true).run Try.prog W = .ok (.tuple #[.iface 106 (.agg #[]), .bool true]) W := by kernel_rfl
theorem tk_0_1  (W : World) : (Instr.typeAssert (.iface 106 (.agg #[])) 56 94 true).run Try.prog W = .ok (.tuple #[.nilIface, .bool false]) W := run_typeAssert_lacksB Try.underlying94 (by kernel_rfl) (by kernel_rfl) _ _ W
theorem tk_0_2  (W : World) : (Instr.typeAssert (.iface 106 (.agg #[])) 56 97 true).run Try.prog W = .ok (.tuple #[.nilIface, .bool false]) W := run_typeAssert_lacksB Try.underlying97 (by kernel_rfl) (by kernel_rfl) _ _ W
theorem vn_0  (W : World) : (binOp .eql 56 (.iface 106 (.agg #[])) .nilIface).run Try.prog W = .ok (.bool false) W := by kernel_rfl
theorem tb_1_0 (b : Bool) (W : World) : (Instr.typeAssert (.iface 107 (.bool b)) 56 106 true).run Try.prog W = .ok (.tuple #[.agg #[], .bool false]) W := by kernel_rfl
theorem tb_1_1 (b : Bool) (W : World) : (Instr.typeAssert (.iface 107 (.bool b)) 56 107 true).run Try.prog W = .ok (.tuple #[.bool b, .bool true]) W := by kernel_rfl
theorem tb_1_2 (b : Bool) (W : World) : (Instr.typeAssert (.iface 107 (.bool b)) 56 104 true).run Try.prog W = .ok (.tuple #[.float .f64 0, .bool false]) W := by kernel_rfl
theorem tb_1_3 (b : Bool) (W : World) : (Instr.typeAssert (.iface 107 (.bool b)) 56 75 true).run Try.prog W = .ok (.tuple #[.string ⟨#[]⟩, .bool false]) W := by kernel_rfl
theorem tb_1_4 (b : Bool) (W : World) : (Instr.typeAssert (.iface 107 (.bool b)) 56 53 true).run Try.prog W = .ok (.tuple #[.slice none 0 0, .bool false]) W := by kernel_rfl
theorem tb_1_5 (b : Bool) (W : World) : (Instr.typeAssert (.iface 107 (.bool b)) 56 100 true).run Try.prog W = .ok (.tuple #[.slice none 0 0, .bool false]) W := by kernel_rfl
theorem tk_1_0 (b : Bool) (W : World) : (Instr.typeAssert (.iface 107 (.bool b)) 56 91 true).run Try.prog W = .ok (.tuple #[.iface 107 (.bool b), .bool true]) W := by kernel_rfl
theorem tk_1_1 (b : Bool) (W : World) : (Instr.typeAssert (.iface 107 (.bool b)) 56 94 true).run Try.prog W = .ok (.tuple #[.nilIface, .bool false]) W := run_typeAssert_lacksB Try.underlying94 (by kernel_rfl) (by kernel_rfl) _ _ W
theorem tk_1_2 (b : Bool) (W : World) : (Instr.typeAssert (.iface 107 (.bool b)) 56 97 true).run Try.prog W = .ok (.tuple #[.nilIface, .bool false]) W := run_typeAssert_lacksB Try.underlying97 (by kernel_rfl) (by kernel_rfl) _ _ W
theorem vn_1 (b : Bool) (W : World) : (binOp .eql 56 (.iface 107 (.bool b)) .nilIface).run Try.prog W = .ok (.bool false) W := by kernel_rfl
theorem tb_2_0 (x : Nat) (W : World) : (Instr.typeAssert (.iface 104 (.float .f64 x)) 56 106 true).run Try.prog W = .ok (.tuple #[.agg #[], .bool false]) W := by kernel_rfl
theorem tb_2_1 (x : Nat) (W : World) : (Instr.typeAssert (.iface 104 (.float .f64 x)) 56 107 true).run Try.prog W = .ok (.tuple #[.bool false, .bool false]) W := by kernel_rfl
theorem tb_2_2 (x : Nat) (W : World) : (Instr.typeAssert (.iface 104 (.float .f64 x)) 56 104 true).run Try.prog W = .ok (.tuple #[.float .f64 x, .bool true]) W := by kernel_rfl
theorem tb_2_3 (x : Nat) (W : World) : (Instr.typeAssert (.iface 104 (.float .f64 x)) 56 75 true).run Try.prog W = .ok (.tuple #[.string ⟨#[]⟩, .bool false]) W := by kernel_rfl
theorem tb_2_4 (x : Nat) (W : World) : (Instr.typeAssert (.iface 104 (.float .f64 x)) 56 53 true).run Try.prog W = .ok (.tuple #[.slice none 0 0, .bool false]) W := by kernel_rfl
theorem tb_2_5 (x : Nat) (W : World) : (Instr.typeAssert (.iface 104 (.float .f64 x)) 56 100 true).run Try.prog W = .ok (.tuple #[.slice none 0 0, .bool false]) W := by kernel_rfl
theorem tk_2_0 (x : Nat) (W : World) : (Instr.typeAssert (.iface 104 (.float .f64 x)) 56 91 true).run Try.prog W = .ok (.tuple #[.iface 104 (.float .f64 x), .bool true]) W := by kernel_rfl
theorem tk_2_1 (x : Nat) (W : World) : (Instr.typeAssert (.iface 104 (.float .f64 x)) 56 94 true).run Try.prog W = .ok (.tuple #[.nilIface, .bool false]) W := run_typeAssert_lacksB Try.underlying94 (by kernel_rfl) (by kernel_rfl) _ _ W
theorem tk_2_2 (x : Nat) (W : World) : (Instr.typeAssert (.iface 104 (.float .f64 x)) 56 97 true).run Try.prog W = .ok (.tuple #[.nilIface, .bool false]) W := run_typeAssert_lacksB Try.underlying97 (by kernel_rfl) (by kernel_rfl) _ _ W
theorem vn_2 (x : Nat) (W : World) : (binOp .eql 56 (.iface 104 (.float .f64 x)) .nilIface).run Try.prog W = .ok (.bool false) W := by kernel_rfl
theorem tb_3_0 (s : ByteArray) (W : World) : (Instr.typeAssert (.iface 75 (.string s)) 56 106 true).run Try.prog W = .ok (.tuple #[.agg #[], .bool false]) W := by kernel_rfl
theorem tb_3_1 (s : ByteArray) (W : World) : (Instr.typeAssert (.iface 75 (.string s)) 56 107 true).run Try.prog W = .ok (.tuple #[.bool false, .bool false]) W := by kernel_rfl
theorem tb_3_2 (s : ByteArray) (W : World) : (Instr.typeAssert (.iface 75 (.string s)) 56 104 true).run Try.prog W = .ok (.tuple #[.float .f64 0, .bool false]) W := by kernel_rfl
theorem tb_3_3 (s : ByteArray) (W : World) : (Instr.typeAssert (.iface 75 (.string s)) 56 75 true).run Try.prog W = .ok (.tuple #[.string s, .bool true]) W := by kernel_rfl
theorem tb_3_4 (s : ByteArray) (W : World) : (Instr.typeAssert (.iface 75 (.string s)) 56 53 true).run Try.prog W = .ok (.tuple #[.slice none 0 0, .bool false]) W := by kernel_rfl
theorem tb_3_5 (s : ByteArray) (W : World) : (Instr.typeAssert (.iface 75 (.string s)) 56 100 true).run Try.prog W = .ok (.tuple #[.slice none 0 0, .bool false]) W := by kernel_rfl
theorem tk_3_0 (s : ByteArray) (W : World) : (Instr.typeAssert (.iface 75 (.string s)) 56 91 true).run Try.prog W = .ok (.tuple #[.iface 75 (.string s), .bool true]) W := by kernel_rfl
theorem tk_3_1 (s : ByteArray) (W : World) : (Instr.typeAssert (.iface 75 (.string s)) 56 94 true).run Try.prog W = .ok (.tuple #[.nilIface, .bool false]) W := run_typeAssert_lacksB Try.underlying94 (by kernel_rfl) (by kernel_rfl) _ _ W
theorem tk_3_2 (s : ByteArray) (W : World) : (Instr.typeAssert (.iface 75 (.string s)) 56 97 true).run Try.prog W = .ok (.tuple #[.nilIface, .bool false]) W := run_typeAssert_lacksB Try.underlying97 (by kernel_rfl) (by kernel_rfl) _ _ W
theorem vn_3 (s : ByteArray) (W : World) : (binOp .eql 56 (.iface 75 (.string s)) .nilIface).run Try.prog W = .ok (.bool false) W := by kernel_rfl
theorem tb_4_0 (a : Option Addr) (n c : Nat) (W : World) : (Instr.typeAssert (.iface 53 (.slice a n c)) 56 106 true).run Try.prog W = .ok (.tuple #[.agg #[], .bool false]) W := by kernel_rfl
theorem tb_4_1 (a : Option Addr) (n c : Nat) (W : World) : (Instr.typeAssert (.iface 53 (.slice a n c)) 56 107 true).run Try.prog W = .ok (.tuple #[.bool false, .bool false]) W := by kernel_rfl
theorem tb_4_2 (a : Option Addr) (n c : Nat) (W : World) : (Instr.typeAssert (.iface 53 (.slice a n c)) 56 104 true).run Try.prog W = .ok (.tuple #[.float .f64 0, .bool false]) W := by kernel_rfl
theorem tb_4_3 (a : Option Addr) (n c : Nat) (W : World) : (Instr.typeAssert (.iface 53 (.slice a n c)) 56 75 true).run Try.prog W = .ok (.tuple #[.string ⟨#[]⟩, .bool false]) W := by kernel_rfl
theorem tb_4_4 (a : Option Addr) (n c : Nat) (W : World) : (Instr.typeAssert (.iface 53 (.slice a n c)) 56 53 true).run Try.prog W = .ok (.tuple #[.slice a n c, .bool true]) W := by kernel_rfl
theorem tb_4_5 (a : Option Addr) (n c : Nat) (W : World) : (Instr.typeAssert (.iface 53 (.slice a n c)) 56 100 true).run Try.prog W = .ok (.tuple #[.slice none 0 0, .bool false]) W := by kernel_rfl
theorem tk_4_0 (a : Option Addr) (n c : Nat) (W : World) : (Instr.typeAssert (.iface 53 (.slice a n c)) 56 91 true).run Try.prog W = .ok (.tuple #[.nilIface, .bool false]) W := run_typeAssert_lacksB Try.underlying91 (by kernel_rfl) (by kernel_rfl) _ _ W
theorem tk_4_1 (a : Option Addr) (n c : Nat) (W : World) : (Instr.typeAssert (.iface 53 (.slice a n c)) 56 94 true).run Try.prog W = .ok (.tuple #[.iface 53 (.slice a n c), .bool true]) W := by kernel_rfl
theorem tk_4_2 (a : Option Addr) (n c : Nat) (W : World) : (Instr.typeAssert (.iface 53 (.slice a n c)) 56 97 true).run Try.prog W = .ok (.tuple #[.nilIface, .bool false]) W := run_typeAssert_lacksB Try.underlying97 (by kernel_rfl) (by kernel_rfl) _ _ W
theorem vn_4 (a : Option Addr) (n c : Nat) (W : World) : (binOp .eql 56 (.iface 53 (.slice a n c)) .nilIface).run Try.prog W = .ok (.bool false) W := by kernel_rfl
theorem tb_5_0 (a : Option Addr) (n c : Nat) (W : World) : (Instr.typeAssert (.iface 100 (.slice a n c)) 56 106 true).run Try.prog W = .ok (.tuple #[.agg #[], .bool false]) W := by kernel_rfl
theorem tb_5_1 (a : Option Addr) (n c : Nat) (W : World) : (Instr.typeAssert (.iface 100 (.slice a n c)) 56 107 true).run Try.prog W = .ok (.tuple #[.bool false, .bool false]) W := by kernel_rfl
theorem tb_5_2 (a : Option Addr) (n c : Nat) (W : World) : (Instr.typeAssert (.iface 100 (.slice a n c)) 56 104 true).run Try.prog W = .ok (.tuple #[.float .f64 0, .bool false]) W := by kernel_rfl
theorem tb_5_3 (a : Option Addr) (n c : Nat) (W : World) : (Instr.typeAssert (.iface 100 (.slice a n c)) 56 75 true).run Try.prog W = .ok (.tuple #[.string ⟨#[]⟩, .bool false]) W := by kernel_rfl
theorem tb_5_4 (a : Option Addr) (n c : Nat) (W : World) : (Instr.typeAssert (.iface 100 (.slice a n c)) 56 53 true).run Try.prog W = .ok (.tuple #[.slice none 0 0, .bool false]) W := by kernel_rfl
theorem tb_5_5 (a : Option Addr) (n c : Nat) (W : World) : (Instr.typeAssert (.iface 100 (.slice a n c)) 56 100 true).run Try.prog W = .ok (.tuple #[.slice a n c, .bool true]) W := by kernel_rfl
theorem tk_5_0 (a : Option Addr) (n c : Nat) (W : World) : (Instr.typeAssert (.iface 100 (.slice a n c)) 56 91 true).run Try.prog W = .ok (.tuple #[.nilIface, .bool false]) W := run_typeAssert_lacksB Try.underlying91 (by kernel_rfl) (by kernel_rfl) _ _ W
theorem tk_5_1 (a : Option Addr) (n c : Nat) (W : World) : (Instr.typeAssert (.iface 100 (.slice a n c)) 56 94 true).run Try.prog W = .ok (.tuple #[.iface 100 (.slice a n c), .bool true]) W := by kernel_rfl
theorem tk_5_2 (a : Option Addr) (n c : Nat) (W : World) : (Instr.typeAssert (.iface 100 (.slice a n c)) 56 97 true).run Try.prog W = .ok (.tuple #[.iface 100 (.slice a n c), .bool true]) W := by kernel_rfl
theorem vn_5 (a : Option Addr) (n c : Nat) (W : World) : (binOp .eql 56 (.iface 100 (.slice a n c)) .nilIface).run Try.prog W = .ok (.bool false) W := by kernel_rfl
theorem pairs_at : ∀ (ks : List Tx) (vs : List Value) (k : Nat) (h1 : k < ks.length) (h2 : k < vs.length), (pairs ks vs)[k * 2]? = some (txV ks[k]) ∧ (pairs ks vs)[k * 2 + 1]? = some vs[k]
  | [], _, k, h, _ => by simp at h
  | _, [], k, _, h => by simp at h
  | a :: ks, b :: vs, 0, _, _ => by simp [pairs]
  | a :: ks, b :: vs, k + 1, h1, h2 => by
    have := pairs_at ks vs k (by simpa using h1) (by simpa using h2)
    unfold pairs
    rw [show (k + 1) * 2 = (k * 2) + 1 + 1 by omega]
    simpa using this
theorem info_str : (Try.prog.info? 9).map (fun i => (i.zero, i.size, i.bytes)) = some (some (.string ByteArray.empty), 1, 16) := by kernel_rfl
theorem vlen_list (a : Option Addr) (n c : Nat) (w : World) : Calls Try.prog 103 #[.slice a n c] w fun e w' => e = .returned (.int .i64 n) ∧ w = w' := by
  go_enter Try.func103, Try.ntmps103
  go_wp2
  go_ret
  exact ⟨rfl, rfl⟩
theorem vlen_obj (a : Option Addr) (n c : Nat) (w : World) : Calls Try.prog 111 #[.slice a n c] w fun e w' => e = .returned (.int .i64 n) ∧ w = w' := by
  go_enter Try.func111, Try.ntmps111
  go_wp2
  go_ret
  exact ⟨rfl, rfl⟩
theorem rdk_own {w : World} {B : Nat} {v : Value} {ks : List Tx} {n : Nat} (hn : ks.length = n) (h : w.ownsRow B 9 1 v n (ks.map txV)) : RdK w v ks := by
  subst hn
  obtain ⟨A, q, rfl⟩ := own_slice h
  refine ⟨A, q, rfl, ?_⟩
  rcases h.2 with ⟨_, h0⟩ | ⟨g, cap, cur, hv, _, hg, hn, hc, hs, ht⟩
  · exact .inl (List.length_eq_zero_iff.1 h0)
  · injection hv with h1 h2 h3
    subst h1
    refine .inr ⟨g, 0, rfl, fun j t hj => ?_⟩
    have hlt : j < ks.length := by
      rcases Nat.lt_or_ge j ks.length with h | h
      · exact h
      · rw [List.getElem?_eq_none h] at hj
        cases hj
    rw [Nat.zero_add, h.cellAt j (by omega), List.getElem?_map, hj]
    rfl
set_option maxRecDepth 100000 in
set_option maxHeartbeats 8000000 in
theorem keys_obj (S : Nat → Prop) (ks : List Tx) (l : List Tr) (o : Value) (vs : List Value) (w : World) (hrow : Row2 S w 103 o l.length (pairs ks vs)) (hkl : ks.length = l.length) (hL : TdL S w l vs) (hn : l.length ≤ 1048576) :
    Calls Try.prog 110 #[o] w fun e w' => ∃ v, e = .returned v ∧ RdK w' v ks ∧ Below w.heap.size w w' := by
  obtain ⟨i0, hi0, hz0, hz1, hz2⟩ := info_parts info_str
  have HL := Lib.hid hL
  have HR := Lib.hid hrow
  obtain ⟨A, c, rfl, _⟩ := hrow
  have HKL := Lib.hid hkl
  clear hL hkl
  go_enter Try.func110, Try.ntmps110
  go_wp2
  go_loopw [3, 8] (fun c3 c8 wr => ∃ k : Nat, k ≤ l.length ∧ c8 = .int .i64 k ∧ wr.ownsRow w.heap.size 9 1 c3 k ((ks.take k).map txV) ∧ Below w.heap.size w wr) (fun _ c8 _ => l.length - (intOf c8).toNat)
  case atStart => exact ⟨0, by omega, rfl, by simpa using World.ownsRow_nil _ _ _ _, Below.refl _ _⟩
  case round =>
    obtain ⟨k, hk, rfl, hown, hbw⟩ := hrel
    have hbs := hbw.size
    obtain ⟨u3, q3, rfl⟩ := own_slice hown
    by_cases hlt : k < l.length
    · have hcells : ∃ g o tx ux, A = some ⟨g, o, none⟩ ∧ wr.cell? ⟨g, o + k * 2, none⟩ = some (.string ⟨(ks[k]'(by have := HKL.out; omega)).toArray⟩) ∧ wr.cell? ⟨g, o + k * 2 + 1, none⟩ = some (.iface tx ux) := by
        obtain ⟨A', c', e', hlen, h'⟩ := HR.out
        injection e' with e1 e2 e3
        have hvl := HL.out.len
        rcases h' with h' | ⟨g, o, cur, hA, hSg, hBg, hc⟩
        · omega
        · have hp := pairs_at ks vs k (by have := HKL.out; omega) (by omega)
          have hrd := HL.out.at (List.getElem?_eq_getElem hlt) (List.getElem?_eq_getElem (by omega : k < vs.length))
          obtain ⟨tx, ux, he⟩ := hrd.iface
          rw [he] at hp
          exact ⟨g, o, tx, ux, by rw [e1, hA], ((hbw.cell (p := ⟨g, o + k * 2, none⟩) hBg.lt).trans (hBg.cell _)).trans (hc _ _ hp.1), ((hbw.cell (p := ⟨g, o + k * 2 + 1, none⟩) hBg.lt).trans (hBg.cell _)).trans (hc _ _ hp.2)⟩
      obtain ⟨g, o, tx, ux, rfl, hc1, hc2⟩ := hcells
      have hst : (ks.take (k + 1)).map txV = (ks.take k).map txV ++ [txV (ks[k]'(by have := HKL.out; omega))] := by
        rw [List.take_succ_eq_append_getElem (by have := HKL.out; omega), List.map_append]
        rfl
      have HST := Lib.hid hst
      clear hst
      have hxl : ((ks.take k).map txV).length = k := by have := HKL.out; simp; omega
      have HXL := Lib.hid hxl
      clear hxl
      generalize ks[k]'(by have := HKL.out; omega) = t at *
      generalize (ks.take k).map txV = us at *
      have hcb : Below w.heap.size w (wr.alloc (.cells #[.string ⟨t.toArray⟩, .iface tx ux] 103)) := hbw.alloc hbs _
      have HO := Lib.hid hown
      clear hown
      have hone := one_new (wr.alloc (.cells #[.string ⟨t.toArray⟩, .iface tx ux] 103)) 9 (.string ⟨t.toArray⟩)
      rw [World.size_alloc] at hone
      have HONE := Lib.hid hone
      clear hone
      go_wp2_with (at_builtin; go_must (refine wpList_append_own _ rfl (.tmp 12) (.tmp 15) _ rfl w.heap.size 9 i0 _ 1 16 Try.underlying40 hi0 hz0 hz1 hz2 rfl (by omega) (.slice u3 k q3) k us rfl ((HO.out.alloc _).alloc _) ⟨wr.heap.size + 1, 0, none⟩ 1 1 [.string ⟨t.toArray⟩] rfl rfl HONE.out (one_cell _ rfl) (by unfold maxLen; omega) (by omega) (by simp; omega) ?_); intro v9 w9 hown9 hgr9 hnil9)
      go_wp2
      go_roundw
      case rel => exact ⟨k + 1, by omega, by go_num, by rw [HST.out]; exact hown9, (hcb.alloc (by simp; omega) _).grown hgr9 (by simp; omega) (fun q hq => (HO.out.lt q hq).1)⟩
      case measure => simp [intOf]; omega
    · obtain rfl : k = l.length := by omega
      rw [List.take_of_length_le (by have := HKL.out; omega)] at hown
      have HO := Lib.hid hown
      clear hown
      go_wp2
      go_ret
      exact ⟨_, rfl, rdk_own HKL.out HO.out, hbw⟩
end Nd
end Go.Proofs.Ytfhfkggkbeahbaa
