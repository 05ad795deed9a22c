/-
  Walks of package ask: Tell, Size.
-/
import Derived.Test.YtlailcmhpnnidaaGreatDoorS29
set_option linter.unusedVariables false
set_option linter.unusedSimpArgs false
set_option maxRecDepth 100000
set_option maxHeartbeats 16000000
namespace Go.Proofs.YtlailcmhpnnidaaGreatDoor
open Go.RowKit Mem Utf Ref3 Idx Tok TokC
namespace Nd
theorem two_out_0 (n : Int) (hn : n < 1 ∨ 11 < n) (w : World) : Calls Tryz.prog 30 #[.nilIface, .int .i64 n] w (BoolR false w) := by
 have e1 : (n == 1) = false := by rw [beq_eq_false_iff_ne]; omega
 have e2 : (n == 2) = false := by rw [beq_eq_false_iff_ne]; omega
 have e3 : (n == 3) = false := by rw [beq_eq_false_iff_ne]; omega
 have e4 : (n == 4) = false := by rw [beq_eq_false_iff_ne]; omega
 have e5 : (n == 5) = false := by rw [beq_eq_false_iff_ne]; omega
 have e6 : (n == 6) = false := by rw [beq_eq_false_iff_ne]; omega
 have e7 : (n == 7) = false := by rw [beq_eq_false_iff_ne]; omega
 have e8 : (n == 8) = false := by rw [beq_eq_false_iff_ne]; omega
 have e9 : (n == 9) = false := by rw [beq_eq_false_iff_ne]; omega
 have e10 : (n == 10) = false := by rw [beq_eq_false_iff_ne]; omega
 have e11 : (n == 11) = false := by rw [beq_eq_false_iff_ne]; omega
 clear hn
 go_enter Tryz.func30, Tryz.ntmps30
 go_wp2
 go_ret
 exact ⟨rfl, rfl⟩
theorem two_out_1 (x : Value) (n : Int) (hn : n < 1 ∨ 11 < n) (w : World) : Calls Tryz.prog 30 #[(.iface 103 x), .int .i64 n] w (BoolR false w) := by
 have e1 : (n == 1) = false := by rw [beq_eq_false_iff_ne]; omega
 have e2 : (n == 2) = false := by rw [beq_eq_false_iff_ne]; omega
 have e3 : (n == 3) = false := by rw [beq_eq_false_iff_ne]; omega
 have e4 : (n == 4) = false := by rw [beq_eq_false_iff_ne]; omega
 have e5 : (n == 5) = false := by rw [beq_eq_false_iff_ne]; omega
 have e6 : (n == 6) = false := by rw [beq_eq_false_iff_ne]; omega
 have e7 : (n == 7) = false := by rw [beq_eq_false_iff_ne]; omega
 have e8 : (n == 8) = false := by rw [beq_eq_false_iff_ne]; omega
 have e9 : (n == 9) = false := by rw [beq_eq_false_iff_ne]; omega
 have e10 : (n == 10) = false := by rw [beq_eq_false_iff_ne]; omega
 have e11 : (n == 11) = false := by rw [beq_eq_false_iff_ne]; omega
 clear hn
 go_enter Tryz.func30, Tryz.ntmps30
 go_wp2
 go_ret
 exact ⟨rfl, rfl⟩
theorem two_out_2 (x : Value) (n : Int) (hn : n < 1 ∨ 11 < n) (w : World) : Calls Tryz.prog 30 #[(.iface 104 x), .int .i64 n] w (BoolR false w) := by
 have e1 : (n == 1) = false := by rw [beq_eq_false_iff_ne]; omega
 have e2 : (n == 2) = false := by rw [beq_eq_false_iff_ne]; omega
 have e3 : (n == 3) = false := by rw [beq_eq_false_iff_ne]; omega
 have e4 : (n == 4) = false := by rw [beq_eq_false_iff_ne]; omega
 have e5 : (n == 5) = false := by rw [beq_eq_false_iff_ne]; omega
 have e6 : (n == 6) = false := by rw [beq_eq_false_iff_ne]; omega
 have e7 : (n == 7) = false := by rw [beq_eq_false_iff_ne]; omega
 have e8 : (n == 8) = false := by rw [beq_eq_false_iff_ne]; omega
 have e9 : (n == 9) = false := by rw [beq_eq_false_iff_ne]; omega
 have e10 : (n == 10) = false := by rw [beq_eq_false_iff_ne]; omega
 have e11 : (n == 11) = false := by rw [beq_eq_false_iff_ne]; omega
 clear hn
 go_enter Tryz.func30, Tryz.ntmps30
 go_wp2
 go_ret
 exact ⟨rfl, rfl⟩
theorem two_out_3 (x : Value) (n : Int) (hn : n < 1 ∨ 11 < n) (w : World) : Calls Tryz.prog 30 #[(.iface 106 x), .int .i64 n] w (BoolR false w) := by
 have e1 : (n == 1) = false := by rw [beq_eq_false_iff_ne]; omega
 have e2 : (n == 2) = false := by rw [beq_eq_false_iff_ne]; omega
 have e3 : (n == 3) = false := by rw [beq_eq_false_iff_ne]; omega
 have e4 : (n == 4) = false := by rw [beq_eq_false_iff_ne]; omega
 have e5 : (n == 5) = false := by rw [beq_eq_false_iff_ne]; omega
 have e6 : (n == 6) = false := by rw [beq_eq_false_iff_ne]; omega
 have e7 : (n == 7) = false := by rw [beq_eq_false_iff_ne]; omega
 have e8 : (n == 8) = false := by rw [beq_eq_false_iff_ne]; omega
 have e9 : (n == 9) = false := by rw [beq_eq_false_iff_ne]; omega
 have e10 : (n == 10) = false := by rw [beq_eq_false_iff_ne]; omega
 have e11 : (n == 11) = false := by rw [beq_eq_false_iff_ne]; omega
 clear hn
 go_enter Tryz.func30, Tryz.ntmps30
 go_wp2
 go_ret
 exact ⟨rfl, rfl⟩
theorem two_out_4 (x : Value) (n : Int) (hn : n < 1 ∨ 11 < n) (w : World) : Calls Tryz.prog 30 #[(.iface 108 x), .int .i64 n] w (BoolR false w) := by
 have e1 : (n == 1) = false := by rw [beq_eq_false_iff_ne]; omega
 have e2 : (n == 2) = false := by rw [beq_eq_false_iff_ne]; omega
 have e3 : (n == 3) = false := by rw [beq_eq_false_iff_ne]; omega
 have e4 : (n == 4) = false := by rw [beq_eq_false_iff_ne]; omega
 have e5 : (n == 5) = false := by rw [beq_eq_false_iff_ne]; omega
 have e6 : (n == 6) = false := by rw [beq_eq_false_iff_ne]; omega
 have e7 : (n == 7) = false := by rw [beq_eq_false_iff_ne]; omega
 have e8 : (n == 8) = false := by rw [beq_eq_false_iff_ne]; omega
 have e9 : (n == 9) = false := by rw [beq_eq_false_iff_ne]; omega
 have e10 : (n == 10) = false := by rw [beq_eq_false_iff_ne]; omega
 have e11 : (n == 11) = false := by rw [beq_eq_false_iff_ne]; omega
 clear hn
 go_enter Tryz.func30, Tryz.ntmps30
 go_wp2
 go_ret
 exact ⟨rfl, rfl⟩
theorem two_out_5 (x : Value) (n : Int) (hn : n < 1 ∨ 11 < n) (w : World) : Calls Tryz.prog 30 #[(.iface 109 x), .int .i64 n] w (BoolR false w) := by
 have e1 : (n == 1) = false := by rw [beq_eq_false_iff_ne]; omega
 have e2 : (n == 2) = false := by rw [beq_eq_false_iff_ne]; omega
 have e3 : (n == 3) = false := by rw [beq_eq_false_iff_ne]; omega
 have e4 : (n == 4) = false := by rw [beq_eq_false_iff_ne]; omega
 have e5 : (n == 5) = false := by rw [beq_eq_false_iff_ne]; omega
 have e6 : (n == 6) = false := by rw [beq_eq_false_iff_ne]; omega
 have e7 : (n == 7) = false := by rw [beq_eq_false_iff_ne]; omega
 have e8 : (n == 8) = false := by rw [beq_eq_false_iff_ne]; omega
 have e9 : (n == 9) = false := by rw [beq_eq_false_iff_ne]; omega
 have e10 : (n == 10) = false := by rw [beq_eq_false_iff_ne]; omega
 have e11 : (n == 11) = false := by rw [beq_eq_false_iff_ne]; omega
 clear hn
 go_enter Tryz.func30, Tryz.ntmps30
 go_wp2
 go_ret
 exact ⟨rfl, rfl⟩
theorem two_out_6 (x : Value) (n : Int) (hn : n < 1 ∨ 11 < n) (w : World) : Calls Tryz.prog 30 #[(.iface 112 x), .int .i64 n] w (BoolR false w) := by
 have e1 : (n == 1) = false := by rw [beq_eq_false_iff_ne]; omega
 have e2 : (n == 2) = false := by rw [beq_eq_false_iff_ne]; omega
 have e3 : (n == 3) = false := by rw [beq_eq_false_iff_ne]; omega
 have e4 : (n == 4) = false := by rw [beq_eq_false_iff_ne]; omega
 have e5 : (n == 5) = false := by rw [beq_eq_false_iff_ne]; omega
 have e6 : (n == 6) = false := by rw [beq_eq_false_iff_ne]; omega
 have e7 : (n == 7) = false := by rw [beq_eq_false_iff_ne]; omega
 have e8 : (n == 8) = false := by rw [beq_eq_false_iff_ne]; omega
 have e9 : (n == 9) = false := by rw [beq_eq_false_iff_ne]; omega
 have e10 : (n == 10) = false := by rw [beq_eq_false_iff_ne]; omega
 have e11 : (n == 11) = false := by rw [beq_eq_false_iff_ne]; omega
 clear hn
 go_enter Tryz.func30, Tryz.ntmps30
 go_wp2
 go_ret
 exact ⟨rfl, rfl⟩
theorem two_out_7 (x : Value) (n : Int) (hn : n < 1 ∨ 11 < n) (w : World) : Calls Tryz.prog 30 #[(.iface 53 x), .int .i64 n] w (BoolR false w) := by
 have e1 : (n == 1) = false := by rw [beq_eq_false_iff_ne]; omega
 have e2 : (n == 2) = false := by rw [beq_eq_false_iff_ne]; omega
 have e3 : (n == 3) = false := by rw [beq_eq_false_iff_ne]; omega
 have e4 : (n == 4) = false := by rw [beq_eq_false_iff_ne]; omega
 have e5 : (n == 5) = false := by rw [beq_eq_false_iff_ne]; omega
 have e6 : (n == 6) = false := by rw [beq_eq_false_iff_ne]; omega
 have e7 : (n == 7) = false := by rw [beq_eq_false_iff_ne]; omega
 have e8 : (n == 8) = false := by rw [beq_eq_false_iff_ne]; omega
 have e9 : (n == 9) = false := by rw [beq_eq_false_iff_ne]; omega
 have e10 : (n == 10) = false := by rw [beq_eq_false_iff_ne]; omega
 have e11 : (n == 11) = false := by rw [beq_eq_false_iff_ne]; omega
 clear hn
 go_enter Tryz.func30, Tryz.ntmps30
 go_wp2
 go_ret
 exact ⟨rfl, rfl⟩
theorem two_out {k : Nat} {v : Value} (h : IsK k v) (n : Int) (hn : n < 1 ∨ 11 < n) (w : World) : Calls Tryz.prog 30 #[v, .int .i64 n] w (BoolR false w) := by
 rcases h with ⟨_, rfl⟩ | ⟨_, rfl⟩ | ⟨_, x, rfl⟩ | ⟨_, x, rfl⟩ | ⟨_, x, rfl⟩ | ⟨_, x, rfl⟩ | ⟨_, x, rfl⟩ | ⟨_, x, rfl⟩ | ⟨_, rfl⟩
 ·exact two_out_0 n hn w
 ·exact two_out_1 _ n hn w
 ·exact two_out_2 _ n hn w
 ·exact two_out_3 _ n hn w
 ·exact two_out_4 _ n hn w
 ·exact two_out_5 _ n hn w
 ·exact two_out_6 _ n hn w
 ·exact two_out_7 _ n hn w
 ·exact two_out_7 _ n hn w
def wantB (k : Nat) (n : Int) : Bool := decide (1 ≤ n ∧ n ≤ 11) && holdB k n.toNat
theorem two_any {k : Nat} {v : Value} (h : IsK k v) (n : Int) (w : World) : Calls Tryz.prog 30 #[v, .int .i64 n] w (BoolR (wantB k n) w) := by
 unfold wantB
 by_cases hn : 1 ≤ n ∧ n ≤ 11
 ·obtain ⟨m, rfl⟩ : ∃ m : Nat, n = (m : Int) := ⟨n.toNat, by omega⟩
  rw [decide_eq_true hn, Bool.true_and, Int.toNat_natCast]
  exact two_k h (by omega) w
 ·rw [decide_eq_false hn, Bool.false_and]
  exact two_out h n (by omega) w
theorem lookP_val {w0 : World} {t : Tr} {l : List UInt8} {w w' : World} {e : Ending} (h : LookP w0 t l w e w') : ∃ v, e = .returned v ∧ IsK (lookK (some t) l) v := by
 obtain ⟨h, hb⟩ := h
 unfold lookK
 dsimp only
 cases hp : parseS (wrong l) l with
 | error x =>
  rw [hp] at h
  obtain rfl := h
  exact ⟨_, rfl, .inr (.inr (.inr (.inr (.inr (.inr (.inr (.inr ⟨rfl, rfl⟩)))))))⟩
 | ok ts =>
  rw [hp] at h
  dsimp only at h ⊢
  cases hle : leadT t ts 0 with
  | inl n =>
   rw [hle] at h
   obtain ⟨g, rfl, _⟩ := h
   exact ⟨_, rfl, .inr (.inr (.inr (.inr (.inr (.inr (.inr (.inl ⟨rfl, _, rfl⟩)))))))⟩
  | inr u =>
   rw [hle] at h
   obtain ⟨x, rfl, hx⟩ := h
   exact ⟨_, rfl, isK_told hx⟩
def TellV (b : Bool) (x : Value) : Value := if b = true then .tuple #[x, .bool true] else .tuple #[.nilIface, .bool false]
theorem tell_nil (l : List UInt8) (w : World) (n : Int) :
  Calls Tryz.prog 16 #[.pointer none, .string ⟨l.toArray⟩, .int .i64 n] w fun e w' => e = .returned (.tuple #[.nilIface, .bool false]) ∧ Below w.heap.size w w' := by
 have HC := Lib.hid (look_nil l w)
 go_enter Tryz.func16, Tryz.ntmps16
 go_wp2_with fail
 ((with_reducible refine HC.out.mono ?_); rintro e w2 ⟨rfl, hb⟩; have HB := Lib.hid hb; clear hb; have HK : Hid (IsK 0 .nilIface) := Lib.hid (.inl ⟨rfl, rfl⟩))
 go_wp2_with fail
 ((with_reducible refine (two_any HK.out n _).mono ?_); rintro e w3 ⟨rfl, rfl⟩)
 obtain ⟨b, hb⟩ : ∃ b, wantB 0 n = b := ⟨_, rfl⟩
 rw [hb]
 have HW := Lib.hid hb
 clear hb
 cases b with
 | true =>
  go_wp2
  go_ret2
  exact absurd HW.out (by unfold wantB holdB; simp)
 | false =>
  go_wp2
  go_ret2
  exact ⟨rfl, HB.out⟩
theorem tell_some (g : Nat) (t : Tr) (v : Value) (l : List UInt8) (w0 w : World) (hB : Blk w0 g 155 #[v]) (h : RdA w0 t v) (hb0 : Below w0.heap.size w0 w) (ho : t.Ok) (hf : t.fit = true) (hl : l.length ≤ 4194304) (hG : Glob w) (hT : Tab w) (n : Int) :
  Calls Tryz.prog 16 #[.pointer (some ⟨g, 0, none⟩), .string ⟨l.toArray⟩, .int .i64 n] w fun e w' => ∃ x, LookP w0 t l w (.returned x) w' ∧ e = .returned (TellV (wantB (lookK (some t) l) n) x) := by
 have HC := Lib.hid (plook_any g t v l w0 w hB h hb0 ho hf hl hG hT)
 go_enter Tryz.func16, Tryz.ntmps16
 go_wp2_with fail
 ((with_reducible refine HC.out.mono ?_); intro e w2 hp; obtain ⟨x, rfl, hk⟩ := lookP_val hp; have HP := Lib.hid hp; have HK := Lib.hid hk; clear hp hk hB h hb0 ho hf hl hG hT HC)
 go_wp2_with fail
 ((with_reducible refine (two_any HK.out n _).mono ?_); rintro e w3 ⟨rfl, rfl⟩)
 obtain ⟨b, hb⟩ : ∃ b, wantB (lookK (some t) l) n = b := ⟨_, rfl⟩
 rw [hb]
 have HW := Lib.hid hb
 clear hb
 cases b with
 | true =>
  go_wp2
  go_ret2
  exact ⟨_, HP.out, by rw [HW.out]; rfl⟩
 | false =>
  go_wp2
  go_ret2
  exact ⟨_, HP.out, by rw [HW.out]; rfl⟩
theorem keyed_no {k : Nat} {v : Value} (h : IsK k v) (hk : k ≠ 6) (W : World) : (Instr.typeAssert v 35 122 true).run Tryz.prog W = .ok (.tuple #[.nilIface, .bool false]) W := by
 rcases h with ⟨h0, rfl⟩ | ⟨h0, rfl⟩ | ⟨h0, x, rfl⟩ | ⟨h0, x, rfl⟩ | ⟨h0, x, rfl⟩ | ⟨h0, x, rfl⟩ | ⟨h0, x, rfl⟩ | ⟨h0, x, rfl⟩ | ⟨h0, rfl⟩
 ·exact wa_0_4 W
 ·exact wa_1_4 _ W
 ·exact wa_2_4 _ W
 ·exact wa_3_4 _ W
 ·exact wa_4_4 _ W
 ·exact wa_5_4 _ W
 ·exact absurd h0 hk
 ·exact wa_7_4 _ W
 ·exact wa_7_4 _ W
theorem group_no {k : Nat} {v : Value} (h : IsK k v) (hk : k ≠ 5 ∧ k ≠ 6) (W : World) : (Instr.typeAssert v 35 126 true).run Tryz.prog W = .ok (.tuple #[.nilIface, .bool false]) W := by
 rcases h with ⟨h0, rfl⟩ | ⟨h0, rfl⟩ | ⟨h0, x, rfl⟩ | ⟨h0, x, rfl⟩ | ⟨h0, x, rfl⟩ | ⟨h0, x, rfl⟩ | ⟨h0, x, rfl⟩ | ⟨h0, x, rfl⟩ | ⟨h0, rfl⟩
 ·exact wa_0_3 W
 ·exact wa_1_3 _ W
 ·exact wa_2_3 _ W
 ·exact wa_3_3 _ W
 ·exact wa_4_3 _ W
 ·exact absurd h0 hk.1
 ·exact absurd h0 hk.2
 ·exact wa_7_3 _ W
 ·exact wa_7_3 _ W
theorem size_nil (l : List UInt8) (w : World) :
  Calls Tryz.prog 21 #[.pointer none, .string ⟨l.toArray⟩] w fun e w' => e = .returned (.tuple #[.int .i64 0, .slice none 0 0, .bool false]) ∧ Below w.heap.size w w' := by
 have HC := Lib.hid (look_nil l w)
 go_enter Tryz.func21, Tryz.ntmps21
 go_wp2_with fail
 ((with_reducible refine HC.out.mono ?_); rintro e w2 ⟨rfl, hb⟩; have HB := Lib.hid hb; clear hb; have HK : Hid (IsK 0 .nilIface) := Lib.hid (.inl ⟨rfl, rfl⟩); have HNO : Hid (0 ≠ 5 ∧ 0 ≠ 6) := Lib.hid ⟨by decide, by decide⟩)
 have t1 := keyed_no HK.out HNO.out.2
 have t2 := group_no HK.out HNO.out
 clear HC
 go_wp2
 go_ret3
 exact ⟨rfl, HB.out⟩
theorem size_none (g : Nat) (t : Tr) (v : Value) (l : List UInt8) (w0 w : World) (hB : Blk w0 g 155 #[v]) (h : RdA w0 t v) (hb0 : Below w0.heap.size w0 w) (ho : t.Ok) (hf : t.fit = true) (hl : l.length ≤ 4194304) (hG : Glob w) (hT : Tab w) (hno : lookK (some t) l ≠ 5 ∧ lookK (some t) l ≠ 6) :
  Calls Tryz.prog 21 #[.pointer (some ⟨g, 0, none⟩), .string ⟨l.toArray⟩] w fun e w' => e = .returned (.tuple #[.int .i64 0, .slice none 0 0, .bool false]) ∧ Below w.heap.size w w' := by
 have HC := Lib.hid (plook_any g t v l w0 w hB h hb0 ho hf hl hG hT)
 go_enter Tryz.func21, Tryz.ntmps21
 go_wp2_with fail
 ((with_reducible refine HC.out.mono ?_); intro e w2 hp; obtain ⟨x, rfl, hk⟩ := lookP_val hp; have HB := Lib.hid hp.2; have HK := Lib.hid hk; have HNO := Lib.hid hno; clear hp hk hB h hb0 ho hf hl hG hT hno)
 have t1 := keyed_no HK.out HNO.out.2
 have t2 := group_no HK.out HNO.out
 clear HC
 go_wp2
 go_ret3
 exact ⟨rfl, HB.out⟩
theorem lenm_List (u : Value) (W : World) : (method (449 + 1) 109 u "Len").run Tryz.prog W = .ok (241, u) W := by kernel_rfl
theorem lene_List (args : Array Value) (W : World) : (callFunc 241 args).run Tryz.prog W = .ok (.enter 241 args) W := by kernel_rfl
theorem len_List (X : Option Addr) (n c : Nat) (w : World) : Calls Tryz.prog 241 #[.slice X n c] w fun e w' => e = .returned (.int .i64 (n : Nat)) ∧ w = w' := by
 go_enter Tryz.func241, Tryz.ntmps241
 go_wp2
 go_ret
 exact ⟨rfl, rfl⟩
theorem lenm_Object (u : Value) (W : World) : (method (449 + 1) 112 u "Len").run Tryz.prog W = .ok (243, u) W := by kernel_rfl
theorem lene_Object (args : Array Value) (W : World) : (callFunc 243 args).run Tryz.prog W = .ok (.enter 243 args) W := by kernel_rfl
theorem len_Object (X : Option Addr) (n c : Nat) (w : World) : Calls Tryz.prog 243 #[.slice X n c] w fun e w' => e = .returned (.int .i64 (n : Nat)) ∧ w = w' := by
 go_enter Tryz.func243, Tryz.ntmps243
 go_wp2
 go_ret
 exact ⟨rfl, rfl⟩
theorem size_list (g : Nat) (t : Tr) (v : Value) (l : List UInt8) (w0 w : World) (hB : Blk w0 g 155 #[v]) (h : RdA w0 t v) (hb0 : Below w0.heap.size w0 w) (ho : t.Ok) (hf : t.fit = true) (hl : l.length ≤ 4194304) (hG : Glob w) (hT : Tab w) (ts : List (List UInt8)) (us : List Tr) (hp : parseS (wrong l) l = .ok ts) (hle : leadT t ts 0 = .inr (.list us)) :
  Calls Tryz.prog 21 #[.pointer (some ⟨g, 0, none⟩), .string ⟨l.toArray⟩] w fun e w' => e = .returned (.tuple #[.int .i64 (us.length : Nat), .slice none 0 0, .bool true]) ∧ Below w.heap.size w w' := by
 have HC := Lib.hid (plook_any g t v l w0 w hB h hb0 ho hf hl hG hT)
 have HP := Lib.hid (And.intro hp hle)
 clear hB h hb0 ho hf hl hG hT hp hle
 go_enter Tryz.func21, Tryz.ntmps21
 go_wp2_with fail
 ((with_reducible refine HC.out.mono ?_); intro e w2 hq)
 obtain ⟨hq, hb⟩ := hq
 rw [HP.out.1] at hq
 dsimp only at hq
 rw [HP.out.2] at hq
 dsimp only at hq
 obtain ⟨x, rfl, hx⟩ := hq
 unfold TdT at hx
 obtain ⟨u, vs, rfl, hrow, htl⟩ := hx
 have hvl := htl.len
 obtain ⟨X, xc, rfl, _⟩ := hrow
 have HV := Lib.hid hvl
 have HB := Lib.hid hb
 have t1 := wa_5_4
 have t2 := wa_5_3
 have m1 := lenm_List
 have m2 := lene_List
 clear HC HP htl hb hvl
 go_wp2_with fail
 ((with_reducible refine (len_List _ _ _ _).mono ?_); rintro e w3 ⟨rfl, rfl⟩)
 go_wp2
 go_ret3
 refine ⟨?_, HB.out⟩
 first | rfl | (rw [← HV.out]; rfl) | (rw [HV.out]; rfl)
theorem pairs14_at : ∀ (ks : List Tx) (vs : List Value) (k : Nat) (h1 : k < ks.length) (h2 : k < vs.length), (pairs ks vs)[k * 2]? = some (txV ks[k]) ∧ (pairs ks vs)[k * 2 + 1]? = some vs[k]
 | [], _, k, h, _ => by simp at h
 | _, [], k, _, h => by simp at h
 | a :: ks, b :: vs, 0, _, _ => by simp [pairs]
 | a :: ks, b :: vs, k + 1, h1, h2 => by
  have := pairs14_at ks vs k (by simpa using h1) (by simpa using h2)
  unfold pairs
  rw [show (k + 1) * 2 = (k * 2) + 1 + 1 by omega]
  simpa using this
theorem info_str14 : (Tryz.prog.info? 9).map (fun i => (i.zero, i.size, i.bytes)) = some (some (.string ByteArray.empty), 1, 16) := by kernel_rfl
theorem rdk14_own {w : World} {B : Nat} {v : Value} {ks : List Tx} {n : Nat} (hn : ks.length = n) (h : w.ownsRow B 9 1 v n (ks.map txV)) : RdK w v ks := by
 subst hn
 obtain ⟨A, q, rfl⟩ := own_slice h
 refine ⟨A, q, rfl, ?_⟩
 rcases h.2 with ⟨_, h0⟩ | ⟨g, cap, cur, hv, _, hg, hn, hc, hs, ht⟩
 ·exact .inl (List.length_eq_zero_iff.1 h0)
 ·injection hv with h1 h2 h3
  subst h1
  refine .inr ⟨g, 0, rfl, fun j t hj => ?_⟩
  have hlt : j < ks.length := by
   rcases Nat.lt_or_ge j ks.length with h | h
   ·exact h
   ·rw [List.getElem?_eq_none h] at hj
    cases hj
  rw [Nat.zero_add, h.cellAt j (by omega), List.getElem?_map, hj]
  rfl
theorem keys14 (S : Nat → Prop) (ks : List Tx) (l : List Tr) (o : Value) (vs : List Value) (w : World) (hrow : Row2 S w 116 o l.length (pairs ks vs)) (hkl : ks.length = l.length) (hL : TdL S w l vs) (hn : l.length ≤ 1048576) :
  Calls Tryz.prog 41 #[o] w fun e w' => ∃ v, e = .returned v ∧ RdK w' v ks ∧ Below w.heap.size w w' := by
 obtain ⟨i0, hi0, hz0, hz1, hz2⟩ := info_parts info_str14
 have HL := Lib.hid hL
 have HR := Lib.hid hrow
 obtain ⟨A, c, rfl, _⟩ := hrow
 have HKL := Lib.hid hkl
 clear hL hkl
 go_enter Tryz.func41, Tryz.ntmps41
 go_wp2
 go_loopw [3, 8] (fun c3 c8 wr => ∃ k : Nat, k ≤ l.length ∧ c8 = .int .i64 k ∧ wr.ownsRow w.heap.size 9 1 c3 k ((ks.take k).map txV) ∧ Below w.heap.size w wr) (fun _ c8 _ => l.length - (intOf c8).toNat)
 case atStart => exact ⟨0, by omega, rfl, by simpa using World.ownsRow_nil _ _ _ _, Below.refl _ _⟩
 case round =>
  obtain ⟨k, hk, rfl, hown, hbw⟩ := hrel
  have hbs := hbw.size
  obtain ⟨u3, q3, rfl⟩ := own_slice hown
  by_cases hlt : k < l.length
  ·have hcells : ∃ g o tx ux, A = some ⟨g, o, none⟩ ∧ wr.cell? ⟨g, o + k * 2, none⟩ = some (.string ⟨(ks[k]'(by have := HKL.out; omega)).toArray⟩) ∧ wr.cell? ⟨g, o + k * 2 + 1, none⟩ = some (.iface tx ux) := by
    obtain ⟨A', c', e', hlen, h'⟩ := HR.out
    injection e' with e1 e2 e3
    have hvl := HL.out.len
    rcases h' with h' | ⟨g, o, cur, hA, hSg, hBg, hc⟩
    ·omega
    ·have hp := pairs14_at ks vs k (by have := HKL.out; omega) (by omega)
     have hrd := HL.out.at (List.getElem?_eq_getElem hlt) (List.getElem?_eq_getElem (by omega : k < vs.length))
     obtain ⟨tx, ux, he⟩ := hrd.iface
     rw [he] at hp
     exact ⟨g, o, tx, ux, by rw [e1, hA], ((hbw.cell (p := ⟨g, o + k * 2, none⟩) hBg.lt).trans (hBg.cell _)).trans (hc _ _ hp.1), ((hbw.cell (p := ⟨g, o + k * 2 + 1, none⟩) hBg.lt).trans (hBg.cell _)).trans (hc _ _ hp.2)⟩
   obtain ⟨g, o, tx, ux, rfl, hc1, hc2⟩ := hcells
   have hst : (ks.take (k + 1)).map txV = (ks.take k).map txV ++ [txV (ks[k]'(by have := HKL.out; omega))] := by
    rw [List.take_succ_eq_append_getElem (by have := HKL.out; omega), List.map_append]
    rfl
   have HST := Lib.hid hst
   clear hst
   have hxl : ((ks.take k).map txV).length = k := by have := HKL.out; simp; omega
   have HXL := Lib.hid hxl
   clear hxl
   generalize ks[k]'(by have := HKL.out; omega) = t at *
   generalize (ks.take k).map txV = us at *
   have hcb : Below w.heap.size w (wr.alloc (.cells #[.string ⟨t.toArray⟩, .iface tx ux] 116)) := hbw.alloc hbs _
   have HO := Lib.hid hown
   clear hown
   have hone := one_new (wr.alloc (.cells #[.string ⟨t.toArray⟩, .iface tx ux] 116)) 9 (.string ⟨t.toArray⟩)
   rw [World.size_alloc] at hone
   have HONE := Lib.hid hone
   clear hone
   go_wp2_with (at_builtin; go_must (refine wpList_append_own _ rfl (.tmp 12) (.tmp 15) _ rfl w.heap.size 9 i0 _ 1 16 Tryz.underlying26 hi0 hz0 hz1 hz2 rfl (by omega) (.slice u3 k q3) k us rfl ((HO.out.alloc _).alloc _) ⟨wr.heap.size + 1, 0, none⟩ 1 1 [.string ⟨t.toArray⟩] rfl rfl HONE.out (one_cell _ rfl) (by unfold maxLen; omega) (by omega) (by simp; omega) ?_); intro v9 w9 hown9 hgr9 hnil9)
   go_wp2
   go_roundw
   case rel => exact ⟨k + 1, by omega, by go_num, by rw [HST.out]; exact hown9, (hcb.alloc (by simp; omega) _).grown hgr9 (by simp; omega) (fun q hq => (HO.out.lt q hq).1)⟩
   case measure => simp [intOf]; omega
  ·obtain rfl : k = l.length := by omega
   rw [List.take_of_length_le (by have := HKL.out; omega)] at hown
   have HO := Lib.hid hown
   clear hown
   go_wp2
   go_ret
   exact ⟨_, rfl, rdk14_own HKL.out HO.out, hbw⟩
theorem keysm_Object (u : Value) (W : World) : (method (449 + 1) 112 u "Keys").run Tryz.prog W = .ok (41, u) W := by kernel_rfl
theorem keyse_Object (args : Array Value) (W : World) : (callFunc 41 args).run Tryz.prog W = .ok (.enter 41 args) W := by kernel_rfl
theorem size_obj (g : Nat) (t : Tr) (v : Value) (l : List UInt8) (w0 w : World) (hB : Blk w0 g 155 #[v]) (h : RdA w0 t v) (hb0 : Below w0.heap.size w0 w) (ho : t.Ok) (hf : t.fit = true) (hl : l.length ≤ 4194304) (hG : Glob w) (hT : Tab w) (ts : List (List UInt8)) (ks : List Tx) (us : List Tr) (hn : us.length ≤ 1048576) (hp : parseS (wrong l) l = .ok ts) (hle : leadT t ts 0 = .inr (.obj ks us)) :
  Calls Tryz.prog 21 #[.pointer (some ⟨g, 0, none⟩), .string ⟨l.toArray⟩] w fun e w' => (∃ u, e = .returned (.tuple #[.int .i64 (us.length : Nat), u, .bool true]) ∧ RdK w' u ks) ∧ Below w.heap.size w w' := by
 have HC := Lib.hid (plook_any g t v l w0 w hB h hb0 ho hf hl hG hT)
 have HP := Lib.hid (And.intro hp hle)
 have HN := Lib.hid hn
 clear hB h hb0 ho hf hl hG hT hp hle hn
 go_enter Tryz.func21, Tryz.ntmps21
 go_wp2_with fail
 ((with_reducible refine (HC.out).mono ?_); intro e w2 hq)
 obtain ⟨hq, hb⟩ := hq
 rw [HP.out.1] at hq
 dsimp only at hq
 rw [HP.out.2] at hq
 dsimp only at hq
 obtain ⟨x, rfl, hx⟩ := hq
 unfold TdT at hx
 obtain ⟨u, vs, rfl, hkl, hrow, htl⟩ := hx
 have hrow0 := hrow
 obtain ⟨X, xc, rfl, _⟩ := hrow0
 have HV := Lib.hid (And.intro hkl (And.intro hrow htl))
 have HB := Lib.hid hb
 have t1 := wa_6_4
 have m1 := lenm_Object
 have m2 := lene_Object
 have m3 := keysm_Object
 have m4 := keyse_Object
 clear HC HP htl hb hrow hkl
 go_wp2_with fail
 ((with_reducible refine (len_Object _ _ _ _).mono ?_); rintro e w3 ⟨rfl, rfl⟩)
 go_wp2_with fail
 ((with_reducible refine (keys14 (fun _ => True) ks us _ vs _ HV.out.2.1 HV.out.1 HV.out.2.2 HN.out).mono ?_); rintro e w4 ⟨vK, rfl, hK, hb4⟩)
 obtain ⟨A4, c4, rfl, hc4⟩ := id hK
 have HK := Lib.hid hK
 have HB4 := Lib.hid (HB.out.trans (hb4.mono HB.out.size))
 clear hK hb4 hc4
 go_wp2
 go_ret3
 exact ⟨⟨_, rfl, HK.out⟩, HB4.out⟩
end Nd
end Go.Proofs.YtlailcmhpnnidaaGreatDoor
