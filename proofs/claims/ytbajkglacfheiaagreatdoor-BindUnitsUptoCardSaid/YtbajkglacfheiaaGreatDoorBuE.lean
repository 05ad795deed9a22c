/-
  Package utf: put of a character of two units.
-/
import Derived.Test.YtbajkglacfheiaaGreatDoorBuD
import Derived.Laws.Bits128
namespace Go.Proofs.YtbajkglacfheiaaGreatDoor
open Go Go.RowKit Mem
set_option linter.unusedVariables false
set_option linter.unusedSimpArgs false
set_option maxRecDepth 100000
namespace Nd
theorem i32_and1023 (q : Nat) (h : q < 1048576) : bits .and .i32 (q : Int) 1023 = ((q % 1024 : Nat) : Int) := by
  have h1 : (BitVec.ofInt 32 1023).toNat = 2 ^ 10 - 1 := by decide
  have key : (BitVec.ofInt 32 (q : Int) &&& BitVec.ofInt 32 1023).toNat = q % 2 ^ 10 := by
    rw [BitVec.toNat_and, BitVec.toNat_ofInt, h1, Nat.and_two_pow_sub_one_eq_mod]
    congr 1
    omega
  show IntKind.i32.wrap ((BitVec.ofInt 32 (q : Int) &&& BitVec.ofInt 32 1023).toNat : Nat) = _
  rw [key]
  have hm : ((q % 2 ^ 10 : Nat) : Int) % 4294967296 = ((q % 1024 : Nat) : Int) := by omega
  unfold IntKind.wrap
  simp only [IntKind.bits, IntKind.signed]
  have e : (2 : Int) ^ 32 = 4294967296 := by decide
  simp [hm]
  try omega
theorem two_newQ (w : World) (t : TypeId) (a b : Value) : ∀ (j : Nat) (u : Value), [a, b][j]? = some u → (w.alloc (.cells #[a, b] t)).cell? ((⟨w.heap.size, 0, none⟩ : Addr).add j) = some u := by
  intro j u hj
  have hadd : (⟨w.heap.size, 0, none⟩ : Addr).add j = ⟨w.heap.size, j, none⟩ := by unfold Addr.add; split <;> simp_all
  rw [hadd, (Blk.new w t #[a, b]).cell]
  simpa using hj
theorem unQ_two (q : Nat) : (unQ (65536 + q)).map u16V = [.int .u16 (55296 + (q : Int) / 1024), .int .u16 (56320 + (q : Int) % 1024)] := by
  unfold unQ u16V
  rw [if_neg (by omega), Nat.add_sub_cancel_left]
  simp
set_option maxHeartbeats 8000000 in
theorem put_two (base : Nat) (v : Value) (us : List Nat) (q : Nat) (w : World) (hq : q < 1048576) (hown : w.ownsRow base 131 1 v us.length (us.map u16V)) (hn : us.length ≤ 4194304) (hb : base ≤ w.heap.size) :
    Calls Tryz.prog 36 #[v, .int .i32 ((65536 + q : Nat) : Int)] w (PutP base v us (65536 + q) w) := by
  obtain ⟨i0, hi0, hz0, hz1, hz2⟩ := info_parts info_u16
  obtain ⟨A, c, rfl⟩ := own_slice hown
  have e1 : (((65536 + q : Nat) : Int) > 65535) = True := by simp; omega
  have e2 : (65536 + (q : Int) - 65536) = (q : Int) := by omega
  have e3 := i32_and1023 q hq
  have e4 := wrap_u16 (q % 1024) (by omega)
  have HQ := Lib.hid hq
  go_enter Tryz.func36, Tryz.ntmps36
  go_wp2_with (at_builtin; refine wpList_append_own_at _ rfl _ _ 39 rfl base 131 i0 _ 1 2 Tryz.underlying39 hi0 hz0 hz1 hz2 rfl (by omega) (.slice A us.length c) us.length (us.map u16V) rfl (hown.alloc _) ⟨w.heap.size, 0, none⟩ 2 2 [.int .u16 (55296 + (q : Int) / 1024), .int .u16 (56320 + (q : Int) % 1024)] rfl rfl (two_newQ _ _ _ _) (by intro u hu; rcases List.mem_cons.1 hu with rfl | hu; rfl; rw [List.mem_singleton] at hu; rw [hu]; rfl) ?b1 ?b2 ?b3 ?_; (unfold maxLen; omega); omega; (simp; omega); intro v9 w9 hown9 hgr9 hnil9 hat9)
  have HP := Lib.hid (putP_of (n := 2) (r := 65536 + q) (by unfold unQ; rw [if_neg (by omega)]; rfl) (unQ_two q).symm hown9 hgr9 hat9)
  clear hown9 hgr9 hnil9 hat9
  go_wp2
  go_ret
  exact HP.out
theorem put_any (base : Nat) (v : Value) (us : List Nat) (r : Nat) (w : World) (hr : r < 1114112) (hown : w.ownsRow base 131 1 v us.length (us.map u16V)) (hn : us.length ≤ 4194304) (hb : base ≤ w.heap.size) :
    Calls Tryz.prog 36 #[v, .int .i32 r] w (PutP base v us r w) := by
  by_cases h : r < 65536
  · exact put_one base v us r w h hown hn hb
  · obtain ⟨q, rfl⟩ : ∃ q, r = 65536 + q := ⟨r - 65536, by omega⟩
    exact put_two base v us q w (by omega) hown hn hb
end Nd
end Go.Proofs.YtbajkglacfheiaaGreatDoor

