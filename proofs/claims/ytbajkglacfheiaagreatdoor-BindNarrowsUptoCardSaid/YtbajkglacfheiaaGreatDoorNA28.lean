/-
  The reference of layer 16: integer (a number as a kind of whole number), Of at those kinds.
  Walk of package bind: Narrow.
  The reference of layer 16: Of at the whole kinds.
-/
import Derived.Test.YtbajkglacfheiaaGreatDoorNA16
import Derived.Test.YtbajkglacfheiaaGreatDoorNA19
import Derived.Test.YtbajkglacfheiaaGreatDoorNA27
set_option linter.unusedVariables false
set_option linter.unusedSimpArgs false
set_option maxRecDepth 100000
set_option maxHeartbeats 16000000
namespace Go.Proofs.YtbajkglacfheiaaGreatDoor
open Go.RowKit Mem
set_option maxRecDepth 100000
namespace Nd
theorem refTrail16 (n : Int) (p : Tx) (w : World) : Calls Tryz.prog 52 #[.int .i64 n, .string ⟨p.toArray⟩] w fun e w' => e = .returned (.agg #[.int .i64 n, .int .i64 0, .bool true, .string ⟨p.toArray⟩]) ∧ w' = w.alloc (.cells #[.int .i64 n, .int .i64 0, .bool true, .string ⟨p.toArray⟩] 81) := by
 go_enter Tryz.func52, Tryz.ntmps52
 go_wp2
 refine bodyPost_ret (v := .agg #[.int .i64 n, .int .i64 0, .bool true, .string ⟨p.toArray⟩]) ?_ rfl ⟨rfl, rfl⟩
 simp [results, Tryz.results52, go_sem]
abbrev bdC (k : Int) (f : Bool) (z : Int) (u : Int) : Array Value := #[.int .i64 k, .bool f, .int .i64 z, .int .u64 u, .int .u64 0, .int .u32 0, .int .u64 0, .int .u32 0, .string ⟨#[]⟩, .slice none 0 0, .slice none 0 0, .slice none 0 0, .slice none 0 0]
abbrev ftC (n : Int) (t : Bool) (p : Tx) : Array Value := #[.int .i64 n, .int .i64 0, .bool t, .string ⟨p.toArray⟩]
def OfP (k : Nat) (p : Tx) (r : Int ⊕ Int) (w : World) (e : Ending) (w' : World) : Prop :=
 (match r with
  | .inl n => e = .returned (.tuple #[.agg (bdC 0 false 0 0), .agg (ftC n true p)])
  | .inr z => e = .returned (.tuple #[.agg (if k < 7 then bdC k false z 0 else bdC k false 0 z), .agg (ftC 0 false [])])) ∧ Below w.heap.size w w'
def kindD (k : Nat) (u : Tr) : Int ⊕ Int := if u.isNb = true then intD k u.nb else .inl 5
def New4 (w w' : World) : Prop := ∃ a b c d, w' = (((w.alloc a).alloc b).alloc c).alloc d
def New5 (w w' : World) : Prop := ∃ a b c d e, w' = ((((w.alloc a).alloc b).alloc c).alloc d).alloc e
def IngP (k : Nat) (p : Tx) (r : Int ⊕ Int) (w : World) (e : Ending) (w' : World) : Prop :=
 (match r with
  | .inl n => e = .returned (.tuple #[.agg (bdC 0 false 0 0), .agg (ftC n true p)]) ∧ (New4 w w' ∨ New5 w w')
  | .inr z => e = .returned (.tuple #[.agg (if k < 7 then bdC k false z 0 else bdC k false 0 z), .agg (ftC 0 false [])]) ∧ New4 w w')
theorem intD_ne (k b : Nat) (n : Int) (h : intD k b = .inl n) : (n == 0) = false ∧ (n != 0) = true := by
 unfold intD at h
 split at h
 ·injection h with h
  subst h
  exact ⟨rfl, rfl⟩
 ·split at h
  ·cases h
  ·injection h with h
   subst h
   exact ⟨rfl, rfl⟩
theorem refInt_3 (x : Nat) (hx : x < 18446744073709551616) (hf : finB x = true) (p : Tx) (fl : Bool) (s : Tx) (A : Option Addr) (n c : Nat) (K : Option Addr) (m d : Nat) (w : World) : Calls Tryz.prog 47 #[.agg #[.int .i64 3, .bool fl, .int .u64 (x : Int), .string ⟨s.toArray⟩, .slice A n c, .slice K m d], .string ⟨p.toArray⟩, .int .i64 3] w (IngP 3 p (intD 3 x) w) := by
 have hs := refSigned_8 x hx hf
 rw [← signed_int (k := 3) hx hf (most := 128) (by omega) (by omega) (by decide) (by decide)] at hs
 have hne := intD_ne 3 x
 obtain ⟨r, hr⟩ : ∃ r, intD 3 x = r := ⟨_, rfl⟩
 rw [hr] at hs hne ⊢
 have HS := Lib.hid hs
 clear hs hr
 cases r with
 | inl q =>
  obtain ⟨hn1, hn2⟩ := hne q rfl
  clear hne
  go_enter Tryz.func47, Tryz.ntmps47
  go_wp2_with fail
  ((with_reducible refine (HS.out _).mono ?_); rintro e w2 ⟨rfl, rfl⟩)
  go_wp2_with fail
  ((with_reducible refine (refTrail16 q p _).mono ?_); rintro e w3 ⟨rfl, rfl⟩)
  go_wp2
  refine bodyPost_ret (v := .tuple #[.agg (bdC 0 false 0 0), .agg (ftC q true p)]) ?_ rfl ⟨rfl, .inr ⟨_, _, _, _, _, rfl⟩⟩
  simp [results, Tryz.results47, go_sem]
 | inr z =>
  clear hne
  go_enter Tryz.func47, Tryz.ntmps47
  go_wp2_with fail
  ((with_reducible refine (HS.out _).mono ?_); rintro e w2 ⟨rfl, rfl⟩)
  go_wp2
  refine bodyPost_ret (v := .tuple #[.agg (bdC 3 false z 0), .agg (ftC 0 false [])]) ?_ rfl ⟨rfl, _, _, _, _, rfl⟩
  simp [results, Tryz.results47, go_sem]
theorem refInt_4 (x : Nat) (hx : x < 18446744073709551616) (hf : finB x = true) (p : Tx) (fl : Bool) (s : Tx) (A : Option Addr) (n c : Nat) (K : Option Addr) (m d : Nat) (w : World) : Calls Tryz.prog 47 #[.agg #[.int .i64 3, .bool fl, .int .u64 (x : Int), .string ⟨s.toArray⟩, .slice A n c, .slice K m d], .string ⟨p.toArray⟩, .int .i64 4] w (IngP 4 p (intD 4 x) w) := by
 have hs := refSigned_16 x hx hf
 rw [← signed_int (k := 4) hx hf (most := 32768) (by omega) (by omega) (by decide) (by decide)] at hs
 have hne := intD_ne 4 x
 obtain ⟨r, hr⟩ : ∃ r, intD 4 x = r := ⟨_, rfl⟩
 rw [hr] at hs hne ⊢
 have HS := Lib.hid hs
 clear hs hr
 cases r with
 | inl q =>
  obtain ⟨hn1, hn2⟩ := hne q rfl
  clear hne
  go_enter Tryz.func47, Tryz.ntmps47
  go_wp2_with fail
  ((with_reducible refine (HS.out _).mono ?_); rintro e w2 ⟨rfl, rfl⟩)
  go_wp2_with fail
  ((with_reducible refine (refTrail16 q p _).mono ?_); rintro e w3 ⟨rfl, rfl⟩)
  go_wp2
  refine bodyPost_ret (v := .tuple #[.agg (bdC 0 false 0 0), .agg (ftC q true p)]) ?_ rfl ⟨rfl, .inr ⟨_, _, _, _, _, rfl⟩⟩
  simp [results, Tryz.results47, go_sem]
 | inr z =>
  clear hne
  go_enter Tryz.func47, Tryz.ntmps47
  go_wp2_with fail
  ((with_reducible refine (HS.out _).mono ?_); rintro e w2 ⟨rfl, rfl⟩)
  go_wp2
  refine bodyPost_ret (v := .tuple #[.agg (bdC 4 false z 0), .agg (ftC 0 false [])]) ?_ rfl ⟨rfl, _, _, _, _, rfl⟩
  simp [results, Tryz.results47, go_sem]
theorem refInt_5 (x : Nat) (hx : x < 18446744073709551616) (hf : finB x = true) (p : Tx) (fl : Bool) (s : Tx) (A : Option Addr) (n c : Nat) (K : Option Addr) (m d : Nat) (w : World) : Calls Tryz.prog 47 #[.agg #[.int .i64 3, .bool fl, .int .u64 (x : Int), .string ⟨s.toArray⟩, .slice A n c, .slice K m d], .string ⟨p.toArray⟩, .int .i64 5] w (IngP 5 p (intD 5 x) w) := by
 have hs := refSigned_32 x hx hf
 rw [← signed_int (k := 5) hx hf (most := 2147483648) (by omega) (by omega) (by decide) (by decide)] at hs
 have hne := intD_ne 5 x
 obtain ⟨r, hr⟩ : ∃ r, intD 5 x = r := ⟨_, rfl⟩
 rw [hr] at hs hne ⊢
 have HS := Lib.hid hs
 clear hs hr
 cases r with
 | inl q =>
  obtain ⟨hn1, hn2⟩ := hne q rfl
  clear hne
  go_enter Tryz.func47, Tryz.ntmps47
  go_wp2_with fail
  ((with_reducible refine (HS.out _).mono ?_); rintro e w2 ⟨rfl, rfl⟩)
  go_wp2_with fail
  ((with_reducible refine (refTrail16 q p _).mono ?_); rintro e w3 ⟨rfl, rfl⟩)
  go_wp2
  refine bodyPost_ret (v := .tuple #[.agg (bdC 0 false 0 0), .agg (ftC q true p)]) ?_ rfl ⟨rfl, .inr ⟨_, _, _, _, _, rfl⟩⟩
  simp [results, Tryz.results47, go_sem]
 | inr z =>
  clear hne
  go_enter Tryz.func47, Tryz.ntmps47
  go_wp2_with fail
  ((with_reducible refine (HS.out _).mono ?_); rintro e w2 ⟨rfl, rfl⟩)
  go_wp2
  refine bodyPost_ret (v := .tuple #[.agg (bdC 5 false z 0), .agg (ftC 0 false [])]) ?_ rfl ⟨rfl, _, _, _, _, rfl⟩
  simp [results, Tryz.results47, go_sem]
theorem refInt_6 (x : Nat) (hx : x < 18446744073709551616) (hf : finB x = true) (p : Tx) (fl : Bool) (s : Tx) (A : Option Addr) (n c : Nat) (K : Option Addr) (m d : Nat) (w : World) : Calls Tryz.prog 47 #[.agg #[.int .i64 3, .bool fl, .int .u64 (x : Int), .string ⟨s.toArray⟩, .slice A n c, .slice K m d], .string ⟨p.toArray⟩, .int .i64 6] w (IngP 6 p (intD 6 x) w) := by
 have hs := refSigned_64 x hx hf
 rw [← signed_int (k := 6) hx hf (most := 9223372036854775808) (by omega) (by omega) (by decide) (by decide)] at hs
 have hne := intD_ne 6 x
 obtain ⟨r, hr⟩ : ∃ r, intD 6 x = r := ⟨_, rfl⟩
 rw [hr] at hs hne ⊢
 have HS := Lib.hid hs
 clear hs hr
 cases r with
 | inl q =>
  obtain ⟨hn1, hn2⟩ := hne q rfl
  clear hne
  go_enter Tryz.func47, Tryz.ntmps47
  go_wp2_with fail
  ((with_reducible refine (HS.out _).mono ?_); rintro e w2 ⟨rfl, rfl⟩)
  go_wp2_with fail
  ((with_reducible refine (refTrail16 q p _).mono ?_); rintro e w3 ⟨rfl, rfl⟩)
  go_wp2
  refine bodyPost_ret (v := .tuple #[.agg (bdC 0 false 0 0), .agg (ftC q true p)]) ?_ rfl ⟨rfl, .inr ⟨_, _, _, _, _, rfl⟩⟩
  simp [results, Tryz.results47, go_sem]
 | inr z =>
  clear hne
  go_enter Tryz.func47, Tryz.ntmps47
  go_wp2_with fail
  ((with_reducible refine (HS.out _).mono ?_); rintro e w2 ⟨rfl, rfl⟩)
  go_wp2
  refine bodyPost_ret (v := .tuple #[.agg (bdC 6 false z 0), .agg (ftC 0 false [])]) ?_ rfl ⟨rfl, _, _, _, _, rfl⟩
  simp [results, Tryz.results47, go_sem]
theorem refInt_7 (x : Nat) (hx : x < 18446744073709551616) (hf : finB x = true) (p : Tx) (fl : Bool) (s : Tx) (A : Option Addr) (n c : Nat) (K : Option Addr) (m d : Nat) (w : World) : Calls Tryz.prog 47 #[.agg #[.int .i64 3, .bool fl, .int .u64 (x : Int), .string ⟨s.toArray⟩, .slice A n c, .slice K m d], .string ⟨p.toArray⟩, .int .i64 7] w (IngP 7 p (intD 7 x) w) := by
 have hs := refUnsigned_8 x hx hf
 rw [← unsigned_int (k := 7) hx hf (lim := 256) (by omega) (by decide) (by decide)] at hs
 have hne := intD_ne 7 x
 obtain ⟨r, hr⟩ : ∃ r, intD 7 x = r := ⟨_, rfl⟩
 rw [hr] at hs hne ⊢
 have HS := Lib.hid hs
 clear hs hr
 cases r with
 | inl q =>
  obtain ⟨hn1, hn2⟩ := hne q rfl
  clear hne
  go_enter Tryz.func47, Tryz.ntmps47
  go_wp2_with fail
  ((with_reducible refine (HS.out _).mono ?_); rintro e w2 ⟨rfl, rfl⟩)
  go_wp2_with fail
  ((with_reducible refine (refTrail16 q p _).mono ?_); rintro e w3 ⟨rfl, rfl⟩)
  go_wp2
  refine bodyPost_ret (v := .tuple #[.agg (bdC 0 false 0 0), .agg (ftC q true p)]) ?_ rfl ⟨rfl, .inr ⟨_, _, _, _, _, rfl⟩⟩
  simp [results, Tryz.results47, go_sem]
 | inr z =>
  clear hne
  go_enter Tryz.func47, Tryz.ntmps47
  go_wp2_with fail
  ((with_reducible refine (HS.out _).mono ?_); rintro e w2 ⟨rfl, rfl⟩)
  go_wp2
  refine bodyPost_ret (v := .tuple #[.agg (bdC 7 false 0 z), .agg (ftC 0 false [])]) ?_ rfl ⟨rfl, _, _, _, _, rfl⟩
  simp [results, Tryz.results47, go_sem]
theorem refInt_8 (x : Nat) (hx : x < 18446744073709551616) (hf : finB x = true) (p : Tx) (fl : Bool) (s : Tx) (A : Option Addr) (n c : Nat) (K : Option Addr) (m d : Nat) (w : World) : Calls Tryz.prog 47 #[.agg #[.int .i64 3, .bool fl, .int .u64 (x : Int), .string ⟨s.toArray⟩, .slice A n c, .slice K m d], .string ⟨p.toArray⟩, .int .i64 8] w (IngP 8 p (intD 8 x) w) := by
 have hs := refUnsigned_16 x hx hf
 rw [← unsigned_int (k := 8) hx hf (lim := 65536) (by omega) (by decide) (by decide)] at hs
 have hne := intD_ne 8 x
 obtain ⟨r, hr⟩ : ∃ r, intD 8 x = r := ⟨_, rfl⟩
 rw [hr] at hs hne ⊢
 have HS := Lib.hid hs
 clear hs hr
 cases r with
 | inl q =>
  obtain ⟨hn1, hn2⟩ := hne q rfl
  clear hne
  go_enter Tryz.func47, Tryz.ntmps47
  go_wp2_with fail
  ((with_reducible refine (HS.out _).mono ?_); rintro e w2 ⟨rfl, rfl⟩)
  go_wp2_with fail
  ((with_reducible refine (refTrail16 q p _).mono ?_); rintro e w3 ⟨rfl, rfl⟩)
  go_wp2
  refine bodyPost_ret (v := .tuple #[.agg (bdC 0 false 0 0), .agg (ftC q true p)]) ?_ rfl ⟨rfl, .inr ⟨_, _, _, _, _, rfl⟩⟩
  simp [results, Tryz.results47, go_sem]
 | inr z =>
  clear hne
  go_enter Tryz.func47, Tryz.ntmps47
  go_wp2_with fail
  ((with_reducible refine (HS.out _).mono ?_); rintro e w2 ⟨rfl, rfl⟩)
  go_wp2
  refine bodyPost_ret (v := .tuple #[.agg (bdC 8 false 0 z), .agg (ftC 0 false [])]) ?_ rfl ⟨rfl, _, _, _, _, rfl⟩
  simp [results, Tryz.results47, go_sem]
theorem refInt_9 (x : Nat) (hx : x < 18446744073709551616) (hf : finB x = true) (p : Tx) (fl : Bool) (s : Tx) (A : Option Addr) (n c : Nat) (K : Option Addr) (m d : Nat) (w : World) : Calls Tryz.prog 47 #[.agg #[.int .i64 3, .bool fl, .int .u64 (x : Int), .string ⟨s.toArray⟩, .slice A n c, .slice K m d], .string ⟨p.toArray⟩, .int .i64 9] w (IngP 9 p (intD 9 x) w) := by
 have hs := refUnsigned_32 x hx hf
 rw [← unsigned_int (k := 9) hx hf (lim := 4294967296) (by omega) (by decide) (by decide)] at hs
 have hne := intD_ne 9 x
 obtain ⟨r, hr⟩ : ∃ r, intD 9 x = r := ⟨_, rfl⟩
 rw [hr] at hs hne ⊢
 have HS := Lib.hid hs
 clear hs hr
 cases r with
 | inl q =>
  obtain ⟨hn1, hn2⟩ := hne q rfl
  clear hne
  go_enter Tryz.func47, Tryz.ntmps47
  go_wp2_with fail
  ((with_reducible refine (HS.out _).mono ?_); rintro e w2 ⟨rfl, rfl⟩)
  go_wp2_with fail
  ((with_reducible refine (refTrail16 q p _).mono ?_); rintro e w3 ⟨rfl, rfl⟩)
  go_wp2
  refine bodyPost_ret (v := .tuple #[.agg (bdC 0 false 0 0), .agg (ftC q true p)]) ?_ rfl ⟨rfl, .inr ⟨_, _, _, _, _, rfl⟩⟩
  simp [results, Tryz.results47, go_sem]
 | inr z =>
  clear hne
  go_enter Tryz.func47, Tryz.ntmps47
  go_wp2_with fail
  ((with_reducible refine (HS.out _).mono ?_); rintro e w2 ⟨rfl, rfl⟩)
  go_wp2
  refine bodyPost_ret (v := .tuple #[.agg (bdC 9 false 0 z), .agg (ftC 0 false [])]) ?_ rfl ⟨rfl, _, _, _, _, rfl⟩
  simp [results, Tryz.results47, go_sem]
theorem refInt_10 (x : Nat) (hx : x < 18446744073709551616) (hf : finB x = true) (p : Tx) (fl : Bool) (s : Tx) (A : Option Addr) (n c : Nat) (K : Option Addr) (m d : Nat) (w : World) : Calls Tryz.prog 47 #[.agg #[.int .i64 3, .bool fl, .int .u64 (x : Int), .string ⟨s.toArray⟩, .slice A n c, .slice K m d], .string ⟨p.toArray⟩, .int .i64 10] w (IngP 10 p (intD 10 x) w) := by
 have hs := refUnsigned_64 x hx hf
 rw [← unsigned_int (k := 10) hx hf (lim := 18446744073709551616) (by omega) (by decide) (by decide)] at hs
 have hne := intD_ne 10 x
 obtain ⟨r, hr⟩ : ∃ r, intD 10 x = r := ⟨_, rfl⟩
 rw [hr] at hs hne ⊢
 have HS := Lib.hid hs
 clear hs hr
 cases r with
 | inl q =>
  obtain ⟨hn1, hn2⟩ := hne q rfl
  clear hne
  go_enter Tryz.func47, Tryz.ntmps47
  go_wp2_with fail
  ((with_reducible refine (HS.out _).mono ?_); rintro e w2 ⟨rfl, rfl⟩)
  go_wp2_with fail
  ((with_reducible refine (refTrail16 q p _).mono ?_); rintro e w3 ⟨rfl, rfl⟩)
  go_wp2
  refine bodyPost_ret (v := .tuple #[.agg (bdC 0 false 0 0), .agg (ftC q true p)]) ?_ rfl ⟨rfl, .inr ⟨_, _, _, _, _, rfl⟩⟩
  simp [results, Tryz.results47, go_sem]
 | inr z =>
  clear hne
  go_enter Tryz.func47, Tryz.ntmps47
  go_wp2_with fail
  ((with_reducible refine (HS.out _).mono ?_); rintro e w2 ⟨rfl, rfl⟩)
  go_wp2
  refine bodyPost_ret (v := .tuple #[.agg (bdC 10 false 0 z), .agg (ftC 0 false [])]) ?_ rfl ⟨rfl, _, _, _, _, rfl⟩
  simp [results, Tryz.results47, go_sem]
theorem refInt_no (k : Int) (st : Int) (hst : (st != 3) = true) (fl : Bool) (bi : Int) (s : Tx) (p : Tx) (A : Option Addr) (n c : Nat) (K : Option Addr) (m d : Nat) (w : World) : Calls Tryz.prog 47 #[.agg #[.int .i64 st, .bool fl, .int .u64 bi, .string ⟨s.toArray⟩, .slice A n c, .slice K m d], .string ⟨p.toArray⟩, .int .i64 k] w fun e w' => e = .returned (.tuple #[.agg (bdC 0 false 0 0), .agg (ftC 5 true p)]) ∧ (New4 w w' ∨ New5 w w') := by
 go_enter Tryz.func47, Tryz.ntmps47
 go_wp2_with fail
 ((with_reducible refine (refTrail16 5 p _).mono ?_); rintro e w3 ⟨rfl, rfl⟩)
 go_wp2
 refine bodyPost_ret (v := .tuple #[.agg (bdC 0 false 0 0), .agg (ftC 5 true p)]) ?_ rfl ⟨rfl, .inl ⟨_, _, _, _, rfl⟩⟩
 simp [results, Tryz.results47, go_sem]
theorem refInteger_any (k : Nat) (h3 : 3 ≤ k) (h10 : k ≤ 10) (u : Tr) (ho : u.Ok) (A : Option Addr) (c : Nat) (K : Option Addr) (d : Nat) (p : Tx) (w : World) : Calls Tryz.prog 47 #[valV u A c K d, .string ⟨p.toArray⟩, .int .i64 (k : Int)] w (IngP k p (kindD k u) w) := by
 by_cases hn : u.isNb = true
 ·cases u <;> simp [Tr.isNb] at hn
  rename_i x
  unfold kindD
  rw [if_pos (show (Tr.num x).isNb = true from rfl)]
  rcases (by omega : k = 3 ∨ k = 4 ∨ k = 5 ∨ k = 6 ∨ k = 7 ∨ k = 8 ∨ k = 9 ∨ k = 10) with rfl | rfl | rfl | rfl | rfl | rfl | rfl | rfl
  ·exact refInt_3 x ho.2.2 ho.1 p false [] A 0 c K 0 d w
  ·exact refInt_4 x ho.2.2 ho.1 p false [] A 0 c K 0 d w
  ·exact refInt_5 x ho.2.2 ho.1 p false [] A 0 c K 0 d w
  ·exact refInt_6 x ho.2.2 ho.1 p false [] A 0 c K 0 d w
  ·exact refInt_7 x ho.2.2 ho.1 p false [] A 0 c K 0 d w
  ·exact refInt_8 x ho.2.2 ho.1 p false [] A 0 c K 0 d w
  ·exact refInt_9 x ho.2.2 ho.1 p false [] A 0 c K 0 d w
  ·exact refInt_10 x ho.2.2 ho.1 p false [] A 0 c K 0 d w
 ·have hs : (((u.srt : Nat) : Int) != 3) = true := by
   cases u <;> simp [Tr.isNb, Tr.srt] at hn ⊢
  unfold kindD
  rw [if_neg hn]
  exact refInt_no k _ hs _ _ _ p _ _ _ _ _ _ w
end Nd
end Go.Proofs.YtbajkglacfheiaaGreatDoor
namespace Go.Proofs.YtbajkglacfheiaaGreatDoor
open Go.RowKit Mem Utf Ref3 Idx Tok TokC
set_option maxRecDepth 100000
namespace Nd
def firstK (u : Tr) : Nat := if valB u.nb < 0 then 3 else 7
def narrowD (u : Tr) : Nat → Nat → Int → Int ⊕ (Nat × Int)
 | _, 0, e => .inl e
 | f, n + 1, e => match kindD f u with
  | .inl e' => narrowD u (f + 1) n e'
  | .inr z => .inr (f, z)
theorem narrowD_no {u : Tr} {f n : Nat} {e e' : Int} (h : kindD f u = .inl e') : narrowD u f (n + 1) e = narrowD u (f + 1) n e' := by
 rw [narrowD, h]
theorem narrowD_yes {u : Tr} {f n : Nat} {e z : Int} (h : kindD f u = .inr z) : narrowD u f (n + 1) e = .inr (f, z) := by
 rw [narrowD, h]
def NarR (l : Tx) (u : Tr) (W : World) (e : Ending) (w' : World) : Prop :=
 (match narrowD u (firstK u) 4 0 with
  | .inl n => e = .returned (.tuple #[.nilIface, trlV n l])
  | .inr x => e = .returned (.tuple #[intV x.1 x.2, .nilIface])) ∧ Below W.heap.size W w'
theorem wholeR_kind {k : Nat} {p : Tx} {u : Tr} {W : World} {e : Ending} {w' : World} (h : WholeR k p u W e w') : (match kindD k u with
  | .inl n => e = .returned (.tuple #[.nilIface, trlV n p])
  | .inr z => e = .returned (.tuple #[intV k z, .nilIface])) ∧ Below W.heap.size W w' := by
 unfold WholeR at h
 unfold kindD
 by_cases hn : u.isNb = true
 ·rw [if_pos hn] at h ⊢
  unfold BwP at h
  obtain ⟨h1, h2⟩ := h
  refine ⟨?_, h2⟩
  split at h1
  ·rename_i e1
   rw [e1]
   exact h1
  ·rename_i e1
   rw [e1]
   exact h1
 ·rw [if_neg hn] at h ⊢
  exact h
theorem tn_3 (v : Value) (W : World) : (Instr.typeAssert (.iface 257 v) 29 48 true).run Tryz.prog W = .ok (.tuple #[.iface 257 v, .bool true]) W := by kernel_rfl
theorem tn_4 (v : Value) (W : World) : (Instr.typeAssert (.iface 127 v) 29 48 true).run Tryz.prog W = .ok (.tuple #[.iface 127 v, .bool true]) W := by kernel_rfl
theorem tn_5 (v : Value) (W : World) : (Instr.typeAssert (.iface 258 v) 29 48 true).run Tryz.prog W = .ok (.tuple #[.iface 258 v, .bool true]) W := by kernel_rfl
theorem tn_6 (v : Value) (W : World) : (Instr.typeAssert (.iface 259 v) 29 48 true).run Tryz.prog W = .ok (.tuple #[.iface 259 v, .bool true]) W := by kernel_rfl
theorem tn_7 (v : Value) (W : World) : (Instr.typeAssert (.iface 260 v) 29 48 true).run Tryz.prog W = .ok (.tuple #[.iface 260 v, .bool true]) W := by kernel_rfl
theorem tn_8 (v : Value) (W : World) : (Instr.typeAssert (.iface 261 v) 29 48 true).run Tryz.prog W = .ok (.tuple #[.iface 261 v, .bool true]) W := by kernel_rfl
theorem tn_9 (v : Value) (W : World) : (Instr.typeAssert (.iface 262 v) 29 48 true).run Tryz.prog W = .ok (.tuple #[.iface 262 v, .bool true]) W := by kernel_rfl
theorem tn_10 (v : Value) (W : World) : (Instr.typeAssert (.iface 263 v) 29 48 true).run Tryz.prog W = .ok (.tuple #[.iface 263 v, .bool true]) W := by kernel_rfl
theorem tn_nil (W : World) : (Instr.typeAssert .nilIface 29 48 true).run Tryz.prog W = .ok (.tuple #[.nilIface, .bool false]) W := by kernel_rfl
theorem intV_form (k : Nat) (h3 : 3 ≤ k) (h10 : k ≤ 10) (z : Int) : ∃ T U, intV k z = .iface T U ∧ ∀ W, (Instr.typeAssert (.iface T U) 29 48 true).run Tryz.prog W = .ok (.tuple #[.iface T U, .bool true]) W := by
 rcases (by omega : k = 3 ∨ k = 4 ∨ k = 5 ∨ k = 6 ∨ k = 7 ∨ k = 8 ∨ k = 9 ∨ k = 10) with rfl | rfl | rfl | rfl | rfl | rfl | rfl | rfl
 ·exact ⟨_, _, rfl, tn_3 _⟩
 ·exact ⟨_, _, rfl, tn_4 _⟩
 ·exact ⟨_, _, rfl, tn_5 _⟩
 ·exact ⟨_, _, rfl, tn_6 _⟩
 ·exact ⟨_, _, rfl, tn_7 _⟩
 ·exact ⟨_, _, rfl, tn_8 _⟩
 ·exact ⟨_, _, rfl, tn_9 _⟩
 ·exact ⟨_, _, rfl, tn_10 _⟩
theorem nb_fin {u : Tr} (ho : u.Ok) : finB u.nb = true ∧ u.nb < 18446744073709551616 := by
 cases u with
 | num x => exact ⟨ho.1, ho.2.2⟩
 | _ => exact ⟨(by decide : finB 0 = true), (by decide : 0 < 18446744073709551616)⟩
theorem narrow_nil (l : Tx) (w : World) : Calls Tryz.prog 18 #[.pointer none, .string ⟨l.toArray⟩] w fun e w' => e = .returned (.tuple #[.nilIface, errN 1]) ∧ w = w' := by
 go_enter Tryz.func18, Tryz.ntmps18
 go_wp2
 go_ret2
 exact ⟨rfl, rfl⟩
def Kinds4 (w : World) (g f : Nat) : Prop := ∀ j, j < 4 → w.cell? ⟨g, j, none⟩ = some (.int .i64 ((f + j : Nat) : Int))
theorem kinds4_new (w : World) (t : TypeId) (f : Nat) (a b c d : Int) (ha : a = f) (hb : b = f + 1) (hc : c = f + 2) (hd : d = f + 3) : Kinds4 (w.alloc (.cells #[.int .i64 a, .int .i64 b, .int .i64 c, .int .i64 d] t)) w.heap.size f := fun j hj => by
 rw [(Blk.new w t #[.int .i64 a, .int .i64 b, .int .i64 c, .int .i64 d]).cell j]
 subst ha hb hc hd
 rcases (by omega : j = 0 ∨ j = 1 ∨ j = 2 ∨ j = 3) with rfl | rfl | rfl | rfl <;> simp
theorem Kinds4.below {w w' : World} {g f : Nat} (h : Kinds4 w g f) (hb : Below w.heap.size w w') : Kinds4 w' g f := fun j hj => (hb.cell (p := ⟨g, j, none⟩) (World.block_lt_of_cell? _ _ (h j hj))).trans (h j hj)
theorem narrow_any (g : Nat) (t : Tr) (v : Value) (l : Tx) (w0 w : World) (hB : Blk w0 g 123 #[v]) (h : RdA w0 t v) (hb0 : Below w0.heap.size w0 w) (ho : t.Ok) (hf : t.fit = true) (hl : l.length ≤ 4194304) (hG : Glob w) (hT : Tab w) :
  Calls Tryz.prog 18 #[.pointer (some ⟨g, 0, none⟩), .string ⟨l.toArray⟩] w (BindP (NarR l) t l w) := by
 have q1 := err_ne_nil
 have q2 := err_ne_held
 have q3 := err_eq_nil
 have q4 := err_eq_held
 have q5 := tn_nil
 have HB := Lib.hid hB
 have HRD := Lib.hid h
 have HB0 := Lib.hid hb0
 have HO := Lib.hid (And.intro ho hf)
 have HL := Lib.hid hl
 have HG := Lib.hid (And.intro hG hT)
 clear hB h hb0 ho hf hl hG hT
 go_enter Tryz.func18, Tryz.ntmps18
 go_wp2_with fail
 ((with_reducible refine (pfind_any g t v l w0 _ HB.out HRD.out HB0.out HO.out.1 HO.out.2 HL.out HG.out.1 HG.out.2).mono ?_); rintro e w1 ⟨he, hb1⟩)
 have HB1 := Lib.hid hb1
 cases hp : parseS (wrong l) l with
 | error x =>
  rw [hp] at he
  obtain rfl := he
  have hbp : BindP (NarR l) t l w (.returned (.tuple #[.nilIface, Go.Proofs.YtbajkglacfheiaaGreatDoor.errV x.1 x.2])) (w1.alloc (.cells #[.nilIface] 58)) := bindP_err hp (HB1.out.alloc HB1.out.size _)
  clear hp hb1
  obtain ⟨T, u, hTu⟩ := errV_form x.1 x.2
  rw [hTu] at hbp ⊢
  have HP := Lib.hid hbp
  clear hTu hbp
  go_wp2
  go_ret2
  exact HP.out
 | ok ts =>
  rw [hp] at he
  dsimp only at he
  cases hle : leadT t ts 0 with
  | inl n =>
   rw [hle] at he
   obtain rfl := he
   have HP : Hid (BindP (NarR l) t l w (.returned (.tuple #[.nilIface, trlV 4 (printS (ts.take n))])) (w1.alloc (.cells #[.nilIface] 58))) := Lib.hid (bindP_lost hp hle (HB1.out.alloc HB1.out.size _))
   clear hp hle hb1
   go_wp2
   go_ret2
   exact HP.out
  | inr u =>
   rw [hle] at he
   obtain ⟨tx, ux, rfl, hrd, huo⟩ := he
   have HPL := Lib.hid (And.intro hp hle)
   obtain ⟨w2, hw2⟩ : ∃ w2, (w1.alloc (.cells #[.iface tx ux] 58)).alloc (.cells #[.int .i64 7, .int .i64 8, .int .i64 9, .int .i64 10] 32) = w2 := ⟨_, rfl⟩
   have hba : Below w1.heap.size w1 (w1.alloc (.cells #[.iface tx ux] 58)) := (Below.refl _ _).alloc (Nat.le_refl _) _
   have hb2 : Below w.heap.size w w2 := by rw [← hw2]; exact (hb1.alloc hb1.size _).alloc (by have := hb1.size; simp; omega) _
   have hB2 : Blk w2 w1.heap.size 58 #[.iface tx ux] := by rw [← hw2]; exact (Blk.new w1 _ _).alloc _
   have hk2 : Kinds4 w2 (w1.heap.size + 1) 7 := by
    have := kinds4_new (w1.alloc (.cells #[.iface tx ux] 58)) 32 7 7 8 9 10 rfl rfl rfl rfl
    rw [World.size_alloc, hw2] at this
    exact this
   have hru : RdA w2 u (.iface tx ux) := rda_below hrd (HB0.out.trans (hb2.mono HB0.out.size))
   have c1 := hB2.cell 0
   simp at c1
   have HB2 := Lib.hid (And.intro hb2 (And.intro hB2 (And.intro hk2 hru)))
   have HUO := Lib.hid huo.1
   have hnf := nb_fin huo.1
   have hord := order_lt hnf.2 (by decide : 0 < 18446744073709551616) hnf.1 (by decide : finB 0 = true)
   rw [val_nought] at hord
   clear hp hle hb1 hba hb2 hB2 hk2 hrd hru huo hnf
   go_upto_region 7 with fail
   clear hw2
   go_wp2_with fail
   ((with_reducible refine (numr_any (fun _ => True) u (.iface tx ux) _ HB2.out.2.2.2).mono ?_); rintro e w3 ⟨rfl, hb3⟩)
   have HB3 := Lib.hid (HB2.out.1.trans (hb3.mono HB2.out.1.size))
   have HRB3 := Lib.hid (HB2.out.2.1.below hb3 HB2.out.2.1.lt)
   have HRU3 := Lib.hid (rda_below HB2.out.2.2.2 hb3)
   have HK3 := Lib.hid (HB2.out.2.2.1.below hb3)
   clear hb3 c1
   by_cases hneg : valB u.nb < 0
   ·rw [decide_eq_true hneg] at hord
    have r3 := ordt hord
    have r4 := ordb hord
    have HVN := Lib.hid hneg
    clear hneg hord
    obtain ⟨wk, hwk⟩ : ∃ wk, w3.alloc (.cells #[.int .i64 3, .int .i64 4, .int .i64 5, .int .i64 6] 32) = wk := ⟨_, rfl⟩
    have hba : Below w3.heap.size w3 wk := by rw [← hwk]; exact (Below.refl _ _).alloc (Nat.le_refl _) _
    have hbk := HB3.out.trans (hba.mono HB3.out.size)
    have hks : Kinds4 wk w3.heap.size 3 := by rw [← hwk]; exact kinds4_new w3 32 3 3 4 5 6 rfl rfl rfl rfl
    have HRB := Lib.hid (HRB3.out.below hba HRB3.out.lt)
    have HRU := Lib.hid (rda_below HRU3.out hba)
    clear hba
    go_upto_region 10 with fail
    clear hwk r3 r4
    have HWK := Lib.hid hbk
    have HKS := Lib.hid hks
    have HFK := Lib.hid (show firstK u = 3 by unfold firstK; rw [if_pos HVN.out])
    clear hbk hks
    go_wp2_with fail
    go_loopw [11, 41] (fun c11 c41 wr => ∃ (j : Nat) (n : Int), j ≤ 4 ∧ c41 = .int .i64 (j : Int) ∧ Hid ((j = 0 ∧ c11 = .nilIface) ∨ c11 = trlV n l) ∧ Hid (narrowD u 3 4 0 = narrowD u (3 + j) (4 - j) n ∧ Below wk.heap.size wk wr)) (fun _ c41 _ => 4 - (intOf c41).toNat)
    case atStart => exact ⟨0, 0, by omega, rfl, Lib.hid (.inl ⟨rfl, rfl⟩), Lib.hid ⟨rfl, Below.refl _ _⟩⟩
    case round =>
     obtain ⟨j, n, hj, rfl, HC, HI⟩ := hrel
     by_cases hlt : j < 4
     ·have hck := (HKS.out.below HI.out.2) j hlt
      have hcr := (HRB.out.below HI.out.2 HRB.out.lt).cell 0
      simp at hcr
      have hji : (j : Int) < 4 := by omega
      have hj0 : (0 : Int) ≤ (j : Int) := by omega
      have HBC := Lib.hid (bound_wholeR (3 + j) (by omega) (by omega) u (.iface tx ux) l wr (rda_below HRU.out HI.out.2) HUO.out)
      have HJ := Lib.hid hlt
      obtain ⟨K, hK⟩ : ∃ K : Int, ((3 + j : Nat) : Int) = K := ⟨_, rfl⟩
      rw [hK] at hck HBC
      clear hlt hK
      go_wp2_with fail
      ((with_reducible refine (HBC.out).mono ?_); intro e w6 hl6)
      obtain ⟨W6, hbW6, hw6⟩ := hl6
      obtain ⟨hw6, hb6⟩ := wholeR_kind hw6
      have hb66 : Below wr.heap.size wr w6 := hbW6.trans (hb6.mono hbW6.size)
      have HI6 := Lib.hid (HI.out.2.trans (hb66.mono HI.out.2.size))
      clear hbW6 hb6 hb66 hck hcr
      cases hkd : kindD (3 + j) u with
      | inl m =>
       rw [hkd] at hw6
       obtain rfl := hw6
       have HN : Hid (narrowD u 3 4 0 = narrowD u (3 + (j + 1)) (4 - (j + 1)) m) := Lib.hid (by
        have h1 := HI.out.1
        have e1 : 4 - j = (4 - (j + 1)) + 1 := by have := HJ.out; omega
        rw [e1, narrowD_no hkd] at h1
        exact h1)
       clear hkd
       unfold trlV
       go_wp2
       go_roundw
       case rel => exact ⟨j + 1, m, HJ.out, by go_num, Lib.hid (.inr rfl), Lib.hid ⟨HN.out, HI6.out⟩⟩
       case measure => simp [intOf]; omega
      | inr z =>
       rw [hkd] at hw6
       obtain rfl := hw6
       obtain ⟨TI, UI, hform, hta⟩ := intV_form (3 + j) (by have := HJ.out; omega) (by have := HJ.out; omega) z
       have HP : Hid (BindP (NarR l) t l w (.returned (.tuple #[intV (3 + j) z, .nilIface])) w6) := Lib.hid (bindP_some HPL.out.1 HPL.out.2 ⟨wk, HWK.out, by
        unfold NarR
        have h1 := HI.out.1
        have e1 : 4 - j = (4 - (j + 1)) + 1 := by have := HJ.out; omega
        rw [e1, narrowD_yes hkd] at h1
        rw [HFK.out, h1]
        exact ⟨rfl, HI6.out⟩⟩)
       rw [hform] at HP ⊢
       clear hkd hform
       go_wp2
       go_ret2
       exact HP.out
     ·obtain rfl : j = 4 := by omega
      have hc11 : u11 = trlV n l := by
       rcases HC.out with h | h
       ·omega
       ·exact h
      subst hc11
      have HP : Hid (BindP (NarR l) t l w (.returned (.tuple #[.nilIface, trlV n l])) wr) := Lib.hid (bindP_some HPL.out.1 HPL.out.2 ⟨wk, HWK.out, by
       unfold NarR
       have h1 := HI.out.1
       rw [show 4 - 4 = 0 from rfl, narrowD] at h1
       rw [HFK.out, h1]
       exact ⟨rfl, HI.out.2⟩⟩)
      go_wp2
      go_ret2
      exact HP.out
   ·rw [decide_eq_false hneg] at hord
    have r3 := ordf hord
    have r4 := ordb hord
    have HVN := Lib.hid hneg
    clear hneg hord
    have hbk := HB3.out
    have hks := HK3.out
    have HRB := HRB3
    have HRU := HRU3
    go_upto_region 10 with fail
    clear r3 r4
    have HWK := Lib.hid hbk
    have HKS := Lib.hid hks
    have HFK := Lib.hid (show firstK u = 7 by unfold firstK; rw [if_neg (by have := HVN.out; omega)])
    clear hbk hks
    go_wp2_with fail
    go_loopw [11, 41] (fun c11 c41 wr => ∃ (j : Nat) (n : Int), j ≤ 4 ∧ c41 = .int .i64 (j : Int) ∧ Hid ((j = 0 ∧ c11 = .nilIface) ∨ c11 = trlV n l) ∧ Hid (narrowD u 7 4 0 = narrowD u (7 + j) (4 - j) n ∧ Below w3.heap.size w3 wr)) (fun _ c41 _ => 4 - (intOf c41).toNat)
    case atStart => exact ⟨0, 0, by omega, rfl, Lib.hid (.inl ⟨rfl, rfl⟩), Lib.hid ⟨rfl, Below.refl _ _⟩⟩
    case round =>
     obtain ⟨j, n, hj, rfl, HC, HI⟩ := hrel
     by_cases hlt : j < 4
     ·have hck := (HKS.out.below HI.out.2) j hlt
      have hcr := (HRB.out.below HI.out.2 HRB.out.lt).cell 0
      simp at hcr
      have hji : (j : Int) < 4 := by omega
      have hj0 : (0 : Int) ≤ (j : Int) := by omega
      have HBC := Lib.hid (bound_wholeR (7 + j) (by omega) (by omega) u (.iface tx ux) l wr (rda_below HRU.out HI.out.2) HUO.out)
      have HJ := Lib.hid hlt
      obtain ⟨K, hK⟩ : ∃ K : Int, ((7 + j : Nat) : Int) = K := ⟨_, rfl⟩
      rw [hK] at hck HBC
      clear hlt hK
      go_wp2_with fail
      ((with_reducible refine (HBC.out).mono ?_); intro e w6 hl6)
      obtain ⟨W6, hbW6, hw6⟩ := hl6
      obtain ⟨hw6, hb6⟩ := wholeR_kind hw6
      have hb66 : Below wr.heap.size wr w6 := hbW6.trans (hb6.mono hbW6.size)
      have HI6 := Lib.hid (HI.out.2.trans (hb66.mono HI.out.2.size))
      clear hbW6 hb6 hb66 hck hcr
      cases hkd : kindD (7 + j) u with
      | inl m =>
       rw [hkd] at hw6
       obtain rfl := hw6
       have HN : Hid (narrowD u 7 4 0 = narrowD u (7 + (j + 1)) (4 - (j + 1)) m) := Lib.hid (by
        have h1 := HI.out.1
        have e1 : 4 - j = (4 - (j + 1)) + 1 := by have := HJ.out; omega
        rw [e1, narrowD_no hkd] at h1
        exact h1)
       clear hkd
       unfold trlV
       go_wp2
       go_roundw
       case rel => exact ⟨j + 1, m, HJ.out, by go_num, Lib.hid (.inr rfl), Lib.hid ⟨HN.out, HI6.out⟩⟩
       case measure => simp [intOf]; omega
      | inr z =>
       rw [hkd] at hw6
       obtain rfl := hw6
       obtain ⟨TI, UI, hform, hta⟩ := intV_form (7 + j) (by have := HJ.out; omega) (by have := HJ.out; omega) z
       have HP : Hid (BindP (NarR l) t l w (.returned (.tuple #[intV (7 + j) z, .nilIface])) w6) := Lib.hid (bindP_some HPL.out.1 HPL.out.2 ⟨w3, HWK.out, by
        unfold NarR
        have h1 := HI.out.1
        have e1 : 4 - j = (4 - (j + 1)) + 1 := by have := HJ.out; omega
        rw [e1, narrowD_yes hkd] at h1
        rw [HFK.out, h1]
        exact ⟨rfl, HI6.out⟩⟩)
       rw [hform] at HP ⊢
       clear hkd hform
       go_wp2
       go_ret2
       exact HP.out
     ·obtain rfl : j = 4 := by omega
      have hc11 : u11 = trlV n l := by
       rcases HC.out with h | h
       ·omega
       ·exact h
      subst hc11
      have HP : Hid (BindP (NarR l) t l w (.returned (.tuple #[.nilIface, trlV n l])) wr) := Lib.hid (bindP_some HPL.out.1 HPL.out.2 ⟨w3, HWK.out, by
       unfold NarR
       have h1 := HI.out.1
       rw [show 4 - 4 = 0 from rfl, narrowD] at h1
       rw [HFK.out, h1]
       exact ⟨rfl, HI.out.2⟩⟩)
      go_wp2
      go_ret2
      exact HP.out
end Nd
end Go.Proofs.YtbajkglacfheiaaGreatDoor
namespace Go.Proofs.YtbajkglacfheiaaGreatDoor
open Go.RowKit Mem
set_option maxRecDepth 100000
namespace Nd
theorem refOf_whole (k : Nat) (h3 : 3 ≤ k) (h10 : k ≤ 10) (u : Tr) (ho : u.Ok) (A : Option Addr) (c : Nat) (K : Option Addr) (d : Nat) (p : Tx) (w : World) : Calls Tryz.prog 20 #[valV u A c K d, .string ⟨p.toArray⟩, .int .i64 (k : Int)] w (OfP k p (kindD k u) w) := by
 have HI := Lib.hid (refInteger_any k h3 h10 u ho A c K d p)
 unfold valV at HI ⊢
 have e1 : ((k : Int) ≥ 3) = True := by simp; omega
 have e2 : ((k : Int) ≤ 10) = True := by simp; omega
 have e3 : (3 : Int) ≤ (k : Int) := by omega
 have e4 : (k : Int) ≤ 10 := by omega
 obtain ⟨r, hr⟩ : ∃ r, kindD k u = r := ⟨_, rfl⟩
 rw [hr] at HI ⊢
 clear hr ho
 cases r with
 | inl n =>
  go_enter Tryz.func20, Tryz.ntmps20
  go_wp2_with fail
  ((with_reducible refine (HI.out _).mono ?_); rintro e w2 ⟨rfl, hN⟩)
  rcases hN with ⟨a1, a2, a3, a4, rfl⟩ | ⟨a1, a2, a3, a4, a5, rfl⟩
  ·clear HI
   go_wp2
   refine bodyPost_ret (v := .tuple #[.agg (bdC 0 false 0 0), .agg (ftC n true p)]) ?_ rfl ⟨rfl, ?_⟩
   ·simp [results, Tryz.results20, go_sem]
   ·repeat' (first | exact Below.refl _ _ | refine Below.alloc ?_ (by simp; try omega) _)
  ·clear HI
   go_wp2
   refine bodyPost_ret (v := .tuple #[.agg (bdC 0 false 0 0), .agg (ftC n true p)]) ?_ rfl ⟨rfl, ?_⟩
   ·simp [results, Tryz.results20, go_sem]
   ·repeat' (first | exact Below.refl _ _ | refine Below.alloc ?_ (by simp; try omega) _)
 | inr z =>
  by_cases hk : k < 7
  ·go_enter Tryz.func20, Tryz.ntmps20
   go_wp2_with fail
   ((with_reducible refine (HI.out _).mono ?_); rintro e w2 ⟨rfl, a1, a2, a3, a4, rfl⟩)
   clear HI
   rw [if_pos hk]
   have HK := Lib.hid hk
   clear hk
   go_wp2
   refine bodyPost_ret (v := .tuple #[.agg (bdC k false z 0), .agg (ftC 0 false [])]) ?_ rfl ⟨by dsimp only; rw [if_pos HK.out], ?_⟩
   ·simp [results, Tryz.results20, go_sem]
   ·repeat' (first | exact Below.refl _ _ | refine Below.alloc ?_ (by simp; try omega) _)
  ·go_enter Tryz.func20, Tryz.ntmps20
   go_wp2_with fail
   ((with_reducible refine (HI.out _).mono ?_); rintro e w2 ⟨rfl, a1, a2, a3, a4, rfl⟩)
   clear HI
   rw [if_neg hk]
   have HK := Lib.hid hk
   clear hk
   go_wp2
   refine bodyPost_ret (v := .tuple #[.agg (bdC k false 0 z), .agg (ftC 0 false [])]) ?_ rfl ⟨by dsimp only; rw [if_neg HK.out], ?_⟩
   ·simp [results, Tryz.results20, go_sem]
   ·repeat' (first | exact Below.refl _ _ | refine Below.alloc ?_ (by simp; try omega) _)
end Nd
end Go.Proofs.YtbajkglacfheiaaGreatDoor
