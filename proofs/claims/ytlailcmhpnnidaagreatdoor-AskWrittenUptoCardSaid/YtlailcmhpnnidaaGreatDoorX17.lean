/-
  The law's spoil: it writes into what it is handed and nowhere else.
-/
import Derived.Test.YtlailcmhpnnidaaGreatDoorX15
import Derived.Test.YtlailcmhpnnidaaGreatDoorX16
import Derived.OwnWalk
set_option linter.unusedVariables false
set_option linter.unusedSimpArgs false
set_option maxRecDepth 100000
set_option maxHeartbeats 16000000
namespace Go.Proofs.YtlailcmhpnnidaaGreatDoor
open Go.RowKit Go.Shelf Mem Rg
namespace Nd
theorem sq_null_L (w : World) : (Instr.typeAssert (.iface 103 (.agg #[])) 35 53 true).run Tryz.prog w = .ok (.tuple #[.pointer none, .bool false]) w := by kernel_rfl
theorem sq_null_A (w : World) : (Instr.typeAssert (.iface 103 (.agg #[])) 35 109 true).run Tryz.prog w = .ok (.tuple #[.slice none 0 0, .bool false]) w := by kernel_rfl
theorem sq_null_O (w : World) : (Instr.typeAssert (.iface 103 (.agg #[])) 35 112 true).run Tryz.prog w = .ok (.tuple #[.slice none 0 0, .bool false]) w := by kernel_rfl
theorem sq_flag_L (b : Bool) (w : World) : (Instr.typeAssert (.iface 104 (.bool b)) 35 53 true).run Tryz.prog w = .ok (.tuple #[.pointer none, .bool false]) w := by kernel_rfl
theorem sq_flag_A (b : Bool) (w : World) : (Instr.typeAssert (.iface 104 (.bool b)) 35 109 true).run Tryz.prog w = .ok (.tuple #[.slice none 0 0, .bool false]) w := by kernel_rfl
theorem sq_flag_O (b : Bool) (w : World) : (Instr.typeAssert (.iface 104 (.bool b)) 35 112 true).run Tryz.prog w = .ok (.tuple #[.slice none 0 0, .bool false]) w := by kernel_rfl
theorem sq_num_L (x : Nat) (w : World) : (Instr.typeAssert (.iface 106 (.float .f64 x)) 35 53 true).run Tryz.prog w = .ok (.tuple #[.pointer none, .bool false]) w := by kernel_rfl
theorem sq_num_A (x : Nat) (w : World) : (Instr.typeAssert (.iface 106 (.float .f64 x)) 35 109 true).run Tryz.prog w = .ok (.tuple #[.slice none 0 0, .bool false]) w := by kernel_rfl
theorem sq_num_O (x : Nat) (w : World) : (Instr.typeAssert (.iface 106 (.float .f64 x)) 35 112 true).run Tryz.prog w = .ok (.tuple #[.slice none 0 0, .bool false]) w := by kernel_rfl
theorem sq_text_L (s : ByteArray) (w : World) : (Instr.typeAssert (.iface 108 (.string s)) 35 53 true).run Tryz.prog w = .ok (.tuple #[.pointer none, .bool false]) w := by kernel_rfl
theorem sq_text_A (s : ByteArray) (w : World) : (Instr.typeAssert (.iface 108 (.string s)) 35 109 true).run Tryz.prog w = .ok (.tuple #[.slice none 0 0, .bool false]) w := by kernel_rfl
theorem sq_text_O (s : ByteArray) (w : World) : (Instr.typeAssert (.iface 108 (.string s)) 35 112 true).run Tryz.prog w = .ok (.tuple #[.slice none 0 0, .bool false]) w := by kernel_rfl
theorem sq_list_L (A : Option Addr) (n c : Nat) (w : World) : (Instr.typeAssert (.iface 109 (.slice A n c)) 35 53 true).run Tryz.prog w = .ok (.tuple #[.pointer none, .bool false]) w := by kernel_rfl
theorem sq_list_A (A : Option Addr) (n c : Nat) (w : World) : (Instr.typeAssert (.iface 109 (.slice A n c)) 35 109 true).run Tryz.prog w = .ok (.tuple #[.slice A n c, .bool true]) w := by kernel_rfl
theorem sq_obj_L (A : Option Addr) (n c : Nat) (w : World) : (Instr.typeAssert (.iface 112 (.slice A n c)) 35 53 true).run Tryz.prog w = .ok (.tuple #[.pointer none, .bool false]) w := by kernel_rfl
theorem sq_obj_A (A : Option Addr) (n c : Nat) (w : World) : (Instr.typeAssert (.iface 112 (.slice A n c)) 35 109 true).run Tryz.prog w = .ok (.tuple #[.slice none 0 0, .bool false]) w := by kernel_rfl
theorem sq_obj_O (A : Option Addr) (n c : Nat) (w : World) : (Instr.typeAssert (.iface 112 (.slice A n c)) 35 112 true).run Tryz.prog w = .ok (.tuple #[.slice A n c, .bool true]) w := by kernel_rfl
theorem sq_lost_L (p : Option Addr) (w : World) : (Instr.typeAssert (.iface 53 (.pointer p)) 35 53 true).run Tryz.prog w = .ok (.tuple #[.pointer p, .bool true]) w := by kernel_rfl
def SpP (lo hi : Nat) (w : World) (e : Ending) (w' : World) : Prop := e = .returned (.tuple #[]) ∧ Fr (fun k => lo ≤ k ∧ k < hi) w w'
theorem spoil_null (lo hi : Nat) (w : World) : Calls Tryz.prog 22 #[(.iface 103 (.agg #[]))] w (SpP lo hi w) := by
 have h1 := sq_null_L
 have h2 := sq_null_A
 have h3 := sq_null_O
 go_enter Tryz.func22, Tryz.ntmps22
 go_wp2
 refine ⟨rfl, _, results_none rfl _ _ _, rfl, Fr.refl _ _⟩
theorem spoil_flag (b : Bool) (lo hi : Nat) (w : World) : Calls Tryz.prog 22 #[(.iface 104 (.bool b))] w (SpP lo hi w) := by
 have h1 := sq_flag_L b
 have h2 := sq_flag_A b
 have h3 := sq_flag_O b
 go_enter Tryz.func22, Tryz.ntmps22
 go_wp2
 refine ⟨rfl, _, results_none rfl _ _ _, rfl, Fr.refl _ _⟩
theorem spoil_num (x : Nat) (lo hi : Nat) (w : World) : Calls Tryz.prog 22 #[(.iface 106 (.float .f64 x))] w (SpP lo hi w) := by
 have h1 := sq_num_L x
 have h2 := sq_num_A x
 have h3 := sq_num_O x
 go_enter Tryz.func22, Tryz.ntmps22
 go_wp2
 refine ⟨rfl, _, results_none rfl _ _ _, rfl, Fr.refl _ _⟩
theorem spoil_text (s : ByteArray) (lo hi : Nat) (w : World) : Calls Tryz.prog 22 #[(.iface 108 (.string s))] w (SpP lo hi w) := by
 have h1 := sq_text_L s
 have h2 := sq_text_A s
 have h3 := sq_text_O s
 go_enter Tryz.func22, Tryz.ntmps22
 go_wp2
 refine ⟨rfl, _, results_none rfl _ _ _, rfl, Fr.refl _ _⟩
theorem sp_set {C : Nat → Prop} (w : World) (p : Addr) (v : Value) (h : C p.block) : Fr C w (w.setCell p v) :=
 ⟨rfl, rfl, rfl, by simp, fun k hk hc => heap_setCell_other w p k v (fun e => hc (e ▸ h))⟩
theorem spoil_nolost (lo hi : Nat) (w : World) : Calls Tryz.prog 22 #[.iface 53 (.pointer none)] w (SpP lo hi w) := by
 have h1 := sq_lost_L none
 go_enter Tryz.func22, Tryz.ntmps22
 go_wp2
 refine ⟨rfl, _, results_none rfl _ _ _, rfl, Fr.refl _ _⟩
theorem spoil_lost (g lo hi : Nat) (n : Int) (w : World) (hB : Blk w g 60 #[.int .i64 n]) (hg : lo ≤ g ∧ g < hi) : Calls Tryz.prog 22 #[.iface 53 (.pointer (some ⟨g, 0, none⟩))] w (SpP lo hi w) := by
 have h1 := sq_lost_L (some ⟨g, 0, none⟩)
 have c0 : w.cell? ⟨g, 0, none⟩ = some (.int .i64 n) := hB.cell 0
 have f0 : w.frozen? ⟨g, 0, none⟩ = false := hB.frozen 0
 have HE : Hid (Fr (fun k => lo ≤ k ∧ k < hi) w (w.setCell ⟨g, 0, none⟩ (.int .i64 (-7)))) := Lib.hid (sp_set w ⟨g, 0, none⟩ _ hg)
 clear hB
 go_enter Tryz.func22, Tryz.ntmps22
 go_wp2
 refine ⟨rfl, _, results_none rfl _ _ _, rfl, HE.out⟩
structure SpS (e : TypeId) (sz : Nat) (l : List Tr) (sel : List Value → Nat → Option Value) (w : World) (g hi : Nat) (k : Nat) (wr : World) : Prop where
 fr : Fr (fun j => g ≤ j ∧ j < hi) w wr
 ex : ∃ (cur : Array Value) (us : List Value) (mid : Nat), Blk wr g e cur ∧ cur.size = l.length * sz ∧ g < mid ∧ TdRL wr (l.drop k) mid hi us ∧ ∀ j u, us[j]? = some u → cur[(k + j) * sz + (sz - 1)]? = some u
theorem own_of_blk {w : World} {g n sz : Nat} {e : TypeId} {cur : Array Value} (hB : Blk w g e cur) (hs : cur.size = n * sz) (hn : n ≤ 1048576) : w.ownsRow g e sz (.slice (some ⟨g, 0, none⟩) n n) n cur.toList :=
 ⟨by simpa using hs, .inr ⟨g, n, cur, rfl, Nat.le_refl _, hB, Nat.le_refl _, by unfold maxLen; omega, hs, by rw [← hs]; exact List.take_of_length_le (by simp)⟩⟩
theorem blk_of_own {w : World} {base g n c sz : Nat} {e : TypeId} {xs : List Value} (h : w.ownsRow base e sz (.slice (some ⟨g, 0, none⟩) n c) n xs) (hc : c = n) : ∃ cur, Blk w g e cur ∧ cur.size = n * sz ∧ cur.toList = xs := by
 rcases h.2 with ⟨h1, _⟩ | ⟨g', cap, cur, h1, hg, hh, r1, r2, r3, r4⟩
 ·cases h1
 ·injection h1 with h1 _ h3
  injection h1 with h1
  injection h1 with h1
  subst h1
  subst h3
  subst hc
  refine ⟨cur, hh, r3, ?_⟩
  rw [← r4, ← r3]
  exact (List.take_of_length_le (by simp)).symm
theorem spoil_list (l : List Tr) (lo hi : Nat) (v : Value) (w : World) (h : TdR w (.list l) lo hi v) (hlen : l.length ≤ 1048576) (ih : ∀ x, x ∈ l → ∀ lo hi u W, TdR W x lo hi u → Calls Tryz.prog 22 #[u] W (SpP lo hi W)) :
  Calls Tryz.prog 22 #[v] w (SpP lo hi w) := by
 obtain ⟨i0, hi0, hz0, hz1, hz2⟩ := info_parts info_value
 unfold TdR at h
 obtain ⟨g, vs, hlo, hgh, rfl, hown, hL⟩ := h
 have h1 := sq_list_L (some ⟨g, 0, none⟩) l.length l.length
 have h2 := sq_list_A (some ⟨g, 0, none⟩) l.length l.length
 obtain ⟨cur0, hB0, hs0, hx0⟩ := blk_of_own hown rfl
 have hS0 : SpS 35 1 l (fun us j => us[j]?) w g hi 0 w := ⟨Fr.refl _ _, cur0, vs, g + 1, hB0, hs0, by omega, by rw [List.drop_zero]; exact hL, fun j u hu => by rw [← hx0] at hu; simpa using hu⟩
 have HS0 := Lib.hid hS0
 have HIH := Lib.hid ih
 have HLO := Lib.hid (And.intro hlo hgh)
 clear hown hL ih hB0 hs0 hx0 hS0
 go_enter Tryz.func22, Tryz.ntmps22
 go_wp2_with fail
 go_loopw [21] (fun c21 wr => ∃ k : Nat, k ≤ l.length ∧ c21 = .int .i64 k ∧ SpS 35 1 l (fun us j => us[j]?) w g hi k wr) (fun c21 _ => l.length - (intOf c21).toNat)
 case atStart => exact ⟨0, by omega, rfl, HS0.out⟩
 case round =>
  obtain ⟨k, hk, rfl, hV⟩ := hrel
  obtain ⟨hfr, cur, us, mid, hB, hs, hgm, hL, hu⟩ := hV
  by_cases hlt : k < l.length
  ·rw [List.drop_eq_getElem_cons hlt] at hL
   unfold TdRL at hL
   obtain ⟨u, us', mid', rfl, hu1, hL'⟩ := hL
   obtain ⟨T9, U9, rfl⟩ := hu1.iface
   have hck : cur[k]? = some (.iface T9 U9) := by simpa using hu 0 _ rfl
   have c0 : wr.cell? ⟨g, k, none⟩ = some (.iface T9 U9) := (hB.cell k).trans hck
   have m1 := TdR.le _ _ _ _ hu1
   have m2 := TdRL.le _ _ _ _ hL'
   have HC := Lib.hid (HIH.out _ (List.getElem_mem hlt) _ _ _ _ hu1)
   have HV := Lib.hid (And.intro hfr (And.intro hB (And.intro hs (And.intro hL' hu))))
   have hk0 : (0 : Int) ≤ (k : Int) := by omega
   have hk1 : (k : Int) < (l.length : Int) := by omega
   clear hfr hB hs hu1 hL' hu hck
   go_wp2_with fail
   ((with_reducible refine HC.out.mono ?_); rintro e w2 ⟨rfl, hf2⟩)
   have hB2 : Blk w2 g 35 cur := (hf2.block g HV.out.2.1.lt (by omega)).trans HV.out.2.1
   have hsz : k < cur.size := by rw [HV.out.2.2.1]; omega
   have c2 : w2.cell? ⟨g, k, none⟩ = some cur[k] := (hB2.cell k).trans (by simp [hsz])
   have f2 : w2.frozen? ⟨g, k, none⟩ = false := hB2.frozen k
   have hV3 : SpS 35 1 l (fun us j => us[j]?) w g hi (k + 1) (w2.setCell ⟨g, k, none⟩ (.iface 108 (.string ⟨#[115, 112, 111, 105, 108, 116]⟩))) := by
    refine ⟨(HV.out.1.trans hf2 fun j _ hj => by omega).trans (sp_set (C := fun j => g ≤ j ∧ j < hi) w2 ⟨g, k, none⟩ _ ⟨Nat.le_refl _, HLO.out.2⟩) fun j _ hj => hj, _, us', mid', hB2.put k _, by rw [Array.size_setIfInBounds]; exact HV.out.2.2.1, by omega, ?_, fun j u hj => ?_⟩
    ·refine TdRL.go _ _ _ _ _ _ HV.out.2.2.2.1 (Nat.le_refl _) (Nat.le_refl _) fun j a b hjw => ?_
     rw [heap_setCell_other w2 ⟨g, k, none⟩ j _ (by show j ≠ g; omega)]
     exact hf2.block j hjw (by omega)
    ·have := HV.out.2.2.2.2 (j + 1) u (by simpa using hj)
     simp only [Nat.mul_one, Nat.sub_self, Nat.add_zero] at this ⊢
     rw [Array.getElem?_setIfInBounds_ne (by omega)]
     rw [← this]
     congr 1
     omega
   have HV3 := Lib.hid hV3
   clear hV3 hf2 hB2 HV HC
   go_wp2
   go_roundw
   case rel => exact ⟨k + 1, by omega, by go_num, HV3.out⟩
   case measure => simp [intOf]; omega
  ·have hkn : k = l.length := by omega
   subst hkn
   have HOW := Lib.hid (own_of_blk hB hs hlen)
   have HFR := Lib.hid hfr
   clear hfr hB hs hL hu hgm
   go_wp2_with (at_builtin; refine wpList_append_own _ rfl _ _ 109 rfl g 35 i0 _ 1 16 Tryz.underlying109 hi0 hz0 hz1 hz2 rfl (by omega) (.slice (some ⟨g, 0, none⟩) l.length l.length) l.length cur.toList rfl (HOW.out.alloc _) ⟨wr.heap.size, 0, none⟩ 1 1 [.iface 103 (.agg #[])] rfl rfl (one_new _ _ _) (one_cell _ rfl) ?b1 ?b2 ?b3 ?_; (unfold maxLen; omega); omega; (have := HOW.out.lt g rfl; simp; omega); intro v9 w9 hown9 hgr9 hnil9)
   have hE : Fr (fun j => g ≤ j ∧ j < hi) wr w9 := ⟨hgr9.os, hgr9.tape, hgr9.output, by have := hgr9.size; simp at this; omega, fun j hj hc => (hgr9.block j (by simp; omega) (by intro e; injection e with e; exact hc ⟨by rw [e]; exact Nat.le_refl _, by rw [e]; exact HLO.out.2⟩)).trans (Below.heap_alloc wr _ j hj)⟩
   have HE := Lib.hid (HFR.out.trans hE fun j _ hj => hj)
   clear hE hown9 hgr9 hnil9 HOW HFR
   go_wp2
   refine ⟨rfl, _, results_none rfl _ _ _, rfl, HE.out.mono fun j _ hj => ⟨by have := HLO.out.1; omega, hj.2⟩⟩
theorem pairs_val : ∀ (ks : List Tx) (us : List Value) (j : Nat) (u : Value), us.length = ks.length → us[j]? = some u → (pairs ks us)[j * 2 + 1]? = some u
 | [], us, j, u, h, hu => by
  have : us = [] := List.length_eq_zero_iff.1 h
  rw [this] at hu
  simp at hu
 | k :: ks, [], j, u, h, hu => by simp at h
 | k :: ks, v :: us, 0, u, h, hu => by
  simp only [pairs]
  simpa using hu
 | k :: ks, v :: us, j + 1, u, h, hu => by
  have := pairs_val ks us j u (by simpa using h) (by simpa using hu)
  simp only [pairs]
  rw [show (j + 1) * 2 + 1 = (j * 2 + 1) + 1 + 1 by omega, List.getElem?_cons_succ, List.getElem?_cons_succ]
  exact this
theorem spoil_obj (ks : List Tx) (l : List Tr) (lo hi : Nat) (v : Value) (w : World) (h : TdR w (.obj ks l) lo hi v) (hlen : l.length ≤ 1048576) (ih : ∀ x, x ∈ l → ∀ lo hi u W, TdR W x lo hi u → Calls Tryz.prog 22 #[u] W (SpP lo hi W)) :
  Calls Tryz.prog 22 #[v] w (SpP lo hi w) := by
 obtain ⟨i0, hi0, hz0, hz1, hz2⟩ := info_parts info_member
 unfold TdR at h
 obtain ⟨g, vs, hlo, hgh, rfl, hkl, hown, hL⟩ := h
 have h1 := sq_obj_L (some ⟨g, 0, none⟩) l.length l.length
 have h2 := sq_obj_A (some ⟨g, 0, none⟩) l.length l.length
 have h3 := sq_obj_O (some ⟨g, 0, none⟩) l.length l.length
 obtain ⟨cur0, hB0, hs0, hx0⟩ := blk_of_own hown rfl
 have hS0 : SpS 116 2 l (fun us j => us[j]?) w g hi 0 w := ⟨Fr.refl _ _, cur0, vs, g + 1, hB0, hs0, by omega, by rw [List.drop_zero]; exact hL, fun j u hu => by
  have := pairs_val ks vs j u (by rw [TdRL.len hL, hkl]) hu
  rw [← hx0] at this
  simpa using this⟩
 have HS0 := Lib.hid hS0
 have HIH := Lib.hid ih
 have HLO := Lib.hid (And.intro hlo hgh)
 clear hown hL ih hB0 hs0 hx0 hS0 hkl
 go_enter Tryz.func22, Tryz.ntmps22
 go_wp2_with fail
 go_loopw [44] (fun c44 wr => ∃ k : Nat, k ≤ l.length ∧ c44 = .int .i64 k ∧ SpS 116 2 l (fun us j => us[j]?) w g hi k wr) (fun c44 _ => l.length - (intOf c44).toNat)
 case atStart => exact ⟨0, by omega, rfl, HS0.out⟩
 case round =>
  obtain ⟨k, hk, rfl, hV⟩ := hrel
  obtain ⟨hfr, cur, us, mid, hB, hs, hgm, hL, hu⟩ := hV
  by_cases hlt : k < l.length
  ·rw [List.drop_eq_getElem_cons hlt] at hL
   unfold TdRL at hL
   obtain ⟨u, us', mid', rfl, hu1, hL'⟩ := hL
   obtain ⟨T9, U9, rfl⟩ := hu1.iface
   have hck : cur[k * 2 + 1]? = some (.iface T9 U9) := by simpa using hu 0 _ rfl
   have c0 : wr.cell? ⟨g, k * 2 + 1, none⟩ = some (.iface T9 U9) := (hB.cell (k * 2 + 1)).trans hck
   have m1 := TdR.le _ _ _ _ hu1
   have m2 := TdRL.le _ _ _ _ hL'
   have HC := Lib.hid (HIH.out _ (List.getElem_mem hlt) _ _ _ _ hu1)
   have HV := Lib.hid (And.intro hfr (And.intro hB (And.intro hs (And.intro hL' hu))))
   have hk0 : (0 : Int) ≤ (k : Int) := by omega
   have hk1 : (k : Int) < (l.length : Int) := by omega
   clear hfr hB hs hu1 hL' hu hck
   go_wp2_with fail
   ((with_reducible refine HC.out.mono ?_); rintro e w2 ⟨rfl, hf2⟩)
   have hB2 : Blk w2 g 116 cur := (hf2.block g HV.out.2.1.lt (by omega)).trans HV.out.2.1
   have hsz : k * 2 + 1 < cur.size := by rw [HV.out.2.2.1]; omega
   have hsz0 : k * 2 < cur.size := by omega
   have c2 : w2.cell? ⟨g, k * 2, none⟩ = some cur[k * 2] := (hB2.cell (k * 2)).trans (by simp [hsz0])
   have f2 : w2.frozen? ⟨g, k * 2, none⟩ = false := hB2.frozen (k * 2)
   have hB3 : Blk (w2.setCell ⟨g, k * 2, none⟩ (.string ⟨#[115, 112, 111, 105, 108, 116]⟩)) g 116 (cur.setIfInBounds (k * 2) (.string ⟨#[115, 112, 111, 105, 108, 116]⟩)) := hB2.put (k * 2) _
   have c3 : (w2.setCell ⟨g, k * 2, none⟩ (.string ⟨#[115, 112, 111, 105, 108, 116]⟩)).cell? ⟨g, k * 2 + 1, none⟩ = some cur[k * 2 + 1] := (hB3.cell (k * 2 + 1)).trans (by rw [Array.getElem?_setIfInBounds_ne (by omega)]; simp [hsz])
   have f3 : (w2.setCell ⟨g, k * 2, none⟩ (.string ⟨#[115, 112, 111, 105, 108, 116]⟩)).frozen? ⟨g, k * 2 + 1, none⟩ = false := hB3.frozen (k * 2 + 1)
   have hV3 : SpS 116 2 l (fun us j => us[j]?) w g hi (k + 1) ((w2.setCell ⟨g, k * 2, none⟩ (.string ⟨#[115, 112, 111, 105, 108, 116]⟩)).setCell ⟨g, k * 2 + 1, none⟩ (.iface 103 (.agg #[]))) := by
    refine ⟨((HV.out.1.trans hf2 fun j _ hj => by omega).trans (sp_set (C := fun j => g ≤ j ∧ j < hi) w2 ⟨g, k * 2, none⟩ _ ⟨Nat.le_refl _, HLO.out.2⟩) fun j _ hj => hj).trans (sp_set (C := fun j => g ≤ j ∧ j < hi) _ ⟨g, k * 2 + 1, none⟩ _ ⟨Nat.le_refl _, HLO.out.2⟩) fun j _ hj => hj, _, us', mid', hB3.put (k * 2 + 1) _, by rw [Array.size_setIfInBounds, Array.size_setIfInBounds]; exact HV.out.2.2.1, by omega, ?_, fun j u hj => ?_⟩
    ·refine TdRL.go _ _ _ _ _ _ HV.out.2.2.2.1 (Nat.le_refl _) (Nat.le_refl _) fun j a b hjw => ?_
     rw [heap_setCell_other _ ⟨g, k * 2 + 1, none⟩ j _ (by show j ≠ g; omega), heap_setCell_other w2 ⟨g, k * 2, none⟩ j _ (by show j ≠ g; omega)]
     exact hf2.block j hjw (by omega)
    ·have := HV.out.2.2.2.2 (j + 1) u (by simpa using hj)
     rw [Array.getElem?_setIfInBounds_ne (by omega), Array.getElem?_setIfInBounds_ne (by omega)]
     rw [← this]
     congr 1
     omega
   have HV3 := Lib.hid hV3
   clear hV3 hf2 hB2 hB3 HV HC
   go_wp2
   go_roundw
   case rel => exact ⟨k + 1, by omega, by go_num, HV3.out⟩
   case measure => simp [intOf]; omega
  ·have hkn : k = l.length := by omega
   subst hkn
   have HOW := Lib.hid (own_of_blk hB hs hlen)
   have HFR := Lib.hid hfr
   clear hfr hB hs hL hu hgm
   go_wp2_with (at_builtin; refine wpList_append_own _ rfl _ _ 112 rfl g 116 i0 _ 2 32 Tryz.underlying112 hi0 hz0 hz1 hz2 rfl (by omega) (.slice (some ⟨g, 0, none⟩) l.length l.length) l.length cur.toList rfl (HOW.out.alloc _) ⟨wr.heap.size, 0, none⟩ 1 1 [.string ⟨#[]⟩, .nilIface] rfl rfl (two_new _ _ _ _) (by intro u hu; rcases List.mem_cons.1 hu with rfl | hu; rfl; rw [List.mem_singleton] at hu; rw [hu]; rfl) ?b1 ?b2 ?b3 ?_; (unfold maxLen; omega); omega; (have := HOW.out.lt g rfl; simp; omega); intro v9 w9 hown9 hgr9 hnil9)
   have hE : Fr (fun j => g ≤ j ∧ j < hi) wr w9 := ⟨hgr9.os, hgr9.tape, hgr9.output, by have := hgr9.size; simp at this; omega, fun j hj hc => (hgr9.block j (by simp; omega) (by intro e; injection e with e; exact hc ⟨by rw [e]; exact Nat.le_refl _, by rw [e]; exact HLO.out.2⟩)).trans (Below.heap_alloc wr _ j hj)⟩
   have HE := Lib.hid (HFR.out.trans hE fun j _ hj => hj)
   clear hE hown9 hgr9 hnil9 HOW HFR
   go_wp2
   refine ⟨rfl, _, results_none rfl _ _ _, rfl, HE.out.mono fun j _ hj => ⟨by have := HLO.out.1; omega, hj.2⟩⟩
theorem spoil_any : ∀ t : Tr, t.Ok → t.nodes ≤ 65536 → ∀ lo hi v w, TdR w t lo hi v → Calls Tryz.prog 22 #[v] w (SpP lo hi w) := by
 intro t
 induction t using Tr.ind with
 | h0 =>
  intro _ _ lo hi v w h
  unfold TdR at h
  rw [h.2]
  exact spoil_null lo hi w
 | h1 b =>
  intro _ _ lo hi v w h
  unfold TdR at h
  rw [h.2]
  exact spoil_flag b lo hi w
 | h2 x =>
  intro _ _ lo hi v w h
  unfold TdR at h
  rw [h.2]
  exact spoil_num x lo hi w
 | h3 s =>
  intro _ _ lo hi v w h
  unfold TdR at h
  rw [h.2]
  exact spoil_text _ lo hi w
 | h4 l ih =>
  intro hok hn lo hi v w h
  unfold Tr.Ok at hok
  unfold Tr.nodes at hn
  exact spoil_list l lo hi v w h (by have := nodes_len l; omega) fun x hx lo' hi' u' W' h' => ih x hx ((okl_iff l).1 hok x hx).1 (by have := nodes_mem l x hx; omega) lo' hi' u' W' h'
 | h5 ks l ih =>
  intro hok hn lo hi v w h
  unfold Tr.Ok at hok
  unfold Tr.nodes at hn
  exact spoil_obj ks l lo hi v w h (by have := nodes_len l; omega) fun x hx lo' hi' u' W' h' => ih x hx ((okl_iff l).1 hok.2.2.2 x hx).1 (by have := nodes_mem l x hx; omega) lo' hi' u' W' h'
end Nd
end Go.Proofs.YtlailcmhpnnidaaGreatDoor
