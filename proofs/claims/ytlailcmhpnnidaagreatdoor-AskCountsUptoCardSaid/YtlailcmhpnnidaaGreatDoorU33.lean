/-
  The law AskCounts.
-/
import Derived.Test.YtlailcmhpnnidaaGreatDoorU32
set_option linter.unusedVariables false
set_option linter.unusedSimpArgs false
set_option maxRecDepth 100000
set_option maxHeartbeats 16000000
namespace Go.Proofs.YtlailcmhpnnidaaGreatDoor
open Go.RowKit Go.Shelf Mem Rg Tok Go.Sort
namespace Nd
attribute [local go_sem] Oper.semAt_some
theorem sort_rowN (base : Nat) (v : Value) (xs : List Tx) (N : Nat) (w : World) (hN : xs.length = N) (h : w.ownsRow base 9 1 v N (xs.map encStr)) (hn : N ≤ 1048576) :
  Calls Tryz.prog 8 #[v] w fun e w' => e = .returned (.tuple #[]) ∧ w'.ownsRow base 9 1 v N ((sortT xs).map encStr) ∧ Fr (fun k => v.ownBlock = some k) w w' := by
 subst hN
 exact sort_row base v xs w h hn
theorem rdk_ownN {base : Nat} {v : Value} {xs : List Tx} {N : Nat} {w : World} (hN : xs.length = N) (h : w.ownsRow base 9 1 v N (xs.map encStr)) : RdK w v xs := by
 subst hN
 exact rdk_own h
theorem compact_rowN (base : Nat) (v : Value) (xs : List Tx) (N : Nat) (w : World) (hN : xs.length = N) (h : w.ownsRow base 9 1 v N (xs.map encStr)) (hn : N ≤ 1048576) (hd : xs.Nodup) :
  Calls Tryz.prog 11 #[v] w fun e w' => (∃ A c, e = .returned (.slice A N c)) ∧ Fr (fun k => v.ownBlock = some k) w w' := by
 subst hN
 exact compact_row base v xs w h hn hd
theorem parts_two (L : List (Tx × Tr)) : partsK L 2 = (wantL 2 L).map (·.1) ++ (wantL 3 L).map (·.1) := by
 simp [partsK]
theorem own_ge {w : World} {base n : Nat} {e : TypeId} {v : Value} {xs : List Value} (h : w.ownsRow base e 1 v n xs) {k : Nat} (hk : v.ownBlock = some k) : base ≤ k := (h.lt k hk).1
def CtInv (b0 it : Nat) (w2 Wb : World) (o : Option Tr) (tp : Value) (CA : Nat → Prop) (a' : Act) (w' : World) : Prop := ∃ z0 z1 z4 z8 z9 z10 z11 z12 z13 z14 z15 z16 z17 z18 z19 z20 z21 z22 z23 z24 z25 z26 z27 z28 z29 z30 z31 z32 z33 z37 z38 z39 z40 z41 z42 z43 z44 z45 z46 z47 z48 z49 z50 z51 z52 z53 z54 z55 z56 z57 z58 z59 z60 z61 z62 z63 z64 z65 z66 z67 z68 z69 z70 z71 z72 z73 z74 z75 z76 z77 z78 z79 z80 z81 z82 : Value, ∃ (ds : List Nat) (k : Nat), k ≤ 2 ∧ CtS w2 Wb CA (allO o) k ds w' ∧ a' = { tmps := (z0 :: z1 :: (.pointer (some ⟨b0, 0, none⟩)) :: tp :: z4 :: (.bool o.isSome) :: (.pointer (some ⟨w2.heap.size, 0, none⟩)) :: (.pointer (some ⟨w2.heap.size + 1, 0, none⟩)) :: z8 :: z9 :: z10 :: z11 :: z12 :: z13 :: z14 :: z15 :: z16 :: z17 :: z18 :: z19 :: z20 :: z21 :: z22 :: z23 :: z24 :: z25 :: z26 :: z27 :: z28 :: z29 :: z30 :: z31 :: z32 :: z33 :: (.slice (some ⟨it, 0, none⟩) 2 2) :: (.int .i64 2) :: (.int .i64 (k : Nat)) :: z37 :: z38 :: z39 :: z40 :: z41 :: z42 :: z43 :: z44 :: z45 :: z46 :: z47 :: z48 :: z49 :: z50 :: z51 :: z52 :: z53 :: z54 :: z55 :: z56 :: z57 :: z58 :: z59 :: z60 :: z61 :: z62 :: z63 :: z64 :: z65 :: z66 :: z67 :: z68 :: z69 :: z70 :: z71 :: z72 :: z73 :: z74 :: z75 :: z76 :: z77 :: z78 :: z79 :: z80 :: z81 :: z82 :: []).toArray, defers := marks ds }
def ctMu (a' : Act) (_ : World) : Nat := 2 - (intOf (a'.tmps.getD 36 undef)).toNat
theorem ctInv_to (b0 it : Nat) (w2 Wb : World) (o : Option Tr) (tp : Value) (CA : Nat → Prop) (z0 z1 z4 z8 z9 z10 z11 z12 z13 z14 z15 z16 z17 z18 z19 z20 z21 z22 z23 z24 z25 z26 z27 z28 z29 z30 z31 z32 z33 z37 z38 z39 z40 z41 z42 z43 z44 z45 z46 z47 z48 z49 z50 z51 z52 z53 z54 z55 z56 z57 z58 z59 z60 z61 z62 z63 z64 z65 z66 z67 z68 z69 z70 z71 z72 z73 z74 z75 z76 z77 z78 z79 z80 z81 z82 : Value) (ds : List Nat) (k : Nat) (w' : World) (hk : k ≤ 2) (h : CtS w2 Wb CA (allO o) k ds w') : CtInv b0 it w2 Wb o tp CA { tmps := (z0 :: z1 :: (.pointer (some ⟨b0, 0, none⟩)) :: tp :: z4 :: (.bool o.isSome) :: (.pointer (some ⟨w2.heap.size, 0, none⟩)) :: (.pointer (some ⟨w2.heap.size + 1, 0, none⟩)) :: z8 :: z9 :: z10 :: z11 :: z12 :: z13 :: z14 :: z15 :: z16 :: z17 :: z18 :: z19 :: z20 :: z21 :: z22 :: z23 :: z24 :: z25 :: z26 :: z27 :: z28 :: z29 :: z30 :: z31 :: z32 :: z33 :: (.slice (some ⟨it, 0, none⟩) 2 2) :: (.int .i64 2) :: (.int .i64 (k : Nat)) :: z37 :: z38 :: z39 :: z40 :: z41 :: z42 :: z43 :: z44 :: z45 :: z46 :: z47 :: z48 :: z49 :: z50 :: z51 :: z52 :: z53 :: z54 :: z55 :: z56 :: z57 :: z58 :: z59 :: z60 :: z61 :: z62 :: z63 :: z64 :: z65 :: z66 :: z67 :: z68 :: z69 :: z70 :: z71 :: z72 :: z73 :: z74 :: z75 :: z76 :: z77 :: z78 :: z79 :: z80 :: z81 :: z82 :: []).toArray, defers := marks ds } w' :=
 ⟨z0, z1, z4, z8, z9, z10, z11, z12, z13, z14, z15, z16, z17, z18, z19, z20, z21, z22, z23, z24, z25, z26, z27, z28, z29, z30, z31, z32, z33, z37, z38, z39, z40, z41, z42, z43, z44, z45, z46, z47, z48, z49, z50, z51, z52, z53, z54, z55, z56, z57, z58, z59, z60, z61, z62, z63, z64, z65, z66, z67, z68, z69, z70, z71, z72, z73, z74, z75, z76, z77, z78, z79, z80, z81, z82, ds, k, hk, h, rfl⟩
theorem counts_from (v : Value) (ss : List Stp) (w : World) (hS : RdS w v ss) (hF : ∀ s ∈ ss, s.Fine) (hC : ∀ s ∈ ss, s.Cnt) (hn : ss.length ≤ 1048576) (hG : Glob w) (hT : Tab w) : Calls Tryz.prog 3 #[v] w fun e w' => e = .returned (.bool true) ∧ Below w.heap.size w w' := by
 have hba : Below w.heap.size w (w.alloc (.cells #[.bool false] 4)) := (Below.refl _ _).alloc (Nat.le_refl _) _
 have HM := Lib.hid (made_law v ss _ (hS.below hba) hF hC hn)
 refine (callsIn_wide (n := 9)).1 ?_
 refine callsIn_of_wp_marks Tryz.func3 rfl trivial ?_ rfl
 simp only [Tryz.ntmps3, List.size_toArray, List.length_cons, List.length_nil, Nat.reduceAdd, Nat.reduceSub, Array.replicate_succ, Array.replicate_zero, List.push_toArray, List.append_toArray, List.nil_append, List.cons_append]
 obtain ⟨vA, vc, rfl, _⟩ := id hS
 gi_wp2_with (refine ⟨trivial, ?_⟩; gi_at_call 6; refine (callsIn_wide.2 HM.out).mono ?_; rintro e w1 ⟨hb1, he⟩; obtain ⟨o, tp, x0, x1, x2, x3, yA, nA, cA, yK, nK, cK, rfl, hO⟩ := made_six hF he; clear he)
 obtain ⟨w2, hw2⟩ : ∃ w2, w1.alloc (.cells #[.int .i64 x0, .bool x1, .int .u64 x2, .string x3, .slice yA nA cA, .slice yK nK cK] 28) = w2 := ⟨_, rfl⟩
 have hs2 : w2.heap.size = w1.heap.size + 1 := by rw [← hw2]; simp
 have hb12 : Below w1.heap.size w1 w2 := by rw [← hw2]; exact (Below.refl _ _).alloc (Nat.le_refl _) _
 rw [hw2, ← hs2]
 have HT2 : Hid (HasT w2 o tp) := Lib.hid (hasT_below hO.1 hb12)
 have htp : tp = .pointer none ∨ ∃ a, tp = .pointer (some a) := hasT_ptr hO.1
 have hbw2 : Below (w.heap.size + 1) (w.alloc (.cells #[.bool false] 4)) w2 := by
  have h := hb1.trans (hb12.mono hb1.size)
  rw [World.size_alloc] at h
  exact h
 have HB0 : Hid (Boxed w2 w.heap.size 4 (.bool false)) := Lib.hid (boxed_new (Boxed.new w _ _) (by rw [World.size_alloc]; exact hbw2))
 have HOK := Lib.hid hO.2
 have hbw : Below w.heap.size w w2 := hba.trans (hbw2.mono (by omega))
 have HG2 := Lib.hid (hG.next hbw)
 have HA2 := Lib.hid (hT.next hbw)
 have HBW := Lib.hid hbw
 have hlt0 : w.heap.size < w2.heap.size := HB0.out.lt
 clear hw2 hb12 hb1 hbw2 hbw hO hS HM hba hF hC hn hG hT hs2
 obtain ⟨w3, hw3⟩ : ∃ w3, (w2.alloc (.cells #[.slice none 0 0] 26)).alloc (.cells #[.slice none 0 0] 26) = w3 := ⟨_, rfl⟩
 have hs3 : w3.heap.size = w2.heap.size + 2 := by rw [← hw3]; simp
 have hb23 : Below w2.heap.size w2 w3 := by rw [← hw3]; exact ((Below.refl _ _).alloc (Nat.le_refl _) _).alloc (by simp) _
 have bA3 : Boxed w3 w2.heap.size 26 (.slice none 0 0) := by rw [← hw3]; exact (Boxed.new w2 26 _).alloc _
 have bP3 : Boxed w3 (w2.heap.size + 1) 26 (.slice none 0 0) := by
  have := Boxed.new (w2.alloc (.cells #[.slice none 0 0] 26)) 26 (.slice none 0 0)
  rw [World.size_alloc, hw3] at this
  exact this
 rw [hw3]
 clear hw3
 obtain ⟨q, hq⟩ : ∃ q, w3.heap.size = q := ⟨_, rfl⟩
 have hq3 : q = w2.heap.size + 2 := by rw [← hq, hs3]
 refine ⟨trivial, (callsIn_wide.2 (aall_any tp htp 1 w3)).mono ?_⟩
 rintro e w4 ⟨rfl, hw4⟩
 have hs4 : w4.heap.size = w3.heap.size + 2 := by rw [← hw4]; simp
 have hb34 : Below w3.heap.size w3 w4 := by rw [← hw4]; exact ((Below.refl _ _).alloc (Nat.le_refl _) _).alloc (by simp) _
 have bt4 : Boxed w4 w3.heap.size 23 tp := by rw [← hw4]; exact (Boxed.new w3 23 _).alloc _
 have bw4 : Boxed w4 (w3.heap.size + 1) 3 (.int .i64 1) := by
  have := Boxed.new (w3.alloc (.cells #[tp] 23)) 3 (.int .i64 1)
  rw [World.size_alloc, hw4] at this
  exact this
 clear hw4
 rw [hq] at bt4 bw4 hs4 ⊢
 have hfn := fnv_nil q (q + 1)
 have HSQ := Lib.hid (aall1_stops 8 q (q + 1) 1 w2 w4 o tp HT2.out HG2.out HA2.out (hb23.trans (hb34.mono hb23.size)) bt4 bw4 ⟨by omega, by omega⟩)
 have HBX := Lib.hid (And.intro (boxed_new bA3 hb34) (boxed_new bP3 hb34))
 have HB24 := Lib.hid (hb23.trans (hb34.mono hb23.size))
 have HQ := Lib.hid (And.intro hq3 hs4)
 clear bA3 bP3 bt4 bw4 hb23 hb34 hs3 hs4 hq hq3
 gi_wp2_with fail
 clear hfn
 refine wpIn_rangeC rfl (by omega) (gf := 27) (lb := #[.pointer (some ⟨q, 0, none⟩), .pointer (some ⟨q + 1, 0, none⟩)]) rfl trivial (enters_of Tryz.func27 (by kernel_rfl) rfl) HSQ.out (Fr.refl _ _)
  (fun j hj => by have h1 := HQ.out.1; have h2 := HQ.out.2; rcases hj with h | h | h <;> omega) (fun _ => rfl)
  (fun C pre W7 => RowI w2.heap.size w2.heap.size C (ptrs pre) W7) (fun _ _ _ _ => False) (rowI_abd _ _ _ _) (fun _ _ _ _ _ h _ => h) (rowI_bdd _ _ _) (fun _ _ _ _ h => h.elim) (fun j => j = w2.heap.size)
  (rowI_new HBX.out.1 (Nat.le_refl _))
  (fun j hj hr => by
   have h1 := HQ.out.1
   rcases hr with h | h | h <;> omega)
  (fun x a' C W9 => a' = { tmps := ((.slice vA ss.length vc) :: undef :: (.pointer (some ⟨w.heap.size, 0, none⟩)) :: tp :: (.pointer (some ⟨w1.heap.size, 0, none⟩)) :: (.bool o.isSome) :: (.pointer (some ⟨w2.heap.size, 0, none⟩)) :: (.pointer (some ⟨w2.heap.size + 1, 0, none⟩)) :: (.func (.func 27) #[] #[.pointer (some ⟨q, 0, none⟩), .pointer (some ⟨q + 1, 0, none⟩)]) :: (.string ⟨x.1.1.toArray⟩) :: x.1.2.2 :: undef :: undef :: undef :: undef :: (.tuple #[tp, (.agg #[.int .i64 x0, .bool x1, .int .u64 x2, .string x3, .slice yA nA cA, .slice yK nK cK]), .bool o.isSome]) :: (.slice vA ss.length vc) :: (.tuple #[tp, (.agg #[.int .i64 x0, .bool x1, .int .u64 x2, .string x3, .slice yA nA cA, .slice yK nK cK]), .bool o.isSome]) :: tp :: (.agg #[.int .i64 x0, .bool x1, .int .u64 x2, .string x3, .slice yA nA cA, .slice yK nK cK]) :: (.bool o.isSome) :: tp :: (.func (.func 27) #[] #[.pointer (some ⟨q, 0, none⟩), .pointer (some ⟨q + 1, 0, none⟩)]) :: (.func (.func 27) #[] #[.pointer (some ⟨q, 0, none⟩), .pointer (some ⟨q + 1, 0, none⟩)]) :: (.bool false) :: (.func (.func 27) #[] #[.pointer (some ⟨q, 0, none⟩), .pointer (some ⟨q + 1, 0, none⟩)]) :: (.string ⟨x.1.1.toArray⟩) :: x.1.2.2 :: undef :: undef :: undef :: undef :: undef :: undef :: undef :: undef :: undef :: undef :: undef :: undef :: undef :: undef :: undef :: undef :: undef :: undef :: undef :: undef :: undef :: undef :: undef :: undef :: undef :: undef :: undef :: undef :: undef :: undef :: undef :: undef :: undef :: undef :: undef :: undef :: undef :: undef :: undef :: undef :: undef :: undef :: undef :: undef :: undef :: undef :: undef :: undef :: undef :: undef :: undef :: undef :: undef :: undef :: undef :: []).toArray, defers := [] })
  (fun x a' C u W9 W' h hF => h)
  ?assign ?body ?done ?stop
 case assign =>
  rintro l1 Cd pre1 x W7 K hfr hnw hI7 hnx hK
  have hK2 := hK _ W7 Cd (Fr.refl _ _) (Nw.refl _ _) hI7 rfl
  clear hK
  obtain ⟨T9, U9, he⟩ := x.2.2.2
  simp only [encT, he] at hK2 ⊢
  gi_wp2
  exact hK2
 case body =>
  rintro l1 Cd pre1 x a' W7 hfr hnw hI7 rfl hnx
  obtain ⟨T9, U9, he⟩ := x.2.2.2
  rw [he]
  have hpl := ptrs_len HOK.out hnx
  obtain ⟨qs, hqs⟩ : ∃ qs, ptrs pre1 = qs := ⟨_, rfl⟩
  have hI8 : RowI w2.heap.size w2.heap.size Cd (ptrs pre1) W7 := hI7
  rw [hqs] at hI8 hpl
  have HQS := Lib.hid hqs
  clear hI7 hqs
  obtain ⟨h1, h0, v, hbx, hrow, hCb, hCo, hCl⟩ := hI8
  obtain ⟨zA, zc, rfl⟩ := own_slice hrow
  obtain ⟨i0, hi0, hz0, hz1, hz2⟩ := info_parts info_str
  have c7 := hbx.cell
  have c7' := (hbx.alloc (.cells #[.string ⟨x.1.1.toArray⟩] 9)).cell
  have HX := Lib.hid (And.intro hbx (And.intro hCb (And.intro hCo hCl)))
  clear hfr hnw hnx hbx hCb hCo hCl
  gi_wp2_with (gi_at_builtin; refine wpListIn_append_own_at _ rfl _ _ 26 rfl w2.heap.size 9 i0 _ 1 16 Tryz.underlying26 hi0 hz0 hz1 hz2 rfl (by omega) (.slice zA qs.length zc) qs.length (qs.map encStr) rfl (hrow.alloc _) ⟨W7.heap.size, 0, none⟩ 1 1 [.string ⟨x.1.1.toArray⟩] rfl rfl (one_new _ _ _) (one_cell _ rfl) ?b1 ?b2 ?b3 ?_; (unfold maxLen; omega); omega; (simp; omega); intro v8 w8 hown8 hgr8 hnil8 hat8; obtain ⟨g9, c9, rfl⟩ := ownsRow_succ hown8; have hap := Boxed.appended HX.out.1 (by decide) hrow h1 h0 hown8 hgr8; have c8 := hap.1.cell; have f8 := hap.1.frozen; have HEND := Lib.hid (rowI_next h1 h0 HX.out.1 hrow HX.out.2.1 HX.out.2.2.1 HX.out.2.2.2 hown8 hgr8 hat8); clear hap hown8 hgr8 hnil8 hat8 hrow HX)
  have HE2 := HEND.out
  clear HEND
  rw [show qs ++ [x.1.1] = ptrs (pre1 ++ [x]) by rw [ptrs_snoc, HQS.out]] at HE2
  exact HE2
 case stop =>
  rintro D c Cd pre1 W7 hD hDC hsp h
  exact h.elim
 case done =>
  rintro D Cd xs W7 W8 hD hDC hxs hF8 hI7 hfr hnw hKD
  have hall : RowI w2.heap.size w2.heap.size Cd ((wantL 1 (allO o)).map (·.1)) W7 := by
   rw [← ptrs_all hxs.1]
   exact hI7
  have hnP : ¬ (w2.heap.size + 1 = w2.heap.size) := by omega
  have bP7 := boxed_fr HBX.out.2 hfr hnP
  have b07 := boxed_fr (boxed_new HB0.out HB24.out) hfr (show ¬ (w.heap.size = w2.heap.size) by omega)
  have hb27 : Below w2.heap.size w2 W7 := HB24.out.trans (hfr.below HB24.out.size fun j _ hj => by omega)
  have hPC : ¬ Cd (w2.heap.size + 1) := fun h => by
   rcases hnw _ h with h2 | h2
   ·omega
   ·have h3 := HQ.out; omega
  have HALL := Lib.hid hall
  have HBP := Lib.hid (And.intro bP7 b07)
  have HB27 := Lib.hid hb27
  have HPC := Lib.hid hPC
  have HD : Hid (D = w4.heap.size ∧ ¬ Cd D ∧ W7.heap[D]? = some (.deferred (some []))) := Lib.hid ⟨hD, hDC, hKD⟩
  have hq2 := HQ.out
  have hs47 := hfr.size
  clear hall hfr hnw hI7 hxs hF8 hKD hDC hD bP7 b07 hb27 hPC hnP HSQ HBX HB24
  gi_wp2_with fail
  obtain ⟨Wb, hWb⟩ : ∃ Wb, W7.alloc (.cells #[.int .i64 2, .int .i64 3] 3) = Wb := ⟨_, rfl⟩
  have hb7b : Below W7.heap.size W7 Wb := by rw [← hWb]; exact (Below.refl _ _).alloc (Nat.le_refl _) _
  have hsb : Wb.heap.size = W7.heap.size + 1 := by rw [← hWb]; simp
  have hkb : Wb.heap[W7.heap.size]? = some (.cells #[.int .i64 2, .int .i64 3] 3) := by rw [← hWb]; exact World.alloc_heap_new _ _
  have hcb : ∀ k, k < 2 → Wb.cell? ⟨W7.heap.size, k, none⟩ = some (.int .i64 ((k : Int) + 2)) := fun k hk => by
   unfold World.cell?
   rw [hkb]
   match k, hk with
   | 0, _ => rfl
   | 1, _ => rfl
  rw [hWb]
  obtain ⟨it, hit⟩ : ∃ it, W7.heap.size = it := ⟨_, rfl⟩
  have hb2b : Below w2.heap.size w2 Wb := HB27.out.trans (hb7b.mono HB27.out.size)
  obtain ⟨_, _, _, _, _, _, _, hCl⟩ := id HALL.out
  have hCb : ∀ j, Cd j → j < Wb.heap.size := fun j hj => by have := (hCl j hj).1; omega
  have hS0 : CtS w2 Wb Cd (allO o) 0 [D] Wb := ⟨⟨fun j => j = w2.heap.size + 1, rowI_new (boxed_new HBP.out.1 hb7b) (by omega), fun E hE => by
    rw [List.mem_singleton] at hE
    rw [hE]
    have := HD.out.1
    omega, Nw.refl _ _⟩, Fr.refl _ _, (MarksOk.cons (marksOk_nil _ _) (by have := HD.out.1; omega) HD.out.2.2 (by simp)).below hb7b, fun E hE => by
    rw [List.mem_singleton] at hE
    rw [hE]
    exact HD.out.2.1⟩
  have HALB := Lib.hid (rowI_fr HALL.out (Fr.of_below hb7b))
  have HB0B := Lib.hid (boxed_new HBP.out.2 hb7b)
  rw [hit] at hcb hsb ⊢
  have HSB := Lib.hid (And.intro hit (And.intro hsb (And.intro hq2 hs47)))
  have HCB := Lib.hid hCb
  have HPB := Lib.hid (And.intro hcb hb2b)
  clear hWb hb7b hsb hkb hcb hit hb2b hCl hCb hq2 hs47 HALL HBP HB27 HD
  refine wpIn_loop (CtInv w.heap.size it w2 Wb o tp Cd) ctMu ?_ ?_
  ·exact ctInv_to w.heap.size it w2 Wb o tp Cd _ _ _ _ _ _ _ _ _ _ _ _ _ _ _ _ _ _ _ _ _ _ _ _ _ _ _ _ _ _ _ _ _ _ _ _ _ _ _ _ _ _ _ _ _ _ _ _ _ _ _ _ _ _ _ _ _ _ _ _ _ _ _ _ _ _ _ _ _ _ _ _ _ _ _ [D] 0 Wb (Nat.zero_le _) hS0
  rintro a' wr hI
  unfold CtInv at hI
  obtain ⟨z0, z1, z4, z8, z9, z10, z11, z12, z13, z14, z15, z16, z17, z18, z19, z20, z21, z22, z23, z24, z25, z26, z27, z28, z29, z30, z31, z32, z33, z37, z38, z39, z40, z41, z42, z43, z44, z45, z46, z47, z48, z49, z50, z51, z52, z53, z54, z55, z56, z57, z58, z59, z60, z61, z62, z63, z64, z65, z66, z67, z68, z69, z70, z71, z72, z73, z74, z75, z76, z77, z78, z79, z80, z81, z82, ds, k, hk, hS, rfl⟩ := hI
  by_cases hlt : k < 2
  ·refine ct_round w.heap.size it w2 Wb o tp Cd k hlt HT2.out HG2.out HA2.out HOK.out HPB.out.2 (by have := HSB.out; omega) (HPB.out.1 k hlt) HCB.out wr ds hS _ _ _ _ _ _ _ _ _ _ _ _ _ _ _ _ _ _ _ _ _ _ _ _ _ _ _ _ _ _ _ _ _ _ _ _ _ _ _ _ _ _ _ _ _ _ _ _ _ _ _ _ _ _ _ _ _ _ _ _ _ _ _ _ _ _ _ _ _ _ _ _ _ _ _ _ _ ?_
   intro y0 y1 y4 y8 y9 y10 y11 y12 y13 y14 y15 y16 y17 y18 y19 y20 y21 y22 y23 y24 y25 y26 y27 y28 y29 y30 y31 y32 y33 y37 y38 y39 y40 y41 y42 y43 y44 y45 y46 y47 y48 y49 y50 y51 y52 y53 y54 y55 y56 y57 y58 y59 y60 y61 y62 y63 y64 y65 y66 y67 y68 y69 y70 y71 y72 y73 y74 y75 y76 y77 y78 y79 y80 y81 y82 ds' w' h1
   exact ⟨ctInv_to w.heap.size it w2 Wb o tp Cd y0 y1 y4 y8 y9 y10 y11 y12 y13 y14 y15 y16 y17 y18 y19 y20 y21 y22 y23 y24 y25 y26 y27 y28 y29 y30 y31 y32 y33 y37 y38 y39 y40 y41 y42 y43 y44 y45 y46 y47 y48 y49 y50 y51 y52 y53 y54 y55 y56 y57 y58 y59 y60 y61 y62 y63 y64 y65 y66 y67 y68 y69 y70 y71 y72 y73 y74 y75 y76 y77 y78 y79 y80 y81 y82 ds' (k + 1) w' hlt h1, by unfold ctMu; simp [intOf]; omega⟩
  obtain rfl : k = 2 := by omega
  clear hk hlt hS0
  obtain ⟨⟨C, hI, h2, h3⟩, hf, hm, hfar⟩ := hS
  have hcp := counts_plain o HOK.out
  rw [← parts_two] at hcp
  have hnP : ∀ j, Cd j → ¬ (j = w2.heap.size + 1) := fun j hj e => HPC.out (e ▸ hj)
  have hA := rowI_fr HALB.out (hf.mono (D := fun k => ¬ Cd k) fun k _ hk hc => hnP k hc hk)
  have b0r := boxed_fr HB0B.out hf (show ¬ (w.heap.size = w2.heap.size + 1) by omega)
  have hb2r : Below w2.heap.size w2 wr := HPB.out.2.trans (hf.below HPB.out.2.size fun j _ hj => by omega)
  have hdis : ∀ j, C j → ¬ Cd j := fun j hj hc => by
   rcases h3 j hj with h | h
   ·exact hnP j hc h
   ·have := HCB.out j hc; omega
  have hLA : (wantL 1 (allO o)).map (·.1) = ((allO o).map (·.1)) := by rw [wantL_one]
  have hfw := allO_few HOK.out
  have hlP : (partsK (allO o) 2).length = (allO o).length := by
   have h := congrArg List.length hcp.1
   rw [sortT_len, sortT_len, hLA, List.length_map] at h
   exact h
  have hlA : ((wantL 1 (allO o)).map (·.1)).length = (allO o).length := by rw [hLA, List.length_map]
  obtain ⟨LA, hLA'⟩ : ∃ LA, (wantL 1 (allO o)).map (·.1) = LA := ⟨_, rfl⟩
  obtain ⟨LP, hLP'⟩ : ∃ LP, partsK (allO o) 2 = LP := ⟨_, rfl⟩
  obtain ⟨N, hN⟩ : ∃ N, (allO o).length = N := ⟨_, rfl⟩
  rw [hLA'] at hA hcp hlA
  rw [hLP'] at hI hcp hlP
  rw [hN] at hlA hlP hfw
  obtain ⟨_, _, u1, bA, rA, a4, a5, a6⟩ := hA
  obtain ⟨_, _, u2, bP, rP, p4, p5, p6⟩ := hI
  rw [hlA] at rA
  rw [hlP] at rP
  obtain ⟨A1, c1, rfl⟩ := own_slice rA
  obtain ⟨A2, c2, rfl⟩ := own_slice rP
  have HSO := Lib.hid (sort_rowN w2.heap.size _ LA N wr hlA rA (by omega))
  have HEQ := Lib.hid hcp
  have HLL := Lib.hid (And.intro hlA hlP)
  have HN := Lib.hid hN
  have cA := bA.cell
  have HROW := Lib.hid (And.intro bA (And.intro bP (And.intro rA (And.intro rP b0r))))
  have HCC := Lib.hid (And.intro a4 (And.intro a5 (And.intro p4 p5)))
  have HDIS := Lib.hid hdis
  have HMK := Lib.hid (And.intro hm (And.intro h2 hfar))
  have HBR := Lib.hid hb2r
  clear hcp hlA hlP hN hLA hLA' hLP' bP rA rP b0r a4 a5 a6 p4 p5 p6 hdis hm h2 hfar hb2r hnP hf h3 bA
  gi_wp2_with fail
  refine ⟨trivial, (callsIn_wide.2 HSO.out).mono ?_⟩
  rintro e w5 ⟨rfl, r5, f5⟩
  obtain ⟨bA, bP, rA, rP, b0r⟩ := HROW.out
  have dP : ∀ j, (Value.slice A1 N c1).ownBlock = some j → ¬ C j := fun j hj hc => HDIS.out j hc (HCC.out.2.1 j hj)
  have nAA : ¬ (Value.slice A1 N c1).ownBlock = some w2.heap.size := fun e => bA.not_row (by decide) rA e.symm
  have nAP : ¬ (Value.slice A1 N c1).ownBlock = some (w2.heap.size + 1) := fun e => dP _ e HCC.out.2.2.1
  have nA0 : ¬ (Value.slice A1 N c1).ownBlock = some w.heap.size := fun e => by have := own_ge rA e; omega
  have bA5 := boxed_fr bA f5 nAA
  have bP5 := boxed_fr bP f5 nAP
  have b05 := boxed_fr b0r f5 nA0
  have rP5 := own_fr rP f5 (fun j hj hc => dP j hc (HCC.out.2.2.2 j hj))
  have m5 := HMK.out.1.fr f5 (fun E hE hc => HMK.out.2.2 E hE (HCC.out.2.1 E hc))
  have hb25 : Below w2.heap.size w2 w5 := HBR.out.trans (f5.below HBR.out.size fun j _ hj => own_ge rA hj)
  have cP := bP5.cell
  have HSP := Lib.hid (sort_rowN w2.heap.size _ LP N w5 HLL.out.2 rP5 (by omega))
  have HROW5 := Lib.hid (And.intro bA5 (And.intro bP5 (And.intro r5 (And.intro rP5 b05))))
  have HM5 := Lib.hid (And.intro m5 hb25)
  clear HSO HROW bA bP rA rP b0r dP nAA nAP nA0 bA5 bP5 b05 rP5 m5 hb25 r5 f5 HBR cA
  gi_wp2_with fail
  refine ⟨trivial, (callsIn_wide.2 HSP.out).mono ?_⟩
  rintro e w6 ⟨rfl, r6, f6⟩
  obtain ⟨bA, bP, rA, rP, b0r⟩ := HROW5.out
  have dA : ∀ j, (Value.slice A2 N c2).ownBlock = some j → ¬ Cd j := fun j hj hc => HDIS.out j (HCC.out.2.2.2 j hj) hc
  have bA6 := boxed_fr bA f6 (fun e => dA _ e HCC.out.1)
  have bP6 := boxed_fr bP f6 (fun e => bP.not_row (by decide) rP e.symm)
  have b06 := boxed_fr b0r f6 (fun e => by have := own_ge rP e; omega)
  have rA6 := own_fr rA f6 (fun j hj hc => dA j hc (HCC.out.2.1 j hj))
  have m6 := HM5.out.1.fr f6 (fun E hE hc => HMK.out.2.1 E hE (HCC.out.2.2.2 E hc))
  have hb26 : Below w2.heap.size w2 w6 := HM5.out.2.trans (f6.below HM5.out.2.size fun j _ hj => own_ge rP hj)
  rw [HEQ.out.1] at r6
  have HROW6 := Lib.hid (And.intro bA6 (And.intro bP6 (And.intro rA6 (And.intro r6 b06))))
  have HM6 := Lib.hid (And.intro m6 hb26)
  clear HSP HROW5 bA bP rA rP b0r dA bA6 bP6 b06 rA6 m6 hb26 r6 f6 HM5 cP
  cases ho : o with
  | none =>
   have hN0 : N = 0 := by
    have := HN.out
    rw [ho] at this
    exact this.symm
   subst hN0
   clear HT2 HN HOK htp
   obtain ⟨bA, bP, rA, rP, b0r⟩ := HROW6.out
   have cA := bA.cell
   have cP := bP.cell
   have HKE := Lib.hid (keys_equal (sortT LA) (sortT LA) _ _ w6 (rdk_ownN (by rw [sortT_len]; exact HLL.out.1) rA) (rdk_ownN (by rw [sortT_len]; exact HLL.out.1) rP) rfl (by rw [sortT_len, HLL.out.1]; omega))
   have q0 : decide (sortT LA = sortT LA) = true := decide_eq_true rfl
   rw [q0] at HKE
   have HRR := Lib.hid (And.intro bP (And.intro rP b0r))
   clear bA bP rA rP b0r q0
   gi_wp2_with fail
   refine ⟨trivial, (callsIn_wide.2 HKE.out).mono ?_⟩
   rintro e w8 ⟨rfl, hb8⟩
   have bP8 := boxed_new HRR.out.1 hb8
   have b08 := boxed_new HRR.out.2.2 hb8
   have rP8 := own_fr HRR.out.2.1 (Fr.of_below (C := fun _ => False) hb8) (fun _ _ h => h)
   have hm8 := HM6.out.1.below hb8
   have hb28 := HM6.out.2.trans (hb8.mono HM6.out.2.size)
   have cP8 := bP8.cell
   have HCR := Lib.hid (compact_rowN w2.heap.size _ (sortT LA) _ w8 (by rw [sortT_len]; exact HLL.out.1) rP8 (by omega) HEQ.out.2)
   have HR8 := Lib.hid (And.intro rP8 (And.intro b08 (And.intro hm8 hb28)))
   clear HKE HRR HM6 HROW6 bP8 b08 rP8 hm8 hb28 hb8 cA cP
   gi_wp2_with fail
   refine ⟨trivial, (callsIn_wide.2 HCR.out).mono ?_⟩
   rintro e w9 ⟨⟨A3, c3, rfl⟩, f9⟩
   have b09 := boxed_fr HR8.out.2.1 f9 (fun e => by have := own_ge HR8.out.1 e; omega)
   have m9 := HR8.out.2.2.1.fr f9 (fun E hE hc => HMK.out.2.1 E hE (HCC.out.2.2.2 E hc))
   have hb29 : Below w2.heap.size w2 w9 := HR8.out.2.2.2.trans (f9.below HR8.out.2.2.2.size fun j _ hj => own_ge HR8.out.1 hj)
   have HWK := Lib.hid (works_any w9 (HG2.out.next hb29) (HA2.out.next hb29))
   have HR9 := Lib.hid (And.intro b09 (And.intro m9 hb29))
   clear HCR HR8 b09 m9 hb29 f9 cP8
   gi_wp2_with fail
   refine ⟨trivial, (callsIn_wide.2 HWK.out).mono ?_⟩
   rintro e w10 ⟨rfl, hb10⟩
   have b010 := boxed_new HR9.out.1 hb10
   have c10 := b010.cell
   have g10 := b010.frozen
   have b011 := b010.set (.bool true)
   have m10 := HR9.out.2.1.below hb10
   have g11 := grownBy_setCell' w10 w.heap.size (.bool true)
   have m11 : MarksOk w2.heap.size ds (w10.setCell ⟨w.heap.size, 0, none⟩ (.bool true)) := m10.kept fun E hE => g11.block E (Array.getElem?_eq_some_iff.1 (m10.2 E hE).2).1 (fun e => by injection e with e; have := (m10.2 E hE).1; omega)
   have hb210 := HR9.out.2.2.trans (hb10.mono HR9.out.2.2.size)
   have hbw : Below w.heap.size w (w10.setCell ⟨w.heap.size, 0, none⟩ (.bool true)) := (HBW.out.trans (hb210.mono (by omega))).setCell (p := ⟨w.heap.size, 0, none⟩) (Nat.le_refl _) _
   have HEND := Lib.hid (And.intro m11 (And.intro b011 hbw))
   clear HWK HR9 hb10 b010 b011 m10 g11 m11 hb210 hbw
   gi_wp2_with fail
   refine leaves_marks (B := w2.heap.size) ds _ HEND.out.1 fun w' hF => ?_
   have b12 := boxed_fr HEND.out.2.1 hF (fun hE => by have := (HEND.out.1.2 _ hE).1; omega)
   have c12 := b12.cell
   have hfin : Below w.heap.size w w' := HEND.out.2.2.trans (hF.below HEND.out.2.2.size fun k _ hk => by have := (HEND.out.1.2 k hk).1; omega)
   refine ⟨.bool true, ?_, rfl, hfin⟩
   simp [results, Tryz.results3, go_sem, c12]
  | some t =>
   have hN0 : t.nodes = N := by
    have := HN.out
    rw [ho, allO_len] at this
    exact this
   have hOKt := HOK.out t ho
   obtain ⟨t', g, tv, ht', rfl, hblk, hrd, _⟩ : ∃ t' g v, o = some t' ∧ tp = .pointer (some ⟨g, 0, none⟩) ∧ Blk w2 g 155 #[v] ∧ RdA w2 t' v ∧ True := by
    rcases HT2.out with ⟨h, _⟩ | ⟨t', g, v, h1, h2, h3, h4, _⟩
    ·rw [ho] at h; cases h
    ·exact ⟨t', g, v, h1, h2, h3, h4, trivial⟩
   rw [ho] at ht'
   injection ht' with ht'
   subst ht'
   have hbl6 := hblk.below HM6.out.2 hblk.lt
   obtain ⟨S6, hr6⟩ : ∃ S, RdT S w6 t tv := ⟨_, rda_below hrd HM6.out.2⟩
   have HTS := Lib.hid (tsize_any S6 g t tv w6 hbl6 hr6 hOKt.2)
   unfold Rz.SizeP at HTS
   rw [hN0] at HTS
   clear HT2 HN HOK htp hN0 hOKt hblk hrd hbl6 hr6
   gi_wp2_with fail
   refine ⟨trivial, (callsIn_wide.2 HTS.out).mono ?_⟩
   rintro e w7 ⟨rfl, hb7⟩
   obtain ⟨bA0, bP0, rA0, rP0, b0r0⟩ := HROW6.out
   have bA := boxed_new bA0 hb7
   have bP := boxed_new bP0 hb7
   have b0r := boxed_new b0r0 hb7
   have rA := own_fr rA0 (Fr.of_below (C := fun _ => False) hb7) (fun _ _ h => h)
   have rP := own_fr rP0 (Fr.of_below (C := fun _ => False) hb7) (fun _ _ h => h)
   have HM7 := Lib.hid (And.intro (HM6.out.1.below hb7) (HM6.out.2.trans (hb7.mono HM6.out.2.size)))
   clear HM6 HROW6 bA0 bP0 b0r0 rA0 rP0 hb7 HTS
   have HM6 := HM7
   have HROW6 := HM7
   clear HM7
   have cA := bA.cell
   have cP := bP.cell
   have HKE := Lib.hid (keys_equal (sortT LA) (sortT LA) _ _ w7 (rdk_ownN (by rw [sortT_len]; exact HLL.out.1) rA) (rdk_ownN (by rw [sortT_len]; exact HLL.out.1) rP) rfl (by rw [sortT_len, HLL.out.1]; omega))
   have q0 : decide (sortT LA = sortT LA) = true := decide_eq_true rfl
   rw [q0] at HKE
   have HRR := Lib.hid (And.intro bP (And.intro rP b0r))
   clear bA bP rA rP b0r q0
   gi_wp2_with fail
   refine ⟨trivial, (callsIn_wide.2 HKE.out).mono ?_⟩
   rintro e w8 ⟨rfl, hb8⟩
   have bP8 := boxed_new HRR.out.1 hb8
   have b08 := boxed_new HRR.out.2.2 hb8
   have rP8 := own_fr HRR.out.2.1 (Fr.of_below (C := fun _ => False) hb8) (fun _ _ h => h)
   have hm8 := HM6.out.1.below hb8
   have hb28 := HM6.out.2.trans (hb8.mono HM6.out.2.size)
   have cP8 := bP8.cell
   have HCR := Lib.hid (compact_rowN w2.heap.size _ (sortT LA) _ w8 (by rw [sortT_len]; exact HLL.out.1) rP8 (by omega) HEQ.out.2)
   have HR8 := Lib.hid (And.intro rP8 (And.intro b08 (And.intro hm8 hb28)))
   clear HKE HRR HM6 HROW6 bP8 b08 rP8 hm8 hb28 hb8 cA cP
   gi_wp2_with fail
   refine ⟨trivial, (callsIn_wide.2 HCR.out).mono ?_⟩
   rintro e w9 ⟨⟨A3, c3, rfl⟩, f9⟩
   have b09 := boxed_fr HR8.out.2.1 f9 (fun e => by have := own_ge HR8.out.1 e; omega)
   have m9 := HR8.out.2.2.1.fr f9 (fun E hE hc => HMK.out.2.1 E hE (HCC.out.2.2.2 E hc))
   have hb29 : Below w2.heap.size w2 w9 := HR8.out.2.2.2.trans (f9.below HR8.out.2.2.2.size fun j _ hj => own_ge HR8.out.1 hj)
   have HWK := Lib.hid (works_any w9 (HG2.out.next hb29) (HA2.out.next hb29))
   have HR9 := Lib.hid (And.intro b09 (And.intro m9 hb29))
   clear HCR HR8 b09 m9 hb29 f9 cP8
   gi_wp2_with fail
   refine ⟨trivial, (callsIn_wide.2 HWK.out).mono ?_⟩
   rintro e w10 ⟨rfl, hb10⟩
   have b010 := boxed_new HR9.out.1 hb10
   have c10 := b010.cell
   have g10 := b010.frozen
   have b011 := b010.set (.bool true)
   have m10 := HR9.out.2.1.below hb10
   have g11 := grownBy_setCell' w10 w.heap.size (.bool true)
   have m11 : MarksOk w2.heap.size ds (w10.setCell ⟨w.heap.size, 0, none⟩ (.bool true)) := m10.kept fun E hE => g11.block E (Array.getElem?_eq_some_iff.1 (m10.2 E hE).2).1 (fun e => by injection e with e; have := (m10.2 E hE).1; omega)
   have hb210 := HR9.out.2.2.trans (hb10.mono HR9.out.2.2.size)
   have hbw : Below w.heap.size w (w10.setCell ⟨w.heap.size, 0, none⟩ (.bool true)) := (HBW.out.trans (hb210.mono (by omega))).setCell (p := ⟨w.heap.size, 0, none⟩) (Nat.le_refl _) _
   have HEND := Lib.hid (And.intro m11 (And.intro b011 hbw))
   clear HWK HR9 hb10 b010 b011 m10 g11 m11 hb210 hbw
   gi_wp2_with fail
   refine leaves_marks (B := w2.heap.size) ds _ HEND.out.1 fun w' hF => ?_
   have b12 := boxed_fr HEND.out.2.1 hF (fun hE => by have := (HEND.out.1.2 _ hE).1; omega)
   have c12 := b12.cell
   have hfin : Below w.heap.size w w' := HEND.out.2.2.trans (hF.below HEND.out.2.2.size fun k _ hk => by have := (HEND.out.1.2 k hk).1; omega)
   refine ⟨.bool true, ?_, rfl, hfin⟩
   simp [results, Tryz.results3, go_sem, c12]
end Nd
end Go.Proofs.YtlailcmhpnnidaaGreatDoor
