/-
  The law's trail and total of layer 16.
  The law's product of layer 16: plain facts of its loop.
-/
import Derived.Test.YtbajkglacfheiaaGreatDoorTA35
import Derived.Test.YtbajkglacfheiaaGreatDoorTA37
set_option linter.unusedVariables false
set_option linter.unusedSimpArgs false
set_option maxRecDepth 100000
set_option maxHeartbeats 16000000
namespace Go.Proofs.YtbajkglacfheiaaGreatDoor
open Go.RowKit Mem Utf Ref3 Idx Tok TokC Ieee
namespace Nd
theorem lawTrail16 (n : Int) (p : Tx) (w : World) : Calls Tryz.prog 29 #[.int .i64 n, .string ⟨p.toArray⟩] w fun e w' => e = .returned (.agg #[.int .i64 n, .int .i64 0, .bool true, .string ⟨p.toArray⟩]) ∧ Below w.heap.size w w' := by
 go_enter Tryz.func29, Tryz.ntmps29
 go_wp2
 refine bodyPost_ret (v := .agg #[.int .i64 n, .int .i64 0, .bool true, .string ⟨p.toArray⟩]) ?_ rfl ⟨rfl, (Below.refl _ _).alloc (Nat.le_refl _) _⟩
 simp [results, Tryz.results29, go_sem]
theorem ltotal_bad (u : Tr) (hs : u.srt = 5) (hok : u.Ok) (A : Option Addr) (c : Nat) (K : Option Addr) (d : Nat) (p : Tx) (hp : p.length ≤ 4194304) (w : World) (h : RdVA w u ((A, c), (K, d))) (hf : u.fit = true) (i : Nat) (hbk : badK u.kids 0 = some i) : Calls Tryz.prog 30 #[valV u A c K d, .string ⟨p.toArray⟩, .float .f64 0, trlV 5 (atP p i)] w (TrueN w) := by
 have HX := fault16_trail 5 0 (atP p i)
 unfold trlV at HX ⊢
 have HX := Lib.hid HX
 have q1 := f64bits
 have q3 := err_eq_nil
 have q4 := err_eq_held
 have hb1 : Below w.heap.size w (w.alloc (.cells #[.int .i64 (u.srt : Nat), .bool u.fl, .int .u64 (u.bi : Nat), .string ⟨u.tx.toArray⟩, .slice A u.kids.length c, .slice K u.kn.length d] 79)) := (Below.refl _ _).alloc (Nat.le_refl _) _
 have HOF := Lib.hid (rof_19 u A c K d p hp _ (RdV.move (fun j hj hs => ⟨trivial, hb1.block j hj⟩) _ _ h) hf)
 unfold valV at HOF ⊢
 have HB1 := Lib.hid hb1
 have HPL := Lib.hid hp
 have hkl := kids_len (fit_le hf).1
 have HKL := Lib.hid hkl
 have HOK := Lib.hid hok
 have HS := Lib.hid hs
 clear hb1 h hp hf hkl hok hs
 go_enter Tryz.func30, Tryz.ntmps30
 go_wp2_with fail
 ((with_reducible refine (HOF.out).mono ?_); rintro e w2 ⟨he, hb2⟩)
 have HB2 := Lib.hid (HB1.out.trans (hb2.mono HB1.out.size))
 clear hb2 HOF
 rw [if_pos HS.out] at he
 rw [hbk] at he
 obtain rfl := he
 obtain ⟨pk, hpk⟩ : ∃ pk, atP p i = pk := ⟨_, rfl⟩
 rw [hpk] at HX ⊢
 clear hbk hpk
 obtain ⟨w3, hw3⟩ : ∃ w3, (w2.alloc (.cells #[.int .i64 0, .bool false, .int .i64 0, .int .u64 0, .int .u64 0, .int .u32 0, .int .u64 0, .int .u32 0, .string ⟨#[]⟩, .slice none 0 0, .slice none 0 0, .slice none 0 0, .slice none 0 0] 92)).alloc (.cells #[.int .i64 5, .int .i64 0, .bool true, .string ⟨pk.toArray⟩] 81) = w3 := ⟨_, rfl⟩
 have hb3 : Below w2.heap.size w2 w3 := by rw [← hw3]; exact ((Below.refl _ _).alloc (Nat.le_refl _) _).alloc (by simp) _
 have hnB : Blk w3 w2.heap.size 92 #[.int .i64 0, .bool false, .int .i64 0, .int .u64 0, .int .u64 0, .int .u32 0, .int .u64 0, .int .u32 0, .string ⟨#[]⟩, .slice none 0 0, .slice none 0 0, .slice none 0 0, .slice none 0 0] := by rw [← hw3]; exact (Blk.new w2 _ _).alloc _
 have hnF : Blk w3 (w2.heap.size + 1) 81 #[.int .i64 5, .int .i64 0, .bool true, .string ⟨pk.toArray⟩] := by
  have := Blk.new (w2.alloc (.cells #[.int .i64 0, .bool false, .int .i64 0, .int .u64 0, .int .u64 0, .int .u32 0, .int .u64 0, .int .u32 0, .string ⟨#[]⟩, .slice none 0 0, .slice none 0 0, .slice none 0 0, .slice none 0 0] 92)) 81 #[.int .i64 5, .int .i64 0, .bool true, .string ⟨pk.toArray⟩]
  rw [World.size_alloc, hw3] at this
  exact this
 have HNB := Lib.hid hnB
 have HNF := Lib.hid hnF
 have HB3 := Lib.hid (HB2.out.trans (hb3.mono HB2.out.size))
 have HB23 := Lib.hid hb3
 have HW3 := Lib.hid hw3
 clear hb3 hnB hnF hw3
 go_upto_region 2 with fail
 rw [HW3.out]
 have y0 : w3.cell? ⟨w2.heap.size + 1, 0, none⟩ = some (.int .i64 5) := HNF.out.cell 0
 have y1 : w3.cell? ⟨w2.heap.size + 1, 1, none⟩ = some (.int .i64 0) := HNF.out.cell 1
 have y2 : w3.cell? ⟨w2.heap.size + 1, 2, none⟩ = some (.bool true) := HNF.out.cell 2
 have y3 : w3.cell? ⟨w2.heap.size + 1, 3, none⟩ = some (.string ⟨pk.toArray⟩) := HNF.out.cell 3
 go_wp2_with fail
 ((with_reducible refine (HX.out _).mono ?_); rintro e w6 ⟨rfl, hb6⟩)
 have HB6 := Lib.hid (HB3.out.trans (hb6.mono HB3.out.size))
 clear hb6
 go_wp2
 go_ret
 exact ⟨rfl, HB6.out⟩
theorem ltotal_no (u : Tr) (hs : u.srt = 5) (hok : u.Ok) (A : Option Addr) (c : Nat) (K : Option Addr) (d : Nat) (p : Tx) (hp : p.length ≤ 4194304) (w : World) (h : RdVA w u ((A, c), (K, d))) (hf : u.fit = true) (hbk : badK u.kids 0 = none) (i : Nat) (hi : i ≤ 65536) (hsm : sumD (u.kids.map Tr.nb) 0 0 = .inl i) : Calls Tryz.prog 30 #[valV u A c K d, .string ⟨p.toArray⟩, .float .f64 0, trlV 161 (atP p i)] w (TrueN w) := by
 have HX := fault16_trail 161 0 (atP p i)
 have HTR := Lib.hid (lawTrail16 161 (atP p i))
 unfold trlV at HX ⊢
 have HX := Lib.hid HX
 unfold atP at HX HTR ⊢
 obtain ⟨dg, hdg⟩ : ∃ dg, Lib.itoa (i : Int) = dg := ⟨_, rfl⟩
 have hdl : dg.length ≤ 21 := by rw [← hdg]; exact Lib.itoa_length_le (i : Int) (by omega) (by omega)
 have HIT := Lib.hid (fun W => figures_any i (by omega) W)
 rw [hdg] at HX HTR HIT ⊢
 have hpl : p.length ≤ 4194304 := hp
 have hi0 : (0 : Int) ≤ (i : Int) := by omega
 have q1 := f64bits
 have q3 := err_eq_nil
 have q4 := err_eq_held
 have hb1 : Below w.heap.size w (w.alloc (.cells #[.int .i64 (u.srt : Nat), .bool u.fl, .int .u64 (u.bi : Nat), .string ⟨u.tx.toArray⟩, .slice A u.kids.length c, .slice K u.kn.length d] 79)) := (Below.refl _ _).alloc (Nat.le_refl _) _
 have HOF := Lib.hid (rof_19 u A c K d p hp _ (RdV.move (fun j hj hs => ⟨trivial, hb1.block j hj⟩) _ _ h) hf)
 unfold valV at HOF ⊢
 have HB1 := Lib.hid hb1
 have HPL := Lib.hid hp
 have hkl := kids_len (fit_le hf).1
 have HKL := Lib.hid hkl
 have HOK := Lib.hid hok
 have HS := Lib.hid hs
 clear hb1 h hp hf hkl hok hs
 go_enter Tryz.func30, Tryz.ntmps30
 go_wp2_with fail
 ((with_reducible refine (HOF.out).mono ?_); rintro e w2 ⟨he, hb2⟩)
 have HB2 := Lib.hid (HB1.out.trans (hb2.mono HB1.out.size))
 clear hb2 HOF
 rw [if_pos HS.out] at he
 rw [hbk] at he
 obtain ⟨vf, rfl, hown⟩ := he
 obtain ⟨Av, cv, rfl⟩ := own_slice hown
 have HOW := Lib.hid hown
 have hfl : ∀ x ∈ u.kids.map Tr.nb, finB x = true ∧ x < 18446744073709551616 := fun x hx => by
  obtain ⟨t, ht, rfl⟩ := List.mem_map.1 hx
  exact nb_fin ((okl_iff _).1 (kids_ok HOK.out) _ ht).1
 have HRT := Lib.hid (fun (W : World) (hb : Below w2.heap.size w2 W) => rtotal_any (u.kids.map Tr.nb) (.slice Av u.kids.length cv) _ W (by
  have h1 := own_below HOW.out hb
  rw [List.length_map, List.map_map]
  exact h1) hfl (by rw [List.length_map]; have := HKL.out; omega))
 unfold RTotP at HRT
 rw [hsm] at HRT
 clear hbk hown hfl hsm
 obtain ⟨w3, hw3⟩ : ∃ w3, (w2.alloc (.cells #[.int .i64 19, .bool false, .int .i64 0, .int .u64 0, .int .u64 0, .int .u32 0, .int .u64 0, .int .u32 0, .string ⟨#[]⟩, .slice none 0 0, .slice none 0 0, .slice none 0 0, .slice Av u.kids.length cv] 92)).alloc (.cells #[.int .i64 0, .int .i64 0, .bool false, .string ⟨#[]⟩] 81) = w3 := ⟨_, rfl⟩
 have hb3 : Below w2.heap.size w2 w3 := by rw [← hw3]; exact ((Below.refl _ _).alloc (Nat.le_refl _) _).alloc (by simp) _
 have hnB : Blk w3 w2.heap.size 92 #[.int .i64 19, .bool false, .int .i64 0, .int .u64 0, .int .u64 0, .int .u32 0, .int .u64 0, .int .u32 0, .string ⟨#[]⟩, .slice none 0 0, .slice none 0 0, .slice none 0 0, .slice Av u.kids.length cv] := by rw [← hw3]; exact (Blk.new w2 _ _).alloc _
 have hnF : Blk w3 (w2.heap.size + 1) 81 #[.int .i64 0, .int .i64 0, .bool false, .string ⟨#[]⟩] := by
  have := Blk.new (w2.alloc (.cells #[.int .i64 19, .bool false, .int .i64 0, .int .u64 0, .int .u64 0, .int .u32 0, .int .u64 0, .int .u32 0, .string ⟨#[]⟩, .slice none 0 0, .slice none 0 0, .slice none 0 0, .slice Av u.kids.length cv] 92)) 81 #[.int .i64 0, .int .i64 0, .bool false, .string ⟨#[]⟩]
  rw [World.size_alloc, hw3] at this
  exact this
 have HNB := Lib.hid hnB
 have HNF := Lib.hid hnF
 have HB3 := Lib.hid (HB2.out.trans (hb3.mono HB2.out.size))
 have HB23 := Lib.hid hb3
 have HW3 := Lib.hid hw3
 clear hb3 hnB hnF hw3
 go_upto_region 2 with fail
 rw [HW3.out]
 have y0 : w3.cell? ⟨w2.heap.size + 1, 0, none⟩ = some (.int .i64 0) := HNF.out.cell 0
 have y1 : w3.cell? ⟨w2.heap.size + 1, 1, none⟩ = some (.int .i64 0) := HNF.out.cell 1
 have y2 : w3.cell? ⟨w2.heap.size + 1, 2, none⟩ = some (.bool false) := HNF.out.cell 2
 have y3 : w3.cell? ⟨w2.heap.size + 1, 3, none⟩ = some (.string ⟨#[]⟩) := HNF.out.cell 3
 have b0 : w3.cell? ⟨w2.heap.size, 0, none⟩ = some (.int .i64 19) := HNB.out.cell 0
 have b1 : w3.cell? ⟨w2.heap.size, 1, none⟩ = some (.bool false) := HNB.out.cell 1
 have b2 : w3.cell? ⟨w2.heap.size, 2, none⟩ = some (.int .i64 0) := HNB.out.cell 2
 have b3 : w3.cell? ⟨w2.heap.size, 3, none⟩ = some (.int .u64 0) := HNB.out.cell 3
 have b4 : w3.cell? ⟨w2.heap.size, 4, none⟩ = some (.int .u64 0) := HNB.out.cell 4
 have b5 : w3.cell? ⟨w2.heap.size, 5, none⟩ = some (.int .u32 0) := HNB.out.cell 5
 have b6 : w3.cell? ⟨w2.heap.size, 6, none⟩ = some (.int .u64 0) := HNB.out.cell 6
 have b7 : w3.cell? ⟨w2.heap.size, 7, none⟩ = some (.int .u32 0) := HNB.out.cell 7
 have b8 : w3.cell? ⟨w2.heap.size, 8, none⟩ = some (.string ⟨#[]⟩) := HNB.out.cell 8
 have b9 : w3.cell? ⟨w2.heap.size, 9, none⟩ = some (.slice none 0 0) := HNB.out.cell 9
 have b10 : w3.cell? ⟨w2.heap.size, 10, none⟩ = some (.slice none 0 0) := HNB.out.cell 10
 have b11 : w3.cell? ⟨w2.heap.size, 11, none⟩ = some (.slice none 0 0) := HNB.out.cell 11
 have b12 : w3.cell? ⟨w2.heap.size, 12, none⟩ = some (.slice Av u.kids.length cv) := HNB.out.cell 12
 go_wp2_with fail
 ((with_reducible refine (HRT.out _ HB23.out).mono ?_); rintro e w4 ⟨rfl, rfl⟩)
 clear hdg
 go_wp2_with fail
 ((with_reducible refine (HIT.out _).mono ?_); rintro e w5 ⟨rfl, hb5⟩)
 have HB5 := Lib.hid (HB3.out.trans (hb5.mono HB3.out.size))
 clear hb5
 go_wp2_with fail
 rw [at_bytes]
 ((with_reducible refine (HTR.out _).mono ?_); rintro e w6 ⟨rfl, hb6⟩)
 have HB6 := Lib.hid (HB5.out.trans (hb6.mono HB5.out.size))
 clear hb6
 go_wp2_with fail
 ((with_reducible refine (HX.out _).mono ?_); rintro e w7 ⟨rfl, hb7⟩)
 have HB7 := Lib.hid (HB6.out.trans (hb7.mono HB6.out.size))
 clear hb7
 go_wp2
 go_ret
 exact ⟨rfl, HB7.out⟩
theorem ltotal_ok (u : Tr) (hs : u.srt = 5) (hok : u.Ok) (A : Option Addr) (c : Nat) (K : Option Addr) (d : Nat) (p : Tx) (hp : p.length ≤ 4194304) (w : World) (h : RdVA w u ((A, c), (K, d))) (hf : u.fit = true) (hbk : badK u.kids 0 = none) (s : Nat) (hsm : sumD (u.kids.map Tr.nb) 0 0 = .inr s) : Calls Tryz.prog 30 #[valV u A c K d, .string ⟨p.toArray⟩, .float .f64 s, .nilIface] w (TrueN w) := by
 have q1 := f64bits
 have q3 := err_eq_nil
 have q4 := err_eq_held
 have hb1 : Below w.heap.size w (w.alloc (.cells #[.int .i64 (u.srt : Nat), .bool u.fl, .int .u64 (u.bi : Nat), .string ⟨u.tx.toArray⟩, .slice A u.kids.length c, .slice K u.kn.length d] 79)) := (Below.refl _ _).alloc (Nat.le_refl _) _
 have HOF := Lib.hid (rof_19 u A c K d p hp _ (RdV.move (fun j hj hs => ⟨trivial, hb1.block j hj⟩) _ _ h) hf)
 unfold valV at HOF ⊢
 have HB1 := Lib.hid hb1
 have HPL := Lib.hid hp
 have hkl := kids_len (fit_le hf).1
 have HKL := Lib.hid hkl
 have HOK := Lib.hid hok
 have HS := Lib.hid hs
 clear hb1 h hp hf hkl hok hs
 go_enter Tryz.func30, Tryz.ntmps30
 go_wp2_with fail
 ((with_reducible refine (HOF.out).mono ?_); rintro e w2 ⟨he, hb2⟩)
 have HB2 := Lib.hid (HB1.out.trans (hb2.mono HB1.out.size))
 clear hb2 HOF
 rw [if_pos HS.out] at he
 rw [hbk] at he
 obtain ⟨vf, rfl, hown⟩ := he
 obtain ⟨Av, cv, rfl⟩ := own_slice hown
 have HOW := Lib.hid hown
 have hfl : ∀ x ∈ u.kids.map Tr.nb, finB x = true ∧ x < 18446744073709551616 := fun x hx => by
  obtain ⟨t, ht, rfl⟩ := List.mem_map.1 hx
  exact nb_fin ((okl_iff _).1 (kids_ok HOK.out) _ ht).1
 have HRT := Lib.hid (fun (W : World) (hb : Below w2.heap.size w2 W) => rtotal_any (u.kids.map Tr.nb) (.slice Av u.kids.length cv) _ W (by
  have h1 := own_below HOW.out hb
  rw [List.length_map, List.map_map]
  exact h1) hfl (by rw [List.length_map]; have := HKL.out; omega))
 unfold RTotP at HRT
 rw [hsm] at HRT
 clear hbk hown hfl hsm
 obtain ⟨w3, hw3⟩ : ∃ w3, (w2.alloc (.cells #[.int .i64 19, .bool false, .int .i64 0, .int .u64 0, .int .u64 0, .int .u32 0, .int .u64 0, .int .u32 0, .string ⟨#[]⟩, .slice none 0 0, .slice none 0 0, .slice none 0 0, .slice Av u.kids.length cv] 92)).alloc (.cells #[.int .i64 0, .int .i64 0, .bool false, .string ⟨#[]⟩] 81) = w3 := ⟨_, rfl⟩
 have hb3 : Below w2.heap.size w2 w3 := by rw [← hw3]; exact ((Below.refl _ _).alloc (Nat.le_refl _) _).alloc (by simp) _
 have hnB : Blk w3 w2.heap.size 92 #[.int .i64 19, .bool false, .int .i64 0, .int .u64 0, .int .u64 0, .int .u32 0, .int .u64 0, .int .u32 0, .string ⟨#[]⟩, .slice none 0 0, .slice none 0 0, .slice none 0 0, .slice Av u.kids.length cv] := by rw [← hw3]; exact (Blk.new w2 _ _).alloc _
 have hnF : Blk w3 (w2.heap.size + 1) 81 #[.int .i64 0, .int .i64 0, .bool false, .string ⟨#[]⟩] := by
  have := Blk.new (w2.alloc (.cells #[.int .i64 19, .bool false, .int .i64 0, .int .u64 0, .int .u64 0, .int .u32 0, .int .u64 0, .int .u32 0, .string ⟨#[]⟩, .slice none 0 0, .slice none 0 0, .slice none 0 0, .slice Av u.kids.length cv] 92)) 81 #[.int .i64 0, .int .i64 0, .bool false, .string ⟨#[]⟩]
  rw [World.size_alloc, hw3] at this
  exact this
 have HNB := Lib.hid hnB
 have HNF := Lib.hid hnF
 have HB3 := Lib.hid (HB2.out.trans (hb3.mono HB2.out.size))
 have HB23 := Lib.hid hb3
 have HW3 := Lib.hid hw3
 clear hb3 hnB hnF hw3
 go_upto_region 2 with fail
 rw [HW3.out]
 have y0 : w3.cell? ⟨w2.heap.size + 1, 0, none⟩ = some (.int .i64 0) := HNF.out.cell 0
 have y1 : w3.cell? ⟨w2.heap.size + 1, 1, none⟩ = some (.int .i64 0) := HNF.out.cell 1
 have y2 : w3.cell? ⟨w2.heap.size + 1, 2, none⟩ = some (.bool false) := HNF.out.cell 2
 have y3 : w3.cell? ⟨w2.heap.size + 1, 3, none⟩ = some (.string ⟨#[]⟩) := HNF.out.cell 3
 have b0 : w3.cell? ⟨w2.heap.size, 0, none⟩ = some (.int .i64 19) := HNB.out.cell 0
 have b1 : w3.cell? ⟨w2.heap.size, 1, none⟩ = some (.bool false) := HNB.out.cell 1
 have b2 : w3.cell? ⟨w2.heap.size, 2, none⟩ = some (.int .i64 0) := HNB.out.cell 2
 have b3 : w3.cell? ⟨w2.heap.size, 3, none⟩ = some (.int .u64 0) := HNB.out.cell 3
 have b4 : w3.cell? ⟨w2.heap.size, 4, none⟩ = some (.int .u64 0) := HNB.out.cell 4
 have b5 : w3.cell? ⟨w2.heap.size, 5, none⟩ = some (.int .u32 0) := HNB.out.cell 5
 have b6 : w3.cell? ⟨w2.heap.size, 6, none⟩ = some (.int .u64 0) := HNB.out.cell 6
 have b7 : w3.cell? ⟨w2.heap.size, 7, none⟩ = some (.int .u32 0) := HNB.out.cell 7
 have b8 : w3.cell? ⟨w2.heap.size, 8, none⟩ = some (.string ⟨#[]⟩) := HNB.out.cell 8
 have b9 : w3.cell? ⟨w2.heap.size, 9, none⟩ = some (.slice none 0 0) := HNB.out.cell 9
 have b10 : w3.cell? ⟨w2.heap.size, 10, none⟩ = some (.slice none 0 0) := HNB.out.cell 10
 have b11 : w3.cell? ⟨w2.heap.size, 11, none⟩ = some (.slice none 0 0) := HNB.out.cell 11
 have b12 : w3.cell? ⟨w2.heap.size, 12, none⟩ = some (.slice Av u.kids.length cv) := HNB.out.cell 12
 go_wp2_with fail
 ((with_reducible refine (HRT.out _ HB23.out).mono ?_); rintro e w4 ⟨rfl, rfl⟩)
 go_wp2
 go_ret
 exact ⟨rfl, HB3.out⟩
end Nd
end Go.Proofs.YtbajkglacfheiaaGreatDoor
namespace Go.Proofs.YtbajkglacfheiaaGreatDoor
open Go.RowKit Mem Utf Ref3 Idx Tok TokC Ieee
namespace Nd
theorem info_au2 : (Tryz.prog.info? 188).map (fun i => (i.zero, i.size, i.bytes)) = some (some (.agg #[.int .u64 0, .int .u64 0]), 2, 16) := by kernel_rfl
structure PlL (u : Tr) (A : Option Addr) (c : Nat) (K : Option Addr) (d : Nat) (l : Tx) (w : World) (qs : List (Nat × Nat)) (v : Value) (wr : World) : Prop where
 bl : Below w.heap.size w wr
 box : Blk wr w.heap.size 79 #[.int .i64 (u.srt : Nat), .bool u.fl, .int .u64 (u.bi : Nat), .string ⟨u.tx.toArray⟩, .slice A u.kids.length c, .slice K u.kn.length d]
 own : wr.ownsRow (w.heap.size + 1) 188 2 v qs.length (cellsU qs)
 fin : ∀ q ∈ qs, (finB q.1 = true ∧ q.1 < 18446744073709551616) ∧ (finB q.2 = true ∧ q.2 < 18446744073709551616)
 prs : prsD l u.kids 0 = preD qs (prsD l (u.kids.drop qs.length) qs.length)
theorem pll_step {u : Tr} {A : Option Addr} {c : Nat} {K : Option Addr} {d : Nat} {l : Tx} {w wr wp w9 : World} {qs : List (Nat × Nat)} {v v' : Value} {q : Nat × Nat} (ho : u.Ok) (hk : qs.length < u.kids.length) (hp : pairD u.kids[qs.length] (atP l qs.length) = .inr q) (h : PlL u A c K d l w qs v wr) (hwp : Below wr.heap.size wr wp)
  (hown : w9.ownsRow (w.heap.size + 1) 188 2 v' (qs.length + 1) (cellsU qs ++ [u64V q.1, u64V q.2])) (hg : wp.grownBy w9 v.ownBlock) : PlL u A c K d l w (qs ++ [q]) v' w9 := by
 have hb := h.bl.trans (hwp.mono h.bl.size)
 have hr := h.box.below hwp h.box.lt
 have hne : some w.heap.size ≠ v.ownBlock := fun e => by
  have := (h.own.lt _ e.symm).1
  omega
 refine ⟨hb.grown hg (by have := hb.size; omega) fun j hj => by have := (h.own.lt j hj).1; omega, hr.only hg hne, ?_, ?_, ?_⟩
 ·rw [cellsU_snoc, List.length_append]
  exact hown
 ·intro x hx
  rcases List.mem_append.1 hx with hx | hx
  ·exact h.fin x hx
  ·rw [List.mem_singleton] at hx
   rw [hx]
   exact pairD_fin ((okl_iff _).1 (kids_ok ho) _ (List.getElem_mem hk)).1 hp
 ·rw [h.prs, prsD_yes hk hp, preD_pre, List.length_append]
  rfl
theorem pll_bad {u : Tr} {A : Option Addr} {c : Nat} {K : Option Addr} {d : Nat} {l : Tx} {w wr : World} {qs : List (Nat × Nat)} {v : Value} {n : Int} {q : Tx} (h : PlL u A c K d l w qs v wr) (hk : qs.length < u.kids.length) (hp : pairF u.kids[qs.length] (atP l qs.length) = .inl (n, q)) : prsD l u.kids 0 = .inl (trlV n q) := by
 have h1 := pairD_F u.kids[qs.length] (atP l qs.length)
 rw [hp] at h1
 rw [h.prs, prsD_no hk h1]
 rfl
theorem pll_pair {u : Tr} {p : Tx} {q : Nat × Nat} (h : pairF u p = .inr q) : pairD u p = .inr q := by
 rw [pairD_F, h]
theorem pll_end {u : Tr} {A : Option Addr} {c : Nat} {K : Option Addr} {d : Nat} {l : Tx} {w wr : World} {qs : List (Nat × Nat)} {v : Value} (h : PlL u A c K d l w qs v wr) (hk : qs.length = u.kids.length) : prsD l u.kids 0 = .inr qs := by
 have h1 := h.prs
 rw [hk, prsD_end] at h1
 rw [h1]
 simp [preD]
end Nd
end Go.Proofs.YtbajkglacfheiaaGreatDoor
