/-
  The law's equal: its start; scalars.
  The law's equal: lists, objects, every tree.
-/
import Derived.Test.YtlailcmhpnnidaaGreatDoorX30
import Derived.Test.YtlailcmhpnnidaaGreatDoorX19
import Derived.Deep.RegionHeldLaw
set_option linter.unusedVariables false
set_option linter.unusedSimpArgs false
set_option maxRecDepth 100000
set_option maxHeartbeats 16000000
namespace Go.Proofs.YtlailcmhpnnidaaGreatDoor
open Go.RowKit Mem
namespace Nd
theorem sort_form (S : Nat → Prop) (t : Tr) (v : Value) (w : World) (h : RdT S w t v) (W : World) : Calls Tryz.prog 49 #[.agg #[v]] W (IntP (t.srt : Nat) W) := by
 cases t with
 | null => unfold RdT at h; subst h; exact st_null W
 | flag b => unfold RdT at h; subst h; exact st_flag b W
 | num x => unfold RdT at h; subst h; exact st_num x W
 | text s => unfold RdT at h; subst h; exact st_text _ W
 | list l => unfold RdT at h; obtain ⟨g, A, c, vs, rfl, _⟩ := h; exact st_list g W
 | obj ks l => unfold RdT at h; obtain ⟨g, K, d, A, c, vs, rfl, _⟩ := h; exact st_obj g W
def eqNext : Code → Code
 | .seq _ b => b
 | c => c
noncomputable def eqTail : Code := eqNext (eqNext (Tryz.f24.body.getD .skip))
theorem below_drew1 (w : World) : Below w.heap.size w w.drew := ⟨rfl, rfl, rfl, Nat.le_refl _, fun _ _ => rfl⟩
theorem eq_from (T : TypeId) (U : Value) (f n : Nat) (tx : TypeId) (ux : Value) (hm : ∀ W, (method (449 + 1) T U "Sort").run Tryz.prog W = .ok (f, U) W) (hc : ∀ args W, (callFunc f args).run Tryz.prog W = .ok (.enter f args) W) (hf : ∀ W, Calls Tryz.prog f #[U] W (IntP (n : Nat) W)) (hs : ∀ W, Calls Tryz.prog 49 #[.agg #[.iface tx ux]] W (IntP (n : Nat) W)) (R : Ending → World → Prop) (w : World)
  (hB : ∀ w2, Blk w2 w.heap.size 68 #[.iface tx ux] → Below w.heap.size w w2 → ∀ (z2 z5 z6 z7 z8 z9 z10 z11 z12 z13 z14 z15 z16 z17 z18 z19 z20 z21 z22 z23 z24 z25 z26 z27 z28 z29 z30 z31 z32 z33 z34 z35 z36 z37 z38 z39 z40 z41 z42 z43 z44 z45 z46 z47 z48 z49 z50 z51 z52 z53 z54 z55 z56 z57 z58 z59 z60 z61 z62 z63 z64 z65 z66 z67 z68 z69 z70 z71 z72 z73 z74 z75 z76 z77 z78 z79 z80 z81 z82 z83 z84 z85 z86 z87 z88 z89 z90 z91 z92 z93 z94 z95 z96 z97 z98 z99 z100 z101 z102 z103 z104 z105 z106 z107 z108 z109 z110 z111 z112 z113 z114 z115 z116 z117 z118 z119 z120 z121 z122 z123 z124 z125 z126 z127 z128 z129 z130 z131 z132 z133 z134 z135 z136 : Value), Code.wp Tryz.prog eqTail (bodyPost Tryz.prog Tryz.f24 R) { tmps := (.iface T U :: .agg #[.iface tx ux] :: z2 :: .pointer (some ⟨w.heap.size, 0, none⟩) :: .bool false :: z5 :: z6 :: z7 :: z8 :: z9 :: z10 :: z11 :: z12 :: z13 :: z14 :: z15 :: z16 :: z17 :: z18 :: z19 :: z20 :: z21 :: z22 :: z23 :: z24 :: z25 :: z26 :: z27 :: z28 :: z29 :: z30 :: z31 :: z32 :: z33 :: z34 :: z35 :: z36 :: z37 :: z38 :: z39 :: z40 :: z41 :: z42 :: z43 :: z44 :: z45 :: z46 :: z47 :: z48 :: z49 :: z50 :: z51 :: z52 :: z53 :: z54 :: z55 :: z56 :: z57 :: z58 :: z59 :: z60 :: z61 :: z62 :: z63 :: z64 :: z65 :: z66 :: z67 :: z68 :: z69 :: z70 :: z71 :: z72 :: z73 :: z74 :: z75 :: z76 :: z77 :: z78 :: z79 :: z80 :: z81 :: z82 :: z83 :: z84 :: z85 :: z86 :: z87 :: z88 :: z89 :: z90 :: z91 :: z92 :: z93 :: z94 :: z95 :: z96 :: z97 :: z98 :: z99 :: z100 :: z101 :: z102 :: z103 :: z104 :: z105 :: z106 :: z107 :: z108 :: z109 :: z110 :: z111 :: z112 :: z113 :: z114 :: z115 :: z116 :: z117 :: z118 :: z119 :: z120 :: z121 :: z122 :: z123 :: z124 :: z125 :: z126 :: z127 :: z128 :: z129 :: z130 :: z131 :: z132 :: z133 :: z134 :: z135 :: z136 :: []).toArray, defers := [] } w2) :
  Calls Tryz.prog 24 #[.iface T U, .agg #[.iface tx ux]] w R := by
 have HB := Lib.hid hB
 have HF := Lib.hid hf
 have HS := Lib.hid hs
 have hb0 : Below w.heap.size w (w.alloc (.cells #[.iface tx ux] 68)) := (Below.refl _ _).alloc (Nat.le_refl _) _
 have HK0 : Hid (Blk (w.alloc (.cells #[.iface tx ux] 68)) w.heap.size 68 #[.iface tx ux] ∧ Below w.heap.size w (w.alloc (.cells #[.iface tx ux] 68))) := Lib.hid ⟨Blk.new w 68 #[.iface tx ux], hb0⟩
 have c0 : (w.alloc (.cells #[.iface tx ux] 68)).cell? ⟨w.heap.size, 0, none⟩ = some (.iface tx ux) := (Blk.new w 68 #[.iface tx ux]).cell 0
 have e1 : ((n : Int) != (n : Int)) = false := by simp
 clear hB hf hs hb0
 go_enter Tryz.func24, Tryz.ntmps24
 go_upto_region 1 with fail
 go_cut [31] (fun c31 wx => c31 = .bool false ∧ Blk wx w.heap.size 68 #[.iface tx ux] ∧ Below w.heap.size w wx)
 case rest =>
  obtain ⟨rfl, hcut⟩ := hcut
  go_step
  go_step
  go_step
  go_step
  go_step
  exact HB.out _ hcut.1 hcut.2 _ _ _ _ _ _ _ _ _ _ _ _ _ _ _ _ _ _ _ _ _ _ _ _ _ _ _ _ _ _ _ _ _ _ _ _ _ _ _ _ _ _ _ _ _ _ _ _ _ _ _ _ _ _ _ _ _ _ _ _ _ _ _ _ _ _ _ _ _ _ _ _ _ _ _ _ _ _ _ _ _ _ _ _ _ _ _ _ _ _ _ _ _ _ _ _ _ _ _ _ _ _ _ _ _ _ _ _ _ _ _ _ _ _ _ _ _ _ _ _ _ _ _ _ _ _ _ _ _ _ _ _ _
 generalize (w.alloc (.cells #[.iface tx ux] 68)) = w1 at *
 go_wp2_with fail
 go_region_held_law (fun w' => w'.cell? ⟨w.heap.size, 0, none⟩ = some (.iface tx ux) ∧ Below w1.heap.size w1 w') (first | exact ⟨c0, (Below.refl _ _).drew⟩ | exact ⟨c0, below_drew1 w1⟩ | (have hSw := ‹World.cell? _ ⟨w.heap.size, 0, none⟩ = some (Value.iface tx ux) ∧ Below w1.heap.size w1 _›; exact ⟨((old hb2).1 _ _ (World.block_lt_of_cell? _ _ hSw.1)).trans hSw.1, hSw.2.trans (hb2.mono hSw.2.size)⟩) | go_keep)
  (first | (go_simp; go_at_call 49; ((with_reducible refine (HS.out _).mono ?_); rintro e w2 ⟨rfl, hb2⟩; dsimp only)) | (go_simp; ((with_reducible refine (HF.out _).mono ?_); rintro e w2 ⟨rfl, hb2⟩; dsimp only)))
 have HSW := Lib.hid ‹World.cell? _ ⟨w.heap.size, 0, none⟩ = some (Value.iface tx ux) ∧ Below w1.heap.size w1 _›
 go_wp2_with fail
 go_meet
 exact ⟨rfl, HK0.out.1.below HSW.out.2 HK0.out.1.lt, HK0.out.2.trans (HSW.out.2.mono HK0.out.2.size)⟩
theorem eqv_0_1 (w : World) : (Instr.typeAssert (.iface 103 (.agg #[])) 35 104 true).run Tryz.prog w = .ok (.tuple #[.bool false, .bool false]) w := by kernel_rfl
theorem eqv_0_2 (w : World) : (Instr.typeAssert (.iface 103 (.agg #[])) 35 106 true).run Tryz.prog w = .ok (.tuple #[.float .f64 0, .bool false]) w := by kernel_rfl
theorem eqv_0_3 (w : World) : (Instr.typeAssert (.iface 103 (.agg #[])) 35 108 true).run Tryz.prog w = .ok (.tuple #[.string ⟨#[]⟩, .bool false]) w := by kernel_rfl
theorem eqv_0_4 (w : World) : (Instr.typeAssert (.iface 103 (.agg #[])) 35 109 true).run Tryz.prog w = .ok (.tuple #[.slice none 0 0, .bool false]) w := by kernel_rfl
theorem eqv_0_5 (w : World) : (Instr.typeAssert (.iface 103 (.agg #[])) 35 112 true).run Tryz.prog w = .ok (.tuple #[.slice none 0 0, .bool false]) w := by kernel_rfl
theorem eqv_1_1 (b : Bool) (w : World) : (Instr.typeAssert (.iface 104 (.bool b)) 35 104 true).run Tryz.prog w = .ok (.tuple #[.bool b, .bool true]) w := by kernel_rfl
theorem eqv_2_1 (x : Nat) (w : World) : (Instr.typeAssert (.iface 106 (.float .f64 x)) 35 104 true).run Tryz.prog w = .ok (.tuple #[.bool false, .bool false]) w := by kernel_rfl
theorem eqv_2_2 (x : Nat) (w : World) : (Instr.typeAssert (.iface 106 (.float .f64 x)) 35 106 true).run Tryz.prog w = .ok (.tuple #[.float .f64 x, .bool true]) w := by kernel_rfl
theorem eqv_3_1 (s : ByteArray) (w : World) : (Instr.typeAssert (.iface 108 (.string s)) 35 104 true).run Tryz.prog w = .ok (.tuple #[.bool false, .bool false]) w := by kernel_rfl
theorem eqv_3_2 (s : ByteArray) (w : World) : (Instr.typeAssert (.iface 108 (.string s)) 35 106 true).run Tryz.prog w = .ok (.tuple #[.float .f64 0, .bool false]) w := by kernel_rfl
theorem eqv_3_3 (s : ByteArray) (w : World) : (Instr.typeAssert (.iface 108 (.string s)) 35 108 true).run Tryz.prog w = .ok (.tuple #[.string s, .bool true]) w := by kernel_rfl
theorem eqv_4_1 (A : Option Addr) (n c : Nat) (w : World) : (Instr.typeAssert (.iface 109 (.slice A n c)) 35 104 true).run Tryz.prog w = .ok (.tuple #[.bool false, .bool false]) w := by kernel_rfl
theorem eqv_4_2 (A : Option Addr) (n c : Nat) (w : World) : (Instr.typeAssert (.iface 109 (.slice A n c)) 35 106 true).run Tryz.prog w = .ok (.tuple #[.float .f64 0, .bool false]) w := by kernel_rfl
theorem eqv_4_3 (A : Option Addr) (n c : Nat) (w : World) : (Instr.typeAssert (.iface 109 (.slice A n c)) 35 108 true).run Tryz.prog w = .ok (.tuple #[.string ⟨#[]⟩, .bool false]) w := by kernel_rfl
theorem eqv_4_4 (A : Option Addr) (n c : Nat) (w : World) : (Instr.typeAssert (.iface 109 (.slice A n c)) 35 109 true).run Tryz.prog w = .ok (.tuple #[.slice A n c, .bool true]) w := by kernel_rfl
theorem eqv_5_1 (A : Option Addr) (n c : Nat) (w : World) : (Instr.typeAssert (.iface 112 (.slice A n c)) 35 104 true).run Tryz.prog w = .ok (.tuple #[.bool false, .bool false]) w := by kernel_rfl
theorem eqv_5_2 (A : Option Addr) (n c : Nat) (w : World) : (Instr.typeAssert (.iface 112 (.slice A n c)) 35 106 true).run Tryz.prog w = .ok (.tuple #[.float .f64 0, .bool false]) w := by kernel_rfl
theorem eqv_5_3 (A : Option Addr) (n c : Nat) (w : World) : (Instr.typeAssert (.iface 112 (.slice A n c)) 35 108 true).run Tryz.prog w = .ok (.tuple #[.string ⟨#[]⟩, .bool false]) w := by kernel_rfl
theorem eqv_5_4 (A : Option Addr) (n c : Nat) (w : World) : (Instr.typeAssert (.iface 112 (.slice A n c)) 35 109 true).run Tryz.prog w = .ok (.tuple #[.slice none 0 0, .bool false]) w := by kernel_rfl
theorem eqv_5_5 (A : Option Addr) (n c : Nat) (w : World) : (Instr.typeAssert (.iface 112 (.slice A n c)) 35 112 true).run Tryz.prog w = .ok (.tuple #[.slice A n c, .bool true]) w := by kernel_rfl
def EqP (w : World) (e : Ending) (w' : World) : Prop := e = .returned (.bool true) ∧ Below w.heap.size w w'
theorem flagq (b : Bool) (w : World) : Calls Tryz.prog 50 #[.agg #[.iface 161 (.bool b)]] w fun e w' => e = .returned (.tuple #[.bool b, .bool true]) ∧ Below w.heap.size w w' := by
 have h2 := ta_1_1 b
 go_enter Tryz.func50, Tryz.ntmps50
 go_wp2
 go_ret2
 exact ⟨rfl, (Below.refl _ _).alloc (Nat.le_refl _) _⟩
theorem numq (x : Nat) (w : World) : Calls Tryz.prog 51 #[.agg #[.iface 162 (.float .f64 x)]] w fun e w' => e = .returned (.tuple #[.float .f64 x, .bool true]) ∧ Below w.heap.size w w' := by
 have h2 := ta_2_2 x
 go_enter Tryz.func51, Tryz.ntmps51
 go_wp2
 go_ret2
 exact ⟨rfl, (Below.refl _ _).alloc (Nat.le_refl _) _⟩
theorem equal_null (S : Nat → Prop) (v r : Value) (w : World) (ht : TdT S w (.null) v) (hr : RdT S w (.null) r) : Calls Tryz.prog 24 #[v, .agg #[r]] w (EqP w) := by
 obtain ⟨T, U, f, hx, hm, hc, hf, _⟩ := told_facts ht
 have hs := sort_form _ _ _ _ hr
 unfold TdT at ht
 unfold RdT at hr
 subst hr
 rw [hx] at ht
 injection ht with e1 e2
 subst e1 e2 hx
 refine eq_from _ _ f _ _ _ hm hc hf hs _ w ?_
 intro w2 hbk hbw z2 z5 z6 z7 z8 z9 z10 z11 z12 z13 z14 z15 z16 z17 z18 z19 z20 z21 z22 z23 z24 z25 z26 z27 z28 z29 z30 z31 z32 z33 z34 z35 z36 z37 z38 z39 z40 z41 z42 z43 z44 z45 z46 z47 z48 z49 z50 z51 z52 z53 z54 z55 z56 z57 z58 z59 z60 z61 z62 z63 z64 z65 z66 z67 z68 z69 z70 z71 z72 z73 z74 z75 z76 z77 z78 z79 z80 z81 z82 z83 z84 z85 z86 z87 z88 z89 z90 z91 z92 z93 z94 z95 z96 z97 z98 z99 z100 z101 z102 z103 z104 z105 z106 z107 z108 z109 z110 z111 z112 z113 z114 z115 z116 z117 z118 z119 z120 z121 z122 z123 z124 z125 z126 z127 z128 z129 z130 z131 z132 z133 z134 z135 z136
 have HK := Lib.hid (And.intro hbk hbw)
 have c0 : w2.cell? ⟨w.heap.size, 0, none⟩ = some (.iface 160 (.agg #[])) := hbk.cell 0
 have q1 := eqv_0_1
 have q2 := eqv_0_2
 have q3 := eqv_0_3
 have q4 := eqv_0_4
 have q5 := eqv_0_5
 clear hm hc hf hs hbk hbw
 conv => arg 2; whnf
 go_wp2
 go_ret
 exact ⟨rfl, HK.out.2⟩
theorem equal_flag (b : Bool) (S : Nat → Prop) (v r : Value) (w : World) (ht : TdT S w (.flag b) v) (hr : RdT S w (.flag b) r) : Calls Tryz.prog 24 #[v, .agg #[r]] w (EqP w) := by
 obtain ⟨T, U, f, hx, hm, hc, hf, _⟩ := told_facts ht
 have hs := sort_form _ _ _ _ hr
 unfold TdT at ht
 unfold RdT at hr
 subst hr
 rw [hx] at ht
 injection ht with e1 e2
 subst e1 e2 hx
 refine eq_from _ _ f _ _ _ hm hc hf hs _ w ?_
 intro w2 hbk hbw z2 z5 z6 z7 z8 z9 z10 z11 z12 z13 z14 z15 z16 z17 z18 z19 z20 z21 z22 z23 z24 z25 z26 z27 z28 z29 z30 z31 z32 z33 z34 z35 z36 z37 z38 z39 z40 z41 z42 z43 z44 z45 z46 z47 z48 z49 z50 z51 z52 z53 z54 z55 z56 z57 z58 z59 z60 z61 z62 z63 z64 z65 z66 z67 z68 z69 z70 z71 z72 z73 z74 z75 z76 z77 z78 z79 z80 z81 z82 z83 z84 z85 z86 z87 z88 z89 z90 z91 z92 z93 z94 z95 z96 z97 z98 z99 z100 z101 z102 z103 z104 z105 z106 z107 z108 z109 z110 z111 z112 z113 z114 z115 z116 z117 z118 z119 z120 z121 z122 z123 z124 z125 z126 z127 z128 z129 z130 z131 z132 z133 z134 z135 z136
 have HK := Lib.hid (And.intro hbk hbw)
 have c0 : w2.cell? ⟨w.heap.size, 0, none⟩ = some (.iface 161 (.bool b)) := hbk.cell 0
 have q1 := eqv_1_1 b
 clear hm hc hf hs hbk hbw
 conv => arg 2; whnf
 have e1 : (b == b) = true := by simp
 go_wp2_with fail
 ((with_reducible refine (flagq b _).mono ?_); rintro e w3 ⟨rfl, hb3⟩)
 have HB3 := Lib.hid (HK.out.2.trans (hb3.mono HK.out.2.size))
 clear hb3
 go_wp2
 go_ret
 exact ⟨rfl, HB3.out⟩
theorem equal_num (x : Nat) (hfin : finB x = true) (S : Nat → Prop) (v r : Value) (w : World) (ht : TdT S w (.num x) v) (hr : RdT S w (.num x) r) : Calls Tryz.prog 24 #[v, .agg #[r]] w (EqP w) := by
 obtain ⟨T, U, f, hx, hm, hc, hf, _⟩ := told_facts ht
 have hs := sort_form _ _ _ _ hr
 unfold TdT at ht
 unfold RdT at hr
 subst hr
 rw [hx] at ht
 injection ht with e1 e2
 subst e1 e2 hx
 refine eq_from _ _ f _ _ _ hm hc hf hs _ w ?_
 intro w2 hbk hbw z2 z5 z6 z7 z8 z9 z10 z11 z12 z13 z14 z15 z16 z17 z18 z19 z20 z21 z22 z23 z24 z25 z26 z27 z28 z29 z30 z31 z32 z33 z34 z35 z36 z37 z38 z39 z40 z41 z42 z43 z44 z45 z46 z47 z48 z49 z50 z51 z52 z53 z54 z55 z56 z57 z58 z59 z60 z61 z62 z63 z64 z65 z66 z67 z68 z69 z70 z71 z72 z73 z74 z75 z76 z77 z78 z79 z80 z81 z82 z83 z84 z85 z86 z87 z88 z89 z90 z91 z92 z93 z94 z95 z96 z97 z98 z99 z100 z101 z102 z103 z104 z105 z106 z107 z108 z109 z110 z111 z112 z113 z114 z115 z116 z117 z118 z119 z120 z121 z122 z123 z124 z125 z126 z127 z128 z129 z130 z131 z132 z133 z134 z135 z136
 have HK := Lib.hid (And.intro hbk hbw)
 have c0 : w2.cell? ⟨w.heap.size, 0, none⟩ = some (.iface 162 (.float .f64 x)) := hbk.cell 0
 have q1 := eqv_2_1 x
 have q2 := eqv_2_2 x
 clear hm hc hf hs hbk hbw
 conv => arg 2; whnf
 have e1 : (FloatKind.f64.format.order x x == some Ordering.eq) = true := by
  have hf : x % 9223372036854775808 < 9218868437227405312 := by simpa [finB] using hfin
  rw [show FloatKind.f64.format.order x x = some .eq from order_self (by omega)]
  rfl
 go_wp2_with fail
 ((with_reducible refine (numq x _).mono ?_); rintro e w3 ⟨rfl, hb3⟩)
 have HB3 := Lib.hid (HK.out.2.trans (hb3.mono HK.out.2.size))
 clear hb3
 go_wp2
 go_ret
 exact ⟨rfl, HB3.out⟩
theorem equal_text (t : Tx) (S : Nat → Prop) (v r : Value) (w : World) (ht : TdT S w (.text t) v) (hr : RdT S w (.text t) r) : Calls Tryz.prog 24 #[v, .agg #[r]] w (EqP w) := by
 obtain ⟨T, U, f, hx, hm, hc, hf, _⟩ := told_facts ht
 have hs := sort_form _ _ _ _ hr
 unfold TdT at ht
 unfold RdT at hr
 subst hr
 rw [hx] at ht
 injection ht with e1 e2
 subst e1 e2 hx
 refine eq_from _ _ f _ _ _ hm hc hf hs _ w ?_
 intro w2 hbk hbw z2 z5 z6 z7 z8 z9 z10 z11 z12 z13 z14 z15 z16 z17 z18 z19 z20 z21 z22 z23 z24 z25 z26 z27 z28 z29 z30 z31 z32 z33 z34 z35 z36 z37 z38 z39 z40 z41 z42 z43 z44 z45 z46 z47 z48 z49 z50 z51 z52 z53 z54 z55 z56 z57 z58 z59 z60 z61 z62 z63 z64 z65 z66 z67 z68 z69 z70 z71 z72 z73 z74 z75 z76 z77 z78 z79 z80 z81 z82 z83 z84 z85 z86 z87 z88 z89 z90 z91 z92 z93 z94 z95 z96 z97 z98 z99 z100 z101 z102 z103 z104 z105 z106 z107 z108 z109 z110 z111 z112 z113 z114 z115 z116 z117 z118 z119 z120 z121 z122 z123 z124 z125 z126 z127 z128 z129 z130 z131 z132 z133 z134 z135 z136
 have HK := Lib.hid (And.intro hbk hbw)
 have c0 : w2.cell? ⟨w.heap.size, 0, none⟩ = some (.iface 163 (.string ⟨t.toArray⟩)) := hbk.cell 0
 have q1 := eqv_3_1 ⟨t.toArray⟩
 have q2 := eqv_3_2 ⟨t.toArray⟩
 have q3 := eqv_3_3 ⟨t.toArray⟩
 clear hm hc hf hs hbk hbw
 conv => arg 2; whnf
 have e1 : (t == (Tr.text t).tx) = true := by simp [Tr.tx]
 go_wp2_with fail
 ((with_reducible refine (textr_text t (fun _ => True) _ _ (by unfold RdT; rfl)).mono ?_); rintro e w3 ⟨rfl, hb3⟩)
 have HB3 := Lib.hid (HK.out.2.trans (hb3.mono HK.out.2.size))
 clear hb3
 go_wp2
 go_ret
 exact ⟨rfl, HB3.out⟩
end Nd
end Go.Proofs.YtlailcmhpnnidaaGreatDoor
namespace Go.Proofs.YtlailcmhpnnidaaGreatDoor
open Go.RowKit Mem
namespace Nd
theorem wrow_at {w : World} {e : TypeId} {X : Option Addr} {n xc k : Nat} {vs : List Value} {l : List Tr} (hrow : Row (fun _ => True) w e (.slice X n xc) vs) (hl : TdL (fun _ => True) w l vs) (hk : k < l.length) :
  ∃ g o tx ux, X = some ⟨g, o, none⟩ ∧ w.cell? ⟨g, o + k, none⟩ = some (.iface tx ux) ∧ TdT (fun _ => True) w l[k] (.iface tx ux) := by
 obtain ⟨A', c', e', h'⟩ := hrow
 injection e' with e1 e2 e3
 have hvl := hl.len
 rcases h' with ⟨h', _⟩ | ⟨g, o, cur, hA, _, hBg, hc⟩
 ·rw [h'] at hvl
  simp at hvl
  omega
 ·have hvk : vs[k]? = some (vs[k]'(by omega)) := List.getElem?_eq_getElem (by omega)
  have hrd := hl.at (List.getElem?_eq_getElem hk) hvk
  obtain ⟨tx, ux, he⟩ := hrd.iface
  rw [he] at hrd
  exact ⟨g, o, tx, ux, by rw [e1, hA], (hBg.cell _).trans (hc k _ (by rw [hvk, he])), hrd⟩
theorem wpairs_at : ∀ (ks : List Tx) (vs : List Value) (k : Nat) (h1 : k < ks.length) (h2 : k < vs.length), (pairs ks vs)[2 * k]? = some (txV ks[k]) ∧ (pairs ks vs)[2 * k + 1]? = some vs[k]
 | [], vs, k, h1, h2 => by simp at h1
 | y :: ks, [], k, h1, h2 => by simp at h2
 | y :: ks, v :: vs, 0, h1, h2 => ⟨rfl, rfl⟩
 | y :: ks, v :: vs, k + 1, h1, h2 => by
  have ih := wpairs_at ks vs k (by simpa using h1) (by simpa using h2)
  have e1 : 2 * (k + 1) = 2 * k + 1 + 1 := by omega
  have e2 : 2 * (k + 1) + 1 = 2 * k + 1 + 1 + 1 := by omega
  rw [e1]
  simp only [pairs, List.getElem?_cons_succ, List.getElem_cons_succ]
  exact ih
theorem wrow2_at {w : World} {e : TypeId} {X : Option Addr} {xc k : Nat} {ks : List Tx} {vs : List Value} {l : List Tr} (hrow : Row2 (fun _ => True) w e (.slice X l.length xc) l.length (pairs ks vs)) (hl : TdL (fun _ => True) w l vs) (hkl : ks.length = l.length) (hk : k < l.length) :
  ∃ g o tx ux, X = some ⟨g, o, none⟩ ∧ w.cell? ⟨g, o + k * 2, none⟩ = some (.string ⟨(ks[k]'(by omega)).toArray⟩) ∧ w.cell? ⟨g, o + k * 2 + 1, none⟩ = some (.iface tx ux) ∧ TdT (fun _ => True) w l[k] (.iface tx ux) := by
 obtain ⟨A', c', e', hlen, h'⟩ := hrow
 injection e' with e1 e2 e3
 have hvl := hl.len
 rcases h' with h' | ⟨g, o, cur, hA, _, hBg, hc⟩
 ·omega
 ·have hvk : vs[k]? = some (vs[k]'(by omega)) := List.getElem?_eq_getElem (by omega)
  have hrd := hl.at (List.getElem?_eq_getElem hk) hvk
  obtain ⟨tx, ux, he⟩ := hrd.iface
  obtain ⟨q1, q2⟩ := wpairs_at ks vs k (by omega) (by omega)
  rw [he] at hrd q2
  refine ⟨g, o, tx, ux, by rw [e1, hA], ?_, ?_, hrd⟩
  ·rw [show k * 2 = 2 * k by omega]
   exact (hBg.cell _).trans (hc _ _ q1)
  ·rw [show o + k * 2 + 1 = o + (2 * k + 1) by omega]
   exact (hBg.cell _).trans (hc _ _ q2)
theorem wda_below {w w' : World} {t : Tr} {v : Value} (h : TdT (fun _ => True) w t v) (hb : Below w.heap.size w w') : TdT (fun _ => True) w' t v := TdT.move (fun j hj hs => ⟨trivial, hb.block j hj⟩) _ _ h
theorem wrow_len {w : World} {e : TypeId} {v : Value} {vs : List Value} {n : Nat} (h : Row (fun _ => True) w e v vs) (hn : vs.length = n) : ∃ X c, v = .slice X n c := by
 obtain ⟨A, c, hv, _⟩ := h
 exact ⟨A, c, by rw [hv, hn]⟩
theorem equal_list (l : List Tr) (v r : Value) (w : World) (ht : TdT (fun _ => True) w (.list l) v) (hr : RdT (fun _ => True) w (.list l) r) (hn : l.length ≤ 1048576)
  (ih : ∀ x, x ∈ l → ∀ u y W, TdT (fun _ => True) W x u → RdT (fun _ => True) W x y → Calls Tryz.prog 24 #[u, .agg #[y]] W (EqP W)) : Calls Tryz.prog 24 #[v, .agg #[r]] w (EqP w) := by
 obtain ⟨T, U, f, hx, hm, hc, hf, _⟩ := told_facts ht
 have hs := sort_form _ _ _ _ hr
 obtain ⟨tx, ux, rfl⟩ := hr.iface
 have HR := Lib.hid hr
 unfold TdT at ht
 obtain ⟨u, vs, hv, hrow, htl⟩ := ht
 rw [hx] at hv
 subst hx
 obtain ⟨X, xc, rfl⟩ := wrow_len hrow htl.len
 injection hv with e1 e2
 subst e1 e2
 have HT := Lib.hid (And.intro hrow htl)
 have HIH0 := Lib.hid ih
 refine eq_from _ _ f _ _ _ hm hc hf hs _ w ?_
 intro w2 hbk hbw z2 z5 z6 z7 z8 z9 z10 z11 z12 z13 z14 z15 z16 z17 z18 z19 z20 z21 z22 z23 z24 z25 z26 z27 z28 z29 z30 z31 z32 z33 z34 z35 z36 z37 z38 z39 z40 z41 z42 z43 z44 z45 z46 z47 z48 z49 z50 z51 z52 z53 z54 z55 z56 z57 z58 z59 z60 z61 z62 z63 z64 z65 z66 z67 z68 z69 z70 z71 z72 z73 z74 z75 z76 z77 z78 z79 z80 z81 z82 z83 z84 z85 z86 z87 z88 z89 z90 z91 z92 z93 z94 z95 z96 z97 z98 z99 z100 z101 z102 z103 z104 z105 z106 z107 z108 z109 z110 z111 z112 z113 z114 z115 z116 z117 z118 z119 z120 z121 z122 z123 z124 z125 z126 z127 z128 z129 z130 z131 z132 z133 z134 z135 z136
 have HK := Lib.hid (And.intro hbk hbw)
 have c0 : w2.cell? ⟨w.heap.size, 0, none⟩ = some (.iface tx ux) := hbk.cell 0
 have HLN : Hid (∀ W, Below w.heap.size w W → Calls Tryz.prog 53 #[.agg #[.iface tx ux]] W (IntP (l.length : Nat) W)) := Lib.hid fun W hb => len_any (fun _ => True) (.list l) _ W (rda_below hr hb)
 have e1 : ((l.length : Int) != (l.length : Int)) = false := by simp
 have q1 := eqv_4_1 X l.length xc
 have q2 := eqv_4_2 X l.length xc
 have q3 := eqv_4_3 X l.length xc
 have q4 := eqv_4_4 X l.length xc
 clear hm hc hf hs hbk hbw hr ih hrow htl
 conv => arg 2; whnf
 go_wp2_with fail
 ((with_reducible refine (HLN.out _ HK.out.2).mono ?_); rintro e w3 ⟨rfl, hb3⟩)
 have HB3 := Lib.hid (And.intro (HK.out.1.below hb3 HK.out.1.lt) (HK.out.2.trans (hb3.mono HK.out.2.size)))
 clear hb3 c0 HK
 go_wp2_with fail
 go_loopw [85] (fun c85 wr => ∃ k : Nat, k ≤ l.length ∧ c85 = .int .i64 k ∧ Hid (Blk wr w.heap.size 68 #[.iface tx ux] ∧ Below w.heap.size w wr)) (fun c85 _ => l.length - (intOf c85).toNat)
 case atStart => exact ⟨0, Nat.zero_le _, rfl, HB3⟩
 case round =>
  obtain ⟨k, hk, rfl, HI⟩ := hrel
  by_cases hlt : k < l.length
  ·obtain ⟨g1, o1, T1, U1, rfl, hc0, htd⟩ := wrow_at HT.out.1 HT.out.2 hlt
   have c0 : wr.cell? ⟨w.heap.size, 0, none⟩ = some (.iface tx ux) := HI.out.1.cell 0
   have HAT : Hid (Calls Tryz.prog 54 #[.agg #[.iface tx ux], .int .i64 k] wr (OnP w (some l[k]) wr)) := Lib.hid (at_any (.list l) (.iface tx ux) k hlt hn w wr HR.out HI.out.2)
   have HIH := Lib.hid (fun y W (a : TdT (fun _ => True) W l[k] (.iface T1 U1)) (b : RdT (fun _ => True) W l[k] y) => HIH0.out _ (List.getElem_mem hlt) _ y W a b)
   have HTD := Lib.hid (And.intro hc0 htd)
   generalize l[k] = u at *
   have hk1 : (k : Int) < (l.length : Int) := by omega
   have hk2 : (0 : Int) ≤ (k : Int) := by omega
   clear hc0 htd
   go_wp2_with fail
   ((with_reducible refine HAT.out.mono ?_); rintro e w4 ⟨⟨ty, uy, rfl, hry⟩, hb4⟩)
   have hbw4 := HI.out.2.trans (hb4.mono HI.out.2.size)
   have hb5 : Below w.heap.size w (w4.alloc (.cells #[.iface ty uy] 68)) := hbw4.alloc hbw4.size _
   have cx : (w4.alloc (.cells #[.iface ty uy] 68)).cell? ⟨g1, o1 + k, none⟩ = some (.iface T1 U1) := (hb5.cell (p := ⟨g1, o1 + k, none⟩) (World.block_lt_of_cell? w _ HTD.out.1)).trans HTD.out.1
   have cy : (w4.alloc (.cells #[.iface ty uy] 68)).cell? ⟨w4.heap.size, 0, none⟩ = some (.iface ty uy) := (Blk.new w4 68 #[.iface ty uy]).cell 0
   have HB5 := Lib.hid (And.intro ((HI.out.1.below hb4 HI.out.1.lt).alloc (.cells #[.iface ty uy] 68)) hb5)
   have HIY : Hid (∀ W, Below (w4.alloc (.cells #[.iface ty uy] 68)).heap.size (w4.alloc (.cells #[.iface ty uy] 68)) W → Calls Tryz.prog 24 #[.iface T1 U1, .agg #[.iface ty uy]] W (EqP W)) := Lib.hid fun W hb => HIH.out _ W (wda_below HTD.out.2 (hb5.trans (hb.mono hb5.size))) (rda_below hry (hb5.trans (hb.mono hb5.size)))
   clear hry hb4 hbw4 hb5 HAT c0
   go_upto_region 24 with fail
   generalize (w4.alloc (.cells #[.iface ty uy] 68)) = w5 at *
   go_region_held_law (fun w' => w'.cell? ⟨g1, o1 + k, none⟩ = some (.iface T1 U1) ∧ w'.cell? ⟨w4.heap.size, 0, none⟩ = some (.iface ty uy) ∧ Below w5.heap.size w5 w') (first | exact ⟨cx, cy, below_drew1 w5⟩ | (have hSw := ‹World.cell? _ ⟨g1, o1 + k, none⟩ = some (Value.iface T1 U1) ∧ World.cell? _ ⟨w4.heap.size, 0, none⟩ = some (Value.iface ty uy) ∧ Below w5.heap.size w5 _›; exact ⟨((old hb2).1 _ _ (World.block_lt_of_cell? _ _ hSw.1)).trans hSw.1, ((old hb2).1 _ _ (World.block_lt_of_cell? _ _ hSw.2.1)).trans hSw.2.1, hSw.2.2.trans (hb2.mono hSw.2.2.size)⟩) | go_keep)
    (first | (go_simp; go_at_call 24; ((with_reducible refine (HIY.out _ (‹World.cell? _ ⟨g1, o1 + k, none⟩ = some (Value.iface T1 U1) ∧ World.cell? _ ⟨w4.heap.size, 0, none⟩ = some (Value.iface ty uy) ∧ Below w5.heap.size w5 _›).2.2).mono ?_); rintro e w6 ⟨rfl, hb2⟩; dsimp only)))
   have HSW := Lib.hid ‹World.cell? _ ⟨g1, o1 + k, none⟩ = some (Value.iface T1 U1) ∧ World.cell? _ ⟨w4.heap.size, 0, none⟩ = some (Value.iface ty uy) ∧ Below w5.heap.size w5 _›
   have HB7 := Lib.hid (And.intro (HB5.out.1.below HSW.out.2.2 HB5.out.1.lt) (HB5.out.2.trans (HSW.out.2.2.mono HB5.out.2.size)))
   clear cx cy
   go_wp2
   go_roundw
   case rel => exact ⟨k + 1, by omega, by go_num, HB7⟩
   case measure => simp [intOf]; omega
  ·have hkn : k = l.length := by omega
   subst hkn
   go_wp2
   go_ret
   exact ⟨rfl, HI.out.2⟩
theorem onT_key {ks : List Tx} {l : List Tr} (hd : ks.Nodup) {k : Nat} (h1 : k < ks.length) (h2 : k < l.length) : onT ks[k] (.obj ks l) = some l[k] := by
 rw [onT_obj, if_pos (List.getElem_mem h1), idxOf_at ks hd k h1]
 exact List.getElem?_eq_getElem h2
theorem wrow2_len {w : World} {e : TypeId} {v : Value} {vs : List Value} {n : Nat} (h : Row2 (fun _ => True) w e v n vs) : ∃ X c, v = .slice X n c := by
 obtain ⟨A, c, hv, _⟩ := h
 exact ⟨A, c, hv⟩
theorem equal_obj (ks : List Tx) (l : List Tr) (v r : Value) (w : World) (ht : TdT (fun _ => True) w (.obj ks l) v) (hr : RdT (fun _ => True) w (.obj ks l) r) (ho : (Tr.obj ks l).Ok) (hfit : (Tr.obj ks l).fit = true)
  (ih : ∀ x, x ∈ l → ∀ u y W, TdT (fun _ => True) W x u → RdT (fun _ => True) W x y → Calls Tryz.prog 24 #[u, .agg #[y]] W (EqP W)) : Calls Tryz.prog 24 #[v, .agg #[r]] w (EqP w) := by
 have hn : l.length ≤ 1048576 := by have := kids_le hfit; show l.length ≤ _; have e : (Tr.obj ks l).kids = l := rfl; rw [e] at this; omega
 have hoo := ho
 unfold Tr.Ok at hoo
 obtain ⟨hkl, hrise, hall, _⟩ := hoo
 have hnd := rise_nodup hrise
 have HKL := Lib.hid hkl
 have HO := Lib.hid (And.intro ho hfit)
 have HND := Lib.hid hnd
 have HLK := Lib.hid (lens_key hfit)
 have HAL := Lib.hid hall
 obtain ⟨T, U, f, hx, hm, hc, hf, _⟩ := told_facts ht
 have hs := sort_form _ _ _ _ hr
 obtain ⟨tx, ux, rfl⟩ := hr.iface
 have HR := Lib.hid hr
 unfold TdT at ht
 obtain ⟨u, vs, hv, _, hrow, htl⟩ := ht
 rw [hx] at hv
 subst hx
 obtain ⟨X, xc, rfl⟩ := wrow2_len hrow
 injection hv with e1 e2
 subst e1 e2
 have HT := Lib.hid (And.intro hrow htl)
 have HIH0 := Lib.hid ih
 refine eq_from _ _ f _ _ _ hm hc hf hs _ w ?_
 intro w2 hbk hbw z2 z5 z6 z7 z8 z9 z10 z11 z12 z13 z14 z15 z16 z17 z18 z19 z20 z21 z22 z23 z24 z25 z26 z27 z28 z29 z30 z31 z32 z33 z34 z35 z36 z37 z38 z39 z40 z41 z42 z43 z44 z45 z46 z47 z48 z49 z50 z51 z52 z53 z54 z55 z56 z57 z58 z59 z60 z61 z62 z63 z64 z65 z66 z67 z68 z69 z70 z71 z72 z73 z74 z75 z76 z77 z78 z79 z80 z81 z82 z83 z84 z85 z86 z87 z88 z89 z90 z91 z92 z93 z94 z95 z96 z97 z98 z99 z100 z101 z102 z103 z104 z105 z106 z107 z108 z109 z110 z111 z112 z113 z114 z115 z116 z117 z118 z119 z120 z121 z122 z123 z124 z125 z126 z127 z128 z129 z130 z131 z132 z133 z134 z135 z136
 have HK := Lib.hid (And.intro hbk hbw)
 have c0 : w2.cell? ⟨w.heap.size, 0, none⟩ = some (.iface tx ux) := hbk.cell 0
 have HLN : Hid (∀ W, Below w.heap.size w W → Calls Tryz.prog 53 #[.agg #[.iface tx ux]] W (IntP (l.length : Nat) W)) := Lib.hid fun W hb => len_any (fun _ => True) (.obj ks l) _ W (rda_below hr hb)
 have e1 : ((l.length : Int) != (l.length : Int)) = false := by simp
 have q1 := eqv_5_1 X l.length xc
 have q2 := eqv_5_2 X l.length xc
 have q3 := eqv_5_3 X l.length xc
 have q4 := eqv_5_4 X l.length xc
 have q5 := eqv_5_5 X l.length xc
 clear hm hc hf hs hbk hbw hr ih hrow htl ho hfit hkl hrise hall hnd
 conv => arg 2; whnf
 go_wp2_with fail
 ((with_reducible refine (HLN.out _ HK.out.2).mono ?_); rintro e w3 ⟨rfl, hb3⟩)
 have HB3 := Lib.hid (And.intro (HK.out.1.below hb3 HK.out.1.lt) (HK.out.2.trans (hb3.mono HK.out.2.size)))
 clear hb3 c0 HK
 go_wp2_with fail
 go_loopw [116] (fun c116 wr => ∃ k : Nat, k ≤ l.length ∧ c116 = .int .i64 k ∧ Hid (Blk wr w.heap.size 68 #[.iface tx ux] ∧ Below w.heap.size w wr)) (fun c116 _ => l.length - (intOf c116).toNat)
 case atStart => exact ⟨0, Nat.zero_le _, rfl, HB3⟩
 case round =>
  obtain ⟨k, hk, rfl, HI⟩ := hrel
  by_cases hlt : k < l.length
  ·have hkk : k < ks.length := by have := HKL.out; omega
   obtain ⟨g1, o1, T1, U1, rfl, hk0, hc0, htd⟩ := wrow2_at HT.out.1 HT.out.2 HKL.out hlt
   have HIH := Lib.hid (fun y W (a : TdT (fun _ => True) W l[k] (.iface T1 U1)) (b : RdT (fun _ => True) W l[k] y) => HIH0.out _ (List.getElem_mem hlt) _ y W a b)
   have hon := onT_key HND.out hkk hlt
   have hrt : rightB ks[k] = true := List.all_eq_true.1 HAL.out _ (List.getElem_mem hkk)
   have hlk : ks[k].length ≤ 1099511627776 := HLK.out _ (List.getElem_mem hkk)
   obtain ⟨kt, hkt⟩ : ∃ t, ks[k] = t := ⟨_, rfl⟩
   rw [hkt] at hk0 hon hrt hlk
   have HFN : Hid (∀ W, Below w.heap.size w W → Calls Tryz.prog 55 #[.agg #[.iface tx ux], .string ⟨kt.toArray⟩] W (OnP w (some l[k]) W)) := Lib.hid fun W hb => by
    have := find_any ks l (.iface tx ux) kt w W HR.out hb HO.out.1 HO.out.2 hrt (by omega)
    rw [hon] at this
    exact this
   have HTD := Lib.hid (And.intro hc0 htd)
   have k0r := (HI.out.2.cell (p := ⟨g1, o1 + k * 2, none⟩) (World.block_lt_of_cell? w _ hk0)).trans hk0
   have c0r := (HI.out.2.cell (p := ⟨g1, o1 + k * 2 + 1, none⟩) (World.block_lt_of_cell? w _ hc0)).trans hc0
   generalize l[k] = u at *
   have hk1 : (k : Int) < (l.length : Int) := by omega
   have hk2 : (0 : Int) ≤ (k : Int) := by omega
   have hbm : Below wr.heap.size wr (wr.alloc (.cells #[.string ⟨kt.toArray⟩, .iface T1 U1] 116)) := (Below.refl _ _).alloc (Nat.le_refl _) _
   have hBM := Blk.new wr 116 #[.string ⟨kt.toArray⟩, .iface T1 U1]
   have m0 : (wr.alloc (.cells #[.string ⟨kt.toArray⟩, .iface T1 U1] 116)).cell? ⟨wr.heap.size, 0, none⟩ = some (.string ⟨kt.toArray⟩) := hBM.cell 0
   have m1 : (wr.alloc (.cells #[.string ⟨kt.toArray⟩, .iface T1 U1] 116)).cell? ⟨wr.heap.size, 1, none⟩ = some (.iface T1 U1) := hBM.cell 1
   have hbi := HI.out.1.alloc (.cells #[.string ⟨kt.toArray⟩, .iface T1 U1] 116)
   have i0 : (wr.alloc (.cells #[.string ⟨kt.toArray⟩, .iface T1 U1] 116)).cell? ⟨w.heap.size, 0, none⟩ = some (.iface tx ux) := hbi.cell 0
   have HBM := Lib.hid (And.intro hBM (And.intro hbi (HI.out.2.trans (hbm.mono HI.out.2.size))))
   clear hc0 htd hk0 hon hkt hrt hbm hBM hbi
   go_wp2_with fail
   generalize (wr.alloc (.cells #[.string ⟨kt.toArray⟩, .iface T1 U1] 116)) = wm at *
   ((with_reducible refine (HFN.out _ HBM.out.2.2).mono ?_); rintro e w4 ⟨⟨ty, uy, rfl, hry⟩, hb4⟩)
   have hbw4 := HBM.out.2.2.trans (hb4.mono HBM.out.2.2.size)
   have hb5 : Below w.heap.size w (w4.alloc (.cells #[.iface ty uy] 68)) := hbw4.alloc hbw4.size _
   have hBM5 := (HBM.out.1.below hb4 HBM.out.1.lt).alloc (.cells #[.iface ty uy] 68)
   have cx : (w4.alloc (.cells #[.iface ty uy] 68)).cell? ⟨wr.heap.size, 1, none⟩ = some (.iface T1 U1) := hBM5.cell 1
   have cy : (w4.alloc (.cells #[.iface ty uy] 68)).cell? ⟨w4.heap.size, 0, none⟩ = some (.iface ty uy) := (Blk.new w4 68 #[.iface ty uy]).cell 0
   have HB5 := Lib.hid (And.intro ((HBM.out.2.1.below hb4 HBM.out.2.1.lt).alloc (.cells #[.iface ty uy] 68)) hb5)
   have HIY : Hid (Calls Tryz.prog 24 #[.iface T1 U1, .agg #[.iface ty uy]] (w4.alloc (.cells #[.iface ty uy] 68)) (EqP (w4.alloc (.cells #[.iface ty uy] 68)))) := Lib.hid (HIH.out _ _ (wda_below HTD.out.2 hb5) (rda_below hry hb5))
   clear hry hb4 hbw4 hb5 hBM5 HFN m0 m1 i0 k0r c0r
   go_upto_region 35 with fail
   generalize (w4.alloc (.cells #[.iface ty uy] 68)) = w5 at *
   go_wp2_with fail
   ((with_reducible refine HIY.out.mono ?_); rintro e w6 ⟨rfl, hb6⟩)
   have HB7 := Lib.hid (And.intro (HB5.out.1.below hb6 HB5.out.1.lt) (HB5.out.2.trans (hb6.mono HB5.out.2.size)))
   clear cx cy hb6
   go_wp2
   go_roundw
   case rel => exact ⟨k + 1, by omega, by go_num, HB7⟩
   case measure => simp [intOf]; omega
  ·have hkn : k = l.length := by omega
   subst hkn
   go_wp2
   go_ret
   exact ⟨rfl, HI.out.2⟩
theorem equal_any : ∀ t : Tr, t.Ok → t.fit = true → ∀ v r w, TdT (fun _ => True) w t v → RdT (fun _ => True) w t r → Calls Tryz.prog 24 #[v, .agg #[r]] w (EqP w) := by
 intro t
 induction t using Tr.ind with
 | h0 => exact fun _ _ v r w ht hr => equal_null _ v r w ht hr
 | h1 b => exact fun _ _ v r w ht hr => equal_flag b _ v r w ht hr
 | h2 x =>
  intro ho _ v r w ht hr
  unfold Tr.Ok at ho
  exact equal_num x ho.1 _ v r w ht hr
 | h3 s => exact fun _ _ v r w ht hr => equal_text s _ v r w ht hr
 | h4 l ih =>
  intro ho hf v r w ht hr
  have hk := kids_le hf
  have e : (Tr.list l).kids = l := rfl
  rw [e] at hk
  unfold Tr.Ok at ho
  exact equal_list l v r w ht hr (by omega) fun x hx u y W h1 h2 => ih x hx ((okl_iff l).1 ho x hx).1 ((okl_iff l).1 ho x hx).2 u y W h1 h2
 | h5 ks l ih =>
  intro ho hf v r w ht hr
  have ho' := ho
  unfold Tr.Ok at ho'
  exact equal_obj ks l v r w ht hr ho hf fun x hx u y W h1 h2 => ih x hx ((okl_iff l).1 ho'.2.2.2 x hx).1 ((okl_iff l).1 ho'.2.2.2 x hx).2 u y W h1 h2
end Nd
end Go.Proofs.YtlailcmhpnnidaaGreatDoor
