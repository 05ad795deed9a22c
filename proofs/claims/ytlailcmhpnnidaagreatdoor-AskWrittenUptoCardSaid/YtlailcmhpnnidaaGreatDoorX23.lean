/-
  Walks of package ask: wrong, Ask; what Look tells, by its class. Layer 14's law: each want's assertion, as Go has it. Layer 14's law: does the layer do anything? (small, asked, works)
-/
import Derived.Test.YtlailcmhpnnidaaGreatDoorX21
import Derived.Test.YtlailcmhpnnidaaGreatDoorX20
import Derived.Test.YtlailcmhpnnidaaGreatDoorX10
import Derived.Test.YtlailcmhpnnidaaGreatDoorX22
set_option linter.unusedVariables false
set_option linter.unusedSimpArgs false
set_option maxRecDepth 100000
set_option maxHeartbeats 16000000
namespace Go.Proofs.YtlailcmhpnnidaaGreatDoor
open Go.RowKit Mem Utf Ref3 Idx Tok TokC
namespace Nd
theorem awrong_no (n f : Int) (h1 : 1 ≤ n) (h2 : n ≤ 11) (h3 : 1 ≤ f) (h4 : f ≤ 4) (w : World) : Calls Tryz.prog 119 #[.int .i64 n, .int .i64 f] w fun e w' => e = .returned (.bool false) ∧ w = w' := by
 have a1 : decide (n < 1) = false := by simp; omega
 have a2 : decide (11 < n) = false := by simp; omega
 have a3 : decide (f < 1) = false := by simp; omega
 have a4 : decide (4 < f) = false := by simp; omega
 go_enter Tryz.func119, Tryz.ntmps119
 go_wp2
 go_ret
 exact ⟨rfl, rfl⟩
def lookK (o : Option Tr) (l : List UInt8) : Nat :=
 match o with
 | none => 0
 | some t => match parseS (wrong l) l with
  | .error _ => 8
  | .ok ts => match leadT t ts 0 with
   | .inl _ => 7
   | .inr u => u.srt
def HasT (w0 : World) (o : Option Tr) (tp : Value) : Prop :=
 (o = none ∧ tp = .pointer none) ∨ ∃ t g v, o = some t ∧ tp = .pointer (some ⟨g, 0, none⟩) ∧ Blk w0 g 155 #[v] ∧ RdA w0 t v ∧ t.Ok ∧ t.fit = true
theorem isK_told {S : Nat → Prop} {w : World} {u : Tr} {x : Value} (h : TdT S w u x) : IsK u.srt x := by
 cases u with
 | null => unfold TdT at h; subst h; exact .inr (.inl ⟨rfl, rfl⟩)
 | flag b => unfold TdT at h; subst h; exact .inr (.inr (.inl ⟨rfl, _, rfl⟩))
 | num b => unfold TdT at h; subst h; exact .inr (.inr (.inr (.inl ⟨rfl, _, rfl⟩)))
 | text b => unfold TdT at h; subst h; exact .inr (.inr (.inr (.inr (.inl ⟨rfl, _, rfl⟩))))
 | list l => unfold TdT at h; obtain ⟨u, vs, rfl, _⟩ := h; exact .inr (.inr (.inr (.inr (.inr (.inl ⟨rfl, _, rfl⟩)))))
 | obj ks l => unfold TdT at h; obtain ⟨u, vs, rfl, _⟩ := h; exact .inr (.inr (.inr (.inr (.inr (.inr (.inl ⟨rfl, _, rfl⟩))))))
def LookKP (k : Nat) (w : World) (e : Ending) (w' : World) : Prop := (∃ v, e = .returned v ∧ IsK k v) ∧ Below w.heap.size w w'
theorem look_k (o : Option Tr) (tp : Value) (l : List UInt8) (w0 w : World) (hT : HasT w0 o tp) (hb0 : Below w0.heap.size w0 w) (hl : l.length ≤ 4194304) (hG : Glob w) (hA : Tab w) :
  Calls Tryz.prog 37 #[tp, .string ⟨l.toArray⟩] w (LookKP (lookK o l) w) := by
 rcases hT with ⟨rfl, rfl⟩ | ⟨t, g, v, rfl, rfl, hB, hr, ho, hf⟩
 ·refine (look_nil l w).mono ?_
  rintro e w' ⟨rfl, hb⟩
  exact ⟨⟨_, rfl, .inl ⟨rfl, rfl⟩⟩, hb⟩
 ·refine (plook_any g t v l w0 w hB hr hb0 ho hf hl hG hA).mono ?_
  rintro e w' ⟨h, hb⟩
  refine ⟨?_, hb⟩
  unfold lookK
  dsimp only
  cases hp : parseS (wrong l) l with
  | error x =>
   rw [hp] at h
   obtain rfl := h
   exact ⟨_, rfl, .inr (.inr (.inr (.inr (.inr (.inr (.inr (.inr ⟨rfl, rfl⟩)))))))⟩
  | ok ts =>
   rw [hp] at h
   dsimp only at h ⊢
   cases hle : leadT t ts 0 with
   | inl n =>
    rw [hle] at h
    obtain ⟨g, rfl, _⟩ := h
    exact ⟨_, rfl, .inr (.inr (.inr (.inr (.inr (.inr (.inr (.inl ⟨rfl, _, rfl⟩)))))))⟩
   | inr u =>
    rw [hle] at h
    obtain ⟨x, rfl, hx⟩ := h
    exact ⟨_, rfl, isK_told hx⟩
def hearC (k n i : Nat) : Array Value := if holdB k n = true then #[.bool true, .bool false, .int .i64 (srtK k : Nat), .bool (decide (k = 8))] else #[.bool false, .bool (decide (i = 1 ∨ i = 3)), .int .i64 0, .bool false]
theorem hearV_C (k n i : Nat) : hearV k n i = .agg (hearC k n i) := by
 unfold hearV hearC
 split <;> rfl
theorem hearC_form (k n i : Nat) : ∃ (b1 b2 : Bool) (s : Int) (b3 : Bool), hearC k n i = #[.bool b1, .bool b2, .int .i64 s, .bool b3] := by
 unfold hearC
 split
 ·exact ⟨_, _, _, _, rfl⟩
 ·exact ⟨_, _, _, _, rfl⟩
def AskP (k n i : Nat) (w : World) (e : Ending) (w' : World) : Prop := e = .returned (.tuple #[.agg (hearC k n i), .nilIface]) ∧ Below w.heap.size w w'
theorem ask_any (o : Option Tr) (tp : Value) (l : List UInt8) (n i : Nat) (f : Int) (w0 w : World) (hT : HasT w0 o tp) (hb0 : Below w0.heap.size w0 w) (hl : l.length ≤ 4194304) (hG : Glob w) (hA : Tab w) (hn : 1 ≤ n ∧ n ≤ 11) (hi : i < 4) (hf : f = ((i + 1 : Nat) : Int)) :
  Calls Tryz.prog 74 #[tp, .string ⟨l.toArray⟩, .int .i64 (n : Nat), .int .i64 f] w (AskP (lookK o l) n i w) := by
 obtain ⟨q, htp⟩ : ∃ q, tp = .pointer q := by
  rcases hT with ⟨_, h⟩ | ⟨_, _, _, _, h, _⟩ <;> exact ⟨_, h⟩
 subst htp
 have hw : IntKind.i64.wrap (f - 1) = (i : Int) := by
  have e : f - 1 = (i : Int) := by omega
  rw [e]
  exact IntWalk.i64_in _ (by omega)
 have hx : Below w.heap.size w (w.alloc (.cells #[.bool false, .bool false, .int .i64 0, .bool false] 99)) := (Below.refl _ _).alloc (Nat.le_refl _) _
 have HBN := Lib.hid ((Blk.new w 99 #[.bool false, .bool false, .int .i64 0, .bool false]))
 have HWR := Lib.hid (awrong_no (n : Int) f (by omega) (by omega) (by omega) (by omega))
 have HLK := Lib.hid (look_k o (.pointer q) l w0 _ hT (hb0.trans (hx.mono hb0.size)) hl (hG.next hx) (hA.next hx))
 have HHR := Lib.hid (fun (v : Value) (w : World) (h : IsK (lookK o l) v) => hear_any f w h hn hi hw)
 have HX := Lib.hid hx
 obtain ⟨b1, b2, s, b3, hC⟩ := hearC_form (lookK o l) n i
 have HC := Lib.hid hC
 clear hT hb0 hl hG hA hn hi hf hw hx hC
 generalize lookK o l = k at *
 go_enter Tryz.func74, Tryz.ntmps74
 go_wp2_with fail
 ((with_reducible refine (HWR.out _).mono ?_); rintro e w1 ⟨rfl, rfl⟩)
 go_wp2_with fail
 (refine HLK.out.mono ?_; rintro e w1 ⟨⟨v, rfl, hv⟩, hb1⟩)
 have HB1 := Lib.hid (HX.out.trans (hb1.mono HX.out.size))
 have HBN1 := Lib.hid (HBN.out.below hb1 HBN.out.lt)
 have HV := Lib.hid hv
 rcases isK_shape hv with rfl | ⟨T, u, rfl⟩
 all_goals
  clear hb1 hv
  go_wp2_with fail
  ((with_reducible refine (HHR.out _ _ HV.out).mono ?_); rintro e w2 ⟨rfl, hb2⟩)
  rw [hearV_C, HC.out]
  have hB2 := HBN1.out.below hb2 HBN1.out.lt
  have d0 := hB2.cell 0
  have d1 := hB2.cell 1
  have d2 := hB2.cell 2
  have d3 := hB2.cell 3
  have g0 := hB2.frozen 0
  have g1 := hB2.frozen 1
  have g2 := hB2.frozen 2
  have g3 := hB2.frozen 3
  simp at d0 d1 d2 d3
  have HB2 := Lib.hid (HB1.out.trans (hb2.mono HB1.out.size))
  clear hB2 hb2
  go_wp2
  refine bodyPost_ret (v := .tuple #[.agg #[.bool b1, .bool b2, .int .i64 s, .bool b3], .nilIface]) ?_ rfl ⟨?_, ?_⟩
  ·simp [results, Tryz.results74, go_sem, d0, d1, d2, d3]
  ·rw [HC.out]
  ·exact (((HB2.out.setCell (Nat.le_refl _) _).setCell (Nat.le_refl _) _).setCell (Nat.le_refl _) _).setCell (Nat.le_refl _) _
end Nd
end Go.Proofs.YtlailcmhpnnidaaGreatDoor
namespace Go.Proofs.YtlailcmhpnnidaaGreatDoor
open Go.RowKit Mem
namespace Nd
end Nd
end Go.Proofs.YtlailcmhpnnidaaGreatDoor
namespace Go.Proofs.YtlailcmhpnnidaaGreatDoor
open Go.RowKit Mem Utf Ref3 Idx Tok TokC
namespace Nd
def smallSs : List Stp := [⟨3, false, 4607182418800017408, [], 0, []⟩, ⟨1, false, 0, [], 0, []⟩, ⟨5, false, 0, [], 2, []⟩, ⟨4, false, 0, [120], 0, []⟩, ⟨6, false, 0, [], 0, [[97], [98]]⟩]
def smallT : Tr := .obj [[97], [98]] [.list [.num 4607182418800017408, .null], .text [120]]
theorem small_rise : Rise [[97], [98]] := by
 unfold Rise
 rw [List.pairwise_cons]
 exact ⟨fun a h => by rw [List.mem_singleton.1 h]; decide, List.pairwise_singleton _ _⟩
theorem small_obj : objT rightB [[97], [98]] [.list [.num 4607182418800017408, .null], .text [120]] = (0, [smallT]) := by
 have e : mkObj [[97], [98]] [.list [.num 4607182418800017408, .null], .text [120]] = smallT := mkObj_rise small_rise rfl
 unfold objT
 rw [if_neg (by decide), if_neg (by decide), if_neg (by decide)]
 show (if (mkObj [[97], [98]] [.list [.num 4607182418800017408, .null], .text [120]]).fit = true then _ else _) = _
 rw [e, if_pos (by decide)]
 show ([] ++ [mkObj [[97], [98]] [.list [.num 4607182418800017408, .null], .text [120]]] : List Tr) |> fun l => ((0 : Int), l) = (0, [smallT])
 rw [e]
 rfl
theorem small_build : buildT smallSs = .inr smallT := by
 unfold buildT
 rw [if_neg (by decide)]
 have e : runT [] smallSs 0 = .inr [smallT] := by
  show (if (objT rightB [[97], [98]] [.list [.num 4607182418800017408, .null], .text [120]]).1 = 0 then runT (objT rightB [[97], [98]] [.list [.num 4607182418800017408, .null], .text [120]]).2 [] 5 else .inl _) = _
  rw [small_obj]
  rfl
 rw [e]
theorem small_fine : ∀ s ∈ smallSs, s.Fine := by
 intro s hs
 simp [smallSs] at hs
 rcases hs with rfl | rfl | rfl | rfl | rfl <;> exact ⟨by decide, by decide, by simp, by decide, by decide⟩
abbrev smallCells (K : Option Addr) (q : Nat) : Array Value := #[.int .i64 3, .bool false, .int .u64 4607182418800017408, .string ⟨#[]⟩, .int .i64 0, .slice none 0 0, .int .i64 1, .bool false, .int .u64 0, .string ⟨#[]⟩, .int .i64 0, .slice none 0 0, .int .i64 5, .bool false, .int .u64 0, .string ⟨#[]⟩, .int .i64 2, .slice none 0 0, .int .i64 4, .bool false, .int .u64 0, .string ⟨#[120]⟩, .int .i64 0, .slice none 0 0, .int .i64 6, .bool false, .int .u64 0, .string ⟨#[]⟩, .int .i64 0, .slice K 2 q]
theorem small_rd (w : World) (t2 : TypeId) : RdS ((w.alloc (.cells #[.string ⟨#[97]⟩, .string ⟨#[98]⟩] 9)).alloc (.cells (smallCells (some ⟨w.heap.size, 0, none⟩) 2) t2)) (.slice (some ⟨w.heap.size + 1, 0, none⟩) 5 5) smallSs := by
 have hK := (Blk.new w 9 #[.string ⟨#[97]⟩, .string ⟨#[98]⟩]).alloc (.cells (smallCells (some ⟨w.heap.size, 0, none⟩) 2) t2)
 have hB := Blk.new (w.alloc (.cells #[.string ⟨#[97]⟩, .string ⟨#[98]⟩] 9)) t2 (smallCells (some ⟨w.heap.size, 0, none⟩) 2)
 rw [World.size_alloc] at hB
 generalize (w.alloc (.cells #[.string ⟨#[97]⟩, .string ⟨#[98]⟩] 9)).alloc (.cells (smallCells (some ⟨w.heap.size, 0, none⟩) 2) t2) = W at *
 refine ⟨_, _, rfl, .inr ⟨w.heap.size + 1, 0, rfl, fun j s hs => ?_⟩⟩
 have hk : RdK W (.slice none 0 0) [] := ⟨none, 0, rfl, .inl rfl⟩
 have hk2 : RdK W (.slice (some ⟨w.heap.size, 0, none⟩) 2 2) [[97], [98]] := ⟨_, _, rfl, .inr ⟨w.heap.size, 0, rfl, fun j t hj => by
  match j, hj with
  | 0, hj => injection hj with hj; subst hj; exact hK.cell 0
  | 1, hj => injection hj with hj; subst hj; exact hK.cell 1
  | j + 2, hj => cases hj⟩⟩
 match j, hs with
 | 0, hs =>
  injection hs with hs
  subst hs
  exact ⟨none, 0, hB.cell 0, hB.cell 1, hB.cell 2, hB.cell 3, hB.cell 4, hB.cell 5, hk, Nat.le_refl _⟩
 | 1, hs =>
  injection hs with hs
  subst hs
  exact ⟨none, 0, hB.cell 6, hB.cell 7, hB.cell 8, hB.cell 9, hB.cell 10, hB.cell 11, hk, Nat.le_refl _⟩
 | 2, hs =>
  injection hs with hs
  subst hs
  exact ⟨none, 0, hB.cell 12, hB.cell 13, hB.cell 14, hB.cell 15, hB.cell 16, hB.cell 17, hk, Nat.le_refl _⟩
 | 3, hs =>
  injection hs with hs
  subst hs
  exact ⟨none, 0, hB.cell 18, hB.cell 19, hB.cell 20, hB.cell 21, hB.cell 22, hB.cell 23, hk, Nat.le_refl _⟩
 | 4, hs =>
  injection hs with hs
  subst hs
  exact ⟨_, 2, hB.cell 24, hB.cell 25, hB.cell 26, hB.cell 27, hB.cell 28, hB.cell 29, hk2, Nat.le_refl _⟩
 | j + 5, hs => cases hs
theorem small_any (w : World) : Calls Tryz.prog 35 #[] w fun e w' => (∃ g, e = .returned (.pointer (some ⟨g, 0, none⟩)) ∧ TreeAt w.heap.size w' g smallT) ∧ Below w.heap.size w w' := by
 have q1 := err_ne_nil
 have hfb := f64bits 4607182418800017408
 have hb0 : ∀ o1 o2, Below w.heap.size w ((w.alloc o1).alloc o2) := fun o1 o2 => ((Below.refl _ _).alloc (Nat.le_refl _) _).alloc (by simp) _
 go_enter Tryz.func35, Tryz.ntmps35
 go_wp2_with fail
 ((with_reducible refine (build_all _ smallSs _ (small_rd w _) small_fine).mono ?_); rintro e w1 ⟨hb1, he⟩)
 rw [small_build] at he
 obtain ⟨g, rfl, hT⟩ := he
 have HT := Lib.hid hT
 have HB := Lib.hid ((hb0 _ _).trans (hb1.mono (hb0 _ _).size))
 have HS := Lib.hid ((hb0 (.cells #[.string ⟨#[97]⟩, .string ⟨#[98]⟩] 9) (.cells (smallCells (some ⟨w.heap.size, 0, none⟩) 2) 79)).size)
 clear hT hb1 hb0
 go_wp2
 go_ret
 obtain ⟨h1, h2, v, h3, h4⟩ := HT.out
 exact ⟨⟨g, rfl, Nat.le_trans HS.out h1, h2, v, h3, RdT.move (fun k hk hs => ⟨Nat.le_trans HS.out hs, rfl⟩) _ _ h4⟩, HB.out⟩
theorem asked_any (o : Option Tr) (tp : Value) (l : List UInt8) (n i : Nat) (f : Int) (w0 w : World) (hT : HasT w0 o tp) (hb0 : Below w0.heap.size w0 w) (hl : l.length ≤ 4194304) (hG : Glob w) (hA : Tab w) (hn : 1 ≤ n ∧ n ≤ 11) (hi : i < 4) (hf : f = ((i + 1 : Nat) : Int))
  (c0 c1 : Bool) (c2 : Int) (c3 : Bool) (hc : hearC (lookK o l) n i = #[.bool c0, .bool c1, .int .i64 c2, .bool c3]) (heq : ∀ W, (binOp .eql 99 (.agg #[.bool c0, .bool c1, .int .i64 c2, .bool c3]) (.agg #[.bool c0, .bool c1, .int .i64 c2, .bool c3])).run Tryz.prog W = .ok (.bool true) W) :
  Calls Tryz.prog 36 #[tp, .string ⟨l.toArray⟩, .int .i64 (n : Nat), .int .i64 f, .agg #[.bool c0, .bool c1, .int .i64 c2, .bool c3]] w fun e w' => e = .returned (.bool true) ∧ Below w.heap.size w w' := by
 obtain ⟨q, htp⟩ : ∃ q, tp = .pointer q := by
  rcases hT with ⟨_, h⟩ | ⟨_, _, _, _, h, _⟩ <;> exact ⟨_, h⟩
 subst htp
 have hx : Below w.heap.size w (w.alloc (.cells #[.bool c0, .bool c1, .int .i64 c2, .bool c3] 99)) := (Below.refl _ _).alloc (Nat.le_refl _) _
 have HBN := Lib.hid ((Blk.new w 99 #[.bool c0, .bool c1, .int .i64 c2, .bool c3]))
 have HLK := Lib.hid (ask_any o (.pointer q) l n i f w0 _ hT (hb0.trans (hx.mono hb0.size)) hl (hG.next hx) (hA.next hx) hn hi hf)
 have HX := Lib.hid hx
 have HC := Lib.hid hc
 clear hT hb0 hl hG hA hn hi hf hx hc
 generalize lookK o l = k at *
 go_enter Tryz.func36, Tryz.ntmps36
 go_wp2_with fail
 (refine HLK.out.mono ?_; rintro e w1 ⟨rfl, hb1⟩)
 rw [HC.out]
 have HB1 := Lib.hid (HX.out.trans (hb1.mono HX.out.size))
 have hB := HBN.out.below hb1 HBN.out.lt
 have d0 := hB.cell 0
 have d1 := hB.cell 1
 have d2 := hB.cell 2
 have d3 := hB.cell 3
 simp at d0 d1 d2 d3
 have hlt := hB.lt
 have hs1 := HB1.out.size
 clear hB hb1
 go_wp2
 go_ret
 exact ⟨rfl, HB1.out.alloc (by omega) _⟩
theorem hq1 (W : World) : (binOp .eql 99 (.agg #[.bool true, .bool false, .int .i64 5, .bool false]) (.agg #[.bool true, .bool false, .int .i64 5, .bool false])).run Tryz.prog W = .ok (.bool true) W := by kernel_rfl
theorem hq2 (W : World) : (binOp .eql 99 (.agg #[.bool false, .bool true, .int .i64 0, .bool false]) (.agg #[.bool false, .bool true, .int .i64 0, .bool false])).run Tryz.prog W = .ok (.bool true) W := by kernel_rfl
theorem hq3 (W : World) : (binOp .eql 99 (.agg #[.bool true, .bool false, .int .i64 0, .bool true]) (.agg #[.bool true, .bool false, .int .i64 0, .bool true])).run Tryz.prog W = .ok (.bool true) W := by kernel_rfl
theorem small_look : lookK (some smallT) [47, 97] = 5 ∧ lookK (some smallT) [99] = 8 := by constructor <;> rfl
theorem works_any (w : World) (hG : Glob w) (hA : Tab w) : Calls Tryz.prog 12 #[] w fun e w' => e = .returned (.bool true) ∧ Below w.heap.size w w' := by
 have HG := Lib.hid hG
 have HA := Lib.hid hA
 clear hG hA
 go_enter Tryz.func12, Tryz.ntmps12
 go_wp2_with fail
 ((with_reducible refine (small_any _).mono ?_); rintro e w1 ⟨⟨g, rfl, hT⟩, hb1⟩)
 have HT : Hid (HasT w1 (some smallT) (.pointer (some ⟨g, 0, none⟩))) := Lib.hid (by
  obtain ⟨_, hf, v, hB, hr⟩ := hT
  exact .inr ⟨smallT, g, v, rfl, rfl, hB, RdT.toA hr, (buildT_ok small_fine small_build).1, hf⟩)
 have HB1 := Lib.hid hb1
 have HG1 := Lib.hid (HG.out.next hb1)
 have HA1 := Lib.hid (HA.out.next hb1)
 clear hT hb1
 have hs1 := small_look.1
 have hs2 := small_look.2
 have H1 := Lib.hid (fun (w : World) (hb : Below w1.heap.size w1 w) (hG : Glob w) (hA : Tab w) => asked_any (some smallT) (.pointer (some ⟨g, 0, none⟩)) [47, 97] 3 0 1 w1 w HT.out hb (by decide) hG hA (by decide) (by decide) rfl true false 5 false (by rw [hs1]; rfl) hq1)
 have H2 := Lib.hid (fun (w : World) (hb : Below w1.heap.size w1 w) (hG : Glob w) (hA : Tab w) => asked_any (some smallT) (.pointer (some ⟨g, 0, none⟩)) [47, 97] 2 1 2 w1 w HT.out hb (by decide) hG hA (by decide) (by decide) rfl false true 0 false (by rw [hs1]; rfl) hq2)
 have H3 := Lib.hid (fun (w : World) (hb : Below w1.heap.size w1 w) (hG : Glob w) (hA : Tab w) => asked_any (some smallT) (.pointer (some ⟨g, 0, none⟩)) [99] 11 2 3 w1 w HT.out hb (by decide) hG hA (by decide) (by decide) rfl true false 0 true (by rw [hs2]; rfl) hq3)
 clear hs1 hs2
 go_wp2_with fail
 (refine (H1.out _ (Below.refl _ _) HG1.out HA1.out).mono ?_; rintro e w2 ⟨rfl, hb2⟩)
 have HB2 := Lib.hid hb2
 have HBW2 := Lib.hid (HB1.out.trans (hb2.mono HB1.out.size))
 clear hb2
 go_wp2_with fail
 (refine (H2.out _ HB2.out (HG1.out.next HB2.out) (HA1.out.next HB2.out)).mono ?_; rintro e w3 ⟨rfl, hb3⟩)
 have HB3 := Lib.hid (HB2.out.trans (hb3.mono HB2.out.size))
 have HBW3 := Lib.hid (HBW2.out.trans (hb3.mono HBW2.out.size))
 clear hb3
 go_wp2_with fail
 (refine (H3.out _ HB3.out (HG1.out.next HB3.out) (HA1.out.next HB3.out)).mono ?_; rintro e w4 ⟨rfl, hb4⟩)
 have HBW4 := Lib.hid (HBW3.out.trans (hb4.mono HBW3.out.size))
 clear hb4
 go_wp2
 go_ret
 exact ⟨rfl, HBW4.out⟩
end Nd
end Go.Proofs.YtlailcmhpnnidaaGreatDoor
