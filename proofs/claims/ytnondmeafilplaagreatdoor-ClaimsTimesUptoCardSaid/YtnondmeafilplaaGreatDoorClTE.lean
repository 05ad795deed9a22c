/-
  The statement ClaimsTimes of layer 25: its walk, Early (printed by wip/gen_clt.py).
-/
import Derived.Test.YtnondmeafilplaaGreatDoorClTD
namespace Go.Proofs.YtnondmeafilplaaGreatDoor
open Go.RowKit Mem Utf Ref3 Tok Cl
set_option linter.unusedVariables false

noncomputable def tmTail2 : Code := nextOf (nextOf (nextOf (nextOf (nextOf (nextOf (nextOf (nextOf (nextOf (nextOf (nextOf (Tryz.f7.body.getD .skip)))))))))))

theorem early_neq (n : Int) (W : World) : (binOp .neq 71 (.agg #[.int .i64 n]) (.agg #[.int .i64 n])).run Tryz.prog W = .ok (.bool false) W := by
  simp [go_sem]
set_option maxRecDepth 100000 in
set_option maxHeartbeats 8000000 in
theorem tm_tail2 (c : C) (r : R) (x : Int) (A1 A2 A3 B1 B2 B3 : Option Addr) (k1 k2 k3 j1 j2 j3 g : Nat) (v y : Value) (pt : Int) (ok : Bool) (w wr : World)
    (h : ClAt w c (.slice A1 c.has.length k1) (.slice A2 c.for_.length k2) (.slice A3 c.may_.length k3)) (hr : RuAt w r (.slice B1 r.by_.length j1) (.slice B2 r.need.length j2) (.slice B3 r.may_.length j3))
    (hv : VFacts v (judgeP c r)) (hy : VFacts y (judgeP c { r with now := x })) (HY : Hid (VForm y (judgeP c { r with now := x }))) (HCH : Hid (changeP c r = (pt, ok))) (HOK : Hid (TimesOk c r x)) (HB : Hid (0 ≤ r.now ∧ r.now ≤ x ∧ x ≤ 9007199254740991 ∧ 0 ≤ r.slack ∧ r.slack ≤ 9007199254740991))
    (hs : TSt w #[(.slice A1 c.has.length k1), .string ⟨c.about.toArray⟩, .int .i64 c.at_, .string ⟨c.by_.toArray⟩, (.slice A2 c.for_.length k2), .int .i64 c.from_, .string ⟨c.id_.toArray⟩, (.slice A3 c.may_.length k3), .int .i64 c.until_] #[.int .i64 r.now, .int .i64 r.slack, .string ⟨r.who.toArray⟩, (.slice B1 r.by_.length j1), (.slice B2 r.need.length j2), (.slice B3 r.may_.length j3)] #[.int .i64 x, .int .i64 r.slack, .string ⟨r.who.toArray⟩, (.slice B1 r.by_.length j1), (.slice B2 r.need.length j2), (.slice B3 r.may_.length j3)] g wr) (z0 z1 z2 z5 z6 z12 z13 z14 z15 z16 z17 z18 z19 z20 z21 z22 z23 z24 z25 z26 z27 z28 z29 z30 z31 z32 z33 z34 z35 z36 z37 z38 z39 z40 z41 z42 z43 z44 z45 z46 z47 z48 z49 z50 z51 z52 z53 z54 z55 z56 z57 z58 z59 z60 z61 z62 z63 z64 z65 z66 z67 z68 z69 z70 z71 z72 z73 z74 z75 z76 z77 z78 z79 z80 z81 z82 z83 z84 z85 z86 z87 z88 z89 z90 z91 z92 z93 z94 z95 z96 z97 z98 z99 z100 z101 z102 z103 z104 z105 z106 z107 z108 z109 z110 z111 z112 z113 z114 z115 z116 z117 z118 z119 z120 z121 z122 z123 z124 z125 z126 z127 z128 z129 z130 z131 z132 z133 z134 z135 z136 z137 z138 z139 z140 z141 z142 z143 z144 z145 z146 z147 z148 z149 z150 z151 z152 z153 z154 z155 z156 z157 z158 z159 z160 z161 z162 z163 z164 z165 z166 z167 z168 : Value) :
    Code.wp Tryz.prog tmTail2 (bodyPost Tryz.prog Tryz.f7 (fun e w' => e = .returned (.bool true) ∧ Below w.heap.size w w')) { tmps := (z0 :: z1 :: z2 :: .pointer (some ⟨w.heap.size, 0, none⟩) :: .pointer (some ⟨w.heap.size + 1, 0, none⟩) :: z5 :: z6 :: v :: .int .i64 pt :: .bool ok :: .pointer (some ⟨g, 0, none⟩) :: y :: z12 :: z13 :: z14 :: z15 :: z16 :: z17 :: z18 :: z19 :: z20 :: z21 :: z22 :: z23 :: z24 :: z25 :: z26 :: z27 :: z28 :: z29 :: z30 :: z31 :: z32 :: z33 :: z34 :: z35 :: z36 :: z37 :: z38 :: z39 :: z40 :: z41 :: z42 :: z43 :: z44 :: z45 :: z46 :: z47 :: z48 :: z49 :: z50 :: z51 :: z52 :: z53 :: z54 :: z55 :: z56 :: z57 :: z58 :: z59 :: z60 :: z61 :: z62 :: z63 :: z64 :: z65 :: z66 :: z67 :: z68 :: z69 :: z70 :: z71 :: z72 :: z73 :: z74 :: z75 :: z76 :: z77 :: z78 :: z79 :: z80 :: z81 :: z82 :: z83 :: z84 :: z85 :: z86 :: z87 :: z88 :: z89 :: z90 :: z91 :: z92 :: z93 :: z94 :: z95 :: z96 :: z97 :: z98 :: z99 :: z100 :: z101 :: z102 :: z103 :: z104 :: z105 :: z106 :: z107 :: z108 :: z109 :: z110 :: z111 :: z112 :: z113 :: z114 :: z115 :: z116 :: z117 :: z118 :: z119 :: z120 :: z121 :: z122 :: z123 :: z124 :: z125 :: z126 :: z127 :: z128 :: z129 :: z130 :: z131 :: z132 :: z133 :: z134 :: z135 :: z136 :: z137 :: z138 :: z139 :: z140 :: z141 :: z142 :: z143 :: z144 :: z145 :: z146 :: z147 :: z148 :: z149 :: z150 :: z151 :: z152 :: z153 :: z154 :: z155 :: z156 :: z157 :: z158 :: z159 :: z160 :: z161 :: z162 :: z163 :: z164 :: z165 :: z166 :: z167 :: z168 :: []).toArray, defers := [] } wr := by
  have hq : ∀ (w : World) o, (w.alloc o).heap.size = w.heap.size + 1 := fun w o => by simp
  conv => arg 2; whnf
  apply wp_seq_k
  intro K9 hK9
  go_cut [] (fun wx => TSt w #[(.slice A1 c.has.length k1), .string ⟨c.about.toArray⟩, .int .i64 c.at_, .string ⟨c.by_.toArray⟩, (.slice A2 c.for_.length k2), .int .i64 c.from_, .string ⟨c.id_.toArray⟩, (.slice A3 c.may_.length k3), .int .i64 c.until_] #[.int .i64 r.now, .int .i64 r.slack, .string ⟨r.who.toArray⟩, (.slice B1 r.by_.length j1), (.slice B2 r.need.length j2), (.slice B3 r.may_.length j3)] #[.int .i64 x, .int .i64 r.slack, .string ⟨r.who.toArray⟩, (.slice B1 r.by_.length j1), (.slice B2 r.need.length j2), (.slice B3 r.may_.length j3)] g wx)
  case rest =>
    go_step
    exact tm_tail3 c r x A1 A2 A3 B1 B2 B3 k1 k2 k3 j1 j2 j3 g v y _ _ w _ h hr hv hy HY HCH HOK HB hcut _ _ _ _ _ _ _ _ _ _ _ _ _ _ _ _ _ _ _ _ _ _ _ _ _ _ _ _ _ _ _ _ _ _ _ _ _ _ _ _ _ _ _ _ _ _ _ _ _ _ _ _ _ _ _ _ _ _ _ _ _ _ _ _ _ _ _ _ _ _ _ _ _ _ _ _ _ _ _ _ _ _ _ _ _ _ _ _ _ _ _ _ _ _ _ _ _ _ _ _ _ _ _ _ _ _ _ _ _ _ _ _ _ _ _ _ _ _ _ _ _ _ _ _ _ _ _ _ _ _ _ _ _ _ _ _ _ _ _ _ _ _ _ _ _ _ _ _ _ _ _ _ _ _ _ _ _ _ _ _ _ _
  clear hr h
  by_cases hk : (judgeP c r).kind = 2
  · have hf := hv.early_yes hk
    obtain ⟨b1, b2, b3, b4, b5⟩ := HB.out
    obtain ⟨ht1, ht2⟩ := HOK.out.time
    have hea := HOK.out.early hk
    have hsa := HOK.out.same hk
    obtain ⟨tm, htm⟩ : ∃ t, (judgeP c r).time = t := ⟨_, rfl⟩
    rw [htm] at hf ht1 ht2 hea hsa
    have wr1 : IntKind.i64.wrap (x + r.slack) = x + r.slack := by rw [IntKind.wrap_i64]; omega
    have en := early_neq tm
    by_cases hk2 : (judgeP c { r with now := x }).kind = 2
    · have hg := hy.early_yes hk2
      rw [hsa hk2] at hg
      have d1 : decide (x + r.slack < tm) = true := decide_eq_true (hea.1 hk2)
      obtain ⟨f0, f1, f2, f3, f4, f5⟩ := C6 ((hs.alloc (.cells #[.int .i64 tm] 71)).alloc (.cells #[.int .i64 tm] 71)).mL
      have g0 : ((wr.alloc (.cells #[.int .i64 tm] 71)).alloc (.cells #[.int .i64 tm] 71)).cell? ⟨wr.heap.size, 0, none⟩ = some (.int .i64 tm) := ((Blk.new wr 71 #[.int .i64 tm]).alloc _).cell 0
      have g1 : ((wr.alloc (.cells #[.int .i64 tm] 71)).alloc (.cells #[.int .i64 tm] 71)).cell? ⟨wr.heap.size + 1, 0, none⟩ = some (.int .i64 tm) := by
        have := (Blk.new (wr.alloc (.cells #[.int .i64 tm] 71)) 71 #[.int .i64 tm]).cell 0
        rw [hq] at this
        exact this
      clear f2 f3 f4 f5
      clear hk hk2 htm hv hy hea hsa HB HOK
      go_wp2_with fail
      go_meet
      exact (hs.alloc _).alloc _
    · have hg := hy.early_no hk2
      have d1 : decide (x + r.slack < tm) = false := decide_eq_false (fun h => hk2 (hea.2 h))
      obtain ⟨f0, f1, f2, f3, f4, f5⟩ := C6 ((hs.alloc (.cells #[.int .i64 tm] 71)).alloc (.cells #[.int .i64 0] 71)).mL
      have g0 : ((wr.alloc (.cells #[.int .i64 tm] 71)).alloc (.cells #[.int .i64 0] 71)).cell? ⟨wr.heap.size, 0, none⟩ = some (.int .i64 tm) := ((Blk.new wr 71 #[.int .i64 tm]).alloc _).cell 0
      have g1 : ((wr.alloc (.cells #[.int .i64 tm] 71)).alloc (.cells #[.int .i64 0] 71)).cell? ⟨wr.heap.size + 1, 0, none⟩ = some (.int .i64 0) := by
        have := (Blk.new (wr.alloc (.cells #[.int .i64 tm] 71)) 71 #[.int .i64 0]).cell 0
        rw [hq] at this
        exact this
      clear f2 f3 f4 f5
      clear hk hk2 htm hv hy hea hsa HB HOK
      go_wp2_with fail
      go_meet
      exact (hs.alloc _).alloc _
  · have hf := hv.early_no hk
    clear hk hv hy HB HOK
    go_wp2_with fail
    go_meet
    exact hs.alloc _

end Go.Proofs.YtnondmeafilplaaGreatDoor
