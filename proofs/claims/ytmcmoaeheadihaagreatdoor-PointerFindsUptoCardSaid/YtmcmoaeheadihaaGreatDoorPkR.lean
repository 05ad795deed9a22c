/-
  The law PointerFinds: its walk.
-/
import Derived.Test.YtmcmoaeheadihaaGreatDoorMF
import Derived.Test.YtmcmoaeheadihaaGreatDoorPkG
namespace Go.Proofs.YtmcmoaeheadihaaGreatDoor
open Go.RowKit Mem Utf Ref3 Idx Tok TokC
set_option linter.unusedVariables false
set_option linter.unusedSimpArgs false
namespace Nd
set_option maxRecDepth 100000 in
set_option maxHeartbeats 4000000 in
theorem pfind_nil (l : List UInt8) (w : World) : Calls Tryz.prog 14 #[.pointer none, .string ⟨l.toArray⟩] w fun e w' => e = .returned (.tuple #[.agg #[.nilIface], .iface 51 (.int .i64 1)]) ∧ Below w.heap.size w w' := by
  have hB := Blk.new w 38 #[.nilIface]
  have hba : Below w.heap.size w (w.alloc (.cells #[.nilIface] 38)) := (Below.refl _ _).alloc (Nat.le_refl _) _
  have c4 := hB.cell 0
  have f4 := hB.frozen 0
  go_enter Tryz.func14, Tryz.ntmps14
  go_wp2
  refine bodyPost_ret (v := .tuple #[.agg #[.nilIface], .iface 51 (.int .i64 1)]) ?_ rfl ⟨rfl, ?_⟩
  · simp [results, Tryz.results14, go_sem]
  · first | exact hba | exact below_put hba (Nat.le_refl _)
set_option maxRecDepth 100000 in
set_option maxHeartbeats 8000000 in
theorem finds_refused (v : Value) (l : List UInt8) (ss : List Stp) (w : World) (hS : RdS w v ss) (hF : ∀ s ∈ ss, s.Fine) (hC : ∀ s ∈ ss, s.Cnt) (hn : ss.length ≤ 1048576) (hG : Glob w) (n i : Int) (hb : buildT ss = .inl (n, i)) :
    Calls Tryz.prog 3 #[v, .string ⟨l.toArray⟩] w (TrueP w) := by
  have q1 := err_ne_nil
  have q2 := err_ne_held
  have q5 := val_eq_nil
  have q6 := val_nil_nil
  have HBT := Lib.hid hb
  have HS := Lib.hid hS
  have HF := Lib.hid (And.intro hF hC)
  have HN := Lib.hid hn
  have HG := Lib.hid hG
  clear hS hF hC hn hG hb
  go_enter Tryz.func3, Tryz.ntmps3
  go_wp2_with fail
  ((with_reducible refine (build_all v ss _ HS.out HF.out.1).mono ?_); rintro e w1 ⟨hb1, he⟩)
  rw [HBT.out] at he
  obtain ⟨T, u, hTu⟩ := sp_form n i
  dsimp only at he
  rw [hTu] at he
  obtain rfl := he
  have HB1 := Lib.hid hb1
  clear hb1 hTu
  go_wp2_with fail
  ((with_reducible refine (value_law v ss _ (HS.out.below HB1.out) HF.out.1 HF.out.2 HN.out).mono ?_); rintro e w2 ⟨hb2, he⟩)
  rw [HBT.out] at he
  obtain rfl := he
  have hb2' := HB1.out.trans (hb2.mono HB1.out.size)
  have HB2 := Lib.hid (hb2'.alloc hb2'.size (.cells #[.int .i64 0, .bool false, .int .u64 0, .string ⟨#[]⟩, .slice none 0 0, .slice none 0 0] 32))
  clear hb2 hb2'
  go_wp2_with fail
  ((with_reducible refine (pfind_nil l _).mono ?_); rintro e w3 ⟨rfl, hb3⟩)
  have hb3' := HB2.out.trans (hb3.mono HB2.out.size)
  have hB9 := Blk.new w3 38 #[.nilIface]
  have HB9 := Lib.hid hB9
  have HB3 := Lib.hid (hb3'.alloc hb3'.size (.cells #[.nilIface] 38))
  clear hb3 hb3' hB9
  go_wp2_with fail
  ((with_reducible refine (look_nil l _).mono ?_); rintro e w4 ⟨rfl, hb4⟩)
  have HB4 := Lib.hid (HB3.out.trans (hb4.mono HB3.out.size))
  have HB94 := Lib.hid (HB9.out.below hb4 HB9.out.lt)
  clear hb4
  go_wp2_with fail
  ((with_reducible refine (wakes_any _ (HG.out.next HB4.out)).mono ?_); rintro e w5 ⟨rfl, hb5⟩)
  have HB5 := Lib.hid (HB4.out.trans (hb5.mono HB4.out.size))
  have hB95 := HB94.out.below hb5 HB94.out.lt
  have c9 := hB95.cell 0
  simp at c9
  clear hb5 hB95
  go_wp2_with fail
  ((with_reducible refine (sort_nil _).mono ?_); rintro e w6 ⟨rfl, hb6⟩)
  have HB6 := Lib.hid (HB5.out.trans (hb6.mono HB5.out.size))
  clear hb6
  go_wp2_with fail
  ((with_reducible refine (number_any 1 _).mono ?_); rintro e w7 ⟨rfl, hb7⟩)
  have HB7 := Lib.hid (HB6.out.trans (hb7.mono HB6.out.size))
  clear hb7
  go_wp2_with fail
  ((with_reducible refine (fault_no 1 (-1) ⟨#[]⟩ (by decide) _).mono ?_); rintro e w8 ⟨rfl, hb8⟩)
  have HB8 := Lib.hid (HB7.out.trans (hb8.mono HB7.out.size))
  clear hb8
  go_wp2
  go_ret
  exact ⟨rfl, HB8.out⟩
set_option maxRecDepth 100000 in
set_option maxHeartbeats 8000000 in
theorem finds_bad (v : Value) (l : List UInt8) (ss : List Stp) (w : World) (hS : RdS w v ss) (hF : ∀ s ∈ ss, s.Fine) (hC : ∀ s ∈ ss, s.Cnt) (hn : ss.length ≤ 1048576) (hl : l.length ≤ 2097152) (hG : Glob w) (hT : Tab w) (t : Tr) (hb : buildT ss = .inr t) (x : Int × Int) (hp : parseS (wrong l) l = .error x) :
    Calls Tryz.prog 3 #[v, .string ⟨l.toArray⟩] w (TrueP w) := by
  have t1 := fun (v : Value) (w : World) => mt_lost 622 v w
  have t2 := mc_lost
  have t5 := ml_lost
  have hx0 : (x.1 == 0) = false := by simpa using err_num hp
  have HP := Lib.hid hp
  obtain ⟨x1, x2⟩ := x
  dsimp only at hx0
  obtain ⟨T, u, hTu⟩ := errV_form x1 x2
  have HTU := Lib.hid hTu
  have HFE := Lib.hid (fault_err x1 x2 ⟨#[]⟩)
  rw [hTu] at HFE
  clear hp hTu
  have q1 := err_ne_nil
  have q2 := err_ne_held
  have q3 := err_eq_nil
  have q4 := err_eq_held
  have q5 := val_eq_nil
  have HBT := Lib.hid hb
  have HS := Lib.hid hS
  have HF := Lib.hid (And.intro hF hC)
  have HN := Lib.hid hn
  have HL := Lib.hid hl
  have HG := Lib.hid hG
  have HT := Lib.hid hT
  clear hS hF hC hn hG hb hl hT
  go_enter Tryz.func3, Tryz.ntmps3
  go_wp2_with fail
  ((with_reducible refine (build_all v ss _ HS.out HF.out.1).mono ?_); rintro e w1 ⟨hb1, he⟩)
  rw [HBT.out] at he
  obtain ⟨g, rfl, hTA⟩ := he
  obtain ⟨_, hfit, tv, hblk, hrd0⟩ := hTA
  have HO := Lib.hid (And.intro (buildT_ok HF.out.1 HBT.out).1 hfit)
  have HB1 := Lib.hid hb1
  have HBK := Lib.hid hblk
  have HR := Lib.hid (RdT.toA hrd0)
  have HG1 := Lib.hid (HG.out.next hb1)
  have HT1 := Lib.hid (HT.out.next hb1)
  clear hb1 hfit hblk hrd0
  go_wp2_with fail
  ((with_reducible refine (value_law v ss _ (HS.out.below HB1.out) HF.out.1 HF.out.2 HN.out).mono ?_); rintro e w2 ⟨hb2, he⟩)
  rw [HBT.out] at he
  obtain ⟨A, c, K, d, rfl, hrv⟩ := he
  have HRV := Lib.hid hrv
  have HB2 := Lib.hid (hb2.alloc hb2.size (.cells #[.int .i64 (t.srt : Nat), .bool t.fl, .int .u64 (t.bi : Nat), .string ⟨t.tx.toArray⟩, .slice A t.kids.length c, .slice K t.kn.length d] 32))
  have HB7 := Lib.hid (Blk.new w2 32 #[.int .i64 (t.srt : Nat), .bool t.fl, .int .u64 (t.bi : Nat), .string ⟨t.tx.toArray⟩, .slice A t.kids.length c, .slice K t.kn.length d])
  have HB2V := Lib.hid ((Below.refl w2.heap.size w2).alloc (Nat.le_refl _) (.cells #[.int .i64 (t.srt : Nat), .bool t.fl, .int .u64 (t.bi : Nat), .string ⟨t.tx.toArray⟩, .slice A t.kids.length c, .slice K t.kn.length d] 32))
  clear hb2 hrv
  go_wp2_with fail
  ((with_reducible refine (pfind_any g t tv l w1 _ HBK.out HR.out HB2.out HO.out.1 HO.out.2 (by have := HL.out; omega) (HG1.out.next HB2.out) (HT1.out.next HB2.out)).mono ?_); rintro e w3 ⟨he, hb3⟩)
  rw [HP.out] at he
  dsimp only at he
  rw [HTU.out] at he
  obtain rfl := he
  have hb3' := HB2.out.trans (hb3.mono HB2.out.size)
  have HB9 := Lib.hid (Blk.new w3 38 #[.nilIface])
  have HB3 := Lib.hid (hb3'.alloc hb3'.size (.cells #[.nilIface] 38))
  have HB73 := Lib.hid ((HB7.out.below hb3 HB7.out.lt).alloc (.cells #[.nilIface] 38))
  have hbv3 := HB2V.out.trans (hb3.mono HB2V.out.size)
  have HBV3 := Lib.hid (hbv3.alloc hbv3.size (.cells #[.nilIface] 38))
  clear hb3 hb3' hbv3
  go_wp2_with fail
  ((with_reducible refine (plook_any g t tv l w1 _ HBK.out HR.out HB3.out HO.out.1 HO.out.2 (by have := HL.out; omega) (HG1.out.next HB3.out) (HT1.out.next HB3.out)).mono ?_); rintro e w4 ⟨he, hb4⟩)
  rw [HP.out] at he
  obtain rfl := he
  have HB4 := Lib.hid (HB3.out.trans (hb4.mono HB3.out.size))
  have HB94 := Lib.hid (HB9.out.below hb4 HB9.out.lt)
  have HB74 := Lib.hid (HB73.out.below hb4 HB73.out.lt)
  have HBV4 := Lib.hid (HBV3.out.trans (hb4.mono HBV3.out.size))
  clear hb4
  go_wp2_with fail
  ((with_reducible refine (wakes_any _ (HG1.out.next HB4.out)).mono ?_); rintro e w5 ⟨rfl, hb5⟩)
  have HB5 := Lib.hid (HB4.out.trans (hb5.mono HB4.out.size))
  have HB95 := Lib.hid (HB94.out.below hb5 HB94.out.lt)
  have hB75 := HB74.out.below hb5 HB74.out.lt
  have HBV5 := Lib.hid (HBV4.out.trans (hb5.mono HBV4.out.size))
  have b0 : w5.cell? ⟨w2.heap.size, 0, none⟩ = some (.int .i64 (t.srt : Nat)) := hB75.cell 0
  have b1 : w5.cell? ⟨w2.heap.size, 1, none⟩ = some (.bool t.fl) := hB75.cell 1
  have b2 : w5.cell? ⟨w2.heap.size, 2, none⟩ = some (.int .u64 (t.bi : Nat)) := hB75.cell 2
  have b3 : w5.cell? ⟨w2.heap.size, 3, none⟩ = some (.string ⟨t.tx.toArray⟩) := hB75.cell 3
  have b4 : w5.cell? ⟨w2.heap.size, 4, none⟩ = some (.slice A t.kids.length c) := hB75.cell 4
  have b5 : w5.cell? ⟨w2.heap.size, 5, none⟩ = some (.slice K t.kn.length d) := hB75.cell 5
  clear hb5 hB75
  go_wp2_with fail
  ((with_reducible refine (rffind_any t A c K d l w2 _ HRV.out HBV5.out HO.out.1 HO.out.2 (by have := HL.out; omega)).mono ?_); rintro e w6 ⟨he, hb6⟩)
  rw [HP.out] at he
  obtain rfl := he
  have hB96 := HB95.out.below hb6 HB95.out.lt
  have hs6 := hB96.lt
  have c9 := hB96.cell 0
  simp at c9
  have hb6' := HB5.out.trans (hb6.mono HB5.out.size)
  have hb7' := hb6'.alloc hb6'.size (.cells #[.int .i64 0, .bool false, .int .u64 0, .string ⟨#[]⟩, .slice none 0 0, .slice none 0 0] 32)
  have HB7A := Lib.hid (hb7'.alloc hb7'.size (.cells #[.int .i64 x1, .int .i64 x2, .bool false, .string ⟨#[]⟩] 49))
  have hBF := Blk.new (w6.alloc (.cells #[.int .i64 0, .bool false, .int .u64 0, .string ⟨#[]⟩, .slice none 0 0, .slice none 0 0] 32)) 49 #[.int .i64 x1, .int .i64 x2, .bool false, .string ⟨#[]⟩]
  rw [World.size_alloc] at hBF
  have HBF := Lib.hid hBF
  clear hb6 hb6' hb7' hB96 hBF b0 b1 b2 b3 b4 b5
  go_wp2_with fail
  ((with_reducible refine (sort_nil _).mono ?_); rintro e w8 ⟨rfl, hb8⟩)
  have HB8 := Lib.hid (HB7A.out.trans (hb8.mono HB7A.out.size))
  have hBF8 := HBF.out.below hb8 HBF.out.lt
  have f0 : w8.cell? ⟨w6.heap.size + 1, 0, none⟩ = some (.int .i64 x1) := hBF8.cell 0
  have f1 : w8.cell? ⟨w6.heap.size + 1, 1, none⟩ = some (.int .i64 x2) := hBF8.cell 1
  have f2 : w8.cell? ⟨w6.heap.size + 1, 2, none⟩ = some (.bool false) := hBF8.cell 2
  have f3 : w8.cell? ⟨w6.heap.size + 1, 3, none⟩ = some (.string ⟨#[]⟩) := hBF8.cell 3
  have HBF8 := Lib.hid hBF8
  clear hb8 c9 hBF8
  go_wp2_with fail
  ((with_reducible refine (HFE.out _).mono ?_); rintro e w9 ⟨rfl, hb9⟩)
  have HB9' := Lib.hid (HB8.out.trans (hb9.mono HB8.out.size))
  have HBF9 := Lib.hid (HBF8.out.below hb9 HBF8.out.lt)
  clear hb9 f0 f1 f2 f3
  go_wp2_with fail
  ((with_reducible refine (mf_lost _ _).mono ?_); rintro e w10 ⟨rfl, hb10⟩)
  have HB10 := Lib.hid (HB1.out.trans ((HB9'.out.trans (hb10.mono HB9'.out.size)).mono HB1.out.size))
  have f2 : w10.cell? ⟨w6.heap.size + 1, 2, none⟩ = some (.bool false) := (HBF9.out.below hb10 HBF9.out.lt).cell 2
  clear hb10
  go_wp2
  go_ret
  exact ⟨rfl, HB10.out⟩
set_option maxRecDepth 100000 in
set_option maxHeartbeats 8000000 in
theorem finds_none (v : Value) (l : List UInt8) (ss : List Stp) (w : World) (hS : RdS w v ss) (hF : ∀ s ∈ ss, s.Fine) (hC : ∀ s ∈ ss, s.Cnt) (hn : ss.length ≤ 1048576) (hl : l.length ≤ 2097152) (hG : Glob w) (hT : Tab w) (t : Tr) (hb : buildT ss = .inr t) (ts : List Tx) (hp : parseS (wrong l) l = .ok ts) (n : Nat) (hle : leadT t ts 0 = .inl n) :
    Calls Tryz.prog 3 #[v, .string ⟨l.toArray⟩] w (TrueP w) := by
  have t1 := fun (v : Value) (w : World) => mt_lost 622 v w
  have t2 := mc_lost
  have t5 := ml_lost
  have HP := Lib.hid hp
  have HLE := Lib.hid hle
  have HTF := Lib.hid (toks_fine hp)
  have hsz0 : (ByteArray.mk l.toArray).size ≤ 2147483648 := by show l.toArray.size ≤ _; rw [List.size_toArray]; omega
  obtain ⟨q, hq⟩ : ∃ q, printS (ts.take n) = q := ⟨_, rfl⟩
  have HQ := Lib.hid hq
  clear hp hle hq
  have q1 := err_ne_nil
  have q2 := err_ne_held
  have q3 := err_eq_nil
  have q4 := err_eq_held
  have q5 := val_eq_nil
  have HBT := Lib.hid hb
  have HS := Lib.hid hS
  have HF := Lib.hid (And.intro hF hC)
  have HN := Lib.hid hn
  have HL := Lib.hid hl
  have HG := Lib.hid hG
  have HT := Lib.hid hT
  clear hS hF hC hn hG hb hl hT
  go_enter Tryz.func3, Tryz.ntmps3
  go_wp2_with fail
  ((with_reducible refine (build_all v ss _ HS.out HF.out.1).mono ?_); rintro e w1 ⟨hb1, he⟩)
  rw [HBT.out] at he
  obtain ⟨g, rfl, hTA⟩ := he
  obtain ⟨_, hfit, tv, hblk, hrd0⟩ := hTA
  have HO := Lib.hid (And.intro (buildT_ok HF.out.1 HBT.out).1 hfit)
  have HB1 := Lib.hid hb1
  have HBK := Lib.hid hblk
  have HR := Lib.hid (RdT.toA hrd0)
  have HG1 := Lib.hid (HG.out.next hb1)
  have HT1 := Lib.hid (HT.out.next hb1)
  clear hb1 hfit hblk hrd0
  go_wp2_with fail
  ((with_reducible refine (value_law v ss _ (HS.out.below HB1.out) HF.out.1 HF.out.2 HN.out).mono ?_); rintro e w2 ⟨hb2, he⟩)
  rw [HBT.out] at he
  obtain ⟨A, c, K, d, rfl, hrv⟩ := he
  have HRV := Lib.hid hrv
  have HB2 := Lib.hid (hb2.alloc hb2.size (.cells #[.int .i64 (t.srt : Nat), .bool t.fl, .int .u64 (t.bi : Nat), .string ⟨t.tx.toArray⟩, .slice A t.kids.length c, .slice K t.kn.length d] 32))
  have HB7 := Lib.hid (Blk.new w2 32 #[.int .i64 (t.srt : Nat), .bool t.fl, .int .u64 (t.bi : Nat), .string ⟨t.tx.toArray⟩, .slice A t.kids.length c, .slice K t.kn.length d])
  have HB2V := Lib.hid ((Below.refl w2.heap.size w2).alloc (Nat.le_refl _) (.cells #[.int .i64 (t.srt : Nat), .bool t.fl, .int .u64 (t.bi : Nat), .string ⟨t.tx.toArray⟩, .slice A t.kids.length c, .slice K t.kn.length d] 32))
  clear hb2 hrv
  go_wp2_with fail
  ((with_reducible refine (pfind_any g t tv l w1 _ HBK.out HR.out HB2.out HO.out.1 HO.out.2 (by have := HL.out; omega) (HG1.out.next HB2.out) (HT1.out.next HB2.out)).mono ?_); rintro e w3 ⟨he, hb3⟩)
  rw [HP.out] at he
  dsimp only at he
  rw [HLE.out] at he
  dsimp only at he
  rw [HQ.out] at he
  obtain rfl := he
  have hb3' := HB2.out.trans (hb3.mono HB2.out.size)
  have HB9 := Lib.hid (Blk.new w3 38 #[.nilIface])
  have HB3 := Lib.hid (hb3'.alloc hb3'.size (.cells #[.nilIface] 38))
  have HB73 := Lib.hid ((HB7.out.below hb3 HB7.out.lt).alloc (.cells #[.nilIface] 38))
  have hbv3 := HB2V.out.trans (hb3.mono HB2V.out.size)
  have HBV3 := Lib.hid (hbv3.alloc hbv3.size (.cells #[.nilIface] 38))
  clear hb3 hb3' hbv3
  go_wp2_with fail
  ((with_reducible refine (plook_any g t tv l w1 _ HBK.out HR.out HB3.out HO.out.1 HO.out.2 (by have := HL.out; omega) (HG1.out.next HB3.out) (HT1.out.next HB3.out)).mono ?_); rintro e w4 ⟨he, hb4⟩)
  rw [HP.out] at he
  dsimp only at he
  rw [HLE.out] at he
  obtain ⟨gl, rfl, hbl⟩ := he
  have HB4 := Lib.hid (HB3.out.trans (hb4.mono HB3.out.size))
  have HB94 := Lib.hid (HB9.out.below hb4 HB9.out.lt)
  have HB74 := Lib.hid (HB73.out.below hb4 HB73.out.lt)
  have HBV4 := Lib.hid (HBV3.out.trans (hb4.mono HBV3.out.size))
  have HBL := Lib.hid hbl
  clear hb4 hbl
  go_wp2_with fail
  ((with_reducible refine (wakes_any _ (HG1.out.next HB4.out)).mono ?_); rintro e w5 ⟨rfl, hb5⟩)
  have HB5 := Lib.hid (HB4.out.trans (hb5.mono HB4.out.size))
  have HB95 := Lib.hid (HB94.out.below hb5 HB94.out.lt)
  have hB75 := HB74.out.below hb5 HB74.out.lt
  have HB75 := Lib.hid hB75
  have HBL5 := Lib.hid (HBL.out.below hb5 HBL.out.lt)
  have HBV5 := Lib.hid (HBV4.out.trans (hb5.mono HBV4.out.size))
  have b0 : w5.cell? ⟨w2.heap.size, 0, none⟩ = some (.int .i64 (t.srt : Nat)) := hB75.cell 0
  have b1 : w5.cell? ⟨w2.heap.size, 1, none⟩ = some (.bool t.fl) := hB75.cell 1
  have b2 : w5.cell? ⟨w2.heap.size, 2, none⟩ = some (.int .u64 (t.bi : Nat)) := hB75.cell 2
  have b3 : w5.cell? ⟨w2.heap.size, 3, none⟩ = some (.string ⟨t.tx.toArray⟩) := hB75.cell 3
  have b4 : w5.cell? ⟨w2.heap.size, 4, none⟩ = some (.slice A t.kids.length c) := hB75.cell 4
  have b5 : w5.cell? ⟨w2.heap.size, 5, none⟩ = some (.slice K t.kn.length d) := hB75.cell 5
  clear hb5 hB75
  go_wp2_with fail
  ((with_reducible refine (rffind_any t A c K d l w2 _ HRV.out HBV5.out HO.out.1 HO.out.2 (by have := HL.out; omega)).mono ?_); rintro e w6 ⟨he, hb6⟩)
  rw [HP.out] at he
  dsimp only at he
  rw [HLE.out] at he
  dsimp only at he
  rw [HQ.out] at he
  obtain rfl := he
  have hB96 := HB95.out.below hb6 HB95.out.lt
  have hs6 := hB96.lt
  have c9 := hB96.cell 0
  simp at c9
  have hb6' := HB5.out.trans (hb6.mono HB5.out.size)
  have hb7' := hb6'.alloc hb6'.size (.cells #[.int .i64 0, .bool false, .int .u64 0, .string ⟨#[]⟩, .slice none 0 0, .slice none 0 0] 32)
  have HB7A := Lib.hid (hb7'.alloc hb7'.size (.cells #[.int .i64 4, .int .i64 0, .bool true, .string ⟨q.toArray⟩] 49))
  have HB77 := Lib.hid (((HB75.out.below hb6 HB75.out.lt).alloc (.cells #[.int .i64 0, .bool false, .int .u64 0, .string ⟨#[]⟩, .slice none 0 0, .slice none 0 0] 32)).alloc (.cells #[.int .i64 4, .int .i64 0, .bool true, .string ⟨q.toArray⟩] 49))
  have HBL7 := Lib.hid (((HBL5.out.below hb6 HBL5.out.lt).alloc (.cells #[.int .i64 0, .bool false, .int .u64 0, .string ⟨#[]⟩, .slice none 0 0, .slice none 0 0] 32)).alloc (.cells #[.int .i64 4, .int .i64 0, .bool true, .string ⟨q.toArray⟩] 49))
  have hv6 := HBV5.out.trans (hb6.mono HBV5.out.size)
  have hv7 := hv6.alloc hv6.size (.cells #[.int .i64 0, .bool false, .int .u64 0, .string ⟨#[]⟩, .slice none 0 0, .slice none 0 0] 32)
  have HBV7 := Lib.hid (hv7.alloc hv7.size (.cells #[.int .i64 4, .int .i64 0, .bool true, .string ⟨q.toArray⟩] 49))
  have hBF := Blk.new (w6.alloc (.cells #[.int .i64 0, .bool false, .int .u64 0, .string ⟨#[]⟩, .slice none 0 0, .slice none 0 0] 32)) 49 #[.int .i64 4, .int .i64 0, .bool true, .string ⟨q.toArray⟩]
  rw [World.size_alloc] at hBF
  have HBF := Lib.hid hBF
  clear hb6 hb6' hb7' hB96 hBF hv6 hv7 b0 b1 b2 b3 b4 b5
  go_wp2_with fail
  ((with_reducible refine (sort_nil _).mono ?_); rintro e w8 ⟨rfl, hb8⟩)
  have HB8 := Lib.hid (HB7A.out.trans (hb8.mono HB7A.out.size))
  have HB78 := Lib.hid (HB77.out.below hb8 HB77.out.lt)
  have HBL8 := Lib.hid (HBL7.out.below hb8 HBL7.out.lt)
  have HBV8 := Lib.hid (HBV7.out.trans (hb8.mono HBV7.out.size))
  have hBF8 := HBF.out.below hb8 HBF.out.lt
  have f0 : w8.cell? ⟨w6.heap.size + 1, 0, none⟩ = some (.int .i64 4) := hBF8.cell 0
  have f1 : w8.cell? ⟨w6.heap.size + 1, 1, none⟩ = some (.int .i64 0) := hBF8.cell 1
  have f2 : w8.cell? ⟨w6.heap.size + 1, 2, none⟩ = some (.bool true) := hBF8.cell 2
  have f3 : w8.cell? ⟨w6.heap.size + 1, 3, none⟩ = some (.string ⟨q.toArray⟩) := hBF8.cell 3
  have HBF8 := Lib.hid hBF8
  clear hb8 c9 hBF8
  go_wp2_with fail
  ((with_reducible refine (fault_trail 4 0 q _).mono ?_); rintro e w9 ⟨rfl, hb9⟩)
  have HB9' := Lib.hid (HB8.out.trans (hb9.mono HB8.out.size))
  have HBF9 := Lib.hid (HBF8.out.below hb9 HBF8.out.lt)
  have HB79 := Lib.hid (HB78.out.below hb9 HB78.out.lt)
  have HBL9 := Lib.hid (HBL8.out.below hb9 HBL8.out.lt)
  have HBV9 := Lib.hid (HBV8.out.trans (hb9.mono HBV8.out.size))
  clear hb9 f0 f1 f2 f3
  go_wp2_with fail
  ((with_reducible refine (mf_lost _ _).mono ?_); rintro e w10 ⟨rfl, hb10⟩)
  have HB10 := Lib.hid (HB9'.out.trans (hb10.mono HB9'.out.size))
  have HB710 := Lib.hid (HB79.out.below hb10 HB79.out.lt)
  have HBL10 := Lib.hid (HBL9.out.below hb10 HBL9.out.lt)
  have HBV10 := Lib.hid (HBV9.out.trans (hb10.mono HBV9.out.size))
  have f2 : w10.cell? ⟨w6.heap.size + 1, 2, none⟩ = some (.bool true) := (HBF9.out.below hb10 HBF9.out.lt).cell 2
  clear hb10
  go_wp2_with fail
  ((with_reducible refine (refParse_any ⟨l.toArray⟩ hsz0 _).mono ?_); rintro e w11 ⟨hb11, _, hok⟩)
  obtain ⟨v11, rfl, hown⟩ := hok _ HP.out
  obtain ⟨TA, tc, rfl⟩ := own_slice hown
  have hrd : Rd w11 (.slice TA ts.length tc) ts := Rd.of_own hown
  have hv11 := HBV10.out.trans (hb11.mono HBV10.out.size)
  have hB711 := HB710.out.below hb11 HB710.out.lt
  have HLD := Lib.hid (rlead_any t A c K d TA tc ts w2 w11 HRV.out hv11 HO.out.1 HO.out.2 hrd (fun x hx => by have := (HTF.out.1 x hx).2; have := HL.out; omega) HTF.out.2.1)
  have HB11 := Lib.hid (HB10.out.trans (hb11.mono HB10.out.size))
  have HBL11 := Lib.hid (HBL10.out.below hb11 HBL10.out.lt)
  have b0 : w11.cell? ⟨w2.heap.size, 0, none⟩ = some (.int .i64 (t.srt : Nat)) := hB711.cell 0
  have b1 : w11.cell? ⟨w2.heap.size, 1, none⟩ = some (.bool t.fl) := hB711.cell 1
  have b2 : w11.cell? ⟨w2.heap.size, 2, none⟩ = some (.int .u64 (t.bi : Nat)) := hB711.cell 2
  have b3 : w11.cell? ⟨w2.heap.size, 3, none⟩ = some (.string ⟨t.tx.toArray⟩) := hB711.cell 3
  have b4 : w11.cell? ⟨w2.heap.size, 4, none⟩ = some (.slice A t.kids.length c) := hB711.cell 4
  have b5 : w11.cell? ⟨w2.heap.size, 5, none⟩ = some (.slice K t.kn.length d) := hB711.cell 5
  clear hb11 hok hown hrd hv11 hB711 f2
  go_wp2_with fail
  ((with_reducible refine HLD.out.mono ?_); rintro e w12 ⟨he, hb12⟩)
  rw [HLE.out] at he
  obtain rfl := he
  have hb12' := HB11.out.trans (hb12.mono HB11.out.size)
  have hBL12 := HBL11.out.below hb12 HBL11.out.lt
  have hsl := hBL12.lt
  have cl := hBL12.cell 0
  simp at cl
  have HBX := Lib.hid (HB1.out.trans ((hb12'.alloc hb12'.size (.cells #[.int .i64 0, .bool false, .int .u64 0, .string ⟨#[]⟩, .slice none 0 0, .slice none 0 0] 32)).mono HB1.out.size))
  have en : ((n : Int) == (n : Int)) = true := by simp
  clear hb12 hb12' hBL12 b0 b1 b2 b3 b4 b5 HLD
  go_wp2
  go_ret
  exact ⟨rfl, HBX.out⟩
theorem held7 {a b : Nat} {x0 x1 x2 x3 x4 x5 x6 : Value} {W0 W W' : World} (h : W.cell? ⟨a, 0, none⟩ = some x0 ∧ W.cell? ⟨b, 0, none⟩ = some x1 ∧ W.cell? ⟨b, 1, none⟩ = some x2 ∧ W.cell? ⟨b, 2, none⟩ = some x3 ∧ W.cell? ⟨b, 3, none⟩ = some x4 ∧ W.cell? ⟨b, 4, none⟩ = some x5 ∧ W.cell? ⟨b, 5, none⟩ = some x6 ∧ Below W0.heap.size W0 W) (hb : Below W.heap.size W W') : W'.cell? ⟨a, 0, none⟩ = some x0 ∧ W'.cell? ⟨b, 0, none⟩ = some x1 ∧ W'.cell? ⟨b, 1, none⟩ = some x2 ∧ W'.cell? ⟨b, 2, none⟩ = some x3 ∧ W'.cell? ⟨b, 3, none⟩ = some x4 ∧ W'.cell? ⟨b, 4, none⟩ = some x5 ∧ W'.cell? ⟨b, 5, none⟩ = some x6 ∧ Below W0.heap.size W0 W' := by
  obtain ⟨h0, h1, h2, h3, h4, h5, h6, h7⟩ := h
  have g : ∀ {k i : Nat} {y : Value}, W.cell? ⟨k, i, none⟩ = some y → W'.cell? ⟨k, i, none⟩ = some y := fun h => ((old hb).1 _ _ (World.block_lt_of_cell? _ _ h)).trans h
  exact ⟨g h0, g h1, g h2, g h3, g h4, g h5, g h6, h7.trans (hb.mono h7.size)⟩
set_option maxRecDepth 100000 in
set_option maxHeartbeats 8000000 in
theorem finds_some (v : Value) (l : List UInt8) (ss : List Stp) (w : World) (hS : RdS w v ss) (hF : ∀ s ∈ ss, s.Fine) (hC : ∀ s ∈ ss, s.Cnt) (hn : ss.length ≤ 1048576) (hl : l.length ≤ 2097152) (hG : Glob w) (hT : Tab w) (t : Tr) (hb : buildT ss = .inr t) (ts : List Tx) (hp : parseS (wrong l) l = .ok ts) (u : Tr) (hle : leadT t ts 0 = .inr u) :
    Calls Tryz.prog 3 #[v, .string ⟨l.toArray⟩] w (TrueP w) := by
  have HP := Lib.hid hp
  have HLE := Lib.hid hle
  clear hp hle
  have q1 := err_ne_nil
  have q2 := err_ne_held
  have q3 := err_eq_nil
  have q4 := err_eq_held
  have q5 := val_eq_nil
  have HBT := Lib.hid hb
  have HS := Lib.hid hS
  have HF := Lib.hid (And.intro hF hC)
  have HN := Lib.hid hn
  have HL := Lib.hid hl
  have HG := Lib.hid hG
  have HT := Lib.hid hT
  clear hS hF hC hn hG hb hl hT
  go_enter Tryz.func3, Tryz.ntmps3
  go_wp2_with fail
  ((with_reducible refine (build_all v ss _ HS.out HF.out.1).mono ?_); rintro e w1 ⟨hb1, he⟩)
  rw [HBT.out] at he
  obtain ⟨g, rfl, hTA⟩ := he
  obtain ⟨_, hfit, tv, hblk, hrd0⟩ := hTA
  have HO := Lib.hid (And.intro (buildT_ok HF.out.1 HBT.out).1 hfit)
  have HB1 := Lib.hid hb1
  have HBK := Lib.hid hblk
  have HR := Lib.hid (RdT.toA hrd0)
  have HG1 := Lib.hid (HG.out.next hb1)
  have HT1 := Lib.hid (HT.out.next hb1)
  clear hb1 hfit hblk hrd0
  go_wp2_with fail
  ((with_reducible refine (value_law v ss _ (HS.out.below HB1.out) HF.out.1 HF.out.2 HN.out).mono ?_); rintro e w2 ⟨hb2, he⟩)
  rw [HBT.out] at he
  obtain ⟨A, c, K, d, rfl, hrv⟩ := he
  have HRV := Lib.hid hrv
  have HB2 := Lib.hid (hb2.alloc hb2.size (.cells #[.int .i64 (t.srt : Nat), .bool t.fl, .int .u64 (t.bi : Nat), .string ⟨t.tx.toArray⟩, .slice A t.kids.length c, .slice K t.kn.length d] 32))
  have HB7 := Lib.hid (Blk.new w2 32 #[.int .i64 (t.srt : Nat), .bool t.fl, .int .u64 (t.bi : Nat), .string ⟨t.tx.toArray⟩, .slice A t.kids.length c, .slice K t.kn.length d])
  have HB2V := Lib.hid ((Below.refl w2.heap.size w2).alloc (Nat.le_refl _) (.cells #[.int .i64 (t.srt : Nat), .bool t.fl, .int .u64 (t.bi : Nat), .string ⟨t.tx.toArray⟩, .slice A t.kids.length c, .slice K t.kn.length d] 32))
  clear hb2 hrv
  go_wp2_with fail
  ((with_reducible refine (pfind_any g t tv l w1 _ HBK.out HR.out HB2.out HO.out.1 HO.out.2 (by have := HL.out; omega) (HG1.out.next HB2.out) (HT1.out.next HB2.out)).mono ?_); rintro e w3 ⟨he, hb3⟩)
  rw [HP.out] at he
  dsimp only at he
  rw [HLE.out] at he
  obtain ⟨tx, ux, rfl, hrdu, huo⟩ := he
  have HUO := Lib.hid huo
  have HRDU := Lib.hid hrdu
  clear hrdu huo
  have hb3' := HB2.out.trans (hb3.mono HB2.out.size)
  have HB9 := Lib.hid (Blk.new w3 38 #[.iface tx ux])
  have HB3 := Lib.hid (hb3'.alloc hb3'.size (.cells #[.iface tx ux] 38))
  have HB73 := Lib.hid ((HB7.out.below hb3 HB7.out.lt).alloc (.cells #[.iface tx ux] 38))
  have hbv3 := HB2V.out.trans (hb3.mono HB2V.out.size)
  have HBV3 := Lib.hid (hbv3.alloc hbv3.size (.cells #[.iface tx ux] 38))
  clear hb3 hb3' hbv3
  go_wp2_with fail
  ((with_reducible refine (plook_any g t tv l w1 _ HBK.out HR.out HB3.out HO.out.1 HO.out.2 (by have := HL.out; omega) (HG1.out.next HB3.out) (HT1.out.next HB3.out)).mono ?_); rintro e w4 ⟨he, hb4⟩)
  rw [HP.out] at he
  dsimp only at he
  rw [HLE.out] at he
  obtain ⟨x, rfl, htd⟩ := he
  obtain ⟨xT, xu, rfl⟩ := TdT.iface htd
  have HTX := Lib.hid htd
  have HB4 := Lib.hid (HB3.out.trans (hb4.mono HB3.out.size))
  have HB94 := Lib.hid (HB9.out.below hb4 HB9.out.lt)
  have HB74 := Lib.hid (HB73.out.below hb4 HB73.out.lt)
  have HBV4 := Lib.hid (HBV3.out.trans (hb4.mono HBV3.out.size))
  clear hb4 htd
  go_wp2_with fail
  ((with_reducible refine (wakes_any _ (HG1.out.next HB4.out)).mono ?_); rintro e w5 ⟨rfl, hb5⟩)
  have HB5 := Lib.hid (HB4.out.trans (hb5.mono HB4.out.size))
  have HB95 := Lib.hid (HB94.out.below hb5 HB94.out.lt)
  have hB75 := HB74.out.below hb5 HB74.out.lt
  have HBV5 := Lib.hid (HBV4.out.trans (hb5.mono HBV4.out.size))
  have HB45 := Lib.hid hb5
  have b0 : w5.cell? ⟨w2.heap.size, 0, none⟩ = some (.int .i64 (t.srt : Nat)) := hB75.cell 0
  have b1 : w5.cell? ⟨w2.heap.size, 1, none⟩ = some (.bool t.fl) := hB75.cell 1
  have b2 : w5.cell? ⟨w2.heap.size, 2, none⟩ = some (.int .u64 (t.bi : Nat)) := hB75.cell 2
  have b3 : w5.cell? ⟨w2.heap.size, 3, none⟩ = some (.string ⟨t.tx.toArray⟩) := hB75.cell 3
  have b4 : w5.cell? ⟨w2.heap.size, 4, none⟩ = some (.slice A t.kids.length c) := hB75.cell 4
  have b5 : w5.cell? ⟨w2.heap.size, 5, none⟩ = some (.slice K t.kn.length d) := hB75.cell 5
  clear hb5 hB75
  go_wp2_with fail
  ((with_reducible refine (rffind_any t A c K d l w2 _ HRV.out HBV5.out HO.out.1 HO.out.2 (by have := HL.out; omega)).mono ?_); rintro e w6 ⟨he, hb6⟩)
  rw [HP.out] at he
  dsimp only at he
  rw [HLE.out] at he
  obtain ⟨A2, c2, K2, d2, rfl, hru, _⟩ := he
  have HRU := Lib.hid hru
  have hv6 := HBV5.out.trans (hb6.mono HBV5.out.size)
  have hv7 := (hv6.alloc hv6.size (.cells #[.int .i64 (u.srt : Nat), .bool u.fl, .int .u64 (u.bi : Nat), .string ⟨u.tx.toArray⟩, .slice A2 u.kids.length c2, .slice K2 u.kn.length d2] 32))
  have HBV7 := Lib.hid (hv7.alloc hv7.size (.cells #[.int .i64 0, .int .i64 0, .bool false, .string ⟨#[]⟩] 49))
  have hb6' := HB5.out.trans (hb6.mono HB5.out.size)
  have hb7' := hb6'.alloc hb6'.size (.cells #[.int .i64 (u.srt : Nat), .bool u.fl, .int .u64 (u.bi : Nat), .string ⟨u.tx.toArray⟩, .slice A2 u.kids.length c2, .slice K2 u.kn.length d2] 32)
  have HB7A := Lib.hid (hb7'.alloc hb7'.size (.cells #[.int .i64 0, .int .i64 0, .bool false, .string ⟨#[]⟩] 49))
  have h46 := HB45.out.trans (hb6.mono HB45.out.size)
  have h47 := h46.alloc h46.size (.cells #[.int .i64 (u.srt : Nat), .bool u.fl, .int .u64 (u.bi : Nat), .string ⟨u.tx.toArray⟩, .slice A2 u.kids.length c2, .slice K2 u.kn.length d2] 32)
  have H47 := Lib.hid (h47.alloc h47.size (.cells #[.int .i64 0, .int .i64 0, .bool false, .string ⟨#[]⟩] 49))
  have HB9B := Lib.hid (((HB95.out.below hb6 HB95.out.lt).alloc (.cells #[.int .i64 (u.srt : Nat), .bool u.fl, .int .u64 (u.bi : Nat), .string ⟨u.tx.toArray⟩, .slice A2 u.kids.length c2, .slice K2 u.kn.length d2] 32)).alloc (.cells #[.int .i64 0, .int .i64 0, .bool false, .string ⟨#[]⟩] 49))
  have HBU := Lib.hid ((Blk.new w6 32 #[.int .i64 (u.srt : Nat), .bool u.fl, .int .u64 (u.bi : Nat), .string ⟨u.tx.toArray⟩, .slice A2 u.kids.length c2, .slice K2 u.kn.length d2]).alloc (.cells #[.int .i64 0, .int .i64 0, .bool false, .string ⟨#[]⟩] 49))
  clear hb6 hv6 hv7 hb6' hb7' hru h46 h47 b0 b1 b2 b3 b4 b5
  go_upto_region 11 with fail
  have HRDB := Lib.hid (rda_below HRDU.out HB7A.out)
  have HRVB := Lib.hid (rdva_below HRU.out HBV7.out)
  have HTXB := Lib.hid (tda_below HTX.out H47.out)
  have c9 := HB9B.out.cell 0
  have u0 := HBU.out.cell 0
  have u1 := HBU.out.cell 1
  have u2 := HBU.out.cell 2
  have u3 := HBU.out.cell 3
  have u4 := HBU.out.cell 4
  have u5 := HBU.out.cell 5
  have HFIN := Lib.hid HB7A.out
  clear HB7A HBV7 H47 HB9B HBU
  generalize hwB : ((w6.alloc (.cells #[.int .i64 (u.srt : Nat), .bool u.fl, .int .u64 (u.bi : Nat), .string ⟨u.tx.toArray⟩, .slice A2 u.kids.length c2, .slice K2 u.kn.length d2] 32)).alloc (.cells #[.int .i64 0, .int .i64 0, .bool false, .string ⟨#[]⟩] 49)) = wB at *
  clear hwB
  refine wp_region_held_drew (S := (fun w' => w'.cell? ⟨w3.heap.size, 0, none⟩ = some (.iface tx ux) ∧ w'.cell? ⟨w6.heap.size, 0, none⟩ = some (.int .i64 (u.srt : Nat)) ∧ w'.cell? ⟨w6.heap.size, 1, none⟩ = some (.bool u.fl) ∧ w'.cell? ⟨w6.heap.size, 2, none⟩ = some (.int .u64 (u.bi : Nat)) ∧ w'.cell? ⟨w6.heap.size, 3, none⟩ = some (.string ⟨u.tx.toArray⟩) ∧ w'.cell? ⟨w6.heap.size, 4, none⟩ = some (.slice A2 u.kids.length c2) ∧ w'.cell? ⟨w6.heap.size, 5, none⟩ = some (.slice K2 u.kn.length d2) ∧ Below wB.heap.size wB w')) (by kernel_rfl) ⟨c9, u0, u1, u2, u3, u4, u5, drewN_below _ 1⟩ (fun hHeld => ?_)
  refine held_take (i := 0) (v := ?_) (some 71) rfl rfl (by kernel_rfl) (by kernel_rfl) (by kernel_rfl) (fun _ _ _ h => h) (Or.inl ⟨by rfl, ?_⟩) hHeld ?_
  rotate_left
  · intro w hSw
    try dsimp only at hSw
    go_simp
    try with_reducible rfl
  simp only [Act.put, List.setIfInBounds_toArray, List.set_cons_zero, List.set_cons_succ]
  refine held_take (i := 1) (v := ?_) (some 72) rfl rfl (by kernel_rfl) (by kernel_rfl) (by kernel_rfl) (fun _ _ _ h => h) (Or.inl ⟨by rfl, ?_⟩) hHeld ?_
  rotate_left
  · intro w hSw
    try dsimp only at hSw
    go_simp
    try with_reducible rfl
  simp only [Act.put, List.setIfInBounds_toArray, List.set_cons_zero, List.set_cons_succ]
  refine held_take (i := 2) (v := ?_) (some 73) rfl rfl (by kernel_rfl) (by kernel_rfl) (by kernel_rfl) (fun _ _ _ h => h) (Or.inl ⟨by rfl, ?_⟩) hHeld ?_
  rotate_left
  · intro w hSw
    try dsimp only at hSw
    go_simp
    try with_reducible rfl
  simp only [Act.put, List.setIfInBounds_toArray, List.set_cons_zero, List.set_cons_succ]
  refine held_take (i := 3) (v := ?_) (some 74) rfl rfl (by kernel_rfl) (by kernel_rfl) (by kernel_rfl) (fun _ _ _ h => h) (Or.inl ⟨by rfl, ?_⟩) hHeld ?_
  rotate_left
  · intro w hSw
    try dsimp only at hSw
    go_simp
    try with_reducible rfl
  simp only [Act.put, List.setIfInBounds_toArray, List.set_cons_zero, List.set_cons_succ]
  refine held_take (i := 5) (v := ?_) (some 76) rfl rfl (by kernel_rfl) (by kernel_rfl) (by kernel_rfl) (fun _ _ _ h => h) (Or.inl ⟨by rfl, ?_⟩) hHeld ?_
  rotate_left
  · intro w hSw
    try dsimp only at hSw
    go_simp
    try with_reducible rfl
  simp only [Act.put, List.setIfInBounds_toArray, List.set_cons_zero, List.set_cons_succ]
  refine wpAnyH_ready (rs := [4]) (by kernel_rfl) (by simp) ?_
  refine AllReadyH.cons rfl (fun K hK => ?_) AllReadyH.nil
  go_simp
  ((with_reducible refine (value_any (fun _ => True) u HUO.out.1 (fit_le HUO.out.2).1 (.iface tx ux) _ (rda_below HRDB.out hHeld.2.2.2.2.2.2.2)).mono ?_); rintro e w2' ⟨x2, rfl, htd2, hb2⟩; dsimp only)
  have HTD2 := Lib.hid (TdT.move (S' := fun _ => True) (w' := w2') (fun j hj hs => ⟨trivial, rfl⟩) _ _ htd2)
  clear htd2
  replace hHeld := held7 hHeld hb2
  refine hK.out _ _ hHeld (fun _ => ?_)
  clear hK K
  refine wpAnyH_ready (rs := [6]) (by kernel_rfl) (by simp) ?_
  refine AllReadyH.cons rfl (fun K hK => ?_) AllReadyH.nil
  go_simp
  ((with_reducible refine (told_any u HUO.out.1 (fit_le HUO.out.2).1 x2 ((A2, c2), (K2, d2)) _ HTD2.out (rdva_below HRVB.out hHeld.2.2.2.2.2.2.2)).mono ?_); rintro e w2' ⟨rfl, hb2⟩; dsimp only)
  replace hHeld := held7 hHeld hb2
  refine hK.out _ _ hHeld (fun _ => ?_)
  clear hK K
  refine held_take (i := 7) (v := ?_) (some 78) rfl rfl (by kernel_rfl) (by kernel_rfl) (by kernel_rfl) (fun _ _ _ h => h) (Or.inl ⟨by rfl, ?_⟩) hHeld ?_
  rotate_left
  · intro w hSw
    try dsimp only at hSw
    go_simp
    try with_reducible rfl
  simp only [Act.put, List.setIfInBounds_toArray, List.set_cons_zero, List.set_cons_succ]
  refine held_take (i := 8) (v := ?_) (some 79) rfl rfl (by kernel_rfl) (by kernel_rfl) (by kernel_rfl) (fun _ _ _ h => h) (Or.inl ⟨by rfl, ?_⟩) hHeld ?_
  rotate_left
  · intro w hSw
    try dsimp only at hSw
    go_simp
    try with_reducible rfl
  simp only [Act.put, List.setIfInBounds_toArray, List.set_cons_zero, List.set_cons_succ]
  refine held_take (i := 9) (v := ?_) (some 80) rfl rfl (by kernel_rfl) (by kernel_rfl) (by kernel_rfl) (fun _ _ _ h => h) (Or.inl ⟨by rfl, ?_⟩) hHeld ?_
  rotate_left
  · intro w hSw
    try dsimp only at hSw
    go_simp
    try with_reducible rfl
  simp only [Act.put, List.setIfInBounds_toArray, List.set_cons_zero, List.set_cons_succ]
  refine held_take (i := 10) (v := ?_) (some 81) rfl rfl (by kernel_rfl) (by kernel_rfl) (by kernel_rfl) (fun _ _ _ h => h) (Or.inl ⟨by rfl, ?_⟩) hHeld ?_
  rotate_left
  · intro w hSw
    try dsimp only at hSw
    go_simp
    try with_reducible rfl
  simp only [Act.put, List.setIfInBounds_toArray, List.set_cons_zero, List.set_cons_succ]
  refine wpAnyH_ready (rs := [11]) (by kernel_rfl) (by simp) ?_
  refine AllReadyH.cons rfl (fun K hK => ?_) AllReadyH.nil
  go_simp
  ((with_reducible refine (told_any u HUO.out.1 (fit_le HUO.out.2).1 (.iface xT xu) ((A2, c2), (K2, d2)) _ (tda_below HTXB.out hHeld.2.2.2.2.2.2.2) (rdva_below HRVB.out hHeld.2.2.2.2.2.2.2)).mono ?_); rintro e w2' ⟨rfl, hb2⟩; dsimp only)
  replace hHeld := held7 hHeld hb2
  refine hK.out _ _ hHeld (fun _ => ?_)
  clear hK K
  refine held_take (i := 12) (v := ?_) (some 83) rfl rfl (by kernel_rfl) (by kernel_rfl) (by kernel_rfl) (fun _ _ _ h => h) (Or.inl ⟨by rfl, ?_⟩) hHeld ?_
  rotate_left
  · intro w hSw
    try dsimp only at hSw
    go_simp
    try with_reducible rfl
  simp only [Act.put, List.setIfInBounds_toArray, List.set_cons_zero, List.set_cons_succ]
  refine held_take (i := 13) (v := ?_) (some 4) rfl rfl (by kernel_rfl) (by kernel_rfl) (by kernel_rfl) (fun _ _ _ h => h) (Or.inl ⟨by rfl, ?_⟩) hHeld ?_
  rotate_left
  · intro w hSw
    try dsimp only at hSw
    go_simp
    try with_reducible rfl
  simp only [Act.put, List.setIfInBounds_toArray, List.set_cons_zero, List.set_cons_succ]
  refine wpAnyH_done (by kernel_rfl) ?_ _
  have HBX := Lib.hid (HB1.out.trans ((HFIN.out.trans (hHeld.2.2.2.2.2.2.2.mono HFIN.out.size)).mono HB1.out.size))
  clear hHeld
  go_wp2
  go_ret
  exact ⟨rfl, HBX.out⟩
theorem finds_any (v : Value) (l : List UInt8) (ss : List Stp) (w : World) (hS : RdS w v ss) (hF : ∀ s ∈ ss, s.Fine) (hC : ∀ s ∈ ss, s.Cnt) (hn : ss.length ≤ 1048576) (hl : l.length ≤ 2097152) (hG : Glob w) (hT : Tab w) : Calls Tryz.prog 3 #[v, .string ⟨l.toArray⟩] w (TrueP w) := by
  cases hb : buildT ss with
  | inl x => exact finds_refused v l ss w hS hF hC hn hG x.1 x.2 hb
  | inr t =>
    cases hp : parseS (wrong l) l with
    | error x => exact finds_bad v l ss w hS hF hC hn hl hG hT t hb x hp
    | ok ts =>
      cases hle : leadT t ts 0 with
      | inl n => exact finds_none v l ss w hS hF hC hn hl hG hT t hb ts hp n hle
      | inr u => exact finds_some v l ss w hS hF hC hn hl hG hT t hb ts hp u hle
end Nd
end Go.Proofs.YtmcmoaeheadihaaGreatDoor
