/-
  The law PointerLooks: its walk.
-/
import Derived.Test.YtfhchnkoggdilaaGreatDoorPkF
import Derived.Test.YtfhchnkoggdilaaGreatDoorGF
import Derived.Test.YtfhchnkoggdilaaGreatDoorPvW
import Derived.Stop.Asserts
import Derived.Deep.RegionHeldLaw
namespace Go.Proofs.YtfhchnkoggdilaaGreatDoor
open Go.RowKit Mem Utf Ref3 Idx Tok TokC
set_option linter.unusedVariables false
set_option linter.unusedSimpArgs false
namespace Nd
theorem er_no (n : Int) (W : World) : (Instr.typeAssert (.iface 51 (.int .i64 n)) 25 66 true).run Tryz.prog W = .ok (.tuple #[.nilIface, .bool false]) W := run_typeAssert_lacksB Tryz.underlying66 (by kernel_rfl) (by kernel_rfl) _ _ W
theorem er_spot (n a : Int) (W : World) : (Instr.typeAssert (.iface 79 (.agg #[.int .i64 n, .int .i64 a])) 25 66 true).run Tryz.prog W = .ok (.tuple #[.nilIface, .bool false]) W := run_typeAssert_lacksB Tryz.underlying66 (by kernel_rfl) (by kernel_rfl) _ _ W
theorem errV_facts (n a : Int) : ∃ T u, Go.Proofs.YtfhchnkoggdilaaGreatDoor.errV n a = .iface T u ∧ ∀ W, (Instr.typeAssert (.iface T u) 25 66 true).run Tryz.prog W = .ok (.tuple #[.nilIface, .bool false]) W := by
  unfold Go.Proofs.YtfhchnkoggdilaaGreatDoor.errV
  split
  · exact ⟨_, _, rfl, fun W => er_no n W⟩
  · exact ⟨_, _, rfl, fun W => er_spot n a W⟩
theorem held3 {b : Nat} {x : Value} {W1 W5 W W' : World} (h : W.cell? ⟨b, 0, none⟩ = some x ∧ Below W1.heap.size W1 W ∧ Below W5.heap.size W5 W) (hb : Below W.heap.size W W') : W'.cell? ⟨b, 0, none⟩ = some x ∧ Below W1.heap.size W1 W' ∧ Below W5.heap.size W5 W' :=
  ⟨((old hb).1 _ _ (World.block_lt_of_cell? _ _ h.1)).trans h.1, h.2.1.trans (hb.mono h.2.1.size), h.2.2.trans (hb.mono h.2.2.size)⟩
def TrueP (w : World) (e : Ending) (w' : World) : Prop := e = .returned (.bool true) ∧ Below w.heap.size w w'
set_option maxRecDepth 100000 in
set_option maxHeartbeats 8000000 in
theorem looks_refused (v : Value) (l : List UInt8) (ss : List Stp) (w : World) (hS : RdS w v ss) (hF : ∀ s ∈ ss, s.Fine) (hl : l.length ≤ 2097152) (hG : Glob w) (hT : Tab w) (n i : Int) (hb : buildT ss = .inl (n, i)) :
    Calls Tryz.prog 4 #[v, .string ⟨l.toArray⟩] w (TrueP w) := by
  have q1 := err_ne_nil
  have q2 := err_ne_held
  have q3 := err_eq_nil
  have q4 := err_eq_held
  have q5 := val_eq_nil
  have q6 := val_nil_nil
  have HBT := Lib.hid hb
  clear hb
  have HS := Lib.hid hS
  have HF := Lib.hid hF
  have HL := Lib.hid hl
  have HG := Lib.hid hG
  have HT := Lib.hid hT
  clear hS hF hl hG hT
  go_enter Tryz.func4, Tryz.ntmps4
  go_wp2_with fail
  ((with_reducible refine (build_all v ss _ HS.out HF.out).mono ?_); rintro e w1 ⟨hb1, he⟩)
  rw [HBT.out] at he
  obtain ⟨T, u, hTu⟩ := sp_form n i
  dsimp only at he
  rw [hTu] at he
  obtain rfl := he
  have HB1 := Lib.hid hb1
  clear hb1 hTu
  go_wp2_with fail
  ((with_reducible refine (look_nil l _).mono ?_); rintro e w2 ⟨rfl, hb2⟩)
  have HB2 := Lib.hid (HB1.out.trans (hb2.mono HB1.out.size))
  clear hb2
  go_wp2_with fail
  ((with_reducible refine (wakes_any _ (HG.out.next HB2.out)).mono ?_); rintro e w3 ⟨rfl, hb3⟩)
  have HB3 := Lib.hid (HB2.out.trans (hb3.mono HB2.out.size))
  clear hb3
  go_wp2
  go_ret
  exact ⟨rfl, HB3.out⟩
set_option maxRecDepth 100000 in
set_option maxHeartbeats 8000000 in
theorem looks_bad (v : Value) (l : List UInt8) (ss : List Stp) (w : World) (hS : RdS w v ss) (hF : ∀ s ∈ ss, s.Fine) (hl : l.length ≤ 2097152) (hG : Glob w) (hT : Tab w) (t : Tr) (hb : buildT ss = .inr t) (x : Int × Int) (hp : parseS (wrong l) l = .error x) :
    Calls Tryz.prog 4 #[v, .string ⟨l.toArray⟩] w (TrueP w) := by
  have q1 := err_ne_nil
  have q2 := err_ne_held
  have q3 := err_eq_nil
  have q4 := err_eq_held
  have q5 := val_eq_nil
  have q6 := val_nil_nil
  have t1 := fun (v : Value) (w : World) => mt_lost 384 v w
  have t2 := mc_lost
  have t5 := ml_lost
  have hsz0 : (ByteArray.mk l.toArray).size ≤ 2147483648 := by show l.toArray.size ≤ _; rw [List.size_toArray]; omega
  have HBT := Lib.hid hb
  have HP := Lib.hid hp
  obtain ⟨T, u, hTu, hTL⟩ := errV_facts x.1 x.2
  have HTU := Lib.hid hTu
  clear hb hp hTu
  have HS := Lib.hid hS
  have HF := Lib.hid hF
  have HL := Lib.hid hl
  have HG := Lib.hid hG
  have HT := Lib.hid hT
  clear hS hF hl hG hT
  go_enter Tryz.func4, Tryz.ntmps4
  go_wp2_with fail
  ((with_reducible refine (build_all v ss _ HS.out HF.out).mono ?_); rintro e w1 ⟨hb1, he⟩)
  rw [HBT.out] at he
  obtain ⟨g, rfl, hTA⟩ := he
  obtain ⟨_, hfit, tv, hblk, hrd0⟩ := hTA
  have HO := Lib.hid (And.intro (buildT_ok HF.out HBT.out).1 hfit)
  have HB1 := Lib.hid hb1
  have HBK := Lib.hid hblk
  have HR := Lib.hid (RdT.toA hrd0)
  have HG1 := Lib.hid (HG.out.next hb1)
  have HT1 := Lib.hid (HT.out.next hb1)
  clear hb1 hfit hblk hrd0
  go_wp2_with fail
  ((with_reducible refine (pfind_any g t tv l w1 w1 HBK.out HR.out (Below.refl _ _) HO.out.1 HO.out.2 (by have := HL.out; omega) HG1.out HT1.out).mono ?_); rintro e w2 ⟨he, hb2⟩)
  rw [HP.out] at he
  dsimp only at he
  rw [HTU.out] at he
  obtain rfl := he
  have hb3 : Below w1.heap.size w1 (w2.alloc (.cells #[.nilIface] 38)) := hb2.alloc hb2.size _
  have HB7 : Hid (Blk (w2.alloc (.cells #[.nilIface] 38)) w2.heap.size 38 #[.nilIface]) := Lib.hid (Blk.new w2 38 #[.nilIface])
  have HB3 := Lib.hid hb3
  clear hb2 hb3
  go_wp2_with fail
  ((with_reducible refine (plook_any g t tv l w1 _ HBK.out HR.out HB3.out HO.out.1 HO.out.2 (by have := HL.out; omega) (HG1.out.next HB3.out) (HT1.out.next HB3.out)).mono ?_); rintro e w4 ⟨he, hb4⟩)
  have HB4 := Lib.hid (HB3.out.trans (hb4.mono HB3.out.size))
  have HB74 := Lib.hid (HB7.out.below hb4 HB7.out.lt)
  clear hb4
  rw [HP.out] at he
  dsimp only at he
  obtain rfl := he
  go_wp2_with fail
  ((with_reducible refine (wakes_any _ (HG1.out.next HB4.out)).mono ?_); rintro e w5 ⟨rfl, hb5⟩)
  have HB5 := Lib.hid (HB4.out.trans (hb5.mono HB4.out.size))
  have HB75 := Lib.hid (HB74.out.below hb5 HB74.out.lt)
  clear hb5
  go_wp2_with fail
  ((with_reducible refine (mf_lost _ _).mono ?_); rintro e w6 ⟨rfl, hb6⟩)
  have HB6 := Lib.hid (HB5.out.trans (hb6.mono HB5.out.size))
  clear hb6
  go_wp2_with fail
  ((with_reducible refine (parse_any ⟨l.toArray⟩ hsz0 _ (HG1.out.next HB6.out)).mono ?_); rintro e w7 ⟨hb7, he, _⟩)
  have he' : e = .returned (.tuple #[.slice none 0 0, Go.Proofs.YtfhchnkoggdilaaGreatDoor.errV x.1 x.2]) := he x HP.out
  rw [HTU.out] at he'
  obtain rfl := he'
  have HB7 := Lib.hid (HB1.out.trans ((HB6.out.trans (hb7.mono HB6.out.size)).mono HB1.out.size))
  clear hb7 he
  go_wp2
  go_ret
  exact ⟨rfl, HB7.out⟩
set_option maxRecDepth 100000 in
set_option maxHeartbeats 8000000 in
theorem looks_none (v : Value) (l : List UInt8) (ss : List Stp) (w : World) (hS : RdS w v ss) (hF : ∀ s ∈ ss, s.Fine) (hl : l.length ≤ 2097152) (hG : Glob w) (hT : Tab w) (t : Tr) (hb : buildT ss = .inr t) (ts : List Tx) (hp : parseS (wrong l) l = .ok ts) (n : Nat) (hle : leadT t ts 0 = .inl n) :
    Calls Tryz.prog 4 #[v, .string ⟨l.toArray⟩] w (TrueP w) := by
  have q1 := err_ne_nil
  have q2 := err_ne_held
  have q3 := err_eq_nil
  have q4 := err_eq_held
  have q5 := val_eq_nil
  have q6 := val_nil_nil
  have t1 := fun (v : Value) (w : World) => mt_lost 384 v w
  have t2 := mc_lost
  have t5 := ml_lost
  have t3 := fun (v : Value) (w : World) => mt_where 384 v w
  have t4 := mc_where
  have t6 := tl_trail
  have hsz0 : (ByteArray.mk l.toArray).size ≤ 2147483648 := by show l.toArray.size ≤ _; rw [List.size_toArray]; omega
  have hpf := print_front hp n
  have hfl := front_len hp n
  have htf := toks_fine hp
  obtain ⟨_, hnl, u, hlu⟩ := lead_lt ts t 0 n hle
  rw [Nat.zero_add] at hnl
  rw [Nat.sub_zero] at hlu
  have htl : (ts.take n).length = n := by rw [List.length_take]; omega
  obtain ⟨q, hq⟩ : ∃ q, printS (ts.take n) = q := ⟨_, rfl⟩
  rw [hq] at hpf hfl
  have hsz1 : (ByteArray.mk q.toArray).size ≤ 2147483648 := by show q.toArray.size ≤ _; rw [List.size_toArray]; omega
  have HQ := Lib.hid hq
  have HPF := Lib.hid hpf.2
  have HFL := Lib.hid (show q.length ≤ 4194304 by omega)
  have HTF := Lib.hid htf
  have HLU := Lib.hid hlu
  have HTL := Lib.hid htl
  have HLE := Lib.hid hle
  have HBT := Lib.hid hb
  have HP := Lib.hid hp
  have hn5 := htf.2.1
  clear hb hp hpf hfl htf hlu htl hle hq
  have HS := Lib.hid hS
  have HF := Lib.hid hF
  have HL := Lib.hid hl
  have HG := Lib.hid hG
  have HT := Lib.hid hT
  clear hS hF hl hG hT
  go_enter Tryz.func4, Tryz.ntmps4
  go_wp2_with fail
  ((with_reducible refine (build_all v ss _ HS.out HF.out).mono ?_); rintro e w1 ⟨hb1, he⟩)
  rw [HBT.out] at he
  obtain ⟨g, rfl, hTA⟩ := he
  obtain ⟨_, hfit, tv, hblk, hrd0⟩ := hTA
  have HO := Lib.hid (And.intro (buildT_ok HF.out HBT.out).1 hfit)
  have HB1 := Lib.hid hb1
  have HBK := Lib.hid hblk
  have HR := Lib.hid (RdT.toA hrd0)
  have HG1 := Lib.hid (HG.out.next hb1)
  have HT1 := Lib.hid (HT.out.next hb1)
  clear hb1 hfit hblk hrd0
  go_wp2_with fail
  ((with_reducible refine (pfind_any g t tv l w1 w1 HBK.out HR.out (Below.refl _ _) HO.out.1 HO.out.2 (by have := HL.out; omega) HG1.out HT1.out).mono ?_); rintro e w2 ⟨he, hb2⟩)
  rw [HP.out] at he
  dsimp only at he
  rw [HLE.out] at he
  dsimp only at he
  rw [HQ.out] at he
  obtain rfl := he
  have hb3 : Below w1.heap.size w1 (w2.alloc (.cells #[.nilIface] 38)) := hb2.alloc hb2.size _
  have HB7 : Hid (Blk (w2.alloc (.cells #[.nilIface] 38)) w2.heap.size 38 #[.nilIface]) := Lib.hid (Blk.new w2 38 #[.nilIface])
  have HB3 := Lib.hid hb3
  clear hb2 hb3
  go_wp2_with fail
  ((with_reducible refine (plook_any g t tv l w1 _ HBK.out HR.out HB3.out HO.out.1 HO.out.2 (by have := HL.out; omega) (HG1.out.next HB3.out) (HT1.out.next HB3.out)).mono ?_); rintro e w4 ⟨he, hb4⟩)
  have HB4 := Lib.hid (HB3.out.trans (hb4.mono HB3.out.size))
  have HB74 := Lib.hid (HB7.out.below hb4 HB7.out.lt)
  clear hb4
  rw [HP.out] at he
  dsimp only at he
  rw [HLE.out] at he
  obtain ⟨gl, rfl, hbl⟩ := he
  go_wp2_with fail
  ((with_reducible refine (wakes_any _ (HG1.out.next HB4.out)).mono ?_); rintro e w5 ⟨rfl, hb5⟩)
  have HB5 := Lib.hid (HB4.out.trans (hb5.mono HB4.out.size))
  have HB75 := Lib.hid (HB74.out.below hb5 HB74.out.lt)
  have HBL5 := Lib.hid (hbl.below hb5 hbl.lt)
  clear hb5 hbl
  go_wp2_with fail
  ((with_reducible refine (mf_lost _ _).mono ?_); rintro e w6 ⟨rfl, hb6⟩)
  have HB6 := Lib.hid (HB5.out.trans (hb6.mono HB5.out.size))
  have HBL6 := Lib.hid (HBL5.out.below hb6 HBL5.out.lt)
  clear hb6
  go_wp2_with fail
  ((with_reducible refine (mf_where _ _ _).mono ?_); rintro e w7 ⟨rfl, hb7⟩)
  have HB7' := Lib.hid (HB6.out.trans (hb7.mono HB6.out.size))
  have HBL7 := Lib.hid (HBL6.out.below hb7 HBL6.out.lt)
  clear hb7
  go_wp2_with fail
  ((with_reducible refine (parse_any ⟨q.toArray⟩ hsz1 _ (HG1.out.next HB7'.out)).mono ?_); rintro e w8 ⟨hb8, _, hok⟩)
  obtain ⟨v8, rfl, hown8⟩ := hok _ HPF.out
  obtain ⟨A8, c8, rfl⟩ := own_slice hown8
  have hrd8 : Rd w8 (.slice A8 (ts.take n).length c8) (ts.take n) := Rd.of_own hown8
  rw [HTL.out] at hrd8 ⊢
  have HB8 := Lib.hid (HB7'.out.trans (hb8.mono HB7'.out.size))
  have HBL8 := Lib.hid (HBL7.out.below hb8 HBL7.out.lt)
  have HRD8 := Lib.hid hrd8
  clear hb8 hok hown8 hrd8
  go_wp2_with fail
  ((with_reducible refine (parse_any ⟨l.toArray⟩ hsz0 _ (HG1.out.next HB8.out)).mono ?_); rintro e w9 ⟨hb9, _, hok⟩)
  obtain ⟨v9, rfl, hown9⟩ := hok _ HP.out
  obtain ⟨A9, c9, rfl⟩ := own_slice hown9
  have hnc : ts.length ≤ c9 := own_capP hown9
  have hrd9 : Rd w9 (.slice A9 ts.length c9) ts := Rd.of_own hown9
  have HB9 := Lib.hid (HB8.out.trans (hb9.mono HB8.out.size))
  have hbl9 := HBL8.out.below hb9 HBL8.out.lt
  have cl := hbl9.cell 0
  simp at cl
  have HBL9 := Lib.hid hbl9
  have HTX := Lib.hid (texts_any (.slice A8 n c8) (.slice A9 n c9) (ts.take n) (ts.take n) w9 (HRD8.out.below hb9) (rd_take hrd9 (by omega) c9) (by rw [HTL.out]; omega) (by rw [HTL.out]; omega))
  clear hb9 hok hown9 hrd9 hbl9
  have hd1 : ((n : Int) != (n : Int)) = false := by simp
  have hd2 : decide ((ts.length : Int) ≤ (n : Int)) = false := decide_eq_false (by omega)
  have hd3 : n ≤ c9 := by omega
  have hd4 : (n : Int) ≤ (c9 : Int) := by omega
  go_wp2_with fail
  ((with_reducible refine HTX.out.mono ?_); rintro e w10 ⟨he, hb10⟩)
  replace he : e = .returned (.bool true) := by rw [he]; simp
  obtain rfl := he
  have HB10 := Lib.hid (HB9.out.trans (hb10.mono HB9.out.size))
  clear hb10 HTX
  go_wp2_with fail
  ((with_reducible refine (mf_where _ _ _).mono ?_); rintro e w11 ⟨rfl, hb11⟩)
  have HB11 := Lib.hid (HB10.out.trans (hb11.mono HB10.out.size))
  clear hb11
  go_wp2_with fail
  ((with_reducible refine (pfind_any g t tv q w1 _ HBK.out HR.out HB11.out HO.out.1 HO.out.2 HFL.out (HG1.out.next HB11.out) (HT1.out.next HB11.out)).mono ?_); rintro e w12 ⟨he, hb12⟩)
  rw [HPF.out] at he
  dsimp only at he
  rw [HLU.out] at he
  obtain ⟨tx, ux, rfl, hrdu, huo⟩ := he
  have hb12' := HB11.out.trans (hb12.mono HB11.out.size)
  have hb13 := hb12'.alloc hb12'.size (.cells #[.iface tx ux] 38)
  have HSO := Lib.hid (sort_any (fun _ => True) u (.iface tx ux) (w12.alloc (.cells #[.iface tx ux] 38)) (rda_below hrdu hb13))
  have HB13 := Lib.hid hb13
  have hu0 : ((u.srt : Int) != 0) = true := by cases u <;> simp [Tr.srt]
  clear hb12 hb12' hb13 hrdu huo
  go_wp2_with fail
  ((with_reducible refine HSO.out.mono ?_); rintro e w14 ⟨rfl, hb14⟩)
  have HB14 := Lib.hid (HB1.out.trans ((HB13.out.trans (hb14.mono HB13.out.size)).mono HB1.out.size))
  clear hb14
  go_wp2
  go_ret
  exact ⟨rfl, HB14.out⟩
set_option maxRecDepth 100000 in
set_option maxHeartbeats 8000000 in
theorem looks_some (v : Value) (l : List UInt8) (ss : List Stp) (w : World) (hS : RdS w v ss) (hF : ∀ s ∈ ss, s.Fine) (hl : l.length ≤ 2097152) (hG : Glob w) (hT : Tab w) (t : Tr) (hb : buildT ss = .inr t) (ts : List Tx) (hp : parseS (wrong l) l = .ok ts) (u : Tr) (hle : leadT t ts 0 = .inr u) :
    Calls Tryz.prog 4 #[v, .string ⟨l.toArray⟩] w (TrueP w) := by
  have q1 := err_ne_nil
  have q2 := err_ne_held
  have q3 := err_eq_nil
  have q4 := err_eq_held
  have q5 := val_eq_nil
  have q6 := val_nil_nil
  have HLE := Lib.hid hle
  have HBT := Lib.hid hb
  have HP := Lib.hid hp
  have hu0 : ((u.srt : Int) != 0) = true := by cases u <;> simp [Tr.srt]
  have hu1 : ((u.srt : Int) == (u.srt : Int)) = true := by simp
  clear hb hp hle
  have HS := Lib.hid hS
  have HF := Lib.hid hF
  have HL := Lib.hid hl
  have HG := Lib.hid hG
  have HT := Lib.hid hT
  clear hS hF hl hG hT
  go_enter Tryz.func4, Tryz.ntmps4
  go_wp2_with fail
  ((with_reducible refine (build_all v ss _ HS.out HF.out).mono ?_); rintro e w1 ⟨hb1, he⟩)
  rw [HBT.out] at he
  obtain ⟨g, rfl, hTA⟩ := he
  obtain ⟨_, hfit, tv, hblk, hrd0⟩ := hTA
  have HO := Lib.hid (And.intro (buildT_ok HF.out HBT.out).1 hfit)
  have HB1 := Lib.hid hb1
  have HBK := Lib.hid hblk
  have HR := Lib.hid (RdT.toA hrd0)
  have HG1 := Lib.hid (HG.out.next hb1)
  have HT1 := Lib.hid (HT.out.next hb1)
  clear hb1 hfit hblk hrd0
  go_wp2_with fail
  ((with_reducible refine (pfind_any g t tv l w1 w1 HBK.out HR.out (Below.refl _ _) HO.out.1 HO.out.2 (by have := HL.out; omega) HG1.out HT1.out).mono ?_); rintro e w2 ⟨he, hb2⟩)
  rw [HP.out] at he
  dsimp only at he
  rw [HLE.out] at he
  obtain ⟨tx, ux, rfl, hrdu, huo⟩ := he
  have HRD := Lib.hid hrdu
  clear hrdu huo
  have hb3 : Below w1.heap.size w1 (w2.alloc (.cells #[.iface tx ux] 38)) := hb2.alloc hb2.size _
  have HB7 : Hid (Blk (w2.alloc (.cells #[.iface tx ux] 38)) w2.heap.size 38 #[.iface tx ux]) := Lib.hid (Blk.new w2 38 #[.iface tx ux])
  have HB3 := Lib.hid hb3
  clear hb2 hb3
  go_wp2_with fail
  ((with_reducible refine (plook_any g t tv l w1 _ HBK.out HR.out HB3.out HO.out.1 HO.out.2 (by have := HL.out; omega) (HG1.out.next HB3.out) (HT1.out.next HB3.out)).mono ?_); rintro e w4 ⟨he, hb4⟩)
  have HB4 := Lib.hid (HB3.out.trans (hb4.mono HB3.out.size))
  have HB74 := Lib.hid (HB7.out.below hb4 HB7.out.lt)
  clear hb4
  rw [HP.out] at he
  dsimp only at he
  rw [HLE.out] at he
  obtain ⟨x, rfl, htd⟩ := he
  obtain ⟨TT, uu, f, rfl, hTm, hTc, hTf, hTa⟩ := told_facts htd
  clear htd
  go_wp2_with fail
  ((with_reducible refine (wakes_any _ (HG1.out.next HB4.out)).mono ?_); rintro e w5 ⟨rfl, hb5⟩)
  have HB5 := Lib.hid (HB4.out.trans (hb5.mono HB4.out.size))
  have HB75 := Lib.hid (HB74.out.below hb5 HB74.out.lt)
  clear hb5
  have c7 := HB75.out.cell 0
  simp at c7
  go_upto_region 10 with fail
  refine wp_region_held_drew (S := (fun w' => w'.cell? ⟨w2.heap.size, 0, none⟩ = some (.iface tx ux) ∧ Below w1.heap.size w1 w' ∧ Below w5.heap.size w5 w')) (by kernel_rfl) ⟨c7, HB5.out.trans (drewN_below _ 1), drewN_below _ 1⟩ (fun hHeld => ?_)
  refine held_take (i := 0) (v := ?_) (some 68) rfl rfl (by kernel_rfl) (by kernel_rfl) (by kernel_rfl) (fun _ _ _ h => h) (Or.inl ⟨by rfl, ?_⟩) hHeld ?_
  rotate_left
  · intro w hSw
    try dsimp only at hSw
    go_simp
    try with_reducible rfl
  simp only [Act.put, List.setIfInBounds_toArray, List.set_cons_zero, List.set_cons_succ]
  refine held_take (i := 2) (v := ?_) (some 70) rfl rfl (by kernel_rfl) (by kernel_rfl) (by kernel_rfl) (fun _ _ _ h => h) (Or.inl ⟨by rfl, ?_⟩) hHeld ?_
  rotate_left
  · intro w hSw
    try dsimp only at hSw
    go_simp
    try with_reducible rfl
  simp only [Act.put, List.setIfInBounds_toArray, List.set_cons_zero, List.set_cons_succ]
  refine wpAnyH_ready (rs := [1]) (by kernel_rfl) (by simp) ?_
  refine AllReadyH.cons rfl (fun K hK => ?_) AllReadyH.nil
  go_simp
  ((with_reducible refine (hTf _).mono ?_); rintro e w2' ⟨rfl, hb2⟩; dsimp only)
  replace hHeld := held3 hHeld hb2
  refine hK.out _ _ hHeld (fun _ => ?_)
  clear hK K
  refine wpAnyH_ready (rs := [3]) (by kernel_rfl) (by simp) ?_
  refine AllReadyH.cons rfl (fun K hK => ?_) AllReadyH.nil
  go_simp
  ((with_reducible refine (sort_any (fun _ => True) u (.iface tx ux) _ (rda_below HRD.out hHeld.2.1)).mono ?_); rintro e w2' ⟨rfl, hb2⟩; dsimp only)
  replace hHeld := held3 hHeld hb2
  refine hK.out _ _ hHeld (fun _ => ?_)
  clear hK K
  refine held_take (i := 4) (v := ?_) (some 72) rfl rfl (by kernel_rfl) (by kernel_rfl) (by kernel_rfl) (fun _ _ _ h => h) (Or.inl ⟨by rfl, ?_⟩) hHeld ?_
  rotate_left
  · intro w hSw
    try dsimp only at hSw
    go_simp
    try with_reducible rfl
  simp only [Act.put, List.setIfInBounds_toArray, List.set_cons_zero, List.set_cons_succ]
  refine held_take (i := 5) (v := ?_) (some 73) rfl rfl (by kernel_rfl) (by kernel_rfl) (by kernel_rfl) (fun _ _ _ h => h) (Or.inl ⟨by rfl, ?_⟩) hHeld ?_
  rotate_left
  · intro w hSw
    try dsimp only at hSw
    go_simp
    try with_reducible rfl
  simp only [Act.put, List.setIfInBounds_toArray, List.set_cons_zero, List.set_cons_succ]
  refine held_take (i := 6) (v := ?_) (some 74) rfl rfl (by kernel_rfl) (by kernel_rfl) (by kernel_rfl) (fun _ _ _ h => h) (Or.inl ⟨by rfl, ?_⟩) hHeld ?_
  rotate_left
  · intro w hSw
    try dsimp only at hSw
    go_simp
    try with_reducible rfl
  simp only [Act.put, List.setIfInBounds_toArray, List.set_cons_zero, List.set_cons_succ]
  refine wpAnyH_ready (rs := [7]) (by kernel_rfl) (by simp) ?_
  refine AllReadyH.cons rfl (fun K hK => ?_) AllReadyH.nil
  go_simp
  ((with_reducible refine (sort_any (fun _ => True) u (.iface tx ux) _ (rda_below HRD.out hHeld.2.1)).mono ?_); rintro e w2' ⟨rfl, hb2⟩; dsimp only)
  replace hHeld := held3 hHeld hb2
  refine hK.out _ _ hHeld (fun _ => ?_)
  clear hK K
  refine held_take (i := 8) (v := ?_) (some 76) rfl rfl (by kernel_rfl) (by kernel_rfl) (by kernel_rfl) (fun _ _ _ h => h) (Or.inl ⟨by rfl, ?_⟩) hHeld ?_
  rotate_left
  · intro w hSw
    try dsimp only at hSw
    go_simp
    try with_reducible rfl
  simp only [Act.put, List.setIfInBounds_toArray, List.set_cons_zero, List.set_cons_succ]
  refine held_take (i := 9) (v := ?_) (some 77) rfl rfl (by kernel_rfl) (by kernel_rfl) (by kernel_rfl) (fun _ _ _ h => h) (Or.inl ⟨by rfl, ?_⟩) hHeld ?_
  rotate_left
  · intro w hSw
    try dsimp only at hSw
    go_simp
    try with_reducible rfl
  simp only [Act.put, List.setIfInBounds_toArray, List.set_cons_zero, List.set_cons_succ]
  refine held_take (i := 10) (v := ?_) (some 4) rfl rfl (by kernel_rfl) (by kernel_rfl) (by kernel_rfl) (fun _ _ _ h => h) (Or.inl ⟨by rfl, ?_⟩) hHeld ?_
  rotate_left
  · intro w hSw
    try dsimp only at hSw
    go_simp
    try with_reducible rfl
  simp only [Act.put, List.setIfInBounds_toArray, List.set_cons_zero, List.set_cons_succ]
  refine wpAnyH_done (by kernel_rfl) ?_ _
  have HBX := Lib.hid (HB1.out.trans (hHeld.2.1.mono HB1.out.size))
  clear hHeld
  go_wp2
  go_ret
  exact ⟨rfl, HBX.out⟩
theorem looks_any (v : Value) (l : List UInt8) (ss : List Stp) (w : World) (hS : RdS w v ss) (hF : ∀ s ∈ ss, s.Fine) (hl : l.length ≤ 2097152) (hG : Glob w) (hT : Tab w) : Calls Tryz.prog 4 #[v, .string ⟨l.toArray⟩] w (TrueP w) := by
  cases hb : buildT ss with
  | inl x => exact looks_refused v l ss w hS hF hl hG hT x.1 x.2 hb
  | inr t =>
    cases hp : parseS (wrong l) l with
    | error x => exact looks_bad v l ss w hS hF hl hG hT t hb x hp
    | ok ts =>
      cases hle : leadT t ts 0 with
      | inl n => exact looks_none v l ss w hS hF hl hG hT t hb ts hp n hle
      | inr u => exact looks_some v l ss w hS hF hl hG hT t hb ts hp u hle
end Nd
end Go.Proofs.YtfhchnkoggdilaaGreatDoor
