/-
  Sums of whole numbers: plain facts (what a maker holds; what the total comes to).
  The product of one pair is the pair: plain facts.
  The law BindNarrows of layer 16: its walk.
  Bind of a complex number; the law's single.
-/
import Derived.Test.YtbajkglacfheiaaGreatDoorSA24
import Derived.Test.YtbajkglacfheiaaGreatDoorSA20
import Derived.Test.YtbajkglacfheiaaGreatDoorSA3
import Derived.Test.YtbajkglacfheiaaGreatDoorSA15
import Derived.Test.YtbajkglacfheiaaGreatDoorSA16
import Derived.Test.YtbajkglacfheiaaGreatDoorSA13
import Derived.Test.YtbajkglacfheiaaGreatDoorSA19
import Derived.Test.YtbajkglacfheiaaGreatDoorSA9
import Derived.Test.YtbajkglacfheiaaGreatDoorSA17
import Derived.Test.YtbajkglacfheiaaGreatDoorSA12
import Derived.Test.YtbajkglacfheiaaGreatDoorSA1
import Derived.Test.YtbajkglacfheiaaGreatDoorSA10
import Derived.Laws.BitsAllLaws
import Derived.LoopTactic
import Derived.Lib.AppendStr
import Derived.BigQuiet
import Derived.Laws.Bits64b
import Derived.Deep.Upon
import Derived.Deep.RegionHeldLaw
import Derived.Maps.AppendAt
import Derived.Deep.AppendLies
import Derived.Deep.RegionLaw
import Derived.RangeFuncBox
set_option linter.unusedVariables false
set_option linter.unusedSimpArgs false
set_option maxRecDepth 100000
set_option maxHeartbeats 16000000
namespace Go.Proofs.YtbajkglacfheiaaGreatDoor
open Go.RowKit Mem Utf Ref3 Idx Tok TokC Ieee
set_option maxRecDepth 100000
namespace Nd
def zsT (zs : List Int) : List Tr := zs.map fun z => .num (bitsZ z)
theorem zsT_len (zs : List Int) : (zsT zs).length = zs.length := by unfold zsT; rw [List.length_map]
theorem zsT_snoc (zs : List Int) (z : Int) : zsT (zs ++ [z]) = zsT zs ++ [.num (bitsZ z)] := by unfold zsT; rw [List.map_append]; rfl
theorem step_num {l : List Tr} {x : Nat} (hl : l.length < 65536) (hf : finB x = true) : stepT l (numS x) = (0, l ++ [.num (normB x)]) := by
 unfold stepT doT
 rw [if_neg (by simp; omega), if_neg (by simp [numS, usedB]), if_neg (by simp [numS]), if_neg (by simp [numS]), if_pos (by rfl), if_pos (show finB (numS x).bits = true from hf)]
 rfl
theorem step_nonum {l : List Tr} {x : Nat} (hl : l.length < 65536) (hf : ¬ finB x = true) : stepT l (numS x) = (104, l) := by
 unfold stepT doT
 rw [if_neg (by simp; omega), if_neg (by simp [numS, usedB]), if_neg (by simp [numS]), if_neg (by simp [numS]), if_pos (by rfl), if_neg (show ¬ finB (numS x).bits = true from hf)]
theorem step_z {l : List Tr} {z : Int} (hl : l.length < 65536) (hz : z.natAbs < 9007199254740992) : stepT l (numS (bitsZ z)) = (0, l ++ [.num (bitsZ z)]) := by
 rw [step_num hl (bitsZ_val hz).1, norm_bitsZ hz]
theorem step_list {l : List Tr} {k : Nat} (hk : k ≤ l.length) (hf : (Tr.list (l.drop (l.length - k))).fit = true) : stepT l (listS (k : Int)) = (0, l.take (l.length - k) ++ [.list (l.drop (l.length - k))]) := by
 unfold stepT doT listT
 rw [if_neg (by simp [listS]), if_neg (by simp [listS, usedB]), if_neg (by simp [listS]), if_neg (by simp [listS]), if_neg (by simp [listS]), if_neg (by simp [listS]), if_pos (by rfl)]
 have e1 : (listS (k : Int)).count.toNat = k := by simp [listS]
 rw [e1, if_neg (by omega), if_pos hf]
theorem step_all {l : List Tr} (hf : (Tr.list l).fit = true) : stepT l (listS (l.length : Int)) = (0, [.list l]) := by
 have h := step_list (l := l) (k := l.length) (Nat.le_refl _) (by rw [Nat.sub_self, List.drop_zero]; exact hf)
 rw [h, Nat.sub_self, List.drop_zero, List.take_zero]
 rfl
theorem nums_nodes : ∀ xs : List Nat, nodesL (xs.map Tr.num) = xs.length ∧ bytesL (xs.map Tr.num) = 0 ∧ depthL (xs.map Tr.num) ≤ 1
 | [] => ⟨rfl, rfl, by simp [depthL]⟩
 | x :: xs => by
  obtain ⟨h1, h2, h3⟩ := nums_nodes xs
  refine ⟨?_, ?_, ?_⟩
  ·rw [List.map_cons, nodesL, h1, show (Tr.num x).nodes = 1 from rfl, List.length_cons]
   omega
  ·rw [List.map_cons, bytesL, h2, show (Tr.num x).bytes = 0 from rfl]
  ·rw [List.map_cons, depthL, show (Tr.num x).depth = 1 from rfl]
   omega
theorem nums_fit {xs : List Nat} (h : xs.length ≤ 65535) : (Tr.list (xs.map Tr.num)).fit = true := by
 obtain ⟨h1, h2, h3⟩ := nums_nodes xs
 unfold Tr.fit
 rw [Tr.nodes, Tr.bytes, Tr.depth, h1, h2]
 simp
 omega
theorem num_fit (x : Nat) : (Tr.num x).fit = true := rfl
theorem nums_ok {xs : List Nat} (h : ∀ x ∈ xs, finB x = true ∧ normB x = x ∧ x < 18446744073709551616) : (Tr.list (xs.map Tr.num)).Ok := by
 unfold Tr.Ok
 rw [okl_iff]
 intro t ht
 obtain ⟨x, hx, rfl⟩ := List.mem_map.1 ht
 obtain ⟨h1, h2, h3⟩ := h x hx
 exact ⟨⟨h1, h2, h3⟩, num_fit x⟩
theorem zsT_nums (zs : List Int) : zsT zs = (zs.map bitsZ).map Tr.num := by unfold zsT; rw [List.map_map]; rfl
theorem small_z {z : Int} (h : z.natAbs ≤ 2147483648) : z.natAbs < 9007199254740992 := by omega
theorem zsT_ok {zs : List Int} (h : ∀ z ∈ zs, z.natAbs ≤ 2147483648) : (Tr.list (zsT zs)).Ok := by
 rw [zsT_nums]
 refine nums_ok fun x hx => ?_
 obtain ⟨z, hz, rfl⟩ := List.mem_map.1 hx
 have h1 := small_z (h z hz)
 exact ⟨(bitsZ_val h1).1, norm_bitsZ h1, bitsZ_lt z⟩
theorem zsT_fit {zs : List Int} (h : zs.length ≤ 65535) : (Tr.list (zsT zs)).fit = true := by
 rw [zsT_nums]
 exact nums_fit (by rw [List.length_map]; exact h)
theorem badK_nums : ∀ (xs : List Nat) (i : Nat), badK (xs.map Tr.num) i = none
 | [], _ => rfl
 | x :: xs, i => by
  rw [List.map_cons, badK, if_pos (by rfl)]
  exact badK_nums xs _
theorem sum_bound : ∀ (zs : List Int), (∀ z ∈ zs, z.natAbs ≤ 2147483648) → zs.sum.natAbs ≤ zs.length * 2147483648
 | [], _ => by simp
 | z :: zs, h => by
  have h1 := sum_bound zs fun y hy => h y (List.mem_cons_of_mem _ hy)
  have h2 := h z (List.mem_cons_self)
  rw [List.sum_cons, List.length_cons]
  omega
theorem sumD_zs : ∀ (zs : List Int) (i : Nat) (s : Int), (∀ z ∈ zs, z.natAbs ≤ 2147483648) → s.natAbs + zs.length * 2147483648 < 9007199254740992 → sumD (zs.map bitsZ) i (bitsZ s) = .inr (bitsZ (s + zs.sum))
 | [], i, s, _, _ => by
  rw [List.map_nil, sumD, List.sum_nil, Int.add_zero]
 | z :: zs, i, s, h, hb => by
  have h2 := h z (List.mem_cons_self)
  rw [List.length_cons] at hb
  have h3 : (s + z).natAbs < 9007199254740992 := by omega
  rw [List.map_cons, sumD, bitsZ_add (by omega) (small_z h2) h3]
  dsimp only
  rw [if_pos (bitsZ_val h3).1, sumD_zs zs (i + 1) (s + z) (fun y hy => h y (List.mem_cons_of_mem _ hy)) (by omega), List.sum_cons, Int.add_assoc]
theorem totD_zs {zs : List Int} (l : Tx) (h : ∀ z ∈ zs, z.natAbs ≤ 2147483648) (hn : zs.length ≤ 4000) : totD (.list (zsT zs)) l = .inr (bitsZ zs.sum) := by
 have e1 : (Tr.list (zsT zs)).kids = zsT zs := rfl
 refine totD_ok (by rw [e1, zsT_nums]; exact badK_nums _ _) ?_
 have e2 : (zsT zs).map Tr.nb = zs.map bitsZ := by
  unfold zsT
  rw [List.map_map]
  rfl
 have h1 := sumD_zs zs 0 0 h (by simp; omega)
 rw [bitsZ_zero, Int.zero_add] at h1
 rw [e1, e2]
 exact h1
theorem lstD_nil {t : Tr} (h : t.srt = 5) : lstD t [] = .inr t := by
 refine lstD_ok parse_nil ?_ h
 rw [leadT]
theorem totP_zs {zs : List Int} {w w' : World} {e : Ending} (h : ∀ z ∈ zs, z.natAbs ≤ 2147483648) (hn : zs.length ≤ 4000) (hp : TotP (.list (zsT zs)) [] w e w') : e = .returned (.tuple #[.float .f64 (bitsZ zs.sum), .nilIface]) ∧ Below w.heap.size w w' := by
 unfold TotP at hp
 rw [lstD_nil (by rfl)] at hp
 dsimp only at hp
 rw [totD_zs [] h hn] at hp
 exact hp
theorem sum_rev (zs : List Int) : zs.reverse.sum = zs.sum := by
 induction zs with
 | nil => rfl
 | cons z zs ih => rw [List.reverse_cons, List.sum_append, ih, List.sum_cons, List.sum_cons, List.sum_nil]; omega
end Nd
end Go.Proofs.YtbajkglacfheiaaGreatDoor
namespace Go.Proofs.YtbajkglacfheiaaGreatDoor
open Go.RowKit Mem Utf Ref3 Idx Tok TokC Ieee
set_option maxRecDepth 100000
namespace Nd
theorem zero_two {r : Nat} (h : r < 18446744073709551616) (hz : r % 9223372036854775808 = 0) : r = 0 ∨ r = 9223372036854775808 := by omega
theorem fin_two {r : Nat} (h : r < 18446744073709551616) (hz : r % 9223372036854775808 = 0) : finB r = true ∧ normB r = 0 := by
 rcases zero_two h hz with rfl | rfl
 ·exact ⟨by decide, by decide⟩
 ·exact ⟨by decide, by decide⟩
theorem same_or {a r : Nat} (ha : finB a = true ∧ normB a = a ∧ a < 18446744073709551616) (hr : r = a ∨ (a % 9223372036854775808 = 0 ∧ r % 9223372036854775808 = 0)) (hl : r < 18446744073709551616) : finB r = true ∧ normB r = a := by
 rcases hr with rfl | ⟨h1, h2⟩
 ·exact ⟨ha.1, ha.2.1⟩
 ·have h3 := (fin_two ha.2.2 h1).2
  rw [ha.2.1] at h3
  rw [h3]
  exact fin_two hl h2
theorem one_pair {a b : Nat} (ha : finB a = true ∧ normB a = a ∧ a < 18446744073709551616) (hb : finB b = true ∧ normB b = b ∧ b < 18446744073709551616) : ∃ r s, prodD [(a, b)] 0 4607182418800017408 0 = .inr (r, s) ∧ normB r = a ∧ normB s = b := by
 have m1 := mul_one_left ha.2.2 ha.1
 have m3 := mul_one_left hb.2.2 hb.1
 obtain ⟨s1, m2⟩ := mul_zero_left hb.2.2 hb.1
 obtain ⟨s2, m4⟩ := mul_zero_left ha.2.2 ha.1
 obtain ⟨r, hr, h1, h2⟩ := sub_word_zero ha.2.2 ha.1 s1
 obtain ⟨s, hs, h3, h4⟩ := add_word_zero hb.2.2 hb.1 s2
 obtain ⟨fr, nr⟩ := same_or ha h1 h2
 obtain ⟨fs, ns⟩ := same_or hb h3 h4
 refine ⟨r, s, ?_, nr, ns⟩
 have e := stepD_eq (a := 4607182418800017408) (b := 0) (q := (a, b)) m1 m2 m3 m4
 rw [hr, hs] at e
 dsimp only at e
 rw [if_pos ⟨fr, fs⟩] at e
 rw [prodD, e]
 dsimp only
 rw [prodD]
def pairT (a b : Nat) : Tr := .list [.num a, .num b]
theorem pair_nums (a b : Nat) : pairT a b = .list ([a, b].map Tr.num) := rfl
theorem pair_fit (a b : Nat) : (pairT a b).fit = true := by rw [pair_nums]; exact nums_fit (by simp)
theorem pair_ok {a b : Nat} (ha : finB a = true ∧ normB a = a ∧ a < 18446744073709551616) (hb : finB b = true ∧ normB b = b ∧ b < 18446744073709551616) : (pairT a b).Ok := by
 rw [pair_nums]
 exact nums_ok fun x hx => by
  rcases List.mem_cons.1 hx with rfl | hx
  ·exact ha
  ·rw [List.mem_singleton] at hx
   rw [hx]
   exact hb
theorem one_fit (a b : Nat) : (Tr.list [pairT a b]).fit = true := by
 unfold Tr.fit pairT
 simp [Tr.nodes, Tr.bytes, Tr.depth, nodesL, bytesL, depthL]
theorem one_ok {a b : Nat} (ha : finB a = true ∧ normB a = a ∧ a < 18446744073709551616) (hb : finB b = true ∧ normB b = b ∧ b < 18446744073709551616) : (Tr.list [pairT a b]).Ok := by
 unfold Tr.Ok
 rw [okl_iff]
 intro t ht
 rw [List.mem_singleton] at ht
 rw [ht]
 exact ⟨pair_ok ha hb, pair_fit a b⟩
theorem pairD_pt (a b : Nat) (p : Tx) : pairD (pairT a b) p = .inr (a, b) := pairD_ok (u := pairT a b) rfl rfl rfl
theorem prsD_one (a b : Nat) (p : Tx) : prsD p [pairT a b] 0 = .inr [(a, b)] := by
 rw [prsD, pairD_pt, prsD]
 rfl
theorem prdP_one {a b : Nat} (ha : finB a = true ∧ normB a = a ∧ a < 18446744073709551616) (hb : finB b = true ∧ normB b = b ∧ b < 18446744073709551616) {w w' : World} {e : Ending} (hp : PrdP (.list [pairT a b]) [] w e w') : e = .returned (.tuple #[.complex .f64 a b, .nilIface]) ∧ Below w.heap.size w w' := by
 obtain ⟨r, s, h1, h2, h3⟩ := one_pair ha hb
 unfold PrdP at hp
 rw [lstD_nil (by rfl)] at hp
 dsimp only at hp
 rw [prdD_ok (u := .list [pairT a b]) (prsD_one a b []) h1] at hp
 dsimp only at hp
 rw [h2, h3] at hp
 exact hp
theorem norm_fin {x : Nat} (hx : x < 18446744073709551616) (hf : finB x = true) : finB (normB x) = true ∧ normB (normB x) = normB x ∧ normB x < 18446744073709551616 := by
 unfold normB
 split
 ·exact ⟨by decide, by decide, by decide⟩
 ·rename_i h
  exact ⟨hf, rfl, hx⟩
theorem step_pair (a b : Nat) (ha : finB a = true) (hb : finB b = true) : stepT [] (numS a) = (0, [.num (normB a)]) ∧ stepT [.num (normB a)] (numS b) = (0, [.num (normB a), .num (normB b)]) ∧ stepT [.num (normB a), .num (normB b)] (listS 2) = (0, [pairT (normB a) (normB b)]) ∧ stepT [pairT (normB a) (normB b)] (listS 1) = (0, [.list [pairT (normB a) (normB b)]]) :=
 ⟨step_num (by simp) ha, step_num (by simp) hb, step_all (l := [.num (normB a), .num (normB b)]) (pair_fit _ _), step_all (l := [pairT (normB a) (normB b)]) (one_fit _ _)⟩
theorem parse_zero : parseS (wrong [47, 48]) [47, 48] = .ok [[48]] := by
 have h := parse_of_print (w := wrong [47, 48]) (ts := [[48]]) (by decide) (by decide)
 exact h
theorem lead_zero (x : Tr) : leadT (.list [x]) [[48]] 0 = .inr x := by
 rw [leadT]
 have h : onT [48] (.list [x]) = some x := by
  unfold onT
  have e : idxC [48] 1 = some 0 := by
   have h1 : Lib.itoa 0 = [48] := by
    unfold Lib.itoa
    rw [if_neg (by decide)]
    unfold Lib.decDigits
    simp
   have h2 : Lib.atoiAll [48] = Lib.NumEnd.ok 0 := by decide
   unfold idxC
   rw [h2]
   simp [h1]
  simp [Tr.kids, e]
 rw [h]
 dsimp only
 rw [leadT]
end Nd
end Go.Proofs.YtbajkglacfheiaaGreatDoor
namespace Go.Proofs.YtbajkglacfheiaaGreatDoor
open Go.RowKit Mem Utf Ref3 Idx Tok TokC
set_option maxRecDepth 100000
namespace Nd
def TrueN (w : World) (e : Ending) (w' : World) : Prop := e = .returned (.bool true) ∧ Below w.heap.size w w'
end Nd
end Go.Proofs.YtbajkglacfheiaaGreatDoor
namespace Go.Proofs.YtbajkglacfheiaaGreatDoor
open Go.RowKit Mem Utf Ref3 Idx Tok TokC Ieee
set_option maxRecDepth 100000
namespace Nd
def CplP (p : Tx) (u : Tr) (w : World) (e : Ending) (w' : World) : Prop :=
 (match pairD u p with
  | .inl ev => e = .returned (.tuple #[.nilIface, ev])
  | .inr q => e = .returned (.tuple #[.iface 107 (.complex .f64 q.1 q.2), .nilIface])) ∧ Below w.heap.size w w'
theorem cplP_no {u : Tr} {p : Tx} {w w' : World} {ev : Value} (h : pairD u p = .inl ev) (hb : Below w.heap.size w w') : CplP p u w (.returned (.tuple #[.nilIface, ev])) w' := by
 unfold CplP
 rw [h]
 exact ⟨rfl, hb⟩
theorem cplP_ok {u : Tr} {p : Tx} {w w' : World} {a b : Nat} (h : pairD u p = .inr (a, b)) (hb : Below w.heap.size w w') : CplP p u w (.returned (.tuple #[.iface 107 (.complex .f64 a b), .nilIface])) w' := by
 unfold CplP
 rw [h]
 exact ⟨rfl, hb⟩
theorem cplP_two {u : Tr} {p : Tx} {w w' : World} {e : Ending} (h : CplP p u w e w') : ∃ a b, e = .returned (.tuple #[a, b]) := by
 unfold CplP at h
 obtain ⟨h, _⟩ := h
 split at h
 ·exact ⟨_, _, h⟩
 ·exact ⟨_, _, h⟩
theorem bcpl_14 (u : Tr) (v : Value) (p : Tx) (hp : p.length ≤ 8388608) (w : World) (h : RdA w u v) (hT : Tab w) : Calls Tryz.prog 85 #[.agg #[v], .string ⟨p.toArray⟩, .int .i64 14] w (CplP p u w) := by
 have q1 := err_ne_nil
 have q2 := err_ne_held
 have hx := ref_boxB w v
 have c1 := (Blk.new w 58 #[v]).cell 0
 have HX := Lib.hid hx
 have HPR := Lib.hid (bpair_any u v p hp _ (rda_below h hx) (hT.next hx))
 clear hx h hT
 go_enter Tryz.func85, Tryz.ntmps85
 go_wp2_with fail
 ((with_reducible refine (HPR.out).mono ?_); intro e w2 hp2)
 unfold PairP at hp2
 cases hpd : pairD u p with
 | inl ev =>
  rw [hpd] at hp2
  obtain ⟨rfl, hb2⟩ := hp2
  have HP := Lib.hid (cplP_no hpd (HX.out.trans (hb2.mono HX.out.size)))
  obtain ⟨TE, UE, rfl⟩ := pairD_form hpd
  clear hpd hb2 c1 HPR
  go_wp2
  go_ret2
  exact HP.out
 | inr q =>
  obtain ⟨a, b⟩ := q
  rw [hpd] at hp2
  obtain ⟨rfl, hb2⟩ := hp2
  have HP := Lib.hid (cplP_ok hpd (HX.out.trans (hb2.mono HX.out.size)))
  clear hpd hb2 c1 HPR
  dsimp only
  go_wp2
  go_ret2
  exact HP.out
theorem bind_14 (g : Nat) (t : Tr) (v : Value) (l : Tx) (w0 w : World) (hB : Blk w0 g 123 #[v]) (h : RdA w0 t v) (hb0 : Below w0.heap.size w0 w) (ho : t.Ok) (hf : t.fit = true) (hl : l.length ≤ 4194304) (hG : Glob w) (hT : Tab w) :
  Calls Tryz.prog 9 #[.pointer (some ⟨g, 0, none⟩), .string ⟨l.toArray⟩, .int .i64 14] w (BindP (CplP l) t l w) :=
 (bind_any (fun u => Later (CplP l u)) 14 (by omega) (by omega) g t v l w0 w hB h hb0 ho hf hl hG hT (fun u tx ux W hb hr ho _ => bound_14 (CplP l u) _ l W (fun W2 hb2 => bcpl_14 u _ l (by omega) W2 (rda_below hr hb2) ((hT.next hb).next hb2)) (fun _ _ _ => cplP_two)) (fun u W e w' ⟨_, _, hr⟩ => cplP_two hr)).mono fun e w' hp => bindP_join hp
theorem ta_c128 (v : Value) (W : World) : (Instr.typeAssert (.iface 107 v) 29 107 true).run Tryz.prog W = .ok (.tuple #[v, .bool true]) W := by kernel_rfl
theorem bind_one {a b : Nat} {w w' : World} {e : Ending} (hp : BindP (CplP [47, 48]) (.list [pairT a b]) [47, 48] w e w') : e = .returned (.tuple #[.iface 107 (.complex .f64 a b), .nilIface]) ∧ Below w.heap.size w w' := by
 unfold BindP at hp
 rw [parse_zero] at hp
 dsimp only at hp
 rw [lead_zero] at hp
 dsimp only at hp
 obtain ⟨W, hb, hp⟩ := hp
 unfold CplP at hp
 rw [pairD_pt] at hp
 exact ⟨hp.1, hb.trans (hp.2.mono hb.size)⟩
theorem rwx_new (w : World) : RwX w.heap.size 168 (w.heap.size + 1) [] (w.alloc (.cells #[.slice none 0 0] 168)) :=
 ⟨.slice none 0 0, [], Blk.new _ _ _, World.ownsRow_nil _ _ _ _, by unfold RdL; rfl, by simp, by omega, by simp⟩
theorem ord_self {b : Nat} (hb : b < 18446744073709551616) (hf : finB b = true) : (double.order b b == some .eq) = true := by
 rw [order_eq hb hb hf hf]
 simp
theorem single_x (x y : Nat) (hx : x < 18446744073709551616) (hy : y < 18446744073709551616) (w : World) (hG : Glob w) (hT : Tab w) (hb : ¬ finB x = true) : Calls Tryz.prog 27 #[.int .u64 (x : Int), .int .u64 (y : Int)] w (TrueN w) := by
 have q1 := err_ne_nil
 have q2 := err_ne_held
 have q3 := err_eq_nil
 have q4 := err_eq_held
 have f1 := fromBits x
 have f2 := fromBits y
 have HXY := Lib.hid (And.intro hx hy)
 have HG := Lib.hid (And.intro hG hT)
 clear hx hy hG hT
 have HS := Lib.hid (step_nonum (l := []) (by decide) hb)
 clear hb
 go_enter Tryz.func27, Tryz.ntmps27
 go_wp2_with fail
 ((with_reducible refine (mnew_any _).mono ?_); rintro e w1 ⟨rfl, hw1⟩)
 have HX1 : Hid (RwX w.heap.size 168 (w.heap.size + 1) [] w1) := Lib.hid (by rw [← hw1]; exact rwx_new w)
 have HB1 : Hid (Below w.heap.size w w1) := Lib.hid (by rw [← hw1]; exact (Below.refl _ _).alloc (Nat.le_refl _) _)
 clear hw1
 go_wp2_with fail
 ((with_reducible refine (mk_num x HXY.out.1 w.heap.size 168 (w.heap.size + 1) [] _ HX1.out (by simp)).mono ?_); rintro e w2 ⟨rfl, hx2, hb2, _⟩)
 rw [HS.out] at hx2 ⊢
 dsimp only at hx2 ⊢
 rw [show errV 104 = errN 104 from rfl]
 have HX2 := Lib.hid hx2
 have HB2 := Lib.hid (HB1.out.trans hb2)
 clear hx2 hb2
 unfold errN
 go_wp2
 go_ret
 exact ⟨rfl, HB2.out⟩
theorem single_y (x y : Nat) (hx : x < 18446744073709551616) (hy : y < 18446744073709551616) (w : World) (hG : Glob w) (hT : Tab w) (ha : finB x = true) (hb : ¬ finB y = true) : Calls Tryz.prog 27 #[.int .u64 (x : Int), .int .u64 (y : Int)] w (TrueN w) := by
 have q1 := err_ne_nil
 have q2 := err_ne_held
 have q3 := err_eq_nil
 have q4 := err_eq_held
 have f1 := fromBits x
 have f2 := fromBits y
 have HXY := Lib.hid (And.intro hx hy)
 have HG := Lib.hid (And.intro hG hT)
 clear hx hy hG hT
 have hst0 := step_num (l := []) (by decide) ha
 rw [List.nil_append] at hst0
 have HS := Lib.hid hst0
 have HS2 := Lib.hid (step_nonum (l := [.num (normB x)]) (by simp) hb)
 clear ha hb
 go_enter Tryz.func27, Tryz.ntmps27
 go_wp2_with fail
 ((with_reducible refine (mnew_any _).mono ?_); rintro e w1 ⟨rfl, hw1⟩)
 have HX1 : Hid (RwX w.heap.size 168 (w.heap.size + 1) [] w1) := Lib.hid (by rw [← hw1]; exact rwx_new w)
 have HB1 : Hid (Below w.heap.size w w1) := Lib.hid (by rw [← hw1]; exact (Below.refl _ _).alloc (Nat.le_refl _) _)
 clear hw1
 go_wp2_with fail
 ((with_reducible refine (mk_num x HXY.out.1 w.heap.size 168 (w.heap.size + 1) [] _ HX1.out (by simp)).mono ?_); rintro e w2 ⟨rfl, hx2, hb2, _⟩)
 rw [HS.out] at hx2 ⊢
 dsimp only at hx2 ⊢
 rw [show errV 0 = .nilIface from rfl]
 have HX2 := Lib.hid hx2
 have HB2 := Lib.hid (HB1.out.trans hb2)
 clear hx2 hb2
 go_wp2_with fail
 ((with_reducible refine (mk_num y HXY.out.2 w.heap.size 168 (w.heap.size + 1) [.num (normB x)] _ HX2.out (by simp)).mono ?_); rintro e w3 ⟨rfl, hx3, hb3, _⟩)
 rw [HS2.out] at hx3 ⊢
 dsimp only at hx3 ⊢
 rw [show errV 104 = errN 104 from rfl]
 have HX3 := Lib.hid hx3
 have HB3 := Lib.hid (HB2.out.trans hb3)
 clear hx3 hb3
 unfold errN
 go_wp2
 go_ret
 exact ⟨rfl, HB3.out⟩
theorem single_ok (x y : Nat) (hx : x < 18446744073709551616) (hy : y < 18446744073709551616) (w : World) (hG : Glob w) (hT : Tab w) (ha : finB x = true) (hb : finB y = true) : Calls Tryz.prog 27 #[.int .u64 (x : Int), .int .u64 (y : Int)] w (TrueN w) := by
 have q1 := err_ne_nil
 have q2 := err_ne_held
 have q3 := err_eq_nil
 have q4 := err_eq_held
 have f1 := fromBits x
 have f2 := fromBits y
 have HXY := Lib.hid (And.intro hx hy)
 have HG := Lib.hid (And.intro hG hT)
 clear hx hy hG hT
 have HS := Lib.hid (step_pair x y ha hb)
 obtain ⟨a, haa⟩ : ∃ a, normB x = a := ⟨_, rfl⟩
 obtain ⟨b, hbb⟩ : ∃ b, normB y = b := ⟨_, rfl⟩
 have hna := norm_fin HXY.out.1 ha
 have hnb := norm_fin HXY.out.2 hb
 rw [haa] at hna HS
 rw [hbb] at hnb HS
 have HNA := Lib.hid hna
 have HNB := Lib.hid hnb
 have o1 := ord_self hna.2.2 hna.1
 have o2 := ord_self hnb.2.2 hnb.1
 have r1 := ordt o1
 have r2 := ordb o1
 have r3 := ordn o1
 have r4 := ordt o2
 have r5 := ordb o2
 have r6 := ordn o2
 have t1 := ta_c128
 clear ha hb haa hbb hna hnb o1 o2
 go_enter Tryz.func27, Tryz.ntmps27
 go_wp2_with fail
 ((with_reducible refine (mnew_any _).mono ?_); rintro e w1 ⟨rfl, hw1⟩)
 have HX1 : Hid (RwX w.heap.size 168 (w.heap.size + 1) [] w1) := Lib.hid (by rw [← hw1]; exact rwx_new w)
 have HB1 : Hid (Below w.heap.size w w1) := Lib.hid (by rw [← hw1]; exact (Below.refl _ _).alloc (Nat.le_refl _) _)
 clear hw1
 go_wp2_with fail
 ((with_reducible refine (mk_num x HXY.out.1 w.heap.size 168 (w.heap.size + 1) [] _ HX1.out (by simp)).mono ?_); rintro e w2 ⟨rfl, hx2, hb2, _⟩)
 rw [HS.out.1] at hx2 ⊢
 dsimp only at hx2 ⊢
 rw [show errV 0 = .nilIface from rfl]
 have HX2 := Lib.hid hx2
 have HB2 := Lib.hid (HB1.out.trans hb2)
 clear hx2 hb2
 go_wp2_with fail
 ((with_reducible refine (mk_num y HXY.out.2 w.heap.size 168 (w.heap.size + 1) [.num a] _ HX2.out (by simp)).mono ?_); rintro e w3 ⟨rfl, hx3, hb3, _⟩)
 rw [HS.out.2.1] at hx3 ⊢
 dsimp only at hx3 ⊢
 rw [show errV 0 = .nilIface from rfl]
 have HX3 := Lib.hid hx3
 have HB3 := Lib.hid (HB2.out.trans hb3)
 clear hx3 hb3
 go_wp2_with fail
 ((with_reducible refine (mk_list 2 w.heap.size 168 (w.heap.size + 1) [.num a, .num b] _ HX3.out (by simp)).mono ?_); rintro e w4 ⟨rfl, hx4, hb4, _⟩)
 rw [HS.out.2.2.1] at hx4 ⊢
 dsimp only at hx4 ⊢
 rw [show errV 0 = .nilIface from rfl]
 have HX4 := Lib.hid hx4
 have HB4 := Lib.hid (HB3.out.trans hb4)
 clear hx4 hb4
 go_wp2_with fail
 ((with_reducible refine (mk_list 1 w.heap.size 168 (w.heap.size + 1) [pairT a b] _ HX4.out (by simp)).mono ?_); rintro e w5 ⟨rfl, hx5, hb5, _⟩)
 rw [HS.out.2.2.2] at hx5 ⊢
 dsimp only at hx5 ⊢
 rw [show errV 0 = .nilIface from rfl]
 have HX5 := Lib.hid hx5
 have HB5 := Lib.hid (HB4.out.trans hb5)
 clear hx5 hb5
 go_wp2_with fail
 ((with_reducible refine (mk_tree w.heap.size 168 (w.heap.size + 1) (.list [pairT a b]) _ HX5.out).mono ?_); rintro e w6 ⟨⟨g, rfl, hTA⟩, hb6⟩)
 obtain ⟨_, hfit, tv, hB, hrd⟩ := hTA
 have hra : RdA w6 (.list [pairT a b]) tv := RdT.move (fun j hj hs => ⟨trivial, rfl⟩) _ _ hrd
 have HBT := Lib.hid (And.intro hB (And.intro hra (And.intro (one_ok HNA.out HNB.out) hfit)))
 have HB6 := Lib.hid (HB5.out.trans (hb6.mono HB5.out.size))
 clear hB hrd hfit hra hb6
 go_wp2_with fail
 ((with_reducible refine (bprod_any g (.list [pairT a b]) tv [] w6 _ HBT.out.1 HBT.out.2.1 (Below.refl _ _) HBT.out.2.2.1 HBT.out.2.2.2 (by simp) (HG.out.1.next HB6.out) (HG.out.2.next HB6.out)).mono ?_); intro e w7 hp)
 obtain ⟨rfl, hb7⟩ := prdP_one HNA.out HNB.out hp
 have HB67 := Lib.hid hb7
 have HB7 := Lib.hid (HB6.out.trans (hb7.mono HB6.out.size))
 clear hb7 hp
 go_wp2_with fail
 ((with_reducible refine (bind_14 g (.list [pairT a b]) tv [47, 48] w6 _ HBT.out.1 HBT.out.2.1 HB67.out HBT.out.2.2.1 HBT.out.2.2.2 (by simp) (HG.out.1.next HB7.out) (HG.out.2.next HB7.out)).mono ?_); intro e w8 hp)
 obtain ⟨rfl, hb8⟩ := bind_one hp
 have HB8 := Lib.hid (HB7.out.trans (hb8.mono HB7.out.size))
 clear hb8 hp
 go_wp2
 go_ret
 exact ⟨rfl, HB8.out⟩
theorem single_any (x y : Nat) (hx : x < 18446744073709551616) (hy : y < 18446744073709551616) (w : World) (hG : Glob w) (hT : Tab w) : Calls Tryz.prog 27 #[.int .u64 (x : Int), .int .u64 (y : Int)] w (TrueN w) := by
 by_cases ha : finB x = true
 ·by_cases hb : finB y = true
  ·exact single_ok x y hx hy w hG hT ha hb
  ·exact single_y x y hx hy w hG hT ha hb
 ·exact single_x x y hx hy w hG hT ha
end Nd
end Go.Proofs.YtbajkglacfheiaaGreatDoor
