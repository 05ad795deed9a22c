/-
  Walks of package node: every step.
-/
import Derived.Test.YtfhfkggkbeahbaaNtY
import Derived.Test.YtfhfkggkbeahbaaNtL
import Derived.Test.YtfhfkggkbeahbaaNtJ
namespace Go.Proofs.Ytfhfkggkbeahbaa
open Go.RowKit Mem
set_option linter.unusedVariables false
namespace Nd

def errV (n : Int) : Value := if n = 0 then .nilIface else errN n
theorem objT_same {R : Tx → Bool} {ks : List Tx} {l : List Tr} (h : (objT R ks l).1 ≠ 0) : (objT R ks l).2 = l := by
  unfold objT at h ⊢
  split
  · rfl
  · split
    · rfl
    · split
      · rfl
      · split
        · rename_i h1 h2 h3 h4
          rw [if_neg h1, if_neg h2, if_neg h3, if_pos h4] at h
          exact absurd rfl h
        · rfl
set_option maxRecDepth 100000 in
set_option maxHeartbeats 4000000 in
theorem do_obj (ks : List Tx) (A : Option Addr) (n q : Nat) (p : Nat) (ty : TypeId) (B : Nat) (l : List Tr) (v : Value) (xs : List Value) (w : World) (hR : Rw p ty B (fun _ => False) l v xs w) (hus : usedB 6 false 0 [] 0 n = true) (hkv : RdK w (.slice A n q) ks) (hkl : ∀ k ∈ ks, k.length ≤ 1099511627776) (hbk : lens ks ≤ 1099511627776) (hkn : ks.length ≤ 1099511627776) (hmx : l.length ≤ 65536) :
    Calls Try.prog 27 #[.pointer (some ⟨p, 0, none⟩), .agg #[.int .i64 6, .bool false, .int .u64 0, .string ⟨([] : Tx).toArray⟩, .int .i64 0, .slice A n q]] w fun e w' => e = .returned (errV (objT rightB ks l).1) ∧ RwX p ty B (objT rightB ks l).2 w' ∧ Below p w w' := by
  have hmf : ∀ (fn : Fn) (first cap : Array Value) (w : World), (Instr.makeFunc fn first cap).run Try.prog w = .ok (.func fn first cap) w := fun _ _ _ _ => rfl
  have HKV := Lib.hid hkv
  have HKL := Lib.hid hkl
  clear hkv hkl
  have HR := Lib.hid hR
  clear hR
  go_enter_defers Try.func27, Try.ntmps27
  go_wp2_with fail
  refine (used_any 6 false 0 [] 0 A n q _).mono ?_
  rw [hus]
  rintro e w1 ⟨rfl, hb1⟩
  obtain ⟨hbw, hS1, hE1, hsz⟩ := head_blocks w _ hb1
  clear hb1
  have c0 : w1.cell? ⟨w.heap.size, 0, none⟩ = some (.int .i64 6) := hS1.cell 0
  have c1 : w1.cell? ⟨w.heap.size, 1, none⟩ = some (.bool false) := hS1.cell 1
  have c2 : w1.cell? ⟨w.heap.size, 2, none⟩ = some (.int .u64 0) := hS1.cell 2
  have c3 : w1.cell? ⟨w.heap.size, 3, none⟩ = some (.string ⟨([] : Tx).toArray⟩) := hS1.cell 3
  have c4 : w1.cell? ⟨w.heap.size, 4, none⟩ = some (.int .i64 0) := hS1.cell 4
  have c5 : w1.cell? ⟨w.heap.size, 5, none⟩ = some (.slice A n q) := hS1.cell 5
  clear hS1
  go_wp2_with fail
  refine (refuse_yes 2 _).mono ?_
  rintro e w' ⟨rfl, rfl⟩
  have hRX := ((HR.out.avoid (X' := fun k => k = w.heap.size + 1) fun k hk => .inr (by omega)).below hbw)
  have HRX := Lib.hid hRX
  have HKV1 := Lib.hid (HKV.out.below hbw)
  clear hRX
  go_wp2_with fail
  ((with_reducible refine (object_any p ty B (fun k => k = w.heap.size + 1) l v xs ks _ (.slice A n q) HRX.out (fun k hk => by omega) HKV1.out HKL.out hbk hkn hmx).mono ?_); intro e w2 hP)
  rcases hP with ⟨m, hm1, hm0, rfl, hb2⟩ | ⟨hm1, rfl, v2, xs2, hR2, hob2, hb2, hk2⟩
  · have hev : errV (objT rightB ks l).1 = errN m := by unfold errV; rw [hm1, if_neg hm0]
    have hls : (objT rightB ks l).2 = l := objT_same (by rw [hm1]; exact hm0)
    have HEV := Lib.hid hev
    have HLS := Lib.hid hls
    clear hev hls hm1
    obtain ⟨⟨hc, hz⟩, hc2, hrx, hbp⟩ := fin_err m HR.out hbw (by omega) hsz hE1 hb2
    go_wp2
    refine leaves_cons (f := 32) (args := #[.pointer (some ⟨w.heap.size + 1, 0, none⟩)]) (by simp) (by simp [go_sem]) ?_
    refine (catch_panicking ⟨w.heap.size + 1, 0, none⟩ _ m [] _ hc hz).mono ?_
    rintro e u' w'' ⟨rfl, rfl, rfl⟩
    unfold errN at hc2 hrx hbp HEV
    simp [Leaves, settle, results, Try.results27, go_sem, hc2]
    exact ⟨by rw [HEV.out], by rw [HLS.out]; exact hrx, hbp⟩
  · have hev : errV (objT rightB ks l).1 = .nilIface := by unfold errV; rw [hm1, if_pos rfl]
    have HEV := Lib.hid hev
    clear hev hm1
    obtain ⟨⟨hc, hz⟩, hc2, hrx, hbp⟩ := fin_ok HR.out hbw (by omega) hsz hE1 hR2 hob2 hb2 hk2
    clear hR2
    go_wp2
    refine leaves_cons (f := 32) (args := #[.pointer (some ⟨w.heap.size + 1, 0, none⟩)]) (by simp) (by simp [go_sem]) ?_
    refine (catch_idle ⟨w.heap.size + 1, 0, none⟩ _).mono ?_
    rintro e u' w'' ⟨rfl, rfl, rfl⟩
    simp [Leaves, settle, results, Try.results27, go_sem, hc2]
    exact ⟨by rw [HEV.out], hrx, hbp⟩
/-- a step -/
structure Stp where
  sort : Int
  flag : Bool
  bits : Nat
  text : Tx
  count : Int
  keys : List Tx
def listT (k : Nat) (l : List Tr) : Int × List Tr :=
  if l.length < k then (102, l) else if (Tr.list (l.drop (l.length - k))).fit = true then (0, l.take (l.length - k) ++ [.list (l.drop (l.length - k))]) else (3, l)
/-- what a step does to a row of trees: an error, or 0, and the row then -/
def doT (l : List Tr) (s : Stp) : Int × List Tr :=
  if usedB s.sort s.flag s.bits s.text s.count s.keys.length = false then (2, l)
  else if s.sort = 1 then (0, l ++ [.null])
  else if s.sort = 2 then (0, l ++ [.flag s.flag])
  else if s.sort = 3 then (if finB s.bits = true then (0, l ++ [.num (normB s.bits)]) else (104, l))
  else if s.sort = 4 then (if rightB s.text = true then (if s.text.length ≤ 2097152 then (0, l ++ [.text s.text]) else (3, l)) else (100, l))
  else if s.sort = 5 then listT s.count.toNat l
  else objT rightB s.keys l
/-- a step of no great size -/
structure Stp.Fine (s : Stp) : Prop where
  bits : s.bits < 18446744073709551616
  text : s.text.length ≤ 1099511627776
  kl : ∀ k ∈ s.keys, k.length ≤ 1099511627776
  bk : lens s.keys ≤ 1099511627776
  kn : s.keys.length ≤ 1099511627776
theorem used_shape {s : Int} {f : Bool} {b : Nat} {t : Tx} {c : Int} {n : Nat} (h : usedB s f b t c n = true) : 1 ≤ s ∧ s ≤ 6 ∧ 0 ≤ c ∧ (s ≠ 2 → f = false) ∧ (s ≠ 3 → b = 0) ∧ (s ≠ 4 → t = []) ∧ (s ≠ 5 → c = 0) ∧ (s ≠ 6 → n = 0) := by
  simp [usedB] at h
  refine ⟨by omega, by omega, by omega, fun e => ?_, fun e => by omega, fun e => ?_, fun e => by omega, fun e => by omega⟩
  · rcases h.1.1.1.1.2 with h | h
    · exact h
    · exact absurd h e
  · rcases h.1.1.2 with h | h
    · exact h
    · exact absurd h e
theorem do_any (s : Stp) (hs : s.Fine) (A : Option Addr) (q : Nat) (p : Nat) (ty : TypeId) (B : Nat) (l : List Tr) (w : World) (hR : RwX p ty B l w) (hkv : RdK w (.slice A s.keys.length q) s.keys) (hmx : l.length ≤ 65536) :
    Calls Try.prog 27 #[.pointer (some ⟨p, 0, none⟩), .agg #[.int .i64 s.sort, .bool s.flag, .int .u64 (s.bits : Int), .string ⟨s.text.toArray⟩, .int .i64 s.count, .slice A s.keys.length q]] w fun e w' => e = .returned (errV (doT l s).1) ∧ RwX p ty B (doT l s).2 w' ∧ Below p w w' := by
  obtain ⟨v, xs, hR⟩ := hR
  obtain ⟨so, f, b, t, c, ks⟩ := s
  obtain ⟨hb, ht, hkl, hbk, hkn⟩ := hs
  simp only at hb ht hkl hbk hkn hkv ⊢
  unfold doT
  simp only
  cases hus : usedB so f b t c ks.length with
  | false =>
    rw [if_pos rfl]
    exact do_bad so f b t c A ks.length q p ty B l v xs w hR hus
  | true =>
    rw [if_neg (by simp)]
    obtain ⟨h1, h2, h3, h4, h5, h6, h7, h8⟩ := used_shape hus
    have hcase : so = 1 ∨ so = 2 ∨ so = 3 ∨ so = 4 ∨ so = 5 ∨ so = 6 := by omega
    rcases hcase with rfl | rfl | rfl | rfl | rfl | rfl
    · obtain rfl := h4 (by decide)
      obtain rfl := h5 (by decide)
      obtain rfl := h6 (by decide)
      obtain rfl := h7 (by decide)
      rw [if_pos rfl]
      exact do_nul A ks.length q p ty B l v xs w hR hus (by omega)
    · obtain rfl := h5 (by decide)
      obtain rfl := h6 (by decide)
      obtain rfl := h7 (by decide)
      rw [if_neg (by decide), if_pos rfl]
      exact do_flag f A ks.length q p ty B l v xs w hR hus (by omega)
    · obtain rfl := h4 (by decide)
      obtain rfl := h6 (by decide)
      obtain rfl := h7 (by decide)
      rw [if_neg (by decide), if_neg (by decide), if_pos rfl]
      by_cases hf : b % 9223372036854775808 < 9218868437227405312
      · have hfb : finB b = true := by unfold finB; exact decide_eq_true hf
        rw [if_pos hfb]
        unfold normB
        by_cases hz : b % 9223372036854775808 = 0
        · rw [if_pos hz]
          exact do_num_zero b A ks.length q p ty B l v xs w hR hus hb (by omega) hf hz
        · rw [if_neg hz]
          exact do_num_some b A ks.length q p ty B l v xs w hR hus hb (by omega) hf hz
      · have hfb : ¬ finB b = true := by unfold finB; simpa using hf
        rw [if_neg hfb]
        by_cases hi : b % 9223372036854775808 = 9218868437227405312
        · exact do_num_inf b A ks.length q p ty B l v xs w hR hus hb (by omega) hi
        · exact do_num_nan b A ks.length q p ty B l v xs w hR hus hb (by omega) (by omega)
    · obtain rfl := h4 (by decide)
      obtain rfl := h5 (by decide)
      obtain rfl := h7 (by decide)
      rw [if_neg (by decide), if_neg (by decide), if_neg (by decide), if_pos rfl]
      cases hr : rightB t with
      | true =>
        rw [if_pos rfl]
        by_cases hl : t.length ≤ 2097152
        · rw [if_pos hl]
          exact do_text_ok t A ks.length q p ty B l v xs w hR hus ht (by omega) hr hl
        · rw [if_neg hl]
          exact do_text_long t A ks.length q p ty B l v xs w hR hus ht (by omega) hr hl
      | false =>
        rw [if_neg (by simp)]
        exact do_text_bad t A ks.length q p ty B l v xs w hR hus ht (by omega) hr
    · obtain rfl := h4 (by decide)
      obtain rfl := h5 (by decide)
      obtain rfl := h6 (by decide)
      rw [if_neg (by decide), if_neg (by decide), if_neg (by decide), if_neg (by decide), if_pos rfl]
      unfold listT
      obtain ⟨k, rfl⟩ : ∃ k : Nat, c = (k : Int) := ⟨c.toNat, by omega⟩
      rw [Int.toNat_natCast]
      by_cases hl : l.length < k
      · rw [if_pos hl]
        exact do_list_few (k : Int) A ks.length q p ty B l v xs w hR hus hmx (by omega)
      · rw [if_neg hl]
        cases hf : (Tr.list (l.drop (l.length - k))).fit with
        | true =>
          rw [if_pos rfl]
          exact do_list_ok k A ks.length q p ty B l v xs w hR hus hmx (by omega) hf
        | false =>
          rw [if_neg (by simp)]
          exact do_list_long k A ks.length q p ty B l v xs w hR hus hmx (by omega) hf
    · obtain rfl := h4 (by decide)
      obtain rfl := h5 (by decide)
      obtain rfl := h6 (by decide)
      obtain rfl := h7 (by decide)
      rw [if_neg (by decide), if_neg (by decide), if_neg (by decide), if_neg (by decide), if_neg (by decide)]
      exact do_obj ks A ks.length q p ty B l v xs w hR hus hkv hkl hbk hkn hmx
end Nd
end Go.Proofs.Ytfhfkggkbeahbaa
