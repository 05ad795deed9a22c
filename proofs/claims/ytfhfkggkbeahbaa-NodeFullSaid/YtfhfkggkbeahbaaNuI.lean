/-
  The walk of the law NodeFull: plain part and the maker's steps at a full row.
-/
import Derived.Test.YtfhfkggkbeahbaaNuH
import Derived.Test.YtfhfkggkbeahbaaNuF
import Derived.Test.YtfhfkggkbeahbaaNdH
import Derived.LoopTactic
namespace Go.Proofs.Ytfhfkggkbeahbaa
open Go.RowKit Mem
set_option linter.unusedVariables false
namespace Nd

theorem nodesL_nul : ∀ k : Nat, nodesL (List.replicate k .null) = k
  | 0 => by simp [nodesL]
  | k + 1 => by
    rw [List.replicate_succ]
    unfold nodesL
    rw [nodesL_nul k]
    unfold Tr.nodes
    omega
theorem bytesL_nul : ∀ k : Nat, bytesL (List.replicate k .null) = 0
  | 0 => by simp [bytesL]
  | k + 1 => by
    rw [List.replicate_succ]
    unfold bytesL
    rw [bytesL_nul k]
    unfold Tr.bytes
    omega
theorem depthL_nul : ∀ k : Nat, depthL (List.replicate k .null) ≤ 1
  | 0 => by simp [depthL]
  | k + 1 => by
    rw [List.replicate_succ]
    unfold depthL
    have := depthL_nul k
    unfold Tr.depth
    omega
theorem fit_nul (k : Nat) : (Tr.list (List.replicate k .null)).fit = decide (1 + k ≤ 65536) := by
  have hd := depthL_nul k
  unfold Tr.fit Tr.nodes Tr.bytes Tr.depth
  rw [nodesL_nul, bytesL_nul]
  rw [decide_eq_true (p := 0 ≤ 2097152) (by omega), decide_eq_true (p := depthL (List.replicate k .null) + 1 ≤ 512) (by omega)]
  simp
theorem ok_nul (k : Nat) : (Tr.list (List.replicate k .null)).Ok := by
  unfold Tr.Ok
  refine (okl_iff _).2 fun t ht => ?_
  rw [(List.mem_replicate.1 ht).2]
  exact ⟨by unfold Tr.Ok; trivial, by rfl⟩
theorem stepT_nul (k : Nat) (hk : k < 65536) : stepT (List.replicate k .null) nullS = (0, List.replicate (k + 1) .null) := by
  unfold stepT
  rw [if_neg (by simp; omega)]
  unfold doT
  rw [if_neg (by simp [nullS, usedB]), if_pos (show nullS.sort = 1 from rfl), List.replicate_succ']
theorem used_list (n : Int) (h : 0 ≤ n) : usedB (listS n).sort (listS n).flag (listS n).bits (listS n).text (listS n).count (listS n).keys.length = true := by
  simp [listS, usedB]
  exact decide_eq_true h
theorem stepT_list (l : List Tr) (k : Nat) : stepT l (listS k) = listT k l := by
  unfold stepT
  rw [if_neg (by simp [listS])]
  unfold doT
  rw [if_neg (by rw [used_list _ (by omega)]; simp), if_neg (by simp [listS]), if_neg (by simp [listS]), if_neg (by simp [listS]), if_neg (by simp [listS]), if_pos (show (listS k).sort = 5 from rfl)]
  show listT (k : Int).toNat l = _
  simp
theorem listT_full (N : Nat) (hN : N = 65536) : listT N (List.replicate N .null) = (3, List.replicate N .null) := by
  unfold listT
  rw [if_neg (by simp), if_neg (by simp [fit_nul]; omega)]
theorem listT_some (N k : Nat) (hN : N = 65536) (h1 : 1 ≤ k) (h2 : k < N) : listT k (List.replicate N .null) = (0, List.replicate (N - k) .null ++ [.list (List.replicate k .null)]) := by
  have e : (List.replicate N Tr.null).drop ((List.replicate N Tr.null).length - k) = List.replicate k Tr.null := by
    simp
    omega
  have e2 : (List.replicate N Tr.null).take ((List.replicate N Tr.null).length - k) = List.replicate (N - k) Tr.null := by
    simp
  unfold listT
  rw [if_neg (by simp; omega), e, e2, if_pos (by simp [fit_nul]; omega)]
/-- a row of trees in memory that was made behind the world w0 -/
structure RwY (w0 : World) (p : Nat) (ty : TypeId) (B : Nat) (l : List Tr) (w : World) : Prop where
  row : RwX p ty B l w
  bel : Below p w0 w
section
variable {w0 : World} {p : Nat} {ty : TypeId} {B : Nat} {l : List Tr} {w : World}
theorem RwY.below {w' : World} (h : RwY w0 p ty B l w) (hb : Below w.heap.size w w') : RwY w0 p ty B l w' :=
  ⟨h.row.below hb, h.bel.trans (hb.mono (by have := h.row.plt; omega))⟩
theorem f_null (hR : RwY w0 p ty B l w) (hn : 65536 ≤ l.length) : Calls Try.prog 8 #[.pointer (some ⟨p, 0, none⟩)] w fun e w' => e = .returned (errN 3) ∧ RwY w0 p ty B l w' := by
  obtain ⟨A, q, hB⟩ := hR.row.slice
  exact (mnull_full p ty A _ q w hB hn).mono fun e w' h => ⟨h.1, hR.below h.2⟩
theorem f_flag (hR : RwY w0 p ty B l w) (hn : 65536 ≤ l.length) (b : Bool) : Calls Try.prog 10 #[.pointer (some ⟨p, 0, none⟩), .bool b] w fun e w' => e = .returned (errN 3) ∧ RwY w0 p ty B l w' := by
  obtain ⟨A, q, hB⟩ := hR.row.slice
  exact (mflag_full b p ty A _ q w hB hn).mono fun e w' h => ⟨h.1, hR.below h.2⟩
theorem f_num (hR : RwY w0 p ty B l w) (hn : 65536 ≤ l.length) (x : Nat) : Calls Try.prog 11 #[.pointer (some ⟨p, 0, none⟩), .float .f64 x] w fun e w' => e = .returned (errN 3) ∧ RwY w0 p ty B l w' := by
  obtain ⟨A, q, hB⟩ := hR.row.slice
  exact (mnum_full x p ty A _ q w hB hn).mono fun e w' h => ⟨h.1, hR.below h.2⟩
theorem f_text (hR : RwY w0 p ty B l w) (hn : 65536 ≤ l.length) (t : List UInt8) : Calls Try.prog 12 #[.pointer (some ⟨p, 0, none⟩), .string ⟨t.toArray⟩] w fun e w' => e = .returned (errN 3) ∧ RwY w0 p ty B l w' := by
  obtain ⟨A, q, hB⟩ := hR.row.slice
  exact (mtext_full t p ty A _ q w hB hn).mono fun e w' h => ⟨h.1, hR.below h.2⟩
theorem f_copy (hR : RwY w0 p ty B l w) (hn : 65536 ≤ l.length) (x : TypeId) (y : Value) : Calls Try.prog 15 #[.pointer (some ⟨p, 0, none⟩), .agg #[.iface x y]] w fun e w' => e = .returned (errN 3) ∧ RwY w0 p ty B l w' := by
  obtain ⟨A, q, hB⟩ := hR.row.slice
  exact (mcopy_full x y p ty A _ q w hB hn).mono fun e w' h => ⟨h.1, hR.below h.2⟩
theorem f_copy0 (hR : RwY w0 p ty B l w) : Calls Try.prog 15 #[.pointer (some ⟨p, 0, none⟩), .agg #[.nilIface]] w fun e w' => e = .returned (errN 4) ∧ RwY w0 p ty B l w' :=
  (mcopy_none p w).mono fun e w' h => ⟨h.1, hR.below h.2⟩
theorem f_len (hR : RwY w0 p ty B l w) : Calls Try.prog 13 #[.pointer (some ⟨p, 0, none⟩)] w fun e w' => e = .returned (.int .i64 l.length) ∧ w = w' := by
  obtain ⟨A, q, hB⟩ := hR.row.slice
  exact mlen_any p ty A _ q w hB
theorem g_null (hR : RwY w0 p ty B l w) (hn : l.length ≤ 65536) :
    Calls Try.prog 8 #[.pointer (some ⟨p, 0, none⟩)] w fun e w' => e = .returned (errV (stepT l nullS).1) ∧ RwY w0 p ty B (stepT l nullS).2 w' :=
  (mk_null p ty B l w hR.row hn).mono fun e w' h => ⟨h.1, h.2.1, hR.bel.trans h.2.2⟩
theorem g_list (n : Int) (hR : RwY w0 p ty B l w) (hn : l.length ≤ 65536) :
    Calls Try.prog 17 #[.pointer (some ⟨p, 0, none⟩), .int .i64 n] w fun e w' => e = .returned (errV (stepT l (listS n)).1) ∧ RwY w0 p ty B (stepT l (listS n)).2 w' :=
  (mk_list n p ty B l w hR.row hn).mono fun e w' h => ⟨h.1, h.2.1, hR.bel.trans h.2.2⟩
end
end Nd
end Go.Proofs.Ytfhfkggkbeahbaa
