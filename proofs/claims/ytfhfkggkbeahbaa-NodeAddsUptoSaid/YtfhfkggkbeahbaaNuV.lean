/-
  The walk of the law NodeAdds: a round.
-/
import Derived.Test.YtfhfkggkbeahbaaNbD
import Derived.Test.YtfhfkggkbeahbaaNuQ
namespace Go.Proofs.Ytfhfkggkbeahbaa
open Go.RowKit Go.Shelf Mem
set_option linter.unusedVariables false
set_option linter.unusedSimpArgs false
namespace Nd
attribute [local go_sem] Oper.semAt_some

def cFst : Code → Code
  | .seq a _ => a
  | c => c
def cNxt : Code → Code
  | .seq _ b => b
  | c => c
def cBlk : Code → Code
  | .block _ b => b
  | c => c
def cLoop : Code → Code
  | .loop b => b
  | c => c
noncomputable def adX : Code := cLoop (cBlk (cNxt (cFst (cNxt (cNxt (cNxt (Try.f4.body.getD .skip)))))))
theorem boxed_below {W W' : World} {B : Nat} {t : TypeId} {v : Value} (h : Boxed W B t v) (hb : Below W.heap.size W W') : Boxed W' B t v := (hb.block B h.lt).trans h
theorem four_boxes (w : World) (t1 t2 t3 t4 : TypeId) (a b c d : Value) : Boxed ((((w.alloc (.cells #[a] t1)).alloc (.cells #[b] t2)).alloc (.cells #[c] t3)).alloc (.cells #[d] t4)) w.heap.size t1 a ∧ Boxed ((((w.alloc (.cells #[a] t1)).alloc (.cells #[b] t2)).alloc (.cells #[c] t3)).alloc (.cells #[d] t4)) (w.heap.size + 1) t2 b ∧ Boxed ((((w.alloc (.cells #[a] t1)).alloc (.cells #[b] t2)).alloc (.cells #[c] t3)).alloc (.cells #[d] t4)) (w.heap.size + 1 + 1) t3 c ∧ Boxed ((((w.alloc (.cells #[a] t1)).alloc (.cells #[b] t2)).alloc (.cells #[c] t3)).alloc (.cells #[d] t4)) (w.heap.size + 1 + 1 + 1) t4 d ∧ Below w.heap.size w ((((w.alloc (.cells #[a] t1)).alloc (.cells #[b] t2)).alloc (.cells #[c] t3)).alloc (.cells #[d] t4)) := by
  have h1 := (((Boxed.new w t1 a).alloc (.cells #[b] t2)).alloc (.cells #[c] t3)).alloc (.cells #[d] t4)
  have h2 := ((Boxed.new (w.alloc (.cells #[a] t1)) t2 b).alloc (.cells #[c] t3)).alloc (.cells #[d] t4)
  have h3 := (Boxed.new ((w.alloc (.cells #[a] t1)).alloc (.cells #[b] t2)) t3 c).alloc (.cells #[d] t4)
  have h4 := Boxed.new (((w.alloc (.cells #[a] t1)).alloc (.cells #[b] t2)).alloc (.cells #[c] t3)) t4 d
  simp only [World.size_alloc] at h2 h3 h4
  exact ⟨h1, h2, h3, h4, ((((Below.refl _ w).alloc (Nat.le_refl _) _).alloc (by simp) _).alloc (by simp; omega) _).alloc (by simp; omega) _⟩
/-- the sums over what came so far -/
def sumN {t : Tr} (pre : List (Fin t.kids.length)) : Nat := 1 + nodesL (pre.map fun j => t.kids[j])
def sumB {t : Tr} (pre : List (Fin t.kids.length)) : Nat := t.tx.length + (bytesL (pre.map fun j => t.kids[j]) + lens (pre.map fun j => t.kn[j.1]?.getD []))
def sumD {t : Tr} (pre : List (Fin t.kids.length)) : Nat := depthL (pre.map fun j => t.kids[j])
def AddI (w0 : World) (v : Value) (Bs : Nat) (t : Tr) (pre : List (Fin t.kids.length)) (W : World) : Prop :=
  Boxed W (w0.heap.size + 1) 3 (.int .i64 (sumN pre : Nat)) ∧ Boxed W (w0.heap.size + 1 + 1) 3 (.int .i64 (sumB pre : Nat)) ∧ Boxed W (w0.heap.size + 1 + 1 + 1) 3 (.int .i64 (sumD pre : Nat)) ∧ Boxed W w0.heap.size 48 v ∧ Boxed W Bs 48 v ∧ Below w0.heap.size w0 W
theorem AddI.alloc {w0 : World} {v : Value} {Bs : Nat} {t : Tr} {pre : List (Fin t.kids.length)} {W : World} (h : AddI w0 v Bs t pre W) (o : Obj) : AddI w0 v Bs t pre (W.alloc o) := by
  obtain ⟨h1, h2, h3, h4, h5, h6⟩ := h
  exact ⟨h1.alloc o, h2.alloc o, h3.alloc o, h4.alloc o, h5.alloc o, h6.alloc h6.size o⟩
theorem adds_bound {t : Tr} (hf : ∀ y ∈ t.kids, y.fit = true) (hk : ∀ j : Nat, (t.kn[j]?.getD []).length ≤ 2097152) (pre : List (Fin t.kids.length)) (hp : pre.length ≤ 65536) : sumN pre ≤ 4294967297 ∧ sumB pre ≤ t.tx.length + 274877906944 ∧ sumD pre ≤ 512 := by
  have h1 := sums_le (pre.map fun j => t.kids[j]) (fun y hy => by
    obtain ⟨j, _, rfl⟩ := List.mem_map.1 hy
    exact hf _ (List.getElem_mem j.2))
  rw [List.length_map] at h1
  have h2 : ∀ q : List (Fin t.kids.length), lens (q.map fun j => t.kn[j.1]?.getD []) ≤ q.length * 2097152 := by
    intro q
    induction q with
    | nil => simp [lens]
    | cons j q ih =>
      have := hk j.1
      simp only [List.map_cons, lens, List.length_cons]
      omega
  have h3 := h2 pre
  unfold sumN sumB sumD
  omega
theorem tx_len {t : Tr} (hf : t.fit = true) : t.tx.length ≤ 2097152 := by
  have hb := (fit_le hf).2.1
  cases t with
  | text s =>
    unfold Tr.bytes at hb
    exact hb
  | _ => simp [Tr.tx]
theorem lens_app' : ∀ a b : List Tx, lens (a ++ b) = lens a + lens b
  | [], b => by simp [lens]
  | x :: a, b => by simp [lens, lens_app' a b, Nat.add_assoc]
theorem sumN_snoc {t : Tr} (pre : List (Fin t.kids.length)) (j : Fin t.kids.length) : sumN (pre ++ [j]) = sumN pre + t.kids[j].nodes := by
  unfold sumN
  rw [List.map_append, nodesL_app]
  simp [nodesL, Nat.add_assoc]
theorem sumB_snoc {t : Tr} (pre : List (Fin t.kids.length)) (j : Fin t.kids.length) : sumB (pre ++ [j]) = sumB pre + (t.kids[j].bytes + (t.kn[j.1]?.getD []).length) := by
  unfold sumB
  rw [List.map_append, List.map_append, bytesL_app, lens_app']
  simp [bytesL, lens]
  omega
theorem sumD_snoc {t : Tr} (pre : List (Fin t.kids.length)) (j : Fin t.kids.length) : sumD (pre ++ [j]) = max (sumD pre) t.kids[j].depth := by
  unfold sumD
  rw [List.map_append, depthL_app]
  simp [depthL]
theorem map_upto {t : Tr} : ∀ k, k ≤ t.kids.length → (upF t.kids.length k).map (fun j => t.kids[j]) = t.kids.take k
  | 0, _ => by simp [upF]
  | k + 1, h => by
    rw [upF_succ _ _ h, List.map_append, map_upto k (by omega), List.take_succ_eq_append_getElem h]
    rfl
theorem map_all (t : Tr) : (upF t.kids.length t.kids.length).map (fun j => t.kids[j]) = t.kids := by
  rw [map_upto _ (Nat.le_refl _), List.take_of_length_le (Nat.le_refl _)]
theorem lens_none : ∀ (q : List Nat), lens (q.map fun _ => ([] : Tx)) = 0
  | [] => rfl
  | _ :: q => by simp [lens, lens_none q]
theorem keys_upto {t : Tr} (hl : t.kn.length = t.kids.length) : ∀ k, k ≤ t.kids.length → (upF t.kids.length k).map (fun j => t.kn[j.1]?.getD []) = t.kn.take k
  | 0, _ => by simp [upF]
  | k + 1, h => by
    rw [upF_succ _ _ h, List.map_append, keys_upto hl k (by omega), List.take_succ_eq_append_getElem (by omega)]
    simp only [List.map_cons, List.map_nil]
    rw [List.getElem?_eq_getElem (by omega)]
    rfl
theorem keys_all {t : Tr} (h : t.kn = [] ∨ t.kn.length = t.kids.length) : lens ((upF t.kids.length t.kids.length).map fun j => t.kn[j.1]?.getD []) = lens t.kn := by
  rcases h with h | h
  · rw [h]
    have hz : ∀ q : List (Fin t.kids.length), lens (q.map fun _ => ([] : Tx)) = 0 := by
      intro q
      induction q with
      | nil => rfl
      | cons j q ih => simp only [List.map_cons, lens, List.length_nil, Nat.zero_add]; exact ih
    simp only [List.getElem?_nil, Option.getD_none]
    rw [hz]
    rfl
  · rw [keys_upto h _ (Nat.le_refl _), List.take_of_length_le (by omega)]
theorem kn_len' {t : Tr} (h : t.Ok) : t.kn = [] ∨ t.kn.length = t.kids.length := by
  cases t with
  | obj ks l =>
    unfold Tr.Ok at h
    exact .inr h.1
  | _ => exact .inl rfl
theorem sumN_all (t : Tr) : sumN (t := t) (upF t.kids.length t.kids.length) = t.nodes := by
  unfold sumN
  rw [map_all, nodes_kids]
  omega
theorem sumB_all {t : Tr} (h : t.kn = [] ∨ t.kn.length = t.kids.length) : sumB (t := t) (upF t.kids.length t.kids.length) = t.bytes := by
  unfold sumB
  rw [map_all, keys_all h]
  cases t <;> simp [Tr.kids, Tr.kn, Tr.tx, Tr.bytes, bytesL, lens]
  omega
theorem sumD_all (t : Tr) : sumD (t := t) (upF t.kids.length t.kids.length) + 1 = t.depth := by
  unfold sumD
  rw [map_all]
  cases t <;> simp [Tr.kids, Tr.depth, depthL]
theorem wrap_add (a b : Nat) (h1 : a ≤ 1099511627776) (h2 : b ≤ 1099511627776) : wrap64 ((a : Int) + (b : Int)) = ((a + b : Nat) : Int) := by
  unfold wrap64
  omega
theorem max_cast (a b : Nat) : max (a : Int) (b : Int) = ((max a b : Nat) : Int) := by omega
theorem adds_end {w0 : World} {v : Value} {Bs n1 B : Nat} {t : Tr} {pre : List (Fin t.kids.length)} {j : Fin t.kids.length} {W w2 : World} {X7 X8 X9 : Value} (h : AddI w0 v Bs t pre W) (hb : Below W.heap.size W w2) (hn : n1 ≤ w0.heap.size) (hBs : w0.heap.size + 4 ≤ Bs) (hW : w0.heap.size + 4 ≤ W.heap.size)
    (e7 : X7 = .int .i64 (sumN (pre ++ [j]) : Nat)) (e8 : X8 = .int .i64 (sumB (pre ++ [j]) : Nat)) (e9 : X9 = .int .i64 (sumD (pre ++ [j]) : Nat)) :
    KeepsFrom B W (((w2.setCell ⟨w0.heap.size + 1, 0, none⟩ X7).setCell ⟨w0.heap.size + 1 + 1, 0, none⟩ X8).setCell ⟨w0.heap.size + 1 + 1 + 1, 0, none⟩ X9) ∧ KpB n1 Bs W (((w2.setCell ⟨w0.heap.size + 1, 0, none⟩ X7).setCell ⟨w0.heap.size + 1 + 1, 0, none⟩ X8).setCell ⟨w0.heap.size + 1 + 1 + 1, 0, none⟩ X9) ∧ AddI w0 v Bs t (pre ++ [j]) (((w2.setCell ⟨w0.heap.size + 1, 0, none⟩ X7).setCell ⟨w0.heap.size + 1 + 1, 0, none⟩ X8).setCell ⟨w0.heap.size + 1 + 1 + 1, 0, none⟩ X9) := by
  subst e7 e8 e9
  obtain ⟨h7, h8, h9, h6, hS, hbw⟩ := h
  have g7 := boxed_below h7 hb
  have g8 := boxed_below h8 hb
  have g9 := boxed_below h9 hb
  have g6 := boxed_below h6 hb
  have gS := boxed_below hS hb
  have hK : KeepsFrom B W w2 := ⟨hb.size, fun k o _ hk _ => (hb.block k (Array.getElem?_eq_some_iff.1 hk).1).trans hk⟩
  have hB : ∀ m, m ≤ w0.heap.size + 1 → m ≤ W.heap.size → Below m W (((w2.setCell ⟨w0.heap.size + 1, 0, none⟩ (.int .i64 (sumN (pre ++ [j]) : Nat))).setCell ⟨w0.heap.size + 1 + 1, 0, none⟩ (.int .i64 (sumB (pre ++ [j]) : Nat))).setCell ⟨w0.heap.size + 1 + 1 + 1, 0, none⟩ (.int .i64 (sumD (pre ++ [j]) : Nat))) := fun m hm hm2 =>
    (((hb.mono hm2).setCell (p := ⟨w0.heap.size + 1, 0, none⟩) (by simp; omega) _).setCell (p := ⟨w0.heap.size + 1 + 1, 0, none⟩) (by simp; omega) _).setCell (p := ⟨w0.heap.size + 1 + 1 + 1, 0, none⟩) (by simp; omega) _
  have gS' := ((gS.other (B' := w0.heap.size + 1) (by omega) (.int .i64 (sumN (pre ++ [j]) : Nat))).other (B' := w0.heap.size + 1 + 1) (by omega) (.int .i64 (sumB (pre ++ [j]) : Nat))).other (B' := w0.heap.size + 1 + 1 + 1) (by omega) (.int .i64 (sumD (pre ++ [j]) : Nat))
  exact ⟨(((hK.trans ((KeepsOthers.setCell _ _ _).from _)).trans ((KeepsOthers.setCell _ _ _).from _)).trans ((KeepsOthers.setCell _ _ _).from _)), ⟨hB n1 (by omega) (by omega), gS'.trans hS.symm⟩,
    ((g7.set _).other (by omega) _).other (by omega) _, ((g8.other (by omega) _).set _).other (by omega) _, ((g9.other (by omega) _).other (by omega) _).set _, ((g6.other (by omega) _).other (by omega) _).other (by omega) _, gS', hbw.trans (hB w0.heap.size (by omega) (by omega))⟩
theorem addI_own {w0 : World} {v : Value} {Bs : Nat} {t : Tr} {B : Nat} (hB : w0.heap.size ≤ B) : OwnFrom B (AddI w0 v Bs t) := fun pre X Y row hs hg hr => by
  obtain ⟨h1, h2, h3, h4, h5, h6⟩ := hs
  have hnc : ∀ (b : Nat) (ty : TypeId) (x : Value), Boxed X b ty x → some b ≠ row := fun b ty x hb e => by
    obtain ⟨_, o, ho, hc⟩ := hr b e.symm
    rw [show X.heap[b]? = _ from hb] at ho
    cases ho
    cases hc
  exact ⟨h1.kept hg (hnc _ _ _ h1), h2.kept hg (hnc _ _ _ h2), h3.kept hg (hnc _ _ _ h3), h4.kept hg (hnc _ _ _ h4), h5.kept hg (hnc _ _ _ h5), h6.grown hg h6.size fun k e => by have := (hr k e).1; omega⟩
theorem kids_fit {t : Tr} (h : t.Ok) : ∀ y ∈ t.kids, y.fit = true := by
  intro y hy
  cases t with
  | list l =>
    unfold Tr.Ok at h
    exact ((okl_iff l).1 h y hy).2
  | obj ks l =>
    unfold Tr.Ok at h
    exact ((okl_iff l).1 h.2.2.2 y hy).2
  | _ => simp [Tr.kids] at hy
theorem kids_len' {t : Tr} (hf : t.fit = true) : t.kids.length ≤ 65536 := by
  have h0 := (fit_le hf).1
  have h1 := nodes_len t.kids
  have h2 : nodesL t.kids ≤ t.nodes := by cases t <;> simp [Tr.kids, Tr.nodes, nodesL]
  omega
theorem keys_len {t : Tr} (h : t.Ok) (hf : t.fit = true) : ∀ j : Nat, (t.kn[j]?.getD []).length ≤ 2097152 := by
  intro j
  have hb := (fit_le hf).2.1
  cases t with
  | obj ks l =>
    unfold Tr.bytes at hb
    simp only [Tr.kn]
    rcases Nat.lt_or_ge j ks.length with h1 | h1
    · rw [List.getElem?_eq_getElem h1]
      have := lens_at ks j h1
      simp only [Option.getD_some]
      omega
    · rw [List.getElem?_eq_none h1]
      simp
  | _ => simp [Tr.kn]
set_option maxRecDepth 100000 in
set_option maxHeartbeats 16000000 in
theorem adds_round (NN g9 q9 n1 : Nat) (w3 wr : World) (k : Nat) (hlt : k < NN) (hNN : NN ≤ 65536) (x : Tr) (tx : TypeId) (ux : Value) (hcx : wr.cell? ⟨g9, k, none⟩ = some (.iface tx ux)) (hrx : RdT (fun k => k < n1) wr x (.iface tx ux)) (hxo : x.Ok ∧ x.fit = true) (h13 : n1 ≤ w3.heap.size) (hbr : Below w3.heap.size w3 wr) (ds : List Nat) (hm : MarksOk w3.heap.size ds wr) (z0 z1 z2 z3 z4 z5 z6 z7 z8 z9 z10 z11 z12 z13 z14 z15 z16 z17 z18 z19 z20 z21 z22 z23 z24 z25 z26 z27 z28 z29 z30 z31 z32 z33 z34 z38 z39 z40 z41 z42 z43 z44 z45 z46 z47 z48 z49 z50 z51 z52 z53 z54 z55 z56 z57 z58 z59 z60 z61 z62 z63 z64 z65 z66 z67 z68 z69 z70 z71 z72 z73 z74 z75 z76 z77 z78 z79 z80 z81 z82 z83 z84 z85 z86 z87 z88 z89 z90 z91 z92 z93 z94 z95 z96 z97 z98 z99 z100 z101 z102 z103 z104 z105 z106 : Value) (KK : Act → World → Prop) (Q : Exit → Act → World → Prop)
    (hKK : ∀ (z0 z1 z2 z3 z4 z5 z6 z7 z8 z9 z10 z11 z12 z13 z14 z15 z16 z17 z18 z19 z20 z21 z22 z23 z24 z25 z26 z27 z28 z29 z30 z31 z32 z33 z34 z38 z39 z40 z41 z42 z43 z44 z45 z46 z47 z48 z49 z50 z51 z52 z53 z54 z55 z56 z57 z58 z59 z60 z61 z62 z63 z64 z65 z66 z67 z68 z69 z70 z71 z72 z73 z74 z75 z76 z77 z78 z79 z80 z81 z82 z83 z84 z85 z86 z87 z88 z89 z90 z91 z92 z93 z94 z95 z96 z97 z98 z99 z100 z101 z102 z103 z104 z105 z106 : Value) (ds' : List Nat) (w' : World), Below w3.heap.size w3 w' → MarksOk w3.heap.size ds' w' → KK { tmps := (z0 :: z1 :: z2 :: z3 :: z4 :: z5 :: z6 :: z7 :: z8 :: z9 :: z10 :: z11 :: z12 :: z13 :: z14 :: z15 :: z16 :: z17 :: z18 :: z19 :: z20 :: z21 :: z22 :: z23 :: z24 :: z25 :: z26 :: z27 :: z28 :: z29 :: z30 :: z31 :: z32 :: z33 :: z34 :: (.slice (some ⟨g9, 0, none⟩) NN q9) :: (.int .i64 (NN : Nat)) :: (.int .i64 ((k + 1 : Nat) : Int)) :: z38 :: z39 :: z40 :: z41 :: z42 :: z43 :: z44 :: z45 :: z46 :: z47 :: z48 :: z49 :: z50 :: z51 :: z52 :: z53 :: z54 :: z55 :: z56 :: z57 :: z58 :: z59 :: z60 :: z61 :: z62 :: z63 :: z64 :: z65 :: z66 :: z67 :: z68 :: z69 :: z70 :: z71 :: z72 :: z73 :: z74 :: z75 :: z76 :: z77 :: z78 :: z79 :: z80 :: z81 :: z82 :: z83 :: z84 :: z85 :: z86 :: z87 :: z88 :: z89 :: z90 :: z91 :: z92 :: z93 :: z94 :: z95 :: z96 :: z97 :: z98 :: z99 :: z100 :: z101 :: z102 :: z103 :: z104 :: z105 :: z106 :: []).toArray, defers := marks ds' } w') :
    adX.wpIn Fence.wide 6 Try.prog (Exit.then KK Q) { tmps := (z0 :: z1 :: z2 :: z3 :: z4 :: z5 :: z6 :: z7 :: z8 :: z9 :: z10 :: z11 :: z12 :: z13 :: z14 :: z15 :: z16 :: z17 :: z18 :: z19 :: z20 :: z21 :: z22 :: z23 :: z24 :: z25 :: z26 :: z27 :: z28 :: z29 :: z30 :: z31 :: z32 :: z33 :: z34 :: (.slice (some ⟨g9, 0, none⟩) NN q9) :: (.int .i64 (NN : Nat)) :: (.int .i64 (k : Nat)) :: z38 :: z39 :: z40 :: z41 :: z42 :: z43 :: z44 :: z45 :: z46 :: z47 :: z48 :: z49 :: z50 :: z51 :: z52 :: z53 :: z54 :: z55 :: z56 :: z57 :: z58 :: z59 :: z60 :: z61 :: z62 :: z63 :: z64 :: z65 :: z66 :: z67 :: z68 :: z69 :: z70 :: z71 :: z72 :: z73 :: z74 :: z75 :: z76 :: z77 :: z78 :: z79 :: z80 :: z81 :: z82 :: z83 :: z84 :: z85 :: z86 :: z87 :: z88 :: z89 :: z90 :: z91 :: z92 :: z93 :: z94 :: z95 :: z96 :: z97 :: z98 :: z99 :: z100 :: z101 :: z102 :: z103 :: z104 :: z105 :: z106 :: []).toArray, defers := marks ds } wr := by
  obtain ⟨k', hk'⟩ : ∃ k', k + 1 = k' := ⟨_, rfl⟩
  rw [hk'] at hKK
  have HX := Lib.hid hrx
  have HKK := Lib.hid hKK
  have HM := Lib.hid hm
  have HXO := Lib.hid hxo
  have hk0 : (0 : Int) ≤ (k : Int) := by omega
  have hk1 : (k : Int) < (NN : Int) := by omega
  have hfn := fn_nil
  have hsr := hbr.size
  clear hrx hKK hm hxo
  conv => arg 4; whnf
  gi_wp2_with fail
  obtain ⟨bR, b7, b8, b9, hB4⟩ := four_boxes wr 48 3 3 3 (.iface tx ux) (.int .i64 1) (.int .i64 0) (.int .i64 0)
  have hsz4 : ((((wr.alloc (.cells #[.iface tx ux] 48)).alloc (.cells #[.int .i64 1] 3)).alloc (.cells #[.int .i64 0] 3)).alloc (.cells #[.int .i64 0] 3)).heap.size = wr.heap.size + 4 := by simp
  generalize (((wr.alloc (.cells #[.iface tx ux] 48)).alloc (.cells #[.int .i64 1] 3)).alloc (.cells #[.int .i64 0] 3)).alloc (.cells #[.int .i64 0] 3) = W4 at *
  have hX4 : RdT (fun k => k < n1) W4 x (.iface tx ux) := RdT.move (fun j hj hs => ⟨hs, hB4.block j hj⟩) _ _ HX.out
  have HX4 := Lib.hid hX4
  clear hX4
  refine ⟨trivial, (callsIn_wide.2 (textr_any _ x _ _ HX4.out)).mono ?_⟩
  rintro e w5 ⟨rfl, hb5⟩
  have cR := (boxed_below bR hb5).cell
  have c8 := (boxed_below b8 hb5).cell
  have f8 := (boxed_below b8 hb5).frozen
  have cR' : ∀ u, (w5.setCell ⟨wr.heap.size + 1 + 1, 0, none⟩ u).cell? ⟨wr.heap.size, 0, none⟩ = some (.iface tx ux) := fun u => ((boxed_below bR hb5).other (by omega) u).cell
  gi_wp2_with (refine ⟨trivial, ?_⟩; gi_at_call 21; refine (callsIn_wide.2 (all_any (.iface tx ux) _)).mono ?_; rintro e w6 ⟨rfl, rfl⟩)
  obtain ⟨A, c, vs, hitv, hrow, hl⟩ := HX.out.itv
  have hb5s := hb5.size
  have hB5 := hB4.trans (hb5.mono hB4.size)
  have bR5 := ((boxed_below bR hb5).other (by omega) (.int .i64 (x.tx.length : Nat)) (B' := wr.heap.size + 1 + 1)).alloc (.cells #[.iface tx ux] 48)
  have b75 := ((boxed_below b7 hb5).other (by omega) (.int .i64 (x.tx.length : Nat)) (B' := wr.heap.size + 1 + 1)).alloc (.cells #[.iface tx ux] 48)
  have b85 := ((boxed_below b8 hb5).set (.int .i64 (x.tx.length : Nat))).alloc (.cells #[.iface tx ux] 48)
  have b95 := ((boxed_below b9 hb5).other (by omega) (.int .i64 (x.tx.length : Nat)) (B' := wr.heap.size + 1 + 1)).alloc (.cells #[.iface tx ux] 48)
  have bS5 := Boxed.new (w5.setCell ⟨wr.heap.size + 1 + 1, 0, none⟩ (.int .i64 (x.tx.length : Nat))) 48 (.iface tx ux)
  have hBq : Below wr.heap.size wr ((w5.setCell ⟨wr.heap.size + 1 + 1, 0, none⟩ (.int .i64 (x.tx.length : Nat))).alloc (.cells #[.iface tx ux] 48)) := (hB5.setCell (p := ⟨wr.heap.size + 1 + 1, 0, none⟩) (by simp; omega) _).alloc (by simp; omega) _
  have hszq : ((w5.setCell ⟨wr.heap.size + 1 + 1, 0, none⟩ (.int .i64 (x.tx.length : Nat))).alloc (.cells #[.iface tx ux] 48)).heap.size = w5.heap.size + 1 := by simp
  have hss : (w5.setCell ⟨wr.heap.size + 1 + 1, 0, none⟩ (.int .i64 (x.tx.length : Nat))).heap.size = w5.heap.size := by simp
  rw [hss] at bS5
  generalize (w5.setCell ⟨wr.heap.size + 1 + 1, 0, none⟩ (.int .i64 (x.tx.length : Nat))).alloc (.cells #[.iface tx ux] 48) = Wq at *
  clear hss cR c8 f8 cR' bR b7 b8 b9
  obtain ⟨Bs, hBs⟩ : ∃ Bs, w5.heap.size = Bs := ⟨_, rfl⟩
  rw [hBs] at bS5 hszq hb5s ⊢
  have hbq : wr.heap.size ≤ Wq.heap.size := hBq.size
  have hmv : ∀ j, j < wr.heap.size → j < n1 → j < n1 ∧ Wq.heap[j]? = wr.heap[j]? := fun j hj hs => ⟨hs, hBq.block j hj⟩
  have hfk : ∀ y ∈ x.kids, y.fit = true := kids_fit HXO.out.1
  have hkl := kids_len' HXO.out.2
  have hkb := keys_len HXO.out.1 HXO.out.2
  have htx := tx_len HXO.out.2
  have hgd : ∀ j : Fin x.kids.length, ∃ ty uy, vs.getD j.1 .nilIface = .iface ty uy ∧ RdT (fun k => k < n1) wr x.kids[j] (.iface ty uy) := fun j => by
    have hvl := hl.len
    have hx := j.2
    have hvk : vs[j.1]? = some (vs[j.1]'(by omega)) := List.getElem?_eq_getElem (by omega)
    have hrd := hl.at (List.getElem?_eq_getElem hx) hvk
    obtain ⟨ty, uy, he⟩ := hrd.iface
    rw [he] at hrd
    exact ⟨ty, uy, by rw [List.getD_eq_getElem?_getD, hvk, he]; rfl, hrd⟩
  refine wpIn_rangeFunc_ownH rfl (by omega) (gf := 29) (lb := #[.pointer (some ⟨Bs, 0, none⟩)]) rfl trivial (enters_of Try.func29 (by kernel_rfl) rfl)
    (all_stops 5 Bs n1 x (.iface tx ux) A c vs (by omega) (by omega) Wq (by omega) bS5.cell (hitv.move hmv) (hrow.move hmv) (hl.move hmv) (RdT.move hmv _ _ HX.out)) kpB_t (kpB_b (by omega) (by omega)) (Below.refl _ _) (fun _ => rfl)
    (AddI wr (.iface tx ux) Bs x)
    (fun _ _ _ => False)
    (addI_own (by omega))
    (fun _ _ _ _ _ hs _ _ => hs)
    ⟨by simpa [sumN, nodesL] using b75, by simpa [sumB, bytesL, lens] using b85, by simpa [sumD, depthL] using b95, bR5, bS5, hBq⟩
    (fun j a' W => ∃ Bx, wr.heap.size + 3 < Bx ∧ Boxed W Bx 48 (vs.getD j.1 .nilIface) ∧ a' = { tmps := (z0 :: z1 :: z2 :: z3 :: z4 :: z5 :: (.pointer (some ⟨wr.heap.size, 0, none⟩)) :: (.pointer (some ⟨wr.heap.size + 1, 0, none⟩)) :: (.pointer (some ⟨wr.heap.size + 1 + 1, 0, none⟩)) :: (.pointer (some ⟨wr.heap.size + 1 + 1 + 1, 0, none⟩)) :: (.string ⟨x.tx.toArray⟩) :: (.bool x.isTx) :: (.func (.func 29) #[] #[.pointer (some ⟨Bs, 0, none⟩)]) :: (.string ⟨(x.kn[j.1]?.getD []).toArray⟩) :: (.pointer (some ⟨Bx, 0, none⟩)) :: z15 :: z16 :: z17 :: z18 :: z19 :: z20 :: z21 :: z22 :: z23 :: z24 :: z25 :: z26 :: z27 :: z28 :: z29 :: z30 :: z31 :: z32 :: z33 :: z34 :: (.slice (some ⟨g9, 0, none⟩) NN q9) :: (.int .i64 (NN : Nat)) :: (.int .i64 (k : Nat)) :: (.bool true) :: (.pointer (some ⟨g9, k, none⟩)) :: (.agg #[.iface tx ux]) :: (.tuple #[.string ⟨x.tx.toArray⟩, .bool x.isTx]) :: (.agg #[.iface tx ux]) :: (.tuple #[.string ⟨x.tx.toArray⟩, .bool x.isTx]) :: (.string ⟨x.tx.toArray⟩) :: (.bool x.isTx) :: (.string ⟨x.tx.toArray⟩) :: (.int .i64 (x.tx.length : Nat)) :: (.agg #[.iface tx ux]) :: (.func (.func 29) #[] #[.pointer (some ⟨Bs, 0, none⟩)]) :: (.func (.func 29) #[] #[.pointer (some ⟨Bs, 0, none⟩)]) :: (.bool false) :: (.func (.func 29) #[] #[.pointer (some ⟨Bs, 0, none⟩)]) :: (.string ⟨(x.kn[j.1]?.getD []).toArray⟩) :: (.agg #[vs.getD j.1 .nilIface]) :: z55 :: z56 :: z57 :: z58 :: z59 :: z60 :: z61 :: z62 :: z63 :: z64 :: z65 :: z66 :: z67 :: z68 :: z69 :: z70 :: z71 :: z72 :: z73 :: z74 :: z75 :: z76 :: z77 :: z78 :: z79 :: z80 :: z81 :: z82 :: z83 :: z84 :: z85 :: z86 :: z87 :: z88 :: z89 :: z90 :: z91 :: z92 :: z93 :: z94 :: z95 :: z96 :: z97 :: z98 :: z99 :: z100 :: z101 :: z102 :: z103 :: z104 :: z105 :: z106 :: []).toArray, defers := [] })
    (fun j a' _ X Y row hs hg hr => by obtain ⟨Bx, h1, h2, h3⟩ := hs; exact ⟨Bx, h1, boxed_own Bx 48 (fun (_ : Unit) => vs.getD j.1 .nilIface) () X Y row h2 hg (fun r e => (hr r e).2), h3⟩)
    ?assign ?body ?done ?stop
  case assign =>
    rintro l pre j W K hI hK
    obtain ⟨ty, uy, he, _⟩ := hgd j
    have hms := hI.2.2.2.2.2.size
    have hlt9 := hI.2.2.1.lt
    have hK2 := hK _ _ ((KeepsOthers.alloc _ (.cells #[vs.getD j.1 .nilIface] 48)).from _) ⟨(Below.refl _ W).alloc (by omega) _, Below.heap_alloc W _ _ hI.2.2.2.2.1.lt⟩ (hI.alloc _) ⟨W.heap.size, by omega, Boxed.new W _ _, rfl⟩
    clear hK
    simp only [encR, he] at hK2 ⊢
    gi_wp2
    exact hK2
  case body =>
    rintro l pre j a' W hl9 hr9 hI ⟨Bx, hBx, bX, rfl⟩ hlt2
    obtain ⟨ty, uy, he, hrj⟩ := hgd j
    rw [he] at bX ⊢
    have HI := Lib.hid hI
    obtain ⟨h7, h8, h9, h6, hS, hbw⟩ := hI
    have cX := bX.cell
    have hrjW : RdT (fun k => k < n1) W x.kids[j] (.iface ty uy) := RdT.move (fun i hi hs => ⟨hs, hbw.block i (by omega)⟩) _ _ hrj
    have HRJ := Lib.hid hrjW
    have hfj := hfk x.kids[j] (List.getElem_mem j.2)
    have hbd := adds_bound hfk hkb pre (by omega)
    have hfj3 := fit_le hfj
    have hkj := hkb j.1
    clear hrjW hrj
    gi_wp2_with fail
    refine ⟨trivial, (CallsIn.inRound l (callsIn_wide.2 (size_any _ x.kids[j] _ _ HRJ.out hfj))).mono ?_⟩
    rintro e w2 ⟨rfl, hb2⟩
    have g7 := boxed_below h7 hb2
    have g8 := boxed_below h8 hb2
    have g9' := boxed_below h9 hb2
    have c7 := g7.cell
    have f7 := g7.frozen
    have c8 : ∀ X, (w2.setCell ⟨wr.heap.size + 1, 0, none⟩ X).cell? ⟨wr.heap.size + 1 + 1, 0, none⟩ = some (.int .i64 (sumB pre : Nat)) := fun X => (g8.other (by omega) X).cell
    have f8 : ∀ X, (w2.setCell ⟨wr.heap.size + 1, 0, none⟩ X).frozen? ⟨wr.heap.size + 1 + 1, 0, none⟩ = false := fun X => (g8.other (by omega) X).frozen
    have c9 : ∀ X Y, ((w2.setCell ⟨wr.heap.size + 1, 0, none⟩ X).setCell ⟨wr.heap.size + 1 + 1, 0, none⟩ Y).cell? ⟨wr.heap.size + 1 + 1 + 1, 0, none⟩ = some (.int .i64 (sumD pre : Nat)) := fun X Y => ((g9'.other (by omega) X).other (by omega) Y).cell
    have f9 : ∀ X Y, ((w2.setCell ⟨wr.heap.size + 1, 0, none⟩ X).setCell ⟨wr.heap.size + 1 + 1, 0, none⟩ Y).frozen? ⟨wr.heap.size + 1 + 1 + 1, 0, none⟩ = false := fun X Y => ((g9'.other (by omega) X).other (by omega) Y).frozen
    have HG := Lib.hid (And.intro hb2 (And.intro g7 (And.intro g8 g9')))
    clear g7 g8 g9' hb2 h7 h8 h9
    have hw7 : (Value.int .i64 (wrap64 (((sumN pre : Nat) : Int) + (x.kids[j].nodes : Int)))) = .int .i64 (sumN (pre ++ [j]) : Nat) := by
      rw [sumN_snoc, wrap_add _ _ (by omega) (by omega)]
    have hw8 : (Value.int .i64 (wrap64 (((sumB pre : Nat) : Int) + wrap64 ((x.kids[j].bytes : Int) + ((x.kn[j.1]?.getD []).length : Int))))) = .int .i64 (sumB (pre ++ [j]) : Nat) := by
      rw [sumB_snoc, wrap_add x.kids[j].bytes _ (by omega) (by omega), wrap_add _ _ (by omega) (by omega)]
    have hw9 : (Value.int .i64 (max ((sumD pre : Nat) : Int) (x.kids[j].depth : Int))) = .int .i64 (sumD (pre ++ [j]) : Nat) := by
      rw [sumD_snoc, max_cast]
    have HW := Lib.hid (And.intro hw7 (And.intro hw8 hw9))
    clear hw7 hw8 hw9 hbd hkb hfj hfj3 hkj
    gi_wp2
    exact adds_end HI.out HG.out.1 (by omega) (by omega) (by have := HI.out.2.2.1.lt; omega) HW.out.1 HW.out.2.1 HW.out.2.2
  case done =>
    rintro D ys W hD hys hI hK
    rw [hys] at hI
    obtain ⟨h7, h8, h9, h6, hS, hbw⟩ := hI
    rw [sumN_all] at h7
    rw [sumB_all (kn_len' HXO.out.1)] at h8
    have hdd := sumD_all x
    obtain ⟨dd, hdd0⟩ : ∃ dd, sumD (upF x.kids.length x.kids.length) = dd := ⟨_, rfl⟩
    rw [hdd0] at h9 hdd
    clear hdd0 hys
    have hxW : RdT (fun k => k < n1) W x (.iface tx ux) := RdT.move (fun i hi hs => ⟨hs, hbw.block i (by omega)⟩) _ _ HX.out
    have HXW := Lib.hid hxW
    have cW := h6.cell
    have hDn : Hid (D ∉ ds) := Lib.hid fun hm => by have h1 := (Array.getElem?_eq_some_iff.1 (HM.out.2 D hm).2).1; have h2 := hbq; omega
    have hMW := (HM.out.below hbw).cons (by have := hbr.size; omega) hK hDn.out
    have HMW := Lib.hid hMW
    clear hxW hMW hK
    gi_wp2_with fail
    refine ⟨trivial, (callsIn_wide.2 (size_any _ x _ _ HXW.out HXO.out.2)).mono ?_⟩
    rintro e w9 ⟨rfl, hb9⟩
    have c7 := (boxed_below h7 hb9).cell
    have c8 := (boxed_below h8 hb9).cell
    have c9 := (boxed_below h9 hb9).cell
    have hfx := fit_le HXO.out.2
    have hg1 : ((65536 : Int) < (x.nodes : Int)) = False := eq_false (by omega)
    have hg2 : ((2097152 : Int) < (x.bytes : Int)) = False := eq_false (by omega)
    have hg3 : ((512 : Int) < (x.depth : Int)) = False := eq_false (by omega)
    have hkk : (k : Int) + 1 = (k' : Int) := by omega
    have hkw : wrap64 (k' : Int) = (k' : Int) := by unfold wrap64; omega
    have HKW := Lib.hid hkw
    have hdw : wrap64 ((dd : Int) + 1) = (x.depth : Int) := by unfold wrap64; omega
    have HF : Hid (Below w3.heap.size w3 w9 ∧ MarksOk w3.heap.size (D :: ds) w9) := Lib.hid ⟨hbr.trans ((hbw.trans (hb9.mono hbw.size)).mono hbr.size), HMW.out.below hb9⟩
    clear h7 h8 h9 h6 hS hbw hb9 hdd hfx hfk hkb hD hNN hkl htx hkw
    gi_wp2
    rw [HKW.out]
    exact HKK.out _ _ _ _ _ _ _ _ _ _ _ _ _ _ _ _ _ _ _ _ _ _ _ _ _ _ _ _ _ _ _ _ _ _ _ _ _ _ _ _ _ _ _ _ _ _ _ _ _ _ _ _ _ _ _ _ _ _ _ _ _ _ _ _ _ _ _ _ _ _ _ _ _ _ _ _ _ _ _ _ _ _ _ _ _ _ _ _ _ _ _ _ _ _ _ _ _ _ _ _ _ _ _ _ (D :: ds) w9 HF.out.1 HF.out.2
  case stop =>
    rintro D c pre W _ _ h _
    exact h.elim
end Nd
end Go.Proofs.Ytfhfkggkbeahbaa
