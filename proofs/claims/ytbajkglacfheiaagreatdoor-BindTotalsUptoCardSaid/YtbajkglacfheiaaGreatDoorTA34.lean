/-
  The reference's lists of floats of layer 16.
-/
import Derived.Test.YtbajkglacfheiaaGreatDoorTA33
set_option linter.unusedVariables false
set_option linter.unusedSimpArgs false
set_option maxRecDepth 100000
set_option maxHeartbeats 16000000
namespace Go.Proofs.YtbajkglacfheiaaGreatDoor
open Go.RowKit Mem Utf Ref3 Idx Tok TokC Ieee
namespace Nd
abbrev thir (W : World) (P : Nat) (x0 x1 x2 x3 x4 x5 x6 x7 x8 x9 x10 x11 x12 : Value) : World := (((((((((((((W.setCell ⟨P, 0, none⟩ x0).setCell ⟨P, 1, none⟩ x1).setCell ⟨P, 2, none⟩ x2).setCell ⟨P, 3, none⟩ x3).setCell ⟨P, 4, none⟩ x4).setCell ⟨P, 5, none⟩ x5).setCell ⟨P, 6, none⟩ x6).setCell ⟨P, 7, none⟩ x7).setCell ⟨P, 8, none⟩ x8).setCell ⟨P, 9, none⟩ x9).setCell ⟨P, 10, none⟩ x10).setCell ⟨P, 11, none⟩ x11).setCell ⟨P, 12, none⟩ x12)
theorem thir_blk {W : World} {P : Nat} {t : TypeId} {z0 z1 z2 z3 z4 z5 z6 z7 z8 z9 z10 z11 z12 : Value} (h : Blk W P t #[z0, z1, z2, z3, z4, z5, z6, z7, z8, z9, z10, z11, z12]) (x0 x1 x2 x3 x4 x5 x6 x7 x8 x9 x10 x11 x12 : Value) : Blk (thir W P x0 x1 x2 x3 x4 x5 x6 x7 x8 x9 x10 x11 x12) P t #[x0, x1, x2, x3, x4, x5, x6, x7, x8, x9, x10, x11, x12] := by
 have h0 : Blk (W.setCell ⟨P, 0, none⟩ x0) P t #[x0, z1, z2, z3, z4, z5, z6, z7, z8, z9, z10, z11, z12] := h.put 0 x0
 have h1 : Blk ((W.setCell ⟨P, 0, none⟩ x0).setCell ⟨P, 1, none⟩ x1) P t #[x0, x1, z2, z3, z4, z5, z6, z7, z8, z9, z10, z11, z12] := h0.put 1 x1
 have h2 : Blk (((W.setCell ⟨P, 0, none⟩ x0).setCell ⟨P, 1, none⟩ x1).setCell ⟨P, 2, none⟩ x2) P t #[x0, x1, x2, z3, z4, z5, z6, z7, z8, z9, z10, z11, z12] := h1.put 2 x2
 have h3 : Blk ((((W.setCell ⟨P, 0, none⟩ x0).setCell ⟨P, 1, none⟩ x1).setCell ⟨P, 2, none⟩ x2).setCell ⟨P, 3, none⟩ x3) P t #[x0, x1, x2, x3, z4, z5, z6, z7, z8, z9, z10, z11, z12] := h2.put 3 x3
 have h4 : Blk (((((W.setCell ⟨P, 0, none⟩ x0).setCell ⟨P, 1, none⟩ x1).setCell ⟨P, 2, none⟩ x2).setCell ⟨P, 3, none⟩ x3).setCell ⟨P, 4, none⟩ x4) P t #[x0, x1, x2, x3, x4, z5, z6, z7, z8, z9, z10, z11, z12] := h3.put 4 x4
 have h5 : Blk ((((((W.setCell ⟨P, 0, none⟩ x0).setCell ⟨P, 1, none⟩ x1).setCell ⟨P, 2, none⟩ x2).setCell ⟨P, 3, none⟩ x3).setCell ⟨P, 4, none⟩ x4).setCell ⟨P, 5, none⟩ x5) P t #[x0, x1, x2, x3, x4, x5, z6, z7, z8, z9, z10, z11, z12] := h4.put 5 x5
 have h6 : Blk (((((((W.setCell ⟨P, 0, none⟩ x0).setCell ⟨P, 1, none⟩ x1).setCell ⟨P, 2, none⟩ x2).setCell ⟨P, 3, none⟩ x3).setCell ⟨P, 4, none⟩ x4).setCell ⟨P, 5, none⟩ x5).setCell ⟨P, 6, none⟩ x6) P t #[x0, x1, x2, x3, x4, x5, x6, z7, z8, z9, z10, z11, z12] := h5.put 6 x6
 have h7 : Blk ((((((((W.setCell ⟨P, 0, none⟩ x0).setCell ⟨P, 1, none⟩ x1).setCell ⟨P, 2, none⟩ x2).setCell ⟨P, 3, none⟩ x3).setCell ⟨P, 4, none⟩ x4).setCell ⟨P, 5, none⟩ x5).setCell ⟨P, 6, none⟩ x6).setCell ⟨P, 7, none⟩ x7) P t #[x0, x1, x2, x3, x4, x5, x6, x7, z8, z9, z10, z11, z12] := h6.put 7 x7
 have h8 : Blk (((((((((W.setCell ⟨P, 0, none⟩ x0).setCell ⟨P, 1, none⟩ x1).setCell ⟨P, 2, none⟩ x2).setCell ⟨P, 3, none⟩ x3).setCell ⟨P, 4, none⟩ x4).setCell ⟨P, 5, none⟩ x5).setCell ⟨P, 6, none⟩ x6).setCell ⟨P, 7, none⟩ x7).setCell ⟨P, 8, none⟩ x8) P t #[x0, x1, x2, x3, x4, x5, x6, x7, x8, z9, z10, z11, z12] := h7.put 8 x8
 have h9 : Blk ((((((((((W.setCell ⟨P, 0, none⟩ x0).setCell ⟨P, 1, none⟩ x1).setCell ⟨P, 2, none⟩ x2).setCell ⟨P, 3, none⟩ x3).setCell ⟨P, 4, none⟩ x4).setCell ⟨P, 5, none⟩ x5).setCell ⟨P, 6, none⟩ x6).setCell ⟨P, 7, none⟩ x7).setCell ⟨P, 8, none⟩ x8).setCell ⟨P, 9, none⟩ x9) P t #[x0, x1, x2, x3, x4, x5, x6, x7, x8, x9, z10, z11, z12] := h8.put 9 x9
 have h10 : Blk (((((((((((W.setCell ⟨P, 0, none⟩ x0).setCell ⟨P, 1, none⟩ x1).setCell ⟨P, 2, none⟩ x2).setCell ⟨P, 3, none⟩ x3).setCell ⟨P, 4, none⟩ x4).setCell ⟨P, 5, none⟩ x5).setCell ⟨P, 6, none⟩ x6).setCell ⟨P, 7, none⟩ x7).setCell ⟨P, 8, none⟩ x8).setCell ⟨P, 9, none⟩ x9).setCell ⟨P, 10, none⟩ x10) P t #[x0, x1, x2, x3, x4, x5, x6, x7, x8, x9, x10, z11, z12] := h9.put 10 x10
 have h11 : Blk ((((((((((((W.setCell ⟨P, 0, none⟩ x0).setCell ⟨P, 1, none⟩ x1).setCell ⟨P, 2, none⟩ x2).setCell ⟨P, 3, none⟩ x3).setCell ⟨P, 4, none⟩ x4).setCell ⟨P, 5, none⟩ x5).setCell ⟨P, 6, none⟩ x6).setCell ⟨P, 7, none⟩ x7).setCell ⟨P, 8, none⟩ x8).setCell ⟨P, 9, none⟩ x9).setCell ⟨P, 10, none⟩ x10).setCell ⟨P, 11, none⟩ x11) P t #[x0, x1, x2, x3, x4, x5, x6, x7, x8, x9, x10, x11, z12] := h10.put 11 x11
 have h12 : Blk (((((((((((((W.setCell ⟨P, 0, none⟩ x0).setCell ⟨P, 1, none⟩ x1).setCell ⟨P, 2, none⟩ x2).setCell ⟨P, 3, none⟩ x3).setCell ⟨P, 4, none⟩ x4).setCell ⟨P, 5, none⟩ x5).setCell ⟨P, 6, none⟩ x6).setCell ⟨P, 7, none⟩ x7).setCell ⟨P, 8, none⟩ x8).setCell ⟨P, 9, none⟩ x9).setCell ⟨P, 10, none⟩ x10).setCell ⟨P, 11, none⟩ x11).setCell ⟨P, 12, none⟩ x12) P t #[x0, x1, x2, x3, x4, x5, x6, x7, x8, x9, x10, x11, x12] := h11.put 12 x12
 exact h12
theorem thir_far {W : World} {P g : Nat} {ty : TypeId} {cs : Array Value} (h : Blk W g ty cs) (hne : g ≠ P) (x0 x1 x2 x3 x4 x5 x6 x7 x8 x9 x10 x11 x12 : Value) : Blk (thir W P x0 x1 x2 x3 x4 x5 x6 x7 x8 x9 x10 x11 x12) g ty cs := (((((((((((((h.far (p := ⟨P, 0, none⟩) hne x0).far (p := ⟨P, 1, none⟩) hne x1).far (p := ⟨P, 2, none⟩) hne x2).far (p := ⟨P, 3, none⟩) hne x3).far (p := ⟨P, 4, none⟩) hne x4).far (p := ⟨P, 5, none⟩) hne x5).far (p := ⟨P, 6, none⟩) hne x6).far (p := ⟨P, 7, none⟩) hne x7).far (p := ⟨P, 8, none⟩) hne x8).far (p := ⟨P, 9, none⟩) hne x9).far (p := ⟨P, 10, none⟩) hne x10).far (p := ⟨P, 11, none⟩) hne x11).far (p := ⟨P, 12, none⟩) hne x12)
theorem thir_below {w W : World} {P : Nat} (h : Below w.heap.size w W) (hP : w.heap.size ≤ P) (x0 x1 x2 x3 x4 x5 x6 x7 x8 x9 x10 x11 x12 : Value) : Below w.heap.size w (thir W P x0 x1 x2 x3 x4 x5 x6 x7 x8 x9 x10 x11 x12) := (((((((((((((h.setCell (p := ⟨P, 0, none⟩) hP x0).setCell (p := ⟨P, 1, none⟩) hP x1).setCell (p := ⟨P, 2, none⟩) hP x2).setCell (p := ⟨P, 3, none⟩) hP x3).setCell (p := ⟨P, 4, none⟩) hP x4).setCell (p := ⟨P, 5, none⟩) hP x5).setCell (p := ⟨P, 6, none⟩) hP x6).setCell (p := ⟨P, 7, none⟩) hP x7).setCell (p := ⟨P, 8, none⟩) hP x8).setCell (p := ⟨P, 9, none⟩) hP x9).setCell (p := ⟨P, 10, none⟩) hP x10).setCell (p := ⟨P, 11, none⟩) hP x11).setCell (p := ⟨P, 12, none⟩) hP x12)
theorem own_thir {W : World} {P b n z : Nat} {t : TypeId} {v : Value} {ys : List Value} (h : W.ownsRow b t z v n ys) (hP : P < b) (x0 x1 x2 x3 x4 x5 x6 x7 x8 x9 x10 x11 x12 : Value) : (thir W P x0 x1 x2 x3 x4 x5 x6 x7 x8 x9 x10 x11 x12).ownsRow b t z v n ys := ownsRow_setCell_below (a := ⟨P, 12, none⟩) (ownsRow_setCell_below (a := ⟨P, 11, none⟩) (ownsRow_setCell_below (a := ⟨P, 10, none⟩) (ownsRow_setCell_below (a := ⟨P, 9, none⟩) (ownsRow_setCell_below (a := ⟨P, 8, none⟩) (ownsRow_setCell_below (a := ⟨P, 7, none⟩) (ownsRow_setCell_below (a := ⟨P, 6, none⟩) (ownsRow_setCell_below (a := ⟨P, 5, none⟩) (ownsRow_setCell_below (a := ⟨P, 4, none⟩) (ownsRow_setCell_below (a := ⟨P, 3, none⟩) (ownsRow_setCell_below (a := ⟨P, 2, none⟩) (ownsRow_setCell_below (a := ⟨P, 1, none⟩) (ownsRow_setCell_below (a := ⟨P, 0, none⟩) (h) hP x0) hP x1) hP x2) hP x3) hP x4) hP x5) hP x6) hP x7) hP x8) hP x9) hP x10) hP x11) hP x12
theorem own_four {W : World} {P b n z : Nat} {t : TypeId} {v : Value} {ys : List Value} (h : W.ownsRow b t z v n ys) (hP : P < b) (x0 x1 x2 x3 : Value) : (four W P x0 x1 x2 x3).ownsRow b t z v n ys := ownsRow_setCell_below (a := ⟨P, 3, none⟩) (ownsRow_setCell_below (a := ⟨P, 2, none⟩) (ownsRow_setCell_below (a := ⟨P, 1, none⟩) (ownsRow_setCell_below (a := ⟨P, 0, none⟩) (h) hP x0) hP x1) hP x2) hP x3
theorem step_append_own {P : Program} {ops : Array Oper} {o : Oper} {a : Act} {w : World} {K : Act → World → Prop} {Q : Exit → Act → World → Prop} {E : Prop}
  (hg : o.guard = none) (s x : Operand) (t : TypeId) (hop : o.op = Op.call { callee := Callee.builtin Builtin.append, args := #[s, x], argTypes := #[t, t] })
  (base : Nat) (e : TypeId) (i : TypeInfo) (z : Value) (size bytes : Nat) (h1 : P.underlying t = some (.slice e)) (h2 : P.info? e = some i) (h3 : i.zero = some z) (h4 : i.size = size) (h5 : i.bytes = bytes) (h6 : z.cells.size = size) (h7 : 0 < size)
  (v : Value) (n : Nat) (xs : List Value) (hs : a.eval s = v) (hown : w.ownsRow base e size v n xs)
  (ad : Addr) (m c : Nat) (news : List Value) (hx : a.eval x = .slice (some ad) m c) (hn : news.length = m * size) (hc : ∀ j u, news[j]? = some u → w.cell? (ad.add j) = some u) (h1c : ∀ u ∈ news, u.oneCell' = true)
  (b1 : n + m ≤ maxLen) (b2 : (n + m) * bytes ≤ 140737488355328) (hbase : base ≤ w.heap.size)
  (hK : ∀ v' w', w'.ownsRow base e size v' (n + m) (xs ++ news) → w.grownBy w' v.ownBlock → K (a.put o.dst v') w') :
  if Region.wanted o (yielded ops a.tmps) = true then Oper.wp P o a w K Q else E := by
 have hw : Region.wanted o (yielded ops a.tmps) = true := by simp [Region.wanted, hg]
 rw [if_pos hw]
 obtain ⟨v', w', hr, r2, r3, r4, r5⟩ := run_append_own_at (P := P) w base t o.type e i z size bytes h1 h2 h3 h4 h5 h6 h7 v n xs hown ad m c news hn hc h1c b1 b2 hbase
 unfold Oper.wp
 simp [execOp, hop, resolve, invoke, builtin, hs, hx, hr, Result.andThen]
 exact hK v' w' r2 r3
theorem info_u64B : (Tryz.prog.info? 64).map (fun i => (i.zero, i.size, i.bytes)) = some (some (.int .u64 0), 1, 8) := by kernel_rfl
def ubV (x : Tr) : Value := .int .u64 (x.nb : Int)
def RFloP (p : Tx) (u : Tr) (w : World) (e : Ending) (w' : World) : Prop :=
 (if u.srt = 5 then match badK u.kids 0 with
   | some i => e = .returned (.tuple #[.agg #[.int .i64 0, .bool false, .int .i64 0, .int .u64 0, .int .u64 0, .int .u32 0, .int .u64 0, .int .u32 0, .string ⟨#[]⟩, .slice none 0 0, .slice none 0 0, .slice none 0 0, .slice none 0 0], .agg #[.int .i64 5, .int .i64 0, .bool true, .string ⟨(atP p i).toArray⟩]])
   | none => ∃ v, e = .returned (.tuple #[.agg #[.int .i64 19, .bool false, .int .i64 0, .int .u64 0, .int .u64 0, .int .u32 0, .int .u64 0, .int .u32 0, .string ⟨#[]⟩, .slice none 0 0, .slice none 0 0, .slice none 0 0, v], .agg #[.int .i64 0, .int .i64 0, .bool false, .string ⟨#[]⟩]]) ∧ w'.ownsRow w.heap.size 64 1 v u.kids.length (u.kids.map ubV)
  else e = .returned (.tuple #[.agg #[.int .i64 0, .bool false, .int .i64 0, .int .u64 0, .int .u64 0, .int .u32 0, .int .u64 0, .int .u32 0, .string ⟨#[]⟩, .slice none 0 0, .slice none 0 0, .slice none 0 0, .slice none 0 0], .agg #[.int .i64 5, .int .i64 0, .bool true, .string ⟨p.toArray⟩]])) ∧ Below w.heap.size w w'
theorem rfloP_sort {p : Tx} {u : Tr} {w w' : World} (h : ¬ u.srt = 5) (hb : Below w.heap.size w w') : RFloP p u w (.returned (.tuple #[.agg #[.int .i64 0, .bool false, .int .i64 0, .int .u64 0, .int .u64 0, .int .u32 0, .int .u64 0, .int .u32 0, .string ⟨#[]⟩, .slice none 0 0, .slice none 0 0, .slice none 0 0, .slice none 0 0], .agg #[.int .i64 5, .int .i64 0, .bool true, .string ⟨p.toArray⟩]])) w' := by
 unfold RFloP
 rw [if_neg h]
 exact ⟨rfl, hb⟩
theorem rfloP_bad {p : Tx} {u : Tr} {w w' : World} {i : Nat} (h : u.srt = 5) (h2 : badK u.kids 0 = some i) (hb : Below w.heap.size w w') : RFloP p u w (.returned (.tuple #[.agg #[.int .i64 0, .bool false, .int .i64 0, .int .u64 0, .int .u64 0, .int .u32 0, .int .u64 0, .int .u32 0, .string ⟨#[]⟩, .slice none 0 0, .slice none 0 0, .slice none 0 0, .slice none 0 0], .agg #[.int .i64 5, .int .i64 0, .bool true, .string ⟨(atP p i).toArray⟩]])) w' := by
 unfold RFloP
 rw [if_pos h, h2]
 exact ⟨rfl, hb⟩
theorem rfloP_ok {p : Tx} {u : Tr} {w w' : World} {v : Value} (h : u.srt = 5) (h2 : badK u.kids 0 = none) (ho : w'.ownsRow w.heap.size 64 1 v u.kids.length (u.kids.map ubV)) (hb : Below w.heap.size w w') : RFloP p u w (.returned (.tuple #[.agg #[.int .i64 19, .bool false, .int .i64 0, .int .u64 0, .int .u64 0, .int .u32 0, .int .u64 0, .int .u32 0, .string ⟨#[]⟩, .slice none 0 0, .slice none 0 0, .slice none 0 0, v], .agg #[.int .i64 0, .int .i64 0, .bool false, .string ⟨#[]⟩]])) w' := by
 unfold RFloP
 rw [if_pos h, h2]
 exact ⟨⟨v, rfl, ho⟩, hb⟩
structure RlS (u : Tr) (A : Option Addr) (c : Nat) (K : Option Addr) (d : Nat) (w : World) (k : Nat) (v : Value) (wr : World) : Prop where
 bl : Below w.heap.size w wr
 box : Blk wr w.heap.size 79 #[.int .i64 (u.srt : Nat), .bool u.fl, .int .u64 (u.bi : Nat), .string ⟨u.tx.toArray⟩, .slice A u.kids.length c, .slice K u.kn.length d]
 bz : Blk wr (w.heap.size + 1) 92 #[.int .i64 0, .bool false, .int .i64 0, .int .u64 0, .int .u64 0, .int .u32 0, .int .u64 0, .int .u32 0, .string ⟨#[]⟩, .slice none 0 0, .slice none 0 0, .slice none 0 0, .slice none 0 0]
 bf : Blk wr (w.heap.size + 1 + 1) 81 #[.int .i64 0, .int .i64 0, .bool false, .string ⟨#[]⟩]
 bt : Blk wr (w.heap.size + 1 + 1 + 1) 92 #[.int .i64 19, .bool false, .int .i64 0, .int .u64 0, .int .u64 0, .int .u32 0, .int .u64 0, .int .u32 0, .string ⟨#[]⟩, .slice none 0 0, .slice none 0 0, .slice none 0 0, v]
 own : wr.ownsRow (w.heap.size + 1 + 1 + 1 + 1) 64 1 v k ((u.kids.take k).map ubV)
 bad : badK u.kids 0 = badK (u.kids.drop k) k
theorem held_new {w W : World} {g ob : Nat} {a b : Value} {ob2 : Obj} (h : W.cell? ⟨w.heap.size, 4, none⟩ = some a ∧ W.cell? ⟨g, ob, none⟩ = some b ∧ Below w.heap.size w W) : (W.alloc ob2).cell? ⟨w.heap.size, 4, none⟩ = some a ∧ (W.alloc ob2).cell? ⟨g, ob, none⟩ = some b ∧ Below w.heap.size w (W.alloc ob2) :=
 have hb : Below W.heap.size W (W.alloc ob2) := (Below.refl _ _).alloc (Nat.le_refl _) _
 ⟨(hb.cell (World.block_lt_of_cell? _ _ h.1)).trans h.1, (hb.cell (World.block_lt_of_cell? _ _ h.2.1)).trans h.2.1, h.2.2.trans (hb.mono h.2.2.size)⟩
theorem rls_ne {u : Tr} {A : Option Addr} {c : Nat} {K : Option Addr} {d : Nat} {w wr : World} {k : Nat} {v : Value} (h : RlS u A c K d w k v wr) {g : Nat} (hg : g < w.heap.size + 1 + 1 + 1 + 1) : some g ≠ v.ownBlock := fun e => by
 have := (h.own.lt _ e.symm).1
 omega
theorem held_app {u : Tr} {A : Option Addr} {c : Nat} {K : Option Addr} {d : Nat} {w wr W w9 : World} {k : Nat} {v : Value} {g ob : Nat} {a b : Value} (hr : RlS u A c K d w k v wr) (hgr : W.grownBy w9 v.ownBlock) (h : W.cell? ⟨w.heap.size, 4, none⟩ = some a ∧ W.cell? ⟨g, ob, none⟩ = some b ∧ Below w.heap.size w W) (hg : g < w.heap.size) : w9.cell? ⟨w.heap.size, 4, none⟩ = some a ∧ w9.cell? ⟨g, ob, none⟩ = some b ∧ Below w.heap.size w w9 :=
 ⟨(cell_block (hgr.block _ (World.block_lt_of_cell? _ _ h.1) (rls_ne hr (show w.heap.size < w.heap.size + 1 + 1 + 1 + 1 by omega)))).trans h.1, (cell_block (hgr.block _ (World.block_lt_of_cell? _ _ h.2.1) (rls_ne hr (show g < w.heap.size + 1 + 1 + 1 + 1 by omega)))).trans h.2.1, h.2.2.grown hgr (by have := h.2.2.size; omega) fun j hj => by have := (hr.own.lt j hj).1; omega⟩
theorem held_set {w W : World} {g ob : Nat} {a b : Value} (h : W.cell? ⟨w.heap.size, 4, none⟩ = some a ∧ W.cell? ⟨g, ob, none⟩ = some b ∧ Below w.heap.size w W) (hg : g < w.heap.size) (v : Value) : (W.setCell ⟨w.heap.size + 1 + 1 + 1, 12, none⟩ v).cell? ⟨w.heap.size, 4, none⟩ = some a ∧ (W.setCell ⟨w.heap.size + 1 + 1 + 1, 12, none⟩ v).cell? ⟨g, ob, none⟩ = some b ∧ Below w.heap.size w (W.setCell ⟨w.heap.size + 1 + 1 + 1, 12, none⟩ v) :=
 ⟨(cell_block (heap_setCell_other _ ⟨w.heap.size + 1 + 1 + 1, 12, none⟩ _ v (show w.heap.size ≠ w.heap.size + 1 + 1 + 1 by omega))).trans h.1, (cell_block (heap_setCell_other _ ⟨w.heap.size + 1 + 1 + 1, 12, none⟩ _ v (show g ≠ w.heap.size + 1 + 1 + 1 by omega))).trans h.2.1, h.2.2.setCell (p := ⟨w.heap.size + 1 + 1 + 1, 12, none⟩) (show w.heap.size ≤ w.heap.size + 1 + 1 + 1 by omega) v⟩
theorem rls_bt {u : Tr} {A : Option Addr} {c : Nat} {K : Option Addr} {d : Nat} {w wr W w9 : World} {k : Nat} {v : Value} (h : RlS u A c K d w k v wr) (hw : Below wr.heap.size wr W) (hgr : W.grownBy w9 v.ownBlock) : Blk w9 (w.heap.size + 1 + 1 + 1) 92 #[.int .i64 19, .bool false, .int .i64 0, .int .u64 0, .int .u64 0, .int .u32 0, .int .u64 0, .int .u32 0, .string ⟨#[]⟩, .slice none 0 0, .slice none 0 0, .slice none 0 0, v] := (h.bt.below hw h.bt.lt).only hgr (rls_ne h (by omega))
theorem rls_step {u : Tr} {A : Option Addr} {c : Nat} {K : Option Addr} {d : Nat} {w wr W w9 : World} {k : Nat} {v v9 : Value} (hk : k < u.kids.length) (hx : u.kids[k].isNb = true) (h : RlS u A c K d w k v wr) (hw : Below wr.heap.size wr W) (hown : w9.ownsRow (w.heap.size + 1 + 1 + 1 + 1) 64 1 v9 (k + 1) ((u.kids.take k).map ubV ++ [ubV u.kids[k]])) (hgr : W.grownBy w9 v.ownBlock) : RlS u A c K d w (k + 1) v9 (w9.setCell ⟨w.heap.size + 1 + 1 + 1, 12, none⟩ v9) := by
 have hb := h.bl.trans (hw.mono h.bl.size)
 have hb9 : Below w.heap.size w w9 := hb.grown hgr (by have := hb.size; omega) fun j hj => by have := (h.own.lt j hj).1; omega
 refine ⟨hb9.setCell (p := ⟨w.heap.size + 1 + 1 + 1, 12, none⟩) (show w.heap.size ≤ w.heap.size + 1 + 1 + 1 by omega) v9, ((h.box.below hw h.box.lt).only hgr (rls_ne h (by omega))).far (p := ⟨w.heap.size + 1 + 1 + 1, 12, none⟩) (show w.heap.size ≠ w.heap.size + 1 + 1 + 1 by omega) v9, ((h.bz.below hw h.bz.lt).only hgr (rls_ne h (by omega))).far (p := ⟨w.heap.size + 1 + 1 + 1, 12, none⟩) (show w.heap.size + 1 ≠ w.heap.size + 1 + 1 + 1 by omega) v9, ((h.bf.below hw h.bf.lt).only hgr (rls_ne h (by omega))).far (p := ⟨w.heap.size + 1 + 1 + 1, 12, none⟩) (show w.heap.size + 1 + 1 ≠ w.heap.size + 1 + 1 + 1 by omega) v9, (rls_bt h hw hgr).put 12 v9, ?_, ?_⟩
 ·rw [List.take_succ_eq_append_getElem hk, List.map_append]
  exact ownsRow_setCell_below hown (show w.heap.size + 1 + 1 + 1 < w.heap.size + 1 + 1 + 1 + 1 by omega) v9
 ·rw [h.bad]
  exact badK_yes hk hx
theorem rlists_19 (u : Tr) (A : Option Addr) (c : Nat) (K : Option Addr) (d : Nat) (p : Tx) (hp : p.length ≤ 4194304) (w : World) (h : RdVA w u ((A, c), (K, d))) (hf : u.fit = true) : Calls Tryz.prog 51 #[valV u A c K d, .string ⟨p.toArray⟩, .int .i64 19] w (RFloP p u w) := by
 unfold valV
 obtain ⟨i0, hi0, hz0, hz1, hz2⟩ := info_parts info_u64B
 obtain ⟨w0, hw0⟩ : ∃ w0, (((w.alloc (.cells #[.int .i64 (u.srt : Nat), .bool u.fl, .int .u64 (u.bi : Nat), .string ⟨u.tx.toArray⟩, .slice A u.kids.length c, .slice K u.kn.length d] 79)).alloc (.cells #[.int .i64 0, .bool false, .int .i64 0, .int .u64 0, .int .u64 0, .int .u32 0, .int .u64 0, .int .u32 0, .string ⟨#[]⟩, .slice none 0 0, .slice none 0 0, .slice none 0 0, .slice none 0 0] 92)).alloc (.cells #[.int .i64 0, .int .i64 0, .bool false, .string ⟨#[]⟩] 81)) = w0 := ⟨_, rfl⟩
 have hb0 : Below w.heap.size w w0 := by rw [← hw0]; exact (((Below.refl _ _).alloc (Nat.le_refl _) _).alloc (by simp) _).alloc (by simp; omega) _
 have hv0 : Blk w0 w.heap.size 79 #[.int .i64 (u.srt : Nat), .bool u.fl, .int .u64 (u.bi : Nat), .string ⟨u.tx.toArray⟩, .slice A u.kids.length c, .slice K u.kn.length d] := by rw [← hw0]; exact ((Blk.new w _ _).alloc _).alloc _
 have hz3 : Blk w0 (w.heap.size + 1) 92 #[.int .i64 0, .bool false, .int .i64 0, .int .u64 0, .int .u64 0, .int .u32 0, .int .u64 0, .int .u32 0, .string ⟨#[]⟩, .slice none 0 0, .slice none 0 0, .slice none 0 0, .slice none 0 0] := by
  have := (Blk.new (w.alloc (.cells #[.int .i64 (u.srt : Nat), .bool u.fl, .int .u64 (u.bi : Nat), .string ⟨u.tx.toArray⟩, .slice A u.kids.length c, .slice K u.kn.length d] 79)) 92 #[.int .i64 0, .bool false, .int .i64 0, .int .u64 0, .int .u64 0, .int .u32 0, .int .u64 0, .int .u32 0, .string ⟨#[]⟩, .slice none 0 0, .slice none 0 0, .slice none 0 0, .slice none 0 0]).alloc (.cells #[.int .i64 0, .int .i64 0, .bool false, .string ⟨#[]⟩] 81)
  rw [World.size_alloc, hw0] at this
  exact this
 have hf0 : Blk w0 (w.heap.size + 1 + 1) 81 #[.int .i64 0, .int .i64 0, .bool false, .string ⟨#[]⟩] := by
  have := Blk.new ((w.alloc (.cells #[.int .i64 (u.srt : Nat), .bool u.fl, .int .u64 (u.bi : Nat), .string ⟨u.tx.toArray⟩, .slice A u.kids.length c, .slice K u.kn.length d] 79)).alloc (.cells #[.int .i64 0, .bool false, .int .i64 0, .int .u64 0, .int .u64 0, .int .u32 0, .int .u64 0, .int .u32 0, .string ⟨#[]⟩, .slice none 0 0, .slice none 0 0, .slice none 0 0, .slice none 0 0] 92)) 81 #[.int .i64 0, .int .i64 0, .bool false, .string ⟨#[]⟩]
  rw [World.size_alloc, World.size_alloc, hw0] at this
  exact this
 have hs0 : w0.heap.size = w.heap.size + 1 + 1 + 1 := by rw [← hw0]; simp
 have HW0 := Lib.hid hw0
 have HV := Lib.hid hv0
 have HZ := Lib.hid hz3
 have HF := Lib.hid hf0
 have HBW := Lib.hid hb0
 have HR := Lib.hid h
 have HPL := Lib.hid hp
 have HS0 := Lib.hid hs0
 have hkl := kids_len (fit_le hf).1
 have HKL := Lib.hid hkl
 clear hw0 hb0 hv0 hf0 h hp hz3 hs0 hf hkl
 go_enter Tryz.func51, Tryz.ntmps51
 go_upto_region 1 with fail
 rw [HW0.out]
 have v0 : w0.cell? ⟨w.heap.size, 0, none⟩ = some (.int .i64 (u.srt : Nat)) := HV.out.cell 0
 have v1 : w0.cell? ⟨w.heap.size, 1, none⟩ = some (.bool u.fl) := HV.out.cell 1
 have v2 : w0.cell? ⟨w.heap.size, 2, none⟩ = some (.int .u64 (u.bi : Nat)) := HV.out.cell 2
 have v3 : w0.cell? ⟨w.heap.size, 3, none⟩ = some (.string ⟨u.tx.toArray⟩) := HV.out.cell 3
 have v4 : w0.cell? ⟨w.heap.size, 4, none⟩ = some (.slice A u.kids.length c) := HV.out.cell 4
 have v5 : w0.cell? ⟨w.heap.size, 5, none⟩ = some (.slice K u.kn.length d) := HV.out.cell 5
 by_cases hs : u.srt = 5
 ·have hsi : ((u.srt : Nat) : Int) = 5 := by omega
  rw [hsi] at v0
  have HS := Lib.hid hs
  clear hs hsi
  obtain ⟨xs, hCs, hLs⟩ := HR.out.kids
  have HCL := Lib.hid (And.intro hCs hLs)
  obtain ⟨w1, hw1⟩ : ∃ w1, w0.alloc (.cells #[.int .i64 19, .bool false, .int .i64 0, .int .u64 0, .int .u64 0, .int .u32 0, .int .u64 0, .int .u32 0, .string ⟨#[]⟩, .slice none 0 0, .slice none 0 0, .slice none 0 0, .slice none 0 0] 92) = w1 := ⟨_, rfl⟩
  have hb1 : Below w0.heap.size w0 w1 := by rw [← hw1]; exact (Below.refl _ _).alloc (Nat.le_refl _) _
  have ht1 : Blk w1 (w.heap.size + 1 + 1 + 1) 92 #[.int .i64 19, .bool false, .int .i64 0, .int .u64 0, .int .u64 0, .int .u32 0, .int .u64 0, .int .u32 0, .string ⟨#[]⟩, .slice none 0 0, .slice none 0 0, .slice none 0 0, .slice none 0 0] := by
   have := Blk.new w0 92 #[.int .i64 19, .bool false, .int .i64 0, .int .u64 0, .int .u64 0, .int .u32 0, .int .u64 0, .int .u32 0, .string ⟨#[]⟩, .slice none 0 0, .slice none 0 0, .slice none 0 0, .slice none 0 0]
   rw [HS0.out, hw1] at this
   exact this
  have HST : Hid (RlS u A c K d w 0 (.slice none 0 0) w1) := Lib.hid ⟨HBW.out.trans (hb1.mono HBW.out.size), HV.out.below hb1 HV.out.lt, HZ.out.below hb1 HZ.out.lt, HF.out.below hb1 HF.out.lt, ht1, World.ownsRow_nil _ _ _ _, rfl⟩
  have HW1 := Lib.hid hw1
  clear hCs hLs hw1 hb1 ht1
  go_upto_region 4 with fail
  rw [HS0.out, HW1.out]
  go_wp2_with fail
  go_loopw [9] (fun c9 wr => ∃ (k : Nat) (v : Value), k ≤ u.kids.length ∧ c9 = .int .i64 (k : Int) ∧ Hid (RlS u A c K d w k v wr)) (fun c9 _ => u.kids.length - (intOf c9).toNat)
  case atStart => exact ⟨0, _, by omega, rfl, HST⟩
  case round =>
   obtain ⟨k, v, hk, rfl, HI⟩ := hrel
   have v4 : wr.cell? ⟨w.heap.size, 4, none⟩ = some (.slice A u.kids.length c) := HI.out.box.cell 4
   by_cases hltk : k < u.kids.length
   ·have hki : (k : Int) < (u.kids.length : Int) := by omega
    have hkb : (k : Int) ≤ 65536 := by have := HKL.out; omega
    have HLT := Lib.hid hltk
    obtain ⟨g, ob, xk, rfl, _, _, hcl, hrx⟩ := cells_at HCL.out.1 HCL.out.2 hltk
    have hgl : g < w.heap.size := World.block_lt_of_cell? _ _ hcl.c0
    have hcl0 := hcl.below HI.out.bl
    have k0 := hcl0.c0
    have k2 := hcl0.c2
    have hsn := srt_nb (u.kids[k]'hltk)
    obtain ⟨y, hy⟩ : ∃ y, u.kids[k]'hltk = y := ⟨_, rfl⟩
    have HY := Lib.hid hy
    rw [hy] at k0 k2 hsn
    clear hcl hcl0 hrx hk hy
    cases hnb : y.isNb with
    | true =>
     rw [hnb] at hsn
     have hsn1 : (((y.srt : Nat) : Int) != 3) = false := hsn.1
     have hsn2 := hsn.2 rfl
     rw [hsn2] at k2
     obtain ⟨x, hx⟩ : ∃ x, y.nb = x := ⟨_, rfl⟩
     rw [hx] at k2
     have HX := Lib.hid hx
     have HNB := Lib.hid hnb
     have HGL := Lib.hid hgl
     have c12 : wr.cell? ⟨w.heap.size + 1 + 1 + 1, 12, none⟩ = some v := HI.out.bt.cell 12
     clear hsn hsn2 hnb hx hgl
     go_upto_region 14 with fail
     have hl12 : w.heap.size + 1 + 1 + 1 < wr.heap.size := HI.out.bt.lt
     have HOWP : Hid (((wr.drew.alloc (.cells #[.int .u64 (x : Int)] 64))).ownsRow (w.heap.size + 1 + 1 + 1 + 1) 64 1 v k ((u.kids.take k).map ubV)) := Lib.hid (own_below HI.out.own ((Below.refl _ _).drew.alloc (Nat.le_refl _) _))
     have HON := Lib.hid (one_new wr.drew 64 (.int .u64 (x : Int)))
     have HBA : Hid (w.heap.size + 1 + 1 + 1 + 1 ≤ ((wr.drew.alloc (.cells #[.int .u64 (x : Int)] 64))).heap.size) := Lib.hid (by have := HI.out.bt.lt; simp; omega)
     have HBP : Hid (Below wr.heap.size wr (wr.drew.alloc (.cells #[.int .u64 (x : Int)] 64))) := Lib.hid ((Below.refl _ _).drew.alloc (Nat.le_refl _) _)
     refine wp_region_held_drew (S := (fun w' => w'.cell? ⟨w.heap.size, 4, none⟩ = some (.slice (some ⟨g, ob, none⟩) u.kids.length c) ∧ w'.cell? ⟨g, ob + k * 6 + 2, none⟩ = some (.int .u64 (x : Int)) ∧ Below w.heap.size w w')) (by kernel_rfl) ⟨v4, k2, HI.out.bl.trans (drewN_below _ 1)⟩ (fun hHeld => ?_)
     refine held_take (i := 0) (v := ?_) (some 66) rfl rfl (by kernel_rfl) (by kernel_rfl) (by kernel_rfl) (fun _ _ _ h => h) (Or.inl ⟨by rfl, ?_⟩) hHeld ?_
     rotate_left
     ·intro w hSw
      try dsimp only at hSw
      go_simp
      try with_reducible rfl
     simp only [Act.put, List.setIfInBounds_toArray, List.set_cons_zero, List.set_cons_succ]
     refine held_take (i := 2) (v := ?_) (some 68) rfl rfl (by kernel_rfl) (by kernel_rfl) (by kernel_rfl) (fun _ _ _ h => h) (Or.inl ⟨by rfl, ?_⟩) hHeld ?_
     rotate_left
     ·intro w hSw
      try dsimp only at hSw
      go_simp
      try with_reducible rfl
     simp only [Act.put, List.setIfInBounds_toArray, List.set_cons_zero, List.set_cons_succ]
     refine held_take (i := 3) (v := ?_) (some 69) rfl rfl (by kernel_rfl) (by kernel_rfl) (by kernel_rfl) (fun _ _ _ h => h) (Or.inl ⟨by rfl, ?_⟩) hHeld ?_
     rotate_left
     ·intro w hSw
      try dsimp only at hSw
      go_simp
      try with_reducible rfl
     simp only [Act.put, List.setIfInBounds_toArray, List.set_cons_zero, List.set_cons_succ]
     refine held_take (i := 4) (v := ?_) (some 70) rfl rfl (by kernel_rfl) (by kernel_rfl) (by kernel_rfl) (fun _ _ _ h => h) (Or.inl ⟨by rfl, ?_⟩) hHeld ?_
     rotate_left
     ·intro w hSw
      try dsimp only at hSw
      go_simp
      try with_reducible rfl
     simp only [Act.put, List.setIfInBounds_toArray, List.set_cons_zero, List.set_cons_succ]
     refine held_take (i := 5) (v := ?_) (some 71) rfl rfl (by kernel_rfl) (by kernel_rfl) (by kernel_rfl) (fun _ _ _ h => h) (Or.inl ⟨by rfl, ?_⟩) hHeld ?_
     rotate_left
     ·intro w hSw
      try dsimp only at hSw
      go_simp
      try with_reducible rfl
     simp only [Act.put, List.setIfInBounds_toArray, List.set_cons_zero, List.set_cons_succ]
     refine held_take (i := 6) (v := ?_) (some 72) rfl rfl (by kernel_rfl) (by kernel_rfl) (by kernel_rfl) (fun _ _ _ h => h) (Or.inl ⟨by rfl, ?_⟩) hHeld ?_
     rotate_left
     ·intro w hSw
      try dsimp only at hSw
      go_simp
      try with_reducible rfl
     simp only [Act.put, List.setIfInBounds_toArray, List.set_cons_zero, List.set_cons_succ]
     refine held_take (i := 7) (v := ?_) (some 73) rfl rfl (by kernel_rfl) (by kernel_rfl) (by kernel_rfl) (fun _ _ _ h => h) (Or.inl ⟨by rfl, ?_⟩) hHeld ?_
     rotate_left
     ·intro w hSw
      try dsimp only at hSw
      go_simp
      try with_reducible rfl
     simp only [Act.put, List.setIfInBounds_toArray, List.set_cons_zero, List.set_cons_succ]
     refine wpAnyH_ready (rs := [1, 8]) (by kernel_rfl) (by simp) ?_
     refine AllReadyH.cons rfl (fun K hK => ?_) (AllReadyH.cons rfl (fun K hK => ?_) AllReadyH.nil)
     ·go_simp
      refine hK.out _ _ hHeld (fun _ => ?_)
      clear hK K
      refine wpAnyH_ready (rs := [8]) (by kernel_rfl) (by simp) ?_
      refine AllReadyH.cons rfl (fun K hK => ?_) AllReadyH.nil
      go_simp
      replace hHeld := held_new (ob2 := .cells #[.int .u64 (x : Int)] 64) hHeld
      refine hK.out _ _ hHeld (fun _ => ?_)
      clear hK K
      refine wpAnyH_ready (rs := [9]) (by kernel_rfl) (by simp) ?_
      refine AllReadyH.cons rfl (fun K hK => ?_) AllReadyH.nil
      refine step_append_own rfl (.tmp 67) (.tmp 74) 90 rfl (w.heap.size + 1 + 1 + 1 + 1) 64 i0 _ 1 8 Tryz.underlying90 hi0 hz0 hz1 hz2 rfl (by omega) v k ((u.kids.take k).map ubV) (by simp [Act.eval, Act.put]) HOWP.out ⟨wr.heap.size, 0, none⟩ 1 1 [.int .u64 (x : Int)] (by simp [Act.eval, Act.put]) rfl HON.out (one_cell _ rfl) (by unfold maxLen; omega) (by omega) HBA.out (fun v9 w9 hown9 hgr9 => ?_)
      replace hHeld := held_app HI.out hgr9 hHeld HGL.out
      refine hK.out _ _ hHeld (fun _ => ?_)
      clear hK K
      obtain ⟨A9, c9, rfl⟩ := own_slice hown9
      have hbt9 := rls_bt HI.out HBP.out hgr9
      have q12 : w9.cell? ⟨w.heap.size + 1 + 1 + 1, 12, none⟩ = some v := hbt9.cell 12
      have f12 := hbt9.frozen 12
      have hlt9 := hbt9.lt
      have HST := Lib.hid (rls_step HLT.out (by rw [HY.out]; exact HNB.out) HI.out HBP.out (by rw [HY.out]; show w9.ownsRow _ _ 1 (.slice A9 (k + 1) c9) (k + 1) (_ ++ [Value.int .u64 (y.nb : Int)]); rw [HX.out]; exact hown9) hgr9)
      refine held_take (i := 10) (v := ?_) (some 76) rfl rfl (by kernel_rfl) (by kernel_rfl) (by kernel_rfl) (fun _ _ _ h => h) (Or.inl ⟨by rfl, ?_⟩) hHeld ?_
      rotate_left
      ·intro w hSw
       try dsimp only at hSw
       go_simp
       try with_reducible rfl
      simp only [Act.put, List.setIfInBounds_toArray, List.set_cons_zero, List.set_cons_succ]
      refine wpAnyH_ready (rs := [11]) (by kernel_rfl) (by simp) ?_
      refine AllReadyH.cons rfl (fun K hK => ?_) AllReadyH.nil
      go_simp
      replace hHeld := held_set hHeld HGL.out (.slice A9 (k + 1) c9)
      refine hK.out _ _ hHeld (fun _ => ?_)
      clear hK K
      refine wpAnyH_done (by kernel_rfl) ?_ _
      go_wp2
      go_roundw
      case rel => exact ⟨k + 1, .slice A9 (k + 1) c9, HLT.out, by go_num, HST⟩
      case measure => have := HLT.out; simp [intOf]; omega
     ·go_simp
      replace hHeld := held_new (ob2 := .cells #[.int .u64 (x : Int)] 64) hHeld
      refine hK.out _ _ hHeld (fun _ => ?_)
      clear hK K
      refine wpAnyH_ready (rs := [1]) (by kernel_rfl) (by simp) ?_
      refine AllReadyH.cons rfl (fun K hK => ?_) AllReadyH.nil
      go_simp
      replace hHeld := hHeld
      refine hK.out _ _ hHeld (fun _ => ?_)
      clear hK K
      refine wpAnyH_ready (rs := [9]) (by kernel_rfl) (by simp) ?_
      refine AllReadyH.cons rfl (fun K hK => ?_) AllReadyH.nil
      refine step_append_own rfl (.tmp 67) (.tmp 74) 90 rfl (w.heap.size + 1 + 1 + 1 + 1) 64 i0 _ 1 8 Tryz.underlying90 hi0 hz0 hz1 hz2 rfl (by omega) v k ((u.kids.take k).map ubV) (by simp [Act.eval, Act.put]) HOWP.out ⟨wr.heap.size, 0, none⟩ 1 1 [.int .u64 (x : Int)] (by simp [Act.eval, Act.put]) rfl HON.out (one_cell _ rfl) (by unfold maxLen; omega) (by omega) HBA.out (fun v9 w9 hown9 hgr9 => ?_)
      replace hHeld := held_app HI.out hgr9 hHeld HGL.out
      refine hK.out _ _ hHeld (fun _ => ?_)
      clear hK K
      obtain ⟨A9, c9, rfl⟩ := own_slice hown9
      have hbt9 := rls_bt HI.out HBP.out hgr9
      have q12 : w9.cell? ⟨w.heap.size + 1 + 1 + 1, 12, none⟩ = some v := hbt9.cell 12
      have f12 := hbt9.frozen 12
      have hlt9 := hbt9.lt
      have HST := Lib.hid (rls_step HLT.out (by rw [HY.out]; exact HNB.out) HI.out HBP.out (by rw [HY.out]; show w9.ownsRow _ _ 1 (.slice A9 (k + 1) c9) (k + 1) (_ ++ [Value.int .u64 (y.nb : Int)]); rw [HX.out]; exact hown9) hgr9)
      refine held_take (i := 10) (v := ?_) (some 76) rfl rfl (by kernel_rfl) (by kernel_rfl) (by kernel_rfl) (fun _ _ _ h => h) (Or.inl ⟨by rfl, ?_⟩) hHeld ?_
      rotate_left
      ·intro w hSw
       try dsimp only at hSw
       go_simp
       try with_reducible rfl
      simp only [Act.put, List.setIfInBounds_toArray, List.set_cons_zero, List.set_cons_succ]
      refine wpAnyH_ready (rs := [11]) (by kernel_rfl) (by simp) ?_
      refine AllReadyH.cons rfl (fun K hK => ?_) AllReadyH.nil
      go_simp
      replace hHeld := held_set hHeld HGL.out (.slice A9 (k + 1) c9)
      refine hK.out _ _ hHeld (fun _ => ?_)
      clear hK K
      refine wpAnyH_done (by kernel_rfl) ?_ _
      go_wp2
      go_roundw
      case rel => exact ⟨k + 1, .slice A9 (k + 1) c9, HLT.out, by go_num, HST⟩
      case measure => have := HLT.out; simp [intOf]; omega
    | false =>
     rw [hnb] at hsn
     have hsn1 : (((y.srt : Nat) : Int) != 3) = true := hsn.1
     have HPF := Lib.hid (fun w' : World => @rfloP_bad p u w w' k HS.out (HI.out.bad.trans (badK_no hltk (by rw [HY.out]; exact hnb))))
     have HAT := Lib.hid (rat_any p (by have := HPL.out; omega) k (by omega) wr)
     obtain ⟨pk, hpk⟩ : ∃ pk, atP p k = pk := ⟨_, rfl⟩
     rw [hpk] at HPF HAT
     have HBW := Lib.hid HI.out.bl
     have HF := Lib.hid HI.out.bf
     have HZ := Lib.hid HI.out.bz
     clear hsn hnb hpk hgl
     go_wp2_with fail
     ((with_reducible refine (HAT.out).mono ?_); rintro e w2 ⟨rfl, hb2⟩)
     have HBW := Lib.hid (HBW.out.trans (hb2.mono HBW.out.size))
     have HF := Lib.hid (HF.out.below hb2 HF.out.lt)
     have HZ := Lib.hid (HZ.out.below hb2 HZ.out.lt)
     clear hb2
     go_wp2_with fail
     ((with_reducible refine (refTrail16 5 pk _).mono ?_); rintro e w3 ⟨rfl, hw3⟩)
     have hb3 : Below w2.heap.size w2 w3 := by rw [hw3]; exact (Below.refl _ _).alloc (Nat.le_refl _) _
     have HBW := Lib.hid (HBW.out.trans (hb3.mono HBW.out.size))
     have HF := Lib.hid (HF.out.below hb3 HF.out.lt)
     have HZ := Lib.hid (HZ.out.below hb3 HZ.out.lt)
     clear hw3 hb3
     have y0 : w3.cell? ⟨w.heap.size + 1, 0, none⟩ = some (.int .i64 0) := HZ.out.cell 0
     have y1 : w3.cell? ⟨w.heap.size + 1, 1, none⟩ = some (.bool false) := HZ.out.cell 1
     have y2 : w3.cell? ⟨w.heap.size + 1, 2, none⟩ = some (.int .i64 0) := HZ.out.cell 2
     have y3 : w3.cell? ⟨w.heap.size + 1, 3, none⟩ = some (.int .u64 0) := HZ.out.cell 3
     have y4 : w3.cell? ⟨w.heap.size + 1, 4, none⟩ = some (.int .u64 0) := HZ.out.cell 4
     have y5 : w3.cell? ⟨w.heap.size + 1, 5, none⟩ = some (.int .u32 0) := HZ.out.cell 5
     have y6 : w3.cell? ⟨w.heap.size + 1, 6, none⟩ = some (.int .u64 0) := HZ.out.cell 6
     have y7 : w3.cell? ⟨w.heap.size + 1, 7, none⟩ = some (.int .u32 0) := HZ.out.cell 7
     have y8 : w3.cell? ⟨w.heap.size + 1, 8, none⟩ = some (.string ⟨#[]⟩) := HZ.out.cell 8
     have y9 : w3.cell? ⟨w.heap.size + 1, 9, none⟩ = some (.slice none 0 0) := HZ.out.cell 9
     have y10 : w3.cell? ⟨w.heap.size + 1, 10, none⟩ = some (.slice none 0 0) := HZ.out.cell 10
     have y11 : w3.cell? ⟨w.heap.size + 1, 11, none⟩ = some (.slice none 0 0) := HZ.out.cell 11
     have y12 : w3.cell? ⟨w.heap.size + 1, 12, none⟩ = some (.slice none 0 0) := HZ.out.cell 12
     have r0 := HZ.out.frozen 0
     have r1 := HZ.out.frozen 1
     have r2 := HZ.out.frozen 2
     have r3 := HZ.out.frozen 3
     have r4 := HZ.out.frozen 4
     have r5 := HZ.out.frozen 5
     have r6 := HZ.out.frozen 6
     have r7 := HZ.out.frozen 7
     have r8 := HZ.out.frozen 8
     have r9 := HZ.out.frozen 9
     have r10 := HZ.out.frozen 10
     have r11 := HZ.out.frozen 11
     have r12 := HZ.out.frozen 12
     have yf0 : w3.cell? ⟨w.heap.size + 1 + 1, 0, none⟩ = some (.int .i64 0) := HF.out.cell 0
     have yf1 : w3.cell? ⟨w.heap.size + 1 + 1, 1, none⟩ = some (.int .i64 0) := HF.out.cell 1
     have yf2 : w3.cell? ⟨w.heap.size + 1 + 1, 2, none⟩ = some (.bool false) := HF.out.cell 2
     have yf3 : w3.cell? ⟨w.heap.size + 1 + 1, 3, none⟩ = some (.string ⟨#[]⟩) := HF.out.cell 3
     have rf0 := HF.out.frozen 0
     have rf1 := HF.out.frozen 1
     have rf2 := HF.out.frozen 2
     have rf3 := HF.out.frozen 3
     have hkz := HZ.out.lt
     have hkf := HF.out.lt
     go_wp2
     have hfz := four_far (thir_blk HZ.out (.int .i64 0) (.bool false) (.int .i64 0) (.int .u64 0) (.int .u64 0) (.int .u32 0) (.int .u64 0) (.int .u32 0) (.string ⟨#[]⟩) (.slice none 0 0) (.slice none 0 0) (.slice none 0 0) (.slice none 0 0)) (show w.heap.size + 1 ≠ w.heap.size + 1 + 1 by omega) (.int .i64 5) (.int .i64 0) (.bool true) (.string ⟨pk.toArray⟩)
     have hff := four_blk (thir_far HF.out (show w.heap.size + 1 + 1 ≠ w.heap.size + 1 by omega) (.int .i64 0) (.bool false) (.int .i64 0) (.int .u64 0) (.int .u64 0) (.int .u32 0) (.int .u64 0) (.int .u32 0) (.string ⟨#[]⟩) (.slice none 0 0) (.slice none 0 0) (.slice none 0 0) (.slice none 0 0)) (.int .i64 5) (.int .i64 0) (.bool true) (.string ⟨pk.toArray⟩)
     have hbl := four_below (thir_below HBW.out (show w.heap.size ≤ w.heap.size + 1 by omega) (.int .i64 0) (.bool false) (.int .i64 0) (.int .u64 0) (.int .u64 0) (.int .u32 0) (.int .u64 0) (.int .u32 0) (.string ⟨#[]⟩) (.slice none 0 0) (.slice none 0 0) (.slice none 0 0) (.slice none 0 0)) (show w.heap.size ≤ w.heap.size + 1 + 1 by omega) (.int .i64 5) (.int .i64 0) (.bool true) (.string ⟨pk.toArray⟩)
     unfold four thir at hfz hff hbl
     generalize (((((((((((((((((w3.setCell ⟨w.heap.size + 1, 0, none⟩ (.int .i64 0)).setCell ⟨w.heap.size + 1, 1, none⟩ (.bool false)).setCell ⟨w.heap.size + 1, 2, none⟩ (.int .i64 0)).setCell ⟨w.heap.size + 1, 3, none⟩ (.int .u64 0)).setCell ⟨w.heap.size + 1, 4, none⟩ (.int .u64 0)).setCell ⟨w.heap.size + 1, 5, none⟩ (.int .u32 0)).setCell ⟨w.heap.size + 1, 6, none⟩ (.int .u64 0)).setCell ⟨w.heap.size + 1, 7, none⟩ (.int .u32 0)).setCell ⟨w.heap.size + 1, 8, none⟩ (.string ⟨#[]⟩)).setCell ⟨w.heap.size + 1, 9, none⟩ (.slice none 0 0)).setCell ⟨w.heap.size + 1, 10, none⟩ (.slice none 0 0)).setCell ⟨w.heap.size + 1, 11, none⟩ (.slice none 0 0)).setCell ⟨w.heap.size + 1, 12, none⟩ (.slice none 0 0)).setCell ⟨w.heap.size + 1 + 1, 0, none⟩ (.int .i64 5)).setCell ⟨w.heap.size + 1 + 1, 1, none⟩ (.int .i64 0)).setCell ⟨w.heap.size + 1 + 1, 2, none⟩ (.bool true)).setCell ⟨w.heap.size + 1 + 1, 3, none⟩ (.string ⟨pk.toArray⟩)) = wf at *
     have dd0 : wf.cell? ⟨w.heap.size + 1, 0, none⟩ = some (.int .i64 0) := hfz.cell 0
     have dd1 : wf.cell? ⟨w.heap.size + 1, 1, none⟩ = some (.bool false) := hfz.cell 1
     have dd2 : wf.cell? ⟨w.heap.size + 1, 2, none⟩ = some (.int .i64 0) := hfz.cell 2
     have dd3 : wf.cell? ⟨w.heap.size + 1, 3, none⟩ = some (.int .u64 0) := hfz.cell 3
     have dd4 : wf.cell? ⟨w.heap.size + 1, 4, none⟩ = some (.int .u64 0) := hfz.cell 4
     have dd5 : wf.cell? ⟨w.heap.size + 1, 5, none⟩ = some (.int .u32 0) := hfz.cell 5
     have dd6 : wf.cell? ⟨w.heap.size + 1, 6, none⟩ = some (.int .u64 0) := hfz.cell 6
     have dd7 : wf.cell? ⟨w.heap.size + 1, 7, none⟩ = some (.int .u32 0) := hfz.cell 7
     have dd8 : wf.cell? ⟨w.heap.size + 1, 8, none⟩ = some (.string ⟨#[]⟩) := hfz.cell 8
     have dd9 : wf.cell? ⟨w.heap.size + 1, 9, none⟩ = some (.slice none 0 0) := hfz.cell 9
     have dd10 : wf.cell? ⟨w.heap.size + 1, 10, none⟩ = some (.slice none 0 0) := hfz.cell 10
     have dd11 : wf.cell? ⟨w.heap.size + 1, 11, none⟩ = some (.slice none 0 0) := hfz.cell 11
     have dd12 : wf.cell? ⟨w.heap.size + 1, 12, none⟩ = some (.slice none 0 0) := hfz.cell 12
     have ee0 : wf.cell? ⟨w.heap.size + 1 + 1, 0, none⟩ = some (.int .i64 5) := hff.cell 0
     have ee1 : wf.cell? ⟨w.heap.size + 1 + 1, 1, none⟩ = some (.int .i64 0) := hff.cell 1
     have ee2 : wf.cell? ⟨w.heap.size + 1 + 1, 2, none⟩ = some (.bool true) := hff.cell 2
     have ee3 : wf.cell? ⟨w.heap.size + 1 + 1, 3, none⟩ = some (.string ⟨pk.toArray⟩) := hff.cell 3
     refine bodyPost_ret (v := .tuple #[.agg #[.int .i64 0, .bool false, .int .i64 0, .int .u64 0, .int .u64 0, .int .u32 0, .int .u64 0, .int .u32 0, .string ⟨#[]⟩, .slice none 0 0, .slice none 0 0, .slice none 0 0, .slice none 0 0], .agg #[.int .i64 5, .int .i64 0, .bool true, .string ⟨pk.toArray⟩]]) ?_ rfl (HPF.out _ hbl)
     simp [results, Tryz.results51, go_sem, dd0, dd1, dd2, dd3, dd4, dd5, dd6, dd7, dd8, dd9, dd10, dd11, dd12, ee0, ee1, ee2, ee3]
   ·obtain rfl : k = u.kids.length := by omega
    obtain ⟨Av, cv, rfl⟩ := own_slice HI.out.own
    have hown := HI.out.own
    rw [List.take_length] at hown
    have HOW := Lib.hid hown
    have HPF := Lib.hid (fun w' : World => @rfloP_ok p u w w' (.slice Av u.kids.length cv) HS.out (HI.out.bad.trans (badK_end _)))
    have HBW := Lib.hid HI.out.bl
    have HF := Lib.hid HI.out.bf
    have HZ := Lib.hid HI.out.bz
    have HBT := Lib.hid HI.out.bt
    have tt0 : wr.cell? ⟨w.heap.size + 1 + 1 + 1, 0, none⟩ = some (.int .i64 19) := HBT.out.cell 0
    have tt1 : wr.cell? ⟨w.heap.size + 1 + 1 + 1, 1, none⟩ = some (.bool false) := HBT.out.cell 1
    have tt2 : wr.cell? ⟨w.heap.size + 1 + 1 + 1, 2, none⟩ = some (.int .i64 0) := HBT.out.cell 2
    have tt3 : wr.cell? ⟨w.heap.size + 1 + 1 + 1, 3, none⟩ = some (.int .u64 0) := HBT.out.cell 3
    have tt4 : wr.cell? ⟨w.heap.size + 1 + 1 + 1, 4, none⟩ = some (.int .u64 0) := HBT.out.cell 4
    have tt5 : wr.cell? ⟨w.heap.size + 1 + 1 + 1, 5, none⟩ = some (.int .u32 0) := HBT.out.cell 5
    have tt6 : wr.cell? ⟨w.heap.size + 1 + 1 + 1, 6, none⟩ = some (.int .u64 0) := HBT.out.cell 6
    have tt7 : wr.cell? ⟨w.heap.size + 1 + 1 + 1, 7, none⟩ = some (.int .u32 0) := HBT.out.cell 7
    have tt8 : wr.cell? ⟨w.heap.size + 1 + 1 + 1, 8, none⟩ = some (.string ⟨#[]⟩) := HBT.out.cell 8
    have tt9 : wr.cell? ⟨w.heap.size + 1 + 1 + 1, 9, none⟩ = some (.slice none 0 0) := HBT.out.cell 9
    have tt10 : wr.cell? ⟨w.heap.size + 1 + 1 + 1, 10, none⟩ = some (.slice none 0 0) := HBT.out.cell 10
    have tt11 : wr.cell? ⟨w.heap.size + 1 + 1 + 1, 11, none⟩ = some (.slice none 0 0) := HBT.out.cell 11
    have tt12 : wr.cell? ⟨w.heap.size + 1 + 1 + 1, 12, none⟩ = some (.slice Av u.kids.length cv) := HBT.out.cell 12
    clear hown hk
    have y0 : wr.cell? ⟨w.heap.size + 1, 0, none⟩ = some (.int .i64 0) := HZ.out.cell 0
    have y1 : wr.cell? ⟨w.heap.size + 1, 1, none⟩ = some (.bool false) := HZ.out.cell 1
    have y2 : wr.cell? ⟨w.heap.size + 1, 2, none⟩ = some (.int .i64 0) := HZ.out.cell 2
    have y3 : wr.cell? ⟨w.heap.size + 1, 3, none⟩ = some (.int .u64 0) := HZ.out.cell 3
    have y4 : wr.cell? ⟨w.heap.size + 1, 4, none⟩ = some (.int .u64 0) := HZ.out.cell 4
    have y5 : wr.cell? ⟨w.heap.size + 1, 5, none⟩ = some (.int .u32 0) := HZ.out.cell 5
    have y6 : wr.cell? ⟨w.heap.size + 1, 6, none⟩ = some (.int .u64 0) := HZ.out.cell 6
    have y7 : wr.cell? ⟨w.heap.size + 1, 7, none⟩ = some (.int .u32 0) := HZ.out.cell 7
    have y8 : wr.cell? ⟨w.heap.size + 1, 8, none⟩ = some (.string ⟨#[]⟩) := HZ.out.cell 8
    have y9 : wr.cell? ⟨w.heap.size + 1, 9, none⟩ = some (.slice none 0 0) := HZ.out.cell 9
    have y10 : wr.cell? ⟨w.heap.size + 1, 10, none⟩ = some (.slice none 0 0) := HZ.out.cell 10
    have y11 : wr.cell? ⟨w.heap.size + 1, 11, none⟩ = some (.slice none 0 0) := HZ.out.cell 11
    have y12 : wr.cell? ⟨w.heap.size + 1, 12, none⟩ = some (.slice none 0 0) := HZ.out.cell 12
    have r0 := HZ.out.frozen 0
    have r1 := HZ.out.frozen 1
    have r2 := HZ.out.frozen 2
    have r3 := HZ.out.frozen 3
    have r4 := HZ.out.frozen 4
    have r5 := HZ.out.frozen 5
    have r6 := HZ.out.frozen 6
    have r7 := HZ.out.frozen 7
    have r8 := HZ.out.frozen 8
    have r9 := HZ.out.frozen 9
    have r10 := HZ.out.frozen 10
    have r11 := HZ.out.frozen 11
    have r12 := HZ.out.frozen 12
    have yf0 : wr.cell? ⟨w.heap.size + 1 + 1, 0, none⟩ = some (.int .i64 0) := HF.out.cell 0
    have yf1 : wr.cell? ⟨w.heap.size + 1 + 1, 1, none⟩ = some (.int .i64 0) := HF.out.cell 1
    have yf2 : wr.cell? ⟨w.heap.size + 1 + 1, 2, none⟩ = some (.bool false) := HF.out.cell 2
    have yf3 : wr.cell? ⟨w.heap.size + 1 + 1, 3, none⟩ = some (.string ⟨#[]⟩) := HF.out.cell 3
    have rf0 := HF.out.frozen 0
    have rf1 := HF.out.frozen 1
    have rf2 := HF.out.frozen 2
    have rf3 := HF.out.frozen 3
    have hkz := HZ.out.lt
    have hkf := HF.out.lt
    go_wp2
    have hfz := four_far (thir_blk HZ.out (.int .i64 19) (.bool false) (.int .i64 0) (.int .u64 0) (.int .u64 0) (.int .u32 0) (.int .u64 0) (.int .u32 0) (.string ⟨#[]⟩) (.slice none 0 0) (.slice none 0 0) (.slice none 0 0) (.slice Av u.kids.length cv)) (show w.heap.size + 1 ≠ w.heap.size + 1 + 1 by omega) (.int .i64 0) (.int .i64 0) (.bool false) (.string ⟨#[]⟩)
    have hff := four_blk (thir_far HF.out (show w.heap.size + 1 + 1 ≠ w.heap.size + 1 by omega) (.int .i64 19) (.bool false) (.int .i64 0) (.int .u64 0) (.int .u64 0) (.int .u32 0) (.int .u64 0) (.int .u32 0) (.string ⟨#[]⟩) (.slice none 0 0) (.slice none 0 0) (.slice none 0 0) (.slice Av u.kids.length cv)) (.int .i64 0) (.int .i64 0) (.bool false) (.string ⟨#[]⟩)
    have hbl := four_below (thir_below HBW.out (show w.heap.size ≤ w.heap.size + 1 by omega) (.int .i64 19) (.bool false) (.int .i64 0) (.int .u64 0) (.int .u64 0) (.int .u32 0) (.int .u64 0) (.int .u32 0) (.string ⟨#[]⟩) (.slice none 0 0) (.slice none 0 0) (.slice none 0 0) (.slice Av u.kids.length cv)) (show w.heap.size ≤ w.heap.size + 1 + 1 by omega) (.int .i64 0) (.int .i64 0) (.bool false) (.string ⟨#[]⟩)
    have hwn := (own_four (own_thir HOW.out (show w.heap.size + 1 < w.heap.size + 1 + 1 + 1 + 1 by omega) (.int .i64 19) (.bool false) (.int .i64 0) (.int .u64 0) (.int .u64 0) (.int .u32 0) (.int .u64 0) (.int .u32 0) (.string ⟨#[]⟩) (.slice none 0 0) (.slice none 0 0) (.slice none 0 0) (.slice Av u.kids.length cv)) (show w.heap.size + 1 + 1 < w.heap.size + 1 + 1 + 1 + 1 by omega) (.int .i64 0) (.int .i64 0) (.bool false) (.string ⟨#[]⟩)).mono (show w.heap.size ≤ w.heap.size + 1 + 1 + 1 + 1 by omega)
    unfold four thir at hfz hff hbl hwn
    generalize (((((((((((((((((wr.setCell ⟨w.heap.size + 1, 0, none⟩ (.int .i64 19)).setCell ⟨w.heap.size + 1, 1, none⟩ (.bool false)).setCell ⟨w.heap.size + 1, 2, none⟩ (.int .i64 0)).setCell ⟨w.heap.size + 1, 3, none⟩ (.int .u64 0)).setCell ⟨w.heap.size + 1, 4, none⟩ (.int .u64 0)).setCell ⟨w.heap.size + 1, 5, none⟩ (.int .u32 0)).setCell ⟨w.heap.size + 1, 6, none⟩ (.int .u64 0)).setCell ⟨w.heap.size + 1, 7, none⟩ (.int .u32 0)).setCell ⟨w.heap.size + 1, 8, none⟩ (.string ⟨#[]⟩)).setCell ⟨w.heap.size + 1, 9, none⟩ (.slice none 0 0)).setCell ⟨w.heap.size + 1, 10, none⟩ (.slice none 0 0)).setCell ⟨w.heap.size + 1, 11, none⟩ (.slice none 0 0)).setCell ⟨w.heap.size + 1, 12, none⟩ (.slice Av u.kids.length cv)).setCell ⟨w.heap.size + 1 + 1, 0, none⟩ (.int .i64 0)).setCell ⟨w.heap.size + 1 + 1, 1, none⟩ (.int .i64 0)).setCell ⟨w.heap.size + 1 + 1, 2, none⟩ (.bool false)).setCell ⟨w.heap.size + 1 + 1, 3, none⟩ (.string ⟨#[]⟩)) = wf at *
    have dd0 : wf.cell? ⟨w.heap.size + 1, 0, none⟩ = some (.int .i64 19) := hfz.cell 0
    have dd1 : wf.cell? ⟨w.heap.size + 1, 1, none⟩ = some (.bool false) := hfz.cell 1
    have dd2 : wf.cell? ⟨w.heap.size + 1, 2, none⟩ = some (.int .i64 0) := hfz.cell 2
    have dd3 : wf.cell? ⟨w.heap.size + 1, 3, none⟩ = some (.int .u64 0) := hfz.cell 3
    have dd4 : wf.cell? ⟨w.heap.size + 1, 4, none⟩ = some (.int .u64 0) := hfz.cell 4
    have dd5 : wf.cell? ⟨w.heap.size + 1, 5, none⟩ = some (.int .u32 0) := hfz.cell 5
    have dd6 : wf.cell? ⟨w.heap.size + 1, 6, none⟩ = some (.int .u64 0) := hfz.cell 6
    have dd7 : wf.cell? ⟨w.heap.size + 1, 7, none⟩ = some (.int .u32 0) := hfz.cell 7
    have dd8 : wf.cell? ⟨w.heap.size + 1, 8, none⟩ = some (.string ⟨#[]⟩) := hfz.cell 8
    have dd9 : wf.cell? ⟨w.heap.size + 1, 9, none⟩ = some (.slice none 0 0) := hfz.cell 9
    have dd10 : wf.cell? ⟨w.heap.size + 1, 10, none⟩ = some (.slice none 0 0) := hfz.cell 10
    have dd11 : wf.cell? ⟨w.heap.size + 1, 11, none⟩ = some (.slice none 0 0) := hfz.cell 11
    have dd12 : wf.cell? ⟨w.heap.size + 1, 12, none⟩ = some (.slice Av u.kids.length cv) := hfz.cell 12
    have ee0 : wf.cell? ⟨w.heap.size + 1 + 1, 0, none⟩ = some (.int .i64 0) := hff.cell 0
    have ee1 : wf.cell? ⟨w.heap.size + 1 + 1, 1, none⟩ = some (.int .i64 0) := hff.cell 1
    have ee2 : wf.cell? ⟨w.heap.size + 1 + 1, 2, none⟩ = some (.bool false) := hff.cell 2
    have ee3 : wf.cell? ⟨w.heap.size + 1 + 1, 3, none⟩ = some (.string ⟨#[]⟩) := hff.cell 3
    refine bodyPost_ret (v := .tuple #[.agg #[.int .i64 19, .bool false, .int .i64 0, .int .u64 0, .int .u64 0, .int .u32 0, .int .u64 0, .int .u32 0, .string ⟨#[]⟩, .slice none 0 0, .slice none 0 0, .slice none 0 0, .slice Av u.kids.length cv], .agg #[.int .i64 0, .int .i64 0, .bool false, .string ⟨#[]⟩]]) ?_ rfl (HPF.out _ hwn hbl)
    simp [results, Tryz.results51, go_sem, dd0, dd1, dd2, dd3, dd4, dd5, dd6, dd7, dd8, dd9, dd10, dd11, dd12, ee0, ee1, ee2, ee3]
 ·have hsi : ((u.srt : Nat) : Int) ≠ 5 := by omega
  have hsb : (((u.srt : Nat) : Int) != 5) = true := by simp; omega
  have HPF := Lib.hid (fun w' : World => @rfloP_sort p u w w')
  clear hsi
  go_wp2_with fail
  ((with_reducible refine (refTrail16 5 p _).mono ?_); rintro e w3 ⟨rfl, hw3⟩)
  have hb3 : Below w0.heap.size w0 w3 := by rw [hw3]; exact (Below.refl _ _).alloc (Nat.le_refl _) _
  have HBW := Lib.hid (HBW.out.trans (hb3.mono HBW.out.size))
  have HF := Lib.hid (HF.out.below hb3 HF.out.lt)
  have HZ := Lib.hid (HZ.out.below hb3 HZ.out.lt)
  clear hw3 hb3
  have y0 : w3.cell? ⟨w.heap.size + 1, 0, none⟩ = some (.int .i64 0) := HZ.out.cell 0
  have y1 : w3.cell? ⟨w.heap.size + 1, 1, none⟩ = some (.bool false) := HZ.out.cell 1
  have y2 : w3.cell? ⟨w.heap.size + 1, 2, none⟩ = some (.int .i64 0) := HZ.out.cell 2
  have y3 : w3.cell? ⟨w.heap.size + 1, 3, none⟩ = some (.int .u64 0) := HZ.out.cell 3
  have y4 : w3.cell? ⟨w.heap.size + 1, 4, none⟩ = some (.int .u64 0) := HZ.out.cell 4
  have y5 : w3.cell? ⟨w.heap.size + 1, 5, none⟩ = some (.int .u32 0) := HZ.out.cell 5
  have y6 : w3.cell? ⟨w.heap.size + 1, 6, none⟩ = some (.int .u64 0) := HZ.out.cell 6
  have y7 : w3.cell? ⟨w.heap.size + 1, 7, none⟩ = some (.int .u32 0) := HZ.out.cell 7
  have y8 : w3.cell? ⟨w.heap.size + 1, 8, none⟩ = some (.string ⟨#[]⟩) := HZ.out.cell 8
  have y9 : w3.cell? ⟨w.heap.size + 1, 9, none⟩ = some (.slice none 0 0) := HZ.out.cell 9
  have y10 : w3.cell? ⟨w.heap.size + 1, 10, none⟩ = some (.slice none 0 0) := HZ.out.cell 10
  have y11 : w3.cell? ⟨w.heap.size + 1, 11, none⟩ = some (.slice none 0 0) := HZ.out.cell 11
  have y12 : w3.cell? ⟨w.heap.size + 1, 12, none⟩ = some (.slice none 0 0) := HZ.out.cell 12
  have r0 := HZ.out.frozen 0
  have r1 := HZ.out.frozen 1
  have r2 := HZ.out.frozen 2
  have r3 := HZ.out.frozen 3
  have r4 := HZ.out.frozen 4
  have r5 := HZ.out.frozen 5
  have r6 := HZ.out.frozen 6
  have r7 := HZ.out.frozen 7
  have r8 := HZ.out.frozen 8
  have r9 := HZ.out.frozen 9
  have r10 := HZ.out.frozen 10
  have r11 := HZ.out.frozen 11
  have r12 := HZ.out.frozen 12
  have yf0 : w3.cell? ⟨w.heap.size + 1 + 1, 0, none⟩ = some (.int .i64 0) := HF.out.cell 0
  have yf1 : w3.cell? ⟨w.heap.size + 1 + 1, 1, none⟩ = some (.int .i64 0) := HF.out.cell 1
  have yf2 : w3.cell? ⟨w.heap.size + 1 + 1, 2, none⟩ = some (.bool false) := HF.out.cell 2
  have yf3 : w3.cell? ⟨w.heap.size + 1 + 1, 3, none⟩ = some (.string ⟨#[]⟩) := HF.out.cell 3
  have rf0 := HF.out.frozen 0
  have rf1 := HF.out.frozen 1
  have rf2 := HF.out.frozen 2
  have rf3 := HF.out.frozen 3
  have hkz := HZ.out.lt
  have hkf := HF.out.lt
  go_wp2
  have hfz := four_far (thir_blk HZ.out (.int .i64 0) (.bool false) (.int .i64 0) (.int .u64 0) (.int .u64 0) (.int .u32 0) (.int .u64 0) (.int .u32 0) (.string ⟨#[]⟩) (.slice none 0 0) (.slice none 0 0) (.slice none 0 0) (.slice none 0 0)) (show w.heap.size + 1 ≠ w.heap.size + 1 + 1 by omega) (.int .i64 5) (.int .i64 0) (.bool true) (.string ⟨p.toArray⟩)
  have hff := four_blk (thir_far HF.out (show w.heap.size + 1 + 1 ≠ w.heap.size + 1 by omega) (.int .i64 0) (.bool false) (.int .i64 0) (.int .u64 0) (.int .u64 0) (.int .u32 0) (.int .u64 0) (.int .u32 0) (.string ⟨#[]⟩) (.slice none 0 0) (.slice none 0 0) (.slice none 0 0) (.slice none 0 0)) (.int .i64 5) (.int .i64 0) (.bool true) (.string ⟨p.toArray⟩)
  have hbl := four_below (thir_below HBW.out (show w.heap.size ≤ w.heap.size + 1 by omega) (.int .i64 0) (.bool false) (.int .i64 0) (.int .u64 0) (.int .u64 0) (.int .u32 0) (.int .u64 0) (.int .u32 0) (.string ⟨#[]⟩) (.slice none 0 0) (.slice none 0 0) (.slice none 0 0) (.slice none 0 0)) (show w.heap.size ≤ w.heap.size + 1 + 1 by omega) (.int .i64 5) (.int .i64 0) (.bool true) (.string ⟨p.toArray⟩)
  unfold four thir at hfz hff hbl
  generalize (((((((((((((((((w3.setCell ⟨w.heap.size + 1, 0, none⟩ (.int .i64 0)).setCell ⟨w.heap.size + 1, 1, none⟩ (.bool false)).setCell ⟨w.heap.size + 1, 2, none⟩ (.int .i64 0)).setCell ⟨w.heap.size + 1, 3, none⟩ (.int .u64 0)).setCell ⟨w.heap.size + 1, 4, none⟩ (.int .u64 0)).setCell ⟨w.heap.size + 1, 5, none⟩ (.int .u32 0)).setCell ⟨w.heap.size + 1, 6, none⟩ (.int .u64 0)).setCell ⟨w.heap.size + 1, 7, none⟩ (.int .u32 0)).setCell ⟨w.heap.size + 1, 8, none⟩ (.string ⟨#[]⟩)).setCell ⟨w.heap.size + 1, 9, none⟩ (.slice none 0 0)).setCell ⟨w.heap.size + 1, 10, none⟩ (.slice none 0 0)).setCell ⟨w.heap.size + 1, 11, none⟩ (.slice none 0 0)).setCell ⟨w.heap.size + 1, 12, none⟩ (.slice none 0 0)).setCell ⟨w.heap.size + 1 + 1, 0, none⟩ (.int .i64 5)).setCell ⟨w.heap.size + 1 + 1, 1, none⟩ (.int .i64 0)).setCell ⟨w.heap.size + 1 + 1, 2, none⟩ (.bool true)).setCell ⟨w.heap.size + 1 + 1, 3, none⟩ (.string ⟨p.toArray⟩)) = wf at *
  have dd0 : wf.cell? ⟨w.heap.size + 1, 0, none⟩ = some (.int .i64 0) := hfz.cell 0
  have dd1 : wf.cell? ⟨w.heap.size + 1, 1, none⟩ = some (.bool false) := hfz.cell 1
  have dd2 : wf.cell? ⟨w.heap.size + 1, 2, none⟩ = some (.int .i64 0) := hfz.cell 2
  have dd3 : wf.cell? ⟨w.heap.size + 1, 3, none⟩ = some (.int .u64 0) := hfz.cell 3
  have dd4 : wf.cell? ⟨w.heap.size + 1, 4, none⟩ = some (.int .u64 0) := hfz.cell 4
  have dd5 : wf.cell? ⟨w.heap.size + 1, 5, none⟩ = some (.int .u32 0) := hfz.cell 5
  have dd6 : wf.cell? ⟨w.heap.size + 1, 6, none⟩ = some (.int .u64 0) := hfz.cell 6
  have dd7 : wf.cell? ⟨w.heap.size + 1, 7, none⟩ = some (.int .u32 0) := hfz.cell 7
  have dd8 : wf.cell? ⟨w.heap.size + 1, 8, none⟩ = some (.string ⟨#[]⟩) := hfz.cell 8
  have dd9 : wf.cell? ⟨w.heap.size + 1, 9, none⟩ = some (.slice none 0 0) := hfz.cell 9
  have dd10 : wf.cell? ⟨w.heap.size + 1, 10, none⟩ = some (.slice none 0 0) := hfz.cell 10
  have dd11 : wf.cell? ⟨w.heap.size + 1, 11, none⟩ = some (.slice none 0 0) := hfz.cell 11
  have dd12 : wf.cell? ⟨w.heap.size + 1, 12, none⟩ = some (.slice none 0 0) := hfz.cell 12
  have ee0 : wf.cell? ⟨w.heap.size + 1 + 1, 0, none⟩ = some (.int .i64 5) := hff.cell 0
  have ee1 : wf.cell? ⟨w.heap.size + 1 + 1, 1, none⟩ = some (.int .i64 0) := hff.cell 1
  have ee2 : wf.cell? ⟨w.heap.size + 1 + 1, 2, none⟩ = some (.bool true) := hff.cell 2
  have ee3 : wf.cell? ⟨w.heap.size + 1 + 1, 3, none⟩ = some (.string ⟨p.toArray⟩) := hff.cell 3
  refine bodyPost_ret (v := .tuple #[.agg #[.int .i64 0, .bool false, .int .i64 0, .int .u64 0, .int .u64 0, .int .u32 0, .int .u64 0, .int .u32 0, .string ⟨#[]⟩, .slice none 0 0, .slice none 0 0, .slice none 0 0, .slice none 0 0], .agg #[.int .i64 5, .int .i64 0, .bool true, .string ⟨p.toArray⟩]]) ?_ rfl (HPF.out _ hs hbl)
  simp [results, Tryz.results51, go_sem, dd0, dd1, dd2, dd3, dd4, dd5, dd6, dd7, dd8, dd9, dd10, dd11, dd12, ee0, ee1, ee2, ee3]
end Nd
end Go.Proofs.YtbajkglacfheiaaGreatDoor
