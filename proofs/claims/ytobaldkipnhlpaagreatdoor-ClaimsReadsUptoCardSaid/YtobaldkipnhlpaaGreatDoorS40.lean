/-
  Walks of the statements' own functions are, trail and trails of layer 25.
-/
import Derived.Test.YtobaldkipnhlpaaGreatDoorS39
import Derived.Test.YtobaldkipnhlpaaGreatDoorS33
import Derived.Test.YtobaldkipnhlpaaGreatDoorS34
set_option linter.unusedVariables false
set_option linter.unusedSimpArgs false
set_option maxRecDepth 100000
set_option maxHeartbeats 16000000
namespace Go.Proofs.YtobaldkipnhlpaaGreatDoor
open Go.RowKit Mem Utf Ref3 Tok Cl
namespace Nd
theorem tt_ok (v : Value) (w : World) : (Instr.typeAssert (.iface 119 v) 28 119 true).run Tryz.prog w = .ok (.tuple #[v, .bool true]) w := by kernel_rfl
theorem ta_ok (v : Value) (w : World) : (Instr.typeAssert (.iface 98 v) 28 98 true).run Tryz.prog w = .ok (.tuple #[v, .bool true]) w := by kernel_rfl
theorem lawTrail_any (n : Int) (p : Txt) (w : World) : Calls Tryz.prog 11 #[tlV (n, p), .int .i64 n, .string ⟨p.toArray⟩] w (TrueC w) := by
 have t1 := tt_ok
 have e1 : (n == n) = true := by simp
 have e2 : (p == p) = true := by simp
 unfold tlV
 go_enter Tryz.func11, Tryz.ntmps11
 go_wp2
 go_ret
 exact ⟨rfl, (Below.refl _ _).alloc (Nat.le_refl _) _⟩
theorem tr_at1 {w : World} {B : Nat} {A : Option Addr} {q : Nat} {l : List (Int × Txt)} (h : w.ownsRow B 28 1 (.slice A l.length q) l.length (l.map tlV)) {k : Nat} (hk : k < l.length) : ∃ g, A = some ⟨g, 0, none⟩ ∧ w.cell? ⟨g, k, none⟩ = some (tlV l[k]) := by
 rcases h.2 with ⟨_, h0⟩ | ⟨g, cap, cur, e, _⟩
 ·omega
 ·injection e with e _ e2
  subst e; subst e2
  refine ⟨g, rfl, ?_⟩
  rw [h.cellAt k (by omega), List.getElem?_map, List.getElem?_eq_getElem hk]
  rfl
theorem trCells_at : ∀ (l : List (Int × Txt)) {k : Nat} (hk : k < l.length), (trCells l)[k * 2]? = some (.int .i64 l[k].1) ∧ (trCells l)[k * 2 + 1]? = some (.string ⟨l[k].2.toArray⟩)
 | x :: r, 0, hk => ⟨rfl, rfl⟩
 | x :: r, k + 1, hk => by
  have ih := trCells_at r (k := k) (by simpa using hk)
  have e : trCells (x :: r) = .int .i64 x.1 :: .string ⟨x.2.toArray⟩ :: trCells r := rfl
  rw [e, show (k + 1) * 2 = k * 2 + 1 + 1 from by omega]
  exact ih
theorem tr_at2 {w : World} {B : Nat} {A : Option Addr} {q : Nat} {e : TypeId} {l : List (Int × Txt)} (h : w.ownsRow B e 2 (.slice A l.length q) l.length (trCells l)) {k : Nat} (hk : k < l.length) :
  ∃ g, A = some ⟨g, 0, none⟩ ∧ w.cell? ⟨g, k * 2, none⟩ = some (.int .i64 l[k].1) ∧ w.cell? ⟨g, k * 2 + 1, none⟩ = some (.string ⟨l[k].2.toArray⟩) := by
 rcases h.2 with ⟨_, h0⟩ | ⟨g, cap, cur, e, _⟩
 ·omega
 ·injection e with e _ e2
  subst e; subst e2
  obtain ⟨a, b⟩ := trCells_at l hk
  exact ⟨g, rfl, by rw [h.cellAt _ (by omega)]; exact a, by rw [h.cellAt _ (by omega)]; exact b⟩
theorem trails25_any (v1 v2 : Value) (B1 B2 : Nat) (l : List (Int × Txt)) (w : World) (h1 : w.ownsRow B1 28 1 v1 l.length (l.map tlV)) (h2 : w.ownsRow B2 124 2 v2 l.length (trCells l)) (hl : l.length ≤ 1048576) :
  Calls Tryz.prog 13 #[.iface 98 v1, v2] w (TrueC w) := by
 have t1 := ta_ok
 have hbr := Below.refl w.heap.size w
 obtain ⟨A1, q1, e1⟩ := own_slice h1
 obtain ⟨A2, q2, e2⟩ := own_slice h2
 subst e1; subst e2
 go_enter Tryz.func13, Tryz.ntmps13
 go_wp2
 go_loopw [24] (fun c24 wr => ∃ k : Nat, k ≤ l.length ∧ c24 = .int .i64 k ∧ Below w.heap.size w wr) (fun c24 _ => l.length - (intOf c24).toNat)
 case atStart => exact ⟨0, by omega, rfl, hbr⟩
 case round =>
  clear hbr
  obtain ⟨k, hk, rfl, hbw⟩ := hrel
  by_cases hlt : k < l.length
  ·obtain ⟨g1, hA1, c1⟩ := tr_at1 (own_below h1 hbw) hlt
   obtain ⟨g2, hA2, c2, c3⟩ := tr_at2 (own_below h2 hbw) hlt
   subst hA1; subst hA2
   have hi0 : (0 : Int) ≤ (k : Int) := by omega
   have hi1 : (k : Int) < (l.length : Int) := by omega
   generalize l[k] = x at *
   obtain ⟨n, p⟩ := x
   simp only [] at c1 c2 c3
   have hbd := hbw.drew
   have hgl1 := World.block_lt_of_cell? wr _ c1
   have hgl2 := World.block_lt_of_cell? wr _ c2
   go_wp2_with fail
   go_region_held3 (fun w' => w'.cell? ⟨g1, k, none⟩ = some (tlV (n, p)) ∧ w'.cell? ⟨g2, k * 2, none⟩ = some (.int .i64 n) ∧ w'.cell? ⟨g2, k * 2 + 1, none⟩ = some (.string ⟨p.toArray⟩))
    (first | go_keep | exact ⟨by rw [hb9.cell (by exact hgl1)]; exact c1, by rw [hb9.cell (by exact hgl2)]; exact c2, by rw [hb9.cell (by exact hgl2)]; exact c3⟩)
    (first | (go_at_call 11; refine (lawTrail_any n p _).mono ?_; rintro e w9 ⟨rfl, hb9⟩))
   go_wp2
   go_roundw
   case rel => exact ⟨k + 1, by omega, by go_num, below_chain hbd hbd.size hb9⟩
   case measure => simp [intOf]; omega
  ·obtain rfl : k = l.length := by omega
   go_wp2
   go_ret
   exact ⟨rfl, hbw⟩
theorem arr_same {P : Program} (w : World) (d n : Nat) (t e : TypeId) (xs : Array Value) (ht : P.underlying t = some (.array n e)) (hs : (sizeOf e).run P w = .ok 1 w)
  (hp : ∀ i, i < n → ∃ v, (part e xs (i * 1)).run P w = .ok v w ∧ (Op.equalIn d e v v).run P w = .ok true w) : (Op.equalIn (d + 1) t (.agg xs) (.agg xs)).run P w = .ok true w := by
 simp only [Op.equalIn, Sem.run_bind, run_underlying ht, Result.andThen_ok, hs]
 rw [Std.Legacy.Range.forIn_eq_forIn_range']
 generalize hl : List.range' _ _ _ = l
 have hm : ∀ i ∈ l, i < n := by
  intro i hi
  rw [← hl, List.mem_range'] at hi
  obtain ⟨j, h1, h2⟩ := hi
  simp [Std.Legacy.Range.size] at h1 h2
  omega
 clear hl
 induction l with
 | nil => simp
 | cons i l ih =>
  obtain ⟨v, h1, h2⟩ := hp i (hm i (by simp))
  simp only [List.forIn_cons, Sem.run_bind, h1, h2, Result.andThen_ok, Bool.not_true, Bool.false_eq_true, if_false, Sem.run_pure]
  exact ih (fun j hj => hm j (by simp [hj]))
theorem neq_b (b0 b1 b2 b3 b4 b5 b6 b7 : Bool) (W : World) : (binOp .neq 53 (.agg #[.bool b0, .bool b1, .bool b2, .bool b3, .bool b4, .bool b5, .bool b6, .bool b7]) (.agg #[.bool b0, .bool b1, .bool b2, .bool b3, .bool b4, .bool b5, .bool b6, .bool b7])).run Tryz.prog W = .ok (.bool false) W := by
 have h : (Op.equalIn 10000 53 (.agg #[.bool b0, .bool b1, .bool b2, .bool b3, .bool b4, .bool b5, .bool b6, .bool b7]) (.agg #[.bool b0, .bool b1, .bool b2, .bool b3, .bool b4, .bool b5, .bool b6, .bool b7])).run Tryz.prog W = .ok true W := by
  refine arr_same W 9999 8 _ 4 _ Tryz.underlying53 (by kernel_rfl) (fun i hi => ?_)
  rcases below8 hi with rfl | rfl | rfl | rfl | rfl | rfl | rfl | rfl
  ·exact ⟨.bool b0, by kernel_rfl, by rw [run_equalIn_bool' W 9998 _ _ _ Tryz.underlying4]; simp⟩
  ·exact ⟨.bool b1, by kernel_rfl, by rw [run_equalIn_bool' W 9998 _ _ _ Tryz.underlying4]; simp⟩
  ·exact ⟨.bool b2, by kernel_rfl, by rw [run_equalIn_bool' W 9998 _ _ _ Tryz.underlying4]; simp⟩
  ·exact ⟨.bool b3, by kernel_rfl, by rw [run_equalIn_bool' W 9998 _ _ _ Tryz.underlying4]; simp⟩
  ·exact ⟨.bool b4, by kernel_rfl, by rw [run_equalIn_bool' W 9998 _ _ _ Tryz.underlying4]; simp⟩
  ·exact ⟨.bool b5, by kernel_rfl, by rw [run_equalIn_bool' W 9998 _ _ _ Tryz.underlying4]; simp⟩
  ·exact ⟨.bool b6, by kernel_rfl, by rw [run_equalIn_bool' W 9998 _ _ _ Tryz.underlying4]; simp⟩
  ·exact ⟨.bool b7, by kernel_rfl, by rw [run_equalIn_bool' W 9998 _ _ _ Tryz.underlying4]; simp⟩
 go_simp
theorem neq_x (s0 s1 s2 s3 s4 s5 s6 s7 : ByteArray) (W : World) : (binOp .neq 54 (.agg #[.string s0, .string s1, .string s2, .string s3, .string s4, .string s5, .string s6, .string s7]) (.agg #[.string s0, .string s1, .string s2, .string s3, .string s4, .string s5, .string s6, .string s7])).run Tryz.prog W = .ok (.bool false) W := by
 have h : (Op.equalIn 10000 54 (.agg #[.string s0, .string s1, .string s2, .string s3, .string s4, .string s5, .string s6, .string s7]) (.agg #[.string s0, .string s1, .string s2, .string s3, .string s4, .string s5, .string s6, .string s7])).run Tryz.prog W = .ok true W := by
  refine arr_same W 9999 8 _ 9 _ Tryz.underlying54 (by kernel_rfl) (fun i hi => ?_)
  rcases below8 hi with rfl | rfl | rfl | rfl | rfl | rfl | rfl | rfl
  ·exact ⟨.string s0, by kernel_rfl, by rw [run_equalIn_string W 9998 _ _ _ Tryz.underlying9]; simp⟩
  ·exact ⟨.string s1, by kernel_rfl, by rw [run_equalIn_string W 9998 _ _ _ Tryz.underlying9]; simp⟩
  ·exact ⟨.string s2, by kernel_rfl, by rw [run_equalIn_string W 9998 _ _ _ Tryz.underlying9]; simp⟩
  ·exact ⟨.string s3, by kernel_rfl, by rw [run_equalIn_string W 9998 _ _ _ Tryz.underlying9]; simp⟩
  ·exact ⟨.string s4, by kernel_rfl, by rw [run_equalIn_string W 9998 _ _ _ Tryz.underlying9]; simp⟩
  ·exact ⟨.string s5, by kernel_rfl, by rw [run_equalIn_string W 9998 _ _ _ Tryz.underlying9]; simp⟩
  ·exact ⟨.string s6, by kernel_rfl, by rw [run_equalIn_string W 9998 _ _ _ Tryz.underlying9]; simp⟩
  ·exact ⟨.string s7, by kernel_rfl, by rw [run_equalIn_string W 9998 _ _ _ Tryz.underlying9]; simp⟩
 go_simp
theorem neq_n (n0 n1 n2 n3 n4 n5 n6 n7 : Int) (W : World) : (binOp .neq 55 (.agg #[.int .i64 n0, .int .i64 n1, .int .i64 n2, .int .i64 n3, .int .i64 n4, .int .i64 n5, .int .i64 n6, .int .i64 n7]) (.agg #[.int .i64 n0, .int .i64 n1, .int .i64 n2, .int .i64 n3, .int .i64 n4, .int .i64 n5, .int .i64 n6, .int .i64 n7])).run Tryz.prog W = .ok (.bool false) W := by
 have h : (Op.equalIn 10000 55 (.agg #[.int .i64 n0, .int .i64 n1, .int .i64 n2, .int .i64 n3, .int .i64 n4, .int .i64 n5, .int .i64 n6, .int .i64 n7]) (.agg #[.int .i64 n0, .int .i64 n1, .int .i64 n2, .int .i64 n3, .int .i64 n4, .int .i64 n5, .int .i64 n6, .int .i64 n7])).run Tryz.prog W = .ok true W := by
  refine arr_same W 9999 8 _ 3 _ Tryz.underlying55 (by kernel_rfl) (fun i hi => ?_)
  rcases below8 hi with rfl | rfl | rfl | rfl | rfl | rfl | rfl | rfl
  ·exact ⟨.int .i64 n0, by kernel_rfl, by rw [run_equalIn_int W 9998 _ _ _ _ _ Tryz.underlying3]; simp⟩
  ·exact ⟨.int .i64 n1, by kernel_rfl, by rw [run_equalIn_int W 9998 _ _ _ _ _ Tryz.underlying3]; simp⟩
  ·exact ⟨.int .i64 n2, by kernel_rfl, by rw [run_equalIn_int W 9998 _ _ _ _ _ Tryz.underlying3]; simp⟩
  ·exact ⟨.int .i64 n3, by kernel_rfl, by rw [run_equalIn_int W 9998 _ _ _ _ _ Tryz.underlying3]; simp⟩
  ·exact ⟨.int .i64 n4, by kernel_rfl, by rw [run_equalIn_int W 9998 _ _ _ _ _ Tryz.underlying3]; simp⟩
  ·exact ⟨.int .i64 n5, by kernel_rfl, by rw [run_equalIn_int W 9998 _ _ _ _ _ Tryz.underlying3]; simp⟩
  ·exact ⟨.int .i64 n6, by kernel_rfl, by rw [run_equalIn_int W 9998 _ _ _ _ _ Tryz.underlying3]; simp⟩
  ·exact ⟨.int .i64 n7, by kernel_rfl, by rw [run_equalIn_int W 9998 _ _ _ _ _ Tryz.underlying3]; simp⟩
 go_simp
theorem lst_at {w : World} {c : C} {v4 v7 : Value} (h4 : Rd w v4 c.for_) (h7 : Rd w v7 c.may_) {k : Nat} (hk : k < 8) : Rd w (lstOf v4 v7 k) (if k = 3 then c.for_ else if k = 6 then c.may_ else []) := by
 rcases below8 hk with rfl | rfl | rfl | rfl | rfl | rfl | rfl | rfl <;> first | exact h4 | exact h7 | exact rd_none w
theorem are25_any (c : C) (v0 v4 v7 x4 x7 : Value) (w : World) (hC : ClAt w c v0 v4 v7) (hm : mayB c = true) (h4 : Rd w x4 c.for_) (h7 : Rd w x7 c.may_) :
  Calls Tryz.prog 14 #[.agg #[v0, .string ⟨c.about.toArray⟩, .int .i64 c.at_, .string ⟨c.by_.toArray⟩, v4, .int .i64 c.from_, .string ⟨c.id_.toArray⟩, v7, .int .i64 c.until_], .agg (dCells (is c) c x4 x7)] w (TrueC w) := by
 have hba : Below w.heap.size w ((w.alloc (.cells #[v0, .string ⟨c.about.toArray⟩, .int .i64 c.at_, .string ⟨c.by_.toArray⟩, v4, .int .i64 c.from_, .string ⟨c.id_.toArray⟩, v7, .int .i64 c.until_] 38)).alloc (.cells (dCells (is c) c x4 x7) 58)) := ((Below.refl _ _).alloc (Nat.le_refl _) _).alloc (by simp) _
 have hB0 : Blk ((w.alloc (.cells #[v0, .string ⟨c.about.toArray⟩, .int .i64 c.at_, .string ⟨c.by_.toArray⟩, v4, .int .i64 c.from_, .string ⟨c.id_.toArray⟩, v7, .int .i64 c.until_] 38)).alloc (.cells (dCells (is c) c x4 x7) 58)) w.heap.size 38 #[v0, .string ⟨c.about.toArray⟩, .int .i64 c.at_, .string ⟨c.by_.toArray⟩, v4, .int .i64 c.from_, .string ⟨c.id_.toArray⟩, v7, .int .i64 c.until_] := (Blk.new w 38 #[v0, .string ⟨c.about.toArray⟩, .int .i64 c.at_, .string ⟨c.by_.toArray⟩, v4, .int .i64 c.from_, .string ⟨c.id_.toArray⟩, v7, .int .i64 c.until_]).alloc _
 have hB1 : Blk ((w.alloc (.cells #[v0, .string ⟨c.about.toArray⟩, .int .i64 c.at_, .string ⟨c.by_.toArray⟩, v4, .int .i64 c.from_, .string ⟨c.id_.toArray⟩, v7, .int .i64 c.until_] 38)).alloc (.cells (dCells (is c) c x4 x7) 58)) (w.heap.size + 1) 58 (dCells (is c) c x4 x7) := by
  have := Blk.new (w.alloc (.cells #[v0, .string ⟨c.about.toArray⟩, .int .i64 c.at_, .string ⟨c.by_.toArray⟩, v4, .int .i64 c.from_, .string ⟨c.id_.toArray⟩, v7, .int .i64 c.until_] 38)) 58 (dCells (is c) c x4 x7)
  rwa [World.size_alloc] at this
 have hnf := hC.nfor
 have hnm := hC.nmay
 have HC := Lib.hid (hC.below hba)
 have H4 := Lib.hid (h4.below hba)
 have H7 := Lib.hid (h7.below hba)
 have HB := Lib.hid hba
 have H0 := Lib.hid hB0
 have H1 := Lib.hid hB1
 have HM := Lib.hid hm
 have HN := Lib.hid (And.intro hnf hnm)
 clear hC h4 h7 hba hB0 hB1 hm hnf hnm
 go_enter Tryz.func14, Tryz.ntmps14
 go_upto_region 1 with fail
 generalize ((w.alloc (.cells #[v0, .string ⟨c.about.toArray⟩, .int .i64 c.at_, .string ⟨c.by_.toArray⟩, v4, .int .i64 c.from_, .string ⟨c.id_.toArray⟩, v7, .int .i64 c.until_] 38)).alloc (.cells (dCells (is c) c x4 x7) 58)) = w1 at *
 obtain ⟨c0, c1, c2, c3, c4, c5, c6, c7, c8⟩ := C9 H0.out
 go_wp2_with fail
 clear c0 c1 c2 c3 c4 c5 c6 c7 c8
 ((with_reducible refine (twin_any c v0 v4 v7 w1 HC.out).mono ?_); rintro e w2 ⟨rfl, hb⟩)
 rw [HM.out]
 replace HC := Lib.hid (HC.out.below hb)
 replace H4 := Lib.hid (H4.out.below hb)
 replace H7 := Lib.hid (H7.out.below hb)
 replace HB := Lib.hid (HB.out.trans (hb.mono HB.out.size))
 replace H1 := Lib.hid (H1.out.below hb H1.out.lt)
 clear hb H0 HM
 have hZ := Blk.new w2 58 zero32
 have hone : ∀ v ∈ (dCells (is c) c v4 v7).toList, v.oneCell' = true := by
  obtain ⟨A4, q4, e4, _⟩ := HC.out.for_
  obtain ⟨A7, q7, e7, _⟩ := HC.out.may
  subst e4 e7
  simp [dCells, Value.oneCell']
 have hzs : (dCells (is c) c v4 v7).size = (zero32 : Array Value).size := rfl
 have hzi : (Tryz.prog.info? 58).map (·.size) = some (dCells (is c) c v4 v7).size := by kernel_rfl
 generalize hD : (dCells (is c) c v4 v7) = ds at *
 go_upto_region 2 with (refine wpList_store_row rfl 58 (.tmp 5) (.tmp 11) rfl w2.heap.size 58 zero32 ds rfl rfl hZ hzs hone hzi rfl ?_)
 have hZ2 : Blk (putCells (w2.alloc (.cells zero32 58)) w2.heap.size ds.toList 0) w2.heap.size 58 ds := blk_stored9 hZ hzs
 have hb : Below w2.heap.size w2 (putCells (w2.alloc (.cells zero32 58)) w2.heap.size ds.toList 0) := putCells_below (Nat.le_refl _) _ _ _ _ ((Below.refl _ _).alloc (Nat.le_refl _) _)
 subst hD
 clear hZ hone hzs hzi
 generalize putCells (w2.alloc (.cells zero32 58)) w2.heap.size (dCells (is c) c v4 v7).toList 0 = w3 at *
 have hgE := HB.out.size
 replace HC := Lib.hid (HC.out.below hb)
 replace H4 := Lib.hid (H4.out.below hb)
 replace H7 := Lib.hid (H7.out.below hb)
 replace HB := Lib.hid (HB.out.trans (hb.mono HB.out.size))
 replace H1 := Lib.hid (H1.out.below hb H1.out.lt)
 have HE := Lib.hid hZ2
 clear hb hZ2
 generalize w2.heap.size = gE at *
 obtain ⟨a0, a1, a2, a3, a4, a5, a6, a7, a8, a9, a10, a11, a12, a13, a14, a15, a16, a17, a18, a19, a20, a21, a22, a23, a24, a25, a26, a27, a28, a29, a30, a31⟩ := C32 HE.out
 obtain ⟨b0, b1, b2, b3, b4, b5, b6, b7, b8, b9, b10, b11, b12, b13, b14, b15, b16, b17, b18, b19, b20, b21, b22, b23, b24, b25, b26, b27, b28, b29, b30, b31⟩ := C32 H1.out
 clear a24 b24 a25 b25 a26 b26 a27 b27 a28 b28 a29 b29 a30 b30 a31 b31
 have q1 := neq_b
 have q2 := neq_x
 have q3 := neq_n
 go_wp2_with fail
 clear a0 b0 a1 b1 a2 b2 a3 b3 a4 b4 a5 b5 a6 b6 a7 b7 a8 b8 a9 b9 a10 b10 a11 b11 a12 b12 a13 b13 a14 b14 a15 b15 a16 b16 a17 b17 a18 b18 a19 b19 a20 b20 a21 b21 a22 b22 a23 b23 q1 q2 q3
 go_loopw [36] (fun c36 wr => ∃ k : Nat, k ≤ 8 ∧ c36 = .int .i64 (k : Nat) ∧ Hid (Below w3.heap.size w3 wr)) (fun c36 _ => 8 - (intOf c36).toNat)
 case atStart => exact ⟨0, by omega, rfl, Lib.hid (Below.refl _ _)⟩
 case round =>
  obtain ⟨k, hk, rfl, HI⟩ := hrel
  by_cases hk8 : k < 8
  ·have c1 := dCells_lst (HE.out.below HI.out HE.out.lt) hk8
   have c2 := dCells_lst (H1.out.below HI.out H1.out.lt) hk8
   have hr1 := (lst_at HC.out.for_ HC.out.may hk8).below HI.out
   have hr2 := (lst_at H4.out H7.out hk8).below HI.out
   have hln : (if k = 3 then c.for_ else if k = 6 then c.may_ else []).length ≤ 1099511627776 := by
    split
    ·exact HN.out.1
    ·split
     ·exact HN.out.2
     ·exact Nat.zero_le _
   have hgl1 := World.block_lt_of_cell? wr _ c1
   have hgl2 := World.block_lt_of_cell? wr _ c2
   have hdr : Below wr.heap.size wr wr.drew := (Below.refl _ wr).drew
   generalize (if k = 3 then c.for_ else if k = 6 then c.may_ else []) = s at *
   generalize lstOf v4 v7 k = a at *
   generalize lstOf x4 x7 k = b at *
   have HR1 := Lib.hid hr1
   have HR2 := Lib.hid hr2
   have HLN := Lib.hid hln
   clear hr1 hr2 hln
   have hk0 : (0 : Int) ≤ (k : Int) := by omega
   have hk1 : (k : Int) < 8 := by omega
   go_wp2_with fail
   go_region_held3 (fun w' => w'.cell? ⟨gE, 24 + k, none⟩ = some a ∧ w'.cell? ⟨w.heap.size + 1, 24 + k, none⟩ = some b)
    (first | exact ⟨c1, c2⟩ | go_keep | exact ⟨by rw [hb9.cell (by exact hgl1)]; exact c1, by rw [hb9.cell (by exact hgl2)]; exact c2⟩)
    (first | (go_at_call 27; refine (texts25_any a b s s _ (HR1.out.below hdr) (HR2.out.below hdr) (by have := HLN.out; omega) (by have := HLN.out; omega)).mono ?_; rintro e w9 ⟨rfl, hb9⟩; rw [show decide (s = s) = true from decide_eq_true rfl]))
   go_wp2
   go_roundw
   case rel => exact ⟨k + 1, by omega, by go_num, Lib.hid (HI.out.trans ((hdr.trans (hb9.mono (Nat.le_refl _))).mono HI.out.size))⟩
   case measure => simp [intOf]; omega
  ·obtain rfl : k = 8 := by omega
   go_wp2
   go_ret
   exact ⟨rfl, HB.out.trans (HI.out.mono HB.out.size)⟩
end Nd
end Go.Proofs.YtobaldkipnhlpaaGreatDoor
