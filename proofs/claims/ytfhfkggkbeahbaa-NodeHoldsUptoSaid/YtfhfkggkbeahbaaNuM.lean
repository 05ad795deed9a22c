/-
  Walks of layer 10's law: what holds of a told value: of the groups; of every told tree.
-/
import Derived.Test.YtfhfkggkbeahbaaNuL
import Derived.Deep.RegionHeldLaw
namespace Go.Proofs.Ytfhfkggkbeahbaa
open Go.RowKit Mem
set_option linter.unusedVariables false
namespace Nd

theorem me_4 (fuel : Nat) (a : Option Addr) (n c : Nat) (W : World) : (method (fuel + 1) 53 (.slice a n c) "Len").run Try.prog W = .ok (103, .slice a n c) W := by kernel_rfl
theorem me_5 (fuel : Nat) (a : Option Addr) (n c : Nat) (W : World) : (method (fuel + 1) 100 (.slice a n c) "Len").run Try.prog W = .ok (111, .slice a n c) W := by kernel_rfl
theorem mk_5 (fuel : Nat) (a : Option Addr) (n c : Nat) (W : World) : (method (fuel + 1) 100 (.slice a n c) "Keys").run Try.prog W = .ok (110, .slice a n c) W := by kernel_rfl
set_option maxRecDepth 100000 in
set_option maxHeartbeats 8000000 in
theorem holds_list (S : Nat → Prop) (l : List Tr) (v : Value) (d : Nat) (hd : d ≤ 512) (w : World) (h : TdT S w (.list l) v) (hlen : l.length ≤ 1048576) (ih : ∀ x, x ∈ l → ∀ u W, TdT S W x u → Calls Try.prog 24 #[u, .int .i64 ((d : Int) + 1)] W (HoldP W)) :
    Calls Try.prog 24 #[v, .int .i64 d] w (HoldP w) := by
  unfold TdT at h
  obtain ⟨u, vs, rfl, hrow, hl⟩ := h
  have hvl := hl.len
  have HL := Lib.hid hl
  have HR := Lib.hid hrow
  have HIH := Lib.hid ih
  obtain ⟨A, c, rfl, _⟩ := hrow
  rw [hvl] at HR ⊢
  have h0 := vn_4 A l.length c
  have k0 := tk_4_0 A l.length c
  have k1 := tk_4_1 A l.length c
  have k2 := tk_4_2 A l.length c
  have a4 := tb_4_4 A l.length c
  have hd2 : decide (512 < (d : Int)) = false := decide_eq_false (by omega)
  have hw1 : wrap64 ((d : Int) + 1) = (d : Int) + 1 := by unfold wrap64; omega
  clear hl ih hd
  go_enter Try.func24, Try.ntmps24
  go_wp2
  go_loopw [56] (fun c56 wr => ∃ k : Nat, k ≤ l.length ∧ c56 = .int .i64 k ∧ Below w.heap.size w wr) (fun c56 _ => l.length - (intOf c56).toNat)
  case atStart => exact ⟨0, by omega, rfl, Below.refl _ _⟩
  case round =>
    obtain ⟨k, hk, rfl, hbw⟩ := hrel
    have hbs := hbw.size
    by_cases hlt : k < l.length
    · have hcell : ∃ g o tx ux, A = some ⟨g, o, none⟩ ∧ wr.cell? ⟨g, o + k, none⟩ = some (.iface tx ux) ∧ TdT S wr l[k] (.iface tx ux) := by
        obtain ⟨A', c', e', h'⟩ := HR.out
        injection e' with e1 e2 e3
        rcases h' with ⟨h', _⟩ | ⟨g, o, cur, hA, hSg, hBg, hc⟩
        · rw [h'] at hvl
          simp at hvl
          omega
        · have hvk : vs[k]? = some (vs[k]'(by omega)) := List.getElem?_eq_getElem (by omega)
          have hrd := HL.out.at (List.getElem?_eq_getElem hlt) hvk
          obtain ⟨tx, ux, he⟩ := hrd.iface
          rw [he] at hvk hrd
          exact ⟨g, o, tx, ux, by rw [e1, hA], ((hbw.cell (p := ⟨g, o + k, none⟩) hBg.lt).trans (hBg.cell _)).trans (hc k _ hvk), TdT.move (fun j hj hs => ⟨hs, hbw.block j hj⟩) _ _ hrd⟩
      obtain ⟨g, o, tx, ux, rfl, hcell, hrd⟩ := hcell
      have HRD := Lib.hid hrd
      clear hrd
      go_wp2_with fail
      ((with_reducible refine (HIH.out _ (List.getElem_mem hlt) _ _ HRD.out).mono ?_); rintro e w2 ⟨rfl, hb2⟩)
      have hbw2 := hbw.trans (hb2.mono hbs)
      clear hb2
      go_wp2
      go_roundw
      case rel => exact ⟨k + 1, by omega, by go_num, hbw2⟩
      case measure => simp [intOf]; omega
    · obtain rfl : k = l.length := by omega
      go_wp2_with fail
      rw [me_4 _ A l.length c]
      go_wp2_with fail
      ((with_reducible refine (vlen_list A l.length c _).mono ?_); rintro e w2 ⟨rfl, rfl⟩)
      go_wp2
      go_ret
      exact ⟨rfl, hbw⟩
set_option maxRecDepth 100000 in
set_option maxHeartbeats 16000000 in
theorem holds_obj (S : Nat → Prop) (ks : List Tx) (l : List Tr) (v : Value) (d : Nat) (hd : d ≤ 512) (w : World) (h : TdT S w (.obj ks l) v) (hlen : l.length ≤ 1048576) (ih : ∀ x, x ∈ l → ∀ u W, TdT S W x u → Calls Try.prog 24 #[u, .int .i64 ((d : Int) + 1)] W (HoldP W)) :
    Calls Try.prog 24 #[v, .int .i64 d] w (HoldP w) := by
  unfold TdT at h
  obtain ⟨u, vs, rfl, hkl, hrow, hl⟩ := h
  have hvl := hl.len
  have HL := Lib.hid hl
  have HR := Lib.hid hrow
  have HIH := Lib.hid ih
  have HKL := Lib.hid hkl
  obtain ⟨A, c, rfl, _⟩ := hrow
  have h0 := vn_5 A l.length c
  have k0 := tk_5_0 A l.length c
  have k1 := tk_5_1 A l.length c
  have k2 := tk_5_2 A l.length c
  have a4 := tb_5_4 A l.length c
  have a5 := tb_5_5 A l.length c
  have hd2 : decide (512 < (d : Int)) = false := decide_eq_false (by omega)
  have hw1 : wrap64 ((d : Int) + 1) = (d : Int) + 1 := by unfold wrap64; omega
  have hw2 : IntKind.i64.wrap ((d : Int) + 1) = (d : Int) + 1 := by rw [IntWalk.i64_in _ (by omega)]
  clear hl ih hd
  go_enter Try.func24, Try.ntmps24
  go_wp2_with fail
  rw [mk_5 _ A l.length c]
  go_wp2_with fail
  ((with_reducible refine (keys_obj S ks l _ vs _ HR.out hkl HL.out hlen).mono ?_); rintro e w1 ⟨kv, rfl, hrk, hb1⟩)
  obtain ⟨Ak, ck, rfl, hrk⟩ := hrk
  have HRK := Lib.hid hrk
  have HB1 := Lib.hid hb1
  clear hrk hb1
  go_wp2
  go_loopw [84] (fun c84 wr => ∃ k : Nat, k ≤ l.length ∧ c84 = .int .i64 k ∧ Below w.heap.size w wr ∧ Below w1.heap.size w1 wr) (fun c84 _ => l.length - (intOf c84).toNat)
  case atStart => exact ⟨0, by omega, rfl, HB1.out, Below.refl _ _⟩
  case round =>
    obtain ⟨k, hk, rfl, hbw, hbw1⟩ := hrel
    have hbs := hbw.size
    by_cases hlt : k < l.length
    · have hkk : k < ks.length := by have := HKL.out; omega
      have hcells : ∃ g o tx ux, A = some ⟨g, o, none⟩ ∧ g < wr.heap.size ∧ wr.cell? ⟨g, o + k * 2, none⟩ = some (.string ⟨ks[k].toArray⟩) ∧ wr.cell? ⟨g, o + k * 2 + 1, none⟩ = some (.iface tx ux) ∧ TdT S wr l[k] (.iface tx ux) := by
        obtain ⟨A', c', e', hln, h'⟩ := HR.out
        injection e' with e1 e2 e3
        rcases h' with h' | ⟨g, o, cur, hA, hSg, hBg, hc⟩
        · omega
        · have hp := pairs_at ks vs k hkk (by omega)
          have hrd := HL.out.at (List.getElem?_eq_getElem hlt) (List.getElem?_eq_getElem (by omega : k < vs.length))
          obtain ⟨tx, ux, he⟩ := hrd.iface
          rw [he] at hp hrd
          exact ⟨g, o, tx, ux, by rw [e1, hA], by have := hBg.lt; omega, ((hbw.cell (p := ⟨g, o + k * 2, none⟩) hBg.lt).trans (hBg.cell _)).trans (hc _ _ hp.1), ((hbw.cell (p := ⟨g, o + k * 2 + 1, none⟩) hBg.lt).trans (hBg.cell _)).trans (hc _ _ hp.2), TdT.move (fun j hj hs => ⟨hs, hbw.block j hj⟩) _ _ hrd⟩
      obtain ⟨g, o, tx, ux, rfl, hgl, hc1, hc2, hrd⟩ := hcells
      have hkey : ∃ gk ok, Ak = some ⟨gk, ok, none⟩ ∧ gk < wr.heap.size ∧ wr.cell? ⟨gk, ok + k, none⟩ = some (.string ⟨ks[k].toArray⟩) := by
        rcases HRK.out with h' | ⟨gk, ok, hA, hc⟩
        · rw [h'] at hkk
          simp at hkk
        · have h1 := hc k _ (List.getElem?_eq_getElem hkk)
          have hlt1 := World.block_lt_of_cell? w1 _ h1
          exact ⟨gk, ok, hA, by have := hbw1.size; have : gk < w1.heap.size := hlt1; omega, ((old hbw1).1 _ _ hlt1).trans h1⟩
      obtain ⟨gk, ok, rfl, hgk, hkc⟩ := hkey
      obtain ⟨kt, hkt⟩ : ∃ t, ks[k] = t := ⟨_, rfl⟩
      rw [hkt] at hkc hc1
      clear hkt
      have HRD := Lib.hid (TdT.move (S := S) (S' := S) (w := wr) (w' := wr.drew) (fun j hj hs => ⟨hs, rfl⟩) _ _ hrd)
      have hkb : (k : Int) < (ks.length : Int) := by omega
      have hkb0 : (0 : Int) ≤ (k : Int) := by omega
      clear hrd
      go_wp2_with fail
      go_region_held_law (fun w' => w'.cell? ⟨gk, ok + k, none⟩ = some (.string ⟨kt.toArray⟩) ∧ w'.cell? ⟨g, o + k * 2, none⟩ = some (.string ⟨kt.toArray⟩) ∧ w'.cell? ⟨g, o + k * 2 + 1, none⟩ = some (.iface tx ux)) (first | exact ⟨hkc, hc1, hc2⟩ | exact ⟨((old hb2).1 _ _ (by show gk < wr.heap.size; omega)).trans hkc, ((old hb2).1 _ _ (by show g < wr.heap.size; omega)).trans hc1, ((old hb2).1 _ _ (by show g < wr.heap.size; omega)).trans hc2⟩ | go_keep)
        (first | (go_simp; go_at_call 24; ((with_reducible refine (HIH.out _ (List.getElem_mem hlt) _ _ HRD.out).mono ?_); rintro e w2 ⟨rfl, hb2⟩; dsimp only)))
      have hb2' : Below wr.heap.size wr w2 := ⟨hb2.os, hb2.tape, hb2.output, hb2.size, hb2.block⟩
      have hbw2 := hbw.trans (hb2'.mono hbs)
      have hbw12 := hbw1.trans (hb2'.mono hbw1.size)
      clear hb2 hb2'
      go_wp2
      go_roundw
      case rel => exact ⟨k + 1, by omega, by go_num, hbw2, hbw12⟩
      case measure => simp [intOf]; omega
    · obtain rfl : k = l.length := by omega
      have hle : ((ks.length : Int) == (l.length : Int)) = true := by rw [HKL.out]; simp
      go_wp2_with fail
      rw [me_5 _ A l.length c]
      go_wp2_with fail
      ((with_reducible refine (vlen_obj A l.length c _).mono ?_); rintro e w2 ⟨rfl, rfl⟩)
      go_wp2
      go_ret
      first | exact ⟨rfl, hbw⟩ | (simp only [HKL.out, beq_self_eq_true]; exact ⟨rfl, hbw⟩)
theorem depth_mem : ∀ (l : List Tr) (t : Tr), t ∈ l → t.depth ≤ depthL l
  | [], t, h => by simp at h
  | x :: l, t, h => by
    unfold depthL
    rcases List.mem_cons.1 h with rfl | h
    · omega
    · have := depth_mem l t h
      omega
theorem holds_any (S : Nat → Prop) : ∀ t : Tr, t.Ok → t.nodes ≤ 65536 → ∀ d : Nat, d + t.depth ≤ 513 → ∀ u W, TdT S W t u → Calls Try.prog 24 #[u, .int .i64 (d : Int)] W (HoldP W) := by
  intro t
  induction t using Tr.ind with
  | h0 =>
    intro _ _ d hd u W h
    unfold TdT at h
    subst h
    have : (Tr.null).depth = 1 := by unfold Tr.depth; rfl
    exact holds_null d (by omega) W
  | h1 b =>
    intro _ _ d hd u W h
    unfold TdT at h
    subst h
    have : (Tr.flag b).depth = 1 := by unfold Tr.depth; rfl
    exact holds_flag b d (by omega) W
  | h2 x =>
    intro hok _ d hd u W h
    unfold TdT at h
    subst h
    unfold Tr.Ok at hok
    have : (Tr.num x).depth = 1 := by unfold Tr.depth; rfl
    exact holds_num x hok.1 hok.2.1 hok.2.2 d (by omega) W
  | h3 s =>
    intro _ _ d hd u W h
    unfold TdT at h
    subst h
    have : (Tr.text s).depth = 1 := by unfold Tr.depth; rfl
    exact holds_text _ d (by omega) W
  | h4 l ih =>
    intro hok hn d hd u W h
    have hdl : (Tr.list l).depth = depthL l + 1 := by rw [Tr.depth]
    unfold Tr.Ok at hok
    have hn2 : 1 + nodesL l ≤ 65536 := by rw [Tr.nodes] at hn; exact hn
    have hll := nodes_len l
    refine holds_list S l u d (by omega) W h (by omega) fun x hx v W' hv => ?_
    have h1 := nodes_mem l x hx
    have h2 := depth_mem l x hx
    have e : (d : Int) + 1 = ((d + 1 : Nat) : Int) := by omega
    rw [e]
    exact ih x hx (okl_mem hok hx).1 (by omega) (d + 1) (by omega) v W' hv
  | h5 ks l ih =>
    intro hok hn d hd u W h
    have hdl : (Tr.obj ks l).depth = depthL l + 1 := by rw [Tr.depth]
    unfold Tr.Ok at hok
    have hn2 : 1 + nodesL l ≤ 65536 := by rw [Tr.nodes] at hn; exact hn
    have hll := nodes_len l
    refine holds_obj S ks l u d (by omega) W h (by omega) fun x hx v W' hv => ?_
    have h1 := nodes_mem l x hx
    have h2 := depth_mem l x hx
    have e : (d : Int) + 1 = ((d + 1 : Nat) : Int) := by omega
    rw [e]
    exact ih x hx (okl_mem hok.2.2.2 hx).1 (by omega) (d + 1) (by omega) v W' hv
end Nd
end Go.Proofs.Ytfhfkggkbeahbaa
