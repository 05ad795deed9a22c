/-
  Walks of package node: a maker's Null, List, Top.
-/
import Derived.Test.YtfhfkggkbeahbaaNuG
namespace Go.Proofs.Ytfhfkggkbeahbaa
open Go.RowKit Mem
set_option linter.unusedVariables false
namespace Nd

theorem rdk_nil (w : World) : RdK w (.slice none 0 0) [] := ⟨none, 0, rfl, .inl rfl⟩
def nullS : Stp := ⟨1, false, 0, [], 0, []⟩
def listS (n : Int) : Stp := ⟨5, false, 0, [], n, []⟩
theorem null_fine : nullS.Fine := ⟨by decide, by decide, by simp [nullS], by decide, by decide⟩
theorem list_fine (n : Int) : (listS n).Fine := ⟨by simp [listS], by simp [listS], by simp [listS], by simp [listS, lens], by simp [listS]⟩
theorem mk_null (p : Nat) (ty : TypeId) (B : Nat) (l : List Tr) (w : World) (hR : RwX p ty B l w) (hn : l.length ≤ 65536) :
    Calls Try.prog 8 #[.pointer (some ⟨p, 0, none⟩)] w fun e w' => e = .returned (errV (stepT l nullS).1) ∧ RwX p ty B (stepT l nullS).2 w' ∧ Below p w w' := by
  have H := Lib.hid (mstep_any nullS null_fine none 0 p ty B l w hR (rdk_nil w) hn)
  go_enter Try.func8, Try.ntmps8
  go_wp2_with fail
  refine H.out.mono ?_
  rintro e w2 ⟨rfl, h⟩
  have HH := Lib.hid h
  clear h
  go_wp2
  go_ret
  exact ⟨rfl, HH.out⟩
theorem mk_list (n : Int) (p : Nat) (ty : TypeId) (B : Nat) (l : List Tr) (w : World) (hR : RwX p ty B l w) (hn : l.length ≤ 65536) :
    Calls Try.prog 17 #[.pointer (some ⟨p, 0, none⟩), .int .i64 n] w fun e w' => e = .returned (errV (stepT l (listS n)).1) ∧ RwX p ty B (stepT l (listS n)).2 w' ∧ Below p w w' := by
  have H := Lib.hid (mstep_any (listS n) (list_fine n) none 0 p ty B l w hR (rdk_nil w) hn)
  go_enter Try.func17, Try.ntmps17
  go_wp2_with fail
  refine H.out.mono ?_
  rintro e w2 ⟨rfl, h⟩
  have HH := Lib.hid h
  clear h
  go_wp2
  go_ret
  exact ⟨rfl, HH.out⟩
set_option maxRecDepth 100000 in
set_option maxHeartbeats 4000000 in
theorem mk_top (p : Nat) (ty : TypeId) (B : Nat) (l : List Tr) (t : Tr) (w : World) (hR : RwX p ty B (l ++ [t]) w) (hn : l.length ≤ 1048576) (hok : t.Ok) (hf : t.fit = true) :
    Calls Try.prog 18 #[.pointer (some ⟨p, 0, none⟩)] w (ValP t w) := by
  obtain ⟨v, xs, hR⟩ := hR
  obtain ⟨A, q, rfl⟩ := own_slice hR.own
  have hll : (l ++ [t]).length = l.length + 1 := by simp
  have hB := hR.bl
  have hxl := hR.rd.len
  rw [hll] at hB hxl
  have hcell : ∃ g tx ux, A = some ⟨g, 0, none⟩ ∧ w.cell? ⟨g, l.length, none⟩ = some (.iface tx ux) ∧ RdT (fun _ => True) w t (.iface tx ux) := by
    have hx : xs[l.length]? = some (xs[l.length]'(by omega)) := List.getElem?_eq_getElem (by omega)
    have hr := hR.rd.at (j := l.length) (t := t) (by simp) hx
    obtain ⟨tx, ux, he⟩ := hr.iface
    rw [he] at hx hr
    have ho := hR.own
    rw [hll] at ho
    rcases ho.2 with ⟨_, h⟩ | ⟨g, cap, cur, h, _, hg, _, _, hs, ht⟩
    · omega
    · injection h with h1 _ _
      refine ⟨g, tx, ux, h1, ?_, RdT.move (fun j hj hs => ⟨trivial, rfl⟩) _ _ hr⟩
      rw [cell_of_row w g _ cur _ _ hg]
      rw [← ht, List.getElem?_take] at hx
      split at hx
      · simpa using hx
      · cases hx
  obtain ⟨g, tx, ux, rfl, hc, hrd⟩ := hcell
  obtain ⟨N, hN⟩ : ∃ N, l.length + 1 = N := ⟨_, rfl⟩
  rw [hN] at hB
  have a0 : w.cell? ⟨p, 0, none⟩ = some (.slice (some ⟨g, 0, none⟩) N q) := hB.cell 0
  have hL := Lib.hid (mlen_any p ty (some ⟨g, 0, none⟩) N q w hB)
  have HR := Lib.hid hrd
  have hnod := (fit_le hf).1
  have hwr : IntKind.i64.wrap ((N : Int) - 1) = (l.length : Int) := by rw [IntWalk.i64_in _ (by omega)]; omega
  have hb1 : (0 : Int) ≤ (l.length : Int) := by omega
  have hb2 : (l.length : Int) < (N : Int) := by omega
  have hb3 : ((N : Int) == 0) = false := by simp only [beq_eq_false_iff_ne, ne_eq]; omega
  have hb4 : l.length < N := by omega
  clear hN
  clear hR hB hxl hrd hll hf hn
  go_enter Try.func18, Try.ntmps18
  go_wp2_with fail
  refine hL.out.mono ?_
  rintro e w' ⟨rfl, rfl⟩
  go_wp2_with fail
  go_still_tail 15, (by kernel_rfl)
  go_wp2_with fail
  have hrd2 : RdT (fun _ => True) w.drew t (.iface tx ux) := RdT.move (S := fun _ => True) (S' := fun _ => True) (w := w) (w' := w.drew) (fun j hj hs => ⟨trivial, rfl⟩) _ _ HR.out
  ((with_reducible refine (value_any _ t hok hnod _ _ hrd2).mono ?_); rintro e w2 ⟨u, rfl, htd, hb⟩)
  have HP : Hid (ValP t w (.returned u) w2) := Lib.hid ⟨u, rfl, htd, ⟨hb.os, hb.tape, hb.output, hb.size, hb.block⟩⟩
  clear htd hb
  go_wp2
  go_ret
  exact HP.out
end Nd
end Go.Proofs.Ytfhfkggkbeahbaa
