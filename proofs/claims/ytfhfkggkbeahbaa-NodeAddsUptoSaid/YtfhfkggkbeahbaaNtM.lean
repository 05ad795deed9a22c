/-
  Walks of package node: how a method is found that a list or an object has from what it holds.
-/
import Derived.Test.YtfhfkggkbeahbaaNtB
namespace Go.Proofs.Ytfhfkggkbeahbaa
open Go.RowKit Mem
set_option linter.unusedVariables false
namespace Nd

theorem run_method_emb {P : Program} (fuel : Nat) (T xt : TypeId) (nm : String) (st : FieldStep) (f : FuncId) (v r : Value) (a : Addr) (w : World)
    (h : ((P.info? T).bind fun i => (i.methods.find? (·.name == nm)).map fun m => (m.path.toList, m.func)) = some ([st], some (f, false)))
    (hfol : (follow [st] T (.val v)).run P w = .ok (xt, .var a) w) (fs : Array Field) (hund : P.underlying xt = some (.struct fs)) (hl : (loadVar xt a).run P w = .ok r w) :
    (method (fuel + 1) T v nm).run P w = .ok (f, r) w := by
  cases hi : P.info? T with
  | none => rw [hi] at h; cases h
  | some i =>
    rw [hi] at h
    simp only [Option.bind_some] at h
    cases hm : i.methods.find? (·.name == nm) with
    | none => rw [hm] at h; cases h
    | some m =>
      rw [hm] at h
      simp only [Option.map_some, Option.some.injEq, Prod.mk.injEq] at h
      have hp := h.1
      unfold method
      simp [Sem.run_bind, typeInfo, hi, hm, hp, h.2, hfol, receiverAt, run_underlying hund, Place.get, hl]
/-- the names of the methods that an item has -/
noncomputable def itemM (i : Nat) : String := (((Try.prog.methodsAt 46)[i]?).map (·.1)).getD default
theorem sz_info : ((Try.prog.underlying 88).map fun d => match d with | .struct _ => true | _ => false) = some true := by kernel_rfl
theorem sz_cells : (Try.prog.info? 88).map (·.size) = some 3 := by kernel_rfl
theorem load_sz (w : World) (g : Nat) (x y z : Value) (h0 : w.cell? ⟨g, 0, none⟩ = some x) (h1 : w.cell? ⟨g, 1, none⟩ = some y) (h2 : w.cell? ⟨g, 2, none⟩ = some z) :
    (loadVar 88 ⟨g, 0, none⟩).run Try.prog w = .ok (.agg #[x, y, z]) w := by
  have hl : (loadCells ⟨g, 0, none⟩ [x, y, z].length).run Try.prog w = .ok [x, y, z].toArray w :=
    run_loadCells_list (P := Try.prog) w ⟨g, 0, none⟩ [x, y, z] (fun j v hv => by
      have hadd : (⟨g, 0, none⟩ : Addr).add j = ⟨g, j, none⟩ := by unfold Addr.add; split <;> simp_all
      rw [hadd]
      match j, hv with
      | 0, hv => exact h0.trans hv
      | 1, hv => exact h1.trans hv
      | 2, hv => exact h2.trans hv
      | j + 3, hv => simp at hv)
  have hs := sz_info
  have hc := sz_cells
  cases hq : Try.prog.info? 88 with
  | none => rw [hq] at hc; cases hc
  | some i =>
    rw [hq] at hc
    have hsz : i.size = 3 := by simpa using hc
    cases hu : Try.prog.underlying 88 with
    | none => rw [hu] at hs; cases hs
    | some d =>
      rw [hu] at hs
      have hagg : (isAgg 88).run Try.prog w = .ok true w := by
        unfold isAgg
        rw [Sem.run_bind, run_underlying hu w]
        cases d <;> simp_all
      have hl' : (loadCells ⟨g, 0, none⟩ 3).run Try.prog w = .ok #[x, y, z] w := hl
      simp [loadVar, Sem.run_bind, hagg, sizeOf, typeInfo, hq, hsz, hl']
theorem und_sz : ∃ fs, Try.prog.underlying 88 = some (.struct fs) := by
  have hs := sz_info
  cases hu : Try.prog.underlying 88 with
  | none => rw [hu] at hs; cases hs
  | some d =>
    rw [hu] at hs
    cases d <;> simp at hs
    exact ⟨_, rfl⟩
theorem sel_list : ((Try.prog.info? 121).bind fun i => (i.methods.find? (·.name == itemM 0)).map fun m => (m.path.toList, m.func)) = some ([⟨124, 0, true⟩], some (109, false)) := by kernel_rfl
theorem fol_list (g : Nat) (w : World) : (follow [⟨124, 0, true⟩] 121 (.val (.pointer (some ⟨g, 0, none⟩)))).run Try.prog w = .ok (88, .var ⟨g, 0, none⟩) w := by kernel_rfl
theorem method_list (fuel : Nat) (g : Nat) (w : World) (x y z : Value) (nm : String) (hnm : nm = itemM 0) (h0 : w.cell? ⟨g, 0, none⟩ = some x) (h1 : w.cell? ⟨g, 1, none⟩ = some y) (h2 : w.cell? ⟨g, 2, none⟩ = some z) :
    (method (fuel + 1) 121 (.pointer (some ⟨g, 0, none⟩)) nm).run Try.prog w = .ok (109, .agg #[x, y, z]) w := by
  obtain ⟨fs, hf⟩ := und_sz
  rw [hnm]
  exact run_method_emb (P := Try.prog) fuel 121 88 (itemM 0) ⟨124, 0, true⟩ 109 (.pointer (some ⟨g, 0, none⟩)) (.agg #[x, y, z]) ⟨g, 0, none⟩ w sel_list (fol_list g w) fs hf (load_sz w g x y z h0 h1 h2)
theorem sel_obj : ((Try.prog.info? 126).bind fun i => (i.methods.find? (·.name == itemM 0)).map fun m => (m.path.toList, m.func)) = some ([⟨128, 0, true⟩], some (109, false)) := by kernel_rfl
theorem fol_obj (g : Nat) (w : World) : (follow [⟨128, 0, true⟩] 126 (.val (.pointer (some ⟨g, 0, none⟩)))).run Try.prog w = .ok (88, .var ⟨g, 0, none⟩) w := by kernel_rfl
theorem method_obj (fuel : Nat) (g : Nat) (w : World) (x y z : Value) (nm : String) (hnm : nm = itemM 0) (h0 : w.cell? ⟨g, 0, none⟩ = some x) (h1 : w.cell? ⟨g, 1, none⟩ = some y) (h2 : w.cell? ⟨g, 2, none⟩ = some z) :
    (method (fuel + 1) 126 (.pointer (some ⟨g, 0, none⟩)) nm).run Try.prog w = .ok (109, .agg #[x, y, z]) w := by
  obtain ⟨fs, hf⟩ := und_sz
  rw [hnm]
  exact run_method_emb (P := Try.prog) fuel 126 88 (itemM 0) ⟨128, 0, true⟩ 109 (.pointer (some ⟨g, 0, none⟩)) (.agg #[x, y, z]) ⟨g, 0, none⟩ w sel_obj (fol_obj g w) fs hf (load_sz w g x y z h0 h1 h2)
end Nd
end Go.Proofs.Ytfhfkggkbeahbaa
