/-
  The library's sort over keys that are right texts.
-/
import Derived.Test.YtfhfkggkbeahbaaNtR
import Derived.Test.YtfhfkggkbeahbaaShelf
namespace Go.Proofs.Ytfhfkggkbeahbaa
open Go.RowKit Mem
set_option linter.unusedVariables false
namespace Nd

/-- a right text of no great length -/
abbrev KeyT := { t : Tx // rightB t = true ∧ t.length ≤ 1099511627776 }
instance : Inhabited KeyT := ⟨⟨[], by constructor; exact rfl; simp⟩⟩
def encK (x : KeyT) : Value := txV x.1
def cfK (x y : KeyT) : Int := cmpL x.1 y.1
theorem ltK (x y : KeyT) : Go.Proofs.ltOf cfK x y = ltL x.1 y.1 := rfl
theorem swoK : Go.Sort.SWO (Go.Proofs.ltOf cfK) where
  irrefl x := swoL.irrefl x.1
  trans x y z := swoL.trans x.1 y.1 z.1
  ntrans x y z := swoL.ntrans x.1 y.1 z.1
theorem keys_of (ks : List Tx) (h : ∀ k ∈ ks, rightB k = true ∧ k.length ≤ 1099511627776) : ∃ d : List KeyT, d.map (·.1) = ks := by
  refine ⟨ks.pmap (fun k hk => ⟨k, hk⟩) h, ?_⟩
  rw [List.map_pmap]
  simp
theorem sort_map (d : List KeyT) : (d.mergeSort fun x y => !(Go.Proofs.ltOf cfK) y x).map (·.1) = sortK (d.map (·.1)) :=
  List.map_mergeSort fun a _ b _ => rfl
theorem enters_compare : ∀ args w, (callFunc 51 args).run Try.prog w = .ok (.enter 51 args) w := fun args w => by kernel_rfl
set_option maxRecDepth 100000 in
theorem sort_keys (blk cap : Nat) (ks : List Tx) (cur : Array Value) (w : World) (hr : ∀ k ∈ ks, rightB k = true ∧ k.length ≤ 1099511627776) (hn : ks.length ≤ 1099511627776) (hB : Blk w blk 9 cur) (hc : ∀ (j : Nat) (x : Value), (ks.map txV)[j]? = some x → cur[j]? = some x) :
    Calls Try.prog 50 #[.slice (some ⟨blk, 0, none⟩) ks.length cap, .func (.func 51) #[] #[]] w fun e w' => e = .returned (.tuple #[]) ∧ (∃ cur', Blk w' blk 9 cur' ∧ cur'.size = cur.size ∧ ∀ (j : Nat) (x : Value), ((sortK ks).map txV)[j]? = some x → cur'[j]? = some x) ∧ w.grownBy w' (some blk) := by
  obtain ⟨d, hd⟩ := keys_of ks hr
  have hlen : d.length = ks.length := by rw [← hd]; simp
  have hH : Go.Sort.Holds encK w blk 0 d.toArray := by
    intro j hj
    have hj' : j < d.length := by simpa using hj
    refine ⟨?_, hB.frozen _⟩
    rw [hB.cell, Nat.zero_add]
    apply hc
    rw [← hd]
    simp [hj', encK, txV]
  have hcmp : Go.Proofs.CmpLays1 Try.prog 51 #[] encK cfK blk 0 d.toArray.size w := by
    intro m os dk hs x y
    refine (compare_right x.1 y.1 _ x.2.1 y.2.1 x.2.2 y.2.2).mono ?_
    rintro e w' ⟨he, hb⟩
    obtain ⟨q, os', hg⟩ := hb.grow
    exact ⟨he, q, os', hg⟩
  have h := Try.slices_SortFunc_total encK (fun _ => rfl) cfK swoK 51 #[] blk 0 cap d.toArray w enters_compare hcmp hH hB.lt (by simp; omega) (fun x y h1 h2 => Subtype.ext (ltL_one _ _ h1 h2))
  have e1 : d.toArray.size = ks.length := by simp [hlen]
  rw [e1] at h
  refine h.mono ?_
  rintro e w' ⟨he, n, os, rfl⟩
  have hsm := sort_map d
  rw [hd] at hsm
  have hlt := hB.lt
  have hsl : (d.mergeSort fun x y => !(Go.Proofs.ltOf cfK) y x).length = ks.length := by rw [List.length_mergeSort, hlen]
  generalize (d.mergeSort fun x y => !(Go.Proofs.ltOf cfK) y x) = d' at hsm hsl ⊢
  refine ⟨he, ⟨Go.Sort.putCells encK 0 d'.toArray cur, ?_, by simp [Go.Sort.putCells], ?_⟩, ?_⟩
  · unfold Go.Proofs.sortWorld
    show (Go.Sort.grow _ os).heap[blk]? = _
    rw [Go.Sort.heap_grow_old _ os (by simp [Go.Sort.putRow, Go.Sort.mapBlock, Go.Sort.ahead]; exact hlt)]
    have hB' : w.heap[blk]? = some (.cells cur 9 (0, 0)) := hB
    simp [Go.Sort.putRow, Go.Sort.mapBlock, Go.Sort.ahead, Array.getElem?_modify, hB', Go.Sort.onCells]
  · intro j x hx
    rw [← hsm] at hx
    have hj : j < d'.length := by
      have := (List.getElem?_eq_some_iff.1 hx).1
      simpa using this
    have hjc : j < cur.size := by
      have h2 : (ks.map txV)[j]? = some (txV (ks[j]'(by omega))) := by simp [show j < ks.length by omega]
      exact (Array.getElem?_eq_some_iff.1 (hc j _ h2)).1
    simp [hj] at hx
    simp [Go.Sort.putCells, hj, hjc, ← hx, encK]
  · refine ⟨rfl, rfl, rfl, by simp [Go.Proofs.sortWorld, Go.Sort.putRow, Go.Sort.mapBlock, Go.Sort.ahead], ?_⟩
    intro k hk hne
    unfold Go.Proofs.sortWorld
    rw [Go.Sort.heap_grow_old _ os (by simp [Go.Sort.putRow, Go.Sort.mapBlock, Go.Sort.ahead]; exact hk)]
    have hkb : blk ≠ k := fun e => hne (by rw [e])
    simp [Go.Sort.putRow, Go.Sort.mapBlock, Go.Sort.ahead, Array.getElem?_modify, hkb]
end Nd
end Go.Proofs.Ytfhfkggkbeahbaa
