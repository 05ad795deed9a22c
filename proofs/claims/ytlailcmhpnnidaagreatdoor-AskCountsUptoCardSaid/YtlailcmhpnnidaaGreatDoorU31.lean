/-
  Plain: the pointers within a tree are all unlike; scalars and groups are together all values; sorted rows.
  The shelf's contracts of slices.Sort at this dump (laid by the kit's own tools).
  Rows that a loop over an iterator fills; what the library's Sort, Equal and Compact make of them; the marks of loops over functions.
  Walks of package node: a Ref's Size.
-/
import Derived.Test.YtlailcmhpnnidaaGreatDoorU30
import Derived.Test.YtlailcmhpnnidaaGreatDoorProg
import Derived.Test.YtlailcmhpnnidaaGreatDoorU16
import Derived.Test.YtlailcmhpnnidaaGreatDoorU7
import Derived.Test.YtlailcmhpnnidaaGreatDoorU15
import Derived.Lib.SlicesCompact
import Derived.Shelf.Sort.Plain
import Derived.Shelf.Slices.In.SortNone
import Derived.Ground.Names2Prog
import Derived.Sort.OwnSorted
import Derived.Maps.OwnIn
import Derived.RangeFuncBox
import Derived.OwnWalk
set_option linter.unusedVariables false
set_option linter.unusedSimpArgs false
set_option maxRecDepth 100000
set_option maxHeartbeats 16000000
namespace Go.Proofs.YtlailcmhpnnidaaGreatDoor
open Go Tok
namespace Nd
theorem print_one (k : Tx) (path : List Tx) : printS (k :: path) = piece k ++ printS path := by
 unfold printS
 rw [List.flatMap_cons]
theorem allK_form : ∀ (l : List Tr) (s : Tx) (ks : List Tx) (x : Tx × Tr), (∀ y, y ∈ l → ∀ s (x : Tx × Tr), x ∈ allT s y → ∃ path, x.1 = s ++ printS path) → l.length ≤ ks.length → x ∈ allK s ks l → ∃ k path, k ∈ ks ∧ x.1 = s ++ printS (k :: path)
 | [], s, ks, x, _, _, h => by rw [allK_nil] at h; cases h
 | t :: l, s, [], x, _, hl, h => by simp at hl
 | t :: l, s, k :: ks, x, ih, hl, h => by
  rw [allK_cons, List.mem_append] at h
  rcases h with h | h
  ·obtain ⟨path, hp⟩ := ih t (by simp) _ x h
   refine ⟨k, path, by simp, ?_⟩
   rw [hp, print_one, List.append_assoc]
   rfl
  ·obtain ⟨k', path, h1, h2⟩ := allK_form l s ks x (fun y hy => ih y (by simp [hy])) (by simpa using hl) h
   exact ⟨k', path, by simp [h1], h2⟩
theorem kid_len {t : Tr} (h : t.Ok) : t.kids.length ≤ (kidToks t).length := by
 cases t with
 | obj ks l =>
  unfold Tr.Ok at h
  simp only [kidToks, Tr.kids]
  omega
 | list l => simp [kidToks, idxToks, Tr.kids]
 | _ => simp [Tr.kids]
theorem kids_oks {t : Tr} (h : t.Ok) : ∀ y ∈ t.kids, y.Ok ∧ y.fit = true := by
 intro y hy
 cases t with
 | list l =>
  unfold Tr.Ok at h
  exact (okl_iff l).1 h y hy
 | obj ks l =>
  unfold Tr.Ok at h
  exact (okl_iff l).1 h.2.2.2 y hy
 | _ => simp [Tr.kids] at hy
theorem allT_form : ∀ t : Tr, t.Ok → ∀ s (x : Tx × Tr), x ∈ allT s t → ∃ path, x.1 = s ++ printS path := by
 have one : ∀ t : Tr, t.Ok → (∀ y, y ∈ t.kids → ∀ s (x : Tx × Tr), x ∈ allT s y → ∃ path, x.1 = s ++ printS path) → ∀ s (x : Tx × Tr), x ∈ allT s t → ∃ path, x.1 = s ++ printS path := by
  intro t ho ih s x hx
  rw [allT_kids, List.mem_cons] at hx
  rcases hx with rfl | hx
  ·exact ⟨[], by simp [printS]⟩
  ·obtain ⟨k, path, _, h⟩ := allK_form t.kids s (kidToks t) x ih (kid_len ho) hx
   exact ⟨k :: path, h⟩
 intro t
 induction t using Tr.ind with
 | h0 => exact fun ho => one _ ho fun y hy => by cases hy
 | h1 b => exact fun ho => one _ ho fun y hy => by cases hy
 | h2 x => exact fun ho => one _ ho fun y hy => by cases hy
 | h3 s => exact fun ho => one _ ho fun y hy => by cases hy
 | h4 l ih => exact fun ho => one _ ho fun y hy => ih y hy (kids_oks ho y hy).1
 | h5 ks l ih => exact fun ho => one _ ho fun y hy => ih y hy (kids_oks ho y hy).1
theorem allK_nodup : ∀ (l : List Tr) (s : Tx) (ks : List Tx), (∀ y, y ∈ l → ∀ s (x : Tx × Tr), x ∈ allT s y → ∃ path, x.1 = s ++ printS path) → (∀ y, y ∈ l → ∀ s, ((allT s y).map (·.1)).Nodup) → l.length ≤ ks.length → ks.Nodup → ((allK s ks l).map (·.1)).Nodup
 | [], s, ks, _, _, _, _ => by rw [allK_nil]; exact List.nodup_nil
 | t :: l, s, [], _, _, hl, _ => by simp at hl
 | t :: l, s, k :: ks, hf, hn, hl, hk => by
  rw [List.nodup_cons] at hk
  rw [allK_cons, List.map_append, List.nodup_append]
  refine ⟨hn t (by simp) _, allK_nodup l s ks (fun y hy => hf y (by simp [hy])) (fun y hy => hn y (by simp [hy])) (by simpa using hl) hk.2, ?_⟩
  intro a ha b hb e
  obtain ⟨x, hx, rfl⟩ := List.mem_map.1 ha
  obtain ⟨y, hy, rfl⟩ := List.mem_map.1 hb
  obtain ⟨path, hp⟩ := hf t (by simp) _ x hx
  obtain ⟨k', path', h1, h2⟩ := allK_form l s ks y (fun y hy => hf y (by simp [hy])) (by simpa using hl) hy
  rw [hp, h2, List.append_assoc] at e
  have e2 := List.append_cancel_left e
  have e3 : printS (k :: path) = printS (k' :: path') := by rw [print_one]; exact e2
  have e4 := print_inj e3
  injection e4 with e5 _
  rw [e5] at hk
  exact hk.1 h1
theorem idx_nodup (n : Nat) (h : n ≤ 1048576) : (idxToks n).Nodup := by
 unfold idxToks
 rw [List.nodup_iff_pairwise_ne, List.pairwise_map]
 refine List.Pairwise.imp_of_mem ?_ (List.nodup_iff_pairwise_ne.1 (List.nodup_range (n := n)))
 intro a b ha hb hne e
 have h1 := List.mem_range.1 ha
 have h2 := List.mem_range.1 hb
 exact hne (itoa_inj (by omega) (by omega) e)
theorem kid_nodup {t : Tr} (h : t.Ok) (hn : t.kids.length ≤ 1048576) : (kidToks t).Nodup := by
 cases t with
 | obj ks l =>
  unfold Tr.Ok at h
  exact rise_nodup h.2.1
 | list l => exact idx_nodup _ hn
 | null => exact idx_nodup _ hn
 | flag b => exact idx_nodup _ hn
 | num x => exact idx_nodup _ hn
 | text s => exact idx_nodup _ hn
theorem kids_few {t : Tr} (hf : t.fit = true) : t.kids.length ≤ 65536 := by
 have h0 := (fit_le hf).1
 have h1 := nodes_len t.kids
 have h2 : nodesL t.kids ≤ t.nodes := by cases t <;> simp [Tr.kids, Tr.nodes, nodesL]
 omega
theorem allT_nodup : ∀ t : Tr, t.Ok → t.fit = true → ∀ s, ((allT s t).map (·.1)).Nodup := by
 have one : ∀ t : Tr, t.Ok → t.fit = true → (∀ y, y ∈ t.kids → ∀ s, ((allT s y).map (·.1)).Nodup) → ∀ s, ((allT s t).map (·.1)).Nodup := by
  intro t ho hf ih s
  have hform : ∀ y, y ∈ t.kids → ∀ s (x : Tx × Tr), x ∈ allT s y → ∃ path, x.1 = s ++ printS path := fun y hy => allT_form y (kids_oks ho y hy).1
  have hlen := kid_len ho
  rw [allT_kids, List.map_cons, List.nodup_cons]
  refine ⟨fun hm => ?_, allK_nodup t.kids s (kidToks t) hform ih hlen (kid_nodup ho (by have := kids_few hf; omega))⟩
  obtain ⟨x, hx, he⟩ := List.mem_map.1 hm
  obtain ⟨k, path, _, h⟩ := allK_form t.kids s (kidToks t) x hform hlen hx
  have he' : x.1 = s := he
  rw [h] at he'
  have h3 := congrArg List.length he'
  rw [List.length_append, print_one, List.length_append] at h3
  unfold piece at h3
  simp at h3
 intro t
 induction t using Tr.ind with
 | h0 => exact fun ho hf => one _ ho hf fun y hy => by cases hy
 | h1 b => exact fun ho hf => one _ ho hf fun y hy => by cases hy
 | h2 x => exact fun ho hf => one _ ho hf fun y hy => by cases hy
 | h3 s => exact fun ho hf => one _ ho hf fun y hy => by cases hy
 | h4 l ih => exact fun ho hf => one _ ho hf fun y hy => ih y hy (kids_oks ho y hy).1 (kids_oks ho y hy).2
 | h5 ks l ih => exact fun ho hf => one _ ho hf fun y hy => ih y hy (kids_oks ho y hy).1 (kids_oks ho y hy).2
theorem srt_six (t : Tr) : t.srt = 1 ∨ t.srt = 2 ∨ t.srt = 3 ∨ t.srt = 4 ∨ t.srt = 5 ∨ t.srt = 6 := by
 cases t <;> simp [Tr.srt]
theorem want_one (t : Tr) : wantB t.srt 1 = true := by
 rcases srt_six t with h | h | h | h | h | h <;> rw [h] <;> rfl
theorem want_three (t : Tr) : wantB t.srt 3 = !wantB t.srt 2 := by
 rcases srt_six t with h | h | h | h | h | h <;> rw [h] <;> rfl
theorem wantL_one (l : List (Tx × Tr)) : wantL 1 l = l := by
 unfold wantL
 exact List.filter_eq_self.2 fun x _ => want_one x.2
theorem want_split (l : List (Tx × Tr)) : (wantL 2 l ++ wantL 3 l).Perm l := by
 have e : wantL 3 l = l.filter fun x => !wantB x.2.srt 2 := by
  unfold wantL
  congr 1
  funext x
  exact want_three x.2
 rw [e]
 exact List.filter_append_perm _ l
def sortT (l : List Tx) : List Tx := l.mergeSort fun x y => decide (x ≤ y)
theorem sortT_pw (l : List Tx) : (sortT l).Pairwise fun x y => decide (x ≤ y) = true :=
 List.pairwise_mergeSort (le := fun x y : Tx => decide (x ≤ y)) (fun a b c h1 h2 => decide_eq_true (List.le_trans (of_decide_eq_true h1) (of_decide_eq_true h2))) (fun a b => by
  rcases List.le_total a b with h | h
  ·rw [decide_eq_true h]; rfl
  ·rw [decide_eq_true h]; exact Bool.or_true _) l
theorem sortT_perm (l : List Tx) : (sortT l).Perm l := List.mergeSort_perm l _
theorem sortT_eq {a b : List Tx} (h : a.Perm b) : sortT a = sortT b :=
 List.Perm.eq_of_pairwise (le := fun x y => decide (x ≤ y) = true) (fun x y _ _ h1 h2 => List.le_antisymm (of_decide_eq_true h1) (of_decide_eq_true h2)) (sortT_pw a) (sortT_pw b) (((sortT_perm a).trans h).trans (sortT_perm b).symm)
theorem compact_nodup (l : List Tx) (h : l.Nodup) : Lib.compact l = l := by
 refine Lib.compact_all l fun j hj => ?_
 unfold Lib.keeps
 refine decide_eq_true ?_
 by_cases h0 : j = 0
 ·exact .inl h0
 ·refine .inr fun e => ?_
  have h1 : j - 1 < l.length := by omega
  rw [getElem!_pos l.toArray j (by simpa using hj), getElem!_pos l.toArray (j - 1) (by simpa using h1), List.getElem_toArray, List.getElem_toArray] at e
  exact List.pairwise_iff_getElem.1 (List.nodup_iff_pairwise_ne.1 h) (j - 1) j h1 hj (by omega) e.symm
theorem sortT_nodup {l : List Tx} (h : l.Nodup) : (sortT l).Nodup := (sortT_perm l).symm.nodup h
theorem sortT_len (l : List Tx) : (sortT l).length = l.length := (sortT_perm l).length_eq
theorem counts_plain (o : Option Tr) (ho : ∀ t, o = some t → t.Ok ∧ t.fit = true) : sortT ((wantL 2 (allO o)).map (·.1) ++ (wantL 3 (allO o)).map (·.1)) = sortT ((wantL 1 (allO o)).map (·.1)) ∧ (sortT ((wantL 1 (allO o)).map (·.1))).Nodup := by
 rw [wantL_one, ← List.map_append]
 refine ⟨sortT_eq ((want_split _).map _), sortT_nodup ?_⟩
 cases o with
 | none => exact List.nodup_nil
 | some t => exact allT_nodup t (ho t rfl).1 (ho t rfl).2 []
theorem allO_len (o : Option Tr) : (allO o).length = match o with | none => 0 | some t => t.nodes := by
 cases o with
 | none => rfl
 | some t => exact allT_len t []
end Nd
end Go.Proofs.YtlailcmhpnnidaaGreatDoor
namespace Go.Proofs
open Go.Shelf
def Tryz.lays190_ren : Go.Shelf.Ren := ⟨fun | 190 => 8 | 125 => 32 | 258 => 31 | 128 => 72 | 129 => 73 | 302 => 63 | 303 => 64 | 304 => 65 | 305 => 66 | 306 => 67 | 307 => 68 | 308 => 69 | 309 => 70 | 310 => 71 | 333 => 113 | 329 => 114 | 330 => 115 | 334 => 116 | 335 => 117 | 336 => 118 | 344 => 145 | n => n, fun | 31 => 26 | 9 => 9 | 3 => 3 | 46 => 94 | 0 => 0 | 51 => 191 | 53 => 24 | 4 => 4 | 183 => 183 | 182 => 182 | 131 => 188 | 5 => 5 | 218 => 237 | 222 => 241 | 228 => 267 | 229 => 268 | n => n, fun | n => n⟩
theorem Tryz.lays190 : Go.Proofs.Lays.n190 Tryz.prog Tryz.lays190_ren := {
 mixed := by kernel_rfl
 f125 := Tryz.func32.trans (congrArg some (by kernel_rfl))
 f128 := Tryz.func72.trans (congrArg some (by kernel_rfl))
 f129 := Tryz.func73.trans (congrArg some (by kernel_rfl))
 f190 := Tryz.func8.trans (congrArg some (by kernel_rfl))
 f258 := Tryz.func31.trans (congrArg some (by kernel_rfl))
 f302 := Tryz.func63.trans (congrArg some (by kernel_rfl))
 f303 := Tryz.func64.trans (congrArg some (by kernel_rfl))
 f304 := Tryz.func65.trans (congrArg some (by kernel_rfl))
 f305 := Tryz.func66.trans (congrArg some (by kernel_rfl))
 f306 := Tryz.func67.trans (congrArg some (by kernel_rfl))
 f307 := Tryz.func68.trans (congrArg some (by kernel_rfl))
 f308 := Tryz.func69.trans (congrArg some (by kernel_rfl))
 f309 := Tryz.func70.trans (congrArg some (by kernel_rfl))
 f310 := Tryz.func71.trans (congrArg some (by kernel_rfl))
 f329 := Tryz.func114.trans (congrArg some (by kernel_rfl))
 f330 := Tryz.func115.trans (congrArg some (by kernel_rfl))
 f333 := Tryz.func113.trans (congrArg some (by kernel_rfl))
 f334 := Tryz.func116.trans (congrArg some (by kernel_rfl))
 f335 := Tryz.func117.trans (congrArg some (by kernel_rfl))
 f336 := Tryz.func118.trans (congrArg some (by kernel_rfl))
 f344 := Tryz.func145.trans (congrArg some (by kernel_rfl))
 t0 := Tryz.underlying0
 a0 := Tryz.isAgg0
 z0 := Tryz.sizeOf0
 v0 := Tryz.zeroValue0
 t3 := Tryz.underlying3
 a3 := Tryz.isAgg3
 z3 := Tryz.sizeOf3
 v3 := Tryz.zeroValue3
 t4 := Tryz.underlying4
 a4 := Tryz.isAgg4
 z4 := Tryz.sizeOf4
 v4 := Tryz.zeroValue4
 t5 := Tryz.underlying5
 a5 := Tryz.isAgg5
 z5 := Tryz.sizeOf5
 v5 := Tryz.zeroValue5
 t9 := Tryz.underlying9
 a9 := Tryz.isAgg9
 z9 := Tryz.sizeOf9
 v9 := Tryz.zeroValue9
 t31 := Tryz.underlying26
 a31 := Tryz.isAgg26
 z31 := Tryz.sizeOf26
 v31 := Tryz.zeroValue26
 t46 := Tryz.underlying94
 a46 := Tryz.isAgg94
 z46 := Tryz.sizeOf94
 v46 := Tryz.zeroValue94
 t51 := Tryz.underlying191
 a51 := Tryz.isAgg191
 z51 := Tryz.sizeOf191
 v51 := Tryz.zeroValue191
 t53 := Tryz.underlying24
 a53 := Tryz.isAgg24
 z53 := Tryz.sizeOf24
 v53 := Tryz.zeroValue24
 t131 := Tryz.underlying188
 a131 := Tryz.isAgg188
 z131 := Tryz.sizeOf188
 v131 := Tryz.zeroValue188
 t182 := Tryz.underlying182
 a182 := Tryz.isAgg182
 z182 := Tryz.sizeOf182
 v182 := Tryz.zeroValue182
 t183 := Tryz.underlying183
 a183 := Tryz.isAgg183
 z183 := Tryz.sizeOf183
 v183 := Tryz.zeroValue183
 t218 := Tryz.underlying237
 a218 := Tryz.isAgg237
 z218 := Tryz.sizeOf237
 v218 := Tryz.zeroValue237
 t222 := Tryz.underlying241
 a222 := Tryz.isAgg241
 z222 := Tryz.sizeOf241
 v222 := Tryz.zeroValue241
 t228 := Tryz.underlying267
 a228 := Tryz.isAgg267
 z228 := Tryz.sizeOf267
 v228 := Tryz.zeroValue267
 t229 := Tryz.underlying268
 a229 := Tryz.isAgg268
 z229 := Tryz.sizeOf268
 v229 := Tryz.zeroValue268 }
open Go.Sort Go.RowKit in
theorem Tryz.slices_Sort_string (blk off cap : Nat) (ss : List (List UInt8)) (w : World) (hH : Holds encStr w blk off ss.toArray) (hblk : blk < w.heap.size) (hsz : ss.length < 4611686018427387904) :
  Calls Tryz.prog 8 #[.slice (some ⟨blk, off, none⟩) ss.length cap] w fun e w' =>
   e = .returned (.tuple #[]) ∧ ∃ n os, w' = grow (putRow encStr (Sort.ahead w n) blk off (ss.mergeSort fun x y => decide (x ≤ y)).toArray) os := Any.slices_Sort_string Tryz.lays190 blk off cap ss w hH hblk hsz
open Go.Sort Go.RowKit in
theorem Tryz.slices_Sort_string_none (p : Option Addr) (cap : Nat) (w : World) :
  Calls Tryz.prog 8 #[.slice p 0 cap] w fun e w' => e = .returned (.tuple #[]) ∧ w' = w := Any.slices_Sort_string_none Tryz.lays190 p cap w
end Go.Proofs
namespace Go.Proofs.YtlailcmhpnnidaaGreatDoor
open Go.RowKit Go.Shelf Mem Rg Tok Go.Sort
namespace Nd
def marks (ds : List Nat) : List Deferred := ds.map fun D => { target := .collected D, args := #[] }
def MarksOk (B : Nat) (ds : List Nat) (w : World) : Prop := ds.Nodup ∧ ∀ D ∈ ds, B ≤ D ∧ w.heap[D]? = some (.deferred (some []))
theorem marksOk_nil (B : Nat) (w : World) : MarksOk B [] w := ⟨List.nodup_nil, fun D h => by cases h⟩
theorem MarksOk.kept {B : Nat} {ds : List Nat} {w w' : World} (h : MarksOk B ds w) (hk : ∀ D ∈ ds, w'.heap[D]? = w.heap[D]?) : MarksOk B ds w' := ⟨h.1, fun D hD => ⟨(h.2 D hD).1, (hk D hD).trans (h.2 D hD).2⟩⟩
theorem MarksOk.below {B : Nat} {ds : List Nat} {w w' : World} (h : MarksOk B ds w) (hb : Below w.heap.size w w') : MarksOk B ds w' := h.kept fun D hD => hb.block D (Array.getElem?_eq_some_iff.1 (h.2 D hD).2).1
theorem MarksOk.fr {B : Nat} {C : Nat → Prop} {ds : List Nat} {w w' : World} (h : MarksOk B ds w) (hF : Fr C w w') (hc : ∀ D ∈ ds, ¬ C D) : MarksOk B ds w' := h.kept fun D hD => hF.block D (Array.getElem?_eq_some_iff.1 (h.2 D hD).2).1 (hc D hD)
theorem MarksOk.cons {B D : Nat} {ds : List Nat} {w : World} (h : MarksOk B ds w) (hB : B ≤ D) (hD : w.heap[D]? = some (.deferred (some []))) (hn : D ∉ ds) : MarksOk B (D :: ds) w :=
 ⟨List.nodup_cons.2 ⟨hn, h.1⟩, fun E hE => by
  rcases List.mem_cons.1 hE with rfl | hE
  ·exact ⟨hB, hD⟩
  ·exact h.2 E hE⟩
theorem leaves_marks {n : Nat} {P : Program} {fn : Func} {tmps : Array Value} {R : Ending → World → Prop} {B : Nat} : ∀ (ds : List Nat) (w : World), MarksOk B ds w → (∀ w', Fr (fun k => k ∈ ds) w w' → LeavesInM Fence.wide n P fn tmps R [] .returning w') → LeavesInM Fence.wide n P fn tmps R (marks ds) .returning w
 | [], w, _, h => h w (Fr.refl _ _)
 | D :: ds, w, hm, h => by
  obtain ⟨hB, hD⟩ := hm.2 D (by simp)
  refine ⟨by simp, .inl ⟨_, _, rfl, run_takeDeferred hD, ?_⟩⟩
  have hbl : Fr (fun k => k = D) w (w.putObj D (.deferred none)) := Fr.putObj (fun k => k = D) _ D _ fun _ => rfl
  refine leaves_marks (B := B) ds _ ?_ fun w' hb => h w' ((hbl.mono (D := fun k => k ∈ D :: ds) fun k _ hk => by rw [hk]; simp).trans hb fun k _ hk => by simp [hk])
  refine ⟨(List.nodup_cons.1 hm.1).2, fun E hE => ?_⟩
  have h2 := hm.2 E (by simp [hE])
  refine ⟨h2.1, ?_⟩
  have hne : E ≠ D := fun e => (List.nodup_cons.1 hm.1).1 (e ▸ hE)
  exact (hbl.block E (Array.getElem?_eq_some_iff.1 h2.2).1 hne).trans h2.2

theorem own_fr {D : Nat → Prop} {w w' : World} {base size n : Nat} {e : TypeId} {v : Value} {xs : List Value} (h : w.ownsRow base e size v n xs) (hF : Fr D w w') (hd : ∀ k, v.ownBlock = some k → ¬ D k) : w'.ownsRow base e size v n xs := by
 refine ⟨h.1, ?_⟩
 rcases h.2 with ⟨rfl, h0⟩ | ⟨g, cap, cur, rfl, hg, hh, r⟩
 ·exact .inl ⟨rfl, h0⟩
 ·exact .inr ⟨g, cap, cur, rfl, hg, (hF.block g (Array.getElem?_eq_some_iff.1 hh).1 (hd g rfl)).trans hh, r⟩
def RowI (b B0 : Nat) (C : Nat → Prop) (xs : List Tx) (W : World) : Prop :=
 B0 ≤ W.heap.size ∧ B0 ≤ b ∧ ∃ v, Boxed W b 26 v ∧ W.ownsRow B0 9 1 v xs.length (xs.map encStr) ∧ C b ∧ (∀ k, v.ownBlock = some k → C k) ∧ (∀ k, C k → k < W.heap.size ∧ B0 ≤ k)
theorem rowI_fr {b B0 : Nat} {C : Nat → Prop} {xs : List Tx} {W W' : World} (h : RowI b B0 C xs W) (hF : Fr (fun k => ¬ C k) W W') : RowI b B0 C xs W' := by
 obtain ⟨h1, h0, v, h2, h3, h4, h5, h6⟩ := h
 exact ⟨Nat.le_trans h1 hF.size, h0, v, boxed_fr h2 hF fun h => h h4, own_fr h3 hF fun k hk h => h (h5 k hk), h4, h5, fun k hk => ⟨Nat.lt_of_lt_of_le (h6 k hk).1 hF.size, (h6 k hk).2⟩⟩
theorem rowI_new {b B0 : Nat} {W : World} (hb : Boxed W b 26 (.slice none 0 0)) (h0 : B0 ≤ b) : RowI b B0 (fun k => k = b) [] W :=
 ⟨by have := hb.lt; omega, h0, .slice none 0 0, hb, ⟨rfl, .inl ⟨rfl, rfl⟩⟩, rfl, fun (k : Nat) (hk : (Value.slice none 0 0).ownBlock = some k) => (by cases hk), fun (k : Nat) (hk : k = b) => by rw [hk]; exact ⟨hb.lt, h0⟩⟩
theorem rowI_abd {α : Type} (b B0 B : Nat) (f : List α → List Tx) : Abd B (fun C pre W => RowI b B0 C (f pre) W) := fun C s W W' h hF => rowI_fr h (hF.mono fun k _ hk => hk.2)
theorem rowI_bdd {α : Type} (b B0 : Nat) (f : List α → List Tx) : Bdd (fun C pre W => RowI b B0 C (f pre) W) := fun C s W h k hk => by
 obtain ⟨h1, h0, v, h2, h3, h4, h5, h6⟩ := h
 exact (h6 k hk).1
theorem rowI_next {b B0 : Nat} {C : Nat → Prop} {xs : List Tx} {y : Tx} {W7 w8 : World} {v v' : Value} {tmp : Obj} (hB : B0 ≤ W7.heap.size) (h0 : B0 ≤ b)
  (hv : Boxed W7 b 26 v) (hrow : W7.ownsRow B0 9 1 v xs.length (xs.map encStr)) (hCb : C b) (hCo : ∀ k, v.ownBlock = some k → C k) (hCl : ∀ k, C k → k < W7.heap.size ∧ B0 ≤ k)
  (hown' : w8.ownsRow B0 9 1 v' (xs.length + 1) (xs.map encStr ++ [encStr y])) (hgrow : (W7.alloc tmp).grownBy w8 v.ownBlock) (hat : v'.ownBlock = v.ownBlock ∨ v'.ownBlock = some (W7.alloc tmp).heap.size) :
  ∃ C', RowI b B0 C' (xs ++ [y]) (w8.setCell ⟨b, 0, none⟩ v') ∧ Fr C W7 (w8.setCell ⟨b, 0, none⟩ v') ∧ Nw C C' W7 := by
 obtain ⟨h1, h2, h3, _, h5⟩ := Boxed.appended hv (by decide) hrow hB h0 hown' hgrow
 have hsz := hgrow.size
 have hsz2 : (w8.setCell ⟨b, 0, none⟩ v').heap.size = w8.heap.size := by simp
 have hal : (W7.alloc tmp).heap.size = W7.heap.size + 1 := by simp
 rw [hal] at hsz hat
 refine ⟨fun k => C k ∨ (k = W7.heap.size + 1 ∧ k < w8.heap.size), ⟨by rw [hsz2]; omega, h0, v', h2, ?_, .inl hCb, ?_, ?_⟩, ?_, fun k hk => hk.imp id fun h => by omega⟩
 ·rw [List.length_append, List.map_append]
  exact h3
 ·intro k hk
  rcases hat with h | h
  ·exact .inl (hCo k (by rw [← h]; exact hk))
  ·rw [h] at hk
   injection hk with hk
   refine .inr ⟨hk.symm, ?_⟩
   have := (hown'.lt k (by rw [h, hk])).2
   exact this
 ·rintro k (hk | ⟨rfl, hk⟩)
  ·have := hCl k hk
   rw [hsz2]
   exact ⟨by omega, this.2⟩
  ·rw [hsz2]
   exact ⟨hk, by omega⟩
 ·have f1 : Fr C W7 (W7.alloc tmp) := Fr.alloc C W7 tmp
  have f2 : Fr C (W7.alloc tmp) w8 := ⟨hgrow.os, hgrow.tape, hgrow.output, hgrow.size, fun k hk hc => hgrow.block k hk fun e => hc (hCo k e.symm)⟩
  have g3 := grownBy_setCell' w8 b v'
  have f3 : Fr C w8 (w8.setCell ⟨b, 0, none⟩ v') := ⟨g3.os, g3.tape, g3.output, g3.size, fun k hk hc => g3.block k hk fun e => hc (by injection e with e; rw [e]; exact hCb)⟩
  exact (f1.trans f2 fun k _ h => h).trans f3 fun k _ h => h

theorem fr_grown {w w' : World} {v : Value} (h : w.grownBy w' v.ownBlock) : Fr (fun k => v.ownBlock = some k) w w' := ⟨h.os, h.tape, h.output, h.size, fun k hk hc => h.block k hk fun e => hc e.symm⟩
theorem sort_row (base : Nat) (v : Value) (xs : List Tx) (w : World) (h : w.ownsRow base 9 1 v xs.length (xs.map encStr)) (hn : xs.length ≤ 1048576) :
  Calls Tryz.prog 8 #[v] w fun e w' => e = .returned (.tuple #[]) ∧ w'.ownsRow base 9 1 v xs.length ((sortT xs).map encStr) ∧ Fr (fun k => v.ownBlock = some k) w w' := by
 rcases h.2 with ⟨hnil, h0⟩ | ⟨g, cap, cur, rfl, hbase, hb, h1, h2, h3, h4⟩
 ·subst hnil
  obtain rfl : xs = [] := List.length_eq_zero_iff.1 h0
  refine (Tryz.slices_Sort_string_none none 0 w).mono ?_
  rintro e w' ⟨rfl, rfl⟩
  refine ⟨rfl, ?_, Fr.refl _ _⟩
  rw [show sortT [] = [] from List.mergeSort_nil]
  exact h
 ·refine (Tryz.slices_Sort_string g 0 cap xs w (holds_of_block hb (by simpa using h4)) (Array.getElem?_eq_some_iff.1 hb).1 (by omega)).mono ?_
  rintro e w' ⟨rfl, n, os, rfl⟩
  exact ⟨rfl, ownsRow_sorted (ts := sortT xs) (sortT_len xs) hbase hb h1 h2 h3, fr_grown (v := .slice (some ⟨g, 0, none⟩) xs.length cap) (grownBy_sorted _)⟩
theorem rdk_own {base : Nat} {v : Value} {xs : List Tx} {w : World} (h : w.ownsRow base 9 1 v xs.length (xs.map encStr)) : RdK w v xs := by
 rcases h.2 with ⟨hnil, h0⟩ | ⟨g, cap, cur, rfl, hbase, hb, h1, h2, h3, h4⟩
 ·obtain rfl : xs = [] := List.length_eq_zero_iff.1 h0
  exact ⟨none, 0, hnil, .inl rfl⟩
 ·refine ⟨_, cap, rfl, .inr ⟨g, 0, rfl, fun j t ht => ?_⟩⟩
  have hj := (List.getElem?_eq_some_iff.1 ht).1
  have := h.cellAt j (by simpa using hj)
  rw [Nat.zero_add, this, List.getElem?_map, ht]
  rfl
theorem compact_row (base : Nat) (v : Value) (xs : List Tx) (w : World) (h : w.ownsRow base 9 1 v xs.length (xs.map encStr)) (hn : xs.length ≤ 1048576) (hd : xs.Nodup) :
  Calls Tryz.prog 11 #[v] w fun e w' => (∃ A c, e = .returned (.slice A xs.length c)) ∧ Fr (fun k => v.ownBlock = some k) w w' := by
 rcases h.2 with ⟨hnil, h0⟩ | ⟨g, cap, cur, rfl, hbase, hb, h1, h2, h3, h4⟩
 ·subst hnil
  obtain rfl : xs = [] := List.length_eq_zero_iff.1 h0
  refine (Tryz.slices_Compact_string_empty none 0 w).mono ?_
  rintro e w' ⟨rfl, rfl⟩
  exact ⟨⟨_, _, rfl⟩, Fr.refl _ _⟩
 ·refine (Tryz.slices_Compact_string g 0 cap xs w (holds_of_block hb (by simpa using h4)) (by omega) h1).mono ?_
  rintro e w' ⟨rfl, q, rfl⟩
  rw [compact_nodup xs hd]
  refine ⟨⟨_, _, rfl⟩, ?_⟩
  have := grownBy_sorted (w := w) (g := g) (n := q) (os := #[]) (xs ++ List.replicate (xs.length - xs.length) []).toArray
  rw [grow_empty] at this
  exact fr_grown (v := .slice (some ⟨g, 0, none⟩) xs.length cap) this
end Nd
end Go.Proofs.YtlailcmhpnnidaaGreatDoor
namespace Go.Proofs.YtlailcmhpnnidaaGreatDoor
open Go.RowKit Mem
namespace Nd
namespace Rz

def SizeP (t : Tr) (w : World) (e : Ending) (w' : World) : Prop := e = .returned (.tuple #[.int .i64 (t.nodes : Int), .int .i64 (t.bytes : Int), .int .i64 (t.depth : Int)]) ∧ Below w.heap.size w w'
theorem meth_null (fuel : Nat) (nm : String) (hnm : nm = itemM 0) (W : World) : (method (fuel + 1) 160 (.agg #[]) nm).run Tryz.prog W = .ok (249, .agg #[]) W := by
 subst hnm
 kernel_rfl
theorem meth_flag (fuel : Nat) (b : Bool) (nm : String) (hnm : nm = itemM 0) (W : World) : (method (fuel + 1) 161 (.bool b) nm).run Tryz.prog W = .ok (251, .bool b) W := by
 subst hnm
 kernel_rfl
theorem meth_num (fuel : Nat) (x : Nat) (nm : String) (hnm : nm = itemM 0) (W : World) : (method (fuel + 1) 162 (.float .f64 x) nm).run Tryz.prog W = .ok (253, .float .f64 x) W := by
 subst hnm
 kernel_rfl
theorem meth_text (fuel : Nat) (s : ByteArray) (nm : String) (hnm : nm = itemM 0) (W : World) : (method (fuel + 1) 163 (.string s) nm).run Tryz.prog W = .ok (255, .string s) W := by
 subst hnm
 kernel_rfl
theorem size_null (S : Nat → Prop) (v : Value) (w : World) (h : RdT S w (.null) v) : Calls Tryz.prog 34 #[.agg #[v]] w (SizeP (.null) w) := by
 unfold RdT at h
 subst h
 have q1 : True := trivial
 go_enter Tryz.func34, Tryz.ntmps34
 go_wp2_with fail
 rw [meth_null _ _ ?nm]
 case nm => kernel_rfl
 go_wp2_with fail
 ((with_reducible refine (sized_null _).mono ?_); rintro e w1 ⟨rfl, hb1⟩)
 have hbw := ((Below.refl w.heap.size w).alloc (Nat.le_refl _) (.cells #[.iface 160 (.agg #[])] 68)).trans (hb1.mono (by simp))
 have hsz := hbw.size
 clear hb1
 go_wp2_with fail
 go_quiet (fail)
 go_wp2
 go_ret3
 exact ⟨rfl, (hbw.alloc hsz _).trans (drewN_below _ _)⟩
theorem size_flag (b : Bool) (S : Nat → Prop) (v : Value) (w : World) (h : RdT S w (.flag b) v) : Calls Tryz.prog 34 #[.agg #[v]] w (SizeP (.flag b) w) := by
 unfold RdT at h
 subst h
 have q1 : True := trivial
 go_enter Tryz.func34, Tryz.ntmps34
 go_wp2_with fail
 rw [meth_flag _ b _ ?nm]
 case nm => kernel_rfl
 go_wp2_with fail
 ((with_reducible refine (sized_flag b _).mono ?_); rintro e w1 ⟨rfl, hb1⟩)
 have hbw := ((Below.refl w.heap.size w).alloc (Nat.le_refl _) (.cells #[.iface 161 (.bool b)] 68)).trans (hb1.mono (by simp))
 have hsz := hbw.size
 clear hb1
 go_wp2_with fail
 go_quiet (fail)
 go_wp2
 go_ret3
 exact ⟨rfl, (hbw.alloc hsz _).trans (drewN_below _ _)⟩
theorem size_num (x : Nat) (S : Nat → Prop) (v : Value) (w : World) (h : RdT S w (.num x) v) : Calls Tryz.prog 34 #[.agg #[v]] w (SizeP (.num x) w) := by
 unfold RdT at h
 subst h
 have q1 : True := trivial
 go_enter Tryz.func34, Tryz.ntmps34
 go_wp2_with fail
 rw [meth_num _ x _ ?nm]
 case nm => kernel_rfl
 go_wp2_with fail
 ((with_reducible refine (sized_num x _).mono ?_); rintro e w1 ⟨rfl, hb1⟩)
 have hbw := ((Below.refl w.heap.size w).alloc (Nat.le_refl _) (.cells #[.iface 162 (.float .f64 x)] 68)).trans (hb1.mono (by simp))
 have hsz := hbw.size
 clear hb1
 go_wp2_with fail
 go_quiet (fail)
 go_wp2
 go_ret3
 exact ⟨rfl, (hbw.alloc hsz _).trans (drewN_below _ _)⟩
theorem size_text (s : Tx) (S : Nat → Prop) (v : Value) (w : World) (h : RdT S w (.text s) v) (hs : s.length ≤ 2097152) : Calls Tryz.prog 34 #[.agg #[v]] w (SizeP (.text s) w) := by
 unfold RdT at h
 subst h
 have q1 : True := trivial
 go_enter Tryz.func34, Tryz.ntmps34
 go_wp2_with fail
 rw [meth_text _ ⟨s.toArray⟩ _ ?nm]
 case nm => kernel_rfl
 go_wp2_with fail
 ((with_reducible refine (sized_text s _).mono ?_); rintro e w1 ⟨rfl, hb1⟩)
 have hbw := ((Below.refl w.heap.size w).alloc (Nat.le_refl _) (.cells #[.iface 163 (.string ⟨s.toArray⟩)] 68)).trans (hb1.mono (by simp))
 have hsz := hbw.size
 clear hb1
 go_wp2_with fail
 go_quiet (fail)
 go_wp2
 go_ret3
 exact ⟨rfl, (hbw.alloc hsz _).trans (drewN_below _ _)⟩
theorem size_list (l : List Tr) (S : Nat → Prop) (v : Value) (w : World) (h : RdT S w (.list l) v) : Calls Tryz.prog 34 #[.agg #[v]] w (SizeP (.list l) w) := by
 unfold RdT at h
 obtain ⟨g1, A1, c1, vs, rfl, hS1, hB1, hR1, hL1⟩ := h
 have hb0 := hB1.alloc (.cells #[.iface 164 (.pointer (some ⟨g1, 0, none⟩))] 68)
 have d0 : (w.alloc (.cells #[.iface 164 (.pointer (some ⟨g1, 0, none⟩))] 68)).cell? ⟨g1, 0, none⟩ = some (.int .i64 (((Tr.list l).nodes : Nat) : Int)) := hb0.cell 0
 have d1 : (w.alloc (.cells #[.iface 164 (.pointer (some ⟨g1, 0, none⟩))] 68)).cell? ⟨g1, 1, none⟩ = some (.int .i64 (((Tr.list l).bytes : Nat) : Int)) := hb0.cell 1
 have d2 : (w.alloc (.cells #[.iface 164 (.pointer (some ⟨g1, 0, none⟩))] 68)).cell? ⟨g1, 2, none⟩ = some (.int .i64 (((Tr.list l).depth : Nat) : Int)) := hb0.cell 2
 clear hB1 hR1 hL1 hb0
 unfold SizeP
 generalize (Tr.list l).nodes = n1 at *
 generalize (Tr.list l).bytes = b1 at *
 generalize (Tr.list l).depth = e1 at *
 go_enter Tryz.func34, Tryz.ntmps34
 go_wp2_with fail
 rw [method_list _ g1 _ _ _ _ _ ?nm d0 d1 d2]
 case nm => kernel_rfl
 go_wp2_with fail
 ((with_reducible refine (sized_size n1 b1 e1 _).mono ?_); rintro e w1 ⟨rfl, hb1⟩)
 have hbw := ((Below.refl w.heap.size w).alloc (Nat.le_refl _) (.cells #[.iface 164 (.pointer (some ⟨g1, 0, none⟩))] 68)).trans (hb1.mono (by simp))
 have hsz := hbw.size
 clear hb1
 go_wp2_with fail
 go_quiet (fail)
 go_wp2
 go_ret3
 exact ⟨rfl, (hbw.alloc hsz _).trans (drewN_below _ _)⟩
theorem size_obj (ks : List Tx) (l : List Tr) (S : Nat → Prop) (v : Value) (w : World) (h : RdT S w (.obj ks l) v) : Calls Tryz.prog 34 #[.agg #[v]] w (SizeP (.obj ks l) w) := by
 unfold RdT at h
 obtain ⟨g1, K1, dk, A1, c1, vs, rfl, hS1, hB1, hK1, hR1, hL1⟩ := h
 have hb0 := hB1.alloc (.cells #[.iface 169 (.pointer (some ⟨g1, 0, none⟩))] 68)
 have d0 : (w.alloc (.cells #[.iface 169 (.pointer (some ⟨g1, 0, none⟩))] 68)).cell? ⟨g1, 0, none⟩ = some (.int .i64 (((Tr.obj ks l).nodes : Nat) : Int)) := hb0.cell 0
 have d1 : (w.alloc (.cells #[.iface 169 (.pointer (some ⟨g1, 0, none⟩))] 68)).cell? ⟨g1, 1, none⟩ = some (.int .i64 (((Tr.obj ks l).bytes : Nat) : Int)) := hb0.cell 1
 have d2 : (w.alloc (.cells #[.iface 169 (.pointer (some ⟨g1, 0, none⟩))] 68)).cell? ⟨g1, 2, none⟩ = some (.int .i64 (((Tr.obj ks l).depth : Nat) : Int)) := hb0.cell 2
 clear hB1 hR1 hL1 hb0 hK1
 unfold SizeP
 generalize (Tr.obj ks l).nodes = n1 at *
 generalize (Tr.obj ks l).bytes = b1 at *
 generalize (Tr.obj ks l).depth = e1 at *
 go_enter Tryz.func34, Tryz.ntmps34
 go_wp2_with fail
 rw [method_obj _ g1 _ _ _ _ _ ?nm d0 d1 d2]
 case nm => kernel_rfl
 go_wp2_with fail
 ((with_reducible refine (sized_size n1 b1 e1 _).mono ?_); rintro e w1 ⟨rfl, hb1⟩)
 have hbw := ((Below.refl w.heap.size w).alloc (Nat.le_refl _) (.cells #[.iface 169 (.pointer (some ⟨g1, 0, none⟩))] 68)).trans (hb1.mono (by simp))
 have hsz := hbw.size
 clear hb1
 go_wp2_with fail
 go_quiet (fail)
 go_wp2
 go_ret3
 exact ⟨rfl, (hbw.alloc hsz _).trans (drewN_below _ _)⟩
theorem size_any (S : Nat → Prop) (t : Tr) (v : Value) (w : World) (h : RdT S w t v) (hf : t.fit = true) : Calls Tryz.prog 34 #[.agg #[v]] w (SizeP t w) := by
 have hb := (fit_le hf).2.1
 cases t with
 | null => exact size_null S v w h
 | flag b => exact size_flag b S v w h
 | num x => exact size_num x S v w h
 | text s => exact size_text s S v w h (by unfold Tr.bytes at hb; exact hb)
 | list l => exact size_list l S v w h
 | obj ks l => exact size_obj ks l S v w h
end Rz
end Nd
end Go.Proofs.YtlailcmhpnnidaaGreatDoor
