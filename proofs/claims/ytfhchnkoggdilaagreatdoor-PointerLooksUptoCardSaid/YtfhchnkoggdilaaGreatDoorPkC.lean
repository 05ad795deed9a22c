/-
  Walks: the value of a key; where a token leads on to.
-/
import Derived.Test.YtfhchnkoggdilaaGreatDoorPkB
import Derived.Test.YtfhchnkoggdilaaGreatDoorGI
import Derived.Test.YtfhchnkoggdilaaGreatDoorPvI
namespace Go.Proofs.YtfhchnkoggdilaaGreatDoor
open Go.RowKit Mem Idx
set_option linter.unusedVariables false
namespace Nd
theorem lens_key {ks : List Tx} {l : List Tr} (h : (Tr.obj ks l).fit = true) : ∀ k ∈ ks, k.length ≤ 1099511627776 := by
  intro k hk
  obtain ⟨i, hi, rfl⟩ := List.getElem_of_mem hk
  have h1 := lens_at ks i hi
  have h2 := (fit_le h).2.1
  unfold Tr.bytes at h2
  omega
theorem kids_le {t : Tr} (h : t.fit = true) : t.kids.length ≤ 65536 := by
  have h0 := (fit_le h).1
  have h1 := nodes_len t.kids
  have h2 : nodesL t.kids ≤ t.nodes := by cases t <;> simp [Tr.kids, Tr.nodes, nodesL]
  omega
theorem keys_obj (ks : List Tx) (l : List Tr) (v : Value) (w : World) (h : RdA w (.obj ks l) v) : Calls Tryz.prog 100 #[.agg #[v]] w fun e w' => (∃ A c, e = .returned (.slice A ks.length c) ∧ RdK w (.slice A ks.length c) ks) ∧ Below w.heap.size w w' := keysr_any (fun _ => True) (.obj ks l) v w h
set_option maxRecDepth 100000 in
set_option maxHeartbeats 8000000 in
theorem find_any (ks : List Tx) (l : List Tr) (v : Value) (x : Tx) (w0 w : World) (h : RdA w0 (.obj ks l) v) (hb0 : Below w0.heap.size w0 w) (ho : (Tr.obj ks l).Ok) (hf : (Tr.obj ks l).fit = true) (hx : rightB x = true) (hlx : x.length ≤ 1099511627776) :
    Calls Tryz.prog 79 #[.agg #[v], .string ⟨x.toArray⟩] w (OnP w0 (onT x (.obj ks l)) w) := by
  have hba : Below w.heap.size w (w.alloc (.cells #[v] 38)) := (Below.refl _ _).alloc (Nat.le_refl _) _
  have hbb : Below w.heap.size w ((w.alloc (.cells #[v] 38)).alloc (.cells #[.nilIface] 38)) := hba.alloc hba.size _
  have hB2 : Blk ((w.alloc (.cells #[v] 38)).alloc (.cells #[.nilIface] 38)) w.heap.size 38 #[v] := (Blk.new w 38 #[v]).alloc _
  have hB4 : Blk ((w.alloc (.cells #[v] 38)).alloc (.cells #[.nilIface] 38)) (w.heap.size + 1) 38 #[.nilIface] := by
    have := Blk.new (w.alloc (.cells #[v] 38)) 38 #[.nilIface]
    simpa using this
  have hkl := kids_le hf
  have hks : ks.length = l.length ∧ Rise ks ∧ ks.all rightB = true := by unfold Tr.Ok at ho; exact ⟨ho.1, ho.2.1, ho.2.2.1⟩
  have HKS := Lib.hid hks
  have HKL := Lib.hid (show l.length ≤ 65536 from hkl)
  have HLK := Lib.hid (lens_key hf)
  have HX := Lib.hid (And.intro hx hlx)
  have HR := Lib.hid h
  have HB0 := Lib.hid hb0
  have HBB := Lib.hid hbb
  have HB2 := Lib.hid hB2
  have HB4 := Lib.hid hB4
  obtain ⟨q, hq⟩ : ∃ q, onT x (.obj ks l) = q := ⟨_, rfl⟩
  rw [hq]
  have HQ := Lib.hid hq
  clear h hb0 ho hf hx hlx hba hbb hB2 hB4 hkl hks hq
  go_enter Tryz.func79, Tryz.ntmps79
  go_wp2_with fail
  ((with_reducible refine (keys_obj ks l v _ (rda_below (rda_below HR.out HB0.out) HBB.out)).mono ?_); rintro e w1 ⟨⟨A, c, rfl, hk⟩, hb⟩)
  have hbw := HBB.out.trans (hb.mono HBB.out.size)
  have HK1 := Lib.hid (hk.below hb)
  have HB21 := Lib.hid (HB2.out.below hb HB2.out.lt)
  have HB41 := Lib.hid (HB4.out.below hb HB4.out.lt)
  have HBW := Lib.hid hbw
  clear hk hb hbw
  go_wp2_with fail
  ((with_reducible refine (search_any A c ks x _ HK1.out HKS.out.2.1 HKS.out.2.2 HX.out.1 HLK.out HX.out.2 (by have := HKS.out.1; have := HKL.out; omega)).mono ?_); rintro e w2 ⟨⟨i, hi⟩, hb2⟩)
  have hbw2 := HBW.out.trans (hb2.mono HBW.out.size)
  have hB22 := HB21.out.below hb2 HB21.out.lt
  have hB42 := HB41.out.below hb2 HB41.out.lt
  rcases hi with ⟨rfl, hil, hxm, hxi⟩ | ⟨rfl, hxm⟩
  · have hil2 : i < l.length := by have := HKS.out.1; omega
    have hq : q = some l[i] := by rw [← HQ.out, onT_obj, if_pos hxm, hxi, List.getElem?_eq_getElem hil2]
    subst hq
    have HB42 := Lib.hid hB42
    have HBW2 := Lib.hid hbw2
    have c2 := hB22.cell 0
    simp at c2
    have HAT := Lib.hid (at_any (.obj ks l) v i hil2 (by have := HKL.out; show l.length ≤ _; omega) w0 w2 HR.out (HB0.out.trans (hbw2.mono HB0.out.size)))
    clear hB22 hB42 hxm hxi hbw2 hb2
    go_wp2_with fail
    ((with_reducible refine HAT.out.mono ?_); rintro e w3 ⟨⟨tx, ux, rfl, hrd⟩, hb3⟩)
    have hbw3 := HBW2.out.trans (hb3.mono HBW2.out.size)
    have hb4 := HB42.out.below hb3 HB42.out.lt
    have c4 := hb4.cell 0
    have f4 := hb4.frozen 0
    have d4 := (hb4.put 0 (.iface tx ux)).cell 0
    have HBW3 := Lib.hid (below_put (u := .iface tx ux) (i := 0) hbw3 (show w.heap.size ≤ w.heap.size + 1 by omega))
    simp at c4 d4
    clear hb4 hb3 hbw3
    have HRD := Lib.hid hrd
    clear hrd
    go_wp2
    refine bodyPost_ret (v := .tuple #[.agg #[.iface tx ux], .bool true]) ?_ rfl ⟨⟨tx, ux, rfl, HRD.out⟩, HBW3.out⟩
    simp [results, Tryz.results79, go_sem, d4]
  · have hq : q = none := by rw [← HQ.out, onT_obj, if_neg hxm]
    subst hq
    have c4 := hB42.cell 0
    have f4 := hB42.frozen 0
    have d4 := (hB42.put 0 .nilIface).cell 0
    have HBW3 := Lib.hid (below_put (u := .nilIface) (i := 0) hbw2 (show w.heap.size ≤ w.heap.size + 1 by omega))
    simp at c4 d4
    clear hB22 hB42 hxm hb2
    go_wp2
    refine bodyPost_ret (v := .tuple #[.agg #[.nilIface], .bool false]) ?_ rfl ⟨rfl, HBW3.out⟩
    simp [results, Tryz.results79, go_sem, d4]
theorem srt_list (t : Tr) (h : (t.srt : Int) = 5) : ∃ l, t = .list l := by
  cases t <;> simp [Tr.srt] at h
  exact ⟨_, rfl⟩
theorem srt_obj (t : Tr) (h : (t.srt : Int) = 6) : ∃ ks l, t = .obj ks l := by
  cases t <;> simp [Tr.srt] at h
  exact ⟨_, _, rfl⟩
theorem onT_no {x : Tx} {t : Tr} (h1 : ¬ (t.srt : Int) = 5) (h2 : ¬ (t.srt : Int) = 6) : onT x t = none := by
  cases t <;> simp [Tr.srt] at h1 h2 <;> rfl
set_option maxRecDepth 100000 in
set_option maxHeartbeats 8000000 in
theorem on_any (t : Tr) (v : Value) (x : Tx) (w0 w : World) (h : RdA w0 t v) (hb0 : Below w0.heap.size w0 w) (ho : t.Ok) (hf : t.fit = true) (hx : rightB x = true) (hlx : x.length ≤ 1099511627776) (hT : Tab w) :
    Calls Tryz.prog 46 #[.agg #[v], .string ⟨x.toArray⟩] w (OnP w0 (onT x t) w) := by
  have hba : Below w.heap.size w (w.alloc (.cells #[v] 38)) := (Below.refl _ _).alloc (Nat.le_refl _) _
  have hbb : Below w.heap.size w ((w.alloc (.cells #[v] 38)).alloc (.cells #[.nilIface] 38)) := hba.alloc hba.size _
  have hB2 : Blk ((w.alloc (.cells #[v] 38)).alloc (.cells #[.nilIface] 38)) w.heap.size 38 #[v] := (Blk.new w 38 #[v]).alloc _
  have hB4 : Blk ((w.alloc (.cells #[v] 38)).alloc (.cells #[.nilIface] 38)) (w.heap.size + 1) 38 #[.nilIface] := by
    have := Blk.new (w.alloc (.cells #[v] 38)) 38 #[.nilIface]
    simpa using this
  have hkl := kids_le hf
  have HKL := Lib.hid hkl
  have HO := Lib.hid (And.intro ho hf)
  have HX := Lib.hid (And.intro hx hlx)
  have HR := Lib.hid h
  have HB0 := Lib.hid hb0
  have HBB := Lib.hid hbb
  have HB2 := Lib.hid hB2
  have HB4 := Lib.hid hB4
  have HT := Lib.hid hT
  obtain ⟨q, hq⟩ : ∃ q, onT x t = q := ⟨_, rfl⟩
  rw [hq]
  have HQ := Lib.hid hq
  clear h hb0 ho hf hx hlx hba hbb hB2 hB4 hkl hq hT
  go_enter Tryz.func46, Tryz.ntmps46
  go_wp2_with fail
  ((with_reducible refine (sort_any (fun _ => True) t v _ (rda_below (rda_below HR.out HB0.out) HBB.out)).mono ?_); rintro e w1 ⟨rfl, hb⟩)
  have hbw := HBB.out.trans (hb.mono HBB.out.size)
  have HB21 := Lib.hid (HB2.out.below hb HB2.out.lt)
  have HB41 := Lib.hid (HB4.out.below hb HB4.out.lt)
  have HBW := Lib.hid hbw
  clear hb hbw
  by_cases h5 : (t.srt : Int) = 5
  · obtain ⟨l, rfl⟩ := srt_list t h5
    have h5b : (((Tr.list l).srt : Int) == 5) = true := by simp [h5]
    have c2 := HB21.out.cell 0
    simp at c2
    clear h5
    go_wp2_with fail
    ((with_reducible refine (len_any (fun _ => True) (.list l) v _ (rda_below (rda_below HR.out HB0.out) HBW.out)).mono ?_); rintro e w2 ⟨rfl, hb2⟩)
    have HBW2 := Lib.hid (HBW.out.trans (hb2.mono HBW.out.size))
    have HB22 := Lib.hid (HB21.out.below hb2 HB21.out.lt)
    have HB42 := Lib.hid (HB41.out.below hb2 HB41.out.lt)
    clear hb2 c2
    go_wp2_with fail
    ((with_reducible refine (index_any x _ (by have := HX.out.2; omega) _ (HT.out.next HBW2.out)).mono ?_); rintro e w3 ⟨rfl, hb3⟩)
    have HBW3 := Lib.hid (HBW2.out.trans (hb3.mono HBW2.out.size))
    have HB23 := Lib.hid (HB22.out.below hb3 HB22.out.lt)
    have HB43 := Lib.hid (HB42.out.below hb3 HB42.out.lt)
    clear hb3
    cases hi : idxC x (((Tr.list l).kids.length : Nat) : Int) with
    | none =>
      have hq : q = none := by rw [← HQ.out, onT_list, show idxC x (l.length : Int) = none from hi]; rfl
      subst hq
      unfold idxV
      have c4 := HB43.out.cell 0
      have f4 := HB43.out.frozen 0
      have d4 := (HB43.out.put 0 .nilIface).cell 0
      have HBW4 := Lib.hid (below_put (u := .nilIface) (i := 0) HBW3.out (show w.heap.size ≤ w.heap.size + 1 by omega))
      simp at c4 d4
      clear hi
      go_wp2
      refine bodyPost_ret (v := .tuple #[.agg #[.nilIface], .bool false]) ?_ rfl ⟨rfl, HBW4.out⟩
      simp [results, Tryz.results46, go_sem, d4]
    | some n =>
      obtain ⟨hn0, hn1⟩ := idxC_range hi
      obtain ⟨i, rfl⟩ : ∃ i : Nat, n = (i : Int) := ⟨n.toNat, by omega⟩
      have hil : i < l.length := by have : ((Tr.list l).kids.length : Int) = (l.length : Int) := rfl; omega
      have hq : q = some l[i] := by rw [← HQ.out, onT_list, show idxC x (l.length : Int) = some (i : Int) from hi]; show l[((i : Nat) : Int).toNat]? = _; rw [Int.toNat_natCast, List.getElem?_eq_getElem hil]
      subst hq
      unfold idxV
      have c2 := HB23.out.cell 0
      simp at c2
      have HAT := Lib.hid (at_any (.list l) v i hil (by have := HKL.out; omega) w0 w3 HR.out (HB0.out.trans (HBW3.out.mono HB0.out.size)))
      clear hi hn0 hn1
      go_wp2_with fail
      ((with_reducible refine HAT.out.mono ?_); rintro e w4 ⟨⟨tx, ux, rfl, hrd⟩, hb4⟩)
      have hbw4 := HBW3.out.trans (hb4.mono HBW3.out.size)
      have hB4 := HB43.out.below hb4 HB43.out.lt
      have c4 := hB4.cell 0
      have f4 := hB4.frozen 0
      have d4 := (hB4.put 0 (.iface tx ux)).cell 0
      have HBW4 := Lib.hid (below_put (u := .iface tx ux) (i := 0) hbw4 (show w.heap.size ≤ w.heap.size + 1 by omega))
      have HRD := Lib.hid hrd
      simp at c4 d4
      clear hB4 hb4 hbw4 hrd
      go_wp2
      refine bodyPost_ret (v := .tuple #[.agg #[.iface tx ux], .bool true]) ?_ rfl ⟨⟨tx, ux, rfl, HRD.out⟩, HBW4.out⟩
      simp [results, Tryz.results46, go_sem, d4]
  · have h5b : ((t.srt : Int) == 5) = false := by simpa using h5
    by_cases h6 : (t.srt : Int) = 6
    · obtain ⟨ks, l, rfl⟩ := srt_obj t h6
      have h6b : (((Tr.obj ks l).srt : Int) == 6) = true := by simp [h6]
      have c2 := HB21.out.cell 0
      simp at c2
      have HF := Lib.hid (find_any ks l v x w0 w1 HR.out (HB0.out.trans (HBW.out.mono HB0.out.size)) HO.out.1 HO.out.2 HX.out.1 HX.out.2)
      rw [HQ.out] at HF
      clear h5 h6
      go_wp2_with fail
      ((with_reducible refine HF.out.mono ?_); rintro e w4 ⟨he, hb4⟩)
      have hbw4 := HBW.out.trans (hb4.mono HBW.out.size)
      have hB4 := HB41.out.below hb4 HB41.out.lt
      have c4 := hB4.cell 0
      have f4 := hB4.frozen 0
      simp at c4
      cases q with
      | none =>
        obtain rfl := he
        have d4 := (hB4.put 0 .nilIface).cell 0
        have HBW4 := Lib.hid (below_put (u := .nilIface) (i := 0) hbw4 (show w.heap.size ≤ w.heap.size + 1 by omega))
        simp at d4
        clear hB4 hb4 hbw4
        go_wp2
        refine bodyPost_ret (v := .tuple #[.agg #[.nilIface], .bool false]) ?_ rfl ⟨rfl, HBW4.out⟩
        simp [results, Tryz.results46, go_sem, d4]
      | some u =>
        obtain ⟨tx, ux, rfl, hrd⟩ := he
        have d4 := (hB4.put 0 (.iface tx ux)).cell 0
        have HBW4 := Lib.hid (below_put (u := .iface tx ux) (i := 0) hbw4 (show w.heap.size ≤ w.heap.size + 1 by omega))
        have HRD := Lib.hid hrd
        simp at d4
        clear hB4 hb4 hbw4 hrd
        go_wp2
        refine bodyPost_ret (v := .tuple #[.agg #[.iface tx ux], .bool true]) ?_ rfl ⟨⟨tx, ux, rfl, HRD.out⟩, HBW4.out⟩
        simp [results, Tryz.results46, go_sem, d4]
    · have h6b : ((t.srt : Int) == 6) = false := by simpa using h6
      have hq : q = none := by rw [← HQ.out]; exact onT_no h5 h6
      subst hq
      have c4 := HB41.out.cell 0
      have f4 := HB41.out.frozen 0
      have d4 := (HB41.out.put 0 .nilIface).cell 0
      have HBW4 := Lib.hid (below_put (u := .nilIface) (i := 0) HBW.out (show w.heap.size ≤ w.heap.size + 1 by omega))
      simp at c4 d4
      clear h5 h6
      go_wp2
      refine bodyPost_ret (v := .tuple #[.agg #[.nilIface], .bool false]) ?_ rfl ⟨rfl, HBW4.out⟩
      simp [results, Tryz.results46, go_sem, d4]
end Nd
end Go.Proofs.YtfhchnkoggdilaaGreatDoor
