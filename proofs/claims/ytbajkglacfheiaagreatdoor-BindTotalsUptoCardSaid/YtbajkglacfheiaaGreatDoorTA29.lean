/-
  Walks of package bind: list, Total.
  Walk of package bind: Total.
-/
import Derived.Test.YtbajkglacfheiaaGreatDoorTA28
import Derived.Test.YtbajkglacfheiaaGreatDoorTA18
import Derived.Test.YtbajkglacfheiaaGreatDoorTA19
set_option linter.unusedVariables false
set_option maxRecDepth 100000
set_option maxHeartbeats 16000000
namespace Go.Proofs.YtbajkglacfheiaaGreatDoor
open Go.RowKit Mem Utf Ref3 Idx Tok TokC Ieee
namespace Nd
theorem own_someB {w : World} {b n : Nat} {e : TypeId} {A : Option Addr} {m c : Nat} {xs : List Value} (h : w.ownsRow b e 1 (.slice A m c) n xs) (hn : 0 < n) : ∃ g, A = some ⟨g, 0, none⟩ ∧ m = n ∧ n ≤ c ∧ ∀ (j : Nat) u, xs[j]? = some u → w.cell? ⟨g, j, none⟩ = some u := by
 rcases h.2 with ⟨h1, h2⟩ | ⟨g, cap, cur, h1, _, hg, h3, h4, h5, h6⟩
 ·omega
 ·injection h1 with e1 e2 e3
  subst e1 e2 e3
  refine ⟨g, rfl, rfl, h3, fun j u hu => ?_⟩
  rw [cell_of_row w g j cur e (0, 0) hg]
  rw [← h6, List.getElem?_take] at hu
  split at hu
  ·simpa using hu
  ·cases hu
theorem add_some {a b : Nat} (ha : a < 18446744073709551616) (hb : b < 18446744073709551616) (fa : finB a = true) (fb : finB b = true) : ∃ r, double.add a b = some r ∧ r < 18446744073709551616 := by
 obtain ⟨s, M, L, r1, _, _⟩ := read_fform ha fa
 obtain ⟨t, N, K, r2, _, _⟩ := read_fform hb fb
 have h : ∃ r, double.add a b = some r := by
  unfold Format.add
  rw [r1, r2]
  exact ⟨_, rfl⟩
 obtain ⟨r, hr⟩ := h
 exact ⟨r, hr, Format.add_lt _ hr⟩
theorem mul_some {a b : Nat} (ha : a < 18446744073709551616) (hb : b < 18446744073709551616) (fa : finB a = true) (fb : finB b = true) : ∃ r, double.mul a b = some r ∧ r < 18446744073709551616 := by
 obtain ⟨s, M, L, r1, _, _⟩ := read_fform ha fa
 obtain ⟨t, N, K, r2, _, _⟩ := read_fform hb fb
 have h : ∃ r, double.mul a b = some r := by
  unfold Format.mul
  rw [r1, r2]
  exact ⟨_, rfl⟩
 obtain ⟨r, hr⟩ := h
 exact ⟨r, hr, Format.mul_lt _ hr⟩
def lstD (t : Tr) (l : Tx) : Value ⊕ Tr := match parseS (wrong l) l with
 | .error x => .inl (Go.Proofs.YtbajkglacfheiaaGreatDoor.errV x.1 x.2)
 | .ok ts => match leadT t ts 0 with
  | .inl n => .inl (trlV 4 (printS (ts.take n)))
  | .inr u => if u.srt = 5 then .inr u else .inl (trlV 5 l)
theorem lstD_err {t : Tr} {l : Tx} {x : Int × Int} (h : parseS (wrong l) l = .error x) : lstD t l = .inl (Go.Proofs.YtbajkglacfheiaaGreatDoor.errV x.1 x.2) := by
 unfold lstD
 rw [h]
theorem lstD_lost {t : Tr} {l : Tx} {ts : List Tx} {n : Nat} (h : parseS (wrong l) l = .ok ts) (h2 : leadT t ts 0 = .inl n) : lstD t l = .inl (trlV 4 (printS (ts.take n))) := by
 unfold lstD
 rw [h]
 dsimp only
 rw [h2]
theorem lstD_no {t u : Tr} {l : Tx} {ts : List Tx} (h : parseS (wrong l) l = .ok ts) (h2 : leadT t ts 0 = .inr u) (h3 : ¬ u.srt = 5) : lstD t l = .inl (trlV 5 l) := by
 unfold lstD
 rw [h]
 dsimp only
 rw [h2]
 dsimp only
 rw [if_neg h3]
theorem lstD_ok {t u : Tr} {l : Tx} {ts : List Tx} (h : parseS (wrong l) l = .ok ts) (h2 : leadT t ts 0 = .inr u) (h3 : u.srt = 5) : lstD t l = .inr u := by
 unfold lstD
 rw [h]
 dsimp only
 rw [h2]
 dsimp only
 rw [if_pos h3]
theorem lstD_form {t : Tr} {l : Tx} {ev : Value} (h : lstD t l = .inl ev) : ∃ T u, ev = .iface T u := by
 unfold lstD at h
 split at h
 ·injection h with h
  obtain ⟨T, u, hu⟩ := errV_form _ _
  exact ⟨T, u, h.symm.trans hu⟩
 ·split at h
  ·injection h with h
   exact ⟨_, _, h.symm⟩
  ·split at h
   ·cases h
   ·injection h with h
    exact ⟨_, _, h.symm⟩
def IfV (a : Value) : Prop := a = .nilIface ∨ ∃ T u, a = .iface T u
def LstP (w0 : World) (t : Tr) (l : Tx) (w : World) (e : Ending) (w' : World) : Prop :=
 (match lstD t l with
  | .inl ev => ∃ a, IfV a ∧ e = .returned (.tuple #[.agg #[a], ev])
  | .inr u => ∃ tx ux, e = .returned (.tuple #[.agg #[.iface tx ux], .nilIface]) ∧ RdA w0 u (.iface tx ux) ∧ (u.Ok ∧ u.fit = true) ∧ u.srt = 5) ∧ Below w.heap.size w w'
theorem lstP_no {w0 : World} {t : Tr} {l : Tx} {w w' : World} {ev a : Value} (h : lstD t l = .inl ev) (ha : IfV a) (hb : Below w.heap.size w w') : LstP w0 t l w (.returned (.tuple #[.agg #[a], ev])) w' := by
 unfold LstP
 rw [h]
 exact ⟨⟨a, ha, rfl⟩, hb⟩
theorem lstP_ok {w0 : World} {t u : Tr} {l : Tx} {w w' : World} {tx : TypeId} {ux : Value} (h : lstD t l = .inr u) (hr : RdA w0 u (.iface tx ux)) (ho : u.Ok ∧ u.fit = true) (hs : u.srt = 5) (hb : Below w.heap.size w w') : LstP w0 t l w (.returned (.tuple #[.agg #[.iface tx ux], .nilIface])) w' := by
 unfold LstP
 rw [h]
 exact ⟨⟨tx, ux, rfl, hr, ho, hs⟩, hb⟩
theorem blist_nil (l : Tx) (w : World) : Calls Tryz.prog 58 #[.pointer none, .string ⟨l.toArray⟩] w fun e w' => e = .returned (.tuple #[.agg #[.nilIface], errN 1]) ∧ Below w.heap.size w w' := by
 go_enter Tryz.func58, Tryz.ntmps58
 go_wp2
 refine bodyPost_ret (v := .tuple #[.agg #[.nilIface], errN 1]) ?_ rfl ⟨rfl, ?_⟩
 ·simp [results, Tryz.results58, go_sem, errN]
 ·first | exact ((Below.refl _ _).alloc (Nat.le_refl _) _).setCell (Nat.le_refl _) _ | exact (Below.refl _ _).alloc (Nat.le_refl _) _
theorem blist_any (g : Nat) (t : Tr) (v : Value) (l : Tx) (w0 w : World) (hB : Blk w0 g 123 #[v]) (h : RdA w0 t v) (hb0 : Below w0.heap.size w0 w) (ho : t.Ok) (hf : t.fit = true) (hl : l.length ≤ 4194304) (hG : Glob w) (hT : Tab w) :
  Calls Tryz.prog 58 #[.pointer (some ⟨g, 0, none⟩), .string ⟨l.toArray⟩] w (LstP w0 t l w) := by
 have q1 := err_ne_nil
 have q2 := err_ne_held
 have q3 := err_eq_nil
 have q4 := err_eq_held
 have hba : Below w.heap.size w (w.alloc (.cells #[.nilIface] 58)) := (Below.refl _ _).alloc (Nat.le_refl _) _
 have hkb : Blk (w.alloc (.cells #[.nilIface] 58)) w.heap.size 58 #[.nilIface] := Blk.new w _ _
 have HFD := Lib.hid (pfind_any g t v l w0 _ hB h (hb0.trans (hba.mono hb0.size)) ho hf hl (hG.next hba) (hT.next hba))
 have HBA := Lib.hid (And.intro hba hkb)
 have HRD := Lib.hid (And.intro h hb0)
 clear hB h hb0 ho hf hl hG hT hba hkb
 go_enter Tryz.func58, Tryz.ntmps58
 go_wp2_with fail
 ((with_reducible refine (HFD.out).mono ?_); rintro e w2 ⟨he, hb2⟩)
 have HB2 := Lib.hid (HBA.out.1.trans (hb2.mono HBA.out.1.size))
 have HK2 := Lib.hid (HBA.out.2.below hb2 HBA.out.2.lt)
 clear hb2 HFD
 cases hp : parseS (wrong l) l with
 | error x =>
  rw [hp] at he
  obtain rfl := he
  have HD := Lib.hid (lstD_err (t := t) hp)
  clear hp
  obtain ⟨T, q, hTq⟩ := errV_form x.1 x.2
  rw [hTq] at HD ⊢
  clear hTq
  obtain ⟨w3, hw3⟩ : ∃ w3, w2.alloc (.cells #[.nilIface] 58) = w3 := ⟨_, rfl⟩
  have hb3 : Below w2.heap.size w2 w3 := by rw [← hw3]; exact (Below.refl _ _).alloc (Nat.le_refl _) _
  have HBW := Lib.hid (HB2.out.trans (hb3.mono HB2.out.size))
  have HK4 := Lib.hid (HK2.out.below hb3 HK2.out.lt)
  have hB6 : Blk w3 w2.heap.size 58 #[.nilIface] := by rw [← hw3]; exact Blk.new w2 _ _
  have c6 : w3.cell? ⟨w2.heap.size, 0, none⟩ = some (.nilIface) := hB6.cell 0
  have HW3 := Lib.hid hw3
  have HB6 := Lib.hid hB6
  clear hw3 hb3 hB6
  go_upto_region 4 with fail
  rw [HW3.out]
  have z0 := HK4.out.cell 0
  simp at z0
  have r0 := HK4.out.frozen 0
  have hk4 := HK4.out.lt
  go_wp2
  have hf := (HK4.out.put 0 (.nilIface))
  have hbl := HBW.out.setCell (p := ⟨w.heap.size, 0, none⟩) (Nat.le_refl _) (.nilIface)
  generalize w3.setCell ⟨w.heap.size, 0, none⟩ (.nilIface) = wf at *
  have dd0 : wf.cell? ⟨w.heap.size, 0, none⟩ = some (.nilIface) := hf.cell 0
  refine bodyPost_ret (v := .tuple #[.agg #[.nilIface], .iface T q]) ?_ rfl (lstP_no HD.out (.inl rfl) hbl)
  simp [results, Tryz.results58, go_sem, dd0]
 | ok ts =>
  rw [hp] at he
  dsimp only at he
  cases hle : leadT t ts 0 with
  | inl n =>
   rw [hle] at he
   obtain rfl := he
   have HD := Lib.hid (lstD_lost hp hle)
   unfold trlV at HD
   clear hp hle
   obtain ⟨w3, hw3⟩ : ∃ w3, w2.alloc (.cells #[.nilIface] 58) = w3 := ⟨_, rfl⟩
   have hb3 : Below w2.heap.size w2 w3 := by rw [← hw3]; exact (Below.refl _ _).alloc (Nat.le_refl _) _
   have HBW := Lib.hid (HB2.out.trans (hb3.mono HB2.out.size))
   have HK4 := Lib.hid (HK2.out.below hb3 HK2.out.lt)
   have hB6 : Blk w3 w2.heap.size 58 #[.nilIface] := by rw [← hw3]; exact Blk.new w2 _ _
   have c6 : w3.cell? ⟨w2.heap.size, 0, none⟩ = some (.nilIface) := hB6.cell 0
   have HW3 := Lib.hid hw3
   have HB6 := Lib.hid hB6
   clear hw3 hb3 hB6
   go_upto_region 4 with fail
   rw [HW3.out]
   have z0 := HK4.out.cell 0
   simp at z0
   have r0 := HK4.out.frozen 0
   have hk4 := HK4.out.lt
   go_wp2
   have hf := (HK4.out.put 0 (.nilIface))
   have hbl := HBW.out.setCell (p := ⟨w.heap.size, 0, none⟩) (Nat.le_refl _) (.nilIface)
   generalize w3.setCell ⟨w.heap.size, 0, none⟩ (.nilIface) = wf at *
   have dd0 : wf.cell? ⟨w.heap.size, 0, none⟩ = some (.nilIface) := hf.cell 0
   refine bodyPost_ret (v := .tuple #[.agg #[.nilIface], .iface 139 (.agg #[.int .i64 4, .string ⟨(printS (ts.take n)).toArray⟩])]) ?_ rfl (lstP_no HD.out (.inl rfl) hbl)
   simp [results, Tryz.results58, go_sem, dd0]
  | inr u =>
   rw [hle] at he
   obtain ⟨tx, ux, rfl, hrd, huo⟩ := he
   have HU := Lib.hid (And.intro hrd huo)
   by_cases hs : u.srt = 5
   ·have HD := Lib.hid (lstD_ok hp hle hs)
    have HS := Lib.hid hs
    have hsi : ((u.srt : Nat) : Int) = 5 := by omega
    clear hp hle hs hrd huo
    obtain ⟨w3, hw3⟩ : ∃ w3, w2.alloc (.cells #[.iface tx ux] 58) = w3 := ⟨_, rfl⟩
    have hb3 : Below w2.heap.size w2 w3 := by rw [← hw3]; exact (Below.refl _ _).alloc (Nat.le_refl _) _
    have HBW := Lib.hid (HB2.out.trans (hb3.mono HB2.out.size))
    have HK4 := Lib.hid (HK2.out.below hb3 HK2.out.lt)
    have hB6 : Blk w3 w2.heap.size 58 #[.iface tx ux] := by rw [← hw3]; exact Blk.new w2 _ _
    have c6 : w3.cell? ⟨w2.heap.size, 0, none⟩ = some (.iface tx ux) := hB6.cell 0
    have HW3 := Lib.hid hw3
    have HB6 := Lib.hid hB6
    clear hw3 hb3 hB6
    go_upto_region 4 with fail
    rw [HW3.out]
    go_wp2_with fail
    ((with_reducible refine (sort_any (fun _ => True) u (.iface tx ux) _ (rda_below HU.out.1 (HRD.out.2.trans (HBW.out.mono HRD.out.2.size)))).mono ?_); rintro e w4 ⟨rfl, hb4⟩)
    rw [hsi]
    have HBW := Lib.hid (HBW.out.trans (hb4.mono HBW.out.size))
    have HK4 := Lib.hid (HK4.out.below hb4 HK4.out.lt)
    have c6 : w4.cell? ⟨w2.heap.size, 0, none⟩ = some (.iface tx ux) := (HB6.out.below hb4 HB6.out.lt).cell 0
    clear hb4 hsi
    have z0 := HK4.out.cell 0
    simp at z0
    have r0 := HK4.out.frozen 0
    have hk4 := HK4.out.lt
    go_wp2
    have hf := (HK4.out.put 0 (.iface tx ux))
    have hbl := HBW.out.setCell (p := ⟨w.heap.size, 0, none⟩) (Nat.le_refl _) (.iface tx ux)
    generalize w4.setCell ⟨w.heap.size, 0, none⟩ (.iface tx ux) = wf at *
    have dd0 : wf.cell? ⟨w.heap.size, 0, none⟩ = some (.iface tx ux) := hf.cell 0
    refine bodyPost_ret (v := .tuple #[.agg #[.iface tx ux], .nilIface]) ?_ rfl (lstP_ok HD.out HU.out.1 HU.out.2 HS.out hbl)
    simp [results, Tryz.results58, go_sem, dd0]
   ·have HD := Lib.hid (lstD_no hp hle hs)
    unfold trlV at HD
    have hsi : ((u.srt : Nat) : Int) ≠ 5 := by omega
    have hsb : (((u.srt : Nat) : Int) != 5) = true := by simp; omega
    clear hp hle hs hrd huo
    obtain ⟨w3, hw3⟩ : ∃ w3, w2.alloc (.cells #[.iface tx ux] 58) = w3 := ⟨_, rfl⟩
    have hb3 : Below w2.heap.size w2 w3 := by rw [← hw3]; exact (Below.refl _ _).alloc (Nat.le_refl _) _
    have HBW := Lib.hid (HB2.out.trans (hb3.mono HB2.out.size))
    have HK4 := Lib.hid (HK2.out.below hb3 HK2.out.lt)
    have hB6 : Blk w3 w2.heap.size 58 #[.iface tx ux] := by rw [← hw3]; exact Blk.new w2 _ _
    have c6 : w3.cell? ⟨w2.heap.size, 0, none⟩ = some (.iface tx ux) := hB6.cell 0
    have HW3 := Lib.hid hw3
    have HB6 := Lib.hid hB6
    clear hw3 hb3 hB6
    go_upto_region 4 with fail
    rw [HW3.out]
    go_wp2_with fail
    ((with_reducible refine (sort_any (fun _ => True) u (.iface tx ux) _ (rda_below HU.out.1 (HRD.out.2.trans (HBW.out.mono HRD.out.2.size)))).mono ?_); rintro e w4 ⟨rfl, hb4⟩)
    have HBW := Lib.hid (HBW.out.trans (hb4.mono HBW.out.size))
    have HK4 := Lib.hid (HK4.out.below hb4 HK4.out.lt)
    have c6 : w4.cell? ⟨w2.heap.size, 0, none⟩ = some (.iface tx ux) := (HB6.out.below hb4 HB6.out.lt).cell 0
    clear hb4
    go_wp2_with fail
    ((with_reducible refine (btrail_any 5 l _).mono ?_); rintro e w5 ⟨rfl, rfl⟩)
    unfold trlV
    have z0 := HK4.out.cell 0
    simp at z0
    have r0 := HK4.out.frozen 0
    have hk4 := HK4.out.lt
    go_wp2
    have hf := (HK4.out.put 0 (.iface tx ux))
    have hbl := HBW.out.setCell (p := ⟨w.heap.size, 0, none⟩) (Nat.le_refl _) (.iface tx ux)
    generalize w4.setCell ⟨w.heap.size, 0, none⟩ (.iface tx ux) = wf at *
    have dd0 : wf.cell? ⟨w.heap.size, 0, none⟩ = some (.iface tx ux) := hf.cell 0
    refine bodyPost_ret (v := .tuple #[.agg #[.iface tx ux], .iface 139 (.agg #[.int .i64 5, .string ⟨l.toArray⟩])]) ?_ rfl (lstP_no HD.out (.inr ⟨_, _, rfl⟩) hbl)
    simp [results, Tryz.results58, go_sem, dd0]
end Nd
end Go.Proofs.YtbajkglacfheiaaGreatDoor
namespace Go.Proofs.YtbajkglacfheiaaGreatDoor
open Go.RowKit Mem Utf Ref3 Idx Tok TokC Ieee
namespace Nd
def sumD : List Nat → Nat → Nat → Nat ⊕ Nat
 | [], _, s => .inr s
 | x :: r, i, s => match double.add s x with
  | some y => if finB y = true then sumD r (i + 1) y else .inl i
  | none => .inl i
theorem sumD_yes {l : List Nat} {i s y : Nat} (h : i < l.length) (ha : double.add s l[i] = some y) (hf : finB y = true) : sumD (l.drop i) i s = sumD (l.drop (i + 1)) (i + 1) y := by
 rw [List.drop_eq_getElem_cons h, sumD, ha]
 dsimp only
 rw [if_pos hf]
theorem sumD_no {l : List Nat} {i s y : Nat} (h : i < l.length) (ha : double.add s l[i] = some y) (hf : finB y = false) : sumD (l.drop i) i s = .inl i := by
 rw [List.drop_eq_getElem_cons h, sumD, ha]
 dsimp only
 rw [if_neg (by rw [hf]; simp)]
theorem sumD_end (l : List Nat) (s : Nat) : sumD (l.drop l.length) l.length s = .inr s := by
 rw [List.drop_length]
 rfl
def totD (u : Tr) (l : Tx) : Value ⊕ Nat := match badK u.kids 0 with
 | some i => .inl (trlV 5 (atP l i))
 | none => match sumD (u.kids.map Tr.nb) 0 0 with
  | .inl i => .inl (trlV 161 (atP l i))
  | .inr s => .inr s
theorem totD_bad {u : Tr} {l : Tx} {i : Nat} (h : badK u.kids 0 = some i) : totD u l = .inl (trlV 5 (atP l i)) := by
 unfold totD
 rw [h]
theorem totD_no {u : Tr} {l : Tx} {i : Nat} (h : badK u.kids 0 = none) (h2 : sumD (u.kids.map Tr.nb) 0 0 = .inl i) : totD u l = .inl (trlV 161 (atP l i)) := by
 unfold totD
 rw [h]
 dsimp only
 rw [h2]
theorem totD_ok {u : Tr} {l : Tx} {s : Nat} (h : badK u.kids 0 = none) (h2 : sumD (u.kids.map Tr.nb) 0 0 = .inr s) : totD u l = .inr s := by
 unfold totD
 rw [h]
 dsimp only
 rw [h2]
def TotP (t : Tr) (l : Tx) (w : World) (e : Ending) (w' : World) : Prop :=
 (match lstD t l with
  | .inl ev => e = .returned (.tuple #[.float .f64 0, ev])
  | .inr u => match totD u l with
   | .inl ev => e = .returned (.tuple #[.float .f64 0, ev])
   | .inr s => e = .returned (.tuple #[.float .f64 s, .nilIface])) ∧ Below w.heap.size w w'
theorem totP_lst {t : Tr} {l : Tx} {w w' : World} {ev : Value} (h : lstD t l = .inl ev) (hb : Below w.heap.size w w') : TotP t l w (.returned (.tuple #[.float .f64 0, ev])) w' := by
 unfold TotP
 rw [h]
 exact ⟨rfl, hb⟩
theorem totP_no {t u : Tr} {l : Tx} {w w' : World} {ev : Value} (h : lstD t l = .inr u) (h2 : totD u l = .inl ev) (hb : Below w.heap.size w w') : TotP t l w (.returned (.tuple #[.float .f64 0, ev])) w' := by
 unfold TotP
 rw [h]
 dsimp only
 rw [h2]
 exact ⟨rfl, hb⟩
theorem totP_ok {t u : Tr} {l : Tx} {w w' : World} {s : Nat} (h : lstD t l = .inr u) (h2 : totD u l = .inr s) (hb : Below w.heap.size w w') : TotP t l w (.returned (.tuple #[.float .f64 s, .nilIface])) w' := by
 unfold TotP
 rw [h]
 dsimp only
 rw [h2]
 exact ⟨rfl, hb⟩
theorem kids_fin {u : Tr} (ho : u.Ok) {k : Nat} (hk : k < u.kids.length) : finB u.kids[k].nb = true ∧ u.kids[k].nb < 18446744073709551616 := nb_fin ((okl_iff _).1 (kids_ok ho) _ (List.getElem_mem hk)).1
theorem ta_floats (v : Value) (W : World) : (Instr.typeAssert (.iface 165 v) 29 165 true).run Tryz.prog W = .ok (.tuple #[v, .bool true]) W := by kernel_rfl
theorem btotal_nil (l : Tx) (w : World) : Calls Tryz.prog 26 #[.pointer none, .string ⟨l.toArray⟩] w fun e w' => e = .returned (.tuple #[.float .f64 0, errN 1]) ∧ Below w.heap.size w w' := by
 have q2 := err_ne_held
 go_enter Tryz.func26, Tryz.ntmps26
 go_wp2_with fail
 ((with_reducible refine (blist_nil l _).mono ?_); rintro e w2 ⟨rfl, hb2⟩)
 have HB := Lib.hid (hb2.alloc hb2.size (.cells #[.nilIface] 58))
 clear hb2
 unfold errN
 go_wp2
 go_ret2
 exact ⟨rfl, HB.out⟩
theorem btotal_any (g : Nat) (t : Tr) (v : Value) (l : Tx) (w0 w : World) (hB : Blk w0 g 123 #[v]) (h : RdA w0 t v) (hb0 : Below w0.heap.size w0 w) (ho : t.Ok) (hf : t.fit = true) (hl : l.length ≤ 4194304) (hG : Glob w) (hT : Tab w) :
  Calls Tryz.prog 26 #[.pointer (some ⟨g, 0, none⟩), .string ⟨l.toArray⟩] w (TotP t l w) := by
 have q1 := err_ne_nil
 have q2 := err_ne_held
 have q5 := ta_floats
 have HLS := Lib.hid (blist_any g t v l w0 w hB h hb0 ho hf hl hG hT)
 have HL := Lib.hid hl
 have HT := Lib.hid hT
 have HB0 := Lib.hid hb0
 clear hB h hb0 ho hf hl hG hT
 go_enter Tryz.func26, Tryz.ntmps26
 go_wp2_with fail
 ((with_reducible refine (HLS.out).mono ?_); rintro e w2 ⟨he, hb2⟩)
 have HB2 := Lib.hid hb2
 cases hd : lstD t l with
 | inl ev =>
  rw [hd] at he
  obtain ⟨a, ha, rfl⟩ := he
  have HE := Lib.hid (totP_lst hd (hb2.alloc hb2.size (.cells #[a] 58)))
  obtain ⟨TE, UE, rfl⟩ := lstD_form hd
  clear hd hb2 HLS
  rcases ha with rfl | ⟨T0, u0, rfl⟩
  ·go_wp2
   go_ret2
   exact HE.out
  ·go_wp2
   go_ret2
   exact HE.out
 | inr u =>
  rw [hd] at he
  obtain ⟨tx, ux, rfl, hrd, huo, hs⟩ := he
  have HD := Lib.hid hd
  have HU := Lib.hid huo
  have HS := Lib.hid hs
  obtain ⟨w3, hw3⟩ : ∃ w3, w2.alloc (.cells #[.iface tx ux] 58) = w3 := ⟨_, rfl⟩
  have hb3 : Below w.heap.size w w3 := by rw [← hw3]; exact hb2.alloc hb2.size _
  have c6 : w3.cell? ⟨w2.heap.size, 0, none⟩ = some (.iface tx ux) := by rw [← hw3]; exact (Blk.new w2 _ _).cell 0
  have HB3 := Lib.hid hb3
  have HBL := Lib.hid (bound_19 (FloR l u) (.iface tx ux) l w3 (fun W hb => blists_19 u (.iface tx ux) l HL.out W (rda_below hrd (HB0.out.trans ((hb3.trans (hb.mono hb3.size)).mono HB0.out.size))) huo.2 (HT.out.next (hb3.trans (hb.mono hb3.size)))) (fun W e w' => floR_two))
  have HW3 := Lib.hid hw3
  clear hd hb2 HLS hrd huo hs hw3 hb3
  go_upto_region 2 with fail
  rw [HW3.out]
  go_wp2_with fail
  ((with_reducible refine (HBL.out).mono ?_); rintro e w4 ⟨W3, hbW, he, hb4'⟩)
  have hb4 := HB3.out.trans ((hbW.trans (hb4'.mono hbW.size)).mono HB3.out.size)
  have HB4 := Lib.hid hb4
  rw [if_pos HS.out] at he
  cases hbk : badK u.kids 0 with
  | some i =>
   rw [hbk] at he
   obtain rfl := he
   have HE := Lib.hid (totP_no HD.out (totD_bad hbk) hb4)
   unfold trlV at HE ⊢
   clear hbk hb4 hb4' hbW HBL c6
   go_wp2
   go_ret2
   exact HE.out
  | none =>
   rw [hbk] at he
   obtain ⟨fv, rfl, hown⟩ := he
   obtain ⟨A, c, rfl⟩ := own_slice hown
   have HBK := Lib.hid hbk
   have HOW := Lib.hid hown
   have hkl := kids_len (fit_le HU.out.2).1
   have HKL := Lib.hid hkl
   clear hbk hb4 hb4' hbW HBL c6 hown
   go_wp2_with fail
   go_loopw [9, 40] (fun c9 c40 wr => ∃ (k s : Nat), k ≤ u.kids.length ∧ c9 = .float .f64 s ∧ c40 = .int .i64 (k : Int) ∧ Hid ((finB s = true ∧ s < 18446744073709551616) ∧ sumD (u.kids.map Tr.nb) 0 0 = sumD ((u.kids.map Tr.nb).drop k) k s ∧ Below w4.heap.size w4 wr)) (fun _ c40 _ => u.kids.length - (intOf c40).toNat)
   case atStart => exact ⟨0, 0, Nat.zero_le _, rfl, rfl, Lib.hid ⟨⟨by decide, by decide⟩, rfl, Below.refl _ _⟩⟩
   case round =>
    obtain ⟨k, s, hk, rfl, rfl, HI⟩ := hrel
    by_cases hlt : k < u.kids.length
    ·have hlti : (k : Int) < (u.kids.length : Int) := by omega
     have HLT := Lib.hid hlt
     obtain ⟨gf, rfl, _, hc4, hcu⟩ := own_someB HOW.out (by omega)
     have hcx := hcu k (flV u.kids[k]) (by rw [List.getElem?_map, List.getElem?_eq_getElem hlt]; rfl)
     have cx : wr.cell? ⟨gf, k, none⟩ = some (.float .f64 u.kids[k].nb) := (HI.out.2.2.cell (World.block_lt_of_cell? _ _ hcx)).trans hcx
     have hmx : (u.kids.map Tr.nb)[k]'(by simpa using hlt) = u.kids[k].nb := List.getElem_map _
     obtain ⟨x, hx, hxf, hxl⟩ : ∃ x, u.kids[k].nb = x ∧ finB x = true ∧ x < 18446744073709551616 := ⟨_, rfl, kids_fin HU.out.1 hlt⟩
     have hml : (u.kids.map Tr.nb)[k]'(by simpa using hlt) = x := hmx.trans hx
     rw [hx] at cx
     obtain ⟨y, hy, hyl⟩ := add_some HI.out.1.2 hxl HI.out.1.1 hxf
     have hya := fun W : World => run_float_arith (P := Tryz.prog) W .add 61 .f64 s x y hy
     have HBF := Lib.hid (bfin_any y hyl)
     cases hfy : finB y with
     | true =>
      have HN : Hid ((finB y = true ∧ y < 18446744073709551616) ∧ sumD (u.kids.map Tr.nb) 0 0 = sumD ((u.kids.map Tr.nb).drop (k + 1)) (k + 1) y) := Lib.hid ⟨⟨hfy, hyl⟩, HI.out.2.1.trans (sumD_yes (by simpa using hlt) (by rw [hml]; exact hy) hfy)⟩
      rw [hfy] at HBF
      clear hcu hcx hxf hxl hml hmx hx hy hyl hfy hk
      go_wp2_with fail
      ((with_reducible refine (HBF.out _).mono ?_); rintro e w5 ⟨rfl, rfl⟩)
      go_wp2
      go_roundw
      case rel => exact ⟨k + 1, y, HLT.out, rfl, by go_num, Lib.hid ⟨HN.out.1, HN.out.2, HI.out.2.2⟩⟩
      case measure => have := HLT.out; simp [intOf]; omega
     | false =>
      have HSU := Lib.hid (HI.out.2.1.trans (sumD_no (by simpa using hlt) (by rw [hml]; exact hy) hfy))
      rw [hfy] at HBF
      have HAT := Lib.hid (bat_any l (by have := HL.out; omega) k (by have := HKL.out; omega) wr (HT.out.next (HB4.out.trans (HI.out.2.2.mono HB4.out.size))))
      clear hcu hcx hxf hxl hml hmx hx hy hyl hfy hk
      go_wp2_with fail
      ((with_reducible refine (HBF.out _).mono ?_); rintro e w5 ⟨rfl, rfl⟩)
      go_wp2_with fail
      ((with_reducible refine (HAT.out).mono ?_); rintro e w6 ⟨rfl, hb6⟩)
      have hbe := HI.out.2.2.trans (hb6.mono HI.out.2.2.size)
      have HE := Lib.hid (totP_no HD.out (totD_no HBK.out HSU.out) (HB4.out.trans (hbe.mono HB4.out.size)))
      clear hb6 hbe
      go_wp2_with fail
      ((with_reducible refine (btrail_any 161 (atP l k) _).mono ?_); rintro e w7 ⟨rfl, rfl⟩)
      unfold trlV at HE ⊢
      go_wp2
      go_ret2
      exact HE.out
    ·obtain rfl : k = u.kids.length := by omega
     have HE := Lib.hid (totP_ok (s := s) HD.out (totD_ok HBK.out (by
      have h1 := HI.out.2.1
      have h2 := sumD_end (u.kids.map Tr.nb) s
      rw [List.length_map] at h2
      rw [h1, h2])) (HB4.out.trans (HI.out.2.2.mono HB4.out.size)))
     go_wp2
     go_ret2
     exact HE.out
end Nd
end Go.Proofs.YtbajkglacfheiaaGreatDoor
