/-
  Walks of package pointer: Find and Look.
-/
import Derived.Test.YtfhchnkoggdilaaGreatDoorPkD
import Derived.Test.YtfhchnkoggdilaaGreatDoorPvB
import Derived.Test.YtfhchnkoggdilaaGreatDoorPvC
namespace Go.Proofs.YtfhchnkoggdilaaGreatDoor
open Go.RowKit Mem Utf Ref3 Idx Tok TokC
set_option linter.unusedVariables false
namespace Nd
theorem escs_long : ∀ t : List UInt8, t.length ≤ (escs t).length
  | [] => Nat.le_refl _
  | c :: t => by
    rw [escs_cons, List.length_append, List.length_cons]
    have := escs_long t
    have : 1 ≤ (esc c).length := by
      unfold esc
      split
      · simp
      · split <;> simp
    omega
theorem bulk_printed : ∀ ts : List (List UInt8), bulkS ts ≤ (printS ts).length
  | [] => Nat.le_refl _
  | t :: ts => by
    rw [print_cons, List.length_cons, List.length_append, bulkS]
    have := bulk_printed ts
    have := escs_long t
    omega
theorem rd_take {w : World} {A : Option Addr} {n c : Nat} {xs : List (List UInt8)} (h : Rd w (.slice A n c) xs) {k : Nat} (hk : k ≤ xs.length) (c' : Nat) : Rd w (.slice A k c') (xs.take k) := by
  obtain ⟨A, c, e, hc⟩ := h
  injection e with e1 _ _
  subst e1
  have hl : (xs.take k).length = k := by rw [List.length_take]; omega
  refine ⟨_, c', by rw [hl], fun j hj => ?_⟩
  obtain ⟨g, o, rfl, hl, hcell⟩ := hc j (by omega)
  exact ⟨g, o, rfl, hl, by rw [List.getElem_take]; exact hcell⟩
theorem own_capP {w : World} {base n : Nat} {e : TypeId} {A : Option Addr} {m c : Nat} {xs : List Value} (h : w.ownsRow base e 1 (.slice A m c) n xs) : m ≤ c := by
  rcases h.2 with ⟨h', h0⟩ | ⟨g, cap, cur, h', _, _, hn, _⟩
  · injection h' with _ h1 h2
    omega
  · injection h' with _ h1 h2
    omega
/-- tokens that came of a text -/
theorem toks_fine {l : List UInt8} {ts : List (List UInt8)} (h : parseS (wrong l) l = .ok ts) : (∀ x ∈ ts, rightB x = true ∧ x.length ≤ l.length) ∧ ts.length ≤ 65536 ∧ bulkS ts ≤ l.length := by
  obtain ⟨h1, h2, h3⟩ := parse_print h
  have hb := bulk_printed ts
  rw [h2] at hb
  refine ⟨fun x hx => ⟨(right_wrong x).trans (decide_eq_true ((parse_back h).2 x hx)), ?_⟩, h3, hb⟩
  obtain ⟨k, hk, rfl⟩ := List.getElem_of_mem hx
  have := bulk_at ts k hk
  omega
theorem print_front {l : List UInt8} {ts : List (List UInt8)} (h : parseS (wrong l) l = .ok ts) (n : Nat) : printR wrong (ts.take n) = .ok (printS (ts.take n)) ∧ parseS (wrong (printS (ts.take n))) (printS (ts.take n)) = .ok (ts.take n) := by
  have hr : ∀ t ∈ ts.take n, (wrong t).1 = 0 := fun t ht => (parse_back h).2 t (List.mem_of_mem_take ht)
  have hl : (ts.take n).length ≤ 65536 := by rw [List.length_take]; have := (toks_fine h).2.1; omega
  refine ⟨?_, parse_of_print ((right_print _).2 hr) hl⟩
  unfold printR
  rw [if_neg (by omega), (badI_none _ 0).2 hr]
theorem front_len {l : List UInt8} {ts : List (List UInt8)} (h : parseS (wrong l) l = .ok ts) (n : Nat) : (printS (ts.take n)).length ≤ 2 * l.length := by
  have h1 := print_le (ts.take n)
  have h2 := bulk_le ts n
  have h3 := (toks_fine h).2.2
  omega
/-- what Find answers -/
def FindP (w0 : World) (t : Tr) (l : List UInt8) (w : World) (e : Ending) (w' : World) : Prop :=
  (match parseS (wrong l) l with
    | .error x => e = .returned (.tuple #[.agg #[.nilIface], Go.Proofs.YtfhchnkoggdilaaGreatDoor.errV x.1 x.2])
    | .ok ts => match leadT t ts 0 with
      | .inl n => e = .returned (.tuple #[.agg #[.nilIface], .iface 91 (.agg #[.int .i64 4, .string ⟨(printS (ts.take n)).toArray⟩])])
      | .inr u => ∃ tx ux, e = .returned (.tuple #[.agg #[.iface tx ux], .nilIface]) ∧ RdA w0 u (.iface tx ux) ∧ u.Ok ∧ u.fit = true) ∧ Below w.heap.size w w'
/-- what Look answers -/
def LookP (w0 : World) (t : Tr) (l : List UInt8) (w : World) (e : Ending) (w' : World) : Prop :=
  (match parseS (wrong l) l with
    | .error x => e = .returned (.iface 56 (.pointer none))
    | .ok ts => match leadT t ts 0 with
      | .inl n => ∃ g, e = .returned (.iface 56 (.pointer (some ⟨g, 0, none⟩))) ∧ Blk w' g 63 #[.int .i64 n]
      | .inr u => ∃ x, e = .returned x ∧ TdT (fun _ => True) w' u x) ∧ Below w.heap.size w w'
theorem findP_err {w0 : World} {t : Tr} {l : List UInt8} {w w' : World} {x : Int × Int} (h : parseS (wrong l) l = .error x) (hb : Below w.heap.size w w') : FindP w0 t l w (.returned (.tuple #[.agg #[.nilIface], Go.Proofs.YtfhchnkoggdilaaGreatDoor.errV x.1 x.2])) w' := by
  unfold FindP
  rw [h]
  exact ⟨rfl, hb⟩
theorem findP_none {w0 : World} {t : Tr} {l : List UInt8} {w w' : World} {ts : List (List UInt8)} {n : Nat} (h : parseS (wrong l) l = .ok ts) (h2 : leadT t ts 0 = .inl n) (hb : Below w.heap.size w w') : FindP w0 t l w (.returned (.tuple #[.agg #[.nilIface], .iface 91 (.agg #[.int .i64 4, .string ⟨(printS (ts.take n)).toArray⟩])])) w' := by
  unfold FindP
  rw [h]
  dsimp only
  rw [h2]
  exact ⟨rfl, hb⟩
theorem findP_some {w0 : World} {t u : Tr} {l : List UInt8} {w w' : World} {ts : List (List UInt8)} {tx : TypeId} {ux : Value} (h : parseS (wrong l) l = .ok ts) (h2 : leadT t ts 0 = .inr u) (hr : RdA w0 u (.iface tx ux)) (ho : u.Ok ∧ u.fit = true) (hb : Below w.heap.size w w') : FindP w0 t l w (.returned (.tuple #[.agg #[.iface tx ux], .nilIface])) w' := by
  unfold FindP
  rw [h]
  dsimp only
  rw [h2]
  exact ⟨⟨tx, ux, rfl, hr, ho⟩, hb⟩
theorem lookP_err {w0 : World} {t : Tr} {l : List UInt8} {w w' : World} {x : Int × Int} (h : parseS (wrong l) l = .error x) (hb : Below w.heap.size w w') : LookP w0 t l w (.returned (.iface 56 (.pointer none))) w' := by
  unfold LookP
  rw [h]
  exact ⟨rfl, hb⟩
theorem lookP_none {w0 : World} {t : Tr} {l : List UInt8} {w w' : World} {ts : List (List UInt8)} {n g : Nat} (h : parseS (wrong l) l = .ok ts) (h2 : leadT t ts 0 = .inl n) (hB : Blk w' g 63 #[.int .i64 n]) (hb : Below w.heap.size w w') : LookP w0 t l w (.returned (.iface 56 (.pointer (some ⟨g, 0, none⟩)))) w' := by
  unfold LookP
  rw [h]
  dsimp only
  rw [h2]
  exact ⟨⟨g, rfl, hB⟩, hb⟩
theorem lookP_some {w0 : World} {t u : Tr} {l : List UInt8} {w w' : World} {ts : List (List UInt8)} {x : Value} (h : parseS (wrong l) l = .ok ts) (h2 : leadT t ts 0 = .inr u) (hx : TdT (fun _ => True) w' u x) (hb : Below w.heap.size w w') : LookP w0 t l w (.returned x) w' := by
  unfold LookP
  rw [h]
  dsimp only
  rw [h2]
  exact ⟨⟨x, rfl, hx⟩, hb⟩
theorem errV_form (n a : Int) : ∃ T u, Go.Proofs.YtfhchnkoggdilaaGreatDoor.errV n a = .iface T u := by
  unfold Go.Proofs.YtfhchnkoggdilaaGreatDoor.errV
  split
  · exact ⟨_, _, rfl⟩
  · exact ⟨_, _, rfl⟩
theorem lead_of_toks {t : Tr} {ts : List Tx} {n : Nat} (h : leadT t ts 0 = .inl n) : n < ts.length := by
  have := lead_lt ts t 0 n h
  omega
set_option maxRecDepth 100000 in
set_option maxHeartbeats 8000000 in
theorem pfind_any (g : Nat) (t : Tr) (v : Value) (l : List UInt8) (w0 w : World) (hB : Blk w0 g 80 #[v]) (h : RdA w0 t v) (hb0 : Below w0.heap.size w0 w) (ho : t.Ok) (hf : t.fit = true) (hl : l.length ≤ 4194304) (hG : Glob w) (hT : Tab w) :
    Calls Tryz.prog 7 #[.pointer (some ⟨g, 0, none⟩), .string ⟨l.toArray⟩] w (FindP w0 t l w) := by
  have hba : Below w.heap.size w (w.alloc (.cells #[.nilIface] 38)) := (Below.refl _ _).alloc (Nat.le_refl _) _
  have HB4 : Hid (Blk (w.alloc (.cells #[.nilIface] 38)) w.heap.size 38 #[.nilIface]) := Lib.hid (Blk.new w 38 #[.nilIface])
  have HBA := Lib.hid hba
  have HB := Lib.hid hB
  have HR := Lib.hid h
  have HB0 := Lib.hid hb0
  have HO := Lib.hid (And.intro ho hf)
  have HL := Lib.hid hl
  have HG := Lib.hid hG
  have HT := Lib.hid hT
  have q1 := err_ne_nil
  have q2 := err_ne_held
  have hsz0 : (ByteArray.mk l.toArray).size ≤ 2147483648 := by show l.toArray.size ≤ _; rw [List.size_toArray]; omega
  clear hB h hb0 ho hf hl hG hT hba
  go_enter Tryz.func7, Tryz.ntmps7
  go_wp2_with fail
  ((with_reducible refine (parse_any ⟨l.toArray⟩ hsz0 _ (HG.out.next HBA.out)).mono ?_); rintro e w1 ⟨hb1, he, hok⟩)
  have he' : ∀ x, parseS (wrong l) l = .error x → e = .returned (.tuple #[.slice none 0 0, Go.Proofs.YtfhchnkoggdilaaGreatDoor.errV x.1 x.2]) := he
  have hok' : ∀ ts, parseS (wrong l) l = .ok ts → ∃ v, e = .returned (.tuple #[v, .nilIface]) ∧ w1.ownsRow _ 9 1 v ts.length (ts.map strV) := hok
  clear he hok
  have hB41 := HB4.out.below hb1 HB4.out.lt
  have hbw1 := HBA.out.trans (hb1.mono HBA.out.size)
  cases hp : parseS (wrong l) l with
  | error x =>
    obtain rfl := he' x hp
    clear he' hok' hb1
    have HP := Lib.hid hp
    clear hp
    have HF := Lib.hid (findP_err (w0 := w0) (t := t) HP.out (below_put (u := .nilIface) (i := 0) hbw1 (Nat.le_refl w.heap.size)))
    obtain ⟨T, u, hTu⟩ := errV_form x.1 x.2
    rw [hTu] at HF ⊢
    clear hTu
    have c4 := hB41.cell 0
    have f4 := hB41.frozen 0
    have d4 := (hB41.put 0 .nilIface).cell 0
    simp at c4 d4
    clear hB41 hbw1
    go_wp2
    refine bodyPost_ret (v := .tuple #[.agg #[.nilIface], .iface T u]) ?_ rfl HF.out
    simp [results, Tryz.results7, go_sem, d4]
  | ok ts =>
    obtain ⟨tv, rfl, hown⟩ := hok' ts hp
    clear he' hok' hb1
    obtain ⟨A, c, rfl⟩ := own_slice hown
    have hrd : Rd w1 (.slice A ts.length c) ts := Rd.of_own hown
    have htf := toks_fine hp
    have HP := Lib.hid hp
    have HTF := Lib.hid htf
    have HRD := Lib.hid hrd
    have HOWN := Lib.hid hown
    have HB41 := Lib.hid hB41
    have HBW1 := Lib.hid hbw1
    have HLD := Lib.hid (lead_any g t v A c ts w0 w1 HB.out HR.out (HB0.out.trans (hbw1.mono HB0.out.size)) HO.out.1 HO.out.2 hrd (fun x hx => ⟨(htf.1 x hx).1, by have := (htf.1 x hx).2; have := HL.out; omega⟩) htf.2.1 (HT.out.next hbw1))
    have hn := htf.2.1
    clear hp hown htf hrd hB41 hbw1
    go_wp2_with fail
    ((with_reducible refine HLD.out.mono ?_); rintro e w2 ⟨he, hb2⟩)
    have HB42 := Lib.hid (HB41.out.below hb2 HB41.out.lt)
    have HBW2 := Lib.hid (HBW1.out.trans (hb2.mono HBW1.out.size))
    have HRD2 := Lib.hid (HRD.out.below hb2)
    have hs2 := hb2.size
    clear hb2 HLD
    cases hle : leadT t ts 0 with
    | inl n =>
      rw [hle] at he
      obtain rfl := he
      have hnl := lead_of_toks hle
      have HLE := Lib.hid hle
      have hnc : ts.length ≤ c := own_capP HOWN.out
      have hba8 : Below w2.heap.size w2 (w2.alloc (.cells #[.nilIface] 38)) := (Below.refl _ _).alloc (Nat.le_refl _) _
      have HPR := Lib.hid (print_front HP.out n)
      have HB43 : Hid (Blk (w2.alloc (.cells #[.nilIface] 38)) w.heap.size 38 #[.nilIface]) := Lib.hid (HB42.out.alloc _)
      have HBW3 := Lib.hid (HBW2.out.trans (hba8.mono HBW2.out.size))
      have HPA := Lib.hid (print_any (.slice A n c) (ts.take n) (w2.alloc (.cells #[.nilIface] 38)) (rd_take (HRD2.out.below hba8) (by omega) c) (by have := bulk_le ts n; have := HTF.out.2.2; have := HL.out; omega) (HG.out.next HBW3.out))
      have hnt : (n : Int) < (ts.length : Int) := by omega
      have hnc2 : (n : Int) ≤ (c : Int) := by omega
      have hnc3 : n ≤ c := by omega
      clear hle hba8 hnc
      go_wp2_with fail
      ((with_reducible refine HPA.out.mono ?_); rintro e w3 ⟨hb3, _, hpo⟩)
      obtain rfl := hpo _ HPR.out.1
      have hB44 := HB43.out.below hb3 HB43.out.lt
      have HBW4 := HBW3.out.trans (hb3.mono HBW3.out.size)
      have c4 := hB44.cell 0
      have f4 := hB44.frozen 0
      have d4 := (hB44.put 0 .nilIface).cell 0
      have hs4 := hB44.lt
      have HF := Lib.hid (findP_none (w0 := w0) HP.out HLE.out (below_put (u := .nilIface) (i := 0) HBW4 (Nat.le_refl w.heap.size)))
      simp at c4 d4
      clear hB44 hb3 hpo HBW4 HPA
      go_wp2
      refine bodyPost_ret (v := .tuple #[.agg #[.nilIface], .iface 91 (.agg #[.int .i64 4, .string ⟨(printS (ts.take n)).toArray⟩])]) ?_ rfl HF.out
      simp [results, Tryz.results7, go_sem, d4]
    | inr u =>
      rw [hle] at he
      obtain ⟨tx, ux, rfl, hrd, huo⟩ := he
      have HLE := Lib.hid hle
      have hs4 := HB42.out.lt
      have hB43 := (HB42.out.put 0 (.iface tx ux)).alloc (.cells #[.iface tx ux] 38)
      have c4 := HB42.out.cell 0
      have f4 := HB42.out.frozen 0
      have d4 := hB43.cell 0
      have HF := Lib.hid (findP_some (w0 := w0) HP.out HLE.out hrd huo ((below_put (u := .iface tx ux) (i := 0) HBW2.out (Nat.le_refl w.heap.size)).alloc (by have := HBW2.out.size; simp; omega) (.cells #[.iface tx ux] 38)))
      simp at c4 d4
      clear hle hB43 hrd huo
      go_wp2
      refine bodyPost_ret (v := .tuple #[.agg #[.iface tx ux], .nilIface]) ?_ rfl HF.out
      simp [results, Tryz.results7, go_sem, d4]
end Nd
end Go.Proofs.YtfhchnkoggdilaaGreatDoor
