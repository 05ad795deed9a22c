/-
  What bound and Bind may answer at each kind.
  Walk of package pointer: Down.
  Walks of package bind: may, field.
  Walk of package bind: Fields over one field.
-/
import Derived.Test.YtbajkglacfheiaaGreatDoorPA23
import Derived.Test.YtbajkglacfheiaaGreatDoorPA21
import Derived.Test.YtbajkglacfheiaaGreatDoorPA19
import Derived.Test.YtbajkglacfheiaaGreatDoorPA20
import Derived.Test.YtbajkglacfheiaaGreatDoorPA10
import Derived.Test.YtbajkglacfheiaaGreatDoorPA12
set_option linter.unusedVariables false
set_option linter.unusedSimpArgs false
set_option maxRecDepth 100000
set_option maxHeartbeats 16000000
namespace Go.Proofs.YtbajkglacfheiaaGreatDoor
open Go.RowKit Mem Utf Ref3 Idx Tok TokC Ieee
namespace Nd
def tyK : Nat → TypeId
 | 1 => 155
 | 2 => 156
 | 3 => 257
 | 4 => 127
 | 5 => 258
 | 6 => 259
 | 7 => 260
 | 8 => 261
 | 9 => 262
 | 10 => 263
 | 11 => 158
 | 12 => 101
 | 13 => 161
 | 14 => 107
 | 15 => 34
 | 16 => 37
 | 17 => 40
 | 18 => 163
 | _ => 165
def rK (k : Nat) (u : Tr) (x : Value) : Prop := (3 ≤ k → k ≤ 10 → u.isNb = true ∧ ∃ z, intV k z = .iface (tyK k) x ∧ intD k u.nb = .inr z) ∧ (k = 12 → x = .float .f64 u.nb ∧ u.isNb = true) ∧ (k = 1 → x = .agg #[])
theorem wk_weak {T : TypeId} {R R' : Value → Prop} {w w' : World} {e : Ending} (h : WkP T R w e w') (hr : ∀ x, R x → R' x) : WkP T R' w e w' :=
 ⟨h.1.imp id fun ⟨x, h1, h2⟩ => ⟨x, h1, hr x h2⟩, h.2⟩
theorem later_wk {T : TypeId} {R : Value → Prop} {w w' : World} {e : Ending} (h : Later (WkP T R) w e w') : WkP T R w e w' := by
 obtain ⟨W, hb, h⟩ := h
 exact ⟨h.1, hb.trans (h.2.mono hb.size)⟩
theorem rK_any {k : Nat} {u : Tr} {x : Value} (h1 : ¬ (3 ≤ k ∧ k ≤ 10)) (h2 : k ≠ 12) (h3 : k ≠ 1 := by omega) : rK k u x := ⟨fun h3 h4 => absurd ⟨h3, h4⟩ h1, fun h => absurd h h2, fun h => absurd h h3⟩
theorem intV_ty (k : Nat) (h3 : 3 ≤ k) (h10 : k ≤ 10) (z : Int) : ∃ x, intV k z = .iface (tyK k) x := by
 rcases (by omega : k = 3 ∨ k = 4 ∨ k = 5 ∨ k = 6 ∨ k = 7 ∨ k = 8 ∨ k = 9 ∨ k = 10) with rfl | rfl | rfl | rfl | rfl | rfl | rfl | rfl
 all_goals exact ⟨_, rfl⟩
theorem whole_wk {k : Nat} (h3 : 3 ≤ k) (h10 : k ≤ 10) {p : Tx} {u : Tr} {w w' : World} {e : Ending} (h : WholeR k p u w e w') : WkP (tyK k) (rK k u) w e w' := by
 unfold WholeR at h
 split at h
 ·rename_i hnb
  unfold BwP at h
  obtain ⟨h, hb⟩ := h
  split at h
  ·exact ⟨.inl ⟨_, _, h⟩, hb⟩
  ·rename_i z hz
   obtain ⟨x, hx⟩ := intV_ty k h3 h10 z
   rw [hx] at h
   exact ⟨.inr ⟨x, h, fun _ _ => ⟨hnb, z, hx, hz⟩, (fun he => by omega), (fun he => by omega)⟩, hb⟩
 ·exact ⟨.inl ⟨_, _, h.1⟩, h.2⟩
theorem text_wk {k : Nat} (h15 : 15 ≤ k) (h17 : k ≤ 17) {p : Tx} {u : Tr} {w w' : World} {e : Ending} (h : TextR k p u w e w') : WkP (tyK k) (rK k u) w e w' := by
 unfold TextR at h
 split at h
 ·unfold TxtP at h
  obtain ⟨h, hb⟩ := h
  refine ⟨.inr ?_, hb⟩
  rcases (by omega : k = 15 ∨ k = 16 ∨ k = 17) with rfl | rfl | rfl
  ·rw [if_pos rfl] at h
   exact ⟨_, h, rK_any (by omega) (by omega)⟩
  ·rw [if_neg (by omega), if_pos rfl] at h
   obtain ⟨g, cap, h, _⟩ := h
   exact ⟨_, h, rK_any (by omega) (by omega)⟩
  ·rw [if_neg (by omega), if_neg (by omega)] at h
   obtain ⟨v, h, _⟩ := h
   exact ⟨_, h, rK_any (by omega) (by omega)⟩
 ·exact ⟨.inl ⟨_, _, h.1⟩, h.2⟩
theorem cpl_wk {p : Tx} {u : Tr} {w w' : World} {e : Ending} (h : CplP p u w e w') : WkP (tyK 14) (rK 14 u) w e w' := by
 unfold CplP at h
 obtain ⟨h, hb⟩ := h
 split at h
 ·rename_i ev hd
  obtain ⟨T, U, rfl⟩ := pairD_form hd
  exact ⟨.inl ⟨_, _, h⟩, hb⟩
 ·exact ⟨.inr ⟨_, h, rK_any (by omega) (by omega)⟩, hb⟩
theorem flo_wk {p : Tx} {u : Tr} {w w' : World} {e : Ending} (h : FloR p u w e w') : WkP (tyK 19) (rK 19 u) w e w' := by
 unfold FloR at h
 obtain ⟨h, hb⟩ := h
 split at h
 ·split at h
  ·exact ⟨.inl ⟨_, _, h⟩, hb⟩
  ·obtain ⟨v, h, _⟩ := h
   exact ⟨.inr ⟨_, h, rK_any (by omega) (by omega)⟩, hb⟩
 ·exact ⟨.inl ⟨_, _, h⟩, hb⟩
theorem bnd_all (k : Nat) (h1 : 1 ≤ k) (h19 : k ≤ 19) (u : Tr) (v : Value) (p : Tx) (hp : p.length ≤ 4194304) (w : World) (h : RdA w u v) (ho : u.Ok) (hf : u.fit = true) (hT : Tab w) :
  Calls Tryz.prog 34 #[.agg #[v], .string ⟨p.toArray⟩, .int .i64 (k : Int)] w (WkP (tyK k) (rK k u) w) := by
 by_cases hw : 3 ≤ k ∧ k ≤ 10
 ·exact (bound_wholeR k hw.1 hw.2 u v p w h ho).mono fun e w' ⟨W, hb, hp⟩ => later_wk ⟨W, hb, whole_wk hw.1 hw.2 hp⟩
 ·by_cases ht : 15 ≤ k ∧ k ≤ 17
  ·exact (bound_textR k ht.1 ht.2 u v p w h ho hf).mono fun e w' ⟨W, hb, hp⟩ => later_wk ⟨W, hb, text_wk ht.1 ht.2 hp⟩
  ·rcases (by omega : k = 1 ∨ k = 2 ∨ k = 11 ∨ k = 12 ∨ k = 13 ∨ k = 14 ∨ k = 18 ∨ k = 19) with rfl | rfl | rfl | rfl | rfl | rfl | rfl | rfl
   ·exact (bnd_1 u v p w h).mono fun e w' hp => wk_weak hp fun x hx => ⟨(fun h3 h10 => by omega), (fun h => by omega), fun _ => hx⟩
   ·exact (bnd_2 u v p w h).mono fun e w' hp => wk_weak hp fun x _ => rK_any (by omega) (by omega)
   ·exact (bnd_11 u v p w h).mono fun e w' hp => wk_weak hp fun x _ => rK_any (by omega) (by omega)
   ·exact (bnd_12 u v p w h).mono fun e w' hp => wk_weak hp fun x hx => ⟨(fun h3 h10 => by omega), (fun _ => hx), (fun h => by omega)⟩
   ·exact (bound_13 (WkP (tyK 13) (rK 13 u)) v p w (fun W hb => (cpl_13 u v p hp W (rda_below h hb) (hT.next hb)).mono fun e w' hp => wk_weak hp fun x _ => rK_any (by omega) (by omega)) (fun _ _ _ => wkP_two)).mono fun e w' hp => later_wk hp
   ·exact (bound_14 (WkP (tyK 14) (rK 14 u)) v p w (fun W hb => (bcpl_14 u v p (by omega) W (rda_below h hb) (hT.next hb)).mono fun e w' hp => cpl_wk hp) (fun _ _ _ => wkP_two)).mono fun e w' hp => later_wk hp
   ·exact (bound_18 (WkP (tyK 18) (rK 18 u)) v p w (fun W hb => (blists_18 u v p hp W (rda_below h hb) ho hf (hT.next hb)).mono fun e w' hp => wk_weak hp fun x _ => rK_any (by omega) (by omega)) (fun _ _ _ => wkP_two)).mono fun e w' hp => later_wk hp
   ·exact (bound_19 (WkP (tyK 19) (rK 19 u)) v p w (fun W hb => (blists_19 u v p hp W (rda_below h hb) hf (hT.next hb)).mono fun e w' hp => flo_wk hp) (fun _ _ _ => wkP_two)).mono fun e w' hp => later_wk hp
theorem bind_wk (k : Nat) (h1 : 1 ≤ k) (h19 : k ≤ 19) (g : Nat) (t : Tr) (v : Value) (l : Tx) (w0 w : World) (hB : Blk w0 g 123 #[v]) (h : RdA w0 t v) (hb0 : Below w0.heap.size w0 w) (ho : t.Ok) (hf : t.fit = true) (hl : l.length ≤ 4194304) (hG : Glob w) (hT : Tab w) :
  Calls Tryz.prog 9 #[.pointer (some ⟨g, 0, none⟩), .string ⟨l.toArray⟩, .int .i64 (k : Int)] w (BindP (fun u => WkP (tyK k) (rK k u)) t l w) :=
 bind_any (fun u => WkP (tyK k) (rK k u)) k h1 h19 g t v l w0 w hB h hb0 ho hf hl hG hT (fun u tx ux W hb hr ho hf => bnd_all k h1 h19 u _ l hl W hr ho hf (hT.next hb)) (fun u W e w' hr => wkP_two hr)
end Nd
end Go.Proofs.YtbajkglacfheiaaGreatDoor
namespace Go.Proofs.YtbajkglacfheiaaGreatDoor
open Go.RowKit Mem Utf Ref3 Tok

def downR (l t : List UInt8) : Except (Int × Int) (List UInt8) :=
 match parseS (wrong l) l with
 | .error x => .error x
 | .ok ts => if (wrong t).1 = 0 then (if ts.length < 65536 then .ok (l ++ piece t) else .error (3, -1)) else .error (100, -1)
def DownP (l t : List UInt8) (w : World) (e : Ending) (w' : World) : Prop :=
 Below w.heap.size w w' ∧ (∀ x, downR l t = .error x → e = .returned (.tuple #[.string ⟨#[]⟩, errV x.1 x.2])) ∧
 (∀ r, downR l t = .ok r → e = .returned (.tuple #[.string ⟨r.toArray⟩, .nilIface]))
theorem downP_err {l t : List UInt8} {x : Int × Int} (h : downR l t = .error x) {w w' : World} (hb : Below w.heap.size w w') : DownP l t w (.returned (.tuple #[.string ⟨#[]⟩, errV x.1 x.2])) w' := by
 refine ⟨hb, fun y hy => ?_, fun r hy => ?_⟩
 ·rw [h] at hy
  injection hy with hy
  rw [← hy]
 ·rw [h] at hy
  cases hy
theorem downP_ok {l t r : List UInt8} (h : downR l t = .ok r) {w w' : World} (hb : Below w.heap.size w w') : DownP l t w (.returned (.tuple #[.string ⟨r.toArray⟩, .nilIface])) w' := by
 refine ⟨hb, fun y hy => ?_, fun r hy => ?_⟩
 ·rw [h] at hy
  cases hy
 ·rw [h] at hy
  injection hy with hy
  rw [← hy]
theorem downR_err {l t : List UInt8} {x : Int × Int} (h : parseS (wrong l) l = .error x) : downR l t = .error x := by rw [downR, h]
theorem downR_ok {l t : List UInt8} {ts : List (List UInt8)} (h : parseS (wrong l) l = .ok ts) :
  downR l t = if (wrong t).1 = 0 then (if ts.length < 65536 then .ok (l ++ piece t) else .error (3, -1)) else .error (100, -1) := by rw [downR, h]
theorem mk_append2 (a b : List UInt8) : ByteArray.mk a.toArray ++ ByteArray.mk b.toArray = ByteArray.mk (a ++ b).toArray := mk_append a b

theorem down_any (l t : List UInt8) (hl : l.length ≤ 2147483640) (ht : t.length ≤ 2147483640) (w : World) (hg : Glob w) :
  Calls Tryz.prog 100 #[.string ⟨l.toArray⟩, .string ⟨t.toArray⟩] w (DownP l t w) := by
 have hz : 1 < w.heap.size := by
  obtain ⟨m, hm⟩ := hg
  exact World.block_lt_of_cell? w _ hm
 go_enter Tryz.func100, Tryz.ntmps100
 go_wp2_with fail
 refine (parse_any ⟨l.toArray⟩ (by show l.length ≤ _; omega) _ hg).mono ?_
 rintro e w1 ⟨hb1, HE, HO⟩
 rw [show (ByteArray.mk l.toArray).data.toList = l from rfl] at HE HO
 cases hp : parseS (wrong l) l with
 | error x =>
  obtain rfl := HE x hp
  have H := Lib.hid (downP_err (downR_err (t := t) hp) hb1)
  obtain ⟨n, a⟩ := x
  clear HE HO hp
  simp only [] at H ⊢
  by_cases ha : a < 0
  ·rw [errV, if_pos ha] at H ⊢
   go_wp2
   go_ret2
   exact H.out
  ·rw [errV, if_neg ha, spotV] at H ⊢
   go_wp2
   go_ret2
   exact H.out
 | ok ts =>
  obtain ⟨v, rfl, hown⟩ := HO ts hp
  have hr0 := downR_ok (t := t) hp
  obtain ⟨A, c, rfl⟩ := own_sliceP hown
  have hlen0 : ts.length ≤ 65536 := (parse_print hp).2.2
  clear HE HO hp hown
  go_wp2_with fail
  refine (right_any ⟨t.toArray⟩ _ (by show t.length ≤ _; omega)).mono ?_
  rintro e w2 ⟨rfl, hb2⟩
  replace hb2 := hb2.toBelow
  have hb12 := below_chain hb1 hb1.size hb2
  rw [show (ByteArray.mk t.toArray).data.toList = t from rfl, right_wrong]
  by_cases hr : (wrong t).1 = 0
  ·rw [if_pos hr] at hr0
   rw [decide_eq_true hr]
   clear hr
   by_cases hlen : ts.length < 65536
   ·rw [if_pos hlen] at hr0
    have HR := Lib.hid hr0
    have hi1 : (ts.length : Int) < 65536 := by omega
    clear hr0 hlen0 hlen
    generalize ts.length = n at *
    have hi2 : ((65536 : Int) ≤ (n : Int)) = False := by simp; omega
    clear hi1
    have hpl := piece_le t
    go_wp2_with fail
    refine (quoted_any t (by omega) _ (hg.below hb12 hz)).mono ?_
    rintro e w3 ⟨rfl, hb3⟩
    have H := Lib.hid (downP_ok HR.out (below_chain hb12 hb12.size hb3))
    rw [← mk_append2] at H
    have hq : (piece t).length ≤ 4611686018427387000 := by omega
    clear HR hpl ht
    generalize piece t = pt at *
    go_wp2
    go_ret2
    exact H.out
   ·rw [if_neg hlen] at hr0
    have H := Lib.hid (downP_err hr0 hb12)
    simp only [errV_no] at H
    have hi1 : (65536 : Int) ≤ (ts.length : Int) := by omega
    clear hr0 hlen0 hlen
    generalize ts.length = n at *
    go_wp2
    go_ret2
    exact H.out
  ·rw [if_neg hr] at hr0
   have H := Lib.hid (downP_err hr0 hb12)
   simp only [errV_no] at H
   rw [decide_eq_false hr]
   clear hr0 hr
   go_wp2
   go_ret2
   exact H.out
end Go.Proofs.YtbajkglacfheiaaGreatDoor
namespace Go.Proofs.YtbajkglacfheiaaGreatDoor
open Go.RowKit Mem Utf Ref3 Idx Tok TokC Ieee
namespace Nd
def keyN : Tx := [0, 32, 110, 111, 32, 115, 117, 99, 104, 32, 107, 101, 121]
theorem key_right : rightB keyN = true := by decide
theorem key_wrong : (wrong keyN).1 = 0 := by decide
def ptrN : Tx := piece keyN
theorem ptr_len : ptrN.length ≤ 4194304 := by
 have h := piece_le keyN
 have h2 : keyN.length = 13 := rfl
 unfold ptrN
 omega
theorem down_key (W : World) (hG : Glob W) : Calls Tryz.prog 100 #[.string ⟨#[]⟩, .string ⟨keyN.toArray⟩] W fun e w' => e = .returned (.tuple #[.string ⟨ptrN.toArray⟩, .nilIface]) ∧ Below W.heap.size W w' := by
 refine (down_any [] keyN (by simp) (by show 13 ≤ _; omega) W hG).mono fun e w' h => ⟨?_, h.1⟩
 refine h.2.2 ptrN ?_
 rw [downR_ok parse_nil, if_pos key_wrong, if_pos (by simp)]
 rfl
theorem may_one (k : Nat) (h1 : 1 ≤ k) (h19 : k ≤ 19) (g b c : Nat) (w : World) (hc : w.cell? ⟨b, 0, none⟩ = some (.int .i64 (k : Int))) : Calls Tryz.prog 40 #[.pointer (some ⟨g, 0, none⟩), .slice (some ⟨b, 0, none⟩) 1 c] w fun e w' => e = .returned .nilIface ∧ w = w' := by
 have HY := Lib.hid (is_yes k h1 h19)
 clear h1 h19
 go_enter Tryz.func40, Tryz.ntmps40
 go_wp2_with fail
 go_loopw [12] (fun c12 wr => ∃ j : Nat, j ≤ 1 ∧ c12 = .int .i64 (j : Int) ∧ w = wr) (fun c12 _ => 1 - (intOf c12).toNat)
 case atStart => exact ⟨0, Nat.zero_le _, rfl, rfl⟩
 case round =>
  obtain ⟨j, hj, rfl, rfl⟩ := hrel
  rcases (by omega : j = 0 ∨ j = 1) with rfl | rfl
  ·go_wp2_with fail
   ((with_reducible refine (HY.out _).mono ?_); rintro e w1 ⟨rfl, rfl⟩)
   go_wp2
   go_roundw
   case rel => exact ⟨1, Nat.le_refl _, rfl, trivial⟩
   case measure => simp [intOf]
  ·go_wp2
   go_ret
   exact ⟨rfl, rfl⟩
def FldP (k : Nat) (w : World) (e : Ending) (w' : World) : Prop :=
 ((∃ T u, e = .returned (.tuple #[.nilIface, .iface T u])) ∨ ∃ T y, e = .returned (.tuple #[.iface T y, .nilIface]) ∧ (T = tyK k ∨ (T = 53 ∧ y = .pointer none))) ∧ Below w.heap.size w w'
theorem on_ok {t u : Tr} {x : Tx} (ho : t.Ok) (hf : t.fit = true) (h : onT x t = some u) : u.Ok ∧ u.fit = true := by
 have h2 : leadT t [x] 0 = .inr u := by
  rw [leadT, h]
  dsimp only
  rw [leadT]
 exact lead_ok _ _ _ _ ho hf h2
theorem field_any (k : Nat) (h1 : 1 ≤ k) (h19 : k ≤ 19) (ks : List Tx) (l : List Tr) (v : Value) (w0 w : World) (h : RdA w0 (.obj ks l) v) (hb0 : Below w0.heap.size w0 w) (ho : (Tr.obj ks l).Ok) (hf : (Tr.obj ks l).fit = true) (hG : Glob w) (hT : Tab w) :
  Calls Tryz.prog 43 #[.agg #[v], .string ⟨#[]⟩, .agg #[.string ⟨keyN.toArray⟩, .int .i64 (k : Int), .bool false]] w (FldP k w) := by
 obtain ⟨w2, hw2⟩ : ∃ w2, (w.alloc (.cells #[v] 58)).alloc (.cells #[.string ⟨keyN.toArray⟩, .int .i64 (k : Int), .bool false] 73) = w2 := ⟨_, rfl⟩
 have hb2 : Below w.heap.size w w2 := by rw [← hw2]; exact ((Below.refl _ _).alloc (Nat.le_refl _) _).alloc (by simp) _
 have hr2 : Blk w2 w.heap.size 58 #[v] := by rw [← hw2]; exact (Blk.new w _ _).alloc _
 have hf2 : Blk w2 (w.heap.size + 1) 73 #[.string ⟨keyN.toArray⟩, .int .i64 (k : Int), .bool false] := by
  have := Blk.new (w.alloc (.cells #[v] 58)) 73 #[.string ⟨keyN.toArray⟩, .int .i64 (k : Int), .bool false]
  rw [World.size_alloc, hw2] at this
  exact this
 have HW2E := Lib.hid hw2
 have HB2 := Lib.hid hb2
 have HR2 := Lib.hid hr2
 have HF2 := Lib.hid hf2
 have HRT := Lib.hid (fun W => right_tx keyN W (by show 13 ≤ _; omega))
 rw [key_right] at HRT
 have HDN := Lib.hid (fun (W : World) (hb : Below w.heap.size w W) => down_key W (hG.next hb))
 have HFI := Lib.hid (fun (W : World) (hb : Below w.heap.size w W) => find_any ks l v keyN w0 W h (hb0.trans (hb.mono hb0.size)) ho hf key_right (by show 13 ≤ _; omega))
 have HBN := Lib.hid (fun (u : Tr) (x : Value) (W : World) (hb : Below w.heap.size w W) (hx : onT keyN (.obj ks l) = some u) (hr : RdA w0 u x) => bnd_all k h1 h19 u x ptrN ptr_len W (rda_below hr (hb0.trans (hb.mono hb0.size))) (on_ok ho hf hx).1 (on_ok ho hf hx).2 (hT.next hb))
 clear hw2 hb2 hr2 hf2 h hb0 ho hf hG hT h1 h19
 go_enter Tryz.func43, Tryz.ntmps43
 go_upto_region 1 with fail
 rw [HW2E.out]
 have f0 : w2.cell? ⟨w.heap.size + 1, 0, none⟩ = some (.string ⟨keyN.toArray⟩) := HF2.out.cell 0
 go_wp2_with fail
 ((with_reducible refine (HRT.out _).mono ?_); rintro e w3 ⟨rfl, hb3⟩)
 have HB3 := Lib.hid (HB2.out.trans (hb3.mono HB2.out.size))
 have HR3 := Lib.hid (HR2.out.below hb3 HR2.out.lt)
 have HF3 := Lib.hid (HF2.out.below hb3 HF2.out.lt)
 clear hb3 f0
 have f0 : w3.cell? ⟨w.heap.size + 1, 0, none⟩ = some (.string ⟨keyN.toArray⟩) := HF3.out.cell 0
 go_wp2_with fail
 ((with_reducible refine (HDN.out _ HB3.out).mono ?_); rintro e w4 ⟨rfl, hb4⟩)
 have HB4 := Lib.hid (HB3.out.trans (hb4.mono HB3.out.size))
 have HR4 := Lib.hid (HR3.out.below hb4 HR3.out.lt)
 have HF4 := Lib.hid (HF3.out.below hb4 HF3.out.lt)
 clear hb4 f0
 have f0 : w4.cell? ⟨w.heap.size + 1, 0, none⟩ = some (.string ⟨keyN.toArray⟩) := HF4.out.cell 0
 have r0 : w4.cell? ⟨w.heap.size, 0, none⟩ = some v := HR4.out.cell 0
 go_wp2_with fail
 ((with_reducible refine (HFI.out _ HB4.out).mono ?_); rintro e w5 ⟨he, hb5⟩)
 have HB5 := Lib.hid (HB4.out.trans (hb5.mono HB4.out.size))
 have HF5 := Lib.hid (HF4.out.below hb5 HF4.out.lt)
 clear hb5 f0 r0
 cases hon : onT keyN (.obj ks l) with
 | none =>
  rw [hon] at he
  obtain rfl := he
  have hba := HB5.out.alloc HB5.out.size (.cells #[.nilIface] 58)
  have HFA := Lib.hid (HF5.out.alloc (.cells #[.nilIface] 58))
  have f2 : (w5.alloc (.cells #[.nilIface] 58)).cell? ⟨w.heap.size + 1, 2, none⟩ = some (.bool false) := HFA.out.cell 2
  have HE : Hid (FldP k w (.returned (.tuple #[.iface 53 (.pointer none), .nilIface])) (w5.alloc (.cells #[.nilIface] 58))) := Lib.hid ⟨.inr ⟨_, _, rfl, .inr ⟨rfl, rfl⟩⟩, hba⟩
  clear hon hba
  go_wp2
  go_ret2
  exact HE.out
 | some u =>
  rw [hon] at he
  obtain ⟨tx, ux, rfl, hrd⟩ := he
  have hba := HB5.out.alloc HB5.out.size (.cells #[.iface tx ux] 58)
  have HFA := Lib.hid (HF5.out.alloc (.cells #[.iface tx ux] 58))
  have f1 : (w5.alloc (.cells #[.iface tx ux] 58)).cell? ⟨w.heap.size + 1, 1, none⟩ = some (.int .i64 (k : Int)) := HFA.out.cell 1
  have HBC := Lib.hid (HBN.out u (.iface tx ux) _ hba hon hrd)
  have HBA := Lib.hid hba
  clear hon hba hrd
  go_wp2_with fail
  ((with_reducible refine (HBC.out).mono ?_); rintro e w6 ⟨he, hb6⟩)
  have HB6 := Lib.hid (HBA.out.trans (hb6.mono HBA.out.size))
  clear hb6
  rcases he with ⟨T', u', rfl⟩ | ⟨y, rfl, _⟩
  ·have HE : Hid (FldP k w (.returned (.tuple #[.nilIface, .iface T' u'])) w6) := Lib.hid ⟨.inl ⟨_, _, rfl⟩, HB6.out⟩
   go_wp2
   go_ret2
   exact HE.out
  ·have HE : Hid (FldP k w (.returned (.tuple #[.iface (tyK k) y, .nilIface])) w6) := Lib.hid ⟨.inr ⟨_, _, rfl, .inl rfl⟩, HB6.out⟩
   go_wp2
   go_ret2
   exact HE.out
end Nd
end Go.Proofs.YtbajkglacfheiaaGreatDoor
namespace Go.Proofs.YtbajkglacfheiaaGreatDoor
open Go.RowKit Mem Utf Ref3 Idx Tok TokC Ieee
namespace Nd
theorem info_kd : (Tryz.prog.info? 32).map (fun i => (i.zero, i.size, i.bytes)) = some (some (.int .i64 0), 1, 8) := by kernel_rfl
theorem info_bd : (Tryz.prog.info? 29).map (fun i => (i.zero, i.size, i.bytes)) = some (some .nilIface, 1, 16) := by kernel_rfl
theorem info_er : (Tryz.prog.info? 25).map (fun i => (i.zero, i.size, i.bytes)) = some (some .nilIface, 1, 16) := by kernel_rfl
def FlsP (k : Nat) (w : World) (e : Ending) (w' : World) : Prop :=
 ((∃ T u, e = .returned (.tuple #[.slice none 0 0, .iface T u])) ∨ ∃ g c T y, e = .returned (.tuple #[.slice (some ⟨g, 0, none⟩) 1 c, .nilIface]) ∧ w'.cell? ⟨g, 0, none⟩ = some (.iface T y) ∧ (T = tyK k ∨ (T = 53 ∧ y = .pointer none))) ∧ Below w.heap.size w w'
theorem cell_last {W : World} {ty : TypeId} {x : Value} {z : Array Value} {n : Nat} (hs : W.heap.size = n) : (W.alloc (.cells (#[x] ++ z) ty)).drew.cell? ⟨n, 0, none⟩ = some x := by
 have h := ((Blk.new W ty (#[x] ++ z)).drew).cell 0
 rw [← hs]
 exact h.trans (by rw [Array.getElem?_append_left (by simp)]; rfl)
theorem below_app {w W : World} {o1 o2 : Obj} (h : Below w.heap.size w W) : Below w.heap.size w ((W.alloc o1).alloc o2).drew :=
 ((h.alloc h.size o1).alloc (h.alloc h.size o1).size o2).trans (drewN_below _ 1)
theorem fields_any (k : Nat) (h1 : 1 ≤ k) (h19 : k ≤ 19) (g : Nat) (t : Tr) (v : Value) (w0 w : World) (hB : Blk w0 g 123 #[v]) (h : RdA w0 t v) (hb0 : Below w0.heap.size w0 w) (ho : t.Ok) (hf : t.fit = true) (gF cF : Nat) (hF : Blk w gF 73 #[.string ⟨keyN.toArray⟩, .int .i64 (k : Int), .bool false]) (hG : Glob w) (hT : Tab w) :
  Calls Tryz.prog 16 #[.pointer (some ⟨g, 0, none⟩), .string ⟨#[]⟩, .slice (some ⟨gF, 0, none⟩) 1 cF] w (FlsP k w) := by
 have q1 := err_ne_nil
 have q2 := err_ne_held
 obtain ⟨kd0, hkd0, hkd1, hkd2, hkd3⟩ := info_parts info_kd
 obtain ⟨bd0, hbd0, hbd1, hbd2, hbd3⟩ := info_parts info_bd
 obtain ⟨er0, her0, her1, her2, her3⟩ := info_parts info_er
 have HB0 := Lib.hid hb0
 have HBB := Lib.hid (And.intro hB h)
 have HOF := Lib.hid (And.intro ho hf)
 have HG := Lib.hid (And.intro hG hT)
 have HK := Lib.hid (And.intro h1 h19)
 have HFW := Lib.hid hF
 have hwz : 0 < w.heap.size := by have := hF.lt; omega
 have HWZ := Lib.hid hwz
 clear hB h hb0 ho hf hG hT h1 h19 hF hwz
 go_enter Tryz.func16, Tryz.ntmps16
 go_wp2_with fail
 go_loopw [8, 22] (fun c8 c22 wr => ∃ j : Nat, c22 = .int .i64 (j : Int) ∧ ((j = 0 ∧ c8 = .slice none 0 0) ∨ (j = 1 ∧ ∃ gk ck, c8 = .slice (some ⟨gk, 0, none⟩) 1 ck ∧ wr.cell? ⟨gk, 0, none⟩ = some (.int .i64 (k : Int)))) ∧ Below w.heap.size w wr) (fun _ c22 _ => 1 - (intOf c22).toNat)
 case atStart => exact ⟨0, rfl, .inl ⟨rfl, rfl⟩, Below.refl _ _⟩
 case round =>
  obtain ⟨j, rfl, hj, hbr⟩ := hrel
  have HBR := Lib.hid hbr
  have HFF := Lib.hid (HFW.out.below hbr HFW.out.lt)
  clear hbr
  rcases hj with ⟨rfl, rfl⟩ | ⟨rfl, gk, ck, rfl, hck⟩
  ·have f0 : wr.cell? ⟨gF, 0, none⟩ = some (.string ⟨keyN.toArray⟩) := HFF.out.cell 0
   have f1 : wr.cell? ⟨gF, 1, none⟩ = some (.int .i64 (k : Int)) := HFF.out.cell 1
   have f2 : wr.cell? ⟨gF, 2, none⟩ = some (.bool false) := HFF.out.cell 2
   have HBA := Lib.hid (HBR.out.alloc HBR.out.size (.cells #[.string ⟨keyN.toArray⟩, .int .i64 (k : Int), .bool false] 73))
   have hsz := HBR.out.size
   have hn1 := (Blk.new wr 73 #[.string ⟨keyN.toArray⟩, .int .i64 (k : Int), .bool false]).cell 1
   go_wp2_with fail
   go_roundw
   case rel => exact ⟨1, rfl, .inr ⟨rfl, _, _, rfl, cell_last (by simp)⟩, below_app HBA.out⟩
   case measure => simp [intOf]
  ·have hc0 : wr.cell? ⟨gk, 0, none⟩ = some (.int .i64 (k : Int)) := hck
   have HMY := Lib.hid (may_one k HK.out.1 HK.out.2 g gk ck wr hck)
   have HFI := Lib.hid (pfind_any g t v [] w0 wr HBB.out.1 HBB.out.2 (HB0.out.trans (HBR.out.mono HB0.out.size)) HOF.out.1 HOF.out.2 (by simp) (HG.out.1.next HBR.out) (HG.out.2.next HBR.out))
   clear hck hc0
   go_wp2_with fail
   ((with_reducible refine (HMY.out).mono ?_); rintro e w1 ⟨rfl, rfl⟩)
   go_wp2_with fail
   ((with_reducible refine (HFI.out).mono ?_); rintro e w2 ⟨he, hb2⟩)
   rw [parse_nil] at he
   dsimp only at he
   rw [leadT] at he
   obtain ⟨tx, ux, rfl, hrd, _⟩ := he
   have HB2 := Lib.hid (HBR.out.trans (hb2.mono HBR.out.size))
   have HF2 := Lib.hid (HFF.out.below hb2 HFF.out.lt)
   obtain ⟨w3, hw3⟩ : ∃ w3, w2.alloc (.cells #[.iface tx ux] 58) = w3 := ⟨_, rfl⟩
   have hb3 : Below w.heap.size w w3 := by rw [← hw3]; exact HB2.out.alloc HB2.out.size _
   have hr3 : Blk w3 w2.heap.size 58 #[.iface tx ux] := by rw [← hw3]; exact Blk.new w2 _ _
   have hf3 : Blk w3 gF 73 #[.string ⟨keyN.toArray⟩, .int .i64 (k : Int), .bool false] := by rw [← hw3]; exact HF2.out.alloc _
   have HB3 := Lib.hid hb3
   have HR3 := Lib.hid hr3
   have HF3 := Lib.hid hf3
   have HW3E := Lib.hid hw3
   have HRD := Lib.hid hrd
   clear hb2 hw3 hb3 hr3 hf3 hrd HMY HFI HFF
   have c12 : w3.cell? ⟨w2.heap.size, 0, none⟩ = some (.iface tx ux) := HR3.out.cell 0
   go_upto_region 11 with fail
   rw [HW3E.out]
   go_wp2_with fail
   ((with_reducible refine (sort_any (fun _ => True) t (.iface tx ux) _ (rda_below HRD.out (HB0.out.trans (HB3.out.mono HB0.out.size)))).mono ?_); rintro e w4 ⟨rfl, hb4⟩)
   have HB4 := Lib.hid (HB3.out.trans (hb4.mono HB3.out.size))
   have HR4 := Lib.hid (HR3.out.below hb4 HR3.out.lt)
   have HF4 := Lib.hid (HF3.out.below hb4 HF3.out.lt)
   clear hb4 c12 HR3 HF3
   by_cases hs : ((t.srt : Nat) : Int) = 6
   ·obtain ⟨ks, l, rfl⟩ := srt_obj t hs
    have hsb : ((((Tr.obj ks l).srt : Nat) : Int) != 6) = false := by rw [hs]; rfl
    have HFD := Lib.hid (fun (W : World) (hb : Below w.heap.size w W) => field_any k HK.out.1 HK.out.2 ks l (.iface tx ux) w0 W HRD.out (HB0.out.trans (hb.mono HB0.out.size)) HOF.out.1 HOF.out.2 (HG.out.1.next hb) (HG.out.2.next hb))
    clear hs
    obtain ⟨wv, rfl⟩ : ∃ wv, wv = wr := ⟨_, rfl⟩
    go_wp2_with fail
    go_loopw [14, 15, 57] (fun c14 c15 c57 wy => ∃ j : Nat, c57 = .int .i64 (j : Int) ∧ ((j = 0 ∧ c14 = .slice none 0 0 ∧ c15 = .slice none 0 0) ∨ (j = 1 ∧ ((∃ A c, c15 = .slice A 1 c) ∨ (c15 = .slice none 0 0 ∧ ∃ gb cb T y, c14 = .slice (some ⟨gb, 0, none⟩) 1 cb ∧ wy.cell? ⟨gb, 0, none⟩ = some (.iface T y) ∧ (T = tyK k ∨ (T = 53 ∧ y = .pointer none)))))) ∧ Below w4.heap.size w4 wy) (fun _ _ c57 _ => 1 - (intOf c57).toNat)
    case atStart => exact ⟨0, rfl, .inl ⟨rfl, rfl, rfl⟩, Below.refl _ _⟩
    case round =>
     obtain ⟨j, rfl, hj, hbr⟩ := hrel
     have HBS := Lib.hid hbr
     have HBT := Lib.hid (HB4.out.trans (hbr.mono HB4.out.size))
     have HFF := Lib.hid (HF4.out.below hbr HF4.out.lt)
     have HRR := Lib.hid (HR4.out.below hbr HR4.out.lt)
     clear hbr
     rcases hj with ⟨rfl, rfl, rfl⟩ | ⟨rfl, hj⟩
     ·have f0 : wr.cell? ⟨gF, 0, none⟩ = some (.string ⟨keyN.toArray⟩) := HFF.out.cell 0
      have f1 : wr.cell? ⟨gF, 1, none⟩ = some (.int .i64 (k : Int)) := HFF.out.cell 1
      have f2 : wr.cell? ⟨gF, 2, none⟩ = some (.bool false) := HFF.out.cell 2
      have c12 : wr.cell? ⟨w2.heap.size, 0, none⟩ = some (.iface tx ux) := HRR.out.cell 0
      have HBA := Lib.hid (HBT.out.alloc HBT.out.size (.cells #[.string ⟨keyN.toArray⟩, .int .i64 (k : Int), .bool false] 73))
      have HBX := Lib.hid (HBS.out.alloc HBS.out.size (.cells #[.string ⟨keyN.toArray⟩, .int .i64 (k : Int), .bool false] 73))
      have c12a : (wr.alloc (.cells #[.string ⟨keyN.toArray⟩, .int .i64 (k : Int), .bool false] 73)).cell? ⟨w2.heap.size, 0, none⟩ = some (.iface tx ux) := (HRR.out.alloc _).cell 0
      go_wp2_with fail
      ((with_reducible refine (HFD.out _ HBA.out).mono ?_); rintro e w5 ⟨he, hb5⟩)
      have HB5 := Lib.hid (HBX.out.trans (hb5.mono HBX.out.size))
      clear hb5 c12 c12a f0 f1 f2
      rcases he with ⟨T', u', rfl⟩ | ⟨T', y, rfl, hty⟩
      ·go_wp2_with fail
       go_roundw
       case rel => exact ⟨1, rfl, .inr ⟨rfl, .inl ⟨_, _, rfl⟩⟩, below_app (below_app HB5.out)⟩
       case measure => simp [intOf]
      ·have HTY := Lib.hid hty
       clear hty
       go_wp2_with fail
       go_roundw
       case rel => exact ⟨1, rfl, .inr ⟨rfl, .inr ⟨rfl, _, _, T', y, rfl, cell_last (by simp), HTY.out⟩⟩, below_app HB5.out⟩
       case measure => simp [intOf]
     ·rcases hj with ⟨A, c, rfl⟩ | ⟨rfl, gb, cb, T', y, rfl, hgb, hty⟩
      ·have HE : Hid (FlsP k w (.returned (.tuple #[.slice none 0 0, .iface 147 (.slice A 1 c)])) wr) := Lib.hid ⟨.inl ⟨_, _, rfl⟩, HBT.out⟩
       go_wp2
       go_ret2
       exact HE.out
      ·have HE : Hid (FlsP k w (.returned (.tuple #[.slice (some ⟨gb, 0, none⟩) 1 cb, .nilIface])) wr) := Lib.hid ⟨.inr ⟨gb, cb, T', y, rfl, hgb, hty⟩, HBT.out⟩
       clear hgb hty
       go_wp2
       go_ret2
       exact HE.out
   ·have hsb : (((t.srt : Nat) : Int) != 6) = true := by simpa using hs
    clear hs
    go_wp2_with fail
    ((with_reducible refine (btrail_any 5 [] _).mono ?_); rintro e w5 ⟨rfl, rfl⟩)
    have HE : Hid (FlsP k w (.returned (.tuple #[.slice none 0 0, trlV 5 []])) w4) := Lib.hid ⟨.inl ⟨_, _, rfl⟩, HB4.out⟩
    unfold trlV at HE ⊢
    go_wp2
    go_ret2
    exact HE.out
end Nd
end Go.Proofs.YtbajkglacfheiaaGreatDoor
