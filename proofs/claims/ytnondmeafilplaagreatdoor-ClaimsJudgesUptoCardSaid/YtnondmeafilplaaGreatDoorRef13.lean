/-
  Walks of the reference of layer 13: Parse.
-/
import Derived.Test.YtnondmeafilplaaGreatDoorPtrA
import Derived.Deep.LoopGhost
import Derived.Laws.IdiomStrings
import Derived.Laws.BytesArg
namespace Go.Proofs.YtnondmeafilplaaGreatDoor
open Go.RowKit Mem Utf Ref3 Tok
set_option linter.unusedVariables false

def byteV (c : UInt8) : Value := .int .u8 (c.toNat : Int)
/-- one new cell -/
theorem one_new (w : World) (t : TypeId) (v : Value) : ∀ j u, [v][j]? = some u → (w.alloc (.cells #[v] t)).cell? ((⟨w.heap.size, 0, none⟩ : Addr).add j) = some u := by
  intro j u hj
  match j, hj with
  | 0, hj =>
    injection hj with hj
    subst hj
    exact Blk.cell (Blk.new w t #[v]) 0
  | j + 1, hj => cases hj
theorem one_cell (v : Value) (h : v.oneCell' = true) : ∀ u ∈ [v], u.oneCell' = true := by
  intro u hu
  rw [List.mem_singleton] at hu
  rw [hu]
  exact h
/-- a row of the call's own is a slice of its length -/
theorem own_slice {w : World} {base size n : Nat} {e : TypeId} {v : Value} {xs : List Value} (h : w.ownsRow base e size v n xs) : ∃ A c, v = .slice A n c := by
  rcases Joins.ownsRow_forms h with ⟨rfl, rfl⟩ | ⟨g, cap, rfl, _⟩
  · exact ⟨none, 0, rfl⟩
  · exact ⟨_, _, rfl⟩
theorem info_u8 : (Tryz.prog.info? 5).map (fun i => (i.zero, i.size, i.bytes)) = some (some (.int .u8 0), 1, 1) := by kernel_rfl
/-- 'string(b)' of bytes of the call's own -/
theorem conv_own (w : World) (base : Nat) (v : Value) (l : List UInt8) (h : w.ownsRow base 5 1 v l.length (l.map byteV)) :
    (convert 157 9 v).run Tryz.prog w = .ok (.string ⟨l.toArray⟩) w := by
  rcases h.2 with ⟨rfl, hn⟩ | ⟨g, cap, cur, rfl, _⟩
  · obtain rfl : l = [] := by simpa using hn
    exact run_convert_bytes_nil w 157 5 Tryz.underlying157 Tryz.underlying5 0 0 9 Tryz.underlying9
  · refine run_convert_bytes_back w 157 9 5 _ cap l Tryz.underlying157 Tryz.underlying5 Tryz.underlying9 (fun j hj => ?_)
    exact h.cells (g := g) rfl j _ (by rw [List.getElem?_map, List.getElem?_eq_getElem hj]; rfl)
namespace Tok
theorem drop_at {s : ByteArray} {k : Nat} (hk : k < s.size) : s.data.toList.drop k = s[k] :: s.data.toList.drop (k + 1) := by
  have hk' : k < s.data.toList.length := hk
  exact List.drop_eq_getElem_cons hk'
theorem byte_eq {c : UInt8} (n : UInt8) {m : Int} (hm : (n.toNat : Int) = m) (h : (c.toNat : Int) = m) : c = n := (byte_is c n).1 (h.trans hm.symm)
theorem byte_ne {c : UInt8} (n : UInt8) {m : Int} (hm : (n.toNat : Int) = m) (h : ¬ (c.toNat : Int) = m) : c ≠ n := fun e => h (by rw [e]; exact hm)
theorem run_at (toks : List (List UInt8)) (b : List UInt8) {s : ByteArray} {k : Nat} (hk : k < s.size) (h47 : ¬ (s[k].toNat : Int) = 47) (h126 : ¬ (s[k].toNat : Int) = 126) :
    run toks (some b) (s.data.toList.drop k) k = run toks (some (b ++ [s[k]])) (s.data.toList.drop (k + 1)) (k + 1) := by
  rw [drop_at hk, run_some _ _ _ _ (byte_ne 47 rfl h47) (byte_ne 126 rfl h126)]
theorem run_at_end (toks : List (List UInt8)) (b : List UInt8) {s : ByteArray} {k : Nat} (hk : k < s.size) (h126 : (s[k].toNat : Int) = 126) (he : ¬ k + 1 < s.size) :
    run toks (some b) (s.data.toList.drop k) k = .error (k + 1) := by
  rw [drop_at hk, byte_eq 126 rfl h126, List.drop_eq_nil_of_le (by show s.size ≤ _; omega)]
  exact run_bad _ _ _ _ rfl
theorem run_at_0 (toks : List (List UInt8)) (b : List UInt8) {s : ByteArray} {k : Nat} (hk : k + 1 < s.size) (h126 : (s[k].toNat : Int) = 126) (h : (s[k + 1].toNat : Int) = 48) :
    run toks (some b) (s.data.toList.drop k) k = run toks (some (b ++ [126])) (s.data.toList.drop (k + 2)) (k + 2) := by
  rw [drop_at (by omega), drop_at hk, byte_eq 126 rfl h126, byte_eq 48 rfl h, run_0]
theorem run_at_1 (toks : List (List UInt8)) (b : List UInt8) {s : ByteArray} {k : Nat} (hk : k + 1 < s.size) (h126 : (s[k].toNat : Int) = 126) (h : (s[k + 1].toNat : Int) = 49) :
    run toks (some b) (s.data.toList.drop k) k = run toks (some (b ++ [47])) (s.data.toList.drop (k + 2)) (k + 2) := by
  rw [drop_at (by omega), drop_at hk, byte_eq 126 rfl h126, byte_eq 49 rfl h, run_1]
theorem run_at_bad (toks : List (List UInt8)) (b : List UInt8) {s : ByteArray} {k : Nat} (hk : k + 1 < s.size) (h126 : (s[k].toNat : Int) = 126) (h0 : ¬ (s[k + 1].toNat : Int) = 48) (h1 : ¬ (s[k + 1].toNat : Int) = 49) :
    run toks (some b) (s.data.toList.drop k) k = .error (k + 1) := by
  rw [drop_at (by omega), drop_at hk, byte_eq 126 rfl h126]
  refine run_bad _ _ _ _ ?_
  rw [badT_two, if_neg (by rintro (h | h); exact byte_ne 48 rfl h0 h; exact byte_ne 49 rfl h1 h)]
end Tok
def RefParseP (l : List UInt8) (w : World) (e : Ending) (w' : World) : Prop :=
  Below w.heap.size w w' ∧ (∀ x, parseS (wrong l) l = .error x → e = .returned (.tuple #[.slice none 0 0, .int .i64 x.1, .int .i64 x.2])) ∧
  (∀ ts, parseS (wrong l) l = .ok ts → ∃ v, e = .returned (.tuple #[v, .int .i64 0, .int .i64 0]) ∧ w'.ownsRow w.heap.size 9 1 v ts.length (ts.map strV))
theorem refP_err {l : List UInt8} {n a : Int} (h : parseS (wrong l) l = .error (n, a)) {w w' : World} (hb : Below w.heap.size w w') :
    RefParseP l w (.returned (.tuple #[.slice none 0 0, .int .i64 n, .int .i64 a])) w' := by
  refine ⟨hb, fun x hx => ?_, fun ts hx => ?_⟩
  · rw [h] at hx
    injection hx with hx
    rw [← hx]
  · rw [h] at hx
    cases hx
theorem refP_ok {l : List UInt8} {ts : List (List UInt8)} (h : parseS (wrong l) l = .ok ts) {w w' : World} {v : Value} (hb : Below w.heap.size w w')
    (ho : w'.ownsRow w.heap.size 9 1 v ts.length (ts.map strV)) : RefParseP l w (.returned (.tuple #[v, .int .i64 0, .int .i64 0])) w' := by
  refine ⟨hb, fun x hx => ?_, fun ts' hx => ?_⟩
  · rw [h] at hx
    cases hx
  · rw [h] at hx
    injection hx with hx
    rw [← hx]
    exact ⟨v, rfl, ho⟩
theorem parse_run_err {l : List UInt8} {p : Nat} (hw : (wrong l).1 = 0) (h : run [] none l 0 = .error p) : parseS (wrong l) l = .error (130, (p : Int)) := by rw [parseS, if_pos hw, h]
theorem parse_run_ok {l : List UInt8} {ts : List (List UInt8)} (hw : (wrong l).1 = 0) (h : run [] none l 0 = .ok ts) : parseS (wrong l) l = if 65536 < ts.length then .error (3, -1) else .ok ts := by rw [parseS, if_pos hw, h]
/-- how it stands at a token's beginning -/
def Outer (s : ByteArray) (w : World) (g : Nat) (c6 c7 : Value) (wr : World) : Prop :=
  ∃ (i : Nat) (ts : List (List UInt8)), i ≤ s.size ∧ g = s.size - i ∧ c7 = .int .i64 i ∧ ts.length ≤ i ∧ Hid (run ts none (s.data.toList.drop i) i = run [] none s.data.toList 0) ∧
    wr.ownsRow w.heap.size 9 1 c6 ts.length (ts.map strV) ∧ Below w.heap.size w wr
/-- how it stands within a token -/
def Inner (s : ByteArray) (ts : List (List UInt8)) (i0 : Nat) (w2 : World) (g : Nat) (c7 c8 : Value) (wr : World) : Prop :=
  ∃ (i : Nat) (b : List UInt8), i ≤ s.size ∧ i0 < i ∧ g = s.size - i ∧ c7 = .int .i64 i ∧ b.length ≤ i ∧ Hid (run ts (some b) (s.data.toList.drop i) i = run [] none s.data.toList 0) ∧
    wr.ownsRow w2.heap.size 5 1 c8 b.length (b.map byteV) ∧ Below w2.heap.size w2 wr

end Go.Proofs.YtnondmeafilplaaGreatDoor
