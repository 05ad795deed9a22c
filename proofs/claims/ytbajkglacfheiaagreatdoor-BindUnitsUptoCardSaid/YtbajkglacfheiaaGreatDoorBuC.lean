/-
  Plain: the steps of a range over a string in any world; units of characters; texts out of characters.
-/
import Derived.Test.YtbajkglacfheiaaGreatDoorBuB
import Derived.WalkKit
import Derived.Outline
import Derived.RangeFuncNested
import Derived.Laws.Cover4
namespace Go.Proofs.YtbajkglacfheiaaGreatDoor
open Go Go.RowKit
set_option linter.unusedVariables false
set_option linter.unusedSimpArgs false
set_option maxRecDepth 100000
namespace Nd
theorem next_str {P : Program} (w : World) (g pos : Nat) (s : ByteArray) (ty : TypeId) (hg : w.heap[g]? = some (.stringIter s pos)) (hp : pos < s.size) :
    (Instr.next (.pointer (some ⟨g, 0, none⟩)) true ty).run P w = .ok (.tuple #[.bool true, .int .i64 pos, .int .i32 (Go.Utf8.decode s pos).1]) (w.putObj g (.stringIter s (pos + (Go.Utf8.decode s pos).2))) := by
  simp [Instr.next, getObj, setObj, Sem.run_bind, Sem.run, hg, Result.andThen, hp, goInt, World.putObj]
theorem next_str_end {P : Program} (w : World) (g pos : Nat) (s : ByteArray) (ty : TypeId) (hg : w.heap[g]? = some (.stringIter s pos)) (hp : ¬ pos < s.size) :
    (Instr.next (.pointer (some ⟨g, 0, none⟩)) true ty).run P w = .ok (.tuple #[.bool false]) w := by
  simp [Instr.next, getObj, Sem.run, hg, hp]
/-- a character's units -/
def unR (r : Nat) : List Nat := if r < 65536 then [r] else [55296 + (r - 65536) / 1024, 56320 + (r - 65536) % 1024]
theorem unR_len (r : Nat) : 1 ≤ (unR r).length ∧ (unR r).length ≤ 2 := by
  unfold unR
  split <;> simp
theorem enc_txt (r : Nat) : (Go.Utf8.encode (r : Int)) = ⟨(encB r).toArray⟩ := by
  unfold encB
  simp
theorem fold_runes (rs : List Nat) : ∀ s : ByteArray, ((rs.map Int.ofNat).foldl (fun r n => r ++ Go.Utf8.encode n) s).data.toList = s.data.toList ++ rs.flatMap encB := by
  induction rs with
  | nil => intro s; simp
  | cons r rs ih =>
    intro s
    rw [List.map_cons, List.foldl_cons, ih, List.flatMap_cons, ← List.append_assoc]
    have e : encB r = (Go.Utf8.encode (Int.ofNat r)).data.toList := by unfold encB; exact congrArg (fun z => (Go.Utf8.encode z).data.toList) (Int.ofNat_eq_natCast r).symm
    rw [ByteArray.data_append, Array.toList_append, e]
theorem runesBytes_all (rs : List Nat) : runesBytes (rs.map Int.ofNat) = ⟨(rs.flatMap encB).toArray⟩ := by
  have h := fold_runes rs ByteArray.empty
  unfold runesBytes
  generalize (rs.map Int.ofNat).foldl (fun r n => r ++ Go.Utf8.encode n) ByteArray.empty = x at *
  obtain ⟨d⟩ := x
  have h2 : d.toList = rs.flatMap encB := by simpa using h
  rw [← h2]
end Nd
end Go.Proofs.YtbajkglacfheiaaGreatDoor

