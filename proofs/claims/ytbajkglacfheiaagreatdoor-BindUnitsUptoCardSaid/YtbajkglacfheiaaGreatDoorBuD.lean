/-
  Package utf: put.
-/
import Derived.WalkKit
import Derived.OwnWalk
import Derived.Maps.OwnRows
import Derived.Test.YtbajkglacfheiaaGreatDoorGA
namespace Go.Proofs.YtbajkglacfheiaaGreatDoor
open Go Go.RowKit Mem
set_option linter.unusedVariables false
set_option linter.unusedSimpArgs false
set_option maxRecDepth 100000
namespace Nd
def u16V (n : Nat) : Value := .int .u16 n
/-- a character's units -/
def unQ (r : Nat) : List Nat := if r < 65536 then [r] else [55296 + (r - 65536) / 1024, 56320 + (r - 65536) % 1024]
theorem info_u16 : (Tryz.prog.info? 131).map (fun i => (i.zero, i.size, i.bytes)) = some (some (.int .u16 0), 1, 2) := by kernel_rfl
theorem wrap_u16 (r : Nat) (h : r < 65536) : IntKind.u16.wrap (r : Int) = (r : Int) := by
  have hm : (r : Int) % 65536 = r := by omega
  unfold IntKind.wrap
  simp [IntKind.bits, IntKind.signed, hm]
/-- what put answers -/
def PutP (base : Nat) (v : Value) (us : List Nat) (r : Nat) (w : World) (e : Ending) (w' : World) : Prop :=
  ∃ v', e = .returned v' ∧ w'.ownsRow base 131 1 v' (us ++ unQ r).length ((us ++ unQ r).map u16V) ∧ w.grownBy w' v.ownBlock ∧ (v'.ownBlock = v.ownBlock ∨ ∃ g, v'.ownBlock = some g ∧ w.heap.size ≤ g)
theorem putP_of {base : Nat} {v v' : Value} {us : List Nat} {r : Nat} {w w' : World} {tmp : Obj} {xs : List Value} {n : Nat} (hn : n = (unQ r).length) (hx : xs = (unQ r).map u16V) (h1 : w'.ownsRow base 131 1 v' (us.length + n) (us.map u16V ++ xs)) (h2 : (w.alloc tmp).grownBy w' v.ownBlock) (h3 : v'.ownBlock = v.ownBlock ∨ v'.ownBlock = some (w.alloc tmp).heap.size) : PutP base v us r w (.returned v') w' := by
  subst hn hx
  refine ⟨v', rfl, ?_, (World.grownBy_alloc w tmp v.ownBlock).trans h2, h3.imp id fun h => ⟨_, h, by simp⟩⟩
  rw [List.length_append, List.map_append]
  exact h1
set_option maxHeartbeats 8000000 in
theorem put_one (base : Nat) (v : Value) (us : List Nat) (r : Nat) (w : World) (hr : r < 65536) (hown : w.ownsRow base 131 1 v us.length (us.map u16V)) (hn : us.length ≤ 4194304) (hb : base ≤ w.heap.size) :
    Calls Tryz.prog 36 #[v, .int .i32 r] w (PutP base v us r w) := by
  obtain ⟨i0, hi0, hz0, hz1, hz2⟩ := info_parts info_u16
  obtain ⟨A, c, rfl⟩ := own_slice hown
  have e1 : ((r : Int) > 65535) = False := by simp; omega
  have e2 := wrap_u16 r hr
  have HR := Lib.hid hr
  go_enter Tryz.func36, Tryz.ntmps36
  go_wp2_with (at_builtin; refine wpList_append_own_at _ rfl _ _ 39 rfl base 131 i0 _ 1 2 Tryz.underlying39 hi0 hz0 hz1 hz2 rfl (by omega) (.slice A us.length c) us.length (us.map u16V) rfl (hown.alloc _) ⟨w.heap.size, 0, none⟩ 1 1 [u16V r] rfl rfl (one_new _ _ _) (one_cell _ rfl) ?b1 ?b2 ?b3 ?_; (unfold maxLen; omega); omega; (simp; omega); intro v9 w9 hown9 hgr9 hnil9 hat9)
  have HP := Lib.hid (putP_of (n := 1) (r := r) (by unfold unQ; rw [if_pos HR.out]; rfl) (by unfold unQ; rw [if_pos HR.out]; rfl) hown9 hgr9 hat9)
  clear hown9 hgr9 hnil9 hat9
  go_wp2
  go_ret
  exact HP.out
end Nd
end Go.Proofs.YtbajkglacfheiaaGreatDoor

