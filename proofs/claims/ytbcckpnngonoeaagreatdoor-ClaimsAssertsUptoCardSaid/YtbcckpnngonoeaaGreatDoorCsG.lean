/-
  errors.As with a *api.Trail: an error that is an All of Trails (printed by wip/gen_csg.py).
-/
import Derived.Test.YtbcckpnngonoeaaGreatDoorCsF
namespace Go.Proofs.YtbcckpnngonoeaaGreatDoor
open Go.RowKit Go.Extern.Stop Go.Stop Go.Extern Mem Utf Ref3 Idx Tok TokC Cl
set_option linter.unusedVariables false
set_option linter.unusedSimpArgs false
namespace Nd
set_option maxRecDepth 100000 in
set_option maxHeartbeats 16000000 in
theorem as_hit2 (y : Trl) (l : List Trl) (u : Value) (B : Nat) (m : Int) (x : ByteArray) (ta va : Nat) (w : World) (h : OwnE B w u (y :: l)) (hn : (y :: l).length ≤ 8) (ht : Blk w ta 48 #[.int .i64 m, .string x]) (hv : w.cell? ⟨va, 0, none⟩ = some (.pointer (some ⟨ta, 0, none⟩))) :
    Calls Tryz.prog 50 #[.iface 145 u, .iface 53 (.pointer (some ⟨ta, 0, none⟩)), .agg #[.pointer (some ⟨5, 53, none⟩), .pointer (some ⟨va, 0, none⟩), .int .u64 150], .iface 236 (.agg #[.pointer (some ⟨5, 48, none⟩)])] w (HitP ta w) := by
  have h1 := @run_callFunc_extern Tryz.prog 47 _ (fun args => ReflectliteValue.unpack (args.getD 0 (.tuple #[]))) Tryz.func47 (by kernel_rfl) (by kernel_rfl) (by kernel_rfl) (by kernel_rfl)
  have h2 := @run_callFunc_extern Tryz.prog 48 _ (ReflectliteValue.methodAny (ReflectliteValue.valueError "reflectlite.Value.Type" 0) (fun t _ _ _ => ReflectliteType.toType t)) Tryz.func48 (by kernel_rfl) (by kernel_rfl) (by kernel_rfl) (by kernel_rfl)
  have h3 := @run_callFunc_extern Tryz.prog 49 _ (ReflectliteValue.method (ReflectliteValue.valueError "reflectlite.Value.IsNil" 0) ReflectliteValue.isNil) Tryz.func49 (by kernel_rfl) (by kernel_rfl) (by kernel_rfl) (by kernel_rfl)
  have h4 := @run_callFunc_extern Tryz.prog 207 _ (ReflectliteType.abiMethod fun t => do pure (.int .u8 (← Rtype.kind t))) Tryz.func207 (by kernel_rfl) (by kernel_rfl) (by kernel_rfl) (by kernel_rfl)
  have h5 := @run_callFunc_extern Tryz.prog 252 _ (ReflectliteType.method ReflectliteType.elem) Tryz.func252 (by kernel_rfl) (by kernel_rfl) (by kernel_rfl) (by kernel_rfl)
  have h6 := @run_callFunc_extern Tryz.prog 253 _ (ReflectliteType.relation "Implements" ReflectliteType.implements_) Tryz.func253 (by kernel_rfl) (by kernel_rfl) (by kernel_rfl) (by kernel_rfl)
  have h7 := @run_callFunc_extern Tryz.prog 104 _ (ReflectliteType.typeOf) Tryz.func104 (by kernel_rfl) (by kernel_rfl) (by kernel_rfl) (by kernel_rfl)
  have h8 := @run_callFunc_extern Tryz.prog 250 _ (ReflectliteType.relation "AssignableTo" ReflectliteType.assignableTo) Tryz.func250 (by kernel_rfl) (by kernel_rfl) (by kernel_rfl) (by kernel_rfl)
  have h9 := @run_callFunc_extern Tryz.prog 105 _ (ReflectliteValue.method (ReflectliteValue.valueError "reflectlite.Value.Elem" 0) ReflectliteValue.elem) Tryz.func105 (by kernel_rfl) (by kernel_rfl) (by kernel_rfl) (by kernel_rfl)
  have hs := @run_callFunc_extern Tryz.prog 106 _ (ReflectliteValue.set) Tryz.func106 (by kernel_rfl) (by kernel_rfl) (by kernel_rfl) (by kernel_rfl)
  have tO := al_O
  have mA := asM_asg 471
  have aE := al_A
  have s1 := al_as
  have s2 := al_un
  have s3 := al_ul
  have m1 := al_m 471
  have m2 := al_c
  have q1 := er_eq_held
  have hb1 : Below w.heap.size w (w.alloc (.cells #[.pointer (some ⟨5, 53, none⟩), .pointer (some ⟨va, 0, none⟩), .int .u64 150] 161)) := (Below.refl _ _).alloc (Nat.le_refl _) _
  have HB1 := Lib.hid hb1
  have HO : Hid (OwnE B (w.alloc (.cells #[.pointer (some ⟨5, 53, none⟩), .pointer (some ⟨va, 0, none⟩), .int .u64 150] 161)) u (y :: l)) := Lib.hid (own_below h hb1)
  have HT := Lib.hid ht
  have HV := Lib.hid hv
  have HRV := Lib.hid (Blk.new w 161 #[.pointer (some ⟨5, 53, none⟩), .pointer (some ⟨va, 0, none⟩), .int .u64 150])
  clear h ht hv hb1
  go_enter Tryz.func50, Tryz.ntmps50
  go_wp2
  refine wp_loop_rounds 1 ?_
  rw [rounds_succ]
  go_wp2_with fail
  ((with_reducible refine (all_unwrap u (y :: l) B _ HO.out (by simp) hn).mono ?_); rintro e w2 ⟨g, cap, rfl, hown, hb2⟩)
  have HB2 := Lib.hid (HB1.out.trans (hb2.mono HB1.out.size))
  have HRV2 := Lib.hid (HRV.out.below hb2 HRV.out.lt)
  have hc : w2.cell? ⟨g, 0, none⟩ = some (.iface 48 (.agg #[.int .i64 y.1, .string ⟨y.2.toArray⟩])) := World.ownsRow.cells hown rfl 0 _ rfl
  have hgl : g < w2.heap.size := World.block_lt_of_cell? _ _ hc
  have r0 := HRV2.out.cell 0
  have r1 := HRV2.out.cell 1
  have r2 := HRV2.out.cell 2
  simp at r0 r1 r2
  have hvl : va < w.heap.size := World.block_lt_of_cell? _ _ HV.out
  have HH := Lib.hid (as_hit1 y.1 m ⟨y.2.toArray⟩ x ta va w2 (HT.out.below HB2.out HT.out.lt) (((old HB2.out).1 _ _ hvl).trans HV.out))
  clear hb2 hown
  go_wp2
  refine wp_loop_rounds 1 ?_
  rw [rounds_succ]
  go_wp2_with fail
  ((with_reducible refine HH.out.mono ?_); rintro e w3 ⟨rfl, hgr⟩)
  go_wp2
  go_ret
  exact ⟨rfl, grown_trans (grown_below (grown_refl _ _) HB2.out) hgr⟩
theorem as_all (y : Trl) (l : List Trl) (u : Value) (B : Nat) (m : Int) (x : ByteArray) (ta : Nat) (w : World) (h : OwnE B w u (y :: l)) (hn : (y :: l).length ≤ 8) (ht : Blk w ta 48 #[.int .i64 m, .string x]) (hg : w.cell? ⟨0, 0, none⟩ = some (.iface 236 (.agg #[.pointer (some ⟨5, 30, none⟩)]))) :
    Calls Tryz.prog 15 #[.iface 145 u, .iface 53 (.pointer (some ⟨ta, 0, none⟩))] w (HitP ta w) :=
  as_top _ _ ta w ht.lt hg fun va W hb hv => as_hit2 y l u B m x ta va W (show OwnE B W u (y :: l) from own_below h hb) hn (ht.below hb ht.lt) hv
end Nd
end Go.Proofs.YtbcckpnngonoeaaGreatDoor

