/-
  errors.As with a *api.Trail: an error that is a Trail (printed by wip/gen_cse.py; after the worked proof ToyasAs).
-/
import Derived.Test.YtbcckpnngonoeaaGreatDoorCvW
import Derived.LaidEql
import Derived.Stop.Asserts
namespace Go.Proofs.YtbcckpnngonoeaaGreatDoor
open Go.RowKit Go.Extern.Stop Go.Stop Go.Extern Mem Utf Ref3 Idx Tok TokC Cl
set_option linter.unusedVariables false
set_option linter.unusedSimpArgs false
namespace Nd
theorem asV_P (t : Addr) (w : World) : (ReflectliteValue.unpack (.iface 53 (.pointer (some t)))).run Tryz.prog w
    = .ok (.agg #[.pointer (some ⟨5, 53, none⟩), .pointer (some ⟨w.heap.size, 0, none⟩), .int .u64 150]) (w.alloc (.cells #[.pointer (some t)] 53)) := by kernel_rfl
theorem asT_P (a : Addr) (w : World) : (ReflectliteValue.methodAny (ReflectliteValue.valueError "reflectlite.Value.Type" 0) (fun t _ _ _ => ReflectliteType.toType t) #[.agg #[.pointer (some ⟨5, 53, none⟩), .pointer (some a), .int .u64 150]]).run Tryz.prog w
    = .ok (.iface 236 (.agg #[.pointer (some ⟨5, 53, none⟩)])) w := by kernel_rfl
theorem asM_kind (k : Nat) (h : Value) (w : World) : (Go.method (k + 1) 236 (.agg #[h]) "Kind").run Tryz.prog w = .ok (207, h) w := by kernel_rfl
theorem asK_P (w : World) : ((ReflectliteType.abiMethod fun t => (fun a : Nat => Value.int IntKind.u8 (a : Int)) <$> Rtype.kind t) #[.pointer (some ⟨5, 53, none⟩)]).run Tryz.prog w = .ok (.int .u8 22) w := by kernel_rfl
theorem asK_E (w : World) : ((ReflectliteType.abiMethod fun t => (fun a : Nat => Value.int IntKind.u8 (a : Int)) <$> Rtype.kind t) #[.pointer (some ⟨5, 48, none⟩)]).run Tryz.prog w = .ok (.int .u8 25) w := by kernel_rfl
theorem as_rlm (z : Sem Value) (f : TypeId → Addr → Nat → Nat → Sem Value) (v : Value) :
    ReflectliteValue.method z f #[v] = (do match ← ReflectliteValue.parts v with | none => z | some (t, a, fl) => f t a fl (fl % 32)) := rfl
theorem asP_P (a : Addr) (w : World) : (ReflectliteValue.parts (.agg #[.pointer (some ⟨5, 53, none⟩), .pointer (some a), .int .u64 150])).run Tryz.prog w = .ok (some (53, a, 150)) w := by kernel_rfl
theorem asN_P (a p : Addr) (W : World) (ha : W.cell? a = some (.pointer (some p))) :
    (ReflectliteValue.method (ReflectliteValue.valueError "reflectlite.Value.IsNil" 0) ReflectliteValue.isNil #[.agg #[.pointer (some ⟨5, 53, none⟩), .pointer (some a), .int .u64 150]]).run Tryz.prog W = .ok (.bool false) W := by
  rw [as_rlm]
  simp only [Sem.run_bind, asP_P, Result.andThen]
  simp [ReflectliteValue.isNil, loadVar, isAgg, underlying, Tryz.underlying53, ha, Result.andThen]
theorem asM_elem (k : Nat) (h : Value) (w : World) : (Go.method (k + 1) 236 (.agg #[h]) "Elem").run Tryz.prog w = .ok (252, .agg #[h]) w := by kernel_rfl
theorem asM_impl (k : Nat) (h : Value) (w : World) : (Go.method (k + 1) 236 (.agg #[h]) "Implements").run Tryz.prog w = .ok (253, .agg #[h]) w := by kernel_rfl
theorem asM_asg (k : Nat) (h : Value) (w : World) : (Go.method (k + 1) 236 (.agg #[h]) "AssignableTo").run Tryz.prog w = .ok (250, .agg #[h]) w := by kernel_rfl
theorem asE_P (w : World) : (ReflectliteType.method ReflectliteType.elem #[.agg #[.pointer (some ⟨5, 53, none⟩)]]).run Tryz.prog w = .ok (.iface 236 (.agg #[.pointer (some ⟨5, 48, none⟩)])) w := by kernel_rfl
theorem asI_E (w : World) : (ReflectliteType.relation "Implements" ReflectliteType.implements_ #[.agg #[.pointer (some ⟨5, 48, none⟩)], .iface 236 (.agg #[.pointer (some ⟨5, 30, none⟩)])]).run Tryz.prog w = .ok (.bool true) w := by kernel_rfl
theorem asO_E (v : Value) (w : World) : (ReflectliteType.typeOf #[.iface 48 v]).run Tryz.prog w = .ok (.iface 236 (.agg #[.pointer (some ⟨5, 48, none⟩)])) w := by kernel_rfl
theorem asA_E (w : World) : (ReflectliteType.relation "AssignableTo" ReflectliteType.assignableTo #[.agg #[.pointer (some ⟨5, 48, none⟩)], .iface 236 (.agg #[.pointer (some ⟨5, 48, none⟩)])]).run Tryz.prog w = .ok (.bool true) w := by kernel_rfl
theorem asV_E (n : Int) (s : ByteArray) (w : World) : (ReflectliteValue.unpack (.iface 48 (.agg #[.int .i64 n, .string s]))).run Tryz.prog w
    = .ok (.agg #[.pointer (some ⟨5, 48, none⟩), .pointer (some ⟨w.heap.size, 0, none⟩), .int .u64 153]) (w.alloc (.cells #[.int .i64 n, .string s] 48)) := by kernel_rfl
theorem as_el (w : World) : (Rtype.elem? 53).run Tryz.prog w = .ok (some 48) w := by kernel_rfl
theorem as_mk (p : Addr) (w : World) : (ReflectliteValue.mk 48 p ReflectliteValue.flagAddr).run Tryz.prog w = .ok (.agg #[.pointer (some ⟨5, 48, none⟩), .pointer (some p), .int .u64 409]) w := by kernel_rfl
theorem asEl_P (a p : Addr) (W : World) (ha : W.cell? a = some (.pointer (some p))) :
    (ReflectliteValue.method (ReflectliteValue.valueError "reflectlite.Value.Elem" 0) ReflectliteValue.elem #[.agg #[.pointer (some ⟨5, 53, none⟩), .pointer (some a), .int .u64 150]]).run Tryz.prog W
      = .ok (.agg #[.pointer (some ⟨5, 48, none⟩), .pointer (some p), .int .u64 409]) W := by
  rw [as_rlm]
  simp only [Sem.run_bind, asP_P, Result.andThen]
  simp [ReflectliteValue.elem, loadVar, isAgg, underlying, Tryz.underlying53, ha, Result.andThen, as_el, as_mk]
theorem as_rls (v x : Value) : ReflectliteValue.set #[v, x] = (do
    let (some (dst, a, fl), some (src, b, _)) := (← ReflectliteValue.parts v, ← ReflectliteValue.parts x)
      | unsupported (.noEntry "extern/(internal/reflectlite.Value).Set.zeroValue")
    if fl / ReflectliteValue.flagAddr % 2 == 0 then unsupported (.noEntry "extern/(internal/reflectlite.Value).Set.unaddressable")
    let val ← loadVar src b
    if ← Rtype.directlyAssignable dst src then storeVar dst a val
    else if ← Rtype.implements dst src then
      if (← Rtype.kind src) == 20 then
        match val with
        | .nilIface => unsupported (.noEntry "extern/reflectlite: a nil value of one interface type handed on as a value of another")
        | _ => storeVar dst a val
      else storeVar dst a (.iface src val)
    else panicString ("reflectlite.Set: value of type " ++ (← Rtype.spelt src) ++ " is not assignable to type " ++ (← Rtype.spelt dst))
    pure (.tuple #[])) := rfl
theorem asP_Ea (a : Addr) (w : World) : (ReflectliteValue.parts (.agg #[.pointer (some ⟨5, 48, none⟩), .pointer (some a), .int .u64 409])).run Tryz.prog w = .ok (some (48, a, 409)) w := by kernel_rfl
theorem asP_E (a : Addr) (w : World) : (ReflectliteValue.parts (.agg #[.pointer (some ⟨5, 48, none⟩), .pointer (some a), .int .u64 153])).run Tryz.prog w = .ok (some (48, a, 153)) w := by kernel_rfl
theorem asD_E (w : World) : (Rtype.directlyAssignable 48 48).run Tryz.prog w = .ok true w := by kernel_rfl
theorem asSet_E (ta b : Nat) (n m : Int) (s x : ByteArray) (W : World) (h0 : W.cell? ⟨b, 0, none⟩ = some (.int .i64 n)) (h1 : W.cell? ⟨b, 1, none⟩ = some (.string s)) (hb : Blk W ta 48 #[.int .i64 m, .string x]) :
    (ReflectliteValue.set #[.agg #[.pointer (some ⟨5, 48, none⟩), .pointer (some ⟨ta, 0, none⟩), .int .u64 409], .agg #[.pointer (some ⟨5, 48, none⟩), .pointer (some ⟨b, 0, none⟩), .int .u64 153]]).run Tryz.prog W
      = .ok (.tuple #[]) ((W.setCell ⟨ta, 0, none⟩ (.int .i64 n)).setCell ⟨ta, 1, none⟩ (.string s)) := by
  have c0 := hb.cell 0
  have c1 := (hb.put 0 (.int .i64 n)).cell 1
  have f0 := hb.frozen 0
  have f1 := (hb.put 0 (.int .i64 n)).frozen 1
  simp at c0 c1
  rw [as_rls]
  simp only [Sem.run_bind, asP_Ea, asP_E, Result.andThen]
  simp [ReflectliteValue.flagAddr, loadVar, isAgg, underlying, Tryz.underlying48, h0, h1, Result.andThen, asD_E, storeVar, Value.cells, storeCells, Addr.add]
  simp [loadCells, loadCellsFrom, go_sem, Addr.add, h0, h1, c0, c1, f0, f1, storeCells, Result.andThen]
set_option maxRecDepth 100000 in
set_option maxHeartbeats 16000000 in
theorem as_hit1 (n m : Int) (s x : ByteArray) (ta va : Nat) (w : World) (ht : Blk w ta 48 #[.int .i64 m, .string x]) (hv : w.cell? ⟨va, 0, none⟩ = some (.pointer (some ⟨ta, 0, none⟩))) :
    Calls Tryz.prog 50 #[.iface 48 (.agg #[.int .i64 n, .string s]), .iface 53 (.pointer (some ⟨ta, 0, none⟩)), .agg #[.pointer (some ⟨5, 53, none⟩), .pointer (some ⟨va, 0, none⟩), .int .u64 150], .iface 236 (.agg #[.pointer (some ⟨5, 48, none⟩)])] w fun e w' => e = .returned (.bool true) ∧ w.grownBy w' (some ta) := by
  have h1 := @run_callFunc_extern Tryz.prog 47 _ (fun args => ReflectliteValue.unpack (args.getD 0 (.tuple #[]))) Tryz.func47 (by kernel_rfl) (by kernel_rfl) (by kernel_rfl) (by kernel_rfl)
  have h2 := @run_callFunc_extern Tryz.prog 48 _ (ReflectliteValue.methodAny (ReflectliteValue.valueError "reflectlite.Value.Type" 0) (fun t _ _ _ => ReflectliteType.toType t)) Tryz.func48 (by kernel_rfl) (by kernel_rfl) (by kernel_rfl) (by kernel_rfl)
  have h3 := @run_callFunc_extern Tryz.prog 49 _ (ReflectliteValue.method (ReflectliteValue.valueError "reflectlite.Value.IsNil" 0) ReflectliteValue.isNil) Tryz.func49 (by kernel_rfl) (by kernel_rfl) (by kernel_rfl) (by kernel_rfl)
  have h4 := @run_callFunc_extern Tryz.prog 207 _ (ReflectliteType.abiMethod fun t => do pure (.int .u8 (← Rtype.kind t))) Tryz.func207 (by kernel_rfl) (by kernel_rfl) (by kernel_rfl) (by kernel_rfl)
  have h5 := @run_callFunc_extern Tryz.prog 252 _ (ReflectliteType.method ReflectliteType.elem) Tryz.func252 (by kernel_rfl) (by kernel_rfl) (by kernel_rfl) (by kernel_rfl)
  have h6 := @run_callFunc_extern Tryz.prog 253 _ (ReflectliteType.relation "Implements" ReflectliteType.implements_) Tryz.func253 (by kernel_rfl) (by kernel_rfl) (by kernel_rfl) (by kernel_rfl)
  have h7 := @run_callFunc_extern Tryz.prog 104 _ (ReflectliteType.typeOf) Tryz.func104 (by kernel_rfl) (by kernel_rfl) (by kernel_rfl) (by kernel_rfl)
  have h8 := @run_callFunc_extern Tryz.prog 250 _ (ReflectliteType.relation "AssignableTo" ReflectliteType.assignableTo) Tryz.func250 (by kernel_rfl) (by kernel_rfl) (by kernel_rfl) (by kernel_rfl)
  have h9 := @run_callFunc_extern Tryz.prog 105 _ (ReflectliteValue.method (ReflectliteValue.valueError "reflectlite.Value.Elem" 0) ReflectliteValue.elem) Tryz.func105 (by kernel_rfl) (by kernel_rfl) (by kernel_rfl) (by kernel_rfl)
  have hs := @run_callFunc_extern Tryz.prog 106 _ (ReflectliteValue.set) Tryz.func106 (by kernel_rfl) (by kernel_rfl) (by kernel_rfl) (by kernel_rfl)
  have tO := asO_E
  have mA := asM_asg 471
  have aE := asA_E
  have vE := asV_E
  have f6 := asV_P
  have f7 := asT_P
  have mK := asM_kind 471
  have mE := asM_elem 471
  have mI := asM_impl 471
  have kP := asK_P
  have kE := asK_E
  have eP := asE_P
  have iE := asI_E
  have hvl : va < w.heap.size := World.block_lt_of_cell? _ _ hv
  have el := asEl_P ⟨va, 0, none⟩ ⟨ta, 0, none⟩ (w.alloc (.cells #[.pointer (some ⟨5, 53, none⟩), .pointer (some ⟨va, 0, none⟩), .int .u64 150] 161)) (by rw [World.cell?_alloc_lt _ _ ⟨va, 0, none⟩ hvl]; exact hv)
  have hb2 : Below w.heap.size w ((w.alloc (.cells #[.pointer (some ⟨5, 53, none⟩), .pointer (some ⟨va, 0, none⟩), .int .u64 150] 161)).alloc (.cells #[.int .i64 n, .string s] 48)) := ((Below.refl _ _).alloc (Nat.le_refl _) _).alloc (by simp) _
  have hB := Blk.new (w.alloc (.cells #[.pointer (some ⟨5, 53, none⟩), .pointer (some ⟨va, 0, none⟩), .int .u64 150] 161)) 48 #[.int .i64 n, .string s]
  rw [World.size_alloc] at hB
  have st := asSet_E ta (w.heap.size + 1) n m s x _ (hB.cell 0) (hB.cell 1) (ht.below hb2 ht.lt)
  clear hB hv
  go_enter Tryz.func50, Tryz.ntmps50
  go_wp2
  refine wp_loop_rounds 1 ?_
  rw [rounds_succ]
  go_wp2
  go_ret
  exact ⟨rfl, grown_put (grown_put (grown_below (grown_refl _ _) hb2) 0 _) 1 _⟩
end Nd
end Go.Proofs.YtbcckpnngonoeaaGreatDoor

