/-
  errors.As with a *api.Trail: its own part; an error that is an All (printed by wip/gen_csf.py; after the worked proof ToyasAs).
-/
import Derived.Test.YtbcckpnngonoeaaGreatDoorCsE
import Derived.Test.YtbcckpnngonoeaaGreatDoorCsC
import Derived.Deep.AppendLies
namespace Go.Proofs.YtbcckpnngonoeaaGreatDoor
open Go.RowKit Go.Extern.Stop Go.Stop Go.Extern Mem Utf Ref3 Idx Tok TokC Cl
set_option linter.unusedVariables false
set_option linter.unusedSimpArgs false
namespace Nd
theorem er_eq_held (T : TypeId) (v : Value) (w : World) : (binOp .eql 30 (.iface T v) .nilIface).run Tryz.prog w = .ok (.bool false) w := by kernel_rfl
theorem any_eq_held (T : TypeId) (v : Value) (w : World) : (binOp .eql 20 (.iface T v) .nilIface).run Tryz.prog w = .ok (.bool false) w := by kernel_rfl
def HitP (ta : Nat) (w : World) (e : Ending) (w' : World) : Prop := e = .returned (.bool true) ∧ w.grownBy w' (some ta)
set_option maxRecDepth 100000 in
set_option maxHeartbeats 16000000 in
theorem as_top (T : TypeId) (u : Value) (ta : Nat) (w : World) (hta : ta < w.heap.size) (hg : w.cell? ⟨0, 0, none⟩ = some (.iface 236 (.agg #[.pointer (some ⟨5, 30, none⟩)])))
    (hin : ∀ (va : Nat) (W : World), Below w.heap.size w W → W.cell? ⟨va, 0, none⟩ = some (.pointer (some ⟨ta, 0, none⟩)) → Calls Tryz.prog 50 #[.iface T u, .iface 53 (.pointer (some ⟨ta, 0, none⟩)), .agg #[.pointer (some ⟨5, 53, none⟩), .pointer (some ⟨va, 0, none⟩), .int .u64 150], .iface 236 (.agg #[.pointer (some ⟨5, 48, none⟩)])] W (HitP ta W)) :
    Calls Tryz.prog 15 #[.iface T u, .iface 53 (.pointer (some ⟨ta, 0, none⟩))] w (HitP ta w) := by
  have h1 := @run_callFunc_extern Tryz.prog 47 _ (fun args => ReflectliteValue.unpack (args.getD 0 (.tuple #[]))) Tryz.func47 (by kernel_rfl) (by kernel_rfl) (by kernel_rfl) (by kernel_rfl)
  have h2 := @run_callFunc_extern Tryz.prog 48 _ (ReflectliteValue.methodAny (ReflectliteValue.valueError "reflectlite.Value.Type" 0) (fun t _ _ _ => ReflectliteType.toType t)) Tryz.func48 (by kernel_rfl) (by kernel_rfl) (by kernel_rfl) (by kernel_rfl)
  have h3 := @run_callFunc_extern Tryz.prog 49 _ (ReflectliteValue.method (ReflectliteValue.valueError "reflectlite.Value.IsNil" 0) ReflectliteValue.isNil) Tryz.func49 (by kernel_rfl) (by kernel_rfl) (by kernel_rfl) (by kernel_rfl)
  have h4 := @run_callFunc_extern Tryz.prog 207 _ (ReflectliteType.abiMethod fun t => do pure (.int .u8 (← Rtype.kind t))) Tryz.func207 (by kernel_rfl) (by kernel_rfl) (by kernel_rfl) (by kernel_rfl)
  have h5 := @run_callFunc_extern Tryz.prog 252 _ (ReflectliteType.method ReflectliteType.elem) Tryz.func252 (by kernel_rfl) (by kernel_rfl) (by kernel_rfl) (by kernel_rfl)
  have h6 := @run_callFunc_extern Tryz.prog 253 _ (ReflectliteType.relation "Implements" ReflectliteType.implements_) Tryz.func253 (by kernel_rfl) (by kernel_rfl) (by kernel_rfl) (by kernel_rfl)
  have h7 := @run_callFunc_extern Tryz.prog 104 _ (ReflectliteType.typeOf) Tryz.func104 (by kernel_rfl) (by kernel_rfl) (by kernel_rfl) (by kernel_rfl)
  have h8 := @run_callFunc_extern Tryz.prog 250 _ (ReflectliteType.relation "AssignableTo" ReflectliteType.assignableTo) Tryz.func250 (by kernel_rfl) (by kernel_rfl) (by kernel_rfl) (by kernel_rfl)
  have h9 := @run_callFunc_extern Tryz.prog 105 _ (ReflectliteValue.method (ReflectliteValue.valueError "reflectlite.Value.Elem" 0) ReflectliteValue.elem) Tryz.func105 (by kernel_rfl) (by kernel_rfl) (by kernel_rfl) (by kernel_rfl)
  have hs := @run_callFunc_extern Tryz.prog 106 _ (ReflectliteValue.set) Tryz.func106 (by kernel_rfl) (by kernel_rfl) (by kernel_rfl) (by kernel_rfl)
  have tO := asO_E
  have mA := asM_asg 471
  have aE := asA_E
  have vE := asV_E
  have f6 := asV_P
  have f7 := asT_P
  have mK := asM_kind 471
  have mE := asM_elem 471
  have mI := asM_impl 471
  have kP := asK_P
  have kE := asK_E
  have eP := asE_P
  have iE := asI_E
  have q1 := er_eq_held
  have q2 := any_eq_held
  have hb2 : Below w.heap.size w ((w.alloc (.cells #[.pointer (some ⟨ta, 0, none⟩)] 53)).alloc (.cells #[.pointer (some ⟨5, 53, none⟩), .pointer (some ⟨w.heap.size, 0, none⟩), .int .u64 150] 161)) := ((Below.refl _ _).alloc (Nat.le_refl _) _).alloc (by simp) _
  have hgl : 0 < w.heap.size := World.block_lt_of_cell? _ _ hg
  have hc2 : ((w.alloc (.cells #[.pointer (some ⟨ta, 0, none⟩)] 53)).alloc (.cells #[.pointer (some ⟨5, 53, none⟩), .pointer (some ⟨w.heap.size, 0, none⟩), .int .u64 150] 161)).cell? ⟨w.heap.size, 0, none⟩ = some (.pointer (some ⟨ta, 0, none⟩)) := by
    simp
  have n8 := asN_P ⟨w.heap.size, 0, none⟩ ⟨ta, 0, none⟩ ((w.alloc (.cells #[.pointer (some ⟨ta, 0, none⟩)] 53)).alloc (.cells #[.pointer (some ⟨5, 53, none⟩), .pointer (some ⟨w.heap.size, 0, none⟩), .int .u64 150] 161)) hc2
  have hg2 : ((w.alloc (.cells #[.pointer (some ⟨ta, 0, none⟩)] 53)).alloc (.cells #[.pointer (some ⟨5, 53, none⟩), .pointer (some ⟨w.heap.size, 0, none⟩), .int .u64 150] 161)).cell? ⟨0, 0, none⟩ = some (.iface 236 (.agg #[.pointer (some ⟨5, 30, none⟩)])) := ((old hb2).1 _ _ hgl).trans hg
  have HIN := Lib.hid hin
  have HB2 := Lib.hid hb2
  clear hin
  go_enter Tryz.func15, Tryz.ntmps15
  go_wp2_with fail
  ((with_reducible refine (HIN.out _ _ HB2.out hc2).mono ?_); rintro e w3 ⟨rfl, hgr⟩)
  go_wp2
  go_ret
  exact ⟨rfl, grown_trans (grown_below (grown_refl _ _) HB2.out) hgr⟩
theorem as_trail (n m : Int) (s x : ByteArray) (ta : Nat) (w : World) (ht : Blk w ta 48 #[.int .i64 m, .string x]) (hg : w.cell? ⟨0, 0, none⟩ = some (.iface 236 (.agg #[.pointer (some ⟨5, 30, none⟩)]))) :
    Calls Tryz.prog 15 #[.iface 48 (.agg #[.int .i64 n, .string s]), .iface 53 (.pointer (some ⟨ta, 0, none⟩))] w (HitP ta w) :=
  as_top _ _ ta w ht.lt hg fun va W hb hv => as_hit1 n m s x ta va W (ht.below hb ht.lt) hv
theorem al_O (v : Value) (w : World) : (ReflectliteType.typeOf #[.iface 145 v]).run Tryz.prog w = .ok (.iface 236 (.agg #[.pointer (some ⟨5, 145, none⟩)])) w := by kernel_rfl
theorem al_A (w : World) : (ReflectliteType.relation "AssignableTo" ReflectliteType.assignableTo #[.agg #[.pointer (some ⟨5, 145, none⟩)], .iface 236 (.agg #[.pointer (some ⟨5, 48, none⟩)])]).run Tryz.prog w = .ok (.bool false) w := by kernel_rfl
theorem al_as (v : Value) (w : World) : (Instr.typeAssert (.iface 145 v) 30 241 true).run Tryz.prog w = .ok (.tuple #[.nilIface, .bool false]) w := Go.run_typeAssert_lacksB Tryz.underlying241 (by kernel_rfl) (by kernel_rfl) v _ w
theorem al_un (v : Value) (w : World) : (Instr.typeAssert (.iface 145 v) 30 244 true).run Tryz.prog w = .ok (.tuple #[.nilIface, .bool false]) w := Go.run_typeAssert_lacksB Tryz.underlying244 (by kernel_rfl) (by kernel_rfl) v _ w
theorem al_ul (v : Value) (w : World) : (Instr.typeAssert (.iface 145 v) 30 246 true).run Tryz.prog w = .ok (.tuple #[.iface 145 v, .bool true]) w := Go.run_typeAssert_hasB Tryz.underlying246 (by kernel_rfl) v _ w
theorem al_m (k : Nat) (v : Value) (w : World) : (method (k + 1) 145 v "Unwrap").run Tryz.prog w = .ok (234, v) w := by kernel_rfl
theorem al_c (args : Array Value) (w : World) : (callFunc 234 args).run Tryz.prog w = .ok (.enter 234 args) w := by kernel_rfl
open Go in
theorem append_by (ty : TypeId) (A : Option Addr) (n c : Nat) (x : Value) (w : World) : (Builtin.append_ #[144, 145] ty #[.slice A n c, x]).run Tryz.prog w = (Builtin.append_ #[144, 144] ty #[.slice A n c, x]).run Tryz.prog w := by
  unfold Builtin.append_
  simp [Sem.run_bind, underlying, Tryz.underlying144, Tryz.underlying145, Result.andThen]
theorem below_none {a b : World} (h : a.grownBy b none) : Below a.heap.size a b := ⟨h.os, h.tape, h.output, h.size, fun k hk => h.block k hk (fun e => by cases e)⟩
set_option maxRecDepth 100000 in
set_option maxHeartbeats 16000000 in
open Go in
/-- an append of a slice whose type has another name -/
theorem append_named {w : World} {ops : Array Oper} {rest : List Oper} {o : Oper} {a : Act} {Q : Exit → Act → World → Prop} (hgd : o.guard = none) (s x : Operand) (t t' : TypeId)
    (ho : o.op = .call { callee := .builtin .append, args := #[s, x], argTypes := #[t, t'] })
    (he : ∀ ty (A : Option Addr) (p q : Nat) (y : Value) (W : World), (Builtin.append_ #[t, t'] ty #[.slice A p q, y]).run Tryz.prog W = (Builtin.append_ #[t, t] ty #[.slice A p q, y]).run Tryz.prog W)
    (base : Nat) (e : TypeId) (i : TypeInfo) (z : Value) (size bytes : Nat) (ht : Tryz.prog.underlying t = some (.slice e)) (hi : Tryz.prog.info? e = some i) (hz : i.zero = some z)
    (hsize : i.size = size) (hby : i.bytes = bytes) (hzs : z.cells.size = size) (hsz : 0 < size)
    (v : Value) (n : Nat) (xs : List Value) (hs : a.eval s = v) (hown : w.ownsRow base e size v n xs)
    (ad : Addr) (m c : Nat) (news : List Value) (hx : a.eval x = .slice (some ad) m c) (hl : news.length = m * size) (hnews : ∀ j u, news[j]? = some u → w.cell? (ad.add j) = some u) (h1 : ∀ u ∈ news, u.oneCell' = true)
    (hm : 0 < m) (h63 : n + m ≤ maxLen) (hbytes : (n + m) * bytes ≤ 140737488355328) (hbase : base ≤ w.heap.size)
    (h : ∀ g cap w', w'.ownsRow base e size (.slice (some ⟨g, 0, none⟩) (n + m) cap) (n + m) (xs ++ news) → w.grownBy w' v.ownBlock → wpList Tryz.prog ops Q rest (a.put o.dst (.slice (some ⟨g, 0, none⟩) (n + m) cap)) w') : wpList Tryz.prog ops Q (o :: rest) a w := by
  obtain ⟨A0, q0, rfl⟩ := own_sliceP hown
  refine wpList_plain hgd fun _ hK => ?_
  obtain ⟨g, cap, w', hr, h2, h3, h4, h5⟩ := run_append_lies (P := Tryz.prog) w t o.type base e i z size bytes ht hi hz hsize hby hzs hsz _ n xs hown ad m c news hl hnews h1 hm h63 hbytes hbase w.heap.size rfl
  unfold Oper.wp execOp
  simp only [ho, resolve, invoke, builtin, Sem.run_bind, Sem.run_pure, Result.andThen_ok, List.map_toArray, List.map_cons, List.map_nil, hs, hx, he, hr]
  exact hK _ _ (h g cap w' h2 h3)
set_option maxRecDepth 100000 in
set_option maxHeartbeats 16000000 in
theorem all_unwrap (v : Value) (l : List Trl) (B : Nat) (w : World) (h : OwnE B w v l) (hl : 0 < l.length) (hn : l.length ≤ 8) :
    Calls Tryz.prog 234 #[v] w fun e w' => ∃ g cap, e = .returned (.slice (some ⟨g, 0, none⟩) l.length cap) ∧ w'.ownsRow w.heap.size 30 1 (.slice (some ⟨g, 0, none⟩) l.length cap) l.length (l.map tlV) ∧ Below w.heap.size w w' := by
  obtain ⟨i1, hi1, hy0, hy1, hy2⟩ := info_parts info_err
  obtain ⟨g0, cap0, hv⟩ := Joins.ownsRow_form h hl
  subst hv
  have hnew : ∀ j u, (l.map tlV)[j]? = some u → w.cell? ((⟨g0, 0, none⟩ : Addr).add j) = some u := World.ownsRow.cells h rfl
  have hcap := own_cap h _ _ rfl
  have hcell : ∀ u ∈ l.map tlV, u.oneCell' = true := by
    intro u hu
    obtain ⟨x, _, rfl⟩ := List.mem_map.mp hu
    rfl
  have hlen : (l.map tlV).length = l.length * 1 := by simp
  go_enter Tryz.func234, Tryz.ntmps234
  go_wp2_with
   (at_builtin
    go_loud (refine append_named rfl (.const (.slice none 0 0)) (.tmp 3) _ _ rfl append_by w.heap.size 30 i1 _ 1 16 Tryz.underlying144 hi1 hy0 hy1 hy2 rfl (by omega) (.slice none 0 0) 0 [] rfl (World.ownsRow_nil _ _ _ _) ⟨g0, 0, none⟩ l.length cap0 (l.map tlV) rfl hlen hnew hcell (by omega) (by unfold maxLen; omega) (by omega) (Nat.le_refl _) ?_)
    intro g9 cap9 w9 hown9 hgr9
    simp only [Nat.zero_add, List.nil_append] at hown9 ⊢)
  go_ret
  exact ⟨g9, cap9, rfl, hown9, below_none hgr9⟩
end Nd
end Go.Proofs.YtbcckpnngonoeaaGreatDoor

