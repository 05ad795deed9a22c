/-
  The shelf's contracts at this dump, in plain words (laid by the kit's own tools; their remarks are left out).
-/
import Derived.Test.YtbajkglacfheiaaGreatDoorProg
import Derived.Shelf.Strings.Builder1
import Derived.Shelf.Strings.Builder2
import Derived.Shelf.Small.Bits
import Derived.Shelf.Small.Wraps
import Derived.Shelf.Strings.BuilderF
import Derived.Shelf.Strings.BuilderK
import Derived.Shelf.Strings.Builder2Cap
import Derived.Shelf.Strconv.Atoi
import Derived.Shelf.Strconv.Itoa0
import Derived.Shelf.Strconv.Itoa1
import Derived.Shelf.LaysM
import Derived.Shelf.Strconv.Itoa2
import Derived.Shelf.Strconv.Itoa3
import Derived.Shelf.Strconv.AtoiErrFast
import Derived.Shelf.Strconv.ParseIntEmpty
import Derived.Shelf.Strconv.AtoiFail
import Derived.Shelf.Strconv.Clone
import Derived.Shelf.Strconv.SyntaxError
import Derived.Shelf.LaysC
import Derived.Shelf.Strconv.ToError
import Derived.Shelf.Strconv.Lower
import Derived.Shelf.Strconv.ParseUint10
import Derived.Shelf.Strconv.ParseUint10Empty
import Derived.Shelf.Strconv.ParseUint10Any
import Derived.Shelf.Strconv.ParseInt10
import Derived.Shelf.Strconv.AtoiLong
import Derived.Shelf.Strconv.AtoiInnerAll
import Derived.Shelf.Strconv.RangeError
import Derived.Shelf.Strconv.ToErrorRange
import Derived.Shelf.Strconv.AtoiAll
import Derived.Shelf.Strconv.ErrVarAll
import Derived.Shelf.Strings.Search1
import Derived.Shelf.Strings.Search2
import Derived.Shelf.Strings.Search3
import Derived.Shelf.Strings.Cut
import Derived.Shelf.Strings.Count
import Derived.Shelf.Strings.Shaped
import Derived.Shelf.Strings.Split
import Derived.Shelf.Strings.Replace
import Derived.Shelf.Strings.SplitShaped
import Derived.Shelf.Unicode.DecodeSlow
import Derived.Shelf.Strings.BuilderCap
import Derived.Ground.Names2Prog
import Derived.Shelf.Slices.Clone
import Derived.Ground.SlsfProg
import Derived.Shelf.SlSortCmp.Insertion
import Derived.Shelf.SlSortCmp.SiftDown1
import Derived.Shelf.SlSortCmp.HeapSort1
import Derived.Shelf.SlSortCmp.Insertion1
import Derived.Shelf.SlSortCmp.Median1
import Derived.Shelf.SlSortCmp.Pivot1
import Derived.Shelf.SlSortCmp.ReverseRange1
import Derived.Shelf.SlSortCmp.PartialInsertion1
import Derived.Shelf.SlSortCmp.PartitionEqual1
import Derived.Shelf.SlSortCmp.Partition1
import Derived.Shelf.SlSortCmp.Pdq1
import Derived.Shelf.SlSortCmp.Whole1
import Derived.Shelf.SlSortCmp.NoneTotal
set_option linter.unusedVariables false
set_option linter.unusedSimpArgs false
set_option maxRecDepth 100000
set_option maxHeartbeats 16000000
namespace Go.Proofs
open Go.Shelf
def Tryz.lays169_ren : Go.Shelf.Ren := ⟨fun | 169 => 99 | n => n, fun | 70 => 228 | 9 => 9 | 0 => 0 | 72 => 230 | 37 => 89 | 127 => 304 | 3 => 3 | 5 => 5 | n => n, fun | n => n⟩
theorem Tryz.lays169 : Go.Proofs.Lays.n169 Tryz.prog Tryz.lays169_ren := {
 mixed := by kernel_rfl
 f169 := Tryz.func99.trans (congrArg some (by kernel_rfl))
 t0 := Tryz.underlying0
 a0 := Tryz.isAgg0
 z0 := Tryz.sizeOf0
 v0 := Tryz.zeroValue0
 t3 := Tryz.underlying3
 a3 := Tryz.isAgg3
 z3 := Tryz.sizeOf3
 v3 := Tryz.zeroValue3
 t9 := Tryz.underlying9
 a9 := Tryz.isAgg9
 z9 := Tryz.sizeOf9
 v9 := Tryz.zeroValue9
 t37 := Tryz.underlying89
 a37 := Tryz.isAgg89
 z37 := Tryz.sizeOf89
 v37 := Tryz.zeroValue89
 t70 := Tryz.underlying228
 a70 := Tryz.isAgg228
 z70 := Tryz.sizeOf228
 v70 := Tryz.zeroValue228
 t72 := Tryz.underlying230
 a72 := Tryz.isAgg230
 z72 := Tryz.sizeOf230
 v72 := Tryz.zeroValue230
 t127 := Tryz.underlying304
 a127 := Tryz.isAgg304
 z127 := Tryz.sizeOf304
 v127 := Tryz.zeroValue304 }
theorem Tryz.Builder_Extra_169 : Builder.Extra Tryz.prog Tryz.lays169_ren := {
 sizeBuilder := by kernel_rfl
 liesBuilder := by kernel_rfl
 t5 := Tryz.underlying5
 a5 := Tryz.isAgg5
 z5 := Tryz.sizeOf5
 v5 := Tryz.zeroValue5
 infoByte := by kernel_rfl
 cellsByte := by kernel_rfl
 sizeByte := by kernel_rfl
 neB5 := by decide }
open Go.RowKit in
theorem Tryz.Builder_String_any_f (B b : Nat) (l : List UInt8) (w : World) (h : Lib.IsBuilderF 230 5 B b (Lib.byteCells l) w) (hBw : B ≤ w.heap.size) :
  Calls Tryz.prog 99 #[.pointer (some ⟨b, 0, none⟩)] w fun e w' => e = .returned (.string ⟨l.toArray⟩) ∧ (Lib.IsBuilderF 230 5 B b (Lib.byteCells l) w' ∧ Below B w w') := Any.Builder_String_any_f Tryz.lays169 Tryz.Builder_Extra_169 B b l w h hBw
def Tryz.laysM171_ren : Go.Shelf.Ren := ⟨fun | 171 => 112 | 243 => 150 | 246 => 179 | 283 => 205 | 284 => 206 | 285 => 207 | 286 => 208 | 129 => 189 | 317 => 225 | 318 => 226 | 319 => 227 | 320 => 228 | 337 => 235 | 338 => 236 | n => n, fun | 3 => 3 | 9 => 9 | 2 => 2 | 4 => 4 | 171 => 361 | 0 => 0 | 53 => 64 | 37 => 89 | 5 => 5 | 173 => 363 | 212 => 384 | 51 => 88 | 20 => 20 | 213 => 385 | 46 => 87 | 232 => 398 | 233 => 399 | n => n, fun | 17 => 4 | 18 => 7 | 19 => 8 | n => n⟩
theorem Tryz.laysM171 : Go.Proofs.LaysM.n171 Tryz.prog Tryz.laysM171_ren := {
 mixed := by kernel_rfl
 f129 := Tryz.func189.trans (congrArg some (by kernel_rfl))
 f171 := Tryz.func112.trans (congrArg some (by kernel_rfl))
 f243 := Tryz.func150.trans (congrArg some (by kernel_rfl))
 f246 := Tryz.func179.trans (congrArg some (by kernel_rfl))
 f283 := Tryz.func205.trans (congrArg some (by kernel_rfl))
 f284 := Tryz.func206.trans (congrArg some (by kernel_rfl))
 f285 := Tryz.func207.trans (congrArg some (by kernel_rfl))
 f286 := Tryz.func208.trans (congrArg some (by kernel_rfl))
 f317 := Tryz.func225.trans (congrArg some (by kernel_rfl))
 f318 := Tryz.func226.trans (congrArg some (by kernel_rfl))
 f319 := Tryz.func227.trans (congrArg some (by kernel_rfl))
 f320 := Tryz.func228.trans (congrArg some (by kernel_rfl))
 f337 := Tryz.func235.trans (congrArg some (by kernel_rfl))
 f338 := Tryz.func236.trans (congrArg some (by kernel_rfl))
 t0 := Tryz.underlying0
 a0 := Tryz.isAgg0
 z0 := Tryz.sizeOf0
 v0 := Tryz.zeroValue0
 t2 := Tryz.underlying2
 a2 := Tryz.isAgg2
 z2 := Tryz.sizeOf2
 v2 := Tryz.zeroValue2
 t3 := Tryz.underlying3
 a3 := Tryz.isAgg3
 z3 := Tryz.sizeOf3
 v3 := Tryz.zeroValue3
 t4 := Tryz.underlying4
 a4 := Tryz.isAgg4
 z4 := Tryz.sizeOf4
 v4 := Tryz.zeroValue4
 t5 := Tryz.underlying5
 a5 := Tryz.isAgg5
 z5 := Tryz.sizeOf5
 v5 := Tryz.zeroValue5
 t9 := Tryz.underlying9
 a9 := Tryz.isAgg9
 z9 := Tryz.sizeOf9
 v9 := Tryz.zeroValue9
 t20 := Tryz.underlying20
 a20 := Tryz.isAgg20
 z20 := Tryz.sizeOf20
 v20 := Tryz.zeroValue20
 t37 := Tryz.underlying89
 a37 := Tryz.isAgg89
 z37 := Tryz.sizeOf89
 v37 := Tryz.zeroValue89
 t46 := Tryz.underlying87
 a46 := Tryz.isAgg87
 z46 := Tryz.sizeOf87
 v46 := Tryz.zeroValue87
 t51 := Tryz.underlying88
 a51 := Tryz.isAgg88
 z51 := Tryz.sizeOf88
 v51 := Tryz.zeroValue88
 t53 := Tryz.underlying64
 a53 := Tryz.isAgg64
 z53 := Tryz.sizeOf64
 v53 := Tryz.zeroValue64
 t171 := Tryz.underlying361
 a171 := Tryz.isAgg361
 z171 := Tryz.sizeOf361
 v171 := Tryz.zeroValue361
 t173 := Tryz.underlying363
 a173 := Tryz.isAgg363
 z173 := Tryz.sizeOf363
 v173 := Tryz.zeroValue363
 t212 := Tryz.underlying384
 a212 := Tryz.isAgg384
 z212 := Tryz.sizeOf384
 v212 := Tryz.zeroValue384
 t213 := Tryz.underlying385
 a213 := Tryz.isAgg385
 z213 := Tryz.sizeOf385
 t232 := Tryz.underlying398
 a232 := Tryz.isAgg398
 z232 := Tryz.sizeOf398
 v232 := Tryz.zeroValue398
 t233 := Tryz.underlying399
 a233 := Tryz.isAgg399
 z233 := Tryz.sizeOf399
 v233 := Tryz.zeroValue399
 g17 := by kernel_rfl
 g18 := by kernel_rfl
 g19 := by kernel_rfl
 i0 := by kernel_rfl
 i2 := by kernel_rfl
 i3 := by kernel_rfl
 i4 := by kernel_rfl
 i5 := by kernel_rfl
 i9 := by kernel_rfl
 i20 := by kernel_rfl
 i37 := by kernel_rfl
 i46 := by kernel_rfl
 i51 := by kernel_rfl
 i53 := by kernel_rfl
 i171 := by kernel_rfl
 i173 := by kernel_rfl
 i212 := by kernel_rfl
 i232 := by kernel_rfl
 i233 := by kernel_rfl
 m17 := by kernel_rfl
 m18 := by kernel_rfl
 m19 := by kernel_rfl }
open Go.RowKit Go.Sort Go.Lib in
theorem Tryz.strconv_Itoa (n : Int) (h0 : -9223372036854775808 ≤ n) (h1 : n ≤ 9223372036854775807) (w : World) (htab : Lib.TabIs Tryz.prog w "internal/strconv.uint64pow10" .u64 Lib.pow10Tab) :
  Calls Tryz.prog 112 #[.int .i64 n] w fun e w' => e = .returned (.string ⟨(Lib.itoa n).toArray⟩) ∧ ∃ k os, w' = grow (w.drewN k) os := Any.strconv_Itoa Tryz.laysM171 n h0 h1 w htab
def Tryz.laysC172_ren : Go.Shelf.Ren := ⟨fun | 172 => 164 | 244 => 200 | 245 => 201 | 247 => 219 | 279 => 220 | 280 => 221 | 281 => 222 | 282 => 223 | 287 => 231 | 316 => 232 | 171 => 112 | 205 => 233 | 321 => 237 | 322 => 238 | 243 => 150 | 246 => 179 | 283 => 205 | 284 => 206 | 285 => 207 | 286 => 208 | 129 => 189 | 317 => 225 | 318 => 226 | 319 => 227 | 320 => 228 | 337 => 235 | 338 => 236 | n => n, fun | 9 => 9 | 3 => 3 | 75 => 25 | 76 => 231 | 4 => 4 | 5 => 5 | 167 => 378 | 37 => 89 | 0 => 0 | 85 => 319 | 2 => 2 | 168 => 380 | 53 => 64 | 175 => 321 | 46 => 87 | 210 => 392 | 127 => 304 | 145 => 397 | 143 => 395 | 21 => 21 | 171 => 361 | 173 => 363 | 212 => 384 | 51 => 88 | 20 => 20 | 213 => 385 | 232 => 398 | 233 => 399 | 80 => 234 | n => n, fun | 15 => 5 | 16 => 6 | 17 => 4 | 18 => 7 | 19 => 8 | n => n⟩
theorem Tryz.laysC172 : Go.Proofs.LaysC.n172 Tryz.prog Tryz.laysC172_ren := {
 mixed := by kernel_rfl
 f129 := Tryz.func189.trans (congrArg some (by kernel_rfl))
 f171 := Tryz.func112.trans (congrArg some (by kernel_rfl))
 f172 := Tryz.func164.trans (congrArg some (by kernel_rfl))
 f205 := Tryz.func233.trans (congrArg some (by kernel_rfl))
 f243 := Tryz.func150.trans (congrArg some (by kernel_rfl))
 f244 := Tryz.func200.trans (congrArg some (by kernel_rfl))
 f245 := Tryz.func201.trans (congrArg some (by kernel_rfl))
 f246 := Tryz.func179.trans (congrArg some (by kernel_rfl))
 f247 := Tryz.func219.trans (congrArg some (by kernel_rfl))
 f279 := Tryz.func220.trans (congrArg some (by kernel_rfl))
 f280 := Tryz.func221.trans (congrArg some (by kernel_rfl))
 f281 := Tryz.func222.trans (congrArg some (by kernel_rfl))
 f282 := Tryz.func223.trans (congrArg some (by kernel_rfl))
 f283 := Tryz.func205.trans (congrArg some (by kernel_rfl))
 f284 := Tryz.func206.trans (congrArg some (by kernel_rfl))
 f285 := Tryz.func207.trans (congrArg some (by kernel_rfl))
 f286 := Tryz.func208.trans (congrArg some (by kernel_rfl))
 f287 := Tryz.func231.trans (congrArg some (by kernel_rfl))
 f316 := Tryz.func232.trans (congrArg some (by kernel_rfl))
 f317 := Tryz.func225.trans (congrArg some (by kernel_rfl))
 f318 := Tryz.func226.trans (congrArg some (by kernel_rfl))
 f319 := Tryz.func227.trans (congrArg some (by kernel_rfl))
 f320 := Tryz.func228.trans (congrArg some (by kernel_rfl))
 f321 := Tryz.func237.trans (congrArg some (by kernel_rfl))
 f322 := Tryz.func238.trans (congrArg some (by kernel_rfl))
 f337 := Tryz.func235.trans (congrArg some (by kernel_rfl))
 f338 := Tryz.func236.trans (congrArg some (by kernel_rfl))
 t0 := Tryz.underlying0
 a0 := Tryz.isAgg0
 z0 := Tryz.sizeOf0
 v0 := Tryz.zeroValue0
 t2 := Tryz.underlying2
 a2 := Tryz.isAgg2
 z2 := Tryz.sizeOf2
 v2 := Tryz.zeroValue2
 t3 := Tryz.underlying3
 a3 := Tryz.isAgg3
 z3 := Tryz.sizeOf3
 v3 := Tryz.zeroValue3
 t4 := Tryz.underlying4
 a4 := Tryz.isAgg4
 z4 := Tryz.sizeOf4
 v4 := Tryz.zeroValue4
 t5 := Tryz.underlying5
 a5 := Tryz.isAgg5
 z5 := Tryz.sizeOf5
 v5 := Tryz.zeroValue5
 t9 := Tryz.underlying9
 a9 := Tryz.isAgg9
 z9 := Tryz.sizeOf9
 v9 := Tryz.zeroValue9
 t20 := Tryz.underlying20
 a20 := Tryz.isAgg20
 z20 := Tryz.sizeOf20
 v20 := Tryz.zeroValue20
 t21 := Tryz.underlying21
 a21 := Tryz.isAgg21
 z21 := Tryz.sizeOf21
 v21 := Tryz.zeroValue21
 t37 := Tryz.underlying89
 a37 := Tryz.isAgg89
 z37 := Tryz.sizeOf89
 v37 := Tryz.zeroValue89
 t46 := Tryz.underlying87
 a46 := Tryz.isAgg87
 z46 := Tryz.sizeOf87
 v46 := Tryz.zeroValue87
 t51 := Tryz.underlying88
 a51 := Tryz.isAgg88
 z51 := Tryz.sizeOf88
 v51 := Tryz.zeroValue88
 t53 := Tryz.underlying64
 a53 := Tryz.isAgg64
 z53 := Tryz.sizeOf64
 v53 := Tryz.zeroValue64
 t75 := Tryz.underlying25
 a75 := Tryz.isAgg25
 z75 := Tryz.sizeOf25
 v75 := Tryz.zeroValue25
 t76 := Tryz.underlying231
 a76 := Tryz.isAgg231
 z76 := Tryz.sizeOf231
 v76 := Tryz.zeroValue231
 t85 := Tryz.underlying319
 a85 := Tryz.isAgg319
 z85 := Tryz.sizeOf319
 v85 := Tryz.zeroValue319
 t127 := Tryz.underlying304
 a127 := Tryz.isAgg304
 z127 := Tryz.sizeOf304
 v127 := Tryz.zeroValue304
 t143 := Tryz.underlying395
 a143 := Tryz.isAgg395
 z143 := Tryz.sizeOf395
 v143 := Tryz.zeroValue395
 t145 := Tryz.underlying397
 a145 := Tryz.isAgg397
 z145 := Tryz.sizeOf397
 v145 := Tryz.zeroValue397
 t167 := Tryz.underlying378
 a167 := Tryz.isAgg378
 z167 := Tryz.sizeOf378
 v167 := Tryz.zeroValue378
 t168 := Tryz.underlying380
 a168 := Tryz.isAgg380
 z168 := Tryz.sizeOf380
 v168 := Tryz.zeroValue380
 t171 := Tryz.underlying361
 a171 := Tryz.isAgg361
 z171 := Tryz.sizeOf361
 v171 := Tryz.zeroValue361
 t173 := Tryz.underlying363
 a173 := Tryz.isAgg363
 z173 := Tryz.sizeOf363
 v173 := Tryz.zeroValue363
 t175 := Tryz.underlying321
 a175 := Tryz.isAgg321
 z175 := Tryz.sizeOf321
 v175 := Tryz.zeroValue321
 t210 := Tryz.underlying392
 a210 := Tryz.isAgg392
 z210 := Tryz.sizeOf392
 v210 := Tryz.zeroValue392
 t212 := Tryz.underlying384
 a212 := Tryz.isAgg384
 z212 := Tryz.sizeOf384
 v212 := Tryz.zeroValue384
 t213 := Tryz.underlying385
 a213 := Tryz.isAgg385
 z213 := Tryz.sizeOf385
 t232 := Tryz.underlying398
 a232 := Tryz.isAgg398
 z232 := Tryz.sizeOf398
 v232 := Tryz.zeroValue398
 t233 := Tryz.underlying399
 a233 := Tryz.isAgg399
 z233 := Tryz.sizeOf399
 v233 := Tryz.zeroValue399
 g15 := by kernel_rfl
 g16 := by kernel_rfl
 g17 := by kernel_rfl
 g18 := by kernel_rfl
 g19 := by kernel_rfl
 t80 := Tryz.underlying234
 a80 := Tryz.isAgg234
 z80 := Tryz.sizeOf234
 v80 := Tryz.zeroValue234
 i0 := by kernel_rfl
 i2 := by kernel_rfl
 i3 := by kernel_rfl
 i4 := by kernel_rfl
 i5 := by kernel_rfl
 i9 := by kernel_rfl
 i20 := by kernel_rfl
 i21 := by kernel_rfl
 i37 := by kernel_rfl
 i46 := by kernel_rfl
 i51 := by kernel_rfl
 i53 := by kernel_rfl
 i75 := by kernel_rfl
 i76 := by kernel_rfl
 i80 := by kernel_rfl
 i85 := by kernel_rfl
 i127 := by kernel_rfl
 i143 := by kernel_rfl
 i145 := by kernel_rfl
 i167 := by kernel_rfl
 i168 := by kernel_rfl
 i171 := by kernel_rfl
 i173 := by kernel_rfl
 i175 := by kernel_rfl
 i210 := by kernel_rfl
 i212 := by kernel_rfl
 i232 := by kernel_rfl
 i233 := by kernel_rfl
 m15 := by kernel_rfl
 m16 := by kernel_rfl
 m17 := by kernel_rfl
 m18 := by kernel_rfl
 m19 := by kernel_rfl
 c0 := by kernel_rfl
 c2 := by kernel_rfl
 c3 := by kernel_rfl
 c4 := by kernel_rfl
 c5 := by kernel_rfl
 c9 := by kernel_rfl
 c20 := by kernel_rfl
 c21 := by kernel_rfl
 c37 := by kernel_rfl
 c46 := by kernel_rfl
 c51 := by kernel_rfl
 c53 := by kernel_rfl
 c75 := by kernel_rfl
 c76 := by kernel_rfl
 c80 := by kernel_rfl
 c85 := by kernel_rfl
 c127 := by kernel_rfl
 c143 := by kernel_rfl
 c145 := by kernel_rfl
 c167 := by kernel_rfl
 c168 := by kernel_rfl
 c171 := by kernel_rfl
 c173 := by kernel_rfl
 c175 := by kernel_rfl
 c210 := by kernel_rfl
 c212 := by kernel_rfl
 c213 := by kernel_rfl
 c232 := by kernel_rfl
 c233 := by kernel_rfl }
open Go.RowKit in
theorem Tryz.strconv_Atoi_ok (s : ByteArray) (hmax : s.size ≤ 9223372036854775806) (v : Int) (h : Lib.atoiAll s.data.toList = .ok v) (w : World) :
  Calls Tryz.prog 164 #[.string s] w fun e w' => e = .returned (.tuple #[.int .i64 v, .nilIface]) ∧ (w' = w ∨ ∃ t, w' = Lib.bytesWorld w 5 t) := Any.strconv_Atoi_ok Tryz.laysC172 s hmax v h w
open Go.RowKit in
theorem Tryz.strconv_Atoi_range_var (s : ByteArray) (hlim : s.size ≤ 281474976710656) (h : Lib.atoiAll s.data.toList = .range) (tp : TypeId) (p : Value) (w : World) (hvar : w.var? Tryz.prog "strconv.ErrRange" = some #[.iface tp p]) :
  Calls Tryz.prog 164 #[.string s] w fun e w' => ∃ N, e = .returned (.tuple #[.int .i64 (Lib.atoiSat s.data.toList), .iface 380 (.pointer (some ⟨N, 0, none⟩))]) ∧ w.heap.size ≤ N ∧ w'.heap[N]? = some (.cells #[.string ⟨#[65, 116, 111, 105]⟩, .string s, .iface tp p] 392 (0, 0)) ∧ Below w.heap.size w w' := Any.strconv_Atoi_range_var Tryz.laysC172 s hlim h tp p w hvar
def Tryz.lays145_ren : Go.Shelf.Ren := ⟨fun | 145 => 93 | 220 => 136 | 219 => 161 | 217 => 194 | 225 => 195 | 224 => 196 | 267 => 197 | 266 => 216 | 314 => 217 | n => n, fun | 9 => 9 | 4 => 4 | 59 => 223 | 3 => 3 | 5 => 5 | 46 => 87 | 146 => 371 | 51 => 88 | n => n, fun | 1 => 1 | n => n⟩
theorem Tryz.lays145 : Go.Proofs.Lays.n145 Tryz.prog Tryz.lays145_ren := {
 mixed := by kernel_rfl
 f145 := Tryz.func93.trans (congrArg some (by kernel_rfl))
 f217 := Tryz.func194.trans (congrArg some (by kernel_rfl))
 f219 := Tryz.func161.trans (congrArg some (by kernel_rfl))
 f220 := Tryz.func136.trans (congrArg some (by kernel_rfl))
 f224 := Tryz.func196.trans (congrArg some (by kernel_rfl))
 f225 := Tryz.func195.trans (congrArg some (by kernel_rfl))
 f266 := Tryz.func216.trans (congrArg some (by kernel_rfl))
 f267 := Tryz.func197.trans (congrArg some (by kernel_rfl))
 f314 := Tryz.func217.trans (congrArg some (by kernel_rfl))
 t3 := Tryz.underlying3
 a3 := Tryz.isAgg3
 z3 := Tryz.sizeOf3
 v3 := Tryz.zeroValue3
 t4 := Tryz.underlying4
 a4 := Tryz.isAgg4
 z4 := Tryz.sizeOf4
 v4 := Tryz.zeroValue4
 t5 := Tryz.underlying5
 a5 := Tryz.isAgg5
 z5 := Tryz.sizeOf5
 v5 := Tryz.zeroValue5
 t9 := Tryz.underlying9
 a9 := Tryz.isAgg9
 z9 := Tryz.sizeOf9
 v9 := Tryz.zeroValue9
 t46 := Tryz.underlying87
 a46 := Tryz.isAgg87
 z46 := Tryz.sizeOf87
 v46 := Tryz.zeroValue87
 t51 := Tryz.underlying88
 a51 := Tryz.isAgg88
 z51 := Tryz.sizeOf88
 v51 := Tryz.zeroValue88
 t59 := Tryz.underlying223
 a59 := Tryz.isAgg223
 z59 := Tryz.sizeOf223
 v59 := Tryz.zeroValue223
 t146 := Tryz.underlying371
 a146 := Tryz.isAgg371
 z146 := Tryz.sizeOf371
 v146 := Tryz.zeroValue371
 g1 := by kernel_rfl }
open Go.RowKit Go.Lib in
theorem Tryz.strings_Cut (s sep : ByteArray) (m : Int) (w : World) (hs : s.size < 4294967281) (hm : w.cell? ⟨1, 0, none⟩ = some (.int .i64 m)) :
  Calls Tryz.prog 93 #[.string s, .string sep] w fun e w' => e = .returned (.tuple #[.string ⟨(Lib.cut s.data.toList sep.data.toList).1.toArray⟩, .string ⟨(Lib.cut s.data.toList sep.data.toList).2.1.toArray⟩, .bool (Lib.cut s.data.toList sep.data.toList).2.2]) ∧ ∃ n, w' = w.drewN n := Any.strings_Cut Tryz.lays145 s sep m w hs hm
def Tryz.lays138_ren : Go.Shelf.Ren := ⟨fun | 138 => 92 | 195 => 133 | 218 => 134 | 143 => 135 | 219 => 161 | 217 => 194 | 225 => 195 | 224 => 196 | 267 => 197 | 266 => 216 | 314 => 217 | n => n, fun | 9 => 9 | 3 => 3 | 4 => 4 | 5 => 5 | 0 => 0 | 46 => 87 | 146 => 371 | 51 => 88 | n => n, fun | 1 => 1 | n => n⟩
theorem Tryz.lays138 : Go.Proofs.Lays.n138 Tryz.prog Tryz.lays138_ren := {
 mixed := by kernel_rfl
 f138 := Tryz.func92.trans (congrArg some (by kernel_rfl))
 f143 := Tryz.func135.trans (congrArg some (by kernel_rfl))
 f195 := Tryz.func133.trans (congrArg some (by kernel_rfl))
 f217 := Tryz.func194.trans (congrArg some (by kernel_rfl))
 f218 := Tryz.func134.trans (congrArg some (by kernel_rfl))
 f219 := Tryz.func161.trans (congrArg some (by kernel_rfl))
 f224 := Tryz.func196.trans (congrArg some (by kernel_rfl))
 f225 := Tryz.func195.trans (congrArg some (by kernel_rfl))
 f266 := Tryz.func216.trans (congrArg some (by kernel_rfl))
 f267 := Tryz.func197.trans (congrArg some (by kernel_rfl))
 f314 := Tryz.func217.trans (congrArg some (by kernel_rfl))
 t0 := Tryz.underlying0
 a0 := Tryz.isAgg0
 z0 := Tryz.sizeOf0
 v0 := Tryz.zeroValue0
 t3 := Tryz.underlying3
 a3 := Tryz.isAgg3
 z3 := Tryz.sizeOf3
 v3 := Tryz.zeroValue3
 t4 := Tryz.underlying4
 a4 := Tryz.isAgg4
 z4 := Tryz.sizeOf4
 v4 := Tryz.zeroValue4
 t5 := Tryz.underlying5
 a5 := Tryz.isAgg5
 z5 := Tryz.sizeOf5
 v5 := Tryz.zeroValue5
 t9 := Tryz.underlying9
 a9 := Tryz.isAgg9
 z9 := Tryz.sizeOf9
 v9 := Tryz.zeroValue9
 t46 := Tryz.underlying87
 a46 := Tryz.isAgg87
 z46 := Tryz.sizeOf87
 v46 := Tryz.zeroValue87
 t51 := Tryz.underlying88
 a51 := Tryz.isAgg88
 z51 := Tryz.sizeOf88
 v51 := Tryz.zeroValue88
 t146 := Tryz.underlying371
 a146 := Tryz.isAgg371
 z146 := Tryz.sizeOf371
 v146 := Tryz.zeroValue371
 g1 := by kernel_rfl }
open Go.RowKit Go.Lib in
theorem Tryz.strings_Count_one (s : ByteArray) (c : UInt8) (w : World) :
  Calls Tryz.prog 92 #[.string s, .string ⟨#[c]⟩] w fun e w' => e = .returned (.int .i64 (Lib.countByte s.data.toList c)) ∧ w' = w := Any.strings_Count_one Tryz.lays138 s c w
def Tryz.laysM219_ren : Go.Shelf.Ren := ⟨fun | 219 => 161 | 217 => 194 | 225 => 195 | 224 => 196 | 267 => 197 | 266 => 216 | 314 => 217 | n => n, fun | 9 => 9 | 3 => 3 | 4 => 4 | 5 => 5 | 46 => 87 | 146 => 371 | 51 => 88 | n => n, fun | 1 => 1 | n => n⟩
theorem Tryz.laysM219 : Go.Proofs.LaysM.n219 Tryz.prog Tryz.laysM219_ren := {
 mixed := by kernel_rfl
 f217 := Tryz.func194.trans (congrArg some (by kernel_rfl))
 f219 := Tryz.func161.trans (congrArg some (by kernel_rfl))
 f224 := Tryz.func196.trans (congrArg some (by kernel_rfl))
 f225 := Tryz.func195.trans (congrArg some (by kernel_rfl))
 f266 := Tryz.func216.trans (congrArg some (by kernel_rfl))
 f267 := Tryz.func197.trans (congrArg some (by kernel_rfl))
 f314 := Tryz.func217.trans (congrArg some (by kernel_rfl))
 t3 := Tryz.underlying3
 a3 := Tryz.isAgg3
 z3 := Tryz.sizeOf3
 v3 := Tryz.zeroValue3
 t4 := Tryz.underlying4
 a4 := Tryz.isAgg4
 z4 := Tryz.sizeOf4
 v4 := Tryz.zeroValue4
 t5 := Tryz.underlying5
 a5 := Tryz.isAgg5
 z5 := Tryz.sizeOf5
 v5 := Tryz.zeroValue5
 t9 := Tryz.underlying9
 a9 := Tryz.isAgg9
 z9 := Tryz.sizeOf9
 v9 := Tryz.zeroValue9
 t46 := Tryz.underlying87
 a46 := Tryz.isAgg87
 z46 := Tryz.sizeOf87
 v46 := Tryz.zeroValue87
 t51 := Tryz.underlying88
 a51 := Tryz.isAgg88
 z51 := Tryz.sizeOf88
 v51 := Tryz.zeroValue88
 t146 := Tryz.underlying371
 a146 := Tryz.isAgg371
 z146 := Tryz.sizeOf371
 v146 := Tryz.zeroValue371
 g1 := by kernel_rfl
 i3 := by kernel_rfl
 i4 := by kernel_rfl
 i5 := by kernel_rfl
 i9 := by kernel_rfl
 i46 := by kernel_rfl
 i51 := by kernel_rfl
 i146 := by kernel_rfl
 m1 := by kernel_rfl
 s1_3 := fun w h => Go.Proofs.cell_of_shapedOpen_int (zero := #[.int .i64 0]) (t := 3) h (of_decide_eq_true (by kernel_rfl)) (by kernel_rfl) rfl (by kernel_rfl) (by kernel_rfl) Tryz.underlying3 }
def Tryz.lays154_ren : Go.Shelf.Ren := ⟨fun | 154 => 137 | 138 => 92 | 165 => 162 | 143 => 135 | 166 => 97 | 197 => 163 | 169 => 99 | 195 => 133 | 218 => 134 | 240 => 139 | 241 => 198 | 219 => 161 | 260 => 199 | 276 => 165 | 277 => 218 | 217 => 194 | 225 => 195 | 224 => 196 | 267 => 197 | 266 => 216 | 314 => 217 | n => n, fun | 9 => 9 | 3 => 3 | 4 => 4 | 72 => 230 | 0 => 0 | 76 => 231 | 105 => 328 | 21 => 21 | 5 => 5 | 70 => 228 | 20 => 20 | 37 => 89 | 75 => 25 | 127 => 304 | 164 => 330 | 46 => 87 | 119 => 374 | 139 => 377 | 138 => 376 | 146 => 371 | 51 => 88 | 80 => 234 | n => n, fun | 1 => 1 | 3 => 2 | 4 => 3 | n => n⟩
theorem Tryz.lays154 : Go.Proofs.Lays.n154 Tryz.prog Tryz.lays154_ren := {
 mixed := by kernel_rfl
 f138 := Tryz.func92.trans (congrArg some (by kernel_rfl))
 f143 := Tryz.func135.trans (congrArg some (by kernel_rfl))
 f154 := Tryz.func137.trans (congrArg some (by kernel_rfl))
 f165 := Tryz.func162.trans (congrArg some (by kernel_rfl))
 f166 := Tryz.func97.trans (congrArg some (by kernel_rfl))
 f169 := Tryz.func99.trans (congrArg some (by kernel_rfl))
 f195 := Tryz.func133.trans (congrArg some (by kernel_rfl))
 f197 := Tryz.func163.trans (congrArg some (by kernel_rfl))
 f217 := Tryz.func194.trans (congrArg some (by kernel_rfl))
 f218 := Tryz.func134.trans (congrArg some (by kernel_rfl))
 f219 := Tryz.func161.trans (congrArg some (by kernel_rfl))
 f224 := Tryz.func196.trans (congrArg some (by kernel_rfl))
 f225 := Tryz.func195.trans (congrArg some (by kernel_rfl))
 f240 := Tryz.func139.trans (congrArg some (by kernel_rfl))
 f241 := Tryz.func198.trans (congrArg some (by kernel_rfl))
 f260 := Tryz.func199.trans (congrArg some (by kernel_rfl))
 f266 := Tryz.func216.trans (congrArg some (by kernel_rfl))
 f267 := Tryz.func197.trans (congrArg some (by kernel_rfl))
 f276 := Tryz.func165.trans (congrArg some (by kernel_rfl))
 f277 := Tryz.func218.trans (congrArg some (by kernel_rfl))
 f314 := Tryz.func217.trans (congrArg some (by kernel_rfl))
 t0 := Tryz.underlying0
 a0 := Tryz.isAgg0
 z0 := Tryz.sizeOf0
 v0 := Tryz.zeroValue0
 t3 := Tryz.underlying3
 a3 := Tryz.isAgg3
 z3 := Tryz.sizeOf3
 v3 := Tryz.zeroValue3
 t4 := Tryz.underlying4
 a4 := Tryz.isAgg4
 z4 := Tryz.sizeOf4
 v4 := Tryz.zeroValue4
 t5 := Tryz.underlying5
 a5 := Tryz.isAgg5
 z5 := Tryz.sizeOf5
 v5 := Tryz.zeroValue5
 t9 := Tryz.underlying9
 a9 := Tryz.isAgg9
 z9 := Tryz.sizeOf9
 v9 := Tryz.zeroValue9
 t20 := Tryz.underlying20
 a20 := Tryz.isAgg20
 z20 := Tryz.sizeOf20
 v20 := Tryz.zeroValue20
 t21 := Tryz.underlying21
 a21 := Tryz.isAgg21
 z21 := Tryz.sizeOf21
 v21 := Tryz.zeroValue21
 t37 := Tryz.underlying89
 a37 := Tryz.isAgg89
 z37 := Tryz.sizeOf89
 v37 := Tryz.zeroValue89
 t46 := Tryz.underlying87
 a46 := Tryz.isAgg87
 z46 := Tryz.sizeOf87
 v46 := Tryz.zeroValue87
 t51 := Tryz.underlying88
 a51 := Tryz.isAgg88
 z51 := Tryz.sizeOf88
 v51 := Tryz.zeroValue88
 t70 := Tryz.underlying228
 a70 := Tryz.isAgg228
 z70 := Tryz.sizeOf228
 v70 := Tryz.zeroValue228
 t72 := Tryz.underlying230
 a72 := Tryz.isAgg230
 z72 := Tryz.sizeOf230
 v72 := Tryz.zeroValue230
 t75 := Tryz.underlying25
 a75 := Tryz.isAgg25
 z75 := Tryz.sizeOf25
 v75 := Tryz.zeroValue25
 t76 := Tryz.underlying231
 a76 := Tryz.isAgg231
 z76 := Tryz.sizeOf231
 v76 := Tryz.zeroValue231
 t105 := Tryz.underlying328
 a105 := Tryz.isAgg328
 z105 := Tryz.sizeOf328
 v105 := Tryz.zeroValue328
 t119 := Tryz.underlying374
 a119 := Tryz.isAgg374
 z119 := Tryz.sizeOf374
 t127 := Tryz.underlying304
 a127 := Tryz.isAgg304
 z127 := Tryz.sizeOf304
 v127 := Tryz.zeroValue304
 t138 := Tryz.underlying376
 a138 := Tryz.isAgg376
 z138 := Tryz.sizeOf376
 v138 := Tryz.zeroValue376
 t139 := Tryz.underlying377
 a139 := Tryz.isAgg377
 z139 := Tryz.sizeOf377
 v139 := Tryz.zeroValue377
 t146 := Tryz.underlying371
 a146 := Tryz.isAgg371
 z146 := Tryz.sizeOf371
 v146 := Tryz.zeroValue371
 t164 := Tryz.underlying330
 a164 := Tryz.isAgg330
 z164 := Tryz.sizeOf330
 v164 := Tryz.zeroValue330
 g1 := by kernel_rfl
 g3 := by kernel_rfl
 g4 := by kernel_rfl }
theorem Tryz.Builder_Extra_154 : Builder.Extra Tryz.prog Tryz.lays154_ren := {
 sizeBuilder := by kernel_rfl
 liesBuilder := by kernel_rfl
 t5 := Tryz.underlying5
 a5 := Tryz.isAgg5
 z5 := Tryz.sizeOf5
 v5 := Tryz.zeroValue5
 infoByte := by kernel_rfl
 cellsByte := by kernel_rfl
 sizeByte := by kernel_rfl
 neB5 := by decide }
def Tryz.lays155_ren : Go.Shelf.Ren := ⟨fun | 155 => 94 | 154 => 137 | 138 => 92 | 165 => 162 | 143 => 135 | 166 => 97 | 197 => 163 | 169 => 99 | 195 => 133 | 218 => 134 | 240 => 139 | 241 => 198 | 219 => 161 | 260 => 199 | 276 => 165 | 277 => 218 | 217 => 194 | 225 => 195 | 224 => 196 | 267 => 197 | 266 => 216 | 314 => 217 | n => n, fun | 9 => 9 | 3 => 3 | 4 => 4 | 72 => 230 | 0 => 0 | 76 => 231 | 105 => 328 | 21 => 21 | 5 => 5 | 70 => 228 | 20 => 20 | 37 => 89 | 75 => 25 | 127 => 304 | 164 => 330 | 46 => 87 | 119 => 374 | 139 => 377 | 138 => 376 | 146 => 371 | 51 => 88 | 80 => 234 | n => n, fun | 1 => 1 | 3 => 2 | 4 => 3 | n => n⟩
theorem Tryz.lays155 : Go.Proofs.Lays.n155 Tryz.prog Tryz.lays155_ren := {
 mixed := by kernel_rfl
 f138 := Tryz.func92.trans (congrArg some (by kernel_rfl))
 f143 := Tryz.func135.trans (congrArg some (by kernel_rfl))
 f154 := Tryz.func137.trans (congrArg some (by kernel_rfl))
 f155 := Tryz.func94.trans (congrArg some (by kernel_rfl))
 f165 := Tryz.func162.trans (congrArg some (by kernel_rfl))
 f166 := Tryz.func97.trans (congrArg some (by kernel_rfl))
 f169 := Tryz.func99.trans (congrArg some (by kernel_rfl))
 f195 := Tryz.func133.trans (congrArg some (by kernel_rfl))
 f197 := Tryz.func163.trans (congrArg some (by kernel_rfl))
 f217 := Tryz.func194.trans (congrArg some (by kernel_rfl))
 f218 := Tryz.func134.trans (congrArg some (by kernel_rfl))
 f219 := Tryz.func161.trans (congrArg some (by kernel_rfl))
 f224 := Tryz.func196.trans (congrArg some (by kernel_rfl))
 f225 := Tryz.func195.trans (congrArg some (by kernel_rfl))
 f240 := Tryz.func139.trans (congrArg some (by kernel_rfl))
 f241 := Tryz.func198.trans (congrArg some (by kernel_rfl))
 f260 := Tryz.func199.trans (congrArg some (by kernel_rfl))
 f266 := Tryz.func216.trans (congrArg some (by kernel_rfl))
 f267 := Tryz.func197.trans (congrArg some (by kernel_rfl))
 f276 := Tryz.func165.trans (congrArg some (by kernel_rfl))
 f277 := Tryz.func218.trans (congrArg some (by kernel_rfl))
 f314 := Tryz.func217.trans (congrArg some (by kernel_rfl))
 t0 := Tryz.underlying0
 a0 := Tryz.isAgg0
 z0 := Tryz.sizeOf0
 v0 := Tryz.zeroValue0
 t3 := Tryz.underlying3
 a3 := Tryz.isAgg3
 z3 := Tryz.sizeOf3
 v3 := Tryz.zeroValue3
 t4 := Tryz.underlying4
 a4 := Tryz.isAgg4
 z4 := Tryz.sizeOf4
 v4 := Tryz.zeroValue4
 t5 := Tryz.underlying5
 a5 := Tryz.isAgg5
 z5 := Tryz.sizeOf5
 v5 := Tryz.zeroValue5
 t9 := Tryz.underlying9
 a9 := Tryz.isAgg9
 z9 := Tryz.sizeOf9
 v9 := Tryz.zeroValue9
 t20 := Tryz.underlying20
 a20 := Tryz.isAgg20
 z20 := Tryz.sizeOf20
 v20 := Tryz.zeroValue20
 t21 := Tryz.underlying21
 a21 := Tryz.isAgg21
 z21 := Tryz.sizeOf21
 v21 := Tryz.zeroValue21
 t37 := Tryz.underlying89
 a37 := Tryz.isAgg89
 z37 := Tryz.sizeOf89
 v37 := Tryz.zeroValue89
 t46 := Tryz.underlying87
 a46 := Tryz.isAgg87
 z46 := Tryz.sizeOf87
 v46 := Tryz.zeroValue87
 t51 := Tryz.underlying88
 a51 := Tryz.isAgg88
 z51 := Tryz.sizeOf88
 v51 := Tryz.zeroValue88
 t70 := Tryz.underlying228
 a70 := Tryz.isAgg228
 z70 := Tryz.sizeOf228
 v70 := Tryz.zeroValue228
 t72 := Tryz.underlying230
 a72 := Tryz.isAgg230
 z72 := Tryz.sizeOf230
 v72 := Tryz.zeroValue230
 t75 := Tryz.underlying25
 a75 := Tryz.isAgg25
 z75 := Tryz.sizeOf25
 v75 := Tryz.zeroValue25
 t76 := Tryz.underlying231
 a76 := Tryz.isAgg231
 z76 := Tryz.sizeOf231
 v76 := Tryz.zeroValue231
 t105 := Tryz.underlying328
 a105 := Tryz.isAgg328
 z105 := Tryz.sizeOf328
 v105 := Tryz.zeroValue328
 t119 := Tryz.underlying374
 a119 := Tryz.isAgg374
 z119 := Tryz.sizeOf374
 t127 := Tryz.underlying304
 a127 := Tryz.isAgg304
 z127 := Tryz.sizeOf304
 v127 := Tryz.zeroValue304
 t138 := Tryz.underlying376
 a138 := Tryz.isAgg376
 z138 := Tryz.sizeOf376
 v138 := Tryz.zeroValue376
 t139 := Tryz.underlying377
 a139 := Tryz.isAgg377
 z139 := Tryz.sizeOf377
 v139 := Tryz.zeroValue377
 t146 := Tryz.underlying371
 a146 := Tryz.isAgg371
 z146 := Tryz.sizeOf371
 v146 := Tryz.zeroValue371
 t164 := Tryz.underlying330
 a164 := Tryz.isAgg330
 z164 := Tryz.sizeOf330
 v164 := Tryz.zeroValue330
 g1 := by kernel_rfl
 g3 := by kernel_rfl
 g4 := by kernel_rfl }
theorem Tryz.Builder_Extra_155 : Builder.Extra Tryz.prog Tryz.lays155_ren := {
 sizeBuilder := by kernel_rfl
 liesBuilder := by kernel_rfl
 t5 := Tryz.underlying5
 a5 := Tryz.isAgg5
 z5 := Tryz.sizeOf5
 v5 := Tryz.zeroValue5
 infoByte := by kernel_rfl
 cellsByte := by kernel_rfl
 sizeByte := by kernel_rfl
 neB5 := by decide }
open Go.RowKit Go.Lib in
theorem Tryz.strings_ReplaceAll (s old new : ByteArray) (m : Int) (w : World) (hs : s.size < 4294967281) (hm : w.cell? ⟨1, 0, none⟩ = some (.int .i64 m)) (h1 : 1 ≤ old.size) (hlen : s.size + Lib.countB s old * new.size ≤ 140737488355328) :
  Calls Tryz.prog 94 #[.string s, .string old, .string new] w fun e w' =>
   e = .returned (.string ⟨(Lib.replaceAll s.data.toList old.data.toList new.data.toList).toArray⟩) ∧ Below w.heap.size w w' := Any.strings_ReplaceAll Tryz.lays155 Tryz.Builder_Extra_155 s old new m w hs hm h1 hlen
def Tryz.laysNm216_ren : Go.Shelf.Ren := ⟨fun | 16 => 119 | n => n, fun | 24 => 77 | 9 => 9 | 4 => 4 | n => n, fun | n => n⟩
theorem Tryz.laysNm216 : Go.Proofs.Lays2.n16 Tryz.prog Tryz.laysNm216_ren := {
 mixed := by kernel_rfl
 f16 := Tryz.func119.trans (congrArg some (by kernel_rfl))
 t4 := Tryz.underlying4
 a4 := Tryz.isAgg4
 z4 := Tryz.sizeOf4
 v4 := Tryz.zeroValue4
 t9 := Tryz.underlying9
 a9 := Tryz.isAgg9
 z9 := Tryz.sizeOf9
 v9 := Tryz.zeroValue9
 t24 := Tryz.underlying77
 a24 := Tryz.isAgg77
 z24 := Tryz.sizeOf77
 v24 := Tryz.zeroValue77
 i9 := by kernel_rfl }
open Go.RowKit Go.Lib in
theorem Tryz.slices_Clone_string (b off n c : Nat) (zs : List ByteArray) (w : World) (hz : n ≤ zs.length) (hbig : n * 16 ≤ 140737488355328) (hc : ∀ j, j < zs.length → w.cell? ⟨b, off + j, none⟩ = some (.string (zs.getD j ByteArray.empty))) :
  Calls Tryz.prog 119 #[.slice (some ⟨b, off, none⟩) n c] w fun e w' => ∃ v', e = .returned v' ∧ w'.ownsRow w.heap.size 9 1 v' n ((zs.take n).map (Value.string)) ∧ v' ≠ .slice none 0 0 ∧ Below w.heap.size w w' := Any.slices_Clone_string Tryz.laysNm216 b off n c zs w hz hbig hc
open Go.RowKit Go.Lib in
theorem Tryz.slices_Clone_string_nil (n c : Nat) (w : World) :
  Calls Tryz.prog 119 #[.slice none n c] w fun e w' => e = .returned (.slice none 0 0) ∧ w' = w := Any.slices_Clone_string_nil Tryz.laysNm216 n c w
open Go.RowKit Go.Lib in
theorem Tryz.slices_Clone_string_zero (a : Addr) (c : Nat) (w : World) :
  Calls Tryz.prog 119 #[.slice (some a) 0 c] w fun e w' => ∃ v', e = .returned v' ∧ w'.ownsRow w.heap.size 9 1 v' 0 [] ∧ v' ≠ .slice none 0 0 ∧ Below w.heap.size w w' := Any.slices_Clone_string_zero Tryz.laysNm216 a c w
def Tryz.laysSlF6_f120_ren : Go.Shelf.Ren := ⟨fun | 6 => 120 | 15 => 152 | 14 => 151 | 28 => 188 | 29 => 189 | 20 => 180 | 21 => 181 | 22 => 182 | 23 => 183 | 24 => 184 | 25 => 185 | 26 => 186 | 27 => 187 | 46 => 209 | 47 => 210 | 48 => 211 | 49 => 212 | 50 => 213 | 57 => 229 | n => n, fun | 22 => 77 | 24 => 9 | 25 => 222 | 3 => 3 | 39 => 87 | 0 => 0 | 53 => 88 | 55 => 64 | 4 => 4 | 46 => 346 | 45 => 345 | 50 => 270 | 5 => 5 | 9 => 9 | 66 => 365 | 70 => 369 | 76 => 386 | 77 => 387 | n => n, fun | n => n⟩
theorem Tryz.laysSlF6_f120 : Go.Proofs.SlLaysF.n6 Tryz.prog Tryz.laysSlF6_f120_ren := {
 mixed := by kernel_rfl
 f6 := ⟨Tryz.f120.name, by decide, Tryz.func120.trans (congrArg some (by kernel_rfl))⟩
 f14 := ⟨Tryz.f151.name, by decide, Tryz.func151.trans (congrArg some (by kernel_rfl))⟩
 f15 := Tryz.func152.trans (congrArg some (by kernel_rfl))
 f20 := ⟨Tryz.f180.name, by decide, Tryz.func180.trans (congrArg some (by kernel_rfl))⟩
 f21 := ⟨Tryz.f181.name, by decide, Tryz.func181.trans (congrArg some (by kernel_rfl))⟩
 f22 := ⟨Tryz.f182.name, by decide, Tryz.func182.trans (congrArg some (by kernel_rfl))⟩
 f23 := ⟨Tryz.f183.name, by decide, Tryz.func183.trans (congrArg some (by kernel_rfl))⟩
 f24 := ⟨Tryz.f184.name, by decide, Tryz.func184.trans (congrArg some (by kernel_rfl))⟩
 f25 := ⟨Tryz.f185.name, by decide, Tryz.func185.trans (congrArg some (by kernel_rfl))⟩
 f26 := ⟨Tryz.f186.name, by decide, Tryz.func186.trans (congrArg some (by kernel_rfl))⟩
 f27 := ⟨Tryz.f187.name, by decide, Tryz.func187.trans (congrArg some (by kernel_rfl))⟩
 f28 := Tryz.func188.trans (congrArg some (by kernel_rfl))
 f29 := Tryz.func189.trans (congrArg some (by kernel_rfl))
 f46 := ⟨Tryz.f209.name, by decide, Tryz.func209.trans (congrArg some (by kernel_rfl))⟩
 f47 := Tryz.func210.trans (congrArg some (by kernel_rfl))
 f48 := Tryz.func211.trans (congrArg some (by kernel_rfl))
 f49 := ⟨Tryz.f212.name, by decide, Tryz.func212.trans (congrArg some (by kernel_rfl))⟩
 f50 := ⟨Tryz.f213.name, by decide, Tryz.func213.trans (congrArg some (by kernel_rfl))⟩
 f57 := ⟨Tryz.f229.name, by decide, Tryz.func229.trans (congrArg some (by kernel_rfl))⟩
 t0 := Tryz.underlying0
 a0 := Tryz.isAgg0
 z0 := Tryz.sizeOf0
 v0 := Tryz.zeroValue0
 t3 := Tryz.underlying3
 a3 := Tryz.isAgg3
 z3 := Tryz.sizeOf3
 v3 := Tryz.zeroValue3
 t4 := Tryz.underlying4
 a4 := Tryz.isAgg4
 z4 := Tryz.sizeOf4
 v4 := Tryz.zeroValue4
 t5 := Tryz.underlying5
 a5 := Tryz.isAgg5
 z5 := Tryz.sizeOf5
 v5 := Tryz.zeroValue5
 t9 := Tryz.underlying9
 a9 := Tryz.isAgg9
 z9 := Tryz.sizeOf9
 v9 := Tryz.zeroValue9
 t22 := Tryz.underlying77
 a22 := Tryz.isAgg77
 z22 := Tryz.sizeOf77
 v22 := Tryz.zeroValue77
 a24 := Tryz.isAgg9
 z24 := Tryz.sizeOf9
 t25 := Tryz.underlying222
 a25 := Tryz.isAgg222
 z25 := Tryz.sizeOf222
 v25 := Tryz.zeroValue222
 t39 := Tryz.underlying87
 a39 := Tryz.isAgg87
 z39 := Tryz.sizeOf87
 v39 := Tryz.zeroValue87
 t45 := Tryz.underlying345
 a45 := Tryz.isAgg345
 z45 := Tryz.sizeOf345
 v45 := Tryz.zeroValue345
 t46 := Tryz.underlying346
 a46 := Tryz.isAgg346
 z46 := Tryz.sizeOf346
 v46 := Tryz.zeroValue346
 t50 := Tryz.underlying270
 a50 := Tryz.isAgg270
 z50 := Tryz.sizeOf270
 v50 := Tryz.zeroValue270
 t53 := Tryz.underlying88
 a53 := Tryz.isAgg88
 z53 := Tryz.sizeOf88
 v53 := Tryz.zeroValue88
 t55 := Tryz.underlying64
 a55 := Tryz.isAgg64
 z55 := Tryz.sizeOf64
 v55 := Tryz.zeroValue64
 t66 := Tryz.underlying365
 a66 := Tryz.isAgg365
 z66 := Tryz.sizeOf365
 v66 := Tryz.zeroValue365
 t70 := Tryz.underlying369
 a70 := Tryz.isAgg369
 z70 := Tryz.sizeOf369
 v70 := Tryz.zeroValue369
 t76 := Tryz.underlying386
 a76 := Tryz.isAgg386
 z76 := Tryz.sizeOf386
 v76 := Tryz.zeroValue386
 t77 := Tryz.underlying387
 a77 := Tryz.isAgg387
 z77 := Tryz.sizeOf387
 v77 := Tryz.zeroValue387 }
def Tryz.laysSlF06_f120_ren : Go.Shelf.Ren := ⟨fun | 6 => 120 | 15 => 152 | 14 => 151 | 28 => 188 | 29 => 189 | 20 => 180 | 21 => 181 | 22 => 182 | 23 => 183 | 24 => 184 | 25 => 185 | 26 => 186 | 27 => 187 | 46 => 209 | 47 => 210 | 48 => 211 | 49 => 212 | 50 => 213 | 57 => 229 | n => n, fun | 22 => 77 | 24 => 9 | 25 => 222 | 3 => 3 | 39 => 87 | 0 => 0 | 53 => 88 | 55 => 64 | 4 => 4 | 46 => 346 | 45 => 345 | 50 => 270 | 5 => 5 | 9 => 9 | 66 => 365 | 70 => 369 | 76 => 386 | 77 => 387 | n => n, fun | n => n⟩
theorem Tryz.laysSlF06_f120 : Go.Proofs.SlLaysF0.n6 Tryz.prog Tryz.laysSlF06_f120_ren := {
 mixed := by kernel_rfl
 f6 := ⟨Tryz.f120.name, by decide, Tryz.func120.trans (congrArg some (by kernel_rfl))⟩
 f14 := ⟨Tryz.f151.name, by decide, Tryz.func151.trans (congrArg some (by kernel_rfl))⟩
 f15 := Tryz.func152.trans (congrArg some (by kernel_rfl))
 f20 := ⟨Tryz.f180.name, by decide, Tryz.func180.trans (congrArg some (by kernel_rfl))⟩
 f21 := ⟨Tryz.f181.name, by decide, Tryz.func181.trans (congrArg some (by kernel_rfl))⟩
 f22 := ⟨Tryz.f182.name, by decide, Tryz.func182.trans (congrArg some (by kernel_rfl))⟩
 f23 := ⟨Tryz.f183.name, by decide, Tryz.func183.trans (congrArg some (by kernel_rfl))⟩
 f24 := ⟨Tryz.f184.name, by decide, Tryz.func184.trans (congrArg some (by kernel_rfl))⟩
 f25 := ⟨Tryz.f185.name, by decide, Tryz.func185.trans (congrArg some (by kernel_rfl))⟩
 f26 := ⟨Tryz.f186.name, by decide, Tryz.func186.trans (congrArg some (by kernel_rfl))⟩
 f27 := ⟨Tryz.f187.name, by decide, Tryz.func187.trans (congrArg some (by kernel_rfl))⟩
 f28 := Tryz.func188.trans (congrArg some (by kernel_rfl))
 f29 := Tryz.func189.trans (congrArg some (by kernel_rfl))
 f46 := ⟨Tryz.f209.name, by decide, Tryz.func209.trans (congrArg some (by kernel_rfl))⟩
 f47 := Tryz.func210.trans (congrArg some (by kernel_rfl))
 f48 := Tryz.func211.trans (congrArg some (by kernel_rfl))
 f49 := ⟨Tryz.f212.name, by decide, Tryz.func212.trans (congrArg some (by kernel_rfl))⟩
 f50 := ⟨Tryz.f213.name, by decide, Tryz.func213.trans (congrArg some (by kernel_rfl))⟩
 f57 := ⟨Tryz.f229.name, by decide, Tryz.func229.trans (congrArg some (by kernel_rfl))⟩
 t0 := Tryz.underlying0
 a0 := Tryz.isAgg0
 z0 := Tryz.sizeOf0
 v0 := Tryz.zeroValue0
 t3 := Tryz.underlying3
 a3 := Tryz.isAgg3
 z3 := Tryz.sizeOf3
 v3 := Tryz.zeroValue3
 t4 := Tryz.underlying4
 a4 := Tryz.isAgg4
 z4 := Tryz.sizeOf4
 v4 := Tryz.zeroValue4
 t5 := Tryz.underlying5
 a5 := Tryz.isAgg5
 z5 := Tryz.sizeOf5
 v5 := Tryz.zeroValue5
 t9 := Tryz.underlying9
 a9 := Tryz.isAgg9
 z9 := Tryz.sizeOf9
 v9 := Tryz.zeroValue9
 t22 := Tryz.underlying77
 a22 := Tryz.isAgg77
 z22 := Tryz.sizeOf77
 v22 := Tryz.zeroValue77
 t25 := Tryz.underlying222
 a25 := Tryz.isAgg222
 z25 := Tryz.sizeOf222
 v25 := Tryz.zeroValue222
 t39 := Tryz.underlying87
 a39 := Tryz.isAgg87
 z39 := Tryz.sizeOf87
 v39 := Tryz.zeroValue87
 t45 := Tryz.underlying345
 a45 := Tryz.isAgg345
 z45 := Tryz.sizeOf345
 v45 := Tryz.zeroValue345
 t46 := Tryz.underlying346
 a46 := Tryz.isAgg346
 z46 := Tryz.sizeOf346
 v46 := Tryz.zeroValue346
 t50 := Tryz.underlying270
 a50 := Tryz.isAgg270
 z50 := Tryz.sizeOf270
 v50 := Tryz.zeroValue270
 t53 := Tryz.underlying88
 a53 := Tryz.isAgg88
 z53 := Tryz.sizeOf88
 v53 := Tryz.zeroValue88
 t55 := Tryz.underlying64
 a55 := Tryz.isAgg64
 z55 := Tryz.sizeOf64
 v55 := Tryz.zeroValue64
 t66 := Tryz.underlying365
 a66 := Tryz.isAgg365
 z66 := Tryz.sizeOf365
 v66 := Tryz.zeroValue365
 t70 := Tryz.underlying369
 a70 := Tryz.isAgg369
 z70 := Tryz.sizeOf369
 v70 := Tryz.zeroValue369
 t76 := Tryz.underlying386
 a76 := Tryz.isAgg386
 z76 := Tryz.sizeOf386
 v76 := Tryz.zeroValue386
 t77 := Tryz.underlying387
 a77 := Tryz.isAgg387
 z77 := Tryz.sizeOf387
 v77 := Tryz.zeroValue387 }
open Go.RowKit Go.Lib Go.Sort in
theorem Tryz.slices_SortFunc_none {α : Type} [Inhabited α] (p : Option Addr) (cap : Nat) (fv : Value) (w : World) :
  Calls Tryz.prog 120 #[.slice p 0 cap, fv] w fun e w' => e = .returned (.tuple #[]) ∧ w' = w := AnyF.slices_SortFunc_none Tryz.laysSlF06_f120 p cap fv w
open Go.RowKit Go.Lib Go.Sort in
theorem Tryz.slices_SortFunc_total {α : Type} [Inhabited α] (enc : α → Value) (h1 : OneCell enc) (cf : α → α → Int) (hO : SWO (ltOf cf)) (g : Nat) (cb : Array Value) (blk off cap : Nat) (d : Array α) (w : World) (eg : ∀ args w, (callFunc g args).run Tryz.prog w = .ok (.enter g args) w) (hcmp : CmpLays1 Tryz.prog g cb enc cf blk off d.size w) (hH : Holds enc w blk off d) (hblk : blk < w.heap.size) (hsz : d.size < 4611686018427387904) (hT : ∀ x y, (ltOf cf) x y = false → (ltOf cf) y x = false → x = y) :
  Calls Tryz.prog 120 #[.slice (some ⟨blk, off, none⟩) d.size cap, .func (.func g) #[] cb] w fun e w' =>
   e = .returned (.tuple #[]) ∧ ∃ n os, w' = sortWorld enc w blk off n (d.toList.mergeSort fun x y => !(ltOf cf) y x).toArray os := Any.slices_SortFunc_total Tryz.laysSlF6_f120 enc h1 cf hO g cb blk off cap d w eg hcmp hH hblk hsz hT
end Go.Proofs
