/-
  The shelf's contracts at this dump, in plain words (laid by the kit's own tools; their remarks are left out).
  Walks of package node: the steps that make a list.
-/
import Derived.Test.YtobaldkipnhlpaaGreatDoorProg
import Derived.Test.YtobaldkipnhlpaaGreatDoorS2
import Derived.Shelf.Small.Bits
import Derived.Shelf.Small.Wraps
import Derived.Shelf.Strconv.Itoa0
import Derived.Shelf.Strconv.Itoa1
import Derived.Shelf.LaysM
import Derived.Shelf.Strconv.Itoa2
import Derived.Shelf.Strconv.Itoa3
import Derived.Shelf.Slices.Turned
import Derived.Ground.Names2Prog
import Derived.Shelf.Slices.Clone
import Derived.Ground.SlsfProg
import Derived.Shelf.SlSortCmp.Insertion
import Derived.Shelf.SlSortCmp.SiftDown1
import Derived.Shelf.SlSortCmp.HeapSort1
import Derived.Shelf.SlSortCmp.Insertion1
import Derived.Shelf.SlSortCmp.Median1
import Derived.Shelf.SlSortCmp.Pivot1
import Derived.Shelf.SlSortCmp.ReverseRange1
import Derived.Shelf.SlSortCmp.PartialInsertion1
import Derived.Shelf.SlSortCmp.PartitionEqual1
import Derived.Shelf.SlSortCmp.Partition1
import Derived.Shelf.SlSortCmp.Pdq1
import Derived.Shelf.SlSortCmp.Whole1
import Derived.Shelf.SlSortCmp.NoneTotal
set_option linter.unusedVariables false
set_option linter.unusedSimpArgs false
set_option maxRecDepth 100000
set_option maxHeartbeats 16000000
namespace Go.Proofs
open Go.Shelf
def Tryz.laysM246_ren : Go.Shelf.Ren := ⟨fun | 246 => 138 | 283 => 150 | 284 => 151 | 285 => 152 | 286 => 153 | 129 => 134 | 317 => 156 | 318 => 157 | 319 => 158 | 320 => 159 | 337 => 160 | 338 => 161 | n => n, fun | 2 => 2 | 3 => 3 | 9 => 9 | 4 => 4 | 171 => 268 | 0 => 0 | 53 => 31 | 37 => 195 | 5 => 5 | 173 => 270 | 212 => 281 | 51 => 248 | 20 => 20 | 213 => 282 | 46 => 214 | 232 => 283 | 233 => 284 | n => n, fun | 17 => 1 | 18 => 2 | 19 => 3 | n => n⟩
def Tryz.laysM243_ren : Go.Shelf.Ren := ⟨fun | 243 => 119 | 246 => 138 | 283 => 150 | 284 => 151 | 285 => 152 | 286 => 153 | 129 => 134 | 317 => 156 | 318 => 157 | 319 => 158 | 320 => 159 | 337 => 160 | 338 => 161 | n => n, fun | 3 => 3 | 9 => 9 | 2 => 2 | 4 => 4 | 171 => 268 | 0 => 0 | 53 => 31 | 37 => 195 | 5 => 5 | 173 => 270 | 212 => 281 | 51 => 248 | 20 => 20 | 213 => 282 | 46 => 214 | 232 => 283 | 233 => 284 | n => n, fun | 17 => 1 | 18 => 2 | 19 => 3 | n => n⟩
def Tryz.laysM171_ren : Go.Shelf.Ren := ⟨fun | 171 => 97 | 243 => 119 | 246 => 138 | 283 => 150 | 284 => 151 | 285 => 152 | 286 => 153 | 129 => 134 | 317 => 156 | 318 => 157 | 319 => 158 | 320 => 159 | 337 => 160 | 338 => 161 | n => n, fun | 3 => 3 | 9 => 9 | 2 => 2 | 4 => 4 | 171 => 268 | 0 => 0 | 53 => 31 | 37 => 195 | 5 => 5 | 173 => 270 | 212 => 281 | 51 => 248 | 20 => 20 | 213 => 282 | 46 => 214 | 232 => 283 | 233 => 284 | n => n, fun | 17 => 1 | 18 => 2 | 19 => 3 | n => n⟩
theorem Tryz.laysM171 : Go.Proofs.LaysM.n171 Tryz.prog Tryz.laysM171_ren := {
 mixed := by kernel_rfl
 f129 := Tryz.func134.trans (congrArg some (by kernel_rfl))
 f171 := Tryz.func97.trans (congrArg some (by kernel_rfl))
 f243 := Tryz.func119.trans (congrArg some (by kernel_rfl))
 f246 := Tryz.func138.trans (congrArg some (by kernel_rfl))
 f283 := Tryz.func150.trans (congrArg some (by kernel_rfl))
 f284 := Tryz.func151.trans (congrArg some (by kernel_rfl))
 f285 := Tryz.func152.trans (congrArg some (by kernel_rfl))
 f286 := Tryz.func153.trans (congrArg some (by kernel_rfl))
 f317 := Tryz.func156.trans (congrArg some (by kernel_rfl))
 f318 := Tryz.func157.trans (congrArg some (by kernel_rfl))
 f319 := Tryz.func158.trans (congrArg some (by kernel_rfl))
 f320 := Tryz.func159.trans (congrArg some (by kernel_rfl))
 f337 := Tryz.func160.trans (congrArg some (by kernel_rfl))
 f338 := Tryz.func161.trans (congrArg some (by kernel_rfl))
 t0 := Tryz.underlying0
 a0 := Tryz.isAgg0
 z0 := Tryz.sizeOf0
 v0 := Tryz.zeroValue0
 t2 := Tryz.underlying2
 a2 := Tryz.isAgg2
 z2 := Tryz.sizeOf2
 v2 := Tryz.zeroValue2
 t3 := Tryz.underlying3
 a3 := Tryz.isAgg3
 z3 := Tryz.sizeOf3
 v3 := Tryz.zeroValue3
 t4 := Tryz.underlying4
 a4 := Tryz.isAgg4
 z4 := Tryz.sizeOf4
 v4 := Tryz.zeroValue4
 t5 := Tryz.underlying5
 a5 := Tryz.isAgg5
 z5 := Tryz.sizeOf5
 v5 := Tryz.zeroValue5
 t9 := Tryz.underlying9
 a9 := Tryz.isAgg9
 z9 := Tryz.sizeOf9
 v9 := Tryz.zeroValue9
 t20 := Tryz.underlying20
 a20 := Tryz.isAgg20
 z20 := Tryz.sizeOf20
 v20 := Tryz.zeroValue20
 t37 := Tryz.underlying195
 a37 := Tryz.isAgg195
 z37 := Tryz.sizeOf195
 v37 := Tryz.zeroValue195
 t46 := Tryz.underlying214
 a46 := Tryz.isAgg214
 z46 := Tryz.sizeOf214
 v46 := Tryz.zeroValue214
 t51 := Tryz.underlying248
 a51 := Tryz.isAgg248
 z51 := Tryz.sizeOf248
 v51 := Tryz.zeroValue248
 t53 := Tryz.underlying31
 a53 := Tryz.isAgg31
 z53 := Tryz.sizeOf31
 v53 := Tryz.zeroValue31
 t171 := Tryz.underlying268
 a171 := Tryz.isAgg268
 z171 := Tryz.sizeOf268
 v171 := Tryz.zeroValue268
 t173 := Tryz.underlying270
 a173 := Tryz.isAgg270
 z173 := Tryz.sizeOf270
 v173 := Tryz.zeroValue270
 t212 := Tryz.underlying281
 a212 := Tryz.isAgg281
 z212 := Tryz.sizeOf281
 v212 := Tryz.zeroValue281
 t213 := Tryz.underlying282
 a213 := Tryz.isAgg282
 z213 := Tryz.sizeOf282
 t232 := Tryz.underlying283
 a232 := Tryz.isAgg283
 z232 := Tryz.sizeOf283
 v232 := Tryz.zeroValue283
 t233 := Tryz.underlying284
 a233 := Tryz.isAgg284
 z233 := Tryz.sizeOf284
 v233 := Tryz.zeroValue284
 g17 := by kernel_rfl
 g18 := by kernel_rfl
 g19 := by kernel_rfl
 i0 := by kernel_rfl
 i2 := by kernel_rfl
 i3 := by kernel_rfl
 i4 := by kernel_rfl
 i5 := by kernel_rfl
 i9 := by kernel_rfl
 i20 := by kernel_rfl
 i37 := by kernel_rfl
 i46 := by kernel_rfl
 i51 := by kernel_rfl
 i53 := by kernel_rfl
 i171 := by kernel_rfl
 i173 := by kernel_rfl
 i212 := by kernel_rfl
 i232 := by kernel_rfl
 i233 := by kernel_rfl
 m17 := by kernel_rfl
 m18 := by kernel_rfl
 m19 := by kernel_rfl }
open Go.RowKit Go.Sort Go.Lib in
theorem Tryz.strconv_Itoa (n : Int) (h0 : -9223372036854775808 ≤ n) (h1 : n ≤ 9223372036854775807) (w : World) (htab : Lib.TabIs Tryz.prog w "internal/strconv.uint64pow10" .u64 Lib.pow10Tab) :
  Calls Tryz.prog 97 #[.int .i64 n] w fun e w' => e = .returned (.string ⟨(Lib.itoa n).toArray⟩) ∧ ∃ k os, w' = grow (w.drewN k) os := Any.strconv_Itoa Tryz.laysM171 n h0 h1 w htab
def Tryz.lays109_ren : Go.Shelf.Ren := ⟨fun | 109 => 98 | n => n, fun | 31 => 23 | 9 => 9 | 3 => 3 | 0 => 0 | 4 => 4 | n => n, fun | n => n⟩
theorem Tryz.lays109 : Go.Proofs.Lays.n109 Tryz.prog Tryz.lays109_ren := {
 mixed := by kernel_rfl
 f109 := Tryz.func98.trans (congrArg some (by kernel_rfl))
 t0 := Tryz.underlying0
 a0 := Tryz.isAgg0
 z0 := Tryz.sizeOf0
 v0 := Tryz.zeroValue0
 t3 := Tryz.underlying3
 a3 := Tryz.isAgg3
 z3 := Tryz.sizeOf3
 v3 := Tryz.zeroValue3
 t4 := Tryz.underlying4
 a4 := Tryz.isAgg4
 z4 := Tryz.sizeOf4
 v4 := Tryz.zeroValue4
 t9 := Tryz.underlying9
 a9 := Tryz.isAgg9
 z9 := Tryz.sizeOf9
 v9 := Tryz.zeroValue9
 t31 := Tryz.underlying23
 a31 := Tryz.isAgg23
 z31 := Tryz.sizeOf23
 v31 := Tryz.zeroValue23 }
open Go.Lib in
theorem Tryz.slices_Index_string (b off n c : Nat) (zs : List ByteArray) (x : ByteArray) (w : World) (hz : n ≤ zs.length) (hbig : n ≤ 9223372036854775807) (hc : ∀ j, j < zs.length → w.cell? ⟨b, off + j, none⟩ = some (.string (zs.getD j ByteArray.empty))) :
  Calls Tryz.prog 98 #[.slice (some ⟨b, off, none⟩) n c, .string x] w fun e w' => e = .returned (.int .i64 (Lib.idxOfS (zs.take n) x)) ∧ w' = w := Any.slices_Index_string Tryz.lays109 b off n c zs x w hz hbig hc
open Go.Lib in
theorem Tryz.slices_Index_string_empty (a : Option Addr) (c : Nat) (x : ByteArray) (w : World) :
  Calls Tryz.prog 98 #[.slice a 0 c, .string x] w fun e w' => e = .returned (.int .i64 (Lib.idxOfS [] x)) ∧ w' = w := Any.slices_Index_string_empty Tryz.lays109 a c x w
def Tryz.lays110_ren : Go.Shelf.Ren := ⟨fun | 110 => 72 | 109 => 98 | n => n, fun | 31 => 23 | 9 => 9 | 4 => 4 | 3 => 3 | 0 => 0 | n => n, fun | n => n⟩
theorem Tryz.lays110 : Go.Proofs.Lays.n110 Tryz.prog Tryz.lays110_ren := {
 mixed := by kernel_rfl
 f109 := Tryz.func98.trans (congrArg some (by kernel_rfl))
 f110 := Tryz.func72.trans (congrArg some (by kernel_rfl))
 t0 := Tryz.underlying0
 a0 := Tryz.isAgg0
 z0 := Tryz.sizeOf0
 v0 := Tryz.zeroValue0
 t3 := Tryz.underlying3
 a3 := Tryz.isAgg3
 z3 := Tryz.sizeOf3
 v3 := Tryz.zeroValue3
 t4 := Tryz.underlying4
 a4 := Tryz.isAgg4
 z4 := Tryz.sizeOf4
 v4 := Tryz.zeroValue4
 t9 := Tryz.underlying9
 a9 := Tryz.isAgg9
 z9 := Tryz.sizeOf9
 v9 := Tryz.zeroValue9
 t31 := Tryz.underlying23
 a31 := Tryz.isAgg23
 z31 := Tryz.sizeOf23
 v31 := Tryz.zeroValue23 }
open Go.Lib in
theorem Tryz.slices_Contains_string (b off n c : Nat) (zs : List ByteArray) (x : ByteArray) (w : World) (hz : n ≤ zs.length) (hbig : n ≤ 9223372036854775807) (hc : ∀ j, j < zs.length → w.cell? ⟨b, off + j, none⟩ = some (.string (zs.getD j ByteArray.empty))) :
  Calls Tryz.prog 72 #[.slice (some ⟨b, off, none⟩) n c, .string x] w fun e w' => e = .returned (.bool (Lib.containsS (zs.take n) x)) ∧ w' = w := Any.slices_Contains_string Tryz.lays110 b off n c zs x w hz hbig hc
open Go.Lib in
theorem Tryz.slices_Contains_string_empty (a : Option Addr) (c : Nat) (x : ByteArray) (w : World) :
  Calls Tryz.prog 72 #[.slice a 0 c, .string x] w fun e w' => e = .returned (.bool false) ∧ w' = w := Any.slices_Contains_string_empty Tryz.lays110 a c x w
def Tryz.laysNm216_ren : Go.Shelf.Ren := ⟨fun | 16 => 73 | n => n, fun | 24 => 23 | 9 => 9 | 4 => 4 | n => n, fun | n => n⟩
theorem Tryz.laysNm216 : Go.Proofs.Lays2.n16 Tryz.prog Tryz.laysNm216_ren := {
 mixed := by kernel_rfl
 f16 := Tryz.func73.trans (congrArg some (by kernel_rfl))
 t4 := Tryz.underlying4
 a4 := Tryz.isAgg4
 z4 := Tryz.sizeOf4
 v4 := Tryz.zeroValue4
 t9 := Tryz.underlying9
 a9 := Tryz.isAgg9
 z9 := Tryz.sizeOf9
 v9 := Tryz.zeroValue9
 t24 := Tryz.underlying23
 a24 := Tryz.isAgg23
 z24 := Tryz.sizeOf23
 v24 := Tryz.zeroValue23
 i9 := by kernel_rfl }
open Go.RowKit Go.Lib in
theorem Tryz.slices_Clone_string (b off n c : Nat) (zs : List ByteArray) (w : World) (hz : n ≤ zs.length) (hbig : n * 16 ≤ 140737488355328) (hc : ∀ j, j < zs.length → w.cell? ⟨b, off + j, none⟩ = some (.string (zs.getD j ByteArray.empty))) :
  Calls Tryz.prog 73 #[.slice (some ⟨b, off, none⟩) n c] w fun e w' => ∃ v', e = .returned v' ∧ w'.ownsRow w.heap.size 9 1 v' n ((zs.take n).map (Value.string)) ∧ v' ≠ .slice none 0 0 ∧ Below w.heap.size w w' := Any.slices_Clone_string Tryz.laysNm216 b off n c zs w hz hbig hc
open Go.RowKit Go.Lib in
theorem Tryz.slices_Clone_string_nil (n c : Nat) (w : World) :
  Calls Tryz.prog 73 #[.slice none n c] w fun e w' => e = .returned (.slice none 0 0) ∧ w' = w := Any.slices_Clone_string_nil Tryz.laysNm216 n c w
open Go.RowKit Go.Lib in
theorem Tryz.slices_Clone_string_zero (a : Addr) (c : Nat) (w : World) :
  Calls Tryz.prog 73 #[.slice (some a) 0 c] w fun e w' => ∃ v', e = .returned v' ∧ w'.ownsRow w.heap.size 9 1 v' 0 [] ∧ v' ≠ .slice none 0 0 ∧ Below w.heap.size w w' := Any.slices_Clone_string_zero Tryz.laysNm216 a c w
def Tryz.laysSlF6_f84_ren : Go.Shelf.Ren := ⟨fun | 6 => 84 | 15 => 112 | 14 => 111 | 28 => 133 | 29 => 134 | 20 => 125 | 21 => 126 | 22 => 127 | 23 => 128 | 24 => 129 | 25 => 130 | 26 => 131 | 27 => 132 | 46 => 141 | 47 => 142 | 48 => 143 | 49 => 144 | 50 => 145 | 57 => 154 | n => n, fun | 22 => 23 | 24 => 9 | 25 => 180 | 3 => 3 | 39 => 214 | 0 => 0 | 53 => 248 | 55 => 31 | 4 => 4 | 46 => 242 | 45 => 241 | 50 => 177 | 5 => 5 | 9 => 9 | 66 => 257 | 70 => 261 | 76 => 272 | 77 => 273 | n => n, fun | n => n⟩
theorem Tryz.laysSlF6_f84 : Go.Proofs.SlLaysF.n6 Tryz.prog Tryz.laysSlF6_f84_ren := {
 mixed := by kernel_rfl
 f6 := ⟨Tryz.f84.name, by decide, Tryz.func84.trans (congrArg some (by kernel_rfl))⟩
 f14 := ⟨Tryz.f111.name, by decide, Tryz.func111.trans (congrArg some (by kernel_rfl))⟩
 f15 := Tryz.func112.trans (congrArg some (by kernel_rfl))
 f20 := ⟨Tryz.f125.name, by decide, Tryz.func125.trans (congrArg some (by kernel_rfl))⟩
 f21 := ⟨Tryz.f126.name, by decide, Tryz.func126.trans (congrArg some (by kernel_rfl))⟩
 f22 := ⟨Tryz.f127.name, by decide, Tryz.func127.trans (congrArg some (by kernel_rfl))⟩
 f23 := ⟨Tryz.f128.name, by decide, Tryz.func128.trans (congrArg some (by kernel_rfl))⟩
 f24 := ⟨Tryz.f129.name, by decide, Tryz.func129.trans (congrArg some (by kernel_rfl))⟩
 f25 := ⟨Tryz.f130.name, by decide, Tryz.func130.trans (congrArg some (by kernel_rfl))⟩
 f26 := ⟨Tryz.f131.name, by decide, Tryz.func131.trans (congrArg some (by kernel_rfl))⟩
 f27 := ⟨Tryz.f132.name, by decide, Tryz.func132.trans (congrArg some (by kernel_rfl))⟩
 f28 := Tryz.func133.trans (congrArg some (by kernel_rfl))
 f29 := Tryz.func134.trans (congrArg some (by kernel_rfl))
 f46 := ⟨Tryz.f141.name, by decide, Tryz.func141.trans (congrArg some (by kernel_rfl))⟩
 f47 := Tryz.func142.trans (congrArg some (by kernel_rfl))
 f48 := Tryz.func143.trans (congrArg some (by kernel_rfl))
 f49 := ⟨Tryz.f144.name, by decide, Tryz.func144.trans (congrArg some (by kernel_rfl))⟩
 f50 := ⟨Tryz.f145.name, by decide, Tryz.func145.trans (congrArg some (by kernel_rfl))⟩
 f57 := ⟨Tryz.f154.name, by decide, Tryz.func154.trans (congrArg some (by kernel_rfl))⟩
 t0 := Tryz.underlying0
 a0 := Tryz.isAgg0
 z0 := Tryz.sizeOf0
 v0 := Tryz.zeroValue0
 t3 := Tryz.underlying3
 a3 := Tryz.isAgg3
 z3 := Tryz.sizeOf3
 v3 := Tryz.zeroValue3
 t4 := Tryz.underlying4
 a4 := Tryz.isAgg4
 z4 := Tryz.sizeOf4
 v4 := Tryz.zeroValue4
 t5 := Tryz.underlying5
 a5 := Tryz.isAgg5
 z5 := Tryz.sizeOf5
 v5 := Tryz.zeroValue5
 t9 := Tryz.underlying9
 a9 := Tryz.isAgg9
 z9 := Tryz.sizeOf9
 v9 := Tryz.zeroValue9
 t22 := Tryz.underlying23
 a22 := Tryz.isAgg23
 z22 := Tryz.sizeOf23
 v22 := Tryz.zeroValue23
 a24 := Tryz.isAgg9
 z24 := Tryz.sizeOf9
 t25 := Tryz.underlying180
 a25 := Tryz.isAgg180
 z25 := Tryz.sizeOf180
 v25 := Tryz.zeroValue180
 t39 := Tryz.underlying214
 a39 := Tryz.isAgg214
 z39 := Tryz.sizeOf214
 v39 := Tryz.zeroValue214
 t45 := Tryz.underlying241
 a45 := Tryz.isAgg241
 z45 := Tryz.sizeOf241
 v45 := Tryz.zeroValue241
 t46 := Tryz.underlying242
 a46 := Tryz.isAgg242
 z46 := Tryz.sizeOf242
 v46 := Tryz.zeroValue242
 t50 := Tryz.underlying177
 a50 := Tryz.isAgg177
 z50 := Tryz.sizeOf177
 v50 := Tryz.zeroValue177
 t53 := Tryz.underlying248
 a53 := Tryz.isAgg248
 z53 := Tryz.sizeOf248
 v53 := Tryz.zeroValue248
 t55 := Tryz.underlying31
 a55 := Tryz.isAgg31
 z55 := Tryz.sizeOf31
 v55 := Tryz.zeroValue31
 t66 := Tryz.underlying257
 a66 := Tryz.isAgg257
 z66 := Tryz.sizeOf257
 v66 := Tryz.zeroValue257
 t70 := Tryz.underlying261
 a70 := Tryz.isAgg261
 z70 := Tryz.sizeOf261
 v70 := Tryz.zeroValue261
 t76 := Tryz.underlying272
 a76 := Tryz.isAgg272
 z76 := Tryz.sizeOf272
 v76 := Tryz.zeroValue272
 t77 := Tryz.underlying273
 a77 := Tryz.isAgg273
 z77 := Tryz.sizeOf273
 v77 := Tryz.zeroValue273 }
def Tryz.laysSlF06_f84_ren : Go.Shelf.Ren := ⟨fun | 6 => 84 | 15 => 112 | 14 => 111 | 28 => 133 | 29 => 134 | 20 => 125 | 21 => 126 | 22 => 127 | 23 => 128 | 24 => 129 | 25 => 130 | 26 => 131 | 27 => 132 | 46 => 141 | 47 => 142 | 48 => 143 | 49 => 144 | 50 => 145 | 57 => 154 | n => n, fun | 22 => 23 | 24 => 9 | 25 => 180 | 3 => 3 | 39 => 214 | 0 => 0 | 53 => 248 | 55 => 31 | 4 => 4 | 46 => 242 | 45 => 241 | 50 => 177 | 5 => 5 | 9 => 9 | 66 => 257 | 70 => 261 | 76 => 272 | 77 => 273 | n => n, fun | n => n⟩
theorem Tryz.laysSlF06_f84 : Go.Proofs.SlLaysF0.n6 Tryz.prog Tryz.laysSlF06_f84_ren := {
 mixed := by kernel_rfl
 f6 := ⟨Tryz.f84.name, by decide, Tryz.func84.trans (congrArg some (by kernel_rfl))⟩
 f14 := ⟨Tryz.f111.name, by decide, Tryz.func111.trans (congrArg some (by kernel_rfl))⟩
 f15 := Tryz.func112.trans (congrArg some (by kernel_rfl))
 f20 := ⟨Tryz.f125.name, by decide, Tryz.func125.trans (congrArg some (by kernel_rfl))⟩
 f21 := ⟨Tryz.f126.name, by decide, Tryz.func126.trans (congrArg some (by kernel_rfl))⟩
 f22 := ⟨Tryz.f127.name, by decide, Tryz.func127.trans (congrArg some (by kernel_rfl))⟩
 f23 := ⟨Tryz.f128.name, by decide, Tryz.func128.trans (congrArg some (by kernel_rfl))⟩
 f24 := ⟨Tryz.f129.name, by decide, Tryz.func129.trans (congrArg some (by kernel_rfl))⟩
 f25 := ⟨Tryz.f130.name, by decide, Tryz.func130.trans (congrArg some (by kernel_rfl))⟩
 f26 := ⟨Tryz.f131.name, by decide, Tryz.func131.trans (congrArg some (by kernel_rfl))⟩
 f27 := ⟨Tryz.f132.name, by decide, Tryz.func132.trans (congrArg some (by kernel_rfl))⟩
 f28 := Tryz.func133.trans (congrArg some (by kernel_rfl))
 f29 := Tryz.func134.trans (congrArg some (by kernel_rfl))
 f46 := ⟨Tryz.f141.name, by decide, Tryz.func141.trans (congrArg some (by kernel_rfl))⟩
 f47 := Tryz.func142.trans (congrArg some (by kernel_rfl))
 f48 := Tryz.func143.trans (congrArg some (by kernel_rfl))
 f49 := ⟨Tryz.f144.name, by decide, Tryz.func144.trans (congrArg some (by kernel_rfl))⟩
 f50 := ⟨Tryz.f145.name, by decide, Tryz.func145.trans (congrArg some (by kernel_rfl))⟩
 f57 := ⟨Tryz.f154.name, by decide, Tryz.func154.trans (congrArg some (by kernel_rfl))⟩
 t0 := Tryz.underlying0
 a0 := Tryz.isAgg0
 z0 := Tryz.sizeOf0
 v0 := Tryz.zeroValue0
 t3 := Tryz.underlying3
 a3 := Tryz.isAgg3
 z3 := Tryz.sizeOf3
 v3 := Tryz.zeroValue3
 t4 := Tryz.underlying4
 a4 := Tryz.isAgg4
 z4 := Tryz.sizeOf4
 v4 := Tryz.zeroValue4
 t5 := Tryz.underlying5
 a5 := Tryz.isAgg5
 z5 := Tryz.sizeOf5
 v5 := Tryz.zeroValue5
 t9 := Tryz.underlying9
 a9 := Tryz.isAgg9
 z9 := Tryz.sizeOf9
 v9 := Tryz.zeroValue9
 t22 := Tryz.underlying23
 a22 := Tryz.isAgg23
 z22 := Tryz.sizeOf23
 v22 := Tryz.zeroValue23
 t25 := Tryz.underlying180
 a25 := Tryz.isAgg180
 z25 := Tryz.sizeOf180
 v25 := Tryz.zeroValue180
 t39 := Tryz.underlying214
 a39 := Tryz.isAgg214
 z39 := Tryz.sizeOf214
 v39 := Tryz.zeroValue214
 t45 := Tryz.underlying241
 a45 := Tryz.isAgg241
 z45 := Tryz.sizeOf241
 v45 := Tryz.zeroValue241
 t46 := Tryz.underlying242
 a46 := Tryz.isAgg242
 z46 := Tryz.sizeOf242
 v46 := Tryz.zeroValue242
 t50 := Tryz.underlying177
 a50 := Tryz.isAgg177
 z50 := Tryz.sizeOf177
 v50 := Tryz.zeroValue177
 t53 := Tryz.underlying248
 a53 := Tryz.isAgg248
 z53 := Tryz.sizeOf248
 v53 := Tryz.zeroValue248
 t55 := Tryz.underlying31
 a55 := Tryz.isAgg31
 z55 := Tryz.sizeOf31
 v55 := Tryz.zeroValue31
 t66 := Tryz.underlying257
 a66 := Tryz.isAgg257
 z66 := Tryz.sizeOf257
 v66 := Tryz.zeroValue257
 t70 := Tryz.underlying261
 a70 := Tryz.isAgg261
 z70 := Tryz.sizeOf261
 v70 := Tryz.zeroValue261
 t76 := Tryz.underlying272
 a76 := Tryz.isAgg272
 z76 := Tryz.sizeOf272
 v76 := Tryz.zeroValue272
 t77 := Tryz.underlying273
 a77 := Tryz.isAgg273
 z77 := Tryz.sizeOf273
 v77 := Tryz.zeroValue273 }
open Go.RowKit Go.Lib Go.Sort in
theorem Tryz.slices_SortFunc_none {α : Type} [Inhabited α] (p : Option Addr) (cap : Nat) (fv : Value) (w : World) :
  Calls Tryz.prog 84 #[.slice p 0 cap, fv] w fun e w' => e = .returned (.tuple #[]) ∧ w' = w := AnyF.slices_SortFunc_none Tryz.laysSlF06_f84 p cap fv w
open Go.RowKit Go.Lib Go.Sort in
theorem Tryz.slices_SortFunc_total {α : Type} [Inhabited α] (enc : α → Value) (h1 : OneCell enc) (cf : α → α → Int) (hO : SWO (ltOf cf)) (g : Nat) (cb : Array Value) (blk off cap : Nat) (d : Array α) (w : World) (eg : ∀ args w, (callFunc g args).run Tryz.prog w = .ok (.enter g args) w) (hcmp : CmpLays1 Tryz.prog g cb enc cf blk off d.size w) (hH : Holds enc w blk off d) (hblk : blk < w.heap.size) (hsz : d.size < 4611686018427387904) (hT : ∀ x y, (ltOf cf) x y = false → (ltOf cf) y x = false → x = y) :
  Calls Tryz.prog 84 #[.slice (some ⟨blk, off, none⟩) d.size cap, .func (.func g) #[] cb] w fun e w' =>
   e = .returned (.tuple #[]) ∧ ∃ n os, w' = sortWorld enc w blk off n (d.toList.mergeSort fun x y => !(ltOf cf) y x).toArray os := Any.slices_SortFunc_total Tryz.laysSlF6_f84 enc h1 cf hO g cb blk off cap d w eg hcmp hH hblk hsz hT
end Go.Proofs
namespace Go.Proofs.YtobaldkipnhlpaaGreatDoor
open Go.RowKit Mem
namespace Nd

theorem do_list_few (c : Int) (A : Option Addr) (n q : Nat) (p : Nat) (ty : TypeId) (B : Nat) (l : List Tr) (v : Value) (xs : List Value) (w : World) (hR : Rw p ty B (fun _ => False) l v xs w) (hus : usedB 5 false 0 [] c n = true) (hlen : l.length ≤ 65536) (hc : (l.length : Int) < c) :
  Calls Tryz.prog 19 #[.pointer (some ⟨p, 0, none⟩), .agg #[.int .i64 5, .bool false, .int .u64 0, .string ⟨([] : Tx).toArray⟩, .int .i64 c, .slice A n q]] w fun e w' => e = .returned (errN 102) ∧ RwX p ty B l w' ∧ Apart p B w w' := by
 have hmf : ∀ (fn : Fn) (first cap : Array Value) (w : World), (Instr.makeFunc fn first cap).run Tryz.prog w = .ok (.func fn first cap) w := fun _ _ _ _ => rfl
 have HR := Lib.hid hR
 clear hR
 go_enter_defers Tryz.func19, Tryz.ntmps19
 go_wp2_with fail
 refine (used_any 5 false 0 [] c A n q _).mono ?_
 rw [hus]
 rintro e w1 ⟨rfl, hb1⟩
 obtain ⟨hbw, hS1, hE1, hsz⟩ := head_blocks w _ hb1
 clear hb1
 have c0 : w1.cell? ⟨w.heap.size, 0, none⟩ = some (.int .i64 5) := hS1.cell 0
 have c1 : w1.cell? ⟨w.heap.size, 1, none⟩ = some (.bool false) := hS1.cell 1
 have c2 : w1.cell? ⟨w.heap.size, 2, none⟩ = some (.int .u64 0) := hS1.cell 2
 have c3 : w1.cell? ⟨w.heap.size, 3, none⟩ = some (.string ⟨([] : Tx).toArray⟩) := hS1.cell 3
 have c4 : w1.cell? ⟨w.heap.size, 4, none⟩ = some (.int .i64 c) := hS1.cell 4
 have c5 : w1.cell? ⟨w.heap.size, 5, none⟩ = some (.slice A n q) := hS1.cell 5
 clear hS1
 go_wp2_with fail
 refine (refuse_yes 2 _).mono ?_
 rintro e w' ⟨rfl, rfl⟩
 obtain ⟨A1, q1, hv1⟩ := own_slice HR.out.own
 have hBv := (HR.out.below hbw).bl
 rw [hv1] at hBv
 go_wp2_with fail
 refine (take_few p ty A1 l.length q1 c _ hBv hc).mono ?_
 rintro e w' ⟨rfl, rfl⟩
 obtain ⟨⟨hc, hz⟩, hc2, hrx, hbp⟩ := fin_err 102 HR.out hbw (by omega) hsz hE1 (Below.refl _ _)
 go_wp2
 refine leaves_cons (f := 35) (args := #[.pointer (some ⟨w.heap.size + 1, 0, none⟩)]) (by simp) (by simp [go_sem]) ?_
 refine (catch_panicking ⟨w.heap.size + 1, 0, none⟩ _ 102 [] _ hc hz).mono ?_
 rintro e u' w'' ⟨rfl, rfl, rfl⟩
 unfold errN at hc2 hrx hbp ⊢
 simp [Leaves, settle, results, Tryz.results19, go_sem, hc2]
 exact ⟨hrx, hbp⟩
theorem do_list_long (k : Nat) (A : Option Addr) (n q : Nat) (p : Nat) (ty : TypeId) (B : Nat) (l : List Tr) (v : Value) (xs : List Value) (w : World) (hR : Rw p ty B (fun _ => False) l v xs w) (hus : usedB 5 false 0 [] (k : Int) n = true) (hlen : l.length ≤ 65536) (hk : k ≤ l.length) (hf : (Tr.list (l.drop (l.length - k))).fit = false) :
  Calls Tryz.prog 19 #[.pointer (some ⟨p, 0, none⟩), .agg #[.int .i64 5, .bool false, .int .u64 0, .string ⟨([] : Tx).toArray⟩, .int .i64 (k : Int), .slice A n q]] w fun e w' => e = .returned (errN 3) ∧ RwX p ty B l w' ∧ Apart p B w w' := by
 have hmf : ∀ (fn : Fn) (first cap : Array Value) (w : World), (Instr.makeFunc fn first cap).run Tryz.prog w = .ok (.func fn first cap) w := fun _ _ _ _ => rfl
 have HR := Lib.hid hR
 clear hR
 go_enter_defers Tryz.func19, Tryz.ntmps19
 go_wp2_with fail
 refine (used_any 5 false 0 [] (k : Int) A n q _).mono ?_
 rw [hus]
 rintro e w1 ⟨rfl, hb1⟩
 obtain ⟨hbw, hS1, hE1, hsz⟩ := head_blocks w _ hb1
 clear hb1
 have c0 : w1.cell? ⟨w.heap.size, 0, none⟩ = some (.int .i64 5) := hS1.cell 0
 have c1 : w1.cell? ⟨w.heap.size, 1, none⟩ = some (.bool false) := hS1.cell 1
 have c2 : w1.cell? ⟨w.heap.size, 2, none⟩ = some (.int .u64 0) := hS1.cell 2
 have c3 : w1.cell? ⟨w.heap.size, 3, none⟩ = some (.string ⟨([] : Tx).toArray⟩) := hS1.cell 3
 have c4 : w1.cell? ⟨w.heap.size, 4, none⟩ = some (.int .i64 (k : Int)) := hS1.cell 4
 have c5 : w1.cell? ⟨w.heap.size, 5, none⟩ = some (.slice A n q) := hS1.cell 5
 clear hS1
 go_wp2_with fail
 refine (refuse_yes 2 _).mono ?_
 rintro e w' ⟨rfl, rfl⟩
 have hRX := ((HR.out.avoid (X' := fun k => k = w.heap.size + 1) fun k hk => .inr (by omega)).below hbw)
 have HRX := Lib.hid hRX
 clear hRX
 go_wp2_with fail
 refine (take_ok p ty B v l.length k xs _ HRX.out.bl HRX.out.own hk (by omega) HRX.out.rd.ones).mono ?_
 rintro e w2 ⟨v2, rfl, ho2, hb2⟩
 obtain ⟨A2, q2, rfl⟩ := own_slice ho2
 have hs2 := hb2.size
 have hxl : (xs.drop (l.length - k)).length = k := by have := ho2.1; simpa using this
 have hdl : (l.drop (l.length - k)).length = k := by rw [List.length_drop]; omega
 have hSx : ∀ j, (Value.slice A2 k q2).ownBlock = some j → Sx B (fun k => k = w.heap.size + 1) v j := by
  intro j hj
  have h1 := ho2.lt j hj
  have h2 := HR.out.le
  refine ⟨by omega, by omega, fun e => ?_⟩
  have := (HR.out.vlt j e.symm).2
  omega
 have hRow : Row (Sx B (fun k => k = w.heap.size + 1) v) w2 85 (.slice A2 k q2) (xs.drop (l.length - k)) := by
  have h := row_of_own ho2
  exact h.mono hSx
 have hRd := (HRX.out.below hb2).rd.drop (l.length - k)
 have HRow := Lib.hid hRow
 have HRd := Lib.hid hRd
 have HSx := Lib.hid hSx
 have HXL := Lib.hid hxl
 have HDL := Lib.hid hdl
 clear hRow hRd hSx ho2 hxl hdl
 go_wp2_with fail
 refine (summed_any _ _ _ (l.drop (l.length - k)) 0 _ HRow.out HRd.out (by omega) (by rw [HDL.out]; omega) (fun t ht => HR.out.fit t (List.mem_of_mem_drop ht))).mono ?_
 rintro e w3 ⟨rfl, hb3⟩
 have hs3 := hb3.size
 have hN : RdT (Sx B (fun k => k = w.heap.size + 1) v) (w3.alloc (.cells #[.int .i64 ((1 + nodesL (l.drop (l.length - k)) : Nat) : Int), .int .i64 ((0 + bytesL (l.drop (l.length - k)) : Nat) : Int), .int .i64 ((depthL (l.drop (l.length - k)) + 1 : Nat) : Int), .slice A2 k q2] 164)) (.list (l.drop (l.length - k))) (.iface 159 (.pointer (some ⟨w3.heap.size, 0, none⟩))) := by
  have h1 : Row (Sx B (fun k => k = w.heap.size + 1) v) w3 85 (.slice A2 (l.drop (l.length - k)).length q2) (xs.drop (l.length - k)) := by
   rw [HDL.out]
   exact HRow.out.move fun j hj hs => ⟨hs, hb3.block j hj⟩
  have h := new_list h1 (HRd.out.move fun j hj hs => ⟨hs, hb3.block j hj⟩) ⟨by have := HR.out.le; omega, by omega, fun e => by have := (HR.out.vlt _ e.symm).2; omega⟩ ((0 + bytesL (l.drop (l.length - k)) : Nat) : Int) (by rw [Nat.zero_add]; rfl)
  rw [HDL.out] at h
  exact h
 have hB4 := Blk.new w3 164 #[.int .i64 ((1 + nodesL (l.drop (l.length - k)) : Nat) : Int), .int .i64 ((0 + bytesL (l.drop (l.length - k)) : Nat) : Int), .int .i64 ((depthL (l.drop (l.length - k)) + 1 : Nat) : Int), .slice A2 k q2]
 have HM := Lib.hid (fun fuel nm hnm => method_list fuel w3.heap.size _ _ _ _ nm hnm (hB4.cell 0) (hB4.cell 1) (hB4.cell 2))
 have hwi : withinB ((1 + nodesL (l.drop (l.length - k)) : Nat) : Int) ((0 + bytesL (l.drop (l.length - k)) : Nat) : Int) ((depthL (l.drop (l.length - k)) + 1 : Nat) : Int) = false := by
  have h := fit_within (t := .list (l.drop (l.length - k)))
  rw [hf] at h
  rw [Nat.zero_add]
  exact h
 have hb24 : Below w1.heap.size w1 (w3.alloc (.cells #[.int .i64 ((1 + nodesL (l.drop (l.length - k)) : Nat) : Int), .int .i64 ((0 + bytesL (l.drop (l.length - k)) : Nat) : Int), .int .i64 ((depthL (l.drop (l.length - k)) + 1 : Nat) : Int), .slice A2 k q2] 164)) :=
  (hb2.trans (hb3.mono (by omega))).alloc (by omega) _
 have HN := Lib.hid hN
 have HW := Lib.hid hwi
 have HB24 := Lib.hid hb24
 clear hN hB4 hwi hb24
 have hbw4 := below_chain hbw (by omega) HB24.out
 have hE4 := hE1.below HB24.out hsz
 have hsz4 : w.heap.size + 1 < (w3.alloc (.cells #[.int .i64 ((1 + nodesL (l.drop (l.length - k)) : Nat) : Int), .int .i64 ((0 + bytesL (l.drop (l.length - k)) : Nat) : Int), .int .i64 ((depthL (l.drop (l.length - k)) + 1 : Nat) : Int), .slice A2 k q2] 164)).heap.size := by simp; omega
 have HBW4 := Lib.hid hbw4
 have HE4 := Lib.hid hE4
 have HSZ4 := Lib.hid hsz4
 clear hbw4 hE4 hsz4
 generalize ((1 + nodesL (l.drop (l.length - k)) : Nat) : Int) = n1 at *
 generalize ((0 + bytesL (l.drop (l.length - k)) : Nat) : Int) = b1 at *
 generalize ((depthL (l.drop (l.length - k)) + 1 : Nat) : Int) = e1 at *
 go_wp2_with fail
 refine (group_long _ _ _ _ n1 b1 e1 _ HM.out HW.out).mono ?_
 rintro e w5 ⟨rfl, hb5⟩
 obtain ⟨⟨hc, hz⟩, hc2, hrx, hbp⟩ := fin_err 3 HR.out HBW4.out (by omega) HSZ4.out HE4.out hb5
 go_wp2
 refine leaves_cons (f := 35) (args := #[.pointer (some ⟨w.heap.size + 1, 0, none⟩)]) (by simp) (by simp [go_sem]) ?_
 refine (catch_panicking ⟨w.heap.size + 1, 0, none⟩ _ 3 [] _ hc hz).mono ?_
 rintro e u' w'' ⟨rfl, rfl, rfl⟩
 unfold errN at hc2 hrx hbp ⊢
 simp [Leaves, settle, results, Tryz.results19, go_sem, hc2]
 exact ⟨hrx, hbp⟩
theorem do_list_ok (k : Nat) (A : Option Addr) (n q : Nat) (p : Nat) (ty : TypeId) (B : Nat) (l : List Tr) (v : Value) (xs : List Value) (w : World) (hR : Rw p ty B (fun _ => False) l v xs w) (hus : usedB 5 false 0 [] (k : Int) n = true) (hlen : l.length ≤ 65536) (hk : k ≤ l.length) (hf : (Tr.list (l.drop (l.length - k))).fit = true) :
  Calls Tryz.prog 19 #[.pointer (some ⟨p, 0, none⟩), .agg #[.int .i64 5, .bool false, .int .u64 0, .string ⟨([] : Tx).toArray⟩, .int .i64 (k : Int), .slice A n q]] w fun e w' => e = .returned .nilIface ∧ RwX p ty B (l.take (l.length - k) ++ [.list (l.drop (l.length - k))]) w' ∧ Apart p B w w' := by
 have hmf : ∀ (fn : Fn) (first cap : Array Value) (w : World), (Instr.makeFunc fn first cap).run Tryz.prog w = .ok (.func fn first cap) w := fun _ _ _ _ => rfl
 have HR := Lib.hid hR
 clear hR
 go_enter_defers Tryz.func19, Tryz.ntmps19
 go_wp2_with fail
 refine (used_any 5 false 0 [] (k : Int) A n q _).mono ?_
 rw [hus]
 rintro e w1 ⟨rfl, hb1⟩
 obtain ⟨hbw, hS1, hE1, hsz⟩ := head_blocks w _ hb1
 clear hb1
 have c0 : w1.cell? ⟨w.heap.size, 0, none⟩ = some (.int .i64 5) := hS1.cell 0
 have c1 : w1.cell? ⟨w.heap.size, 1, none⟩ = some (.bool false) := hS1.cell 1
 have c2 : w1.cell? ⟨w.heap.size, 2, none⟩ = some (.int .u64 0) := hS1.cell 2
 have c3 : w1.cell? ⟨w.heap.size, 3, none⟩ = some (.string ⟨([] : Tx).toArray⟩) := hS1.cell 3
 have c4 : w1.cell? ⟨w.heap.size, 4, none⟩ = some (.int .i64 (k : Int)) := hS1.cell 4
 have c5 : w1.cell? ⟨w.heap.size, 5, none⟩ = some (.slice A n q) := hS1.cell 5
 clear hS1
 go_wp2_with fail
 refine (refuse_yes 2 _).mono ?_
 rintro e w' ⟨rfl, rfl⟩
 have hRX := ((HR.out.avoid (X' := fun k => k = w.heap.size + 1) fun k hk => .inr (by omega)).below hbw)
 have HRX := Lib.hid hRX
 clear hRX
 go_wp2_with fail
 refine (take_ok p ty B v l.length k xs _ HRX.out.bl HRX.out.own hk (by omega) HRX.out.rd.ones).mono ?_
 rintro e w2 ⟨v2, rfl, ho2, hb2⟩
 obtain ⟨A2, q2, rfl⟩ := own_slice ho2
 have hs2 := hb2.size
 have hxl : (xs.drop (l.length - k)).length = k := by have := ho2.1; simpa using this
 have hdl : (l.drop (l.length - k)).length = k := by rw [List.length_drop]; omega
 have hSx : ∀ j, (Value.slice A2 k q2).ownBlock = some j → Sx B (fun k => k = w.heap.size + 1) v j := by
  intro j hj
  have h1 := ho2.lt j hj
  have h2 := HR.out.le
  refine ⟨by omega, by omega, fun e => ?_⟩
  have := (HR.out.vlt j e.symm).2
  omega
 have hRow : Row (Sx B (fun k => k = w.heap.size + 1) v) w2 85 (.slice A2 k q2) (xs.drop (l.length - k)) := by
  have h := row_of_own ho2
  exact h.mono hSx
 have hRd := (HRX.out.below hb2).rd.drop (l.length - k)
 have HRow := Lib.hid hRow
 have HRd := Lib.hid hRd
 have HSx := Lib.hid hSx
 have HXL := Lib.hid hxl
 have HDL := Lib.hid hdl
 clear hRow hRd hSx ho2 hxl hdl
 go_wp2_with fail
 refine (summed_any _ _ _ (l.drop (l.length - k)) 0 _ HRow.out HRd.out (by omega) (by rw [HDL.out]; omega) (fun t ht => HR.out.fit t (List.mem_of_mem_drop ht))).mono ?_
 rintro e w3 ⟨rfl, hb3⟩
 have hs3 := hb3.size
 have hN : RdT (Sx B (fun k => k = w.heap.size + 1) v) (w3.alloc (.cells #[.int .i64 ((1 + nodesL (l.drop (l.length - k)) : Nat) : Int), .int .i64 ((0 + bytesL (l.drop (l.length - k)) : Nat) : Int), .int .i64 ((depthL (l.drop (l.length - k)) + 1 : Nat) : Int), .slice A2 k q2] 164)) (.list (l.drop (l.length - k))) (.iface 159 (.pointer (some ⟨w3.heap.size, 0, none⟩))) := by
  have h1 : Row (Sx B (fun k => k = w.heap.size + 1) v) w3 85 (.slice A2 (l.drop (l.length - k)).length q2) (xs.drop (l.length - k)) := by
   rw [HDL.out]
   exact HRow.out.move fun j hj hs => ⟨hs, hb3.block j hj⟩
  have h := new_list h1 (HRd.out.move fun j hj hs => ⟨hs, hb3.block j hj⟩) ⟨by have := HR.out.le; omega, by omega, fun e => by have := (HR.out.vlt _ e.symm).2; omega⟩ ((0 + bytesL (l.drop (l.length - k)) : Nat) : Int) (by rw [Nat.zero_add]; rfl)
  rw [HDL.out] at h
  exact h
 have hB4 := Blk.new w3 164 #[.int .i64 ((1 + nodesL (l.drop (l.length - k)) : Nat) : Int), .int .i64 ((0 + bytesL (l.drop (l.length - k)) : Nat) : Int), .int .i64 ((depthL (l.drop (l.length - k)) + 1 : Nat) : Int), .slice A2 k q2]
 have HM := Lib.hid (fun fuel nm hnm => method_list fuel w3.heap.size _ _ _ _ nm hnm (hB4.cell 0) (hB4.cell 1) (hB4.cell 2))
 have hwi : withinB ((1 + nodesL (l.drop (l.length - k)) : Nat) : Int) ((0 + bytesL (l.drop (l.length - k)) : Nat) : Int) ((depthL (l.drop (l.length - k)) + 1 : Nat) : Int) = true := by
  have h := fit_within (t := .list (l.drop (l.length - k)))
  rw [hf] at h
  rw [Nat.zero_add]
  exact h
 have hb24 : Below w1.heap.size w1 (w3.alloc (.cells #[.int .i64 ((1 + nodesL (l.drop (l.length - k)) : Nat) : Int), .int .i64 ((0 + bytesL (l.drop (l.length - k)) : Nat) : Int), .int .i64 ((depthL (l.drop (l.length - k)) + 1 : Nat) : Int), .slice A2 k q2] 164)) :=
  (hb2.trans (hb3.mono (by omega))).alloc (by omega) _
 have HN := Lib.hid hN
 have HW := Lib.hid hwi
 have HB24 := Lib.hid hb24
 clear hN hB4 hwi hb24
 have hbw4 := below_chain hbw (by omega) HB24.out
 have hE4 := hE1.below HB24.out hsz
 have hsz4 : w.heap.size + 1 < (w3.alloc (.cells #[.int .i64 ((1 + nodesL (l.drop (l.length - k)) : Nat) : Int), .int .i64 ((0 + bytesL (l.drop (l.length - k)) : Nat) : Int), .int .i64 ((depthL (l.drop (l.length - k)) + 1 : Nat) : Int), .slice A2 k q2] 164)).heap.size := by simp; omega
 have HBW4 := Lib.hid hbw4
 have HE4 := Lib.hid hE4
 have HSZ4 := Lib.hid hsz4
 clear hbw4 hE4 hsz4
 generalize ((1 + nodesL (l.drop (l.length - k)) : Nat) : Int) = n1 at *
 generalize ((0 + bytesL (l.drop (l.length - k)) : Nat) : Int) = b1 at *
 generalize ((depthL (l.drop (l.length - k)) + 1 : Nat) : Int) = e1 at *
 go_wp2_with fail
 refine (group_ok k _ _ n1 b1 e1 (HRX.out.below HB24.out) hk (by omega) HM.out HW.out rfl).mono ?_
 rintro e w5 ⟨rfl, hP⟩
 obtain ⟨v5, xs5, hR5, hob5, hb5, hk5⟩ := hP.rw (HRX.out.below HB24.out) hk HN.out hf
 obtain ⟨⟨hc, hz⟩, hc2, hrx, hbp⟩ := fin_ok HR.out HBW4.out (by omega) HSZ4.out HE4.out hR5 hob5 hb5 hk5
 go_wp2
 refine leaves_cons (f := 35) (args := #[.pointer (some ⟨w.heap.size + 1, 0, none⟩)]) (by simp) (by simp [go_sem]) ?_
 refine (catch_idle ⟨w.heap.size + 1, 0, none⟩ _).mono ?_
 rintro e u' w'' ⟨rfl, rfl, rfl⟩
 simp [Leaves, settle, results, Tryz.results19, go_sem, hc2]
 exact ⟨hrx, hbp⟩
end Nd
end Go.Proofs.YtobaldkipnhlpaaGreatDoor
