import Derived.Shelf.Strconv.Itoa0
import Derived.Shelf.Strconv.Itoa1
import Derived.Shelf.LaysM
import Derived.Shelf.Strconv.Itoa2
import Derived.Shelf.Strconv.Itoa3
import Derived.Shelf.Strconv.Itoa4
import Derived.Shelf.Bytes.SlSearch0
import Derived.Ground.SlgnProg
import Derived.Shelf.SlicesG.SearchI
import Derived.Shelf.SlicesE.Clone
import Derived.Shelf.Bytes.Small
import Derived.Test.YtcipleanckeoaaaDoorProg
namespace Go.Proofs
open Go.Shelf
def Tryd.laysM173_ren : Go.Shelf.Ren := ⟨fun | 173 => 54 | 246 => 94 | 283 => 123 | 284 => 124 | 285 => 125 | 286 => 126 | 129 => 147 | 317 => 146 | 318 => 148 | 319 => 149 | 320 => 150 | 337 => 157 | 338 => 158 | n => n, fun | 2 => 2 | 3 => 3 | 9 => 9 | 4 => 4 | 171 => 199 | 0 => 0 | 53 => 150 | 37 => 22 | 5 => 5 | 173 => 202 | 212 => 219 | 51 => 91 | 20 => 20 | 213 => 220 | 46 => 115 | 232 => 231 | 233 => 232 | n => n, fun | 17 => 2 | 18 => 3 | 19 => 4 | n => n⟩
theorem Tryd.laysM173 : Go.Proofs.LaysM.n173 Tryd.prog Tryd.laysM173_ren := {
 mixed := by kernel_rfl
 f129 := Tryd.func147.trans (congrArg some (by kernel_rfl))
 f173 := Tryd.func54.trans (congrArg some (by kernel_rfl))
 f246 := Tryd.func94.trans (congrArg some (by kernel_rfl))
 f283 := Tryd.func123.trans (congrArg some (by kernel_rfl))
 f284 := Tryd.func124.trans (congrArg some (by kernel_rfl))
 f285 := Tryd.func125.trans (congrArg some (by kernel_rfl))
 f286 := Tryd.func126.trans (congrArg some (by kernel_rfl))
 f317 := Tryd.func146.trans (congrArg some (by kernel_rfl))
 f318 := Tryd.func148.trans (congrArg some (by kernel_rfl))
 f319 := Tryd.func149.trans (congrArg some (by kernel_rfl))
 f320 := Tryd.func150.trans (congrArg some (by kernel_rfl))
 f337 := Tryd.func157.trans (congrArg some (by kernel_rfl))
 f338 := Tryd.func158.trans (congrArg some (by kernel_rfl))
 t0 := Tryd.underlying0
 a0 := Tryd.isAgg0
 z0 := Tryd.sizeOf0
 v0 := Tryd.zeroValue0
 t2 := Tryd.underlying2
 a2 := Tryd.isAgg2
 z2 := Tryd.sizeOf2
 v2 := Tryd.zeroValue2
 t3 := Tryd.underlying3
 a3 := Tryd.isAgg3
 z3 := Tryd.sizeOf3
 v3 := Tryd.zeroValue3
 t4 := Tryd.underlying4
 a4 := Tryd.isAgg4
 z4 := Tryd.sizeOf4
 v4 := Tryd.zeroValue4
 t5 := Tryd.underlying5
 a5 := Tryd.isAgg5
 z5 := Tryd.sizeOf5
 v5 := Tryd.zeroValue5
 t9 := Tryd.underlying9
 a9 := Tryd.isAgg9
 z9 := Tryd.sizeOf9
 v9 := Tryd.zeroValue9
 t20 := Tryd.underlying20
 a20 := Tryd.isAgg20
 z20 := Tryd.sizeOf20
 v20 := Tryd.zeroValue20
 t37 := Tryd.underlying22
 a37 := Tryd.isAgg22
 z37 := Tryd.sizeOf22
 v37 := Tryd.zeroValue22
 t46 := Tryd.underlying115
 a46 := Tryd.isAgg115
 z46 := Tryd.sizeOf115
 v46 := Tryd.zeroValue115
 t51 := Tryd.underlying91
 a51 := Tryd.isAgg91
 z51 := Tryd.sizeOf91
 v51 := Tryd.zeroValue91
 t53 := Tryd.underlying150
 a53 := Tryd.isAgg150
 z53 := Tryd.sizeOf150
 v53 := Tryd.zeroValue150
 t171 := Tryd.underlying199
 a171 := Tryd.isAgg199
 z171 := Tryd.sizeOf199
 v171 := Tryd.zeroValue199
 t173 := Tryd.underlying202
 a173 := Tryd.isAgg202
 z173 := Tryd.sizeOf202
 v173 := Tryd.zeroValue202
 t212 := Tryd.underlying219
 a212 := Tryd.isAgg219
 z212 := Tryd.sizeOf219
 v212 := Tryd.zeroValue219
 t213 := Tryd.underlying220
 a213 := Tryd.isAgg220
 z213 := Tryd.sizeOf220
 t232 := Tryd.underlying231
 a232 := Tryd.isAgg231
 z232 := Tryd.sizeOf231
 v232 := Tryd.zeroValue231
 t233 := Tryd.underlying232
 a233 := Tryd.isAgg232
 z233 := Tryd.sizeOf232
 v233 := Tryd.zeroValue232
 g17 := by kernel_rfl
 g18 := by kernel_rfl
 g19 := by kernel_rfl
 i0 := by kernel_rfl
 i2 := by kernel_rfl
 i3 := by kernel_rfl
 i4 := by kernel_rfl
 i5 := by kernel_rfl
 i9 := by kernel_rfl
 i20 := by kernel_rfl
 i37 := by kernel_rfl
 i46 := by kernel_rfl
 i51 := by kernel_rfl
 i53 := by kernel_rfl
 i171 := by kernel_rfl
 i173 := by kernel_rfl
 i212 := by kernel_rfl
 i232 := by kernel_rfl
 i233 := by kernel_rfl
 m17 := by kernel_rfl
 m18 := by kernel_rfl
 m19 := by kernel_rfl }
open Go.RowKit Go.Sort Go.Lib in
theorem Tryd.strconv_FormatInt_10 (n : Int) (h0 : -9223372036854775808 ≤ n) (h1 : n ≤ 9223372036854775807) (w : World) (htab : Lib.TabIs Tryd.prog w "internal/strconv.uint64pow10" .u64 Lib.pow10Tab) :
  Calls Tryd.prog 54 #[.int .i64 n, .int .i64 10] w fun e w' => e = .returned (.string ⟨(Lib.itoa n).toArray⟩) ∧ ∃ k os, w' = grow (w.drewN k) os := Any.strconv_FormatInt_10 Tryd.laysM173 n h0 h1 w htab
end Go.Proofs
