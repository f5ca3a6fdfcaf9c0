/- The contracts of the library's slices.Sort and slices.Compact at whole numbers hold in the given program. -/
import Derived.Test.YtmfoobckeoaklaaGreatProg
import Derived.Shelf.Sort.Plain
import Derived.Shelf.Slices.CompactI
import Derived.Test.YtmfoobckeoaklaaGreatRfC
set_option linter.all false
namespace Go.Proofs
open Go.Shelf
def Tryz.lays189_ren : Go.Shelf.Ren := ⟨fun | 189 => 257 | 125 => 279 | 257 => 278 | 128 => 293 | 129 => 294 | 294 => 284 | 295 => 285 | 296 => 286 | 297 => 287 | 298 => 288 | 299 => 289 | 216 => 290 | 300 => 291 | 301 => 292 | 328 => 295 | 329 => 296 | 330 => 297 | 331 => 298 | 332 => 299 | 215 => 300 | 343 => 301 | n => n, fun | 28 => 26 | 3 => 3 | 46 => 191 | 0 => 0 | 51 => 240 | 53 => 95 | 4 => 4 | 183 => 278 | 182 => 277 | 131 => 68 | 5 => 5 | 9 => 9 | 218 => 284 | 222 => 288 | 228 => 290 | 229 => 291 | n => n, fun | n => n⟩
theorem Tryz.lays189 : Go.Proofs.Lays.n189 Tryz.prog Tryz.lays189_ren := {
  mixed := by kernel_rfl
  f125 := Tryz.func279.trans (congrArg some (by kernel_rfl))
  f128 := Tryz.func293.trans (congrArg some (by kernel_rfl))
  f129 := Tryz.func294.trans (congrArg some (by kernel_rfl))
  f189 := Tryz.func257.trans (congrArg some (by kernel_rfl))
  f215 := Tryz.func300.trans (congrArg some (by kernel_rfl))
  f216 := Tryz.func290.trans (congrArg some (by kernel_rfl))
  f257 := Tryz.func278.trans (congrArg some (by kernel_rfl))
  f294 := Tryz.func284.trans (congrArg some (by kernel_rfl))
  f295 := Tryz.func285.trans (congrArg some (by kernel_rfl))
  f296 := Tryz.func286.trans (congrArg some (by kernel_rfl))
  f297 := Tryz.func287.trans (congrArg some (by kernel_rfl))
  f298 := Tryz.func288.trans (congrArg some (by kernel_rfl))
  f299 := Tryz.func289.trans (congrArg some (by kernel_rfl))
  f300 := Tryz.func291.trans (congrArg some (by kernel_rfl))
  f301 := Tryz.func292.trans (congrArg some (by kernel_rfl))
  f328 := Tryz.func295.trans (congrArg some (by kernel_rfl))
  f329 := Tryz.func296.trans (congrArg some (by kernel_rfl))
  f330 := Tryz.func297.trans (congrArg some (by kernel_rfl))
  f331 := Tryz.func298.trans (congrArg some (by kernel_rfl))
  f332 := Tryz.func299.trans (congrArg some (by kernel_rfl))
  f343 := Tryz.func301.trans (congrArg some (by kernel_rfl))
  t0 := Tryz.underlying0
  a0 := Tryz.isAgg0
  z0 := Tryz.sizeOf0
  v0 := Tryz.zeroValue0
  t3 := Tryz.underlying3
  a3 := Tryz.isAgg3
  z3 := Tryz.sizeOf3
  v3 := Tryz.zeroValue3
  t4 := Tryz.underlying4
  a4 := Tryz.isAgg4
  z4 := Tryz.sizeOf4
  v4 := Tryz.zeroValue4
  t5 := Tryz.underlying5
  a5 := Tryz.isAgg5
  z5 := Tryz.sizeOf5
  v5 := Tryz.zeroValue5
  t9 := Tryz.underlying9
  a9 := Tryz.isAgg9
  z9 := Tryz.sizeOf9
  v9 := Tryz.zeroValue9
  t28 := Tryz.underlying26
  a28 := Tryz.isAgg26
  z28 := Tryz.sizeOf26
  v28 := Tryz.zeroValue26
  t46 := Tryz.underlying191
  a46 := Tryz.isAgg191
  z46 := Tryz.sizeOf191
  v46 := Tryz.zeroValue191
  t51 := Tryz.underlying240
  a51 := Tryz.isAgg240
  z51 := Tryz.sizeOf240
  v51 := Tryz.zeroValue240
  t53 := Tryz.underlying95
  a53 := Tryz.isAgg95
  z53 := Tryz.sizeOf95
  v53 := Tryz.zeroValue95
  t131 := Tryz.underlying68
  a131 := Tryz.isAgg68
  z131 := Tryz.sizeOf68
  v131 := Tryz.zeroValue68
  t182 := Tryz.underlying277
  a182 := Tryz.isAgg277
  z182 := Tryz.sizeOf277
  v182 := Tryz.zeroValue277
  t183 := Tryz.underlying278
  a183 := Tryz.isAgg278
  z183 := Tryz.sizeOf278
  v183 := Tryz.zeroValue278
  t218 := Tryz.underlying284
  a218 := Tryz.isAgg284
  z218 := Tryz.sizeOf284
  v218 := Tryz.zeroValue284
  t222 := Tryz.underlying288
  a222 := Tryz.isAgg288
  z222 := Tryz.sizeOf288
  v222 := Tryz.zeroValue288
  t228 := Tryz.underlying290
  a228 := Tryz.isAgg290
  z228 := Tryz.sizeOf290
  v228 := Tryz.zeroValue290
  t229 := Tryz.underlying291
  a229 := Tryz.isAgg291
  z229 := Tryz.sizeOf291
  v229 := Tryz.zeroValue291 }
def Tryz.laysNm220_ren : Go.Shelf.Ren := ⟨fun | 20 => 258 | n => n, fun | 22 => 26 | 3 => 3 | 4 => 4 | 0 => 0 | n => n, fun | n => n⟩
theorem Tryz.laysNm220 : Go.Proofs.Lays2.n20 Tryz.prog Tryz.laysNm220_ren := {
  mixed := by kernel_rfl
  f20 := Tryz.func258.trans (congrArg some (by kernel_rfl))
  t0 := Tryz.underlying0
  a0 := Tryz.isAgg0
  z0 := Tryz.sizeOf0
  v0 := Tryz.zeroValue0
  t3 := Tryz.underlying3
  a3 := Tryz.isAgg3
  z3 := Tryz.sizeOf3
  v3 := Tryz.zeroValue3
  t4 := Tryz.underlying4
  a4 := Tryz.isAgg4
  z4 := Tryz.sizeOf4
  v4 := Tryz.zeroValue4
  t22 := Tryz.underlying26
  a22 := Tryz.isAgg26
  z22 := Tryz.sizeOf26
  v22 := Tryz.zeroValue26
  i3 := by kernel_rfl }
theorem Tryz.sortOk : Go.Rf.SortOk Tryz.prog 257 := fun blk off cap zs w h1 h2 h3 => Any.slices_Sort_int Tryz.lays189 blk off cap zs w h1 h2 h3
theorem Tryz.compactOk : Go.Rf.CompactOk Tryz.prog 258 := fun blk off cap zs w h1 h2 h3 => Any.slices_Compact_int Tryz.laysNm220 blk off cap zs w h1 h2 h3
end Go.Proofs
