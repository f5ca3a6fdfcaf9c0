/- The contracts of the library's slices.Sort and slices.Compact at whole numbers hold in the given program. -/
import Derived.Test.YtpokpgejcendmaaGreatProg
import Derived.Shelf.Sort.Plain
import Derived.Shelf.Slices.CompactI
import Derived.Test.YtpokpgejcendmaaGreatRfC
set_option linter.all false
namespace Go.Proofs
open Go.Shelf
def Tryz.lays189_ren : Go.Shelf.Ren := ⟨fun | 189 => 253 | 125 => 291 | 257 => 290 | 128 => 326 | 129 => 327 | 294 => 317 | 295 => 318 | 296 => 319 | 297 => 320 | 298 => 321 | 299 => 322 | 216 => 323 | 300 => 324 | 301 => 325 | 328 => 340 | 329 => 341 | 330 => 342 | 331 => 343 | 332 => 344 | 215 => 345 | 343 => 349 | n => n, fun | 28 => 32 | 3 => 3 | 46 => 205 | 0 => 0 | 51 => 289 | 53 => 121 | 4 => 4 | 183 => 307 | 182 => 306 | 131 => 153 | 5 => 5 | 9 => 9 | 218 => 319 | 222 => 323 | 228 => 327 | 229 => 328 | n => n, fun | n => n⟩
theorem Tryz.lays189 : Go.Proofs.Lays.n189 Tryz.prog Tryz.lays189_ren := {
  mixed := by kernel_rfl
  f125 := Tryz.func291.trans (congrArg some (by kernel_rfl))
  f128 := Tryz.func326.trans (congrArg some (by kernel_rfl))
  f129 := Tryz.func327.trans (congrArg some (by kernel_rfl))
  f189 := Tryz.func253.trans (congrArg some (by kernel_rfl))
  f215 := Tryz.func345.trans (congrArg some (by kernel_rfl))
  f216 := Tryz.func323.trans (congrArg some (by kernel_rfl))
  f257 := Tryz.func290.trans (congrArg some (by kernel_rfl))
  f294 := Tryz.func317.trans (congrArg some (by kernel_rfl))
  f295 := Tryz.func318.trans (congrArg some (by kernel_rfl))
  f296 := Tryz.func319.trans (congrArg some (by kernel_rfl))
  f297 := Tryz.func320.trans (congrArg some (by kernel_rfl))
  f298 := Tryz.func321.trans (congrArg some (by kernel_rfl))
  f299 := Tryz.func322.trans (congrArg some (by kernel_rfl))
  f300 := Tryz.func324.trans (congrArg some (by kernel_rfl))
  f301 := Tryz.func325.trans (congrArg some (by kernel_rfl))
  f328 := Tryz.func340.trans (congrArg some (by kernel_rfl))
  f329 := Tryz.func341.trans (congrArg some (by kernel_rfl))
  f330 := Tryz.func342.trans (congrArg some (by kernel_rfl))
  f331 := Tryz.func343.trans (congrArg some (by kernel_rfl))
  f332 := Tryz.func344.trans (congrArg some (by kernel_rfl))
  f343 := Tryz.func349.trans (congrArg some (by kernel_rfl))
  t0 := Tryz.underlying0
  a0 := Tryz.isAgg0
  z0 := Tryz.sizeOf0
  v0 := Tryz.zeroValue0
  t3 := Tryz.underlying3
  a3 := Tryz.isAgg3
  z3 := Tryz.sizeOf3
  v3 := Tryz.zeroValue3
  t4 := Tryz.underlying4
  a4 := Tryz.isAgg4
  z4 := Tryz.sizeOf4
  v4 := Tryz.zeroValue4
  t5 := Tryz.underlying5
  a5 := Tryz.isAgg5
  z5 := Tryz.sizeOf5
  v5 := Tryz.zeroValue5
  t9 := Tryz.underlying9
  a9 := Tryz.isAgg9
  z9 := Tryz.sizeOf9
  v9 := Tryz.zeroValue9
  t28 := Tryz.underlying32
  a28 := Tryz.isAgg32
  z28 := Tryz.sizeOf32
  v28 := Tryz.zeroValue32
  t46 := Tryz.underlying205
  a46 := Tryz.isAgg205
  z46 := Tryz.sizeOf205
  v46 := Tryz.zeroValue205
  t51 := Tryz.underlying289
  a51 := Tryz.isAgg289
  z51 := Tryz.sizeOf289
  v51 := Tryz.zeroValue289
  t53 := Tryz.underlying121
  a53 := Tryz.isAgg121
  z53 := Tryz.sizeOf121
  v53 := Tryz.zeroValue121
  t131 := Tryz.underlying153
  a131 := Tryz.isAgg153
  z131 := Tryz.sizeOf153
  v131 := Tryz.zeroValue153
  t182 := Tryz.underlying306
  a182 := Tryz.isAgg306
  z182 := Tryz.sizeOf306
  v182 := Tryz.zeroValue306
  t183 := Tryz.underlying307
  a183 := Tryz.isAgg307
  z183 := Tryz.sizeOf307
  v183 := Tryz.zeroValue307
  t218 := Tryz.underlying319
  a218 := Tryz.isAgg319
  z218 := Tryz.sizeOf319
  v218 := Tryz.zeroValue319
  t222 := Tryz.underlying323
  a222 := Tryz.isAgg323
  z222 := Tryz.sizeOf323
  v222 := Tryz.zeroValue323
  t228 := Tryz.underlying327
  a228 := Tryz.isAgg327
  z228 := Tryz.sizeOf327
  v228 := Tryz.zeroValue327
  t229 := Tryz.underlying328
  a229 := Tryz.isAgg328
  z229 := Tryz.sizeOf328
  v229 := Tryz.zeroValue328 }
def Tryz.laysNm220_ren : Go.Shelf.Ren := ⟨fun | 20 => 254 | n => n, fun | 22 => 32 | 3 => 3 | 4 => 4 | 0 => 0 | n => n, fun | n => n⟩
theorem Tryz.laysNm220 : Go.Proofs.Lays2.n20 Tryz.prog Tryz.laysNm220_ren := {
  mixed := by kernel_rfl
  f20 := Tryz.func254.trans (congrArg some (by kernel_rfl))
  t0 := Tryz.underlying0
  a0 := Tryz.isAgg0
  z0 := Tryz.sizeOf0
  v0 := Tryz.zeroValue0
  t3 := Tryz.underlying3
  a3 := Tryz.isAgg3
  z3 := Tryz.sizeOf3
  v3 := Tryz.zeroValue3
  t4 := Tryz.underlying4
  a4 := Tryz.isAgg4
  z4 := Tryz.sizeOf4
  v4 := Tryz.zeroValue4
  t22 := Tryz.underlying32
  a22 := Tryz.isAgg32
  z22 := Tryz.sizeOf32
  v22 := Tryz.zeroValue32
  i3 := by kernel_rfl }
theorem Tryz.sortOk : Go.Rf.SortOk Tryz.prog 253 := fun blk off cap zs w h1 h2 h3 => Any.slices_Sort_int Tryz.lays189 blk off cap zs w h1 h2 h3
theorem Tryz.compactOk : Go.Rf.CompactOk Tryz.prog 254 := fun blk off cap zs w h1 h2 h3 => Any.slices_Compact_int Tryz.laysNm220 blk off cap zs w h1 h2 h3
end Go.Proofs
