/- The contracts of the library's slices.Sort and slices.Compact at whole numbers hold in the given program. -/
import Derived.Test.YtkfnlnohgfpipaaGreatProg
import Derived.Shelf.Sort.Plain
import Derived.Shelf.Slices.CompactI
import Derived.Test.YtkfnlnohgfpipaaGreatRfC
set_option linter.all false
namespace Go.Proofs
open Go.Shelf
def Tryz.lays189_ren : Go.Shelf.Ren := ⟨fun | 189 => 282 | 125 => 333 | 257 => 332 | 128 => 362 | 129 => 363 | 294 => 353 | 295 => 354 | 296 => 355 | 297 => 356 | 298 => 357 | 299 => 358 | 216 => 359 | 300 => 360 | 301 => 361 | 328 => 371 | 329 => 372 | 330 => 373 | 331 => 374 | 332 => 375 | 215 => 376 | 343 => 377 | n => n, fun | 28 => 32 | 3 => 3 | 46 => 234 | 0 => 0 | 51 => 307 | 53 => 121 | 4 => 4 | 183 => 333 | 182 => 332 | 131 => 82 | 5 => 5 | 9 => 9 | 218 => 343 | 222 => 347 | 228 => 349 | 229 => 350 | n => n, fun | n => n⟩
theorem Tryz.lays189 : Go.Proofs.Lays.n189 Tryz.prog Tryz.lays189_ren := {
  mixed := by kernel_rfl
  f125 := Tryz.func333.trans (congrArg some (by kernel_rfl))
  f128 := Tryz.func362.trans (congrArg some (by kernel_rfl))
  f129 := Tryz.func363.trans (congrArg some (by kernel_rfl))
  f189 := Tryz.func282.trans (congrArg some (by kernel_rfl))
  f215 := Tryz.func376.trans (congrArg some (by kernel_rfl))
  f216 := Tryz.func359.trans (congrArg some (by kernel_rfl))
  f257 := Tryz.func332.trans (congrArg some (by kernel_rfl))
  f294 := Tryz.func353.trans (congrArg some (by kernel_rfl))
  f295 := Tryz.func354.trans (congrArg some (by kernel_rfl))
  f296 := Tryz.func355.trans (congrArg some (by kernel_rfl))
  f297 := Tryz.func356.trans (congrArg some (by kernel_rfl))
  f298 := Tryz.func357.trans (congrArg some (by kernel_rfl))
  f299 := Tryz.func358.trans (congrArg some (by kernel_rfl))
  f300 := Tryz.func360.trans (congrArg some (by kernel_rfl))
  f301 := Tryz.func361.trans (congrArg some (by kernel_rfl))
  f328 := Tryz.func371.trans (congrArg some (by kernel_rfl))
  f329 := Tryz.func372.trans (congrArg some (by kernel_rfl))
  f330 := Tryz.func373.trans (congrArg some (by kernel_rfl))
  f331 := Tryz.func374.trans (congrArg some (by kernel_rfl))
  f332 := Tryz.func375.trans (congrArg some (by kernel_rfl))
  f343 := Tryz.func377.trans (congrArg some (by kernel_rfl))
  t0 := Tryz.underlying0
  a0 := Tryz.isAgg0
  z0 := Tryz.sizeOf0
  v0 := Tryz.zeroValue0
  t3 := Tryz.underlying3
  a3 := Tryz.isAgg3
  z3 := Tryz.sizeOf3
  v3 := Tryz.zeroValue3
  t4 := Tryz.underlying4
  a4 := Tryz.isAgg4
  z4 := Tryz.sizeOf4
  v4 := Tryz.zeroValue4
  t5 := Tryz.underlying5
  a5 := Tryz.isAgg5
  z5 := Tryz.sizeOf5
  v5 := Tryz.zeroValue5
  t9 := Tryz.underlying9
  a9 := Tryz.isAgg9
  z9 := Tryz.sizeOf9
  v9 := Tryz.zeroValue9
  t28 := Tryz.underlying32
  a28 := Tryz.isAgg32
  z28 := Tryz.sizeOf32
  v28 := Tryz.zeroValue32
  t46 := Tryz.underlying234
  a46 := Tryz.isAgg234
  z46 := Tryz.sizeOf234
  v46 := Tryz.zeroValue234
  t51 := Tryz.underlying307
  a51 := Tryz.isAgg307
  z51 := Tryz.sizeOf307
  v51 := Tryz.zeroValue307
  t53 := Tryz.underlying121
  a53 := Tryz.isAgg121
  z53 := Tryz.sizeOf121
  v53 := Tryz.zeroValue121
  t131 := Tryz.underlying82
  a131 := Tryz.isAgg82
  z131 := Tryz.sizeOf82
  v131 := Tryz.zeroValue82
  t182 := Tryz.underlying332
  a182 := Tryz.isAgg332
  z182 := Tryz.sizeOf332
  v182 := Tryz.zeroValue332
  t183 := Tryz.underlying333
  a183 := Tryz.isAgg333
  z183 := Tryz.sizeOf333
  v183 := Tryz.zeroValue333
  t218 := Tryz.underlying343
  a218 := Tryz.isAgg343
  z218 := Tryz.sizeOf343
  v218 := Tryz.zeroValue343
  t222 := Tryz.underlying347
  a222 := Tryz.isAgg347
  z222 := Tryz.sizeOf347
  v222 := Tryz.zeroValue347
  t228 := Tryz.underlying349
  a228 := Tryz.isAgg349
  z228 := Tryz.sizeOf349
  v228 := Tryz.zeroValue349
  t229 := Tryz.underlying350
  a229 := Tryz.isAgg350
  z229 := Tryz.sizeOf350
  v229 := Tryz.zeroValue350 }
def Tryz.laysNm220_ren : Go.Shelf.Ren := ⟨fun | 20 => 283 | n => n, fun | 22 => 32 | 3 => 3 | 4 => 4 | 0 => 0 | n => n, fun | n => n⟩
theorem Tryz.laysNm220 : Go.Proofs.Lays2.n20 Tryz.prog Tryz.laysNm220_ren := {
  mixed := by kernel_rfl
  f20 := Tryz.func283.trans (congrArg some (by kernel_rfl))
  t0 := Tryz.underlying0
  a0 := Tryz.isAgg0
  z0 := Tryz.sizeOf0
  v0 := Tryz.zeroValue0
  t3 := Tryz.underlying3
  a3 := Tryz.isAgg3
  z3 := Tryz.sizeOf3
  v3 := Tryz.zeroValue3
  t4 := Tryz.underlying4
  a4 := Tryz.isAgg4
  z4 := Tryz.sizeOf4
  v4 := Tryz.zeroValue4
  t22 := Tryz.underlying32
  a22 := Tryz.isAgg32
  z22 := Tryz.sizeOf32
  v22 := Tryz.zeroValue32
  i3 := by kernel_rfl }
theorem Tryz.sortOk : Go.Rf.Jds Tryz.prog 282 := fun blk off cap zs w h1 h2 h3 => Any.slices_Sort_int Tryz.lays189 blk off cap zs w h1 h2 h3
theorem Tryz.compactOk : Go.Rf.J5s Tryz.prog 283 := fun blk off cap zs w h1 h2 h3 => Any.slices_Compact_int Tryz.laysNm220 blk off cap zs w h1 h2 h3
end Go.Proofs
