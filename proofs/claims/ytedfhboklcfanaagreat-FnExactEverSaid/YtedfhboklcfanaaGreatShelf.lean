/- The contracts of the library's slices.Sort and slices.Compact at whole numbers hold in the given program. -/
import Derived.Test.YtedfhboklcfanaaGreatProg
import Derived.Shelf.Sort.Plain
import Derived.Shelf.Slices.CompactI
import Derived.Test.YtedfhboklcfanaaGreatRfC
set_option linter.all false
namespace Go.Proofs
open Go.Shelf
def Tryz.lays189_ren:Go.Shelf.Ren:=⟨fun|189=>219|125=>274|257=>273|128=>301|129=>302|294=>292|295=>293|296=>294|297=>295|298=>296|299=>297|216=>298|300=>299|301=>300|328=>303|329=>304|330=>305|331=>306|332=>307|215=>308|343=>309|n=>n,fun|28=>30|3=>3|46=>166|0=>0|51=>248|53=>126|4=>4|183=>293|182=>292|131=>32|5=>5|9=>9|218=>300|222=>304|228=>306|229=>307|n=>n,fun|n=>n⟩
theorem Tryz.lays189:Go.Proofs.Lays.n189 Tryz.prog Tryz.lays189_ren:={
  mixed:=by kernel_rfl
  f125:=Tryz.func274.trans (congrArg some (by kernel_rfl))
  f128:=Tryz.func301.trans (congrArg some (by kernel_rfl))
  f129:=Tryz.func302.trans (congrArg some (by kernel_rfl))
  f189:=Tryz.func219.trans (congrArg some (by kernel_rfl))
  f215:=Tryz.func308.trans (congrArg some (by kernel_rfl))
  f216:=Tryz.func298.trans (congrArg some (by kernel_rfl))
  f257:=Tryz.func273.trans (congrArg some (by kernel_rfl))
  f294:=Tryz.func292.trans (congrArg some (by kernel_rfl))
  f295:=Tryz.func293.trans (congrArg some (by kernel_rfl))
  f296:=Tryz.func294.trans (congrArg some (by kernel_rfl))
  f297:=Tryz.func295.trans (congrArg some (by kernel_rfl))
  f298:=Tryz.func296.trans (congrArg some (by kernel_rfl))
  f299:=Tryz.func297.trans (congrArg some (by kernel_rfl))
  f300:=Tryz.func299.trans (congrArg some (by kernel_rfl))
  f301:=Tryz.func300.trans (congrArg some (by kernel_rfl))
  f328:=Tryz.func303.trans (congrArg some (by kernel_rfl))
  f329:=Tryz.func304.trans (congrArg some (by kernel_rfl))
  f330:=Tryz.func305.trans (congrArg some (by kernel_rfl))
  f331:=Tryz.func306.trans (congrArg some (by kernel_rfl))
  f332:=Tryz.func307.trans (congrArg some (by kernel_rfl))
  f343:=Tryz.func309.trans (congrArg some (by kernel_rfl))
  t0:=Tryz.underlying0
  a0:=Tryz.isAgg0
  z0:=Tryz.sizeOf0
  v0:=Tryz.zeroValue0
  t3:=Tryz.underlying3
  a3:=Tryz.isAgg3
  z3:=Tryz.sizeOf3
  v3:=Tryz.zeroValue3
  t4:=Tryz.underlying4
  a4:=Tryz.isAgg4
  z4:=Tryz.sizeOf4
  v4:=Tryz.zeroValue4
  t5:=Tryz.underlying5
  a5:=Tryz.isAgg5
  z5:=Tryz.sizeOf5
  v5:=Tryz.zeroValue5
  t9:=Tryz.underlying9
  a9:=Tryz.isAgg9
  z9:=Tryz.sizeOf9
  v9:=Tryz.zeroValue9
  t28:=Tryz.underlying30
  a28:=Tryz.isAgg30
  z28:=Tryz.sizeOf30
  v28:=Tryz.zeroValue30
  t46:=Tryz.underlying166
  a46:=Tryz.isAgg166
  z46:=Tryz.sizeOf166
  v46:=Tryz.zeroValue166
  t51:=Tryz.underlying248
  a51:=Tryz.isAgg248
  z51:=Tryz.sizeOf248
  v51:=Tryz.zeroValue248
  t53:=Tryz.underlying126
  a53:=Tryz.isAgg126
  z53:=Tryz.sizeOf126
  v53:=Tryz.zeroValue126
  t131:=Tryz.underlying32
  a131:=Tryz.isAgg32
  z131:=Tryz.sizeOf32
  v131:=Tryz.zeroValue32
  t182:=Tryz.underlying292
  a182:=Tryz.isAgg292
  z182:=Tryz.sizeOf292
  v182:=Tryz.zeroValue292
  t183:=Tryz.underlying293
  a183:=Tryz.isAgg293
  z183:=Tryz.sizeOf293
  v183:=Tryz.zeroValue293
  t218:=Tryz.underlying300
  a218:=Tryz.isAgg300
  z218:=Tryz.sizeOf300
  v218:=Tryz.zeroValue300
  t222:=Tryz.underlying304
  a222:=Tryz.isAgg304
  z222:=Tryz.sizeOf304
  v222:=Tryz.zeroValue304
  t228:=Tryz.underlying306
  a228:=Tryz.isAgg306
  z228:=Tryz.sizeOf306
  v228:=Tryz.zeroValue306
  t229:=Tryz.underlying307
  a229:=Tryz.isAgg307
  z229:=Tryz.sizeOf307
  v229:=Tryz.zeroValue307}
def Tryz.laysNm220_ren:Go.Shelf.Ren:=⟨fun|20=>220|n=>n,fun|22=>30|3=>3|4=>4|0=>0|n=>n,fun|n=>n⟩
theorem Tryz.laysNm220:Go.Proofs.Lays2.n20 Tryz.prog Tryz.laysNm220_ren:={
  mixed:=by kernel_rfl
  f20:=Tryz.func220.trans (congrArg some (by kernel_rfl))
  t0:=Tryz.underlying0
  a0:=Tryz.isAgg0
  z0:=Tryz.sizeOf0
  v0:=Tryz.zeroValue0
  t3:=Tryz.underlying3
  a3:=Tryz.isAgg3
  z3:=Tryz.sizeOf3
  v3:=Tryz.zeroValue3
  t4:=Tryz.underlying4
  a4:=Tryz.isAgg4
  z4:=Tryz.sizeOf4
  v4:=Tryz.zeroValue4
  t22:=Tryz.underlying30
  a22:=Tryz.isAgg30
  z22:=Tryz.sizeOf30
  v22:=Tryz.zeroValue30
  i3:=by kernel_rfl}
theorem Tryz.sortOk:Go.Rf.Jds Tryz.prog 219:=fun blk off cap zs w h1 h2 h3=>Any.slices_Sort_int Tryz.lays189 blk off cap zs w h1 h2 h3
theorem Tryz.compactOk:Go.Rf.J5u Tryz.prog 220:=fun blk off cap zs w h1 h2 h3=>Any.slices_Compact_int Tryz.laysNm220 blk off cap zs w h1 h2 h3
end Go.Proofs
