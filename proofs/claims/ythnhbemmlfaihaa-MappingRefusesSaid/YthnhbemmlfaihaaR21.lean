import Derived.Test.YthnhbemmlfaihaaR13
import Derived.Shelf.SlSortCmp.Whole1
import Derived.Test.YthnhbemmlfaihaaProg
set_option linter.unusedVariables false
set_option linter.unusedSimpArgs false
set_option maxRecDepth 10000
set_option maxHeartbeats 64000000
namespace Go.Proofs
open Go.Shelf
def Try.abV:Go.Shelf.Ren:=⟨λ|6=>56|15=>63|14=>71|28=>82|29=>83|20=>87|21=>88|22=>89|23=>90|24=>91|25=>92|26=>93|27=>94|46=>100|47=>96|48=>97|49=>101|50=>102|57=>104|n=>n,λ|22=>39|24=>32|25=>106|3=>3|39=>82|0=>0|53=>132|55=>134|4=>4|46=>125|45=>124|50=>75|5=>5|9=>9|66=>142|70=>146|76=>150|77=>151|n=>n,λ|n=>n⟩
theorem Try.afm:Go.Proofs.SlLaysF.n6 Try.prog Try.abV:={
 mixed:=by kernel_rfl
 f6:=⟨Try.f56.name,by decide,Try.func56.trans (congrArg some (by kernel_rfl))⟩
 f14:=⟨Try.f71.name,by decide,Try.func71.trans (congrArg some (by kernel_rfl))⟩
 f15:=Try.func63.trans (congrArg some (by kernel_rfl))
 f20:=⟨Try.f87.name,by decide,Try.func87.trans (congrArg some (by kernel_rfl))⟩
 f21:=⟨Try.f88.name,by decide,Try.func88.trans (congrArg some (by kernel_rfl))⟩
 f22:=⟨Try.f89.name,by decide,Try.func89.trans (congrArg some (by kernel_rfl))⟩
 f23:=⟨Try.f90.name,by decide,Try.func90.trans (congrArg some (by kernel_rfl))⟩
 f24:=⟨Try.f91.name,by decide,Try.func91.trans (congrArg some (by kernel_rfl))⟩
 f25:=⟨Try.f92.name,by decide,Try.func92.trans (congrArg some (by kernel_rfl))⟩
 f26:=⟨Try.f93.name,by decide,Try.func93.trans (congrArg some (by kernel_rfl))⟩
 f27:=⟨Try.f94.name,by decide,Try.func94.trans (congrArg some (by kernel_rfl))⟩
 f28:=Try.func82.trans (congrArg some (by kernel_rfl))
 f29:=Try.func83.trans (congrArg some (by kernel_rfl))
 f46:=⟨Try.f100.name,by decide,Try.func100.trans (congrArg some (by kernel_rfl))⟩
 f47:=Try.func96.trans (congrArg some (by kernel_rfl))
 f48:=Try.func97.trans (congrArg some (by kernel_rfl))
 f49:=⟨Try.f101.name,by decide,Try.func101.trans (congrArg some (by kernel_rfl))⟩
 f50:=⟨Try.f102.name,by decide,Try.func102.trans (congrArg some (by kernel_rfl))⟩
 f57:=⟨Try.f104.name,by decide,Try.func104.trans (congrArg some (by kernel_rfl))⟩
 t0:=Try.underlying0
 a0:=Try.isAgg0
 z0:=Try.sizeOf0
 v0:=Try.zeroValue0
 t3:=Try.underlying3
 a3:=Try.isAgg3
 z3:=Try.sizeOf3
 v3:=Try.zeroValue3
 t4:=Try.underlying4
 a4:=Try.isAgg4
 z4:=Try.sizeOf4
 v4:=Try.zeroValue4
 t5:=Try.underlying5
 a5:=Try.isAgg5
 z5:=Try.sizeOf5
 v5:=Try.zeroValue5
 t9:=Try.underlying9
 a9:=Try.isAgg9
 z9:=Try.sizeOf9
 v9:=Try.zeroValue9
 t22:=Try.underlying39
 a22:=Try.isAgg39
 z22:=Try.sizeOf39
 v22:=Try.zeroValue39
 a24:=Try.isAgg32
 z24:=Try.sizeOf32
 t25:=Try.underlying106
 a25:=Try.isAgg106
 z25:=Try.sizeOf106
 v25:=Try.zeroValue106
 t39:=Try.underlying82
 a39:=Try.isAgg82
 z39:=Try.sizeOf82
 v39:=Try.zeroValue82
 t45:=Try.underlying124
 a45:=Try.isAgg124
 z45:=Try.sizeOf124
 v45:=Try.zeroValue124
 t46:=Try.underlying125
 a46:=Try.isAgg125
 z46:=Try.sizeOf125
 v46:=Try.zeroValue125
 t50:=Try.underlying75
 a50:=Try.isAgg75
 z50:=Try.sizeOf75
 v50:=Try.zeroValue75
 t53:=Try.underlying132
 a53:=Try.isAgg132
 z53:=Try.sizeOf132
 v53:=Try.zeroValue132
 t55:=Try.underlying134
 a55:=Try.isAgg134
 z55:=Try.sizeOf134
 v55:=Try.zeroValue134
 t66:=Try.underlying142
 a66:=Try.isAgg142
 z66:=Try.sizeOf142
 v66:=Try.zeroValue142
 t70:=Try.underlying146
 a70:=Try.isAgg146
 z70:=Try.sizeOf146
 v70:=Try.zeroValue146
 t76:=Try.underlying150
 a76:=Try.isAgg150
 z76:=Try.sizeOf150
 v76:=Try.zeroValue150
 t77:=Try.underlying151
 a77:=Try.isAgg151
 z77:=Try.sizeOf151
 v77:=Try.zeroValue151 }
end Go.Proofs
