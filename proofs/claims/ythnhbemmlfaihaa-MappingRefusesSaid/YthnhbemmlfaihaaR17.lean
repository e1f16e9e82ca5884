import Derived.Test.YthnhbemmlfaihaaR13
import Derived.Shelf.Sort.Plain
import Derived.Test.YthnhbemmlfaihaaProg
set_option linter.unusedVariables false
set_option linter.unusedSimpArgs false
set_option maxRecDepth 10000
set_option maxHeartbeats 64000000
namespace Go.Proofs
open Go.Shelf
def Try.abU:Go.Shelf.Ren:=⟨λ|189=>53|125=>63|257=>62|128=>82|129=>83|294=>73|295=>74|296=>75|297=>76|298=>77|299=>78|216=>79|300=>80|301=>81|328=>95|329=>96|330=>97|331=>98|332=>99|215=>72|343=>103|n=>n,λ|28=>32|3=>3|46=>82|0=>0|51=>132|53=>134|4=>4|183=>125|182=>124|131=>75|5=>5|9=>9|218=>142|222=>146|228=>150|229=>151|n=>n,λ|n=>n⟩
theorem Try.aff:Go.Proofs.Lays.n189 Try.prog Try.abU:={
 mixed:=by kernel_rfl
 f125:=Try.func63.trans (congrArg some (by kernel_rfl))
 f128:=Try.func82.trans (congrArg some (by kernel_rfl))
 f129:=Try.func83.trans (congrArg some (by kernel_rfl))
 f189:=Try.func53.trans (congrArg some (by kernel_rfl))
 f215:=Try.func72.trans (congrArg some (by kernel_rfl))
 f216:=Try.func79.trans (congrArg some (by kernel_rfl))
 f257:=Try.func62.trans (congrArg some (by kernel_rfl))
 f294:=Try.func73.trans (congrArg some (by kernel_rfl))
 f295:=Try.func74.trans (congrArg some (by kernel_rfl))
 f296:=Try.func75.trans (congrArg some (by kernel_rfl))
 f297:=Try.func76.trans (congrArg some (by kernel_rfl))
 f298:=Try.func77.trans (congrArg some (by kernel_rfl))
 f299:=Try.func78.trans (congrArg some (by kernel_rfl))
 f300:=Try.func80.trans (congrArg some (by kernel_rfl))
 f301:=Try.func81.trans (congrArg some (by kernel_rfl))
 f328:=Try.func95.trans (congrArg some (by kernel_rfl))
 f329:=Try.func96.trans (congrArg some (by kernel_rfl))
 f330:=Try.func97.trans (congrArg some (by kernel_rfl))
 f331:=Try.func98.trans (congrArg some (by kernel_rfl))
 f332:=Try.func99.trans (congrArg some (by kernel_rfl))
 f343:=Try.func103.trans (congrArg some (by kernel_rfl))
 t0:=Try.underlying0
 a0:=Try.isAgg0
 z0:=Try.sizeOf0
 v0:=Try.zeroValue0
 t3:=Try.underlying3
 a3:=Try.isAgg3
 z3:=Try.sizeOf3
 v3:=Try.zeroValue3
 t4:=Try.underlying4
 a4:=Try.isAgg4
 z4:=Try.sizeOf4
 v4:=Try.zeroValue4
 t5:=Try.underlying5
 a5:=Try.isAgg5
 z5:=Try.sizeOf5
 v5:=Try.zeroValue5
 t9:=Try.underlying9
 a9:=Try.isAgg9
 z9:=Try.sizeOf9
 v9:=Try.zeroValue9
 t28:=Try.underlying32
 a28:=Try.isAgg32
 z28:=Try.sizeOf32
 v28:=Try.zeroValue32
 t46:=Try.underlying82
 a46:=Try.isAgg82
 z46:=Try.sizeOf82
 v46:=Try.zeroValue82
 t51:=Try.underlying132
 a51:=Try.isAgg132
 z51:=Try.sizeOf132
 v51:=Try.zeroValue132
 t53:=Try.underlying134
 a53:=Try.isAgg134
 z53:=Try.sizeOf134
 v53:=Try.zeroValue134
 t131:=Try.underlying75
 a131:=Try.isAgg75
 z131:=Try.sizeOf75
 v131:=Try.zeroValue75
 t182:=Try.underlying124
 a182:=Try.isAgg124
 z182:=Try.sizeOf124
 v182:=Try.zeroValue124
 t183:=Try.underlying125
 a183:=Try.isAgg125
 z183:=Try.sizeOf125
 v183:=Try.zeroValue125
 t218:=Try.underlying142
 a218:=Try.isAgg142
 z218:=Try.sizeOf142
 v218:=Try.zeroValue142
 t222:=Try.underlying146
 a222:=Try.isAgg146
 z222:=Try.sizeOf146
 v222:=Try.zeroValue146
 t228:=Try.underlying150
 a228:=Try.isAgg150
 z228:=Try.sizeOf150
 v228:=Try.zeroValue150
 t229:=Try.underlying151
 a229:=Try.isAgg151
 z229:=Try.sizeOf151
 v229:=Try.zeroValue151 }
end Go.Proofs
