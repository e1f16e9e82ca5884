import Derived.Test.YthnhbemmlfaihaaGreatQ11
import Derived.Shelf.Sort.Plain
import Derived.Test.YthnhbemmlfaihaaGreatProg
set_option linter.unusedVariables false
set_option linter.unusedSimpArgs false
set_option maxRecDepth 10000
set_option maxHeartbeats 64000000
namespace Go.Proofs
open Go.Shelf
def Tryz.ajs:Go.Shelf.Ren:=⟨λ|189=>265|125=>278|257=>277|128=>318|129=>319|294=>309|295=>310|296=>311|297=>312|298=>313|299=>314|216=>315|300=>316|301=>317|328=>330|329=>331|330=>332|331=>333|332=>334|215=>189|343=>338|n=>n,λ|28=>35|3=>3|46=>165|0=>0|51=>405|53=>74|4=>4|183=>399|182=>398|131=>193|5=>5|9=>9|218=>413|222=>417|228=>421|229=>263|n=>n,λ|n=>n⟩
theorem Tryz.amU:Go.Proofs.Lays.n189 Tryz.prog Tryz.ajs:={
 mixed:=by kernel_rfl
 f125:=Tryz.func278.trans (congrArg some (by kernel_rfl))
 f128:=Tryz.func318.trans (congrArg some (by kernel_rfl))
 f129:=Tryz.func319.trans (congrArg some (by kernel_rfl))
 f189:=Tryz.func265.trans (congrArg some (by kernel_rfl))
 f215:=Tryz.func189.trans (congrArg some (by kernel_rfl))
 f216:=Tryz.func315.trans (congrArg some (by kernel_rfl))
 f257:=Tryz.func277.trans (congrArg some (by kernel_rfl))
 f294:=Tryz.func309.trans (congrArg some (by kernel_rfl))
 f295:=Tryz.func310.trans (congrArg some (by kernel_rfl))
 f296:=Tryz.func311.trans (congrArg some (by kernel_rfl))
 f297:=Tryz.func312.trans (congrArg some (by kernel_rfl))
 f298:=Tryz.func313.trans (congrArg some (by kernel_rfl))
 f299:=Tryz.func314.trans (congrArg some (by kernel_rfl))
 f300:=Tryz.func316.trans (congrArg some (by kernel_rfl))
 f301:=Tryz.func317.trans (congrArg some (by kernel_rfl))
 f328:=Tryz.func330.trans (congrArg some (by kernel_rfl))
 f329:=Tryz.func331.trans (congrArg some (by kernel_rfl))
 f330:=Tryz.func332.trans (congrArg some (by kernel_rfl))
 f331:=Tryz.func333.trans (congrArg some (by kernel_rfl))
 f332:=Tryz.func334.trans (congrArg some (by kernel_rfl))
 f343:=Tryz.func338.trans (congrArg some (by kernel_rfl))
 t0:=Tryz.underlying0
 a0:=Tryz.isAgg0
 z0:=Tryz.sizeOf0
 v0:=Tryz.zeroValue0
 t3:=Tryz.underlying3
 a3:=Tryz.isAgg3
 z3:=Tryz.sizeOf3
 v3:=Tryz.zeroValue3
 t4:=Tryz.underlying4
 a4:=Tryz.isAgg4
 z4:=Tryz.sizeOf4
 v4:=Tryz.zeroValue4
 t5:=Tryz.underlying5
 a5:=Tryz.isAgg5
 z5:=Tryz.sizeOf5
 v5:=Tryz.zeroValue5
 t9:=Tryz.underlying9
 a9:=Tryz.isAgg9
 z9:=Tryz.sizeOf9
 v9:=Tryz.zeroValue9
 t28:=Tryz.underlying35
 a28:=Tryz.isAgg35
 z28:=Tryz.sizeOf35
 v28:=Tryz.zeroValue35
 t46:=Tryz.underlying165
 a46:=Tryz.isAgg165
 z46:=Tryz.sizeOf165
 v46:=Tryz.zeroValue165
 t51:=Tryz.underlying405
 a51:=Tryz.isAgg405
 z51:=Tryz.sizeOf405
 v51:=Tryz.zeroValue405
 t53:=Tryz.underlying74
 a53:=Tryz.isAgg74
 z53:=Tryz.sizeOf74
 v53:=Tryz.zeroValue74
 t131:=Tryz.underlying193
 a131:=Tryz.isAgg193
 z131:=Tryz.sizeOf193
 v131:=Tryz.zeroValue193
 t182:=Tryz.underlying398
 a182:=Tryz.isAgg398
 z182:=Tryz.sizeOf398
 v182:=Tryz.zeroValue398
 t183:=Tryz.underlying399
 a183:=Tryz.isAgg399
 z183:=Tryz.sizeOf399
 v183:=Tryz.zeroValue399
 t218:=Tryz.underlying413
 a218:=Tryz.isAgg413
 z218:=Tryz.sizeOf413
 v218:=Tryz.zeroValue413
 t222:=Tryz.underlying417
 a222:=Tryz.isAgg417
 z222:=Tryz.sizeOf417
 v222:=Tryz.zeroValue417
 t228:=Tryz.underlying421
 a228:=Tryz.isAgg421
 z228:=Tryz.sizeOf421
 v228:=Tryz.zeroValue421
 t229:=Tryz.underlying263
 a229:=Tryz.isAgg263
 z229:=Tryz.sizeOf263
 v229:=Tryz.zeroValue263 }
end Go.Proofs
