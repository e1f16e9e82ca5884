import Derived.Test.YthnhbemmlfaihaaGreatQ11
import Derived.Shelf.SlSortCmp.Whole1
import Derived.Test.YthnhbemmlfaihaaGreatProg
set_option linter.unusedVariables false
set_option linter.unusedSimpArgs false
set_option maxRecDepth 10000
set_option maxHeartbeats 64000000
namespace Go.Proofs
open Go.Shelf
def Tryz.ai4:Go.Shelf.Ren:=⟨λ|6=>272|15=>278|14=>308|28=>318|29=>319|20=>322|21=>323|22=>324|23=>325|24=>326|25=>327|26=>328|27=>329|46=>335|47=>331|48=>332|49=>336|50=>337|57=>339|n=>n,λ|22=>36|24=>35|25=>115|3=>3|39=>165|0=>0|53=>405|55=>74|4=>4|46=>399|45=>398|50=>193|5=>5|9=>9|66=>413|70=>417|76=>421|77=>263|n=>n,λ|n=>n⟩
theorem Tryz.alL:Go.Proofs.SlLaysF.n6 Tryz.prog Tryz.ai4:={
 mixed:=by kernel_rfl
 f6:=⟨Tryz.f272.name,by decide,Tryz.func272.trans (congrArg some (by kernel_rfl))⟩
 f14:=⟨Tryz.f308.name,by decide,Tryz.func308.trans (congrArg some (by kernel_rfl))⟩
 f15:=Tryz.func278.trans (congrArg some (by kernel_rfl))
 f20:=⟨Tryz.f322.name,by decide,Tryz.func322.trans (congrArg some (by kernel_rfl))⟩
 f21:=⟨Tryz.f323.name,by decide,Tryz.func323.trans (congrArg some (by kernel_rfl))⟩
 f22:=⟨Tryz.f324.name,by decide,Tryz.func324.trans (congrArg some (by kernel_rfl))⟩
 f23:=⟨Tryz.f325.name,by decide,Tryz.func325.trans (congrArg some (by kernel_rfl))⟩
 f24:=⟨Tryz.f326.name,by decide,Tryz.func326.trans (congrArg some (by kernel_rfl))⟩
 f25:=⟨Tryz.f327.name,by decide,Tryz.func327.trans (congrArg some (by kernel_rfl))⟩
 f26:=⟨Tryz.f328.name,by decide,Tryz.func328.trans (congrArg some (by kernel_rfl))⟩
 f27:=⟨Tryz.f329.name,by decide,Tryz.func329.trans (congrArg some (by kernel_rfl))⟩
 f28:=Tryz.func318.trans (congrArg some (by kernel_rfl))
 f29:=Tryz.func319.trans (congrArg some (by kernel_rfl))
 f46:=⟨Tryz.f335.name,by decide,Tryz.func335.trans (congrArg some (by kernel_rfl))⟩
 f47:=Tryz.func331.trans (congrArg some (by kernel_rfl))
 f48:=Tryz.func332.trans (congrArg some (by kernel_rfl))
 f49:=⟨Tryz.f336.name,by decide,Tryz.func336.trans (congrArg some (by kernel_rfl))⟩
 f50:=⟨Tryz.f337.name,by decide,Tryz.func337.trans (congrArg some (by kernel_rfl))⟩
 f57:=⟨Tryz.f339.name,by decide,Tryz.func339.trans (congrArg some (by kernel_rfl))⟩
 t0:=Tryz.underlying0
 a0:=Tryz.isAgg0
 z0:=Tryz.sizeOf0
 v0:=Tryz.zeroValue0
 t3:=Tryz.underlying3
 a3:=Tryz.isAgg3
 z3:=Tryz.sizeOf3
 v3:=Tryz.zeroValue3
 t4:=Tryz.underlying4
 a4:=Tryz.isAgg4
 z4:=Tryz.sizeOf4
 v4:=Tryz.zeroValue4
 t5:=Tryz.underlying5
 a5:=Tryz.isAgg5
 z5:=Tryz.sizeOf5
 v5:=Tryz.zeroValue5
 t9:=Tryz.underlying9
 a9:=Tryz.isAgg9
 z9:=Tryz.sizeOf9
 v9:=Tryz.zeroValue9
 t22:=Tryz.underlying36
 a22:=Tryz.isAgg36
 z22:=Tryz.sizeOf36
 v22:=Tryz.zeroValue36
 a24:=Tryz.isAgg35
 z24:=Tryz.sizeOf35
 t25:=Tryz.underlying115
 a25:=Tryz.isAgg115
 z25:=Tryz.sizeOf115
 v25:=Tryz.zeroValue115
 t39:=Tryz.underlying165
 a39:=Tryz.isAgg165
 z39:=Tryz.sizeOf165
 v39:=Tryz.zeroValue165
 t45:=Tryz.underlying398
 a45:=Tryz.isAgg398
 z45:=Tryz.sizeOf398
 v45:=Tryz.zeroValue398
 t46:=Tryz.underlying399
 a46:=Tryz.isAgg399
 z46:=Tryz.sizeOf399
 v46:=Tryz.zeroValue399
 t50:=Tryz.underlying193
 a50:=Tryz.isAgg193
 z50:=Tryz.sizeOf193
 v50:=Tryz.zeroValue193
 t53:=Tryz.underlying405
 a53:=Tryz.isAgg405
 z53:=Tryz.sizeOf405
 v53:=Tryz.zeroValue405
 t55:=Tryz.underlying74
 a55:=Tryz.isAgg74
 z55:=Tryz.sizeOf74
 v55:=Tryz.zeroValue74
 t66:=Tryz.underlying413
 a66:=Tryz.isAgg413
 z66:=Tryz.sizeOf413
 v66:=Tryz.zeroValue413
 t70:=Tryz.underlying417
 a70:=Tryz.isAgg417
 z70:=Tryz.sizeOf417
 v70:=Tryz.zeroValue417
 t76:=Tryz.underlying421
 a76:=Tryz.isAgg421
 z76:=Tryz.sizeOf421
 v76:=Tryz.zeroValue421
 t77:=Tryz.underlying263
 a77:=Tryz.isAgg263
 z77:=Tryz.sizeOf263
 v77:=Tryz.zeroValue263 }
end Go.Proofs
