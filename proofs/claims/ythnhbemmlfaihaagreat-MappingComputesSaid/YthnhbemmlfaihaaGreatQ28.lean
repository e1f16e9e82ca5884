import Derived.Test.YthnhbemmlfaihaaGreatQ11
import Derived.Test.YthnhbemmlfaihaaGreatQ27
set_option linter.unusedVariables false
set_option linter.unusedSimpArgs false
set_option maxRecDepth 10000
set_option maxHeartbeats 64000000
namespace Go.Proofs.Pk
open Go Go.Vc
theorem HX.e6 {I:Nat} {gs:List Gate} {v:Nat} {C:List (List Int)} (h:HX I gs v C) (hv:v<=600):C.length<=133090713856 :=
 R6 (zu.nodup h.gG.um) λl hl=>⟨h.gG.len l hl,λx hx=>by have:=h.gG.lim l hl x hx;omega⟩
theorem HX.lim {I:Nat} {gs:List Gate} {v:Nat} {C:List (List Int)} (h:HX I gs v C) {m:Int} (hv:(v:Int) < m):∀l∈C,∀x∈l,0<=x/\x < m:=λl hl x hx=>by have:=h.gG.lim l hl x hx;omega
theorem alZ {n:Net} {v:Nat} (hv:2<=v) (hN:v < 2+n.ins.length+n.aT.length) (h:qp n v=false):∃(i:Nat) (g:Gate),v=2+n.ins.length+i/\n.aT[i]?=some g/\g.op≠7:=by
 unfold qp at h
 by_cases h1:v < 2+n.ins.length
 ·exfalso
  have h3:(v:Int) < 2+(n.ins.length:Int):=by omega
  have h2:(2:Int)<=(v:Int):=by omega
  simp [h2,h3] at h
 ·obtain ⟨g,hg⟩:=bO (l:=n.aT) (i:=v - 2 - n.ins.length) (by omega)
  have e:((v:Int) - 2 - n.ins.length).toNat=v - 2 - n.ins.length:=by omega
  have h3:¬(v:Int) < 2+(n.ins.length:Int):=by omega
  have h2:(2:Int)<=(v:Int):=by omega
  rw [e,hg] at h
  simp [h2,h3] at h
  exact ⟨_,g,by omega,hg,h⟩
end Go.Proofs.Pk
