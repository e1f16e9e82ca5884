import Derived.Test.YthnhbemmlfaihaaR13
import Derived.Test.YthnhbemmlfaihaaR34
import Derived.Test.YthnhbemmlfaihaaR36
set_option linter.unusedVariables false
set_option linter.unusedSimpArgs false
set_option maxRecDepth 10000
set_option maxHeartbeats 64000000
namespace Go.Proofs.Pk
open Go Go.Vc
abbrev U3:Ty:=ou (.int .u8) 3
structure QJ where
 x:A9
 k:U3.nH
 d:Int
structure ais (z:QJ):Prop where
 x:Xn z.x
 k:U3.wf z.k
@[reducible] noncomputable def rfR:Vc.Spec where
 α:=QJ
 args z:=[.agg [.sl 1 sR (λ_=>z.x.w),.sl 5 U5.cells (λ_=>z.x.g),.sl 4 U4.cells (λ_=>z.x.o)],.agg (U3.cells z.k),.i .i64 (λ_=>z.d)]
 pre z:=ais z
 res z:=.bc true
theorem ag8:dw (PP ()) 3 rfR:=adr ag6 (λz=>⟨FR z.x,⟨z.k.1,z.k.2.1,z.k.2.2.1⟩,z.d⟩) (λa=>⟨afI a.x,U3.lf a.k,trivial,trivial⟩) (λa h=>⟨afH h.x,ra h.k.1,ra h.k.2.1,ra h.k.2.2.1⟩) (λa=>rfl) (λa=>rfl) rfl λa η q H vals h=>by
 simp only [aK] at h ⊢
 obtain ⟨v,r,rfl,h1,v2,r2,rfl,h2,v3,r3,rfl,h3,rfl⟩:=h
 refine ⟨v,_,rfl,?_,v2,_,rfl,h2,v3,_,rfl,h3,rfl⟩
 simp only [rel] at h1 ⊢
 obtain ⟨vs,rfl,hv⟩:=h1
 refine ⟨vs,rfl,?_⟩
 have:=aeC (x:=a.x) (η:=η) (q:=q) (H:=H) (vs:=vs) hv
 exact this
end Go.Proofs.Pk
