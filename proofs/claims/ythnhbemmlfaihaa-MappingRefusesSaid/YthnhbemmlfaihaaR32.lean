import Derived.Test.YthnhbemmlfaihaaR13
import Derived.Test.YthnhbemmlfaihaaR31
set_option linter.unusedVariables false
set_option linter.unusedSimpArgs false
set_option maxRecDepth 10000
set_option maxHeartbeats 64000000
namespace Go.Proofs.Pk
open Go Go.Vc
@[reducible] noncomputable def akL:Vc.Spec:=CL
@[reducible] noncomputable def Yy:Vc.Spec where
 α:=Unit
 args u:=[]
 pre u:=True
 res u:=.b (λ_=>true)
noncomputable def akM (n m:Nat):Ctx:=cT n m [(8,Try.f8),(17,Try.f17)] [(13,Xm),(19,O3),(11,OZ),(14,Yw),(15,O8),(9,OR),(16,Ys),(31,X6),(18,akL)]
theorem agY (n m:Nat):CB PP (akM n m):=cW n m ⟨fo Try.func8,fo Try.func17,trivial⟩ ⟨afE,Wm,Wj,agV,agT,Wk,agS,ago,agC,trivial⟩
theorem agZ:dw (PP ()) 5 Yy:=by
 refine fH (agY 0 0) (fo Try.func5) (λa=>trivial) (λa=>trivial) ?_
 intro u hx
 clear hx
 have w1:(q9 false).ins=nM.ins:=rfl
 have w2:(q9 false).cg=nM.cg:=rfl
 have w3:(q9 false).outs=nM.outs:=rfl
 have w4:(q9 false).bf=nM.bf:=rfl
 have u1:(q9 true).ins=nN.ins:=rfl
 have u2:(q9 true).cg=nN.cg:=rfl
 have u3:(q9 true).outs=nN.outs:=rfl
 have u4:(q9 true).bf=nN.bf:=rfl
 have O1:=CM O9
 have O2:=CM Yx
 have nF:FM ⟨sY,Qz,0⟩ ⟨sY,Qz,0⟩ true:=⟨O1.gy,O1.gy,by simp⟩
 have pa:JL sY 1:=⟨O1.v,O1.gy.m.cin,O1.gy.m.dr,dX1⟩
 have Kw:JL QA 2:=⟨O2.v,O2.gy.m.cin,O2.gy.m.dr,dX2⟩
 have rz:Jc sY:=⟨O1.gy.m.cells,O1.gy.m.cin,O1.gy.m.dr⟩
 have kD:Jc ⟨0,[],[2]⟩:=⟨by decide,λx hx=>(by cases hx),by decide⟩
 have hvt:(!Ax sY)=true->False:=λh=>by rw [vX1] at h;cases h
 have j7:tP nM sY ⟨[],[]⟩ 260:=⟨gX1,O9.gy,O1.gy.m.cells,O1.gy.m.cin,λl hl=>(by cases hl),kX0⟩
 have hme:O6 sY [true,true,false,true] []:=⟨O1.v,rfl⟩
 have PV:((kO [] [true,true,false,true] [⟨[2,3,4,5],63624,-1⟩]).length:Int)=7:=by rw [show kO [] [true,true,false,true] [⟨[2,3,4,5],63624,-1⟩]=_ from KF];rfl
 have he6:(kO [] [true,true,false,true] [⟨[2,3,4,5],63624,-1⟩])[6]?=some true:=by rw [show kO [] [true,true,false,true] [⟨[2,3,4,5],63624,-1⟩]=_ from KF];rfl
 have he4:(kO [] [true,true,false,true] [⟨[2,3,4,5],63624,-1⟩])[4]?=some false:=by rw [show kO [] [true,true,false,true] [⟨[2,3,4,5],63624,-1⟩]=_ from KF];rfl
 have JX:(kO [] [true,true,false,true] [⟨[2,3,4,5],63624,-1⟩])[1]?=some true:=by rw [show kO [] [true,true,false,true] [⟨[2,3,4,5],63624,-1⟩]=_ from KF];rfl
 have yR:=(bh.1 he6).1
 have hl4:4 < (kO [] [true,true,false,true] [⟨[2,3,4,5],63624,-1⟩]).length:=HL (by decide) yR
 have jj:1 < (kO [] [true,true,false,true] [⟨[2,3,4,5],63624,-1⟩]).length:=HL (by decide) yR
 have hla:=akJ
 have fV:KE.labels=[0,0,0,0,0,0,0,1,1,1,2]:=agW
 have hsi:([0,0,0,0,0,0,0,1,1,1,2]:List Int).length<=1000000000000/\([0,0,0,0,0,0,0,1,1,1,2]:List Int).length<=1000000000000:=⟨by decide,by decide⟩
 have hsf:jO ([0,0,0,0,0,0,0,1,1,1,2]:List Int) [0,0,0,0,0,0,0,1,1,1,2]=true:=xU.2 rfl
 have nA:(!Ax ⟨0,[],[2]⟩)=true:=by rw [vX0];rfl
 obtain ⟨S,hS⟩:∃S,KE=S:=⟨_,rfl⟩
 rw [hS] at hla fV
 refine ⟨?_⟩
 cbv
 refine ⟨false,⟨by exact aY,trivial⟩,?_⟩
 cbv
 refine ⟨⟨nM,⟨4,[⟨[2,3,4,5],63624,-1⟩],[6]⟩,⟨[8],[[2,3,4,5]]⟩,0⟩,⟨by have gM:=w1;have AS:=w2;have C9:=w3;have Da:=w4;exact bN,O9⟩,?_⟩
 cbv
 refine ⟨⟨⟨⟨4,[⟨[2,3,4,5],63624,-1⟩],[6]⟩,⟨[8],[[2,3,4,5]]⟩,0⟩,⟨⟨4,[⟨[2,3,4,5],63624,-1⟩],[6]⟩,⟨[8],[[2,3,4,5]]⟩,0⟩,true⟩,⟨.inl ⟨by exact aY,rfl⟩,nF⟩,?_⟩
 cbv
 refine ⟨λh=>?_,λh=>?_⟩
 ·have h:=h.out
  cases (show False from by simp at h)
 clear h
 cbv
 refine ⟨⟨⟨4,[⟨[2,3,4,5],63624,-1⟩],[6]⟩,1⟩,⟨by exact aY,pa⟩,?_⟩
 cbv
 refine ⟨λh=>?_,λh=>?_⟩
 ·have h':¬(1:Int)=1:=aJ
  cases (show False from h' rfl)
 clear h
 cbv
 refine ⟨⟨⟨4,[⟨[2,3,4,5],63624,-1⟩],[6]⟩⟩,⟨by exact aY,rz⟩,?_⟩
 cbv
 refine ⟨λh=>?_,λh=>?_⟩
 ·have h:=h.out
  cases (show False from hvt h)
 clear h
 cbv
 refine ⟨⟨nM,⟨4,[⟨[2,3,4,5],63624,-1⟩],[6]⟩,⟨[8],[[2,3,4,5]]⟩,0⟩,⟨by exact aY,O1.ck⟩,?_⟩
 cbv
 refine ⟨λh=>?_,λh=>?_⟩
 ·have h':¬(0:Int)=0:=aJ
  cases (show False from h' rfl)
 clear h
 cbv
 refine ⟨⟨nM,⟨4,[⟨[2,3,4,5],63624,-1⟩],[6]⟩,⟨[],[]⟩,260⟩,⟨by exact aY,j7⟩,?_⟩
 cbv
 refine ⟨λh=>?_,λh=>?_⟩
 ·have h':¬(260:Int)=260:=aJ
  cases (show False from h' rfl)
 clear h
 cbv
 refine ⟨⟨⟨4,[⟨[2,3,4,5],63624,-1⟩],[6]⟩,[true,true,false,true],[]⟩,⟨.inl ⟨by exact aY,rfl⟩,hme⟩,?_⟩
 cbv
 refine ⟨true,⟨by exact aY,trivial⟩,?_⟩
 cbv
 refine ⟨⟨nN,⟨5,[⟨[2,3,4,5],63624,-1⟩,⟨[6,7],6,-1⟩],[8]⟩,⟨[9,10],[[2,3,4,5],[6,9]]⟩,0⟩,⟨by have gM:=u1;have AS:=u2;have C9:=u3;have Da:=u4;exact bN,Yx⟩,?_⟩
 cbv
 refine ⟨true,⟨by exact aY,trivial⟩,?_⟩
 cbv
 refine ⟨⟨nN,some S⟩,⟨by have gM:=u1;have AS:=u2;have C9:=u3;have Da:=u4;exact bN,hla⟩,?_⟩
 cbv
 refine ⟨λh=>?_,λh=>?_⟩
 rotate_left
 ·have h':¬((kO [] [true,true,false,true] [⟨[2,3,4,5],63624,-1⟩]).length:Int)=7:=aJ
  cases (show False from h' PV)
 clear h
 cbv
 refine ⟨true,⟨(by decide:(0:Int)<=6),he6⟩,?_⟩
 cbv
 refine ⟨λh=>?_,λh=>?_⟩
 rotate_left
 ·have h:=h.out
  cases (show False from by simp at h)
 clear h
 cbv
 refine ⟨false,⟨(by decide:(0:Int)<=4),he4⟩,?_⟩
 cbv
 refine ⟨λh=>?_,λh=>?_⟩
 rotate_left
 ·have h:=h.out
  cases (show False from by simp at h)
 clear h
 cbv
 refine ⟨true,⟨(by decide:(0:Int)<=1),JX⟩,?_⟩
 cbv
 refine ⟨λh=>?_,λh=>?_⟩
 rotate_left
 ·have h:=h.out
  cases (show False from by simp at h)
 clear h
 cbv
 refine ⟨λh=>?_,λh=>?_⟩
 rotate_left
 ·have h':¬(0:Int)=0:=aJ
  cases (show False from h' rfl)
 clear h
 cbv
 refine ⟨⟨⟨5,[⟨[2,3,4,5],63624,-1⟩,⟨[6,7],6,-1⟩],[8]⟩,2⟩,⟨by exact aY,Kw⟩,?_⟩
 cbv
 refine ⟨λh=>?_,λh=>?_⟩
 rotate_left
 ·have h':¬(2:Int)=2:=aJ
  cases (show False from h' rfl)
 clear h
 cbv
 refine ⟨⟨[0,0,0,0,0,0,0,1,1,1,2],[0,0,0,0,0,0,0,1,1,1,2]⟩,⟨.inl ⟨by have gM:=fV;exact bN,rfl⟩,hsi⟩,?_⟩
 cbv
 refine ⟨λh=>?_,λh=>?_⟩
 rotate_left
 ·have h:=h.out
  cases (show False from Bool.noConfusion (hsf.symm.trans h))
 clear h
 cbv
 refine ⟨⟨⟨0,[],[2]⟩⟩,⟨.inl ⟨by exact aY,rfl⟩,kD⟩,?_⟩
 cbv
 exact ⟨by have nG:=nA;exact bN⟩
end Go.Proofs.Pk
