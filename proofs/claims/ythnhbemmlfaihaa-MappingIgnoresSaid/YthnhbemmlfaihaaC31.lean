import Derived.Test.YthnhbemmlfaihaaC13
import Derived.Test.YthnhbemmlfaihaaC30
set_option linter.unusedVariables false
set_option linter.unusedSimpArgs false
set_option maxRecDepth 10000
set_option maxHeartbeats 64000000
namespace Go.Proofs.Pk
open Go Go.Vc
@[reducible] noncomputable def aj8:Vc.Spec:=Cd
@[reducible] noncomputable def XW:Vc.Spec where
 α:=Unit
 args u:=[]
 pre u:=True
 res u:=.b (λ_=>true)
noncomputable def aj9 (n m:Nat):Ctx:=cP n m [(8,Try.f8),(17,Try.f17)] [(13,WJ),(19,Jg),(11,Ou),(14,XU),(15,OB),(9,XA),(16,XQ),(31,Xu),(18,aj8)]
theorem agq (n m:Nat):CB PP (aj9 n m):=cR n m ⟨fo Try.func8,fo Try.func17,trivial⟩ ⟨ae5,Nb,VL,agn,agl,af7,agk,afP,af3,trivial⟩
theorem agr:dm (PP ()) 5 XW:=by
 refine fl (agq 0 0) (fo Try.func5) (λa=>trivial) (λa=>trivial) ?_
 intro u hx
 clear hx
 have w1:(qP false).ins=ny.ins:=rfl
 have w2:(qP false).bU=ny.bU:=rfl
 have w3:(qP false).outs=ny.outs:=rfl
 have w4:(qP false).bf=ny.bf:=rfl
 have u1:(qP true).ins=nA.ins:=rfl
 have u2:(qP true).bU=nA.bU:=rfl
 have u3:(qP true).outs=nA.outs:=rfl
 have u4:(qP true).bf=nA.bf:=rfl
 have O1:=Ow OC
 have O2:=Ow XV
 have nk:Je ⟨sK,P6,0⟩ ⟨sK,P6,0⟩ true:=⟨O1.jt,O1.jt,by simp⟩
 have l5:Jj sK 1:=⟨O1.v,O1.jt.m.cin,O1.jt.m.dr,dX1⟩
 have JX:Jj P7 2:=⟨O2.v,O2.jt.m.cin,O2.jt.m.dr,dX2⟩
 have qZ:IC sK:=⟨O1.jt.m.cells,O1.jt.m.cin,O1.jt.m.dr⟩
 have ko:IC ⟨0,[],[2]⟩:=⟨by decide,λx hx=>(by cases hx),by decide⟩
 have hvt:(!z6 sK)=true->False:=λh=>by rw [vX1] at h;cases h
 have jZ:E6 ny sK ⟨[],[]⟩ 260:=⟨Z0,OC.jt,O1.jt.m.cells,O1.jt.m.cin,λl hl=>(by cases hl),kX0⟩
 have hme:Oz sK [true,true,false,true] []:=⟨O1.v,rfl⟩
 have Pp:((kE [] [true,true,false,true] [⟨[2,3,4,5],63624,-1⟩]).length:Int)=7:=by rw [show kE [] [true,true,false,true] [⟨[2,3,4,5],63624,-1⟩]=_ from J5];rfl
 have Z2:(kE [] [true,true,false,true] [⟨[2,3,4,5],63624,-1⟩])[6]?=some true:=by rw [show kE [] [true,true,false,true] [⟨[2,3,4,5],63624,-1⟩]=_ from J5];rfl
 have he4:(kE [] [true,true,false,true] [⟨[2,3,4,5],63624,-1⟩])[4]?=some false:=by rw [show kE [] [true,true,false,true] [⟨[2,3,4,5],63624,-1⟩]=_ from J5];rfl
 have Jq:(kE [] [true,true,false,true] [⟨[2,3,4,5],63624,-1⟩])[1]?=some true:=by rw [show kE [] [true,true,false,true] [⟨[2,3,4,5],63624,-1⟩]=_ from J5];rfl
 have yj:=(bq.1 Z2).1
 have hl4:4 < (kE [] [true,true,false,true] [⟨[2,3,4,5],63624,-1⟩]).length:=Hg (by decide) yj
 have jc:1 < (kE [] [true,true,false,true] [⟨[2,3,4,5],63624,-1⟩]).length:=Hg (by decide) yj
 have Z3:=aj6
 have gv:J4.labels=[0,0,0,0,0,0,0,1,1,1,2]:=ago
 have hsi:([0,0,0,0,0,0,0,1,1,1,2]:List Int).length<=1000000000000/\([0,0,0,0,0,0,0,1,1,1,2]:List Int).length<=1000000000000:=⟨by decide,by decide⟩
 have hsf:jI ([0,0,0,0,0,0,0,1,1,1,2]:List Int) [0,0,0,0,0,0,0,1,1,1,2]=true:=xw.2 rfl
 have nf:(!z6 ⟨0,[],[2]⟩)=true:=by rw [vX0];rfl
 obtain ⟨S,hS⟩:∃S,J4=S:=⟨_,rfl⟩
 rw [hS] at Z3 gv
 refine ⟨?_⟩
 cbv
 refine ⟨false,⟨by exact a7,trivial⟩,?_⟩
 cbv
 refine ⟨⟨ny,⟨4,[⟨[2,3,4,5],63624,-1⟩],[6]⟩,⟨[8],[[2,3,4,5]]⟩,0⟩,⟨by have iz:=w1;have Aq:=w2;have CD:=w3;have CE:=w4;exact bJ,OC⟩,?_⟩
 cbv
 refine ⟨⟨⟨⟨4,[⟨[2,3,4,5],63624,-1⟩],[6]⟩,⟨[8],[[2,3,4,5]]⟩,0⟩,⟨⟨4,[⟨[2,3,4,5],63624,-1⟩],[6]⟩,⟨[8],[[2,3,4,5]]⟩,0⟩,true⟩,⟨.inl ⟨by exact a7,rfl⟩,nk⟩,?_⟩
 cbv
 refine ⟨λh=>?_,λh=>?_⟩
 ·have h:=h.out
  cases (show False from by simp at h)
 clear h
 cbv
 refine ⟨⟨⟨4,[⟨[2,3,4,5],63624,-1⟩],[6]⟩,1⟩,⟨by exact a7,l5⟩,?_⟩
 cbv
 refine ⟨λh=>?_,λh=>?_⟩
 ·have h':¬(1:Int)=1:=aL
  cases (show False from h' rfl)
 clear h
 cbv
 refine ⟨⟨⟨4,[⟨[2,3,4,5],63624,-1⟩],[6]⟩⟩,⟨by exact a7,qZ⟩,?_⟩
 cbv
 refine ⟨λh=>?_,λh=>?_⟩
 ·have h:=h.out
  cases (show False from hvt h)
 clear h
 cbv
 refine ⟨⟨ny,⟨4,[⟨[2,3,4,5],63624,-1⟩],[6]⟩,⟨[8],[[2,3,4,5]]⟩,0⟩,⟨by exact a7,O1.ck⟩,?_⟩
 cbv
 refine ⟨λh=>?_,λh=>?_⟩
 ·have h':¬(0:Int)=0:=aL
  cases (show False from h' rfl)
 clear h
 cbv
 refine ⟨⟨ny,⟨4,[⟨[2,3,4,5],63624,-1⟩],[6]⟩,⟨[],[]⟩,260⟩,⟨by exact a7,jZ⟩,?_⟩
 cbv
 refine ⟨λh=>?_,λh=>?_⟩
 ·have h':¬(260:Int)=260:=aL
  cases (show False from h' rfl)
 clear h
 cbv
 refine ⟨⟨⟨4,[⟨[2,3,4,5],63624,-1⟩],[6]⟩,[true,true,false,true],[]⟩,⟨.inl ⟨by exact a7,rfl⟩,hme⟩,?_⟩
 cbv
 refine ⟨true,⟨by exact a7,trivial⟩,?_⟩
 cbv
 refine ⟨⟨nA,⟨5,[⟨[2,3,4,5],63624,-1⟩,⟨[6,7],6,-1⟩],[8]⟩,⟨[9,10],[[2,3,4,5],[6,9]]⟩,0⟩,⟨by have iz:=u1;have Aq:=u2;have CD:=u3;have CE:=u4;exact bJ,XV⟩,?_⟩
 cbv
 refine ⟨true,⟨by exact a7,trivial⟩,?_⟩
 cbv
 refine ⟨⟨nA,some S⟩,⟨by have iz:=u1;have Aq:=u2;have CD:=u3;have CE:=u4;exact bJ,Z3⟩,?_⟩
 cbv
 refine ⟨λh=>?_,λh=>?_⟩
 rotate_left
 ·have h':¬((kE [] [true,true,false,true] [⟨[2,3,4,5],63624,-1⟩]).length:Int)=7:=aL
  cases (show False from h' Pp)
 clear h
 cbv
 refine ⟨true,⟨(by decide:(0:Int)<=6),Z2⟩,?_⟩
 cbv
 refine ⟨λh=>?_,λh=>?_⟩
 rotate_left
 ·have h:=h.out
  cases (show False from by simp at h)
 clear h
 cbv
 refine ⟨false,⟨(by decide:(0:Int)<=4),he4⟩,?_⟩
 cbv
 refine ⟨λh=>?_,λh=>?_⟩
 rotate_left
 ·have h:=h.out
  cases (show False from by simp at h)
 clear h
 cbv
 refine ⟨true,⟨(by decide:(0:Int)<=1),Jq⟩,?_⟩
 cbv
 refine ⟨λh=>?_,λh=>?_⟩
 rotate_left
 ·have h:=h.out
  cases (show False from by simp at h)
 clear h
 cbv
 refine ⟨λh=>?_,λh=>?_⟩
 rotate_left
 ·have h':¬(0:Int)=0:=aL
  cases (show False from h' rfl)
 clear h
 cbv
 refine ⟨⟨⟨5,[⟨[2,3,4,5],63624,-1⟩,⟨[6,7],6,-1⟩],[8]⟩,2⟩,⟨by exact a7,JX⟩,?_⟩
 cbv
 refine ⟨λh=>?_,λh=>?_⟩
 rotate_left
 ·have h':¬(2:Int)=2:=aL
  cases (show False from h' rfl)
 clear h
 cbv
 refine ⟨⟨[0,0,0,0,0,0,0,1,1,1,2],[0,0,0,0,0,0,0,1,1,1,2]⟩,⟨.inl ⟨by have iz:=gv;exact bJ,rfl⟩,hsi⟩,?_⟩
 cbv
 refine ⟨λh=>?_,λh=>?_⟩
 rotate_left
 ·have h:=h.out
  cases (show False from Bool.noConfusion (hsf.symm.trans h))
 clear h
 cbv
 refine ⟨⟨⟨0,[],[2]⟩⟩,⟨.inl ⟨by exact a7,rfl⟩,ko⟩,?_⟩
 cbv
 exact ⟨by have nq:=nf;exact bJ⟩
end Go.Proofs.Pk
