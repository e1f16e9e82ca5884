import Derived.Test.YthnhbemmlfaihaaGreatA13
import Derived.Test.YthnhbemmlfaihaaGreatA33
set_option linter.unusedVariables false
set_option linter.unusedSimpArgs false
set_option maxRecDepth 10000
set_option maxHeartbeats 64000000
namespace Go.Proofs.Pk
open Go Go.Vc
@[reducible] noncomputable def akj:Vc.Spec:=Cs
@[reducible] noncomputable def Yb:Vc.Spec where
 α:=Unit
 args u:=[]
 pre u:=True
 res u:=.b (λ_=>true)
noncomputable def akk (n m:Nat):Ctx:=cW n m [(33,Tryz.f33),(34,Tryz.f34)] [(103,W1),(104,OD),(36,XU),(46,OK),(39,JA),(44,Oq),(49,X4),(105,XI),(38,akj)]
theorem agB (n m:Nat):CB PP (akk n m):=cZ n m ⟨fo Tryz.func33,fo Tryz.func34,trivial⟩ ⟨afh,VY,agj,V7,V4,VW,agv,af1,agf,trivial⟩
theorem agC:cY (PP ()) 29 Yb:=by
 refine e6 (agB 0 0) (fo Tryz.func29) (λa=>trivial) (λa=>trivial) ?_
 intro u hx
 clear hx
 have w1:(qT false).ins=nB.ins:=rfl
 have w2:(qT false).cq=nB.cq:=rfl
 have w3:(qT false).outs=nB.outs:=rfl
 have w4:(qT false).bA=nB.bA:=rfl
 have u1:(qT true).ins=nC.ins:=rfl
 have u2:(qT true).cq=nC.cq:=rfl
 have u3:(qT true).outs=nC.outs:=rfl
 have u4:(qT true).bA=nC.bA:=rfl
 have O1:=OE OL
 have O2:=OE Ya
 have oR:OB ⟨sK,Qe,0⟩ ⟨sK,Qe,0⟩ true:=⟨O1.gY,O1.gY,by simp⟩
 have mL:Ft sK 1:=⟨O1.v,O1.gY.m.cin,O1.gY.m.dr,dX1⟩
 have AI:Ft Qf 2:=⟨O2.v,O2.gY.m.cin,O2.gY.m.dr,dX2⟩
 have rf:EN sK:=⟨O1.gY.m.cells,O1.gY.m.cin,O1.gY.m.dr⟩
 have jH:EN ⟨0,[],[2]⟩:=⟨by decide,λx hx=>(by cases hx),by decide⟩
 have hvt:(!tD sK)=true->False:=λh=>by rw [vX1] at h;cases h
 have j6:Fm nB sK ⟨[],[]⟩ 260:=⟨gX1,OL.gY,O1.gY.m.cells,O1.gY.m.cin,λl hl=>(by cases hl),kX0⟩
 have hme:OH sK [true,true,false,true] []:=⟨O1.v,rfl⟩
 have Px:((kG [] [true,true,false,true] [⟨[2,3,4,5],63624,-1⟩]).length:Int)=7:=by rw [show kG [] [true,true,false,true] [⟨[2,3,4,5],63624,-1⟩]=_ from Kn];rfl
 have he6:(kG [] [true,true,false,true] [⟨[2,3,4,5],63624,-1⟩])[6]?=some true:=by rw [show kG [] [true,true,false,true] [⟨[2,3,4,5],63624,-1⟩]=_ from Kn];rfl
 have he4:(kG [] [true,true,false,true] [⟨[2,3,4,5],63624,-1⟩])[4]?=some false:=by rw [show kG [] [true,true,false,true] [⟨[2,3,4,5],63624,-1⟩]=_ from Kn];rfl
 have JJ:(kG [] [true,true,false,true] [⟨[2,3,4,5],63624,-1⟩])[1]?=some true:=by rw [show kG [] [true,true,false,true] [⟨[2,3,4,5],63624,-1⟩]=_ from Kn];rfl
 have yj:=(bf.1 he6).1
 have hl4:4 < (kG [] [true,true,false,true] [⟨[2,3,4,5],63624,-1⟩]).length:=Hr (by decide) yj
 have jc:1 < (kG [] [true,true,false,true] [⟨[2,3,4,5],63624,-1⟩]).length:=Hr (by decide) yj
 have hla:=akh
 have gz:Km.labels=[0,0,0,0,0,0,0,1,1,1,2]:=agz
 have hsi:([0,0,0,0,0,0,0,1,1,1,2]:List Int).length<=1000000000000/\([0,0,0,0,0,0,0,1,1,1,2]:List Int).length<=1000000000000:=⟨by decide,by decide⟩
 have hsf:jI ([0,0,0,0,0,0,0,1,1,1,2]:List Int) [0,0,0,0,0,0,0,1,1,1,2]=true:=xw.2 rfl
 have nk:(!tD ⟨0,[],[2]⟩)=true:=by rw [vX0];rfl
 obtain ⟨S,hS⟩:∃S,Km=S:=⟨_,rfl⟩
 rw [hS] at hla gz
 refine ⟨?_⟩
 cbv
 refine ⟨false,⟨by exact a8,trivial⟩,?_⟩
 cbv
 refine ⟨⟨nB,⟨4,[⟨[2,3,4,5],63624,-1⟩],[6]⟩,⟨[8],[[2,3,4,5]]⟩,0⟩,⟨by have iJ:=w1;have Av:=w2;have CP:=w3;have CQ:=w4;exact bM,OL⟩,?_⟩
 cbv
 refine ⟨⟨⟨⟨4,[⟨[2,3,4,5],63624,-1⟩],[6]⟩,⟨[8],[[2,3,4,5]]⟩,0⟩,⟨⟨4,[⟨[2,3,4,5],63624,-1⟩],[6]⟩,⟨[8],[[2,3,4,5]]⟩,0⟩,true⟩,⟨.inl ⟨by exact a8,rfl⟩,oR⟩,?_⟩
 cbv
 refine ⟨λh=>?_,λh=>?_⟩
 ·have h:=h.out
  cases (show False from by simp at h)
 clear h
 cbv
 refine ⟨⟨⟨4,[⟨[2,3,4,5],63624,-1⟩],[6]⟩,1⟩,⟨by exact a8,mL⟩,?_⟩
 cbv
 refine ⟨λh=>?_,λh=>?_⟩
 ·have h':¬(1:Int)=1:=aG
  cases (show False from h' rfl)
 clear h
 cbv
 refine ⟨⟨⟨4,[⟨[2,3,4,5],63624,-1⟩],[6]⟩⟩,⟨by exact a8,rf⟩,?_⟩
 cbv
 refine ⟨λh=>?_,λh=>?_⟩
 ·have h:=h.out
  cases (show False from hvt h)
 clear h
 cbv
 refine ⟨⟨nB,⟨4,[⟨[2,3,4,5],63624,-1⟩],[6]⟩,⟨[8],[[2,3,4,5]]⟩,0⟩,⟨by exact a8,O1.ck⟩,?_⟩
 cbv
 refine ⟨λh=>?_,λh=>?_⟩
 ·have h':¬(0:Int)=0:=aG
  cases (show False from h' rfl)
 clear h
 cbv
 refine ⟨⟨nB,⟨4,[⟨[2,3,4,5],63624,-1⟩],[6]⟩,⟨[],[]⟩,260⟩,⟨by exact a8,j6⟩,?_⟩
 cbv
 refine ⟨λh=>?_,λh=>?_⟩
 ·have h':¬(260:Int)=260:=aG
  cases (show False from h' rfl)
 clear h
 cbv
 refine ⟨⟨⟨4,[⟨[2,3,4,5],63624,-1⟩],[6]⟩,[true,true,false,true],[]⟩,⟨.inl ⟨by exact a8,rfl⟩,hme⟩,?_⟩
 cbv
 refine ⟨true,⟨by exact a8,trivial⟩,?_⟩
 cbv
 refine ⟨⟨nC,⟨5,[⟨[2,3,4,5],63624,-1⟩,⟨[6,7],6,-1⟩],[8]⟩,⟨[9,10],[[2,3,4,5],[6,9]]⟩,0⟩,⟨by have iJ:=u1;have Av:=u2;have CP:=u3;have CQ:=u4;exact bM,Ya⟩,?_⟩
 cbv
 refine ⟨true,⟨by exact a8,trivial⟩,?_⟩
 cbv
 refine ⟨⟨nC,some S⟩,⟨by have iJ:=u1;have Av:=u2;have CP:=u3;have CQ:=u4;exact bM,hla⟩,?_⟩
 cbv
 refine ⟨λh=>?_,λh=>?_⟩
 rotate_left
 ·have h':¬((kG [] [true,true,false,true] [⟨[2,3,4,5],63624,-1⟩]).length:Int)=7:=aG
  cases (show False from h' Px)
 clear h
 cbv
 refine ⟨true,⟨(by decide:(0:Int)<=6),he6⟩,?_⟩
 cbv
 refine ⟨λh=>?_,λh=>?_⟩
 rotate_left
 ·have h:=h.out
  cases (show False from by simp at h)
 clear h
 cbv
 refine ⟨false,⟨(by decide:(0:Int)<=4),he4⟩,?_⟩
 cbv
 refine ⟨λh=>?_,λh=>?_⟩
 rotate_left
 ·have h:=h.out
  cases (show False from by simp at h)
 clear h
 cbv
 refine ⟨true,⟨(by decide:(0:Int)<=1),JJ⟩,?_⟩
 cbv
 refine ⟨λh=>?_,λh=>?_⟩
 rotate_left
 ·have h:=h.out
  cases (show False from by simp at h)
 clear h
 cbv
 refine ⟨λh=>?_,λh=>?_⟩
 rotate_left
 ·have h':¬(0:Int)=0:=aG
  cases (show False from h' rfl)
 clear h
 cbv
 refine ⟨⟨⟨5,[⟨[2,3,4,5],63624,-1⟩,⟨[6,7],6,-1⟩],[8]⟩,2⟩,⟨by exact a8,AI⟩,?_⟩
 cbv
 refine ⟨λh=>?_,λh=>?_⟩
 rotate_left
 ·have h':¬(2:Int)=2:=aG
  cases (show False from h' rfl)
 clear h
 cbv
 refine ⟨⟨[0,0,0,0,0,0,0,1,1,1,2],[0,0,0,0,0,0,0,1,1,1,2]⟩,⟨.inl ⟨by have iJ:=gz;exact bM,rfl⟩,hsi⟩,?_⟩
 cbv
 refine ⟨λh=>?_,λh=>?_⟩
 rotate_left
 ·have h:=h.out
  cases (show False from Bool.noConfusion (hsf.symm.trans h))
 clear h
 cbv
 refine ⟨⟨⟨0,[],[2]⟩⟩,⟨.inl ⟨by exact a8,rfl⟩,jH⟩,?_⟩
 cbv
 exact ⟨by have ny:=nk;exact bM⟩
end Go.Proofs.Pk
