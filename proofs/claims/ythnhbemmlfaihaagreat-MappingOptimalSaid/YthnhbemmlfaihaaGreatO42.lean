import Derived.Test.YthnhbemmlfaihaaGreatO13
import Derived.Test.YthnhbemmlfaihaaGreatO41
set_option linter.unusedVariables false
set_option linter.unusedSimpArgs false
set_option maxRecDepth 10000
set_option maxHeartbeats 64000000
namespace Go.Proofs.Pk
open Go Go.Vc
@[reducible] noncomputable def aru:Vc.Spec:=Fx
@[reducible] noncomputable def adt:Vc.Spec where
 α:=Unit
 args u:=[]
 pre u:=True
 res u:=.b (λ_=>true)
noncomputable def arv (n m:Nat):Ctx:=dM n m [(33,Tryz.f33),(34,Tryz.f34)] [(103,abU),(104,S5),(36,ac7),(46,Tc),(39,Nn),(44,ac1),(49,adn),(105,SQ),(38,aru)]
theorem amL (n m:Nat):CB PP (arv n m):=dP n m ⟨fo Tryz.func33,fo Tryz.func34,trivial⟩ ⟨ak6,aaG,amo,aaQ,aaN,amp,amH,aau,amk,trivial⟩
theorem amM:dt (PP ()) 29 adt:=by
 refine e6 (amL 0 0) (fo Tryz.func29) (λa=>trivial) (λa=>trivial) ?_
 intro u hx
 clear hx
 have w1:(tp false).ins=pr.ins:=rfl
 have w2:(tp false).aY=pr.aY:=rfl
 have w3:(tp false).outs=pr.outs:=rfl
 have w4:(tp false).bj=pr.bj:=rfl
 have u1:(tp true).ins=pv.ins:=rfl
 have u2:(tp true).aY=pv.aY:=rfl
 have u3:(tp true).outs=pv.outs:=rfl
 have u4:(tp true).bj=pv.bj:=rfl
 have O1:=Ni Td
 have O2:=Ni ads
 have nU:S3 ⟨vd,UN,0⟩ ⟨vd,UN,0⟩ true:=⟨O1.gl,O1.gl,by simp⟩
 have oM:C2 vd 1:=⟨O1.v,O1.gl.m.cin,O1.gl.m.dr,dX1⟩
 have N8:C2 UO 2:=⟨O2.v,O2.gl.m.cin,O2.gl.m.dr,dX2⟩
 have mL:H8 vd:=⟨O1.gl.m.cells,O1.gl.m.cin,O1.gl.m.dr⟩
 have eM:H8 ⟨0,[],[2]⟩:=⟨by decide,λx hx=>(by cases hx),by decide⟩
 have T9:(!vX vd)=true->False:=λh=>by rw [vX1] at h;cases h
 have k9:IJ pr vd ⟨[],[]⟩ 260:=⟨gX1,Td.gl,O1.gl.m.cells,O1.gl.m.cin,λl hl=>(by cases hl),kX0⟩
 have hme:Ta vd [true,true,false,true] []:=⟨O1.v,rfl⟩
 have T2:((lZ [] [true,true,false,true] [⟨[2,3,4,5],63624,-1⟩]).length:Int)=7:=by rw [show lZ [] [true,true,false,true] [⟨[2,3,4,5],63624,-1⟩]=_ from Oh];rfl
 have he6:(lZ [] [true,true,false,true] [⟨[2,3,4,5],63624,-1⟩])[6]?=some true:=by rw [show lZ [] [true,true,false,true] [⟨[2,3,4,5],63624,-1⟩]=_ from Oh];rfl
 have he4:(lZ [] [true,true,false,true] [⟨[2,3,4,5],63624,-1⟩])[4]?=some false:=by rw [show lZ [] [true,true,false,true] [⟨[2,3,4,5],63624,-1⟩]=_ from Oh];rfl
 have Nu:(lZ [] [true,true,false,true] [⟨[2,3,4,5],63624,-1⟩])[1]?=some true:=by rw [show lZ [] [true,true,false,true] [⟨[2,3,4,5],63624,-1⟩]=_ from Oh];rfl
 have uZ:=(a7.1 he6).1
 have Gg:4 < (lZ [] [true,true,false,true] [⟨[2,3,4,5],63624,-1⟩]).length:=BN (by decide) uZ
 have gQ:1 < (lZ [] [true,true,false,true] [⟨[2,3,4,5],63624,-1⟩]).length:=BN (by decide) uZ
 have hla:=ars
 have gS:Og.labels=[0,0,0,0,0,0,0,1,1,1,2]:=amJ
 have JN:([0,0,0,0,0,0,0,1,1,1,2]:List Int).length<=1000000000000/\([0,0,0,0,0,0,0,1,1,1,2]:List Int).length<=1000000000000:=⟨by decide,by decide⟩
 have hsf:kR ([0,0,0,0,0,0,0,1,1,1,2]:List Int) [0,0,0,0,0,0,0,1,1,1,2]=true:=Aa.2 rfl
 have iJ:(!vX ⟨0,[],[2]⟩)=true:=by rw [vX0];rfl
 obtain ⟨S,hS⟩:∃S,Og=S:=⟨_,rfl⟩
 rw [hS] at hla gS
 refine ⟨?_⟩
 cbv
 refine ⟨false,⟨by exact bp,trivial⟩,?_⟩
 cbv
 refine ⟨⟨pr,⟨4,[⟨[2,3,4,5],63624,-1⟩],[6]⟩,⟨[8],[[2,3,4,5]]⟩,0⟩,⟨by have jM:=w1;have Di:=w2;have F1:=w3;have F2:=w4;exact cd,Td⟩,?_⟩
 cbv
 refine ⟨⟨⟨⟨4,[⟨[2,3,4,5],63624,-1⟩],[6]⟩,⟨[8],[[2,3,4,5]]⟩,0⟩,⟨⟨4,[⟨[2,3,4,5],63624,-1⟩],[6]⟩,⟨[8],[[2,3,4,5]]⟩,0⟩,true⟩,⟨.inl ⟨by exact bp,rfl⟩,nU⟩,?_⟩
 cbv
 refine ⟨λh=>?_,λh=>?_⟩
 ·have h:=h.out
  cases (show False from by simp at h)
 clear h
 cbv
 refine ⟨⟨⟨4,[⟨[2,3,4,5],63624,-1⟩],[6]⟩,1⟩,⟨by exact bp,oM⟩,?_⟩
 cbv
 refine ⟨λh=>?_,λh=>?_⟩
 ·have h':¬(1:Int)=1:=aL
  cases (show False from h' rfl)
 clear h
 cbv
 refine ⟨⟨⟨4,[⟨[2,3,4,5],63624,-1⟩],[6]⟩⟩,⟨by exact bp,mL⟩,?_⟩
 cbv
 refine ⟨λh=>?_,λh=>?_⟩
 ·have h:=h.out
  cases (show False from T9 h)
 clear h
 cbv
 refine ⟨⟨pr,⟨4,[⟨[2,3,4,5],63624,-1⟩],[6]⟩,⟨[8],[[2,3,4,5]]⟩,0⟩,⟨by exact bp,O1.ck⟩,?_⟩
 cbv
 refine ⟨λh=>?_,λh=>?_⟩
 ·have h':¬(0:Int)=0:=aL
  cases (show False from h' rfl)
 clear h
 cbv
 refine ⟨⟨pr,⟨4,[⟨[2,3,4,5],63624,-1⟩],[6]⟩,⟨[],[]⟩,260⟩,⟨by exact bp,k9⟩,?_⟩
 cbv
 refine ⟨λh=>?_,λh=>?_⟩
 ·have h':¬(260:Int)=260:=aL
  cases (show False from h' rfl)
 clear h
 cbv
 refine ⟨⟨⟨4,[⟨[2,3,4,5],63624,-1⟩],[6]⟩,[true,true,false,true],[]⟩,⟨.inl ⟨by exact bp,rfl⟩,hme⟩,?_⟩
 cbv
 refine ⟨true,⟨by exact bp,trivial⟩,?_⟩
 cbv
 refine ⟨⟨pv,⟨5,[⟨[2,3,4,5],63624,-1⟩,⟨[6,7],6,-1⟩],[8]⟩,⟨[9,10],[[2,3,4,5],[6,9]]⟩,0⟩,⟨by have jM:=u1;have Di:=u2;have F1:=u3;have F2:=u4;exact cd,ads⟩,?_⟩
 cbv
 refine ⟨true,⟨by exact bp,trivial⟩,?_⟩
 cbv
 refine ⟨⟨pv,some S⟩,⟨by have jM:=u1;have Di:=u2;have F1:=u3;have F2:=u4;exact cd,hla⟩,?_⟩
 cbv
 refine ⟨λh=>?_,λh=>?_⟩
 rotate_left
 ·have h':¬((lZ [] [true,true,false,true] [⟨[2,3,4,5],63624,-1⟩]).length:Int)=7:=aL
  cases (show False from h' T2)
 clear h
 cbv
 refine ⟨true,⟨(by decide:(0:Int)<=6),he6⟩,?_⟩
 cbv
 refine ⟨λh=>?_,λh=>?_⟩
 rotate_left
 ·have h:=h.out
  cases (show False from by simp at h)
 clear h
 cbv
 refine ⟨false,⟨(by decide:(0:Int)<=4),he4⟩,?_⟩
 cbv
 refine ⟨λh=>?_,λh=>?_⟩
 rotate_left
 ·have h:=h.out
  cases (show False from by simp at h)
 clear h
 cbv
 refine ⟨true,⟨(by decide:(0:Int)<=1),Nu⟩,?_⟩
 cbv
 refine ⟨λh=>?_,λh=>?_⟩
 rotate_left
 ·have h:=h.out
  cases (show False from by simp at h)
 clear h
 cbv
 refine ⟨λh=>?_,λh=>?_⟩
 rotate_left
 ·have h':¬(0:Int)=0:=aL
  cases (show False from h' rfl)
 clear h
 cbv
 refine ⟨⟨⟨5,[⟨[2,3,4,5],63624,-1⟩,⟨[6,7],6,-1⟩],[8]⟩,2⟩,⟨by exact bp,N8⟩,?_⟩
 cbv
 refine ⟨λh=>?_,λh=>?_⟩
 rotate_left
 ·have h':¬(2:Int)=2:=aL
  cases (show False from h' rfl)
 clear h
 cbv
 refine ⟨⟨[0,0,0,0,0,0,0,1,1,1,2],[0,0,0,0,0,0,0,1,1,1,2]⟩,⟨.inl ⟨by have jM:=gS;exact cd,rfl⟩,JN⟩,?_⟩
 cbv
 refine ⟨λh=>?_,λh=>?_⟩
 rotate_left
 ·have h:=h.out
  cases (show False from Bool.noConfusion (hsf.symm.trans h))
 clear h
 cbv
 refine ⟨⟨⟨0,[],[2]⟩⟩,⟨.inl ⟨by exact bp,rfl⟩,eM⟩,?_⟩
 cbv
 exact ⟨by have po:=iJ;exact cd⟩
end Go.Proofs.Pk
