import Derived.Test.YthnhbemmlfaihaaGreatO13
import Derived.Test.YthnhbemmlfaihaaGreatO23
set_option linter.unusedVariables false
set_option linter.unusedSimpArgs false
set_option maxRecDepth 10000
set_option maxHeartbeats 64000000
namespace Go.Proofs.Pk
open Go Go.Vc
@[reducible] noncomputable def MnS:o6 where
 α:=IF
 args a:=match a.l with
  | none=>[.cQ,.sl 1 bC (λ_=>a.x)]
  | some _=>[.own 0,.sl 1 bC (λ_=>a.x)]
 io a:=match a.l with
  | none=>[.dead]
  | some L=>[.dyn 35 1 eB (λ_=>L)]
 pre a:=IG a
 β:=Unit
 post _ _:=True
 mv:=[0]
 res _ _:=.own 0
 l7 a _:=[.dyn 35 1 eB (λ_=>ia a.ew a.x)]
noncomputable def cMn (n m:Nat):Ctx:=dM n m [(303,Tryz.f303),(320,Tryz.f320),(304,Tryz.f304),(306,Tryz.f306)] [(305,SM)] [306] [320]
theorem RQ (n m:Nat):CB PP (cMn n m):=dP n m ⟨fo Tryz.func303,fo Tryz.func320,fo Tryz.func304,fo Tryz.func306,trivial⟩ ⟨aam,trivial⟩
theorem an4:nh PP 271 MnS:=by
 refine sA (RQ 1 0) (fo Tryz.func271) (λa y=>by rcases a with ⟨_|_,_⟩<;>rfl) (λa=>by rcases a with ⟨_|_,_⟩<;>exact ⟨rfl,rfl⟩) (by show ([0]:List Nat).Nodup;decide) ?_
 rintro ⟨_|L,x⟩ hx
 ·have hx:IG ⟨none,x⟩:=hx
  have hm:[x]=ia [] x:=rfl
  refine ⟨?_⟩
  cbv
  refine Sat.cU (RQ 1 0) 2 8 [] (λ_:Unit=>[(8,.ic .i64 0)]) (λ_=>[]) (λ_=>True) (λ_=>0) () (by exact aM) (by exact aM) trivial ?_
  intro _ _
  cbv
  repeat' apply And.intro
  all_goals
   refine fh.io abz ⟨none,x⟩ [1] rfl (by exact bp) (by exact aM) ⟨hx⟩ λy _=>?_
   cbv
   refine ⟨[x],⟨by exact bW,by show (0+1)*24<=_;omega,by show 0+1<=_;omega⟩,?_⟩
   cbv
   refine ⟨(),[],[(0,0)],?_,by have fq:=hm;exact a8,⟨trivial⟩⟩
   cbv
   exact ⟨by exact bW,trivial⟩
 ·have jf:IG ⟨some L,x⟩:=hx
  obtain ⟨yR,hL,NX⟩:x.length<=1000000/\L.length<=1000000000/\∀y∈L,y.length<=1000000:=hx
  refine ⟨?_⟩
  cbv
  refine Sat.cU (RQ 1 0) 2 8 [] (λi:Nat=>[(8,.i .i64 (λ_=>(i:Int)))]) (λ_=>[]) (λi=>i<=L.length/\(L.take i).any (λy=>dF y x)=false) (λi=>L.length - i) 0 (by exact aM) (by exact aM) ⟨cg _,rfl⟩ ?_
  intro i hi
  obtain ⟨hi,ha⟩:i<=L.length/\(L.take i).any (λy=>dF y x)=false:=hi
  have h0:=n0 i
  have h1:=cX (i:=i) (by omega)
  cbv
  refine ⟨λh=>?_,λh=>?_⟩
  ·have bQ:i < L.length:=aL
   have bX:L.length - (i+1) < L.length - i:=by omega
   refine (bK bQ).elim λy hy=>?_
   have mF:0<=(i:Int)/\(i:Int).toNat < L.length:=⟨h0,bQ⟩
   have ej:y.length<=1000000/\x.length<=1000000:=⟨NX y (cf hy),yR⟩
   have cC:=ajk (f:=λy=>dF y x) hy
   have apW:¬(i:Int) < 0:=by omega
   cbv
   refine ⟨⟨mF⟩,y,⟨hy,rfl⟩,?_⟩
   cbv
   refine ⟨⟨y,x⟩,⟨by exact bp,ej⟩,?_⟩
   cbv
   refine ⟨λh=>?_,λh=>?_⟩
   ·have hs:dF y x=true:=h.out
    have hm:=(ajl hy hs).symm
    cbv
    refine ⟨λ_=>?_,λh=>?_⟩
    rotate_left
    ·have h':(i:Int) < 0:=aL
     cases apW h'
    cbv
    refine ⟨(),[],[(0,0)],?_,by have fq:=hm;exact a8,⟨trivial⟩⟩
    cbv
    exact ⟨by exact bW,trivial⟩
   ·have hs:dF y x=false:=h.out
    have gx:(i+1<=L.length/\(L.take (i+1)).any (λy=>dF y x)=false)/\L.length - (i+1) < L.length - i:=⟨⟨bQ,by rw [cC,ha,hs];rfl⟩,bX⟩
    cbv
    exact ⟨i+1,by have bD:=h1;exact a8,by exact aM,⟨gx⟩⟩
  have cz:L.length<=i:=aL
  have hiL:i=L.length:=by omega
  have bV:(L.take L.length).any (λy=>dF y x)=false:=hiL ▸ ha
  have yS:ia L x=pa L x++[x]:=ajm bV
  have cT:(pa L x).length<=L.length:=D9 _ _
  obtain ⟨M,hM⟩:∃M,ia L x=M:=⟨_,rfl⟩
  obtain ⟨K,hK⟩:∃K,pa L x=K:=⟨_,rfl⟩
  rw [hM,hK] at yS
  cbv
  repeat' apply And.intro
  all_goals
   refine fh.io abz ⟨some L,x⟩ [0,1] rfl (by exact bp) (by exact aM) ⟨jf⟩ λy hy=>?_
   rcases y with _|r
   ·have he:K=L:=by rw [<-hK];exact hy.out rfl
    have iJ:L++[x]=ia L x:=by rw [hM,yS,he]
    have b1:(L.length+1)*24<=140737488355328:=by omega
    have b2:L.length+1<=9223372036854775807:=by omega
    cbv
    refine ⟨[x],⟨by exact bW,b1,b2⟩,?_⟩
    cbv
    refine ⟨(),[],[(0,0)],?_,by have fq:=iJ;exact a8,⟨trivial⟩⟩
    cbv
    exact ⟨by exact bW,trivial⟩
   ·have kK:Mx L x (some r)=K++r:=by rw [<-hK];rfl
    have iJ:(Mx L x (some r)).take (pa L x).length++[x]=ia L x:=by rw [kK,hK,Eg,hM,yS]
    have b1:((pa L x).length+1)*24<=140737488355328:=by omega
    have b2:(pa L x).length+1<=9223372036854775807:=by omega
    have hle:(pa L x).length<=(Mx L x (some r)).length:=by rw [kK,hK,List.length_append];omega
    cbv
    refine ⟨[x],⟨⟨rfl,hle⟩,by exact bW,b1,b2⟩,?_⟩
    cbv
    refine ⟨(),[],[(0,0)],?_,by have fq:=iJ;exact a8,⟨trivial⟩⟩
    cbv
    exact ⟨by exact bW,trivial⟩
end Go.Proofs.Pk
