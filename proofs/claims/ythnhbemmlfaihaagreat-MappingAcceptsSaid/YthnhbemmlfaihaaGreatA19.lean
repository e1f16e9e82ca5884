import Derived.Test.YthnhbemmlfaihaaGreatA13
import Derived.Test.YthnhbemmlfaihaaGreatA18
set_option linter.unusedVariables false
set_option linter.unusedSimpArgs false
set_option maxRecDepth 10000
set_option maxHeartbeats 64000000
namespace Go.Proofs.Pk
open Go Go.Vc
@[reducible] noncomputable def MnS:nU where
 α:=Fg
 args a:=match a.l with
  | none=>[.cG,.sl 1 bJ (λ_=>a.x)]
  | some _=>[.own 0,.sl 1 bJ (λ_=>a.x)]
 io a:=match a.l with
  | none=>[.dead]
  | some L=>[.dyn 35 1 fT (λ_=>L)]
 pre a:=Fh a
 β:=Unit
 post _ _:=True
 mv:=[0]
 res _ _:=.own 0
 ld a _:=[.dyn 35 1 fT (λ_=>kY a.dK a.x)]
noncomputable def cMn (n m:Nat):Ctx:=cW n m [(303,Tryz.f303),(320,Tryz.f320),(304,Tryz.f304),(306,Tryz.f306)] [(305,Oh)] [306] [320]
theorem Nx (n m:Nat):CB PP (cMn n m):=cZ n m ⟨fo Tryz.func303,fo Tryz.func320,fo Tryz.func304,fo Tryz.func306,trivial⟩ ⟨Vy,trivial⟩
theorem aht:l5 PP 271 MnS:=by
 refine qZ (Nx 1 0) (fo Tryz.func271) (λa y=>by rcases a with ⟨_|_,_⟩<;>rfl) (λa=>by rcases a with ⟨_|_,_⟩<;>exact ⟨rfl,rfl⟩) (by show ([0]:List Nat).Nodup;decide) ?_
 rintro ⟨_|L,x⟩ hx
 ·have hx:Fh ⟨none,x⟩:=hx
  have hm:[x]=kY [] x:=rfl
  refine ⟨?_⟩
  cbv
  refine Sat.dP (Nx 1 0) 2 8 [] (λ_:Unit=>[(8,.ic .i64 0)]) (λ_=>[]) (λ_=>True) (λ_=>0) () (by exact aW) (by exact aW) trivial ?_
  intro _ _
  cbv
  repeat' apply And.intro
  all_goals
   refine iW.io WI ⟨none,x⟩ [1] rfl (by exact a8) (by exact aW) ⟨hx⟩ λy _=>?_
   cbv
   refine ⟨[x],⟨by exact e9,by show (0+1)*24<=_;omega,by show 0+1<=_;omega⟩,?_⟩
   cbv
   refine ⟨(),[],[(0,0)],?_,by have eH:=hm;exact bq,⟨trivial⟩⟩
   cbv
   exact ⟨by exact e9,trivial⟩
 ·have gW:Fh ⟨some L,x⟩:=hx
  obtain ⟨wo,hL,J6⟩:x.length<=1000000/\L.length<=1000000000/\∀y∈L,y.length<=1000000:=hx
  refine ⟨?_⟩
  cbv
  refine Sat.dP (Nx 1 0) 2 8 [] (λi:Nat=>[(8,.i .i64 (λ_=>(i:Int)))]) (λ_=>[]) (λi=>i<=L.length/\(L.take i).any (λy=>dA y x)=false) (λi=>L.length - i) 0 (by exact aW) (by exact aW) ⟨cI _,rfl⟩ ?_
  intro i hi
  obtain ⟨hi,ha⟩:i<=L.length/\(L.take i).any (λy=>dA y x)=false:=hi
  have h0:=n0 i
  have h1:=eh (i:=i) (by omega)
  cbv
  refine ⟨λh=>?_,λh=>?_⟩
  ·have bO:i < L.length:=aG
   have cf:L.length - (i+1) < L.length - i:=by omega
   refine (cg bO).elim λy hy=>?_
   have k9:0<=(i:Int)/\(i:Int).toNat < L.length:=⟨h0,bO⟩
   have dR:y.length<=1000000/\x.length<=1000000:=⟨J6 y (cM hy),wo⟩
   have cP:=adG (f:=λy=>dA y x) hy
   have aiS:¬(i:Int) < 0:=by omega
   cbv
   refine ⟨⟨k9⟩,y,⟨hy,rfl⟩,?_⟩
   cbv
   refine ⟨⟨y,x⟩,⟨by exact a8,dR⟩,?_⟩
   cbv
   refine ⟨λh=>?_,λh=>?_⟩
   ·have hs:dA y x=true:=h.out
    have hm:=(adH hy hs).symm
    cbv
    refine ⟨λ_=>?_,λh=>?_⟩
    rotate_left
    ·have h':(i:Int) < 0:=aG
     cases aiS h'
    cbv
    refine ⟨(),[],[(0,0)],?_,by have eH:=hm;exact bq,⟨trivial⟩⟩
    cbv
    exact ⟨by exact e9,trivial⟩
   ·have hs:dA y x=false:=h.out
    have fv:(i+1<=L.length/\(L.take (i+1)).any (λy=>dA y x)=false)/\L.length - (i+1) < L.length - i:=⟨⟨bO,by rw [cP,ha,hs];rfl⟩,cf⟩
    cbv
    exact ⟨i+1,by have bK:=h1;exact bq,by exact aW,⟨fv⟩⟩
  have bV:L.length<=i:=aG
  have hiL:i=L.length:=by omega
  have cb:(L.take L.length).any (λy=>dA y x)=false:=hiL ▸ ha
  have wq:kY L x=nh L x++[x]:=adI cb
  have dO:(nh L x).length<=L.length:=Dy _ _
  obtain ⟨M,hM⟩:∃M,kY L x=M:=⟨_,rfl⟩
  obtain ⟨K,hK⟩:∃K,nh L x=K:=⟨_,rfl⟩
  rw [hM,hK] at wq
  cbv
  repeat' apply And.intro
  all_goals
   refine iW.io WI ⟨some L,x⟩ [0,1] rfl (by exact a8) (by exact aW) ⟨gW⟩ λy hy=>?_
   rcases y with _|r
   ·have he:K=L:=by rw [<-hK];exact hy.out rfl
    have nk:L++[x]=kY L x:=by rw [hM,wq,he]
    have b1:(L.length+1)*24<=140737488355328:=by omega
    have b2:L.length+1<=9223372036854775807:=by omega
    cbv
    refine ⟨[x],⟨by exact e9,b1,b2⟩,?_⟩
    cbv
    refine ⟨(),[],[(0,0)],?_,by have eH:=nk;exact bq,⟨trivial⟩⟩
    cbv
    exact ⟨by exact e9,trivial⟩
   ·have jy:IT L x (some r)=K++r:=by rw [<-hK];rfl
    have nk:(IT L x (some r)).take (nh L x).length++[x]=kY L x:=by rw [jy,hK,Be,hM,wq]
    have b1:((nh L x).length+1)*24<=140737488355328:=by omega
    have b2:(nh L x).length+1<=9223372036854775807:=by omega
    have hle:(nh L x).length<=(IT L x (some r)).length:=by rw [jy,hK,gn];omega
    cbv
    refine ⟨[x],⟨⟨rfl,hle⟩,by exact e9,b1,b2⟩,?_⟩
    cbv
    refine ⟨(),[],[(0,0)],?_,by have eH:=nk;exact bq,⟨trivial⟩⟩
    cbv
    exact ⟨by exact e9,trivial⟩
end Go.Proofs.Pk
