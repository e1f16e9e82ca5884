import Derived.Test.YthnhbemmlfaihaaC13
import Derived.Test.YthnhbemmlfaihaaC17
set_option linter.unusedVariables false
set_option linter.unusedSimpArgs false
set_option maxRecDepth 10000
set_option maxHeartbeats 64000000
namespace Go.Proofs.Pk
open Go Go.Vc
@[reducible] noncomputable def MnS:nU where
 α:=EX
 args a:=match a.l with
  | none=>[.cD,.sl 1 bH (λ_=>a.x)]
  | some _=>[.own 0,.sl 1 bH (λ_=>a.x)]
 io a:=match a.l with
  | none=>[.dead]
  | some L=>[.dyn 32 1 fR (λ_=>L)]
 pre a:=EY a
 β:=Unit
 post _ _:=True
 mv:=[0]
 res _ _:=.own 0
 kZ a _:=[.dyn 32 1 fR (λ_=>kU a.dF a.x)]
noncomputable def cMn (n m:Nat):Ctx:=cP n m [(66,Try.f66),(85,Try.f85),(67,Try.f67),(69,Try.f69)] [(68,Ob)] [69] [85]
theorem Nu (n m:Nat):CB PP (cMn n m):=cR n m ⟨fo Try.func66,fo Try.func85,fo Try.func67,fo Try.func69,trivial⟩ ⟨Vo,trivial⟩
theorem ahj:lW PP 55 MnS:=by
 refine qV (Nu 1 0) (fo Try.func55) (λa y=>by rcases a with ⟨_|_,_⟩<;>rfl) (λa=>by rcases a with ⟨_|_,_⟩<;>exact ⟨rfl,rfl⟩) (by show ([0]:List Nat).Nodup;decide) ?_
 rintro ⟨_|L,x⟩ hx
 ·have hx:EY ⟨none,x⟩:=hx
  have hm:[x]=kU [] x:=rfl
  refine ⟨?_⟩
  cbv
  refine Sat.eE (Nu 1 0) 2 8 [] (λ_:Unit=>[(8,.ic .i64 0)]) (λ_=>[]) (λ_=>True) (λ_=>0) () (by exact aW) (by exact aW) trivial ?_
  intro _ _
  cbv
  repeat' apply And.intro
  all_goals
   refine iW.io Wr ⟨none,x⟩ [1] rfl (by exact a7) (by exact aW) ⟨hx⟩ λy _=>?_
   cbv
   refine ⟨[x],⟨by exact gw,by show (0+1)*24<=_;omega,by show 0+1<=_;omega⟩,?_⟩
   cbv
   refine ⟨(),[],[(0,0)],?_,by have eG:=hm;exact a8,⟨trivial⟩⟩
   cbv
   exact ⟨by exact gw,trivial⟩
 ·have gW:EY ⟨some L,x⟩:=hx
  obtain ⟨wh,hL,JN⟩:x.length<=1000000/\L.length<=1000000000/\∀y∈L,y.length<=1000000:=hx
  refine ⟨?_⟩
  cbv
  refine Sat.eE (Nu 1 0) 2 8 [] (λi:Nat=>[(8,.i .i64 (λ_=>(i:Int)))]) (λ_=>[]) (λi=>i<=L.length/\(L.take i).any (λy=>dt y x)=false) (λi=>L.length - i) 0 (by exact aW) (by exact aW) ⟨cK _,rfl⟩ ?_
  intro i hi
  obtain ⟨hi,ha⟩:i<=L.length/\(L.take i).any (λy=>dt y x)=false:=hi
  have h0:=n0 i
  have h1:=eO (i:=i) (by omega)
  cbv
  refine ⟨λh=>?_,λh=>?_⟩
  ·have bP:i < L.length:=aL
   have cy:L.length - (i+1) < L.length - i:=by omega
   refine (cC bP).elim λy hy=>?_
   have kX:0<=(i:Int)/\(i:Int).toNat < L.length:=⟨h0,bP⟩
   have dL:y.length<=1000000/\x.length<=1000000:=⟨JN y (cL hy),wh⟩
   have cS:=adw (f:=λy=>dt y x) hy
   have aiJ:¬(i:Int) < 0:=by omega
   cbv
   refine ⟨⟨kX⟩,y,⟨hy,rfl⟩,?_⟩
   cbv
   refine ⟨⟨y,x⟩,⟨by exact a7,dL⟩,?_⟩
   cbv
   refine ⟨λh=>?_,λh=>?_⟩
   ·have hs:dt y x=true:=h.out
    have hm:=(adz hy hs).symm
    cbv
    refine ⟨λ_=>?_,λh=>?_⟩
    rotate_left
    ·have h':(i:Int) < 0:=aL
     cases aiJ h'
    cbv
    refine ⟨(),[],[(0,0)],?_,by have eG:=hm;exact a8,⟨trivial⟩⟩
    cbv
    exact ⟨by exact gw,trivial⟩
   ·have hs:dt y x=false:=h.out
    have gl:(i+1<=L.length/\(L.take (i+1)).any (λy=>dt y x)=false)/\L.length - (i+1) < L.length - i:=⟨⟨bP,by rw [cS,ha,hs];rfl⟩,cy⟩
    cbv
    exact ⟨i+1,by have bE:=h1;exact a8,by exact aW,⟨gl⟩⟩
  have b9:L.length<=i:=aL
  have hiL:i=L.length:=by omega
  have bW:(L.take L.length).any (λy=>dt y x)=false:=hiL ▸ ha
  have wi:kU L x=mY L x++[x]:=adA bW
  have dI:(mY L x).length<=L.length:=Dl _ _
  obtain ⟨M,hM⟩:∃M,kU L x=M:=⟨_,rfl⟩
  obtain ⟨K,hK⟩:∃K,mY L x=K:=⟨_,rfl⟩
  rw [hM,hK] at wi
  cbv
  repeat' apply And.intro
  all_goals
   refine iW.io Wr ⟨some L,x⟩ [0,1] rfl (by exact a7) (by exact aW) ⟨gW⟩ λy hy=>?_
   rcases y with _|r
   ·have he:K=L:=by rw [<-hK];exact hy.out rfl
    have nf:L++[x]=kU L x:=by rw [hM,wi,he]
    have b1:(L.length+1)*24<=140737488355328:=by omega
    have b2:L.length+1<=9223372036854775807:=by omega
    cbv
    refine ⟨[x],⟨by exact gw,b1,b2⟩,?_⟩
    cbv
    refine ⟨(),[],[(0,0)],?_,by have eG:=nf;exact a8,⟨trivial⟩⟩
    cbv
    exact ⟨by exact gw,trivial⟩
   ·have jy:Iv L x (some r)=K++r:=by rw [<-hK];rfl
    have nf:(Iv L x (some r)).take (mY L x).length++[x]=kU L x:=by rw [jy,hK,A5,hM,wi]
    have b1:((mY L x).length+1)*24<=140737488355328:=by omega
    have b2:(mY L x).length+1<=9223372036854775807:=by omega
    have hle:(mY L x).length<=(Iv L x (some r)).length:=by rw [jy,hK,fJ];omega
    cbv
    refine ⟨[x],⟨⟨rfl,hle⟩,by exact gw,b1,b2⟩,?_⟩
    cbv
    refine ⟨(),[],[(0,0)],?_,by have eG:=nf;exact a8,⟨trivial⟩⟩
    cbv
    exact ⟨by exact gw,trivial⟩
end Go.Proofs.Pk
