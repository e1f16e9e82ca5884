import Derived.Test.YthnhbemmlfaihaaR13
import Derived.Test.YthnhbemmlfaihaaR18
set_option linter.unusedVariables false
set_option linter.unusedSimpArgs false
set_option maxRecDepth 10000
set_option maxHeartbeats 64000000
namespace Go.Proofs.Pk
open Go Go.Vc
@[reducible] noncomputable def MnS:oj where
 α:=FE
 args a:=match a.l with
  | none=>[.cH,.sl 1 bK (λ_=>a.x)]
  | some _=>[.own 0,.sl 1 bK (λ_=>a.x)]
 io a:=match a.l with
  | none=>[.dead]
  | some L=>[.dyn 32 1 fP (λ_=>L)]
 pre a:=FG a
 β:=Unit
 post _ _:=True
 mv:=[0]
 res _ _:=.own 0
 lz a _:=[.dyn 32 1 fP (λ_=>lh a.dO a.x)]
noncomputable def cMn (n m:Nat):Ctx:=cT n m [(66,Try.f66),(85,Try.f85),(67,Try.f67),(69,Try.f69)] [(68,OK)] [69] [85]
theorem NZ (n m:Nat):CB PP (cMn n m):=cW n m ⟨fo Try.func66,fo Try.func85,fo Try.func67,fo Try.func69,trivial⟩ ⟨VU,trivial⟩
theorem ahW:ma PP 55 MnS:=by
 refine rp (NZ 1 0) (fo Try.func55) (λa y=>by rcases a with ⟨_|_,_⟩<;>rfl) (λa=>by rcases a with ⟨_|_,_⟩<;>exact ⟨rfl,rfl⟩) (by show ([0]:List Nat).Nodup;decide) ?_
 rintro ⟨_|L,x⟩ hx
 ·have hx:FG ⟨none,x⟩:=hx
  have hm:[x]=lh [] x:=rfl
  refine ⟨?_⟩
  cbv
  refine Sat.eI (NZ 1 0) 2 8 [] (λ_:Unit=>[(8,.ic .i64 0)]) (λ_=>[]) (λ_=>True) (λ_=>0) () (by exact aX) (by exact aX) trivial ?_
  intro _ _
  cbv
  repeat' apply And.intro
  all_goals
   refine iP.io W4 ⟨none,x⟩ [1] rfl (by exact aY) (by exact aX) ⟨hx⟩ λy _=>?_
   cbv
   refine ⟨[x],⟨by exact fj,by show (0+1)*24<=_;omega,by show 0+1<=_;omega⟩,?_⟩
   cbv
   refine ⟨(),[],[(0,0)],?_,by have eu:=hm;exact bp,⟨trivial⟩⟩
   cbv
   exact ⟨by exact fj,trivial⟩
 ·have ia:FG ⟨some L,x⟩:=hx
  obtain ⟨wJ,hL,Km⟩:x.length<=1000000/\L.length<=1000000000/\∀y∈L,y.length<=1000000:=hx
  refine ⟨?_⟩
  cbv
  refine Sat.eI (NZ 1 0) 2 8 [] (λi:Nat=>[(8,.i .i64 (λ_=>(i:Int)))]) (λ_=>[]) (λi=>i<=L.length/\(L.take i).any (λy=>dx y x)=false) (λi=>L.length - i) 0 (by exact aX) (by exact aX) ⟨cP _,rfl⟩ ?_
  intro i hi
  obtain ⟨hi,ha⟩:i<=L.length/\(L.take i).any (λy=>dx y x)=false:=hi
  have h0:=n0 i
  have h1:=eU (i:=i) (by omega)
  cbv
  refine ⟨λh=>?_,λh=>?_⟩
  ·have bU:i < L.length:=aJ
   have cD:L.length - (i+1) < L.length - i:=by omega
   refine (cy bU).elim λy hy=>?_
   have ly:0<=(i:Int)/\(i:Int).toNat < L.length:=⟨h0,bU⟩
   have dU:y.length<=1000000/\x.length<=1000000:=⟨Km y (cN hy),wJ⟩
   have db:=ad9 (f:=λy=>dx y x) hy
   have ajp:¬(i:Int) < 0:=by omega
   cbv
   refine ⟨⟨ly⟩,y,⟨hy,rfl⟩,?_⟩
   cbv
   refine ⟨⟨y,x⟩,⟨by exact aY,dU⟩,?_⟩
   cbv
   refine ⟨λh=>?_,λh=>?_⟩
   ·have hs:dx y x=true:=h.out
    have hm:=(aea hy hs).symm
    cbv
    refine ⟨λ_=>?_,λh=>?_⟩
    rotate_left
    ·have h':(i:Int) < 0:=aJ
     cases ajp h'
    cbv
    refine ⟨(),[],[(0,0)],?_,by have eu:=hm;exact bp,⟨trivial⟩⟩
    cbv
    exact ⟨by exact fj,trivial⟩
   ·have hs:dx y x=false:=h.out
    have gn:(i+1<=L.length/\(L.take (i+1)).any (λy=>dx y x)=false)/\L.length - (i+1) < L.length - i:=⟨⟨bU,by rw [db,ha,hs];rfl⟩,cD⟩
    cbv
    exact ⟨i+1,by have bI:=h1;exact bp,by exact aX,⟨gn⟩⟩
  have cf:L.length<=i:=aJ
  have hiL:i=L.length:=by omega
  have b9:(L.take L.length).any (λy=>dx y x)=false:=hiL ▸ ha
  have wK:lh L x=nt L x++[x]:=aeb b9
  have dP:(nt L x).length<=L.length:=DV _ _
  obtain ⟨M,hM⟩:∃M,lh L x=M:=⟨_,rfl⟩
  obtain ⟨K,hK⟩:∃K,nt L x=K:=⟨_,rfl⟩
  rw [hM,hK] at wK
  cbv
  repeat' apply And.intro
  all_goals
   refine iP.io W4 ⟨some L,x⟩ [0,1] rfl (by exact aY) (by exact aX) ⟨ia⟩ λy hy=>?_
   rcases y with _|r
   ·have he:K=L:=by rw [<-hK];exact hy.out rfl
    have nA:L++[x]=lh L x:=by rw [hM,wK,he]
    have b1:(L.length+1)*24<=140737488355328:=by omega
    have b2:L.length+1<=9223372036854775807:=by omega
    cbv
    refine ⟨[x],⟨by exact fj,b1,b2⟩,?_⟩
    cbv
    refine ⟨(),[],[(0,0)],?_,by have eu:=nA;exact bp,⟨trivial⟩⟩
    cbv
    exact ⟨by exact fj,trivial⟩
   ·have jF:I6 L x (some r)=K++r:=by rw [<-hK];rfl
    have nA:(I6 L x (some r)).take (nt L x).length++[x]=lh L x:=by rw [jF,hK,BB,hM,wK]
    have b1:((nt L x).length+1)*24<=140737488355328:=by omega
    have b2:(nt L x).length+1<=9223372036854775807:=by omega
    have hle:(nt L x).length<=(I6 L x (some r)).length:=by rw [jF,hK,fS];omega
    cbv
    refine ⟨[x],⟨⟨rfl,hle⟩,by exact fj,b1,b2⟩,?_⟩
    cbv
    refine ⟨(),[],[(0,0)],?_,by have eu:=nA;exact bp,⟨trivial⟩⟩
    cbv
    exact ⟨by exact fj,trivial⟩
end Go.Proofs.Pk
