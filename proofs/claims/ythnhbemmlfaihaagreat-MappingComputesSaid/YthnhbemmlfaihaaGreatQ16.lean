import Derived.Test.YthnhbemmlfaihaaGreatQ11
import Derived.Test.YthnhbemmlfaihaaGreatQ15
set_option linter.unusedVariables false
set_option linter.unusedSimpArgs false
set_option maxRecDepth 10000
set_option maxHeartbeats 64000000
namespace Go.Proofs.Pk
open Go Go.Vc
@[reducible] noncomputable def MnS:pC where
 α:=Kf
 args a:=match a.l with
  | none=>[.cW,.sl 1 bP (λ_=>a.x)]
  | some _=>[.own 0,.sl 1 bP (λ_=>a.x)]
 io a:=match a.l with
  | none=>[.dead]
  | some L=>[.dyn 35 1 e8 (λ_=>L)]
 pre a:=Kg a
 β:=Unit
 post _ _:=True
 mv:=[0]
 res _ _:=.own 0
 mM a _:=[.dyn 35 1 e8 (λ_=>me a.eF a.x)]
noncomputable def cMn (n m:Nat):Ctx:=dH n m [(303,Tryz.f303),(320,Tryz.f320),(304,Tryz.f304),(306,Tryz.f306)] [(305,UO)] [306] [320]
theorem TY (n m:Nat):CB PP (cMn n m):=dK n m ⟨fo Tryz.func303,fo Tryz.func320,fo Tryz.func304,fo Tryz.func306,trivial⟩ ⟨acq,trivial⟩
theorem aqm:nT PP 271 MnS:=by
 refine tl (TY 1 0) (fo Tryz.func271) (λa y=>by rcases a with ⟨_|_,_⟩<;>rfl) (λa=>by rcases a with ⟨_|_,_⟩<;>exact ⟨rfl,rfl⟩) (by show ([0]:List Nat).Nodup;decide) ?_
 rintro ⟨_|L,x⟩ hx
 ·have hx:Kg ⟨none,x⟩:=hx
  have hm:[x]=me [] x:=rfl
  refine ⟨?_⟩
  cbv
  refine Sat.dq (TY 1 0) 2 8 [] (λ_:Unit=>[(8,.ic .i64 0)]) (λ_=>[]) (λ_=>True) (λ_=>0) () (by exact aM) (by exact aM) trivial ?_
  intro _ _
  cbv
  repeat' apply And.intro
  all_goals
   refine gw.io adM ⟨none,x⟩ [1] rfl (by exact bp) (by exact aM) ⟨hx⟩ λy _=>?_
   cbv
   refine ⟨[x],⟨by exact cj,by show (0+1)*24<=_;omega,by show 0+1<=_;omega⟩,?_⟩
   cbv
   refine ⟨(),[],[(0,0)],?_,by have fc:=hm;exact bh,⟨trivial⟩⟩
   cbv
   exact ⟨by exact cj,trivial⟩
 ·have ju:Kg ⟨some L,x⟩:=hx
  obtain ⟨rY,hL,PS⟩:x.length<=1000000/\L.length<=1000000000/\∀y∈L,y.length<=1000000:=hx
  refine ⟨?_⟩
  cbv
  refine Sat.dq (TY 1 0) 2 8 [] (λi:Nat=>[(8,.i .i64 (λ_=>(i:Int)))]) (λ_=>[]) (λi=>i<=L.length/\(L.take i).any (λy=>dT y x)=false) (λi=>L.length - i) 0 (by exact aM) (by exact aM) ⟨cg _,rfl⟩ ?_
  intro i hi
  obtain ⟨hi,ha⟩:i<=L.length/\(L.take i).any (λy=>dT y x)=false:=hi
  have h0:=n0 i
  have h1:=dC (i:=i) (by omega)
  cbv
  refine ⟨λh=>?_,λh=>?_⟩
  ·have bM:i < L.length:=aH
   have bZ:L.length - (i+1) < L.length - i:=by omega
   refine (bO bM).elim λy hy=>?_
   have nq:0<=(i:Int)/\(i:Int).toNat < L.length:=⟨h0,bM⟩
   have eD:y.length<=1000000/\x.length<=1000000:=⟨PS y (cB hy),rY⟩
   have cH:=alB (f:=λy=>dT y x) hy
   have asc:¬(i:Int) < 0:=by omega
   cbv
   refine ⟨⟨nq⟩,y,⟨hy,rfl⟩,?_⟩
   cbv
   refine ⟨⟨y,x⟩,⟨by exact bp,eD⟩,?_⟩
   cbv
   refine ⟨λh=>?_,λh=>?_⟩
   ·have hs:dT y x=true:=h.out
    have hm:=(alC hy hs).symm
    cbv
    refine ⟨λ_=>?_,λh=>?_⟩
    rotate_left
    ·have h':(i:Int) < 0:=aH
     cases asc h'
    cbv
    refine ⟨(),[],[(0,0)],?_,by have fc:=hm;exact bh,⟨trivial⟩⟩
    cbv
    exact ⟨by exact cj,trivial⟩
   ·have hs:dT y x=false:=h.out
    have gy:(i+1<=L.length/\(L.take (i+1)).any (λy=>dT y x)=false)/\L.length - (i+1) < L.length - i:=⟨⟨bM,by rw [cH,ha,hs];rfl⟩,bZ⟩
    cbv
    exact ⟨i+1,by have bH:=h1;exact bh,by exact aM,⟨gy⟩⟩
  have cG:L.length<=i:=aH
  have hiL:i=L.length:=by omega
  have bS:(L.take L.length).any (λy=>dT y x)=false:=hiL ▸ ha
  have uy:me L x=pH L x++[x]:=alD bS
  have dG:(pH L x).length<=L.length:=FD _ _
  obtain ⟨M,hM⟩:∃M,me L x=M:=⟨_,rfl⟩
  obtain ⟨K,hK⟩:∃K,pH L x=K:=⟨_,rfl⟩
  rw [hM,hK] at uy
  cbv
  repeat' apply And.intro
  all_goals
   refine gw.io adM ⟨some L,x⟩ [0,1] rfl (by exact bp) (by exact aM) ⟨ju⟩ λy hy=>?_
   rcases y with _|r
   ·have he:K=L:=by rw [<-hK];exact hy.out rfl
    have jA:L++[x]=me L x:=by rw [hM,uy,he]
    have b1:(L.length+1)*24<=140737488355328:=by omega
    have b2:L.length+1<=9223372036854775807:=by omega
    cbv
    refine ⟨[x],⟨by exact cj,b1,b2⟩,?_⟩
    cbv
    refine ⟨(),[],[(0,0)],?_,by have fc:=jA;exact bh,⟨trivial⟩⟩
    cbv
    exact ⟨by exact cj,trivial⟩
   ·have lx:Ol L x (some r)=K++r:=by rw [<-hK];rfl
    have jA:(Ol L x (some r)).take (pH L x).length++[x]=me L x:=by rw [lx,hK,FL,hM,uy]
    have b1:((pH L x).length+1)*24<=140737488355328:=by omega
    have b2:(pH L x).length+1<=9223372036854775807:=by omega
    have hle:(pH L x).length<=(Ol L x (some r)).length:=by rw [lx,hK,List.length_append];omega
    cbv
    refine ⟨[x],⟨⟨rfl,hle⟩,by exact cj,b1,b2⟩,?_⟩
    cbv
    refine ⟨(),[],[(0,0)],?_,by have fc:=jA;exact bh,⟨trivial⟩⟩
    cbv
    exact ⟨by exact cj,trivial⟩
end Go.Proofs.Pk
