import Derived.Test.YthnhbemmlfaihaaGreatO13
import Derived.Test.YthnhbemmlfaihaaGreatO20
set_option linter.unusedVariables false
set_option linter.unusedSimpArgs false
set_option maxRecDepth 10000
set_option maxHeartbeats 64000000
namespace Go.Proofs.Pk
open Go Go.Vc
def apO (n:Net) (k:Nat):List SV:=[.sl 3 je (λ_=>n.ins),.sl 5 kY (λ_=>n.aY),.sl 3 je (λ_=>n.outs),.sl 1 bC (λ_=>n.bj),.own (k+1),.own (k+2),.own (k+3)]
def Ft (n:Net) (s:dW) (k:Nat):List Slot:=[.fix 324 (apO n k),.dyn 3 1 bC (λ_=>s.labels),.dyn 36 1 yo (λ_=>s.eT),.dyn 35 1 eB (λ_=>s.leaves)]
structure apP where
 n:Net
 s:dW
 m:List Int
 r:List (List Int)
 b:List Int
@[reducible] noncomputable def anY:o6 where
 α:=apP
 args x:=[.own 5,.fn (.func 258) [] [.ptr 0 0]]
 io x:=.fix 320 [.ptr 1 0] :: (Ft x.n x.s 1++[.dyn 35 1 eB (λ_=>x.m :: x.r)])
 pre x:=x.r.length<=100000000/\(∀y∈x.m :: x.r,jY x.s.labels y)/\jU (bR x.s.labels) x.m x.r=x.b
 β:=Unit
 post _ _:=True
 mv:=[]
 res x _:=.sl 1 bC (λ_=>x.b)
 l7 x _:=.fix 320 [.ptr 1 0] :: (Ft x.n x.s 1++[.dyn 35 1 eB (λ_=>x.m :: x.r)])
noncomputable def apQ (n m:Nat):Ctx:=dM n m [(258,Tryz.f258)] [(259,IE)]
theorem aaj (n m:Nat):CB PP (apQ n m):=dP n m ⟨fo Tryz.func258,trivial⟩ ⟨L3,trivial⟩
theorem akD:nh PP 257 anY:=by
 refine sA (aaj 6 0) (fo Tryz.func257) (λa y=>rfl) (λa=>⟨rfl,rfl⟩) zA ?_
 rintro ⟨n,⟨LL,CC,FF⟩,m,r,b⟩ hx
 obtain ⟨hr,iY,wz⟩:r.length<=100000000/\(∀y∈m :: r,jY LL y)/\jU (bR LL) m r=b:=hx
 have h00:(m :: r)[(0:Int).toNat]?=some m:=rfl
 have oN:∀k,jY LL (jU (bR LL) m (r.take k)):=λk=>iY _ (by
  rcases cJ.1 (Hh (f:=bR LL) (r:=r.take k) (m:=m)) with h|h
  ·rw [h];simp
  ·exact pE _ (qk h))
 obtain ⟨Bf,Jv⟩:∃Bf:Nat->List Int,∀i,Bf i=jU (bR LL) m (r.take (i - 1)):=⟨_,λ_=>rfl⟩
 have so:Bf 1=m:=by rw [Jv];rfl
 have anZ:∀i,r.length<=i - 1->Bf i=b:=λi h=>by rw [Jv,iL h,wz]
 have cC:∀i x,1<=i->r[i - 1]?=some x->(bR LL x - bR LL (Bf i) < 0->x=Bf (i+1))/\(0<=bR LL x - bR LL (Bf i)->Bf i=Bf (i+1)):=λi x hi hk=>by
  have e:Bf (i+1)=jU (bR LL) m (r.take (i - 1)++[x]):=by
   rw [Jv,show i+1 - 1=(i - 1)+1 by omega,kf,hk,pF]
  rw [e,P0,<-Jv]
  exact ⟨λh=>by rw [if_pos h],λh=>by rw [if_neg (by omega)]⟩
 have apR:∀i,jY LL (Bf i):=λi=>by rw [Jv];exact oN _
 have TW:0<=(0:Int)/\(0:Int).toNat < (m :: r).length:=⟨iU _,Nat.zero_lt_succ _⟩
 refine ⟨?_⟩
 cbv
 refine ⟨λh=>?_,λ_=>?_⟩
 ·have h':(((m :: r).length:Nat):Int) < 1:=aL
  cases (show False by rw [ql] at h';omega)
 cbv
 refine ⟨⟨TW⟩,m,⟨h00,rfl⟩,?_⟩
 cbv
 refine Sat.cU (aaj 6 0) 6 5 [] (λi:Nat=>[(5,.sl 1 bC (λ_=>Bf i)),(6,.i .i64 (λ_=>(i:Int)))]) (λ_=>[]) (λi=>1<=i/\i<=r.length+1) (λi=>r.length+1 - i) 1 (by have jM:=so.symm;exact a8) (by exact aM) ⟨fb _,PC _ _⟩ ?_
 intro i hi
 obtain ⟨ei,hi⟩:1<=i/\i<=r.length+1:=hi
 obtain ⟨B,hB⟩:∃B,Bf i=B:=⟨_,rfl⟩
 have hBk:jY LL B:=hB ▸ apR i
 have h0:=n0 i
 have h1:=cX (i:=i) (by omega)
 cbv
 refine ⟨λh=>?_,λh=>?_⟩
 ·have bQ:i < (m :: r).length:=aL
  have uX:i < r.length+1:=bQ
  have ei:1<=i:=ei
  have bX:r.length+1 - (i+1) < r.length+1 - i:=by omega
  refine (bK bQ).elim λx hx=>?_
  have nt:r[i - 1]?=some x:=by rw [<-hx,show i=(i - 1)+1 by omega];rfl
  have acP:=iY x (cf hx)
  obtain ⟨e1,e2⟩:=cC i x ei nt
  rw [hB] at e1 e2
  have e:IntKind.i64.wrap (bR LL x - bR LL B)=bR LL x - bR LL B:=by have:=acP.le;have:=hBk.le;exact cW (by omega) (by omega)
  have kE:(m :: r)[(i:Int).toNat]?=some x:=hx
  have mF:0<=(i:Int)/\(i:Int).toNat < (m :: r).length:=⟨h0,bQ⟩
  have gx:(1<=i+1/\i+1<=r.length+1)/\r.length+1 - (i+1) < r.length+1 - i:=⟨⟨PC _ _,by omega⟩,bX⟩
  cbv
  refine ⟨⟨mF⟩,x,⟨kE,rfl⟩,?_⟩
  cbv
  refine ⟨⟨n,⟨LL,CC,FF⟩,x⟩,⟨.inl ⟨by exact bp,rfl⟩,acP⟩,?_⟩
  cbv
  refine ⟨⟨n,⟨LL,CC,FF⟩,B⟩,⟨.inl ⟨by have jM:=hB;exact cd,rfl⟩,hBk⟩,?_⟩
  cbv
  refine ⟨λh=>?_,λh=>?_⟩
  ·have aO:IntKind.i64.wrap (bR LL x - bR LL B) < 0:=aL
   have e:=e1 (e ▸ aO)
   cbv
   refine ⟨⟨mF⟩,x,⟨kE,rfl⟩,?_⟩
   cbv
   exact ⟨i+1,by have jM:=e;have bD:=h1;exact a8,by exact aM,⟨gx⟩⟩
  ·have cz:0<=IntKind.i64.wrap (bR LL x - bR LL B):=aL
   have e:=hB.trans (e2 (e ▸ cz))
   cbv
   exact ⟨i+1,by have jM:=e;have bD:=h1;exact a8,by exact aM,⟨gx⟩⟩
 ·have cz:(m :: r).length<=i:=aL
  have cz:r.length<=i - 1:=Nat.le_sub_of_add_le cz
  have hr:=anZ i cz
  cbv
  exact ⟨(),[],[],by have jM:=hr;exact a8,by exact aM,⟨trivial⟩⟩
end Go.Proofs.Pk
