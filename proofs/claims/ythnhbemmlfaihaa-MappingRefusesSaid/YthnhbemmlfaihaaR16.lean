import Derived.Test.YthnhbemmlfaihaaR13
import Derived.Test.YthnhbemmlfaihaaR15
set_option linter.unusedVariables false
set_option linter.unusedSimpArgs false
set_option maxRecDepth 10000
set_option maxHeartbeats 64000000
namespace Go.Proofs.Pk
open Go Go.Vc
def ajh (n:Net) (k:Nat):List SV:=[.sl 3 jZ (λ_=>n.ins),.sl 5 mM (λ_=>n.cg),.sl 3 jZ (λ_=>n.outs),.sl 1 bK (λ_=>n.bf),.own (k+1),.own (k+2),.own (k+3)]
def CH (n:Net) (s:dV) (k:Nat):List Slot:=[.fix 91 (ajh n k),.dyn 3 1 bK (λ_=>s.labels),.dyn 39 1 zT (λ_=>s.gv),.dyn 32 1 fP (λ_=>s.leaves)]
structure aji where
 n:Net
 s:dV
 m:List Int
 r:List (List Int)
 b:List Int
@[reducible] noncomputable def ahQ:oj where
 α:=aji
 args x:=[.own 5,.fn (.func 47) [] [.ptr 0 0]]
 io x:=.fix 86 [.ptr 1 0] :: (CH x.n x.s 1++[.dyn 32 1 fP (λ_=>x.m :: x.r)])
 pre x:=x.r.length<=100000000/\(∀y∈x.m :: x.r,kN x.s.labels y)/\iQ (cd x.s.labels) x.m x.r=x.b
 β:=Unit
 post _ _:=True
 mv:=[]
 res x _:=.sl 1 bK (λ_=>x.b)
 lz x _:=.fix 86 [.ptr 1 0] :: (CH x.n x.s 1++[.dyn 32 1 fP (λ_=>x.m :: x.r)])
noncomputable def ajj (n m:Nat):Ctx:=cT n m [(47,Try.f47)] [(48,FD)]
theorem VR (n m:Nat):CB PP (ajj n m):=cW n m ⟨fo Try.func47,trivial⟩ ⟨IG,trivial⟩
theorem afe:ma PP 46 ahQ:=by
 refine rp (VR 6 0) (fo Try.func46) (λa y=>rfl) (λa=>⟨rfl,rfl⟩) xI ?_
 rintro ⟨n,⟨LL,CC,FF⟩,m,r,b⟩ hx
 obtain ⟨hr,jf,hbb⟩:r.length<=100000000/\(∀y∈m :: r,kN LL y)/\iQ (cd LL) m r=b:=hx
 have h00:(m :: r)[(0:Int).toNat]?=some m:=rfl
 have pJ:∀k,kN LL (iQ (cd LL) m (r.take k)):=λk=>jf _ (by
  rcases cx.1 (Ek (f:=cd LL) (r:=r.take k) (m:=m)) with h|h
  ·rw [h];simp
  ·exact rR _ (vQ h))
 obtain ⟨Bf,Gj⟩:∃Bf:Nat->List Int,∀i,Bf i=iQ (cd LL) m (r.take (i - 1)):=⟨_,λ_=>rfl⟩
 have FT:Bf 1=m:=by rw [Gj];rfl
 have ahR:∀i,r.length<=i - 1->Bf i=b:=λi h=>by rw [Gj,jt h,hbb]
 have db:∀i x,1<=i->r[i - 1]?=some x->(cd LL x - cd LL (Bf i) < 0->x=Bf (i+1))/\(0<=cd LL x - cd LL (Bf i)->Bf i=Bf (i+1)):=λi x hi hk=>by
  have e:Bf (i+1)=iQ (cd LL) m (r.take (i - 1)++[x]):=by
   rw [Gj,show i+1 - 1=(i - 1)+1 by omega,ju,hk,nX]
  rw [e,Mu,<-Gj]
  exact ⟨λh=>by rw [if_pos h],λh=>by rw [if_neg (by omega)]⟩
 have ajk:∀i,kN LL (Bf i):=λi=>by rw [Gj];exact pJ _
 have PO:0<=(0:Int)/\(0:Int).toNat < (m :: r).length:=⟨n7 _,Nat.zero_lt_succ _⟩
 refine ⟨?_⟩
 cbv
 refine ⟨λh=>?_,λ_=>?_⟩
 ·have h':(((m :: r).length:Nat):Int) < 1:=aJ
  cases (show False by rw [oN] at h';omega)
 cbv
 refine ⟨⟨PO⟩,m,⟨h00,rfl⟩,?_⟩
 cbv
 refine Sat.eI (VR 6 0) 6 5 [] (λi:Nat=>[(5,.sl 1 bK (λ_=>Bf i)),(6,.i .i64 (λ_=>(i:Int)))]) (λ_=>[]) (λi=>1<=i/\i<=r.length+1) (λi=>r.length+1 - i) 1 (by have gM:=FT.symm;exact bp) (by exact aX) ⟨fT _,L8 _ _⟩ ?_
 intro i hi
 obtain ⟨gH,hi⟩:1<=i/\i<=r.length+1:=hi
 obtain ⟨B,hB⟩:∃B,Bf i=B:=⟨_,rfl⟩
 have ZZ:kN LL B:=hB ▸ ajk i
 have h0:=n0 i
 have h1:=eU (i:=i) (by omega)
 cbv
 refine ⟨λh=>?_,λh=>?_⟩
 ·have bU:i < (m :: r).length:=aJ
  have yQ:i < r.length+1:=bU
  have gH:1<=i:=gH
  have cD:r.length+1 - (i+1) < r.length+1 - i:=by omega
  refine (cy bU).elim λx hx=>?_
  have jy:r[i - 1]?=some x:=by rw [<-hx,show i=(i - 1)+1 by omega];rfl
  have X0:=jf x (cN hx)
  obtain ⟨e1,e2⟩:=db i x gH jy
  rw [hB] at e1 e2
  have e:IntKind.i64.wrap (cd LL x - cd LL B)=cd LL x - cd LL B:=by have:=X0.le;have:=ZZ.le;exact eP (by omega) (by omega)
  have j5:(m :: r)[(i:Int).toNat]?=some x:=hx
  have ly:0<=(i:Int)/\(i:Int).toNat < (m :: r).length:=⟨h0,bU⟩
  have gn:(1<=i+1/\i+1<=r.length+1)/\r.length+1 - (i+1) < r.length+1 - i:=⟨⟨L8 _ _,by omega⟩,cD⟩
  cbv
  refine ⟨⟨ly⟩,x,⟨j5,rfl⟩,?_⟩
  cbv
  refine ⟨⟨n,⟨LL,CC,FF⟩,x⟩,⟨.inl ⟨by exact aY,rfl⟩,X0⟩,?_⟩
  cbv
  refine ⟨⟨n,⟨LL,CC,FF⟩,B⟩,⟨.inl ⟨by have gM:=hB;exact bN,rfl⟩,ZZ⟩,?_⟩
  cbv
  refine ⟨λh=>?_,λh=>?_⟩
  ·have aP:IntKind.i64.wrap (cd LL x - cd LL B) < 0:=aJ
   have e:=e1 (e ▸ aP)
   cbv
   refine ⟨⟨ly⟩,x,⟨j5,rfl⟩,?_⟩
   cbv
   exact ⟨i+1,by have gM:=e;have bI:=h1;exact bp,by exact aX,⟨gn⟩⟩
  ·have cf:0<=IntKind.i64.wrap (cd LL x - cd LL B):=aJ
   have e:=hB.trans (e2 (e ▸ cf))
   cbv
   exact ⟨i+1,by have gM:=e;have bI:=h1;exact bp,by exact aX,⟨gn⟩⟩
 ·have cf:(m :: r).length<=i:=aJ
  have cf:r.length<=i - 1:=Nat.le_sub_of_add_le cf
  have hr:=ahR i cf
  cbv
  exact ⟨(),[],[],by have gM:=hr;exact bp,by exact aX,⟨trivial⟩⟩
end Go.Proofs.Pk
