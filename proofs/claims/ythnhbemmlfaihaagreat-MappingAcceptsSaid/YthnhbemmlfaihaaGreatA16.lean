import Derived.Test.YthnhbemmlfaihaaGreatA13
import Derived.Test.YthnhbemmlfaihaaGreatA15
set_option linter.unusedVariables false
set_option linter.unusedSimpArgs false
set_option maxRecDepth 10000
set_option maxHeartbeats 64000000
namespace Go.Proofs.Pk
open Go Go.Vc
def aiL (n:Net) (k:Nat):List SV:=[.sl 3 jT (λ_=>n.ins),.sl 5 lY (λ_=>n.cq),.sl 3 jT (λ_=>n.outs),.sl 1 bJ (λ_=>n.bA),.own (k+1),.own (k+2),.own (k+3)]
def Cn (n:Net) (s:dW) (k:Nat):List Slot:=[.fix 324 (aiL n k),.dyn 3 1 bJ (λ_=>s.labels),.dyn 36 1 zt (λ_=>s.gv),.dyn 35 1 fT (λ_=>s.leaves)]
structure aiM where
 n:Net
 s:dW
 m:List Int
 r:List (List Int)
 b:List Int
@[reducible] noncomputable def aho:nU where
 α:=aiM
 args x:=[.own 5,.fn (.func 258) [] [.ptr 0 0]]
 io x:=.fix 320 [.ptr 1 0] :: (Cn x.n x.s 1++[.dyn 35 1 fT (λ_=>x.m :: x.r)])
 pre x:=x.r.length<=100000000/\(∀y∈x.m :: x.r,jZ x.s.labels y)/\iO (bW x.s.labels) x.m x.r=x.b
 β:=Unit
 post _ _:=True
 mv:=[]
 res x _:=.sl 1 bJ (λ_=>x.b)
 ld x _:=.fix 320 [.ptr 1 0] :: (Cn x.n x.s 1++[.dyn 35 1 fT (λ_=>x.m :: x.r)])
noncomputable def aiN (n m:Nat):Ctx:=cW n m [(258,Tryz.f258)] [(259,Ff)]
theorem Vv (n m:Nat):CB PP (aiN n m):=cZ n m ⟨fo Tryz.func258,trivial⟩ ⟨Ir,trivial⟩
theorem aeP:l5 PP 257 aho:=by
 refine qZ (Vv 6 0) (fo Tryz.func257) (λa y=>rfl) (λa=>⟨rfl,rfl⟩) xe ?_
 rintro ⟨n,⟨LL,CC,FF⟩,m,r,b⟩ hx
 obtain ⟨hr,iw,hbb⟩:r.length<=100000000/\(∀y∈m :: r,jZ LL y)/\iO (bW LL) m r=b:=hx
 have PD:(m :: r)[(0:Int).toNat]?=some m:=rfl
 have oy:∀k,jZ LL (iO (bW LL) m (r.take k)):=λk=>iw _ (by
  rcases cv.1 (DR (f:=bW LL) (r:=r.take k) (m:=m)) with h|h
  ·rw [h];simp
  ·exact qE _ (ug h))
 obtain ⟨Bf,FY⟩:∃Bf:Nat->List Int,∀i,Bf i=iO (bW LL) m (r.take (i - 1)):=⟨_,λ_=>rfl⟩
 have Ac:Bf 1=m:=by rw [FY];rfl
 have Nv:∀i,r.length<=i - 1->Bf i=b:=λi h=>by rw [FY,iM h,hbb]
 have cP:∀i x,1<=i->r[i - 1]?=some x->(bW LL x - bW LL (Bf i) < 0->x=Bf (i+1))/\(0<=bW LL x - bW LL (Bf i)->Bf i=Bf (i+1)):=λi x hi hk=>by
  have e:Bf (i+1)=iO (bW LL) m (r.take (i - 1)++[x]):=by
   rw [FY,show i+1 - 1=(i - 1)+1 by omega,iT,hk,mW]
  rw [e,L8,<-FY]
  exact ⟨λh=>by rw [if_pos h],λh=>by rw [if_neg (by omega)]⟩
 have Of:∀i,jZ LL (Bf i):=λi=>by rw [FY];exact oy _
 have Pr:0<=(0:Int)/\(0:Int).toNat < (m :: r).length:=⟨kS _,Nat.zero_lt_succ _⟩
 refine ⟨?_⟩
 cbv
 refine ⟨λh=>?_,λ_=>?_⟩
 ·have h':(((m :: r).length:Nat):Int) < 1:=aG
  cases (show False by rw [mY] at h';omega)
 cbv
 refine ⟨⟨Pr⟩,m,⟨PD,rfl⟩,?_⟩
 cbv
 refine Sat.dP (Vv 6 0) 6 5 [] (λi:Nat=>[(5,.sl 1 bJ (λ_=>Bf i)),(6,.i .i64 (λ_=>(i:Int)))]) (λ_=>[]) (λi=>1<=i/\i<=r.length+1) (λi=>r.length+1 - i) 1 (by have iJ:=Ac.symm;exact bq) (by exact aW) ⟨fN _,DH _ _⟩ ?_
 intro i hi
 obtain ⟨eW,hi⟩:1<=i/\i<=r.length+1:=hi
 obtain ⟨B,hB⟩:∃B,Bf i=B:=⟨_,rfl⟩
 have ZC:jZ LL B:=hB ▸ Of i
 have h0:=n0 i
 have h1:=eh (i:=i) (by omega)
 cbv
 refine ⟨λh=>?_,λh=>?_⟩
 ·have bO:i < (m :: r).length:=aG
  have wE:i < r.length+1:=bO
  have eW:1<=i:=eW
  have cf:r.length+1 - (i+1) < r.length+1 - i:=by omega
  refine (cg bO).elim λx hx=>?_
  have jD:r[i - 1]?=some x:=by rw [<-hx,show i=(i - 1)+1 by omega];rfl
  have Jn:=iw x (cM hx)
  obtain ⟨e1,e2⟩:=cP i x eW jD
  rw [hB] at e1 e2
  have e:IntKind.i64.wrap (bW LL x - bW LL B)=bW LL x - bW LL B:=by have:=Jn.le;have:=ZC.le;exact dV (by omega) (by omega)
  have jd:(m :: r)[(i:Int).toNat]?=some x:=hx
  have k9:0<=(i:Int)/\(i:Int).toNat < (m :: r).length:=⟨h0,bO⟩
  have fv:(1<=i+1/\i+1<=r.length+1)/\r.length+1 - (i+1) < r.length+1 - i:=⟨⟨DH _ _,by omega⟩,cf⟩
  cbv
  refine ⟨⟨k9⟩,x,⟨jd,rfl⟩,?_⟩
  cbv
  refine ⟨⟨n,⟨LL,CC,FF⟩,x⟩,⟨.inl ⟨by exact a8,rfl⟩,Jn⟩,?_⟩
  cbv
  refine ⟨⟨n,⟨LL,CC,FF⟩,B⟩,⟨.inl ⟨by have iJ:=hB;exact bM,rfl⟩,ZC⟩,?_⟩
  cbv
  refine ⟨λh=>?_,λh=>?_⟩
  ·have aP:IntKind.i64.wrap (bW LL x - bW LL B) < 0:=aG
   have e:=e1 (e ▸ aP)
   cbv
   refine ⟨⟨k9⟩,x,⟨jd,rfl⟩,?_⟩
   cbv
   exact ⟨i+1,by have iJ:=e;have bK:=h1;exact bq,by exact aW,⟨fv⟩⟩
  ·have bV:0<=IntKind.i64.wrap (bW LL x - bW LL B):=aG
   have e:=hB.trans (e2 (e ▸ bV))
   cbv
   exact ⟨i+1,by have iJ:=e;have bK:=h1;exact bq,by exact aW,⟨fv⟩⟩
 ·have bV:(m :: r).length<=i:=aG
  have bV:r.length<=i - 1:=Nat.le_sub_of_add_le bV
  have hr:=Nv i bV
  cbv
  exact ⟨(),[],[],by have iJ:=hr;exact bq,by exact aW,⟨trivial⟩⟩
end Go.Proofs.Pk
