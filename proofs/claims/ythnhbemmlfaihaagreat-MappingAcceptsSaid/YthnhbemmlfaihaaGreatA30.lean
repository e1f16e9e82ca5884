import Derived.Test.YthnhbemmlfaihaaGreatA13
import Derived.Test.YthnhbemmlfaihaaGreatA26
set_option linter.unusedVariables false
set_option linter.unusedSimpArgs false
set_option maxRecDepth 10000
set_option maxHeartbeats 64000000
namespace Go.Proofs.Pk
open Go Go.Vc
def qS (a b:Int):Int:=if a < b then -1 else if b < a then 1 else 0
def oO (f:Int->Int):Int->List Int->Int
 | m,[]=>m
 | m,x :: r=>oO f (if f m < f x then x else m) r
theorem Ub {f:Int->Int} {x:Int}:∀{r:List Int} {m:Int},oO f m (r++[x])=if f (oO f m r) < f x then x else oO f m r
 | [],m=>rfl
 | y :: r,m=>by
  show oO f (if f m < f y then y else m) (r++[x])=_
  rw [Ub];rfl
theorem Uc {f:Int->Int}:∀{r:List Int} {m:Int},f (oO f m r)=r.foldl (λa v=>max a (f v)) (f m)
 | [],m=>rfl
 | y :: r,m=>by
  show f (oO f (if f m < f y then y else m) r)=_
  rw [Uc (f:=f),lu]
  congr 1
  split<;>omega
theorem My {f:Int->Int}:∀{r:List Int} {m:Int},oO f m r∈m :: r
 | [],m=>by simp [oO]
 | y :: r,m=>by
  show oO f (if f m < f y then y else m) r∈_
  have:=My (f:=f) (r:=r) (m:=if f m < f y then y else m)
  rcases cv.1 this with h|h
  ·rw [h];split<;>simp
  ·simp [h]
abbrev fX (D:List Int) (v:Int):Int:=D.getD v.toNat 0
theorem ab2 {D:List Int} (hD:∀y∈D,0<=y) {m:Int} {r:List Int}:fX D (oO (fX D) m r)=bW D (m :: r):=by
 rw [Uc (f:=fX D)]
 unfold bW
 rw [lu]
 congr 1
 have:0<=fX D m:=by
  unfold fX
  rw [List.getD_eq_getElem?_getD]
  cases h:D[m.toNat]? with
  | none=>exact kS 0
  | some y=>exact hD y (cM h)
 show fX D m=max 0 (fX D m)
 omega
structure aj3 where
 a:Int
 b:Int
 D:List Int
@[reducible] noncomputable def WZ:Vc.Spec where
 α:=aj3
 args x:=[.i .i64 (λ_=>x.a),.i .i64 (λ_=>x.b),.db [.sl 1 bJ (λ_=>x.D)] 0]
 pre x:=(0<=x.a/\x.a.toNat < x.D.length)/\0<=x.b/\x.b.toNat < x.D.length
 res x:=.i .i64 (λ_=>qS (fX x.D x.a) (fX x.D x.b))
noncomputable def aj4 (n m:Nat):Ctx:=cW n m [(130,Tryz.f130),(189,Tryz.f189)] []
theorem agw (n m:Nat):CB PP (aj4 n m):=cZ n m ⟨fo Tryz.func130,fo Tryz.func189,trivial⟩ trivial
theorem aff:cY (PP ()) 129 WZ:=by
 refine e6 (agw 0 0) (fo Tryz.func129) (λa=>⟨trivial,trivial,⟨λx=>(dq x).1,trivial⟩,trivial⟩) (λa=>trivial) ?_
 rintro ⟨a,b,D⟩ hx
 obtain ⟨⟨x4,yg⟩,Ac,ov⟩:(0<=a/\a.toNat < D.length)/\0<=b/\b.toNat < D.length:=hx
 obtain ⟨u,hu⟩:=cg yg
 obtain ⟨w,hw⟩:=cg ov
 have eu:fX D a=u:=by unfold fX;rw [List.getD_eq_getElem?_getD,hu];rfl
 have ew:fX D b=w:=by unfold fX;rw [List.getD_eq_getElem?_getD,hw];rfl
 have h1:u < w->-1=qS (fX D a) (fX D b):=λh=>by rw [eu,ew];unfold qS;rw [if_pos h]
 have h2:¬u < w->w < u->1=qS (fX D a) (fX D b):=λh h'=>by rw [eu,ew];unfold qS;rw [if_neg h,if_pos h']
 have h3:¬u < w->¬w < u->0=qS (fX D a) (fX D b):=λh h'=>by rw [eu,ew];unfold qS;rw [if_neg h,if_neg h']
 refine ⟨?_⟩
 cbv
 refine ⟨u,⟨x4,hu⟩,?_⟩
 cbv
 refine ⟨w,⟨Ac,hw⟩,?_⟩
 cbv
 refine ⟨λh=>?_,λh=>?_⟩
 ·have h':¬u=u:=aG
  cases (show False from h' rfl)
 clear h
 cbv
 refine ⟨λh=>?_,λh=>?_⟩
 ·have h':¬w=w:=aG
  cases (show False from h' rfl)
 clear h
 cbv
 refine ⟨λh=>?_,λh=>?_⟩
 ·have hl:u < w:=aG
  have e:=h1 hl
  cbv
  exact ⟨by have fW:=e;exact bM⟩
 have hl:¬u < w:=aG
 have h2:=h2 hl
 have h3:=h3 hl
 clear h
 cbv
 refine ⟨λh=>?_,λh=>?_⟩
 ·have hg:w < u:=aG
  have e:=h2 hg
  cbv
  exact ⟨by have fW:=e;exact bM⟩
 have hg:¬w < u:=aG
 have e:=h3 hg
 cbv
 exact ⟨by have fW:=e;exact bM⟩
structure aj5 where
 m:Int
 r:List Int
 D:List Int
@[reducible] noncomputable def W0:Vc.Spec where
 α:=aj5
 args x:=[.sl 1 bJ (λ_=>x.m :: x.r),.fn (.func 129) [] [.db [.sl 1 bJ (λ_=>x.D)] 0]]
 pre x:=x.r.length<=1000000/\∀y∈x.m :: x.r,0<=y/\y.toNat < x.D.length
 res x:=.i .i64 (λ_=>oO (fX x.D) x.m x.r)
noncomputable def aj6 (n m:Nat):Ctx:=cW n m [] [(129,WZ)]
theorem V0 (n m:Nat):CB PP (aj6 n m):=cZ n m trivial ⟨aff,trivial⟩
theorem afg:cY (PP ()) 128 W0:=by
 refine e6 (V0 0 0) (fo Tryz.func128) (λa=>⟨λx=>(dq x).1,⟨trivial,⟨λx=>(dq x).1,trivial⟩,trivial⟩,trivial⟩) (λa=>trivial) ?_
 rintro ⟨m,r,D⟩ hx
 obtain ⟨hr,iw⟩:r.length<=1000000/\∀y∈m :: r,0<=y/\y.toNat < D.length:=hx
 have PD:(m :: r)[(0:Int).toNat]?=some m:=rfl
 have hL:(((m :: r).length:Nat):Int)=(r.length:Int)+1:=by rw [mY];rfl
 obtain ⟨F,hF⟩:∃F:Nat->Int,∀k,F k=oO (fX D) m (r.take k):=⟨_,λ_=>rfl⟩
 have oy:∀k,0<=F k/\(F k).toNat < D.length:=λk=>by
  rw [hF]
  refine iw _ ?_
  rcases cv.1 (My (f:=fX D) (r:=r.take k) (m:=m)) with h|h
  ·rw [h];simp
  ·exact qE _ (ug h)
 have Ac:m=F (1 - 1):=by rw [hF];rfl
 have Nv:∀k,r.length<=k->F k=oO (fX D) m r:=λk h=>by rw [hF,iM h]
 have cP:∀k x,r[k]?=some x->(0 < qS (fX D x) (fX D (F k))->x=F (k+1))/\(qS (fX D x) (fX D (F k))<=0->F k=F (k+1)):=λk x hk=>by
  have e:F (k+1)=if fX D (F k) < fX D x then x else F k:=by
   rw [hF,hF,iT,hk,mW,Ub]
  rw [e]
  unfold qS
  constructor
  ·intro h
   split at h
   ·omega
   ·split at h
    ·rename_i h2;rw [if_pos h2]
    ·omega
  ·intro h
   split at h
   ·rw [if_neg (by omega)]
   ·split at h
    ·omega
    ·rename_i h2;rw [if_neg h2]
 refine ⟨?_⟩
 cbv
 refine ⟨λh=>?_,λ_=>?_⟩
 ·have h':(((m :: r).length:Nat):Int) < 1:=aG
  cases (show False by exact sC)
 cbv
 refine ⟨m,⟨kS 0,PD⟩,?_⟩
 refine Sat.dP (V0 0 0) 0 5 [] (λi:Nat=>[(5,.i .i64 (λ_=>F (i - 1))),(6,.i .i64 (λ_=>(i:Int)))]) (λ_=>[]) (λi=>1<=i/\i<=r.length+1) (λi=>r.length+1 - i) 1 (by have bK:=Ac;exact bq) (by exact aW) ⟨fN _,DH _ _⟩ ?_
 intro i hi
 obtain ⟨eW,hi⟩:1<=i/\i<=r.length+1:=hi
 obtain ⟨B,hB⟩:∃B,F (i - 1)=B:=⟨_,rfl⟩
 have Of:0<=B/\B.toNat < D.length:=hB ▸ oy _
 have h0:=n0 i
 have h1:=eh (i:=i) (by omega)
 cbv
 refine ⟨λh=>?_,λh=>?_⟩
 ·have bO:i < (m :: r).length:=aG
  have wE:i < r.length+1:=bO
  have eW:1<=i:=eW
  have cf:r.length+1 - (i+1) < r.length+1 - i:=by omega
  refine (cg bO).elim λx hx=>?_
  have jD:r[i - 1]?=some x:=by rw [<-hx,show i=(i - 1)+1 by omega];rfl
  have Jn:=iw x (cM hx)
  obtain ⟨e1,e2⟩:=cP (i - 1) x jD
  have e3:i - 1+1=i+1 - 1:=by omega
  rw [hB,e3] at e1 e2
  have jd:(m :: r)[(i:Int).toNat]?=some x:=hx
  have fv:(1<=i+1/\i+1<=r.length+1)/\r.length+1 - (i+1) < r.length+1 - i:=⟨⟨DH _ _,by omega⟩,cf⟩
  refine (⟨_,rfl⟩:∃c,qS (fX D x) (fX D B)=c).elim λc hc=>?_
  rw [hc] at e1 e2
  clear h
  cbv
  refine ⟨x,⟨h0,jd⟩,?_⟩
  cbv
  refine ⟨⟨x,B,D⟩,⟨.inl ⟨by have bK:=hB;exact bM,rfl⟩,Jn,Of⟩,?_⟩
  cbv
  refine ⟨λh=>?_,λh=>?_⟩
  ·have aP:0 < qS (fX D x) (fX D B):=aG
   rw [hc] at aP
   have e:=e1 aP
   cbv
   refine ⟨x,⟨h0,jd⟩,?_⟩
   cbv
   exact ⟨i+1,by have bK:=e;have js:=h1;exact bq,by exact aW,⟨fv⟩⟩
  ·have bV:qS (fX D x) (fX D B)<=0:=aG
   rw [hc] at bV
   have e:=hB.trans (e2 bV)
   cbv
   exact ⟨i+1,by have bK:=e;have js:=h1;exact bq,by exact aW,⟨fv⟩⟩
 ·have bV:(m :: r).length<=i:=aG
  have bV:r.length<=i - 1:=Nat.le_sub_of_add_le bV
  have hr:=Nv (i - 1) bV
  cbv
  exact ⟨by have bK:=hr;exact bM⟩
end Go.Proofs.Pk
