import Derived.Test.YthnhbemmlfaihaaGreatO13
import Derived.Test.YthnhbemmlfaihaaGreatO15
import Derived.Test.YthnhbemmlfaihaaGreatO20
import Derived.Test.YthnhbemmlfaihaaGreatO30
import Derived.Test.YthnhbemmlfaihaaGreatO31
set_option linter.unusedVariables false
set_option linter.unusedSimpArgs false
set_option maxRecDepth 10000
set_option maxHeartbeats 64000000
namespace Go.Proofs.Pk
open Go Go.Vc
structure aqy (A:Type) where
 a:List A
 b:List A
open Classical in
noncomputable def kR {A:Type} (a b:List A):Bool:=decide (a=b)
theorem Aa {A:Type} {a b:List A}:kR a b=true↔a=b:=by simp [kR]
theorem aaB {A:Type} {a b:List A} (h:a≠b):kR a b=false:=by simp [kR,h]
theorem ami {A:Type} {a b:List A} {i:Nat} {x y:A} (hx:a[i]?=some x) (hy:b[i]?=some y) (h:x≠y):kR a b=false:=aaB λe=>by
 rw [e,hy] at hx;exact h (wO hx).symm
theorem akU {A:Type} {a b:List A} (hl:a.length=b.length) (h:∀(i:Nat) (x y:A),a[i]?=some x->b[i]?=some y->x=y):kR a b=true:=Aa.2 (by
 apply PA hl
 intro i h1 h2
 exact h i _ _ (ea h1) (ea h2))
theorem YN:∀{a b:List Int},a.length=b.length->rh a b=false->rh b a=false->a=b
 | [],[],_,_,_=>rfl
 | [],_ :: _,h,_,_=>by simp at h
 | _ :: _,[],h,_,_=>by simp at h
 | x :: a,y :: b,h,h1,h2=>by
  unfold rh at h1 h2
  by_cases e:x=y
  ·subst e
   simp at h1 h2
   rw [YN (by simpa using h) h1 h2]
  ·rw [if_pos e] at h1
   rw [if_pos λq=>e q.symm] at h2
   simp only [decide_eq_false_iff_not] at h1 h2
   omega
theorem XH:∀a:List Int,rh a a=false
 | []=>rfl
 | x :: a=>by unfold rh;simp [XH a]
theorem air {a b:List Int} (h:a.length=b.length) (h1:km a b=false) (h2:km b a=false):a=b:=by
 unfold km at h1 h2
 rw [if_neg (by simp [h])] at h1 h2
 exact YN h h1 h2
theorem WI (a:List Int):km a a=false:=by
 unfold km
 rw [if_neg (by simp)]
 exact XH a
structure RT (A:Type) where
 a:A
 b:A
 e:Bool
@[reducible] noncomputable def Fx:Vc.Spec where
 α:=aqy Int
 args x:=[.sl 1 bC (λ_=>x.a),.sl 1 bC (λ_=>x.b)]
 pre x:=x.a.length<=1000000000000/\x.b.length<=1000000000000
 res x:=.b (λ_=>kR x.a x.b)
noncomputable def aqz (n m:Nat):Ctx:=dM n m [] []
theorem aaC (n m:Nat):CB PP (aqz n m):=dP n m trivial trivial
theorem Rm:dt (PP ()) 108 Fx:=by
 refine e6 (aaC 0 0) (fo Tryz.func108) (λa=>⟨(λx=>(cP x).1),(λx=>(cP x).1),trivial⟩) (λa=>trivial) ?_
 rintro ⟨a,b⟩ hx
 obtain ⟨ha,hb⟩:a.length<=1000000000000/\b.length<=1000000000000:=hx
 have dx:¬(a.length:Int)=b.length->false=kR a b:=λh=>(aaB λe=>h (by rw [e])).symm
 have lH:(a.length:Int)=b.length->a.length=b.length:=λh=>by omega
 refine ⟨?_⟩
 cbv
 refine ⟨λh=>?_,λh=>?_⟩
 ·have gI:¬(a.length:Int)=b.length:=aL
  have e:=dx gI
  cbv
  exact ⟨by have fH:=e;exact cd⟩
 have gI:(a.length:Int)=b.length:=aL
 have gI:=lH gI
 clear h
 cbv
 refine Sat.cU (aaC 0 0) 0 5 [] (λi:Nat=>[(5,.i .i64 λ_=>(i:Int))]) (λ_=>[]) (λi=>i<=a.length/\∀(j:Nat) (x y:Int),j < i->a[j]?=some x->b[j]?=some y->x=y) (λi=>a.length - i) 0 (by exact aM) (by exact aM) ⟨cg _,λj x y h=>absurd h (qn _)⟩ ?_
 intro i hi
 obtain ⟨hi,he⟩:i<=a.length/\∀(j:Nat) (x y:Int),j < i->a[j]?=some x->b[j]?=some y->x=y:=hi
 have h0:=n0 i
 have h1:=cX (i:=i) (by omega)
 have Ga:i < a.length->i < b.length:=λh=>by omega
 cbv
 refine ⟨λh=>?_,λh=>?_⟩
 ·have aO:i < a.length:=aL
  have bX:a.length - (i+1) < a.length - i:=by omega
  have IM:=Ga aO
  refine (bK aO).elim λx hx=>?_
  refine (bK IM).elim λy hy=>?_
  clear h
  cbv
  refine ⟨x,⟨h0,hx⟩,?_⟩
  cbv
  refine ⟨y,⟨h0,hy⟩,?_⟩
  cbv
  refine ⟨λh=>?_,λh=>?_⟩
  ·have bO:¬x=y:=aL
   have e:=(ami hx hy bO).symm
   cbv
   exact ⟨by have fH:=e;exact cd⟩
  ·have heq:x=y:=aL
   have bV:i+1<=a.length/\∀(j:Nat) (x y:Int),j < i+1->a[j]?=some x->b[j]?=some y->x=y:=⟨aO,λj u v hj hu hv=>by
    by_cases l8:j=i
    ·subst l8;rw [hx] at hu;rw [hy] at hv;cases hu;cases hv;exact heq
    ·exact he j u v (by omega) hu hv⟩
   cbv
   exact ⟨i+1,by have bD:=h1;exact a8,by exact aM,⟨⟨bV,bX⟩⟩⟩
 ·have cz:a.length<=i:=aL
  have e:true=kR a b:=(akU gI λj x y hx hy=>he j x y (by have:=(a7.1 hx).1;omega) hx hy).symm
  cbv
  exact ⟨by have fH:=e;exact cd⟩
noncomputable def aqA (n m:Nat):Ctx:=dM n m [] [(108,Fx)]
theorem amj (n m:Nat):CB PP (aqA n m):=dP n m trivial ⟨Rm,trivial⟩
theorem amk:dt (PP ()) 38 Fx:=by
 refine e6 (amj 0 0) (fo Tryz.func38) (λa=>⟨(λx=>(cP x).1),(λx=>(cP x).1),trivial⟩) (λa=>trivial) ?_
 rintro ⟨a,b⟩ hx
 obtain ⟨ha,hb⟩:a.length<=1000000000000/\b.length<=1000000000000:=hx
 refine ⟨?_⟩
 cbv
 refine ⟨⟨a,b⟩,⟨by exact bp,ha,hb⟩,?_⟩
 cbv
 exact ⟨by exact bp⟩
structure SY (a b:List (List Int)) (e:Bool):Prop where
 la:a.length<=1000000/\∀l∈a,l.length<=1000000
 lb:b.length<=1000000/\∀l∈b,l.length<=1000000
 eq:e=true↔a=b
@[reducible] noncomputable def ac5:Vc.Spec where
 α:=RT (List (List Int))
 args x:=[.sl 1 eB (λ_=>x.a),.sl 1 eB (λ_=>x.b)]
 pre x:=SY x.a x.b x.e
 res x:=.b (λ_=>x.e)
noncomputable def aqB (n m:Nat):Ctx:=dM n m [] [(183,LX)]
theorem aaD (n m:Nat):CB PP (aqB n m):=dP n m trivial ⟨Qp,trivial⟩
theorem aml:dt (PP ()) 109 ac5:=by
 refine e6 (aaD 0 0) (fo Tryz.func109) (λa=>⟨(λx=>(mT x).1),(λx=>(mT x).1),trivial⟩) (λa=>trivial) ?_
 rintro ⟨a,b,e⟩ hx
 obtain ⟨⟨ha,tC⟩,⟨hb,nD⟩,he⟩:SY a b e:=hx
 have dx:¬a=b->false=e:=λh=>by cases e with
  | false=>rfl
  | true=>exact absurd (he.1 rfl) h
 have AW:a=b->true=e:=λh=>(he.2 h).symm
 have v8:¬(a.length:Int)=b.length->false=e:=λh=>dx λe=>h (by rw [e])
 have lH:(a.length:Int)=b.length->a.length=b.length:=λh=>by omega
 have bO:∀(i:Nat) (x y:List Int),a[i]?=some x->b[i]?=some y->¬x=y->false=e:=λi x y hx hy h=>dx λq=>h (by rw [q,hy] at hx;exact (wO hx).symm)
 have nX:∀x y:List Int,¬(x.length:Int)=y.length->¬x=y:=λx y h e=>h (by rw [e])
 have eG:a.length=b.length->(∀(j:Nat) (x y:List Int),j < a.length->a[j]?=some x->b[j]?=some y->x=y)->true=e:=λhl h=>AW (PA hl λi h1 h2=>h i _ _ h1 (ea h1) (ea h2))
 have SZ:∀x y:List Int,(x.length:Int)=y.length->km x y=false->km y x=false->x=y:=λx y h h1 h2=>air (by omega) h1 h2
 have sB:∀x y:List Int,km x y=true->¬x=y:=λx y h q=>by rw [q,WI] at h;cases h
 refine ⟨?_⟩
 cbv
 refine ⟨λh=>?_,λh=>?_⟩
 ·have gI:¬(a.length:Int)=b.length:=aL
  have e:=v8 gI
  cbv
  exact ⟨by have fH:=e;exact cd⟩
 have gI:(a.length:Int)=b.length:=aL
 have gI:=lH gI
 clear h
 cbv
 refine Sat.cU (aaD 0 0) 0 5 [] (λi:Nat=>[(5,.i .i64 λ_=>(i:Int))]) (λ_=>[]) (λi=>i<=a.length/\∀(j:Nat) (x y:List Int),j < i->a[j]?=some x->b[j]?=some y->x=y) (λi=>a.length - i) 0 (by exact aM) (by exact aM) ⟨cg _,λj x y h=>absurd h (qn _)⟩ ?_
 intro i hi
 obtain ⟨hi,hq⟩:i<=a.length/\∀(j:Nat) (x y:List Int),j < i->a[j]?=some x->b[j]?=some y->x=y:=hi
 have h0:=n0 i
 have h1:=cX (i:=i) (by omega)
 have Ga:i < a.length->i < b.length:=λh=>by omega
 cbv
 refine ⟨λh=>?_,λh=>?_⟩
 ·have aO:i < a.length:=aL
  have bX:a.length - (i+1) < a.length - i:=by omega
  have IM:=Ga aO
  refine (bK aO).elim λx hx=>?_
  refine (bK IM).elim λy hy=>?_
  have qH:=tC x (cf hx)
  have lH:=nD y (cf hy)
  have bO:=bO i x y hx hy
  have nX:=nX x y
  have SZ:=SZ x y
  have sB:=sB x y
  have CJ:∀q:km y x=true,¬x=y:=λq w=>by rw [w,WI] at q;cases q
  have bV:x=y->(i+1<=a.length/\∀(j:Nat) (x y:List Int),j < i+1->a[j]?=some x->b[j]?=some y->x=y)/\a.length - (i+1) < a.length - i:=λheq=>⟨⟨aO,λj u v hj hu hv=>by
    by_cases l8:j=i
    ·subst l8;rw [hx] at hu;rw [hy] at hv;cases hu;cases hv;exact heq
    ·exact hq j u v (by omega) hu hv⟩,bX⟩
  clear h
  cbv
  refine ⟨x,⟨h0,hx⟩,?_⟩
  cbv
  refine ⟨y,⟨h0,hy⟩,?_⟩
  cbv
  refine ⟨λh=>?_,λh=>?_⟩
  ·have hl:¬(x.length:Int)=y.length:=aL
   have e:=bO (nX hl)
   cbv
   exact ⟨by have fH:=e;exact cd⟩
  have hl:(x.length:Int)=y.length:=aL
  clear h
  cbv
  refine ⟨x,⟨h0,hx⟩,?_⟩
  cbv
  refine ⟨y,⟨h0,hy⟩,?_⟩
  cbv
  refine ⟨⟨x,y⟩,⟨by exact bp,qH,lH⟩,?_⟩
  cbv
  refine ⟨λh=>?_,λh=>?_⟩
  ·have e:=bO (sB h.out)
   cbv
   exact ⟨by have fH:=e;exact cd⟩
  have q1:km x y=false:=h.out
  clear h
  cbv
  refine ⟨y,⟨h0,hy⟩,?_⟩
  cbv
  refine ⟨x,⟨h0,hx⟩,?_⟩
  cbv
  refine ⟨⟨y,x⟩,⟨by exact bp,lH,qH⟩,?_⟩
  cbv
  refine ⟨λh=>?_,λh=>?_⟩
  ·have e:=bO (CJ h.out)
   cbv
   exact ⟨by have fH:=e;exact cd⟩
  ·have q2:km y x=false:=h.out
   have hn:=bV (SZ hl q1 q2)
   cbv
   exact ⟨i+1,by have bD:=h1;exact a8,by exact aM,⟨hn⟩⟩
 ·have cz:a.length<=i:=aL
  have e:=eG gI λj x y hj hx hy=>hq j x y (G4 hj cz) hx hy
  cbv
  exact ⟨by have fH:=e;exact cd⟩
structure HY (m:dK):Prop where
 cells:m.cells.length<=1000000
 cin:∀x∈m.cells,x.ins.length<=1000000
 dr:m.bj.length<=1000000
structure S1 (a b:dK) (e:Bool):Prop where
 la:HY a
 lb:HY b
 eq:e=true↔a=b
@[reducible] noncomputable def ac6:Vc.Spec where
 α:=RT dK
 args x:=[.agg (yH x.a),.agg (yH x.b)]
 pre x:=S1 x.a x.b x.e
 res x:=.b (λ_=>x.e)
structure SqF (an bn:Int) (ac bc:List Cell) (ad bd:List Int) (e:Bool):Prop where
 n:¬an=bn->false=e
 l:¬(ac.length:Int)=bc.length->false=e
 d:kR ad bd=false->false=e
 ll:(ac.length:Int)=bc.length->ac.length=bc.length
 c:∀(i:Nat) (x y:Cell),ac[i]?=some x->bc[i]?=some y->(¬x.table=y.table->false=e)/\(¬x.eI=y.eI->false=e)/\(kR x.ins y.ins=false->false=e)/\(x.table=y.table->x.eI=y.eI->kR x.ins y.ins=true->x=y)
 all:an=bn->ac.length=bc.length->kR ad bd=true->(∀(j:Nat) (x y:Cell),j < ac.length->ac[j]?=some x->bc[j]?=some y->x=y)->true=e
theorem sqF {an bn:Int} {ac bc:List Cell} {ad bd:List Int} {e:Bool} (he:e=true↔(⟨an,ac,ad⟩:dK)=⟨bn,bc,bd⟩):SqF an bn ac bc ad bd e:=by
 have dx:¬(⟨an,ac,ad⟩:dK)=⟨bn,bc,bd⟩->false=e:=λh=>by cases e with
  | false=>rfl
  | true=>exact absurd (he.1 rfl) h
 refine ⟨λh=>dx λq=>h (congrArg dK.n q),λh=>dx λq=>h (by rw [show ac=bc from congrArg dK.cells q]),λh=>dx λq=>?_,λh=>by omega,λi x y hx hy=>?_,λh1 h2 h3 h4=>?_⟩
 ·have:ad=bd:=congrArg dK.bj q
  rw [this,Aa.2 rfl] at h;cases h
 ·have bO:¬x=y->false=e:=λh=>dx λq=>h (by
   have:ac=bc:=congrArg dK.cells q
   rw [this,hy] at hx;exact (wO hx).symm)
  refine ⟨λh=>bO λq=>h (by rw [q]),λh=>bO λq=>h (by rw [q]),λh=>bO λq=>?_,λq1 q2 q3=>?_⟩
  ·rw [q,Aa.2 rfl] at h;cases h
  ·obtain ⟨xi,xt,xr⟩:=x
   obtain ⟨yi,yt,yr⟩:=y
   have q3:=Aa.1 q3
   simp only at q1 q2 q3
   rw [q1,q2,q3]
 ·have h3:=Aa.1 h3
  have h5:ac=bc:=PA h2 λi a b=>h4 i _ _ a (ea a) (ea b)
  exact (he.2 (by rw [h1,h3,h5])).symm
noncomputable def aqC (n m:Nat):Ctx:=dM n m [] [(108,Fx)]
theorem aaE (n m:Nat):CB PP (aqC n m):=dP n m trivial ⟨Rm,trivial⟩
theorem amm:dt (PP ()) 55 ac6:=by
 refine e6 (aaE 0 0) (fo Tryz.func55) (λa=>⟨z8 a.a,z8 a.b,trivial⟩) (λa=>trivial) ?_
 rintro ⟨⟨an,ac,ad⟩,⟨bn,bc,bd⟩,e⟩ hx
 obtain ⟨⟨A5,tC,Be⟩,⟨ig,nD,tz⟩,he⟩:S1 ⟨an,ac,ad⟩ ⟨bn,bc,bd⟩ e:=hx
 have A5:ac.length<=1000000:=A5
 have ig:bc.length<=1000000:=ig
 have Be:ad.length<=1000000000000:=ot Be (by decide)
 have tz:bd.length<=1000000000000:=ot tz (by decide)
 have tC:∀x∈ac,x.ins.length<=1000000000000:=λx hx=>ot (tC x hx) (by decide)
 have nD:∀x∈bc,x.ins.length<=1000000000000:=λx hx=>ot (nD x hx) (by decide)
 have hF:=sqF he
 clear he
 refine ⟨?_⟩
 cbv
 refine ⟨λh=>?_,λh=>?_⟩
 ·have q:¬an=bn:=aL
  have e:=hF.n q
  cbv
  exact ⟨by have fH:=e;exact cd⟩
 have g1:an=bn:=aL
 clear h
 cbv
 refine ⟨λh=>?_,λh=>?_⟩
 ·have q:¬(ac.length:Int)=bc.length:=aL
  have e:=hF.l q
  cbv
  exact ⟨by have fH:=e;exact cd⟩
 have g2:(ac.length:Int)=bc.length:=aL
 have g2:=hF.ll g2
 clear h
 cbv
 refine ⟨⟨ad,bd⟩,⟨by exact bp,Be,tz⟩,?_⟩
 cbv
 refine ⟨λh=>?_,λh=>?_⟩
 ·have q:kR ad bd=false:=by
       have h':(!kR ad bd)=true:=h.out
       simpa using h'
  have e:=hF.d q
  cbv
  exact ⟨by have fH:=e;exact cd⟩
 have g3:kR ad bd=true:=by
      have h':(!kR ad bd)=false:=h.out
      simpa using h'
 clear h
 cbv
 refine Sat.cU (aaE 0 0) 2 5 [] (λi:Nat=>[(5,.i .i64 λ_=>(i:Int))]) (λ_=>[]) (λi=>i<=ac.length/\∀(j:Nat) (x y:Cell),j < i->ac[j]?=some x->bc[j]?=some y->x=y) (λi=>ac.length - i) 0 (by exact aM) (by exact aM) ⟨cg _,λj x y h=>absurd h (qn _)⟩ ?_
 intro i hi
 obtain ⟨hi,hq⟩:i<=ac.length/\∀(j:Nat) (x y:Cell),j < i->ac[j]?=some x->bc[j]?=some y->x=y:=hi
 have h0:=n0 i
 have h1:=cX (i:=i) (by omega)
 have Ga:i < ac.length->i < bc.length:=λh=>by omega
 cbv
 refine ⟨λh=>?_,λh=>?_⟩
 ·have aO:i < ac.length:=aL
  have bX:ac.length - (i+1) < ac.length - i:=by omega
  have IM:=Ga aO
  refine (bK aO).elim λx=>?_
  refine x.casesOn λxi xt xr hx=>?_
  refine (bK IM).elim λy=>?_
  refine y.casesOn λyi yt yr hy=>?_
  have hc:=hF.c i _ _ hx hy
  have qH:=tC _ (cf hx)
  have lH:=nD _ (cf hy)
  have c1:¬xt=yt->false=e:=hc.1
  have c2:¬xr=yr->false=e:=hc.2.1
  have c3:kR xi yi=false->false=e:=hc.2.2.1
  have c4:xt=yt->xr=yr->kR xi yi=true->(⟨xi,xt,xr⟩:Cell)=⟨yi,yt,yr⟩:=hc.2.2.2
  have bV:(⟨xi,xt,xr⟩:Cell)=⟨yi,yt,yr⟩->(i+1<=ac.length/\∀(j:Nat) (x y:Cell),j < i+1->ac[j]?=some x->bc[j]?=some y->x=y)/\ac.length - (i+1) < ac.length - i:=λheq=>⟨⟨aO,λj u v hj hu hv=>by
    by_cases l8:j=i
    ·subst l8;rw [hx] at hu;rw [hy] at hv;cases hu;cases hv;exact heq
    ·exact hq j u v (by omega) hu hv⟩,bX⟩
  clear h hc
  cbv
  refine ⟨⟨xi,xt,xr⟩,⟨h0,hx⟩,?_⟩
  cbv
  refine ⟨⟨yi,yt,yr⟩,⟨h0,hy⟩,?_⟩
  cbv
  refine ⟨λh=>?_,λh=>?_⟩
  ·have q:¬xt=yt:=aL
   have e:=c1 q
   cbv
   exact ⟨by have fH:=e;exact cd⟩
  have q1:xt=yt:=aL
  clear h
  cbv
  refine ⟨λh=>?_,λh=>?_⟩
  ·have q:¬xr=yr:=aL
   have e:=c2 q
   cbv
   exact ⟨by have fH:=e;exact cd⟩
  have q2:xr=yr:=aL
  clear h
  cbv
  refine ⟨⟨xi,yi⟩,⟨by exact bp,qH,lH⟩,?_⟩
  cbv
  refine ⟨λh=>?_,λh=>?_⟩
  ·have q:kR xi yi=false:=by
         have h':(!kR xi yi)=true:=h.out
         simpa using h'
   have e:=c3 q
   cbv
   exact ⟨by have fH:=e;exact cd⟩
  ·have q:kR xi yi=true:=by
        have h':(!kR xi yi)=false:=h.out
        simpa using h'
   have hn:=bV (c4 q1 q2 q)
   cbv
   exact ⟨i+1,by have bD:=h1;exact a8,by exact aM,⟨hn⟩⟩
 ·have cz:ac.length<=i:=aL
  have e:=hF.all g1 g2 g3 λj x y hj hx hy=>hq j x y (G4 hj cz) hx hy
  cbv
  exact ⟨by have fH:=e;exact cd⟩
structure zd where
 m:dK
 c:iQ
 e:Int
def S2 (x:zd):List SV:=[.i .i64 (λ_=>x.m.n),.sl 3 mw (λ_=>x.m.cells),.sl 1 bC (λ_=>x.m.bj),.sl 1 bC (λ_=>x.c.root),.sl 1 eB (λ_=>x.c.leaves),.i .i64 (λ_=>x.e)]
theorem ZH (x:zd):cN (S2 x):=⟨trivial,λx=>(zT x).1,λx=>(cP x).1,λx=>(cP x).1,λx=>(mT x).1,trivial,trivial⟩
structure Rn (x:zd):Prop where
 m:HY x.m
 r:x.c.root.length<=1000000000000
 l:x.c.leaves.length<=1000000/\∀l∈x.c.leaves,l.length<=1000000
structure S3 (a b:zd) (e:Bool):Prop where
 la:Rn a
 lb:Rn b
 eq:e=true↔a=b
@[reducible] noncomputable def ac7:Vc.Spec where
 α:=RT zd
 args x:=[.agg (S2 x.a),.agg (S2 x.b)]
 pre x:=S3 x.a x.b x.e
 res x:=.b (λ_=>x.e)
open Classical in
theorem alF {am bm:dK} {ar br:List Int} {al bl:List (List Int)} {ae be:Int} {e:Bool} (he:e=true↔(⟨am,⟨ar,al⟩,ae⟩:zd)=⟨bm,⟨br,bl⟩,be⟩) :
  ∃q1 q2:Bool,(q1=true↔am=bm)/\(q2=true↔al=bl)/\(fk ae be=false->false=e)/\(q1=false->false=e)/\(kR ar br=false->false=e)/\(fk ae be=true->q1=true->kR ar br=true->q2=e):=by
 have dx:¬(⟨am,⟨ar,al⟩,ae⟩:zd)=⟨bm,⟨br,bl⟩,be⟩->false=e:=λh=>by cases e with
  | false=>rfl
  | true=>exact absurd (he.1 rfl) h
 refine ⟨decide (am=bm),decide (al=bl),by simp,by simp,λh=>dx λq=>?_,λh=>dx λq=>?_,λh=>dx λq=>?_,λh1 h2 h3=>?_⟩
 ·have:ae=be:=congrArg zd.e q
  rw [this] at h;simp [fk] at h
 ·exact absurd (congrArg zd.m q) (by simpa using h)
 ·have:ar=br:=congrArg (λx=>x.c.root) q
  rw [this,Aa.2 rfl] at h;cases h
 ·have h1:ae=be:=by simpa [fk] using h1
  have h2:am=bm:=by simpa using h2
  have h3:=Aa.1 h3
  by_cases h:al=bl
  ·rw [decide_eq_true h]
   exact (he.2 (by rw [h1,h2,h3,h])).symm
  ·rw [decide_eq_false h]
   exact dx λq=>h (congrArg (λx=>x.c.leaves) q)
noncomputable def aqD (n m:Nat):Ctx:=dM n m [] [(108,Fx),(55,ac6),(109,ac5)]
theorem amn (n m:Nat):CB PP (aqD n m):=dP n m trivial ⟨Rm,amm,aml,trivial⟩
theorem amo:dt (PP ()) 36 ac7:=by
 refine e6 (amn 0 0) (fo Tryz.func36) (λa=>⟨ZH a.a,ZH a.b,trivial⟩) (λa=>trivial) ?_
 rintro ⟨⟨⟨an,ac,ad⟩,⟨ar,al⟩,ae⟩,⟨⟨bn,bc,bd⟩,⟨br,bl⟩,be⟩,e⟩ hx
 obtain ⟨⟨A5,tC,Be⟩,⟨ig,nD,tz⟩,he⟩:S3 ⟨⟨an,ac,ad⟩,⟨ar,al⟩,ae⟩ ⟨⟨bn,bc,bd⟩,⟨br,bl⟩,be⟩ e:=hx
 obtain ⟨q1,q2,k1,k2,k3,k4,k5,k6⟩:=alF he
 have p1:S1 ⟨an,ac,ad⟩ ⟨bn,bc,bd⟩ q1:=⟨A5,ig,k1⟩
 have p2:SY al bl q2:=⟨Be,tz,k2⟩
 have tC:ar.length<=1000000000000:=tC
 have nD:br.length<=1000000000000:=nD
 refine ⟨?_⟩
 cbv
 refine ⟨λh=>?_,λh=>?_⟩
 rotate_left
 ·have e:=k3 h.out
  cbv
  exact ⟨by have fH:=e;exact cd⟩
 have g1:fk ae be=true:=h.out
 clear h
 cbv
 refine ⟨⟨⟨an,ac,ad⟩,⟨bn,bc,bd⟩,q1⟩,⟨by exact bp,p1⟩,?_⟩
 cbv
 refine ⟨λh=>?_,λh=>?_⟩
 rotate_left
 ·have e:=k4 h.out
  cbv
  exact ⟨by have fH:=e;exact cd⟩
 have g2:q1=true:=h.out
 clear h
 cbv
 refine ⟨⟨ar,br⟩,⟨by exact bp,tC,nD⟩,?_⟩
 cbv
 refine ⟨λh=>?_,λh=>?_⟩
 rotate_left
 ·have e:=k5 h.out
  cbv
  exact ⟨by have fH:=e;exact cd⟩
 have e:=k6 g1 g2 h.out
 clear h
 cbv
 refine ⟨⟨al,bl,q2⟩,⟨by exact bp,p2⟩,?_⟩
 cbv
 exact ⟨by have po:=e;exact cd⟩
noncomputable def aqE (n m:Nat):Ctx:=dM n m [] [(115,M9),(116,SU),(96,SJ)]
theorem L5 (n m:Nat):CB PP (aqE n m):=dP n m trivial ⟨Ri,aax,aag,trivial⟩
theorem amp:dt (PP ()) 44 ac1:=by
 refine e6 (L5 0 0) (fo Tryz.func44) (λa=>⟨mr a.n,z8 a.m,aay a.c,trivial⟩) (λa=>trivial) ?_
 rintro ⟨⟨ins,gs,outs,dr⟩,⟨mn,mc,md⟩,⟨R,V⟩,e⟩ hx
 have hx:IJ ⟨ins,gs,outs,dr⟩ ⟨mn,mc,md⟩ ⟨R,V⟩ e:=hx
 obtain ⟨oM,N8,hd3,hd4,eG⟩:=chF hx
 have hb:2+ins.length+gs.length<=600:=hx.G.j6
 have wB:dr.length<=1000000:=hx.dr
 have Dv:mc.length<=1000000:=hx.cells
 obtain ⟨N,hN⟩:∃N:Int,2+(ins.length:Int)+gs.length=N:=⟨_,rfl⟩
 obtain ⟨L0,JH⟩:∃L0:Int,1+(ins.length:Int)=L0:=⟨_,rfl⟩
 have kO:IntKind.i64.wrap (1+(ins.length:Int))=L0:=by rw [<-JH];exact cW (by omega) (by omega)
 have n7:IntKind.i64.wrap (IntKind.i64.wrap (2+(ins.length:Int))+(gs.length:Int))=N:=by rw [cW (n:=2+(ins.length:Int)) (by omega) (by omega),cW (by omega) (by omega)];exact hN
 rw [hN,JH] at eG
 clear hx hb hN JH
 refine ⟨?_⟩
 cbv
 refine ⟨λh=>?_,λh=>?_⟩
 ·have bO:¬mn=(ins.length:Int):=aL
  have e1:=oM bO
  cbv
  exact ⟨by have iC:=e1;exact cd⟩
 have h1:mn=(ins.length:Int):=aL
 clear h
 cbv
 refine ⟨λh=>?_,λh=>?_⟩
 ·have bO:¬(R.length:Int)=mc.length:=aL
  have e1:=N8 bO
  cbv
  exact ⟨by have iC:=e1;exact cd⟩
 have h2:(R.length:Int)=mc.length:=aL
 clear h
 cbv
 refine ⟨λh=>?_,λh=>?_⟩
 ·have bO:¬(V.length:Int)=mc.length:=aL
  have e1:=hd3 bO
  cbv
  exact ⟨by have iC:=e1;exact cd⟩
 have h3:(V.length:Int)=mc.length:=aL
 clear h
 cbv
 refine ⟨λh=>?_,λh=>?_⟩
 ·have bO:¬(md.length:Int)=dr.length:=aL
  have e1:=hd4 bO
  cbv
  exact ⟨by have iC:=e1;exact cd⟩
 have h4:(md.length:Int)=dr.length:=aL
 obtain ⟨rB,Rk,sg,Ck,Dk,k1,k2,k3,ksg,kr0,krn,kre,S4,abJ,kce,kde,kdn⟩:=eG h1 h2 h3 h4
 clear h eG oM N8 hd3 hd4 h2 h3 h4
 cbv
 refine Sat.cU (L5 0 0) 3 9 [] (λy:Nat × Int=>[(8,.i .i64 (λ_=>y.2)),(57,.sl 1 bC (λ_=>R)),(58,.i .i64 (λ_=>(R.length:Int))),(59,.i .i64 (λ_=>(y.1:Int)))]) (λ_=>[]) (λy=>y.1<=R.length/\rB=Rk y.1 y.2) (λy=>R.length - y.1) (0,L0) (by have bD:=kO;exact a8) (by exact aM) ⟨cg _,kr0⟩ ?_
 rintro ⟨i,last⟩ hi
 obtain ⟨hi,Bg⟩:i<=R.length/\rB=Rk i last:=hi
 have cZ:=n0 i
 have ei:=cX (i:=i) (by omega)
 have Gh:=krn i
 have hre:=kre i last
 cbv
 refine ⟨λh=>?_,λh=>?_⟩
 ·have bQ:i < R.length:=aL
  have bX:R.length - (i+1) < R.length - i:=by omega
  refine (bK bQ).elim λr hr=>?_
  obtain ⟨r1,r2,r3⟩:=Gh r last hr
  clear h
  cbv
  refine ⟨r,⟨cZ,hr⟩,?_⟩
  cbv
  refine ⟨λh=>?_,λh=>?_⟩
  ·have hle:¬last < r:=aL
   have e1:=S4 (Bg.trans (r1 hle))
   cbv
   exact ⟨by have iC:=e1;exact cd⟩
  have aO:last < r:=aL
  clear h
  cbv
  refine ⟨λh=>?_,λh=>?_⟩
  ·have cz:=h.out
   rw [n7] at cz
   have cz:¬r < N:=by simpa [fU] using cz
   have e1:=S4 (Bg.trans (r2 cz))
   cbv
   exact ⟨by have iC:=e1;exact cd⟩
  ·have cz:=h.out
   rw [n7] at cz
   have cz:r < N:=by simpa [fU] using cz
   have bV:(i+1<=R.length/\rB=Rk (i+1) r)/\R.length - (i+1) < R.length - i:=⟨⟨bQ,Bg.trans (r3 aO cz)⟩,bX⟩
   clear h
   cbv
   exact ⟨(i+1,r),by have bD:=ei;exact a8,by exact aM,⟨bV⟩⟩
 have cz:R.length<=i:=aL
 obtain ⟨⟨g1,g2⟩,g3,g4⟩:=abJ (Bg.trans (hre cz))
 have g12:ins.length<=1000000/\E7 ins.length R:=⟨g1,g2⟩
 clear h abJ krn kre S4 hre Gh
 cbv
 refine ⟨⟨⟨ins,gs,outs,dr⟩,R⟩,⟨by exact bp,g12⟩,?_⟩
 cbv
 refine Sat.cU (L5 0 0) 3 12 [] (λi:Nat=>[(11,.mp (.int .i64) bC (λ_=>sg)),(85,.sl 3 mw (λ_=>mc)),(86,.i .i64 (λ_=>(mc.length:Int))),(87,.i .i64 (λ_=>(i:Int)))]) (λ_=>[]) (λi=>i<=mc.length/\Ck 0=Ck i) (λi=>mc.length - i) 0 (by have Jn:=ksg;exact a8) (by exact aM) ⟨cg _,rfl⟩ ?_
 intro j hj
 obtain ⟨hj,Uz⟩:j<=mc.length/\Ck 0=Ck j:=hj
 have gV:=n0 j
 have jm:=cX (i:=j) (by omega)
 have nA:=kce j
 cbv
 refine ⟨λh=>?_,λh=>?_⟩
 ·have dG:j < mc.length:=aL
  have bX:mc.length - (j+1) < mc.length - j:=by omega
  refine (bK dG).elim λx hx=>?_
  obtain ⟨r,l,y,t,c1,c2,c3,c4,c5,c6,c7,c8,c9,c10⟩:=g4 j x hx
  have qC:Ck j=false->260=e:=λq=>by rw [<-g3,Uz,q];rfl
  have c6:¬t=0->260=e:=λq=>qC (c6 q)
  have c7:¬x.table=y.table->260=e:=λq=>qC (c7 q)
  have c8:¬x.eI=y.eI->260=e:=λq=>qC (c8 q)
  have c9:¬x.ins=y.ins->260=e:=λq=>qC (c9 q)
  obtain ⟨xi,xt,xr⟩:=x
  obtain ⟨yi,yt,yr⟩:=y
  clear h
  cbv
  refine ⟨⟨xi,xt,xr⟩,⟨gV,hx⟩,?_⟩
  cbv
  refine ⟨r,⟨gV,c1⟩,?_⟩
  cbv
  refine ⟨l,⟨gV,c2⟩,?_⟩
  cbv
  refine ⟨⟨⟨ins,gs,outs,dr⟩,r,l,sg,⟨yi,yt,yr⟩,t⟩,⟨by exact bp,c3⟩,?_⟩
  cbv
  refine ⟨λh=>?_,λh=>?_⟩
  ·have q1:¬t=0:=aL
   have e1:=c6 q1
   cbv
   exact ⟨by have iC:=e1;exact cd⟩
  have q1:t=0:=aL
  clear h
  cbv
  refine ⟨λh=>?_,λh=>?_⟩
  ·have q2:¬xt=yt:=aL
   have e1:=c7 q2
   cbv
   exact ⟨by have iC:=e1;exact cd⟩
  have q2:xt=yt:=aL
  clear h
  cbv
  refine ⟨λh=>?_,λh=>?_⟩
  ·have q3:¬xr=yr:=aL
   have e1:=c8 q3
   cbv
   exact ⟨by have iC:=e1;exact cd⟩
  have q3:xr=yr:=aL
  clear h
  cbv
  refine ⟨⟨xi,yi⟩,⟨by exact bp,⟨c5,c4⟩⟩,?_⟩
  cbv
  refine ⟨λh=>?_,λh=>?_⟩
  ·have q4:¬xi=yi:=by have h':(!decide (xi=yi))=true:=h.out;simpa using h'
   have e1:=c9 q4
   cbv
   exact ⟨by have iC:=e1;exact cd⟩
  ·have q4:xi=yi:=by have h':(!decide (xi=yi))=false:=h.out;simpa using h'
   have bV:(j+1<=mc.length/\Ck 0=Ck (j+1))/\mc.length - (j+1) < mc.length - j:=⟨⟨dG,Uz.trans (c10 q1 q2 q3 q4)⟩,bX⟩
   cbv
   exact ⟨j+1,by have bD:=jm;exact a8,by exact aM,⟨bV⟩⟩
 have hjg:mc.length<=j:=aL
 have g5:yI (Dk 0)=e:=by rw [<-g3,Uz,nA hjg];rfl
 clear h
 cbv
 refine Sat.cU (L5 0 0) 3 12 [] (λi:Nat=>[(134,.sl 1 bC (λ_=>dr)),(135,.i .i64 (λ_=>(dr.length:Int))),(136,.i .i64 (λ_=>(i:Int)))]) (λ_=>[]) (λi=>i<=dr.length/\Dk 0=Dk i) (λi=>dr.length - i) 0 (by exact aM) (by exact aM) ⟨cg _,rfl⟩ ?_
 intro q hq
 obtain ⟨hq,UA⟩:q<=dr.length/\Dk 0=Dk q:=hq
 have xJ:=n0 q
 have Bh:=cX (i:=q) (by omega)
 have JI:=kde q
 cbv
 refine ⟨λh=>?_,λh=>?_⟩
 ·have xu:q < dr.length:=aL
  have bX:dr.length - (q+1) < dr.length - q:=by omega
  refine (bK xu).elim λv hv=>?_
  obtain ⟨t,t1,t2,t3,t4⟩:=kdn q v hv
  have qC:Dk q=false->260=e:=λw=>by rw [<-g5,UA,w];rfl
  clear h
  rcases hs:sg v with _|s
  ·have e1:=qC (t2 hs)
   cbv
   refine ⟨v,⟨xJ,hv⟩,?_⟩
   cbv
   refine ⟨some none,⟨hs⟩,?_⟩
   cbv
   exact ⟨by have iC:=e1;exact cd⟩
  ·cbv
   refine ⟨v,⟨xJ,hv⟩,?_⟩
   cbv
   refine ⟨some (some s),⟨hs⟩,?_⟩
   cbv
   refine ⟨t,⟨xJ,t1⟩,?_⟩
   cbv
   refine ⟨λh=>?_,λh=>?_⟩
   ·have bO:¬s=t:=aL
    have e1:=qC (t3 s hs bO)
    cbv
    exact ⟨by have iC:=e1;exact cd⟩
   ·have heq:s=t:=aL
    have bV:(q+1<=dr.length/\Dk 0=Dk (q+1))/\dr.length - (q+1) < dr.length - q:=⟨⟨xu,UA.trans (t4 (by rw [hs,heq]))⟩,bX⟩
    cbv
    exact ⟨q+1,by have bD:=Bh;exact a8,by exact aM,⟨bV⟩⟩
 have UB:dr.length<=q:=aL
 have e1:0=e:=by rw [<-g5,UA,JI UB];rfl
 cbv
 exact ⟨by have iC:=e1;exact cd⟩
def xf (I:Nat) (l:List Bool) (x:Int):Prop:=x < 2+I\/l[x.toNat]?=some true
structure Cy (I:Nat) (s:dW) (l:List Bool) (v:Int) (l':List Bool):Prop where
 len:l'.length=l.length
 mono:∀u:Nat,l[u]?=some true->l'[u]?=some true
 nw:∀u:Nat,l'[u]?=some true->l[u]?=some true\/(2+I<=u/\oK (lh I s) (·=v.toNat) u/\∀x∈lh I s u,xf I l' x)
 vi:xf I l' v
structure u7 (I:Nat) (s:dW) (l:List Bool) (v:Int) (L:List Int) (j:Nat) (l':List Bool):Prop where
 le:j<=L.length
 len:l'.length=l.length
 mono:∀u:Nat,l[u]?=some true->l'[u]?=some true
 vi:l'[v.toNat]?=some true
 nw:∀u:Nat,l'[u]?=some true->l[u]?=some true\/(2+I<=u/\oK (lh I s) (·=v.toNat) u/\(u=v.toNat\/∀x∈lh I s u,xf I l' x))
 ch:∀i x,i < j->L[i]?=some x->xf I l' x
section
variable {I:Nat} {s:dW} {l l' l2:List Bool} {v:Int}
theorem xf.mono (h:∀u:Nat,l[u]?=some true->l'[u]?=some true) {x:Int} (k:xf I l x):xf I l' x:=k.imp_right (h _)
theorem Cy.known (h:xf I l v):Cy I s l v l:=⟨rfl,λ_ h=>h,λ_ h=>.inl h,h⟩
theorem Qs {v u:Nat}:(l.set v true)[u]?=some true↔l[u]?=some true\/(u=v/\v < l.length):=by
 rw [gL]
 by_cases e:v=u
 ·subst e
  by_cases hl:v < l.length
  ·simp [hl]
  ·simp [hl]
 ·rw [if_neg e]
  exact ⟨.inl,λh=>h.resolve_right λ⟨a,_⟩=>e a.symm⟩
theorem u7.start (h0:2+(I:Int)<=v) (hl:v.toNat < l.length) (L:List Int):u7 I s l v L 0 (l.set v.toNat true) where
 le:=cg _
 len:=x4
 mono u h:=Qs.2 (.inl h)
 vi:=Qs.2 (.inr ⟨rfl,hl⟩)
 nw u h:=by
  rcases Qs.1 h with h|⟨rfl,_⟩
  ·exact .inl h
  ·exact .inr ⟨by omega,.base rfl,.inl rfl⟩
 ch i x h:=by omega
theorem ajH {x:Int} (hx:x∈lh I s v.toNat) {w:Nat} (h:oK (lh I s) (·=x.toNat) w):oK (lh I s) (·=v.toNat) w :=
 h.mono λu hu=>by subst hu;exact .step (.base rfl) hx
theorem u7.step {L:List Int} {j:Nat} {x:Int} (h:u7 I s l v L j l') (hj:L[j]?=some x) (hx:x∈lh I s v.toNat) (k:Cy I s l' x l2):u7 I s l v L (j+1) l2 where
 le:=(a7.1 hj).1
 len:=k.len.trans h.len
 mono u hu:=k.mono u (h.mono u hu)
 vi:=k.mono _ h.vi
 nw u hu:=by
  rcases k.nw u hu with hu|⟨a,b,c⟩
  ·rcases h.nw u hu with hu|⟨a,b,c⟩
   ·exact .inl hu
   ·exact .inr ⟨a,b,c.imp_right λc y hy=>(c y hy).mono k.mono⟩
  ·exact .inr ⟨a,ajH hx b,.inr c⟩
 ch i y hi hy:=by
  by_cases e:i=j
  ·subst e;rw [hj] at hy;cases hy;exact k.vi
  ·exact (h.ch i y (by omega) hy).mono k.mono
theorem u7.fin {L:List Int} {j:Nat} (h:u7 I s l v L j l') (hj:L.length<=j) (hL:lh I s v.toNat=L):Cy I s l v l' where
 len:=h.len
 mono:=h.mono
 nw u hu:=by
  rcases h.nw u hu with hu|⟨a,b,c⟩
  ·exact .inl hu
  ·refine .inr ⟨a,b,?_⟩
   rcases c with rfl|c
   ·intro x hx
    rw [hL] at hx
    obtain ⟨i,hi⟩:=lN hx
    exact h.ch i x (by have:=(a7.1 hi).1;omega) hi
   ·exact c
 vi:=.inr h.vi
end
structure tE (I:Nat) (s:dW) (bj:List Int) (N j:Nat) (l:List Bool):Prop where
 le:j<=bj.length
 len:l.length=N
 nw:∀u:Nat,l[u]?=some true->2+I<=u/\oK (lh I s) (λw=>∃d∈bj,d.toNat=w) u/\∀x∈lh I s u,xf I l x
 ch:∀i x,i < j->bj[i]?=some x->xf I l x
theorem tE.start (I:Nat) (s:dW) (bj:List Int) (N:Nat):tE I s bj N 0 (List.replicate N false) where
 le:=cg _
 len:=vr
 nw u h:=by rw [sY] at h;split at h<;>cases h
 ch i x h:=by omega
theorem tE.step {I:Nat} {s:dW} {bj:List Int} {N j:Nat} {l l2:List Bool} {x:Int} (h:tE I s bj N j l) (hj:bj[j]?=some x) (k:Cy I s l x l2):tE I s bj N (j+1) l2 where
 le:=(a7.1 hj).1
 len:=k.len.trans h.len
 nw u hu:=by
  rcases k.nw u hu with hu|⟨a,b,c⟩
  ·obtain ⟨a,b,c⟩:=h.nw u hu
   exact ⟨a,b,λy hy=>(c y hy).mono k.mono⟩
  ·exact ⟨a,b.mono λu hu=>.base ⟨x,cf hj,hu.symm⟩,c⟩
 ch i y hi hy:=by
  by_cases e:i=j
  ·subst e;rw [hj] at hy;cases hy;exact k.vi
  ·exact (h.ch i y (by omega) hy).mono k.mono
theorem tE.fin {I:Nat} {gs:List Gate} (G:cb I gs) {s:dW} (hs:jV I gs s) {bj:List Int} {j:Nat} {l:List Bool} (h:tE I s bj (2+I+gs.length) j l) (hj:bj.length<=j) (hd:∀d∈bj,0<=d/\d < 2+I+gs.length) (v:Nat) :
  l[v]?=some true↔(v:Int)∈jR I s bj:=by
 rw [WC G hs hd]
 refine ⟨λhv=>?_,λ⟨h1,h2,h3⟩=>?_⟩
 ·obtain ⟨a,b,_⟩:=h.nw v hv
  have:=(a7.1 hv).1
  rw [h.len] at this
  exact ⟨a,this,b⟩
 ·suffices H:∀{u:Nat},oK (lh I s) (λw=>∃d∈bj,d.toNat=w) u->2+I<=u->l[u]?=some true from H h3 h1
  intro u hu
  induction hu with
  | base hb =>
   intro hl
   obtain ⟨d,FV,rfl⟩:=hb
   obtain ⟨i,hi⟩:=lN FV
   rcases h.ch i d (by have:=(a7.1 hi).1;omega) hi with hc|hc
   ·omega
   ·exact hc
  | @step w x hw hx ih =>
   intro hl
   have UC:2+I<=w:=by
    unfold lh at hx
    split at hx
    ·cases hx
    ·omega
   have hwm:=ih UC
   rcases (h.nw w hwm).2.2 x hx with hc|hc
   ·omega
   ·exact hc
def qq (l:List Bool) (n:Nat):List Int:=((List.range n).filter λv=>l[v]? == some true).map λv:Nat=>(v:Int)
theorem ag8 {l:List Bool} {n:Nat} (h:l[n]?=some true):qq l (n+1)=qq l n++[(n:Int)]:=by
 unfold qq
 rw [BL,x2,qm,KK (by rw [h];rfl)];rfl
theorem ahF {l:List Bool} {n:Nat} (h:l[n]?=some false):qq l (n+1)=qq l n:=by
 unfold qq
 rw [BL,x2,qm,Pj (by rw [h];decide)]
 exact x6 _
theorem ag9 {l:List Bool} {n:Nat} {x:Int}:x∈qq l n↔∃v:Nat,x=v/\v < n/\l[v]?=some true:=by
 unfold qq
 rw [iM]
 refine ⟨λ⟨v,hv,e⟩=>?_,λ⟨v,e,h1,h2⟩=>⟨v,?_,e.symm⟩⟩
 ·obtain ⟨a,b⟩:=lP.1 hv
  exact ⟨v,e.symm,mQ.1 a,by simpa using b⟩
 ·exact lP.2 ⟨mQ.2 h1,by rw [h2];rfl⟩
theorem aha (l:List Bool) (n:Nat):dU (qq l n):=by
 unfold qq dU
 rw [qT]
 exact (BR.filter _).imp λh=>by omega
theorem Wk (l:List Bool):∀n,(qq l n).length<=n
 | 0=>fb _
 | n+1=>by
  unfold qq
  rw [jP]
  exact ot (D9 _ _) (Nat.le_of_eq G6)
theorem agL {I:Nat} {s:dW} {bj:List Int} {l:List Bool} {n:Nat} (hn:l.length<=n) (h:∀v:Nat,l[v]?=some true↔(v:Int)∈jR I s bj):qq l n=jR I s bj :=
 (aha l n).ext (WD I s bj) λu=>by
  rw [ag9]
  constructor
  ·rintro ⟨v,rfl,_,hv⟩
   exact (h v).1 hv
  ·intro hu
   have e:=WE hu
   refine ⟨u.toNat,e.symm,?_,(h _).2 (by rw [e];exact hu)⟩
   have:=(a7.1 ((h u.toNat).2 (by rw [e];exact hu))).1
   omega
structure aqF where
 n:Net
 s:dW
 l:List Bool
 v:Int
def ac8 (n:Net) (s:dW) (l:List Bool):List Slot:=[.fix 48 (jX n),.fix 41 [.own 2],.dyn 4 1 lX (λ_=>l),.fix 320 [.dV (M5 n s) 0],.fix 187 [.fn (.func 182) [] [.ptr 0 0,.ptr 1 0,.ptr 3 0,.ptr 4 0]]]
structure Nh (n:Net) (s:dW) (l:List Bool) (v:Int):Prop where
 G:cb n.ins.length n.aY
 s:jV n.ins.length n.aY s
 l:l.length=2+n.ins.length+n.aY.length
 v0:0<=v
 v1:v < 2+n.ins.length+n.aY.length
@[reducible] noncomputable def UD (k:Nat):o6 where
 α:=aqF
 args x:=[.i .i64 (λ_=>x.v),.ptr 0 0,.ptr 1 0,.ptr 3 0,.ptr 4 0]
 io x:=ac8 x.n x.s x.l
 pre x:=Nh x.n x.s x.l x.v/\x.v.toNat<=k
 β:=List Bool
 post x y:=Cy x.n.ins.length x.s x.l x.v y
 mv:=[]
 res x y:=.cM []
 l7 x y:=ac8 x.n x.s y
noncomputable def cNe (n m:Nat):Ctx:=dM n m [(182,Tryz.f182)] [] [182]
theorem abK (n m:Nat):CB PP (cNe n m):=dP n m ⟨fo Tryz.func182,trivial⟩ trivial
theorem ZI (k:Nat) (ih:∀m,m+1=k->nh PP 182 (UD m)):nh PP 182 (UD k):=by
 refine sA (abK 0 0) (fo Tryz.func182) (λa y=>rfl) (λa=>⟨rfl,rfl⟩) .nil ?_
 rintro ⟨⟨ins,gs,outs,dr⟩,⟨LL,CC,FF⟩,l,v⟩ hx
 obtain ⟨⟨G,hs,hl,eM,mL⟩,hvk⟩:Nh ⟨ins,gs,outs,dr⟩ ⟨LL,CC,FF⟩ l v/\v.toNat<=k:=hx
 have G:cb ins.length gs:=G
 have hs:jV ins.length gs ⟨LL,CC,FF⟩:=hs
 have hl:l.length=2+ins.length+gs.length:=hl
 have mL:v < 2+(ins.length:Int)+gs.length:=mL
 have hF:FF.length=2+ins.length+gs.length:=hs.oD
 have hb:=G.j6
 have hw:IntKind.i64.wrap (2+(ins.length:Int))=2+ins.length:=cW (by omega) (by omega)
 obtain ⟨T,hT⟩:∃T:Int,2+(ins.length:Int)=T:=⟨_,rfl⟩
 have gP:v.toNat < l.length:=by omega
 have JC:v.toNat < FF.length:=by omega
 obtain ⟨b,uY⟩:=bK gP
 obtain ⟨L,hL⟩:=bK JC
 have Bi:T<=v->lh ins.length ⟨LL,CC,FF⟩ v.toNat=L:=λh=>by
  unfold lh
  rw [if_neg (by omega),List.getD_eq_getElem?_getD,hL];rfl
 have v8:=Q9 G hs v.toNat
 have N9:T<=v->∀x∈L,0<=x/\x < v:=λh x hx=>by
  have:=v8 x (by rw [Bi h];exact hx);omega
 have wv:L.length<=600\/v < T:=by
  by_cases h:T<=v
  ·left
   obtain ⟨g,hg⟩:=bK (l:=gs) (i:=v.toNat - 2 - ins.length) (by omega)
   have:=hs.lf (v.toNat - 2 - ins.length) L g (by rw [show 2+ins.length+(v.toNat - 2 - ins.length)=v.toNat by omega];exact hL) hg
   split at this
   ·rw [this];have:=(s7 g).2;omega
   ·have:=this.2.1;omega
  ·right;omega
 have cV:0<=v/\l[v.toNat]?=some b:=⟨eM,uY⟩
 have ac9:0<=v/\v.toNat < l.length:=⟨eM,gP⟩
 have hfv:0<=v/\FF[v.toNat]?=some L:=⟨eM,hL⟩
 have aaF:v < T\/b=true->Cy ins.length ⟨LL,CC,FF⟩ l v l:=λh=>.known (h.imp (λh=>by omega) λh=>by rw [<-h];exact uY)
 obtain ⟨l1,gQ⟩:∃l1,l.set v.toNat true=l1:=⟨_,rfl⟩
 have Bc:T<=v->u7 ins.length ⟨LL,CC,FF⟩ l v L 0 l1:=λh=>gQ ▸ u7.start (by omega) gP L
 have hw:=hw.trans hT
 have eG:T<=v->lh ins.length ⟨LL,CC,FF⟩ v.toNat=L/\(∀x∈L,0<=x/\x < v)/\u7 ins.length ⟨LL,CC,FF⟩ l v L 0 l1/\L.length<=600/\(∀x∈L,x∈lh ins.length ⟨LL,CC,FF⟩ v.toNat)/\∃m,m+1=k:=λh =>
  ⟨Bi h,N9 h,Bc h,wv.resolve_right (by omega),λx hx=>by rw [Bi h];exact hx,k - 1,by omega⟩
 clear Bi N9 Bc wv v8
 refine ⟨?_⟩
 cbv
 refine ⟨λh=>?_,λh=>?_⟩
 ·have aO:dv v (IntKind.i64.wrap (2+(ins.length:Int)))=true:=h.out
  rw [hw] at aO
  have aO:v < T:=by simpa [dv] using aO
  have du:=aaF (.inl aO)
  cbv
  exact ⟨l,[],[],⟨by exact bW,trivial⟩,by exact aM,⟨du⟩⟩
 have cz:dv v (IntKind.i64.wrap (2+(ins.length:Int)))=false:=h.out
 rw [hw] at cz
 have cz:T<=v:=by
     have h':¬v < T:=by simpa [dv] using cz
     exact KY.1 h'
 obtain ⟨Bi,N9,Bc,wv,ze,m,lg⟩:=eG cz
 have ih:=ih m lg
 clear h
 cbv
 refine ⟨⟨ac9⟩,?_⟩
 cbv
 refine ⟨b,⟨uY,rfl⟩,?_⟩
 cbv
 refine ⟨λh=>?_,λh=>?_⟩
 ·have lI:b=true:=h.out
  have du:=aaF (.inr lI)
  cbv
  exact ⟨l,[],[],⟨by exact bW,trivial⟩,by exact aM,⟨du⟩⟩
 clear h
 cbv
 refine ⟨⟨ac9⟩,?_⟩
 cbv
 refine ⟨(b,true),⟨uY,rfl,by exact bW⟩,?_⟩
 cbv
 refine ⟨L,⟨hfv⟩,?_⟩
 cbv
 refine Sat.cU (abK 0 0) 6 5 [] (λy:Nat × List Bool=>[(29,.sl 1 bC (λ_=>L)),(30,.i .i64 (λ_=>(L.length:Int))),(31,.i .i64 (λ_=>(y.1:Int)))]) (λy=>[(2,.dyn 4 1 lX (λ_=>y.2))]) (λy=>u7 ins.length ⟨LL,CC,FF⟩ l v L y.1 y.2) (λy=>L.length - y.1) (0,l1) (by exact aM) (by have fq:=gQ;exact a8) Bc ?_
 rintro ⟨j,l2⟩ hJ
 have hJ:u7 ins.length ⟨LL,CC,FF⟩ l v L j l2:=hJ
 have dG:=hJ.le
 have mD:l2.length=2+ins.length+gs.length:=hJ.len.trans hl
 have gV:=n0 j
 have jm:=cX (i:=j) (by omega)
 cbv
 refine ⟨λh=>?_,λh=>?_⟩
 rotate_left
 ·have Nb:L.length<=j:=aL
  have du:=hJ.fin Nb Bi
  cbv
  exact ⟨l2,[],[],⟨by exact bW,trivial⟩,by exact aM,⟨du⟩⟩
 have vV:j < L.length:=aL
 have bX:L.length - (j+1) < L.length - j:=by omega
 refine (bK vV).elim λx hx=>?_
 have nB:=cf hx
 have fG:=N9 x nB
 have ej:Nh ⟨ins,gs,outs,dr⟩ ⟨LL,CC,FF⟩ l2 x/\x.toNat<=m:=⟨⟨G,hs,mD,fG.1,Int.lt_trans fG.2 mL⟩,by have:=fG.1;have:=fG.2;omega⟩
 have N5:=ze x nB
 clear h
 cbv
 refine ⟨x,⟨gV,hx⟩,?_⟩
 cbv
 refine fh.uT ih (λa y=>trivial) ⟨⟨ins,gs,outs,dr⟩,⟨LL,CC,FF⟩,l2,x⟩ [0,1,2,3,4] rfl (by exact bp) (by exact aM) ⟨ej⟩ λy hy=>?_
 have bV:=hJ.step hx N5 hy.out
 cbv
 exact ⟨(j+1,y),by have bD:=jm;exact a8,by exact aM,⟨⟨bV,bX⟩⟩⟩
theorem abL:∀k,nh PP 182 (UD k)
 | 0=>ZI 0 λm h=>by omega
 | k+1=>ZI (k+1) λm h=>by
  cases Nat.succ.inj h
  exact abL k
@[reducible] noncomputable def ada:Vc.Spec where
 α:=List Int
 args x:=[.sl 1 bC (λ_=>x)]
 pre x:=x.length<=1000000
 res x:=.sl 1 bC (λ_=>x)
noncomputable def aqG (n m:Nat):Ctx:=dM n m [] [] [] [] [] [35]
theorem amq (n m:Nat):CB PP (aqG n m):=dP n m trivial trivial
theorem amr:dt (PP ()) 146 ada:=by
 refine e6 (amq 0 0) (fo Tryz.func146) (λa=>⟨λx=>(cP x).1,trivial⟩) (λa=>λx=>(cP x).1) ?_
 intro l hx
 have hl:l.length<=1000000:=hx
 have b1:l.length*8<=140737488355328:=by omega
 have b2:l.length<=9223372036854775807:=by omega
 have b3:(0+l.length)*8<=140737488355328:=by omega
 have b4:0+l.length<=9223372036854775807:=by omega
 refine ⟨?_⟩
 cbv
 refine ⟨λh=>?_,?_⟩
 ·have hn:l=[]:=by
   have h':=h.out
   simpa using h'
  subst hn
  cbv
  exact ⟨by exact bp⟩
 refine ⟨l,⟨by exact bW,b3,b4⟩,?_⟩
 cbv
 exact ⟨by exact bp⟩
end Go.Proofs.Pk
