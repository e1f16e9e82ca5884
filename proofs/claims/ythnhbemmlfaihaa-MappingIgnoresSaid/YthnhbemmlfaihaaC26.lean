import Derived.Test.YthnhbemmlfaihaaC13
import Derived.Test.YthnhbemmlfaihaaC15
import Derived.Test.YthnhbemmlfaihaaC24
import Derived.Test.YthnhbemmlfaihaaC25
set_option linter.unusedVariables false
set_option linter.unusedSimpArgs false
set_option maxRecDepth 10000
set_option maxHeartbeats 64000000
namespace Go.Proofs.Pk
open Go Go.Vc
theorem TY:∀{a b:List Int},a.length=b.length->si a b=false->si b a=false->a=b
 | [],[],_,_,_=>rfl
 | [],_ :: _,h,_,_=>by simp at h
 | _ :: _,[],h,_,_=>by simp at h
 | x :: a,y :: b,h,h1,h2=>by
  unfold si at h1 h2
  by_cases e:x=y
  ·subst e
   simp at h1 h2
   rw [TY (by simpa using h) h1 h2]
  ·rw [if_pos e] at h1
   rw [if_pos λq=>e q.symm] at h2
   simp only [decide_eq_false_iff_not] at h1 h2
   omega
theorem SX:∀a:List Int,si a a=false
 | []=>rfl
 | x :: a=>by unfold si;simp [SX a]
theorem acJ {a b:List Int} (h:a.length=b.length) (h1:lU a b=false) (h2:lU b a=false):a=b:=by
 unfold lU at h1 h2
 rw [if_neg (by simp [h])] at h1 h2
 exact TY h h1 h2
theorem R0 (a:List Int):lU a a=false:=by
 unfold lU
 rw [if_neg (by simp)]
 exact SX a
structure NA (A:Type) where
 a:A
 b:A
 e:Bool
@[reducible] noncomputable def Cd:Vc.Spec where
 α:=ajs Int
 args x:=[.sl 1 bH (λ_=>x.a),.sl 1 bH (λ_=>x.b)]
 pre x:=x.a.length<=1000000000000/\x.b.length<=1000000000000
 res x:=.b (λ_=>jI x.a x.b)
noncomputable def ajt (n m:Nat):Ctx:=cP n m [] []
theorem VI (n m:Nat):CB PP (ajt n m):=cR n m trivial trivial
theorem M9:dm (PP ()) 24 Cd:=by
 refine fl (VI 0 0) (fo Try.func24) (λa=>⟨(λx=>(dq x).1),(λx=>(dq x).1),trivial⟩) (λa=>trivial) ?_
 rintro ⟨a,b⟩ hx
 obtain ⟨ha,hb⟩:a.length<=1000000000000/\b.length<=1000000000000:=hx
 have du:¬(a.length:Int)=b.length->false=jI a b:=λh=>(VH λe=>h (by rw [e])).symm
 have lI:(a.length:Int)=b.length->a.length=b.length:=λh=>by omega
 refine ⟨?_⟩
 cbv
 refine ⟨λh=>?_,λh=>?_⟩
 ·have gu:¬(a.length:Int)=b.length:=aL
  have e:=du gu
  cbv
  exact ⟨by have eR:=e;exact bJ⟩
 have gu:(a.length:Int)=b.length:=aL
 have gu:=lI gu
 clear h
 cbv
 refine Sat.eE (VI 0 0) 0 5 [] (λi:Nat=>[(5,.i .i64 λ_=>(i:Int))]) (λ_=>[]) (λi=>i<=a.length/\∀(j:Nat) (x y:Int),j < i->a[j]?=some x->b[j]?=some y->x=y) (λi=>a.length - i) 0 (by exact aW) (by exact aW) ⟨cK _,λj x y h=>absurd h (sZ _)⟩ ?_
 intro i hi
 obtain ⟨hi,he⟩:i<=a.length/\∀(j:Nat) (x y:Int),j < i->a[j]?=some x->b[j]?=some y->x=y:=hi
 have h0:=n0 i
 have h1:=eO (i:=i) (by omega)
 have CJ:i < a.length->i < b.length:=λh=>by omega
 cbv
 refine ⟨λh=>?_,λh=>?_⟩
 ·have aQ:i < a.length:=aL
  have cy:a.length - (i+1) < a.length - i:=by omega
  have E7:=CJ aQ
  refine (cC aQ).elim λx hx=>?_
  refine (cC E7).elim λy hy=>?_
  clear h
  cbv
  refine ⟨x,⟨h0,hx⟩,?_⟩
  cbv
  refine ⟨y,⟨h0,hy⟩,?_⟩
  cbv
  refine ⟨λh=>?_,λh=>?_⟩
  ·have bM:¬x=y:=aL
   have e:=(af1 hx hy bM).symm
   cbv
   exact ⟨by have eR:=e;exact bJ⟩
  ·have heq:x=y:=aL
   have bW:i+1<=a.length/\∀(j:Nat) (x y:Int),j < i+1->a[j]?=some x->b[j]?=some y->x=y:=⟨aQ,λj u v hj hu hv=>by
    by_cases qY:j=i
    ·subst qY;rw [hx] at hu;rw [hy] at hv;cases hu;cases hv;exact heq
    ·exact he j u v (by omega) hu hv⟩
   cbv
   exact ⟨i+1,by have bE:=h1;exact a8,by exact aW,⟨⟨bW,cy⟩⟩⟩
 ·have b9:a.length<=i:=aL
  have e:true=jI a b:=(aeV gu λj x y hx hy=>he j x y (by have:=(bq.1 hx).1;omega) hx hy).symm
  cbv
  exact ⟨by have eR:=e;exact bJ⟩
noncomputable def aju (n m:Nat):Ctx:=cP n m [] [(24,Cd)]
theorem af2 (n m:Nat):CB PP (aju n m):=cR n m trivial ⟨M9,trivial⟩
theorem af3:dm (PP ()) 18 Cd:=by
 refine fl (af2 0 0) (fo Try.func18) (λa=>⟨(λx=>(dq x).1),(λx=>(dq x).1),trivial⟩) (λa=>trivial) ?_
 rintro ⟨a,b⟩ hx
 obtain ⟨ha,hb⟩:a.length<=1000000000000/\b.length<=1000000000000:=hx
 refine ⟨?_⟩
 cbv
 refine ⟨⟨a,b⟩,⟨by exact a7,ha,hb⟩,?_⟩
 cbv
 exact ⟨by exact a7⟩
structure On (a b:List (List Int)) (e:Bool):Prop where
 la:a.length<=1000000/\∀l∈a,l.length<=1000000
 lb:b.length<=1000000/\∀l∈b,l.length<=1000000
 eq:e=true↔a=b
@[reducible] noncomputable def XF:Vc.Spec where
 α:=NA (List (List Int))
 args x:=[.sl 1 fR (λ_=>x.a),.sl 1 fR (λ_=>x.b)]
 pre x:=On x.a x.b x.e
 res x:=.b (λ_=>x.e)
noncomputable def ajv (n m:Nat):Ctx:=cP n m [] [(37,H4)]
theorem VJ (n m:Nat):CB PP (ajv n m):=cR n m trivial ⟨Mn,trivial⟩
theorem af4:dm (PP ()) 25 XF:=by
 refine fl (VJ 0 0) (fo Try.func25) (λa=>⟨(λx=>(qF x).1),(λx=>(qF x).1),trivial⟩) (λa=>trivial) ?_
 rintro ⟨a,b,e⟩ hx
 obtain ⟨⟨ha,qX⟩,⟨hb,ot⟩,he⟩:On a b e:=hx
 have du:¬a=b->false=e:=λh=>by cases e with
  | false=>rfl
  | true=>exact absurd (he.1 rfl) h
 have x8:a=b->true=e:=λh=>(he.2 h).symm
 have x3:¬(a.length:Int)=b.length->false=e:=λh=>du λe=>h (by rw [e])
 have lI:(a.length:Int)=b.length->a.length=b.length:=λh=>by omega
 have bM:∀(i:Nat) (x y:List Int),a[i]?=some x->b[i]?=some y->¬x=y->false=e:=λi x y hx hy h=>du λq=>h (by rw [q,hy] at hx;exact (vz hx).symm)
 have pn:∀x y:List Int,¬(x.length:Int)=y.length->¬x=y:=λx y h e=>h (by rw [e])
 have eV:a.length=b.length->(∀(j:Nat) (x y:List Int),j < a.length->a[j]?=some x->b[j]?=some y->x=y)->true=e:=λhl h=>x8 (Lt hl λi h1 h2=>h i _ _ h1 (eB h1) (eB h2))
 have Oo:∀x y:List Int,(x.length:Int)=y.length->lU x y=false->lU y x=false->x=y:=λx y h h1 h2=>acJ (by omega) h1 h2
 have PW:∀x y:List Int,lU x y=true->¬x=y:=λx y h q=>by rw [q,R0] at h;cases h
 refine ⟨?_⟩
 cbv
 refine ⟨λh=>?_,λh=>?_⟩
 ·have gu:¬(a.length:Int)=b.length:=aL
  have e:=x3 gu
  cbv
  exact ⟨by have eR:=e;exact bJ⟩
 have gu:(a.length:Int)=b.length:=aL
 have gu:=lI gu
 clear h
 cbv
 refine Sat.eE (VJ 0 0) 0 5 [] (λi:Nat=>[(5,.i .i64 λ_=>(i:Int))]) (λ_=>[]) (λi=>i<=a.length/\∀(j:Nat) (x y:List Int),j < i->a[j]?=some x->b[j]?=some y->x=y) (λi=>a.length - i) 0 (by exact aW) (by exact aW) ⟨cK _,λj x y h=>absurd h (sZ _)⟩ ?_
 intro i hi
 obtain ⟨hi,hq⟩:i<=a.length/\∀(j:Nat) (x y:List Int),j < i->a[j]?=some x->b[j]?=some y->x=y:=hi
 have h0:=n0 i
 have h1:=eO (i:=i) (by omega)
 have CJ:i < a.length->i < b.length:=λh=>by omega
 cbv
 refine ⟨λh=>?_,λh=>?_⟩
 ·have aQ:i < a.length:=aL
  have cy:a.length - (i+1) < a.length - i:=by omega
  have E7:=CJ aQ
  refine (cC aQ).elim λx hx=>?_
  refine (cC E7).elim λy hy=>?_
  have u5:=qX x (cL hx)
  have lI:=ot y (cL hy)
  have bM:=bM i x y hx hy
  have pn:=pn x y
  have Oo:=Oo x y
  have PW:=PW x y
  have zM:∀q:lU y x=true,¬x=y:=λq w=>by rw [w,R0] at q;cases q
  have bW:x=y->(i+1<=a.length/\∀(j:Nat) (x y:List Int),j < i+1->a[j]?=some x->b[j]?=some y->x=y)/\a.length - (i+1) < a.length - i:=λheq=>⟨⟨aQ,λj u v hj hu hv=>by
    by_cases qY:j=i
    ·subst qY;rw [hx] at hu;rw [hy] at hv;cases hu;cases hv;exact heq
    ·exact hq j u v (by omega) hu hv⟩,cy⟩
  clear h
  cbv
  refine ⟨x,⟨h0,hx⟩,?_⟩
  cbv
  refine ⟨y,⟨h0,hy⟩,?_⟩
  cbv
  refine ⟨λh=>?_,λh=>?_⟩
  ·have hl:¬(x.length:Int)=y.length:=aL
   have e:=bM (pn hl)
   cbv
   exact ⟨by have eR:=e;exact bJ⟩
  have hl:(x.length:Int)=y.length:=aL
  clear h
  cbv
  refine ⟨x,⟨h0,hx⟩,?_⟩
  cbv
  refine ⟨y,⟨h0,hy⟩,?_⟩
  cbv
  refine ⟨⟨x,y⟩,⟨by exact a7,u5,lI⟩,?_⟩
  cbv
  refine ⟨λh=>?_,λh=>?_⟩
  ·have e:=bM (PW h.out)
   cbv
   exact ⟨by have eR:=e;exact bJ⟩
  have q1:lU x y=false:=h.out
  clear h
  cbv
  refine ⟨y,⟨h0,hy⟩,?_⟩
  cbv
  refine ⟨x,⟨h0,hx⟩,?_⟩
  cbv
  refine ⟨⟨y,x⟩,⟨by exact a7,lI,u5⟩,?_⟩
  cbv
  refine ⟨λh=>?_,λh=>?_⟩
  ·have e:=bM (zM h.out)
   cbv
   exact ⟨by have eR:=e;exact bJ⟩
  ·have q2:lU y x=false:=h.out
   have hn:=bW (Oo hl q1 q2)
   cbv
   exact ⟨i+1,by have bE:=h1;exact a8,by exact aW,⟨hn⟩⟩
 ·have b9:a.length<=i:=aL
  have e:=eV gu λj x y hj hx hy=>hq j x y (Nat.lt_of_lt_of_le hj b9) hx hy
  cbv
  exact ⟨by have eR:=e;exact bJ⟩
structure IA (m:ec):Prop where
 cells:m.cells.length<=1000000
 cin:∀x∈m.cells,x.ins.length<=1000000
 dr:m.bf.length<=1000000
structure Oq (a b:ec) (e:Bool):Prop where
 la:IA a
 lb:IA b
 eq:e=true↔a=b
@[reducible] noncomputable def XG:Vc.Spec where
 α:=NA ec
 args x:=[.agg (xY x.a),.agg (xY x.b)]
 pre x:=Oq x.a x.b x.e
 res x:=.b (λ_=>x.e)
structure SqF (an bn:Int) (ac bc:List Cell) (ad bd:List Int) (e:Bool):Prop where
 n:¬an=bn->false=e
 l:¬(ac.length:Int)=bc.length->false=e
 d:jI ad bd=false->false=e
 ll:(ac.length:Int)=bc.length->ac.length=bc.length
 c:∀(i:Nat) (x y:Cell),ac[i]?=some x->bc[i]?=some y->(¬x.table=y.table->false=e)/\(¬x.ej=y.ej->false=e)/\(jI x.ins y.ins=false->false=e)/\(x.table=y.table->x.ej=y.ej->jI x.ins y.ins=true->x=y)
 all:an=bn->ac.length=bc.length->jI ad bd=true->(∀(j:Nat) (x y:Cell),j < ac.length->ac[j]?=some x->bc[j]?=some y->x=y)->true=e
theorem sqF {an bn:Int} {ac bc:List Cell} {ad bd:List Int} {e:Bool} (he:e=true↔(⟨an,ac,ad⟩:ec)=⟨bn,bc,bd⟩):SqF an bn ac bc ad bd e:=by
 have du:¬(⟨an,ac,ad⟩:ec)=⟨bn,bc,bd⟩->false=e:=λh=>by cases e with
  | false=>rfl
  | true=>exact absurd (he.1 rfl) h
 refine ⟨λh=>du λq=>h (congrArg ec.n q),λh=>du λq=>h (by rw [show ac=bc from congrArg ec.cells q]),λh=>du λq=>?_,λh=>by omega,λi x y hx hy=>?_,λh1 h2 h3 h4=>?_⟩
 ·have:ad=bd:=congrArg ec.bf q
  rw [this,xw.2 rfl] at h;cases h
 ·have bM:¬x=y->false=e:=λh=>du λq=>h (by
   have:ac=bc:=congrArg ec.cells q
   rw [this,hy] at hx;exact (vz hx).symm)
  refine ⟨λh=>bM λq=>h (by rw [q]),λh=>bM λq=>h (by rw [q]),λh=>bM λq=>?_,λq1 q2 q3=>?_⟩
  ·rw [q,xw.2 rfl] at h;cases h
  ·obtain ⟨xi,xt,xr⟩:=x
   obtain ⟨yi,yt,yr⟩:=y
   have q3:=xw.1 q3
   simp only at q1 q2 q3
   rw [q1,q2,q3]
 ·have h3:=xw.1 h3
  have h5:ac=bc:=Lt h2 λi a b=>h4 i _ _ a (eB a) (eB b)
  exact (he.2 (by rw [h1,h3,h5])).symm
noncomputable def ajw (n m:Nat):Ctx:=cP n m [] [(24,Cd)]
theorem VK (n m:Nat):CB PP (ajw n m):=cR n m trivial ⟨M9,trivial⟩
theorem af5:dm (PP ()) 23 XG:=by
 refine fl (VK 0 0) (fo Try.func23) (λa=>⟨zh a.a,zh a.b,trivial⟩) (λa=>trivial) ?_
 rintro ⟨⟨an,ac,ad⟩,⟨bn,bc,bd⟩,e⟩ hx
 obtain ⟨⟨CF,qX,FT⟩,⟨pq,ot,qU⟩,he⟩:Oq ⟨an,ac,ad⟩ ⟨bn,bc,bd⟩ e:=hx
 have CF:ac.length<=1000000:=CF
 have pq:bc.length<=1000000:=pq
 have FT:ad.length<=1000000000000:=mV FT (by decide)
 have qU:bd.length<=1000000000000:=mV qU (by decide)
 have qX:∀x∈ac,x.ins.length<=1000000000000:=λx hx=>mV (qX x hx) (by decide)
 have ot:∀x∈bc,x.ins.length<=1000000000000:=λx hx=>mV (ot x hx) (by decide)
 have hF:=sqF he
 clear he
 refine ⟨?_⟩
 cbv
 refine ⟨λh=>?_,λh=>?_⟩
 ·have q:¬an=bn:=aL
  have e:=hF.n q
  cbv
  exact ⟨by have eR:=e;exact bJ⟩
 have g1:an=bn:=aL
 clear h
 cbv
 refine ⟨λh=>?_,λh=>?_⟩
 ·have q:¬(ac.length:Int)=bc.length:=aL
  have e:=hF.l q
  cbv
  exact ⟨by have eR:=e;exact bJ⟩
 have g2:(ac.length:Int)=bc.length:=aL
 have g2:=hF.ll g2
 clear h
 cbv
 refine ⟨⟨ad,bd⟩,⟨by exact a7,FT,qU⟩,?_⟩
 cbv
 refine ⟨λh=>?_,λh=>?_⟩
 ·have q:jI ad bd=false:=by
       have h':(!jI ad bd)=true:=h.out
       simpa using h'
  have e:=hF.d q
  cbv
  exact ⟨by have eR:=e;exact bJ⟩
 have g3:jI ad bd=true:=by
      have h':(!jI ad bd)=false:=h.out
      simpa using h'
 clear h
 cbv
 refine Sat.eE (VK 0 0) 2 5 [] (λi:Nat=>[(5,.i .i64 λ_=>(i:Int))]) (λ_=>[]) (λi=>i<=ac.length/\∀(j:Nat) (x y:Cell),j < i->ac[j]?=some x->bc[j]?=some y->x=y) (λi=>ac.length - i) 0 (by exact aW) (by exact aW) ⟨cK _,λj x y h=>absurd h (sZ _)⟩ ?_
 intro i hi
 obtain ⟨hi,hq⟩:i<=ac.length/\∀(j:Nat) (x y:Cell),j < i->ac[j]?=some x->bc[j]?=some y->x=y:=hi
 have h0:=n0 i
 have h1:=eO (i:=i) (by omega)
 have CJ:i < ac.length->i < bc.length:=λh=>by omega
 cbv
 refine ⟨λh=>?_,λh=>?_⟩
 ·have aQ:i < ac.length:=aL
  have cy:ac.length - (i+1) < ac.length - i:=by omega
  have E7:=CJ aQ
  refine (cC aQ).elim λx=>?_
  refine x.casesOn λxi xt xr hx=>?_
  refine (cC E7).elim λy=>?_
  refine y.casesOn λyi yt yr hy=>?_
  have hc:=hF.c i _ _ hx hy
  have u5:=qX _ (cL hx)
  have lI:=ot _ (cL hy)
  have c1:¬xt=yt->false=e:=hc.1
  have c2:¬xr=yr->false=e:=hc.2.1
  have c3:jI xi yi=false->false=e:=hc.2.2.1
  have c4:xt=yt->xr=yr->jI xi yi=true->(⟨xi,xt,xr⟩:Cell)=⟨yi,yt,yr⟩:=hc.2.2.2
  have bW:(⟨xi,xt,xr⟩:Cell)=⟨yi,yt,yr⟩->(i+1<=ac.length/\∀(j:Nat) (x y:Cell),j < i+1->ac[j]?=some x->bc[j]?=some y->x=y)/\ac.length - (i+1) < ac.length - i:=λheq=>⟨⟨aQ,λj u v hj hu hv=>by
    by_cases qY:j=i
    ·subst qY;rw [hx] at hu;rw [hy] at hv;cases hu;cases hv;exact heq
    ·exact hq j u v (by omega) hu hv⟩,cy⟩
  clear h hc
  cbv
  refine ⟨⟨xi,xt,xr⟩,⟨h0,hx⟩,?_⟩
  cbv
  refine ⟨⟨yi,yt,yr⟩,⟨h0,hy⟩,?_⟩
  cbv
  refine ⟨λh=>?_,λh=>?_⟩
  ·have q:¬xt=yt:=aL
   have e:=c1 q
   cbv
   exact ⟨by have eR:=e;exact bJ⟩
  have q1:xt=yt:=aL
  clear h
  cbv
  refine ⟨λh=>?_,λh=>?_⟩
  ·have q:¬xr=yr:=aL
   have e:=c2 q
   cbv
   exact ⟨by have eR:=e;exact bJ⟩
  have q2:xr=yr:=aL
  clear h
  cbv
  refine ⟨⟨xi,yi⟩,⟨by exact a7,u5,lI⟩,?_⟩
  cbv
  refine ⟨λh=>?_,λh=>?_⟩
  ·have q:jI xi yi=false:=by
         have h':(!jI xi yi)=true:=h.out
         simpa using h'
   have e:=c3 q
   cbv
   exact ⟨by have eR:=e;exact bJ⟩
  ·have q:jI xi yi=true:=by
        have h':(!jI xi yi)=false:=h.out
        simpa using h'
   have hn:=bW (c4 q1 q2 q)
   cbv
   exact ⟨i+1,by have bE:=h1;exact a8,by exact aW,⟨hn⟩⟩
 ·have b9:ac.length<=i:=aL
  have e:=hF.all g1 g2 g3 λj x y hj hx hy=>hq j x y (Nat.lt_of_lt_of_le hj b9) hx hy
  cbv
  exact ⟨by have eR:=e;exact bJ⟩
structure wG where
 m:ec
 c:kp
 e:Int
def Ot (x:wG):List SV:=[.i .i64 (λ_=>x.m.n),.sl 3 mC (λ_=>x.m.cells),.sl 1 bH (λ_=>x.m.bf),.sl 1 bH (λ_=>x.c.root),.sl 1 fR (λ_=>x.c.leaves),.i .i64 (λ_=>x.e)]
theorem UO (x:wG):bZ (Ot x):=⟨trivial,λx=>(Bp x).1,λx=>(dq x).1,λx=>(dq x).1,λx=>(qF x).1,trivial,trivial⟩
structure Na (x:wG):Prop where
 m:IA x.m
 r:x.c.root.length<=1000000000000
 l:x.c.leaves.length<=1000000/\∀l∈x.c.leaves,l.length<=1000000
structure Je (a b:wG) (e:Bool):Prop where
 la:Na a
 lb:Na b
 eq:e=true↔a=b
@[reducible] noncomputable def Ou:Vc.Spec where
 α:=NA wG
 args x:=[.agg (Ot x.a),.agg (Ot x.b)]
 pre x:=Je x.a x.b x.e
 res x:=.b (λ_=>x.e)
open Classical in
theorem alF {am bm:ec} {ar br:List Int} {al bl:List (List Int)} {ae be:Int} {e:Bool} (he:e=true↔(⟨am,⟨ar,al⟩,ae⟩:wG)=⟨bm,⟨br,bl⟩,be⟩) :
  ∃q1 q2:Bool,(q1=true↔am=bm)/\(q2=true↔al=bl)/\(gA ae be=false->false=e)/\(q1=false->false=e)/\(jI ar br=false->false=e)/\(gA ae be=true->q1=true->jI ar br=true->q2=e):=by
 have du:¬(⟨am,⟨ar,al⟩,ae⟩:wG)=⟨bm,⟨br,bl⟩,be⟩->false=e:=λh=>by cases e with
  | false=>rfl
  | true=>exact absurd (he.1 rfl) h
 refine ⟨decide (am=bm),decide (al=bl),by simp,by simp,λh=>du λq=>?_,λh=>du λq=>?_,λh=>du λq=>?_,λh1 h2 h3=>?_⟩
 ·have:ae=be:=congrArg wG.e q
  rw [this] at h;simp [gA] at h
 ·exact absurd (congrArg wG.m q) (by simpa using h)
 ·have:ar=br:=congrArg (λx=>x.c.root) q
  rw [this,xw.2 rfl] at h;cases h
 ·have h1:ae=be:=by simpa [gA] using h1
  have h2:am=bm:=by simpa using h2
  have h3:=xw.1 h3
  by_cases h:al=bl
  ·rw [decide_eq_true h]
   exact (he.2 (by rw [h1,h2,h3,h])).symm
  ·rw [decide_eq_false h]
   exact du λq=>h (congrArg (λx=>x.c.leaves) q)
noncomputable def ajx (n m:Nat):Ctx:=cP n m [] [(24,Cd),(23,XG),(25,XF)]
theorem af6 (n m:Nat):CB PP (ajx n m):=cR n m trivial ⟨M9,af5,af4,trivial⟩
theorem VL:dm (PP ()) 11 Ou:=by
 refine fl (af6 0 0) (fo Try.func11) (λa=>⟨UO a.a,UO a.b,trivial⟩) (λa=>trivial) ?_
 rintro ⟨⟨⟨an,ac,ad⟩,⟨ar,al⟩,ae⟩,⟨⟨bn,bc,bd⟩,⟨br,bl⟩,be⟩,e⟩ hx
 obtain ⟨⟨CF,qX,FT⟩,⟨pq,ot,qU⟩,he⟩:Je ⟨⟨an,ac,ad⟩,⟨ar,al⟩,ae⟩ ⟨⟨bn,bc,bd⟩,⟨br,bl⟩,be⟩ e:=hx
 obtain ⟨q1,q2,k1,k2,k3,k4,k5,k6⟩:=alF he
 have p1:Oq ⟨an,ac,ad⟩ ⟨bn,bc,bd⟩ q1:=⟨CF,pq,k1⟩
 have p2:On al bl q2:=⟨FT,qU,k2⟩
 have qX:ar.length<=1000000000000:=qX
 have ot:br.length<=1000000000000:=ot
 refine ⟨?_⟩
 cbv
 refine ⟨λh=>?_,λh=>?_⟩
 rotate_left
 ·have e:=k3 h.out
  cbv
  exact ⟨by have eR:=e;exact bJ⟩
 have g1:gA ae be=true:=h.out
 clear h
 cbv
 refine ⟨⟨⟨an,ac,ad⟩,⟨bn,bc,bd⟩,q1⟩,⟨by exact a7,p1⟩,?_⟩
 cbv
 refine ⟨λh=>?_,λh=>?_⟩
 rotate_left
 ·have e:=k4 h.out
  cbv
  exact ⟨by have eR:=e;exact bJ⟩
 have g2:q1=true:=h.out
 clear h
 cbv
 refine ⟨⟨ar,br⟩,⟨by exact a7,qX,ot⟩,?_⟩
 cbv
 refine ⟨λh=>?_,λh=>?_⟩
 rotate_left
 ·have e:=k5 h.out
  cbv
  exact ⟨by have eR:=e;exact bJ⟩
 have e:=k6 g1 g2 h.out
 clear h
 cbv
 refine ⟨⟨al,bl,q2⟩,⟨by exact a7,p2⟩,?_⟩
 cbv
 exact ⟨by have nq:=e;exact bJ⟩
noncomputable def ajy (n m:Nat):Ctx:=cP n m [] [(20,I9),(21,Oh),(22,N8)]
theorem H5 (n m:Nat):CB PP (ajy n m):=cR n m trivial ⟨M4,Vy,Vi,trivial⟩
theorem af7:dm (PP ()) 9 XA:=by
 refine fl (H5 0 0) (fo Try.func9) (λa=>⟨td a.n,zh a.m,Vz a.c,trivial⟩) (λa=>trivial) ?_
 rintro ⟨⟨ins,gs,outs,dr⟩,⟨mn,mc,md⟩,⟨R,V⟩,e⟩ hx
 have hx:E6 ⟨ins,gs,outs,dr⟩ ⟨mn,mc,md⟩ ⟨R,V⟩ e:=hx
 obtain ⟨l5,JX,ZN,ZO,eV⟩:=chF hx
 have hb:2+ins.length+gs.length<=600:=hx.G.oR
 have u6:dr.length<=1000000:=hx.dr
 have Az:mc.length<=1000000:=hx.cells
 obtain ⟨N,hN⟩:∃N:Int,2+(ins.length:Int)+gs.length=N:=⟨_,rfl⟩
 obtain ⟨L0,FU⟩:∃L0:Int,1+(ins.length:Int)=L0:=⟨_,rfl⟩
 have sx:IntKind.i64.wrap (1+(ins.length:Int))=L0:=by rw [<-FU];exact ei (by omega) (by omega)
 have wE:IntKind.i64.wrap (IntKind.i64.wrap (2+(ins.length:Int))+(gs.length:Int))=N:=by rw [ei (n:=2+(ins.length:Int)) (by omega) (by omega),ei (by omega) (by omega)];exact hN
 rw [hN,FU] at eV
 clear hx hb hN FU
 refine ⟨?_⟩
 cbv
 refine ⟨λh=>?_,λh=>?_⟩
 ·have bM:¬mn=(ins.length:Int):=aL
  have e1:=l5 bM
  cbv
  exact ⟨by have gE:=e1;exact bJ⟩
 have h1:mn=(ins.length:Int):=aL
 clear h
 cbv
 refine ⟨λh=>?_,λh=>?_⟩
 ·have bM:¬(R.length:Int)=mc.length:=aL
  have e1:=JX bM
  cbv
  exact ⟨by have gE:=e1;exact bJ⟩
 have h2:(R.length:Int)=mc.length:=aL
 clear h
 cbv
 refine ⟨λh=>?_,λh=>?_⟩
 ·have bM:¬(V.length:Int)=mc.length:=aL
  have e1:=ZN bM
  cbv
  exact ⟨by have gE:=e1;exact bJ⟩
 have h3:(V.length:Int)=mc.length:=aL
 clear h
 cbv
 refine ⟨λh=>?_,λh=>?_⟩
 ·have bM:¬(md.length:Int)=dr.length:=aL
  have e1:=ZO bM
  cbv
  exact ⟨by have gE:=e1;exact bJ⟩
 have h4:(md.length:Int)=dr.length:=aL
 obtain ⟨rB,Rk,sg,Ck,Dk,k1,k2,k3,ksg,kr0,ZP,ZQ,Ov,WB,kce,kde,kdn⟩:=eV h1 h2 h3 h4
 clear h eV l5 JX ZN ZO h2 h3 h4
 cbv
 refine Sat.eE (H5 0 0) 3 9 [] (λy:Nat × Int=>[(8,.i .i64 (λ_=>y.2)),(57,.sl 1 bH (λ_=>R)),(58,.i .i64 (λ_=>(R.length:Int))),(59,.i .i64 (λ_=>(y.1:Int)))]) (λ_=>[]) (λy=>y.1<=R.length/\rB=Rk y.1 y.2) (λy=>R.length - y.1) (0,L0) (by have bE:=sx;exact a8) (by exact aW) ⟨cK _,kr0⟩ ?_
 rintro ⟨i,last⟩ hi
 obtain ⟨hi,yx⟩:i<=R.length/\rB=Rk i last:=hi
 have dP:=n0 i
 have gB:=eO (i:=i) (by omega)
 have JY:=ZP i
 have ZR:=ZQ i last
 cbv
 refine ⟨λh=>?_,λh=>?_⟩
 ·have bP:i < R.length:=aL
  have cy:R.length - (i+1) < R.length - i:=by omega
  refine (cC bP).elim λr hr=>?_
  obtain ⟨r1,r2,r3⟩:=JY r last hr
  clear h
  cbv
  refine ⟨r,⟨dP,hr⟩,?_⟩
  cbv
  refine ⟨λh=>?_,λh=>?_⟩
  ·have hle:¬last < r:=aL
   have e1:=Ov (yx.trans (r1 hle))
   cbv
   exact ⟨by have gE:=e1;exact bJ⟩
  have aQ:last < r:=aL
  clear h
  cbv
  refine ⟨λh=>?_,λh=>?_⟩
  ·have b9:=h.out
   rw [wE] at b9
   have b9:¬r < N:=by simpa [jB] using b9
   have e1:=Ov (yx.trans (r2 b9))
   cbv
   exact ⟨by have gE:=e1;exact bJ⟩
  ·have b9:=h.out
   rw [wE] at b9
   have b9:r < N:=by simpa [jB] using b9
   have bW:(i+1<=R.length/\rB=Rk (i+1) r)/\R.length - (i+1) < R.length - i:=⟨⟨bP,yx.trans (r3 aQ b9)⟩,cy⟩
   clear h
   cbv
   exact ⟨(i+1,r),by have bE:=gB;exact a8,by exact aW,⟨bW⟩⟩
 have b9:R.length<=i:=aL
 obtain ⟨⟨g1,g2⟩,g3,g4⟩:=WB (yx.trans (ZR b9))
 have g12:ins.length<=1000000/\BO ins.length R:=⟨g1,g2⟩
 clear h WB ZP ZQ Ov ZR JY
 cbv
 refine ⟨⟨⟨ins,gs,outs,dr⟩,R⟩,⟨by exact a7,g12⟩,?_⟩
 cbv
 refine Sat.eE (H5 0 0) 3 12 [] (λi:Nat=>[(11,.mp (.int .i64) bH (λ_=>sg)),(85,.sl 3 mC (λ_=>mc)),(86,.i .i64 (λ_=>(mc.length:Int))),(87,.i .i64 (λ_=>(i:Int)))]) (λ_=>[]) (λi=>i<=mc.length/\Ck 0=Ck i) (λi=>mc.length - i) 0 (by have FE:=ksg;exact a8) (by exact aW) ⟨cK _,rfl⟩ ?_
 intro j hj
 obtain ⟨hj,PX⟩:j<=mc.length/\Ck 0=Ck j:=hj
 have l7:=n0 j
 have oS:=eO (i:=j) (by omega)
 have nt:=kce j
 cbv
 refine ⟨λh=>?_,λh=>?_⟩
 ·have e7:j < mc.length:=aL
  have cy:mc.length - (j+1) < mc.length - j:=by omega
  refine (cC e7).elim λx hx=>?_
  obtain ⟨r,l,y,t,c1,c2,c3,c4,c5,c6,c7,c8,c9,c10⟩:=g4 j x hx
  have sm:Ck j=false->260=e:=λq=>by rw [<-g3,PX,q];rfl
  have c6:¬t=0->260=e:=λq=>sm (c6 q)
  have c7:¬x.table=y.table->260=e:=λq=>sm (c7 q)
  have c8:¬x.ej=y.ej->260=e:=λq=>sm (c8 q)
  have c9:¬x.ins=y.ins->260=e:=λq=>sm (c9 q)
  obtain ⟨xi,xt,xr⟩:=x
  obtain ⟨yi,yt,yr⟩:=y
  clear h
  cbv
  refine ⟨⟨xi,xt,xr⟩,⟨l7,hx⟩,?_⟩
  cbv
  refine ⟨r,⟨l7,c1⟩,?_⟩
  cbv
  refine ⟨l,⟨l7,c2⟩,?_⟩
  cbv
  refine ⟨⟨⟨ins,gs,outs,dr⟩,r,l,sg,⟨yi,yt,yr⟩,t⟩,⟨by exact a7,c3⟩,?_⟩
  cbv
  refine ⟨λh=>?_,λh=>?_⟩
  ·have q1:¬t=0:=aL
   have e1:=c6 q1
   cbv
   exact ⟨by have gE:=e1;exact bJ⟩
  have q1:t=0:=aL
  clear h
  cbv
  refine ⟨λh=>?_,λh=>?_⟩
  ·have q2:¬xt=yt:=aL
   have e1:=c7 q2
   cbv
   exact ⟨by have gE:=e1;exact bJ⟩
  have q2:xt=yt:=aL
  clear h
  cbv
  refine ⟨λh=>?_,λh=>?_⟩
  ·have q3:¬xr=yr:=aL
   have e1:=c8 q3
   cbv
   exact ⟨by have gE:=e1;exact bJ⟩
  have q3:xr=yr:=aL
  clear h
  cbv
  refine ⟨⟨xi,yi⟩,⟨by exact a7,⟨c5,c4⟩⟩,?_⟩
  cbv
  refine ⟨λh=>?_,λh=>?_⟩
  ·have q4:¬xi=yi:=by have h':(!decide (xi=yi))=true:=h.out;simpa using h'
   have e1:=c9 q4
   cbv
   exact ⟨by have gE:=e1;exact bJ⟩
  ·have q4:xi=yi:=by have h':(!decide (xi=yi))=false:=h.out;simpa using h'
   have bW:(j+1<=mc.length/\Ck 0=Ck (j+1))/\mc.length - (j+1) < mc.length - j:=⟨⟨e7,PX.trans (c10 q1 q2 q3 q4)⟩,cy⟩
   cbv
   exact ⟨j+1,by have bE:=oS;exact a8,by exact aW,⟨bW⟩⟩
 have hjg:mc.length<=j:=aL
 have g5:vZ (Dk 0)=e:=by rw [<-g3,PX,nt hjg];rfl
 clear h
 cbv
 refine Sat.eE (H5 0 0) 3 12 [] (λi:Nat=>[(134,.sl 1 bH (λ_=>dr)),(135,.i .i64 (λ_=>(dr.length:Int))),(136,.i .i64 (λ_=>(i:Int)))]) (λ_=>[]) (λi=>i<=dr.length/\Dk 0=Dk i) (λi=>dr.length - i) 0 (by exact aW) (by exact aW) ⟨cK _,rfl⟩ ?_
 intro q hq
 obtain ⟨hq,PY⟩:q<=dr.length/\Dk 0=Dk q:=hq
 have u9:=n0 q
 have FV:=eO (i:=q) (by omega)
 have FW:=kde q
 cbv
 refine ⟨λh=>?_,λh=>?_⟩
 ·have uS:q < dr.length:=aL
  have cy:dr.length - (q+1) < dr.length - q:=by omega
  refine (cC uS).elim λv hv=>?_
  obtain ⟨t,t1,t2,t3,t4⟩:=kdn q v hv
  have sm:Dk q=false->260=e:=λw=>by rw [<-g5,PY,w];rfl
  clear h
  rcases hs:sg v with _|s
  ·have e1:=sm (t2 hs)
   cbv
   refine ⟨v,⟨u9,hv⟩,?_⟩
   cbv
   refine ⟨some none,⟨hs⟩,?_⟩
   cbv
   exact ⟨by have gE:=e1;exact bJ⟩
  ·cbv
   refine ⟨v,⟨u9,hv⟩,?_⟩
   cbv
   refine ⟨some (some s),⟨hs⟩,?_⟩
   cbv
   refine ⟨t,⟨u9,t1⟩,?_⟩
   cbv
   refine ⟨λh=>?_,λh=>?_⟩
   ·have bM:¬s=t:=aL
    have e1:=sm (t3 s hs bM)
    cbv
    exact ⟨by have gE:=e1;exact bJ⟩
   ·have heq:s=t:=aL
    have bW:(q+1<=dr.length/\Dk 0=Dk (q+1))/\dr.length - (q+1) < dr.length - q:=⟨⟨uS,PY.trans (t4 (by rw [hs,heq]))⟩,cy⟩
    cbv
    exact ⟨q+1,by have bE:=FV;exact a8,by exact aW,⟨bW⟩⟩
 have PZ:dr.length<=q:=aL
 have e1:0=e:=by rw [<-g5,PY,FW PZ];rfl
 cbv
 exact ⟨by have gE:=e1;exact bJ⟩
def uL (I:Nat) (l:List Bool) (x:Int):Prop:=x < 2+I\/l[x.toNat]?=some true
structure zF (I:Nat) (s:dJ) (l:List Bool) (v:Int) (l':List Bool):Prop where
 len:l'.length=l.length
 mono:∀u:Nat,l[u]?=some true->l'[u]?=some true
 nw:∀u:Nat,l'[u]?=some true->l[u]?=some true\/(2+I<=u/\l4 (iA I s) (·=v.toNat) u/\∀x∈iA I s u,uL I l' x)
 vi:uL I l' v
structure sI (I:Nat) (s:dJ) (l:List Bool) (v:Int) (L:List Int) (j:Nat) (l':List Bool):Prop where
 le:j<=L.length
 len:l'.length=l.length
 mono:∀u:Nat,l[u]?=some true->l'[u]?=some true
 vi:l'[v.toNat]?=some true
 nw:∀u:Nat,l'[u]?=some true->l[u]?=some true\/(2+I<=u/\l4 (iA I s) (·=v.toNat) u/\(u=v.toNat\/∀x∈iA I s u,uL I l' x))
 ch:∀i x,i < j->L[i]?=some x->uL I l' x
section
variable {I:Nat} {s:dJ} {l l' l2:List Bool} {v:Int}
theorem uL.mono (h:∀u:Nat,l[u]?=some true->l'[u]?=some true) {x:Int} (k:uL I l x):uL I l' x:=k.imp_right (h _)
theorem zF.known (h:uL I l v):zF I s l v l:=⟨rfl,λ_ h=>h,λ_ h=>.inl h,h⟩
theorem Mo {v u:Nat}:(l.set v true)[u]?=some true↔l[u]?=some true\/(u=v/\v < l.length):=by
 rw [jN]
 by_cases e:v=u
 ·subst e
  by_cases hl:v < l.length
  ·simp [hl]
  ·simp [hl]
 ·rw [if_neg e]
  exact ⟨.inl,λh=>h.resolve_right λ⟨a,_⟩=>e a.symm⟩
theorem sI.start (h0:2+(I:Int)<=v) (hl:v.toNat < l.length) (L:List Int):sI I s l v L 0 (l.set v.toNat true) where
 le:=cK _
 len:=y4
 mono u h:=Mo.2 (.inl h)
 vi:=Mo.2 (.inr ⟨rfl,hl⟩)
 nw u h:=by
  rcases Mo.1 h with h|⟨rfl,_⟩
  ·exact .inl h
  ·exact .inr ⟨by omega,.base rfl,.inl rfl⟩
 ch i x h:=by omega
theorem adT {x:Int} (hx:x∈iA I s v.toNat) {w:Nat} (h:l4 (iA I s) (·=x.toNat) w):l4 (iA I s) (·=v.toNat) w :=
 h.mono λu hu=>by subst hu;exact .step (.base rfl) hx
theorem sI.step {L:List Int} {j:Nat} {x:Int} (h:sI I s l v L j l') (hj:L[j]?=some x) (hx:x∈iA I s v.toNat) (k:zF I s l' x l2):sI I s l v L (j+1) l2 where
 le:=(bq.1 hj).1
 len:=k.len.trans h.len
 mono u hu:=k.mono u (h.mono u hu)
 vi:=k.mono _ h.vi
 nw u hu:=by
  rcases k.nw u hu with hu|⟨a,b,c⟩
  ·rcases h.nw u hu with hu|⟨a,b,c⟩
   ·exact .inl hu
   ·exact .inr ⟨a,b,c.imp_right λc y hy=>(c y hy).mono k.mono⟩
  ·exact .inr ⟨a,adT hx b,.inr c⟩
 ch i y hi hy:=by
  by_cases e:i=j
  ·subst e;rw [hj] at hy;cases hy;exact k.vi
  ·exact (h.ch i y (by omega) hy).mono k.mono
theorem sI.fin {L:List Int} {j:Nat} (h:sI I s l v L j l') (hj:L.length<=j) (hL:iA I s v.toNat=L):zF I s l v l' where
 len:=h.len
 mono:=h.mono
 nw u hu:=by
  rcases h.nw u hu with hu|⟨a,b,c⟩
  ·exact .inl hu
  ·refine .inr ⟨a,b,?_⟩
   rcases c with rfl|c
   ·intro x hx
    rw [hL] at hx
    obtain ⟨i,hi⟩:=qC hx
    exact h.ch i x (by have:=(bq.1 hi).1;omega) hi
   ·exact c
 vi:=.inr h.vi
end
structure q8 (I:Nat) (s:dJ) (bf:List Int) (N j:Nat) (l:List Bool):Prop where
 le:j<=bf.length
 len:l.length=N
 nw:∀u:Nat,l[u]?=some true->2+I<=u/\l4 (iA I s) (λw=>∃d∈bf,d.toNat=w) u/\∀x∈iA I s u,uL I l x
 ch:∀i x,i < j->bf[i]?=some x->uL I l x
theorem q8.start (I:Nat) (s:dJ) (bf:List Int) (N:Nat):q8 I s bf N 0 (List.replicate N false) where
 le:=cK _
 len:=yX
 nw u h:=by rw [ua] at h;split at h<;>cases h
 ch i x h:=by omega
theorem q8.step {I:Nat} {s:dJ} {bf:List Int} {N j:Nat} {l l2:List Bool} {x:Int} (h:q8 I s bf N j l) (hj:bf[j]?=some x) (k:zF I s l x l2):q8 I s bf N (j+1) l2 where
 le:=(bq.1 hj).1
 len:=k.len.trans h.len
 nw u hu:=by
  rcases k.nw u hu with hu|⟨a,b,c⟩
  ·obtain ⟨a,b,c⟩:=h.nw u hu
   exact ⟨a,b,λy hy=>(c y hy).mono k.mono⟩
  ·exact ⟨a,b.mono λu hu=>.base ⟨x,cL hj,hu.symm⟩,c⟩
 ch i y hi hy:=by
  by_cases e:i=j
  ·subst e;rw [hj] at hy;cases hy;exact k.vi
  ·exact (h.ch i y (by omega) hy).mono k.mono
theorem q8.fin {I:Nat} {gs:List Gate} (G:cv I gs) {s:dJ} (hs:ly I gs s) {bf:List Int} {j:Nat} {l:List Bool} (h:q8 I s bf (2+I+gs.length) j l) (hj:bf.length<=j) (hd:∀d∈bf,0<=d/\d < 2+I+gs.length) (v:Nat) :
  l[v]?=some true↔(v:Int)∈gk I s bf:=by
 rw [GW G hs hd]
 refine ⟨λhv=>?_,λ⟨h1,h2,h3⟩=>?_⟩
 ·obtain ⟨a,b,_⟩:=h.nw v hv
  have:=(bq.1 hv).1
  rw [h.len] at this
  exact ⟨a,this,b⟩
 ·suffices H:∀{u:Nat},l4 (iA I s) (λw=>∃d∈bf,d.toNat=w) u->2+I<=u->l[u]?=some true from H h3 h1
  intro u hu
  induction hu with
  | base hb =>
   intro hl
   obtain ⟨d,JA,rfl⟩:=hb
   obtain ⟨i,hi⟩:=qC JA
   rcases h.ch i d (by have:=(bq.1 hi).1;omega) hi with hc|hc
   ·omega
   ·exact hc
  | @step w x hw hx ih =>
   intro hl
   have P0:2+I<=w:=by
    unfold iA at hx
    split at hx
    ·cases hx
    ·omega
   have hwm:=ih P0
   rcases (h.nw w hwm).2.2 x hx with hc|hc
   ·omega
   ·exact hc
def oB (l:List Bool) (n:Nat):List Int:=((List.range n).filter λv=>l[v]? == some true).map λv:Nat=>(v:Int)
theorem abn {l:List Bool} {n:Nat} (h:l[n]?=some true):oB l (n+1)=oB l n++[(n:Int)]:=by
 unfold oB
 rw [Lw,Lm,vy,K8 (by rw [h];rfl)];rfl
theorem abR {l:List Bool} {n:Nat} (h:l[n]?=some false):oB l (n+1)=oB l n:=by
 unfold oB
 rw [Lw,Lm,vy,Sb (by rw [h];decide)]
 exact yR _
theorem abo {l:List Bool} {n:Nat} {x:Int}:x∈oB l n↔∃v:Nat,x=v/\v < n/\l[v]?=some true:=by
 unfold oB
 rw [jO]
 refine ⟨λ⟨v,hv,e⟩=>?_,λ⟨v,e,h1,h2⟩=>⟨v,?_,e.symm⟩⟩
 ·obtain ⟨a,b⟩:=k9.1 hv
  exact ⟨v,e.symm,lR.1 a,by simpa using b⟩
 ·exact k9.2 ⟨lR.2 h1,by rw [h2];rfl⟩
theorem abp (l:List Bool) (n:Nat):fY (oB l n):=by
 unfold oB fY
 rw [pM]
 exact (Bi.filter _).imp λh=>by omega
theorem RA (l:List Bool):∀n,(oB l n).length<=n
 | 0=>fP _
 | n+1=>by
  unfold oB
  rw [kr]
  exact mV (Dl _ _) (Nat.le_of_eq G8)
theorem aaX {I:Nat} {s:dJ} {bf:List Int} {l:List Bool} {n:Nat} (hn:l.length<=n) (h:∀v:Nat,l[v]?=some true↔(v:Int)∈gk I s bf):oB l n=gk I s bf :=
 (abp l n).ext (GX I s bf) λu=>by
  rw [abo]
  constructor
  ·rintro ⟨v,rfl,_,hv⟩
   exact (h v).1 hv
  ·intro hu
   have e:=AZ hu
   refine ⟨u.toNat,e.symm,?_,(h _).2 (by rw [e];exact hu)⟩
   have:=(bq.1 ((h u.toNat).2 (by rw [e];exact hu))).1
   omega
structure ajz where
 n:Net
 s:dJ
 l:List Bool
 v:Int
def XH (n:Net) (s:dJ) (l:List Bool):List Slot:=[.fix 34 (oj n),.fix 60 [.own 2],.dyn 4 1 o8 (λ_=>l),.fix 86 [.cZ (I5 n s) 0],.fix 92 [.fn (.func 33) [] [.ptr 0 0,.ptr 1 0,.ptr 3 0,.ptr 4 0]]]
structure Jf (n:Net) (s:dJ) (l:List Bool) (v:Int):Prop where
 G:cv n.ins.length n.bU
 s:ly n.ins.length n.bU s
 l:l.length=2+n.ins.length+n.bU.length
 v0:0<=v
 v1:v < 2+n.ins.length+n.bU.length
@[reducible] noncomputable def P1 (k:Nat):nU where
 α:=ajz
 args x:=[.i .i64 (λ_=>x.v),.ptr 0 0,.ptr 1 0,.ptr 3 0,.ptr 4 0]
 io x:=XH x.n x.s x.l
 pre x:=Jf x.n x.s x.l x.v/\x.v.toNat<=k
 β:=List Bool
 post x y:=zF x.n.ins.length x.s x.l x.v y
 mv:=[]
 res x y:=.bX []
 kZ x y:=XH x.n x.s y
noncomputable def cNe (n m:Nat):Ctx:=cP n m [(33,Try.f33)] [] [33]
theorem WC (n m:Nat):CB PP (cNe n m):=cR n m ⟨fo Try.func33,trivial⟩ trivial
theorem UP (k:Nat) (ih:∀m,m+1=k->lW PP 33 (P1 m)):lW PP 33 (P1 k):=by
 refine qV (WC 0 0) (fo Try.func33) (λa y=>rfl) (λa=>⟨rfl,rfl⟩) .nil ?_
 rintro ⟨⟨ins,gs,outs,dr⟩,⟨LL,CC,FF⟩,l,v⟩ hx
 obtain ⟨⟨G,hs,hl,ko,qZ⟩,hvk⟩:Jf ⟨ins,gs,outs,dr⟩ ⟨LL,CC,FF⟩ l v/\v.toNat<=k:=hx
 have G:cv ins.length gs:=G
 have hs:ly ins.length gs ⟨LL,CC,FF⟩:=hs
 have hl:l.length=2+ins.length+gs.length:=hl
 have qZ:v < 2+(ins.length:Int)+gs.length:=qZ
 have hF:FF.length=2+ins.length+gs.length:=hs.ni
 have hb:=G.oR
 have hw:IntKind.i64.wrap (2+(ins.length:Int))=2+ins.length:=ei (by omega) (by omega)
 obtain ⟨T,hT⟩:∃T:Int,2+(ins.length:Int)=T:=⟨_,rfl⟩
 have jq:v.toNat < l.length:=by omega
 have FO:v.toNat < FF.length:=by omega
 obtain ⟨b,yq⟩:=cC jq
 obtain ⟨L,hL⟩:=cC FO
 have CQ:T<=v->iA ins.length ⟨LL,CC,FF⟩ v.toNat=L:=λh=>by
  unfold iA
  rw [if_neg (by omega),List.getD_eq_getElem?_getD,hL];rfl
 have x3:=HV G hs v.toNat
 have JZ:T<=v->∀x∈L,0<=x/\x < v:=λh x hx=>by
  have:=x3 x (by rw [CQ h];exact hx);omega
 have AE:L.length<=600\/v < T:=by
  by_cases h:T<=v
  ·left
   obtain ⟨g,hg⟩:=cC (l:=gs) (i:=v.toNat - 2 - ins.length) (by omega)
   have:=hs.lf (v.toNat - 2 - ins.length) L g (by rw [show 2+ins.length+(v.toNat - 2 - ins.length)=v.toNat by omega];exact hL) hg
   split at this
   ·rw [this];have:=(y6 g).2;omega
   ·have:=this.2.1;omega
  ·right;omega
 have dc:0<=v/\l[v.toNat]?=some b:=⟨ko,yq⟩
 have XI:0<=v/\v.toNat < l.length:=⟨ko,jq⟩
 have hfv:0<=v/\FF[v.toNat]?=some L:=⟨ko,hL⟩
 have VM:v < T\/b=true->zF ins.length ⟨LL,CC,FF⟩ l v l:=λh=>.known (h.imp (λh=>by omega) λh=>by rw [<-h];exact yq)
 obtain ⟨l1,jc⟩:∃l1,l.set v.toNat true=l1:=⟨_,rfl⟩
 have yp:T<=v->sI ins.length ⟨LL,CC,FF⟩ l v L 0 l1:=λh=>jc ▸ sI.start (by omega) jq L
 have hw:=hw.trans hT
 have eV:T<=v->iA ins.length ⟨LL,CC,FF⟩ v.toNat=L/\(∀x∈L,0<=x/\x < v)/\sI ins.length ⟨LL,CC,FF⟩ l v L 0 l1/\L.length<=600/\(∀x∈L,x∈iA ins.length ⟨LL,CC,FF⟩ v.toNat)/\∃m,m+1=k:=λh =>
  ⟨CQ h,JZ h,yp h,AE.resolve_right (by omega),λx hx=>by rw [CQ h];exact hx,k - 1,by omega⟩
 clear CQ JZ yp AE x3
 refine ⟨?_⟩
 cbv
 refine ⟨λh=>?_,λh=>?_⟩
 ·have aQ:fj v (IntKind.i64.wrap (2+(ins.length:Int)))=true:=h.out
  rw [hw] at aQ
  have aQ:v < T:=by simpa [fj] using aQ
  have cX:=VM (.inl aQ)
  cbv
  exact ⟨l,[],[],⟨by exact gw,trivial⟩,by exact aW,⟨cX⟩⟩
 have b9:fj v (IntKind.i64.wrap (2+(ins.length:Int)))=false:=h.out
 rw [hw] at b9
 have b9:T<=v:=by
     have h':¬v < T:=by simpa [fj] using b9
     exact Int.not_lt.1 h'
 obtain ⟨CQ,JZ,yp,AE,hLx,m,qg⟩:=eV b9
 have ih:=ih m qg
 clear h
 cbv
 refine ⟨⟨XI⟩,?_⟩
 cbv
 refine ⟨b,⟨yq,rfl⟩,?_⟩
 cbv
 refine ⟨λh=>?_,λh=>?_⟩
 ·have q7:b=true:=h.out
  have cX:=VM (.inr q7)
  cbv
  exact ⟨l,[],[],⟨by exact gw,trivial⟩,by exact aW,⟨cX⟩⟩
 clear h
 cbv
 refine ⟨⟨XI⟩,?_⟩
 cbv
 refine ⟨(b,true),⟨yq,rfl,by exact gw⟩,?_⟩
 cbv
 refine ⟨L,⟨hfv⟩,?_⟩
 cbv
 refine Sat.eE (WC 0 0) 6 5 [] (λy:Nat × List Bool=>[(29,.sl 1 bH (λ_=>L)),(30,.i .i64 (λ_=>(L.length:Int))),(31,.i .i64 (λ_=>(y.1:Int)))]) (λy=>[(2,.dyn 4 1 o8 (λ_=>y.2))]) (λy=>sI ins.length ⟨LL,CC,FF⟩ l v L y.1 y.2) (λy=>L.length - y.1) (0,l1) (by exact aW) (by have eG:=jc;exact a8) yp ?_
 rintro ⟨j,l2⟩ hJ
 have hJ:sI ins.length ⟨LL,CC,FF⟩ l v L j l2:=hJ
 have e7:=hJ.le
 have kW:l2.length=2+ins.length+gs.length:=hJ.len.trans hl
 have l7:=n0 j
 have oS:=eO (i:=j) (by omega)
 cbv
 refine ⟨λh=>?_,λh=>?_⟩
 rotate_left
 ·have Jb:L.length<=j:=aL
  have cX:=hJ.fin Jb CQ
  cbv
  exact ⟨l2,[],[],⟨by exact gw,trivial⟩,by exact aW,⟨cX⟩⟩
 have E5:j < L.length:=aL
 have cy:L.length - (j+1) < L.length - j:=by omega
 refine (cC E5).elim λx hx=>?_
 have FM:=cL hx
 have lG:=JZ x FM
 have dL:Jf ⟨ins,gs,outs,dr⟩ ⟨LL,CC,FF⟩ l2 x/\x.toNat<=m:=⟨⟨G,hs,kW,lG.1,Int.lt_trans lG.2 qZ⟩,by have:=lG.1;have:=lG.2;omega⟩
 have JU:=hLx x FM
 clear h
 cbv
 refine ⟨x,⟨l7,hx⟩,?_⟩
 cbv
 refine iW.tM ih (λa y=>trivial) ⟨⟨ins,gs,outs,dr⟩,⟨LL,CC,FF⟩,l2,x⟩ [0,1,2,3,4] rfl (by exact a7) (by exact aW) ⟨dL⟩ λy hy=>?_
 have bW:=hJ.step hx JU hy.out
 cbv
 exact ⟨(j+1,y),by have bE:=oS;exact a8,by exact aW,⟨⟨bW,cy⟩⟩⟩
theorem WD:∀k,lW PP 33 (P1 k)
 | 0=>UP 0 λm h=>by omega
 | k+1=>UP (k+1) λm h=>by
  cases Nat.succ.inj h
  exact WD k
@[reducible] noncomputable def XJ:Vc.Spec where
 α:=List Int
 args x:=[.sl 1 bH (λ_=>x)]
 pre x:=x.length<=1000000
 res x:=.sl 1 bH (λ_=>x)
noncomputable def ajA (n m:Nat):Ctx:=cP n m [] [] [] [] [] [32]
theorem af8 (n m:Nat):CB PP (ajA n m):=cR n m trivial trivial
theorem af9:dm (PP ()) 34 XJ:=by
 refine fl (af8 0 0) (fo Try.func34) (λa=>⟨λx=>(dq x).1,trivial⟩) (λa=>λx=>(dq x).1) ?_
 intro l hx
 have hl:l.length<=1000000:=hx
 have b1:l.length*8<=140737488355328:=by omega
 have b2:l.length<=9223372036854775807:=by omega
 have b3:(0+l.length)*8<=140737488355328:=by omega
 have b4:0+l.length<=9223372036854775807:=by omega
 refine ⟨?_⟩
 cbv
 refine ⟨λh=>?_,?_⟩
 ·have hn:l=[]:=by
   have h':=h.out
   simpa using h'
  subst hn
  cbv
  exact ⟨by exact a7⟩
 refine ⟨l,⟨by exact gw,b3,b4⟩,?_⟩
 cbv
 exact ⟨by exact a7⟩
end Go.Proofs.Pk
