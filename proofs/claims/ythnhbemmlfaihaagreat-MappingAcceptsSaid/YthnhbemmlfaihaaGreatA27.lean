import Derived.Test.YthnhbemmlfaihaaGreatA13
import Derived.Test.YthnhbemmlfaihaaGreatA15
import Derived.Test.YthnhbemmlfaihaaGreatA25
import Derived.Test.YthnhbemmlfaihaaGreatA26
set_option linter.unusedVariables false
set_option linter.unusedSimpArgs false
set_option maxRecDepth 10000
set_option maxHeartbeats 64000000
namespace Go.Proofs.Pk
open Go Go.Vc
theorem T7:∀{a b:List Int},a.length=b.length->sf a b=false->sf b a=false->a=b
 | [],[],_,_,_=>rfl
 | [],_ :: _,h,_,_=>by simp at h
 | _ :: _,[],h,_,_=>by simp at h
 | x :: a,y :: b,h,h1,h2=>by
  unfold sf at h1 h2
  by_cases e:x=y
  ·subst e
   simp at h1 h2
   rw [T7 (by simpa using h) h1 h2]
  ·rw [if_pos e] at h1
   rw [if_pos λq=>e q.symm] at h2
   simp only [decide_eq_false_iff_not] at h1 h2
   omega
theorem S6:∀a:List Int,sf a a=false
 | []=>rfl
 | x :: a=>by unfold sf;simp [S6 a]
theorem acQ {a b:List Int} (h:a.length=b.length) (h1:lZ a b=false) (h2:lZ b a=false):a=b:=by
 unfold lZ at h1 h2
 rw [if_neg (by simp [h])] at h1 h2
 exact T7 h h1 h2
theorem R9 (a:List Int):lZ a a=false:=by
 unfold lZ
 rw [if_neg (by simp)]
 exact S6 a
structure ND (A:Type) where
 a:A
 b:A
 e:Bool
@[reducible] noncomputable def Cs:Vc.Spec where
 α:=ajB Int
 args x:=[.sl 1 bJ (λ_=>x.a),.sl 1 bJ (λ_=>x.b)]
 pre x:=x.a.length<=1000000000000/\x.b.length<=1000000000000
 res x:=.b (λ_=>jI x.a x.b)
noncomputable def ajC (n m:Nat):Ctx:=cW n m [] []
theorem VS (n m:Nat):CB PP (ajC n m):=cZ n m trivial trivial
theorem Nc:cY (PP ()) 108 Cs:=by
 refine e6 (VS 0 0) (fo Tryz.func108) (λa=>⟨(λx=>(dq x).1),(λx=>(dq x).1),trivial⟩) (λa=>trivial) ?_
 rintro ⟨a,b⟩ hx
 obtain ⟨ha,hb⟩:a.length<=1000000000000/\b.length<=1000000000000:=hx
 have dC:¬(a.length:Int)=b.length->false=jI a b:=λh=>(VR λe=>h (by rw [e])).symm
 have lK:(a.length:Int)=b.length->a.length=b.length:=λh=>by omega
 refine ⟨?_⟩
 cbv
 refine ⟨λh=>?_,λh=>?_⟩
 ·have gy:¬(a.length:Int)=b.length:=aG
  have e:=dC gy
  cbv
  exact ⟨by have eV:=e;exact bM⟩
 have gy:(a.length:Int)=b.length:=aG
 have gy:=lK gy
 clear h
 cbv
 refine Sat.dP (VS 0 0) 0 5 [] (λi:Nat=>[(5,.i .i64 λ_=>(i:Int))]) (λ_=>[]) (λi=>i<=a.length/\∀(j:Nat) (x y:Int),j < i->a[j]?=some x->b[j]?=some y->x=y) (λi=>a.length - i) 0 (by exact aW) (by exact aW) ⟨cI _,λj x y h=>absurd h (s5 _)⟩ ?_
 intro i hi
 obtain ⟨hi,he⟩:i<=a.length/\∀(j:Nat) (x y:Int),j < i->a[j]?=some x->b[j]?=some y->x=y:=hi
 have h0:=n0 i
 have h1:=eh (i:=i) (by omega)
 have CV:i < a.length->i < b.length:=λh=>by omega
 cbv
 refine ⟨λh=>?_,λh=>?_⟩
 ·have aP:i < a.length:=aG
  have cf:a.length - (i+1) < a.length - i:=by omega
  have Fo:=CV aP
  refine (cg aP).elim λx hx=>?_
  refine (cg Fo).elim λy hy=>?_
  clear h
  cbv
  refine ⟨x,⟨h0,hx⟩,?_⟩
  cbv
  refine ⟨y,⟨h0,hy⟩,?_⟩
  cbv
  refine ⟨λh=>?_,λh=>?_⟩
  ·have bR:¬x=y:=aG
   have e:=(agd hx hy bR).symm
   cbv
   exact ⟨by have eV:=e;exact bM⟩
  ·have heq:x=y:=aG
   have cb:i+1<=a.length/\∀(j:Nat) (x y:Int),j < i+1->a[j]?=some x->b[j]?=some y->x=y:=⟨aP,λj u v hj hu hv=>by
    by_cases ra:j=i
    ·subst ra;rw [hx] at hu;rw [hy] at hv;cases hu;cases hv;exact heq
    ·exact he j u v (by omega) hu hv⟩
   cbv
   exact ⟨i+1,by have bK:=h1;exact bq,by exact aW,⟨⟨cb,cf⟩⟩⟩
 ·have bV:a.length<=i:=aG
  have e:true=jI a b:=(ae5 gy λj x y hx hy=>he j x y (by have:=(bf.1 hx).1;omega) hx hy).symm
  cbv
  exact ⟨by have eV:=e;exact bM⟩
noncomputable def ajD (n m:Nat):Ctx:=cW n m [] [(108,Cs)]
theorem age (n m:Nat):CB PP (ajD n m):=cZ n m trivial ⟨Nc,trivial⟩
theorem agf:cY (PP ()) 38 Cs:=by
 refine e6 (age 0 0) (fo Tryz.func38) (λa=>⟨(λx=>(dq x).1),(λx=>(dq x).1),trivial⟩) (λa=>trivial) ?_
 rintro ⟨a,b⟩ hx
 obtain ⟨ha,hb⟩:a.length<=1000000000000/\b.length<=1000000000000:=hx
 refine ⟨?_⟩
 cbv
 refine ⟨⟨a,b⟩,⟨by exact a8,ha,hb⟩,?_⟩
 cbv
 exact ⟨by exact a8⟩
structure Ox (a b:List (List Int)) (e:Bool):Prop where
 la:a.length<=1000000/\∀l∈a,l.length<=1000000
 lb:b.length<=1000000/\∀l∈b,l.length<=1000000
 eq:e=true↔a=b
@[reducible] noncomputable def XT:Vc.Spec where
 α:=ND (List (List Int))
 args x:=[.sl 1 fT (λ_=>x.a),.sl 1 fT (λ_=>x.b)]
 pre x:=Ox x.a x.b x.e
 res x:=.b (λ_=>x.e)
noncomputable def ajE (n m:Nat):Ctx:=cW n m [] [(183,Iv)]
theorem VT (n m:Nat):CB PP (ajE n m):=cZ n m trivial ⟨Mu,trivial⟩
theorem agh:cY (PP ()) 109 XT:=by
 refine e6 (VT 0 0) (fo Tryz.func109) (λa=>⟨(λx=>(qJ x).1),(λx=>(qJ x).1),trivial⟩) (λa=>trivial) ?_
 rintro ⟨a,b,e⟩ hx
 obtain ⟨⟨ha,q9⟩,⟨hb,oz⟩,he⟩:Ox a b e:=hx
 have dC:¬a=b->false=e:=λh=>by cases e with
  | false=>rfl
  | true=>exact absurd (he.1 rfl) h
 have yb:a=b->true=e:=λh=>(he.2 h).symm
 have x5:¬(a.length:Int)=b.length->false=e:=λh=>dC λe=>h (by rw [e])
 have lK:(a.length:Int)=b.length->a.length=b.length:=λh=>by omega
 have bR:∀(i:Nat) (x y:List Int),a[i]?=some x->b[i]?=some y->¬x=y->false=e:=λi x y hx hy h=>dC λq=>h (by rw [q,hy] at hx;exact (vD hx).symm)
 have pw:∀x y:List Int,¬(x.length:Int)=y.length->¬x=y:=λx y h e=>h (by rw [e])
 have e7:a.length=b.length->(∀(j:Nat) (x y:List Int),j < a.length->a[j]?=some x->b[j]?=some y->x=y)->true=e:=λhl h=>yb (LB hl λi h1 h2=>h i _ _ h1 (eG h1) (eG h2))
 have Oy:∀x y:List Int,(x.length:Int)=y.length->lZ x y=false->lZ y x=false->x=y:=λx y h h1 h2=>acQ (by omega) h1 h2
 have P3:∀x y:List Int,lZ x y=true->¬x=y:=λx y h q=>by rw [q,R9] at h;cases h
 refine ⟨?_⟩
 cbv
 refine ⟨λh=>?_,λh=>?_⟩
 ·have gy:¬(a.length:Int)=b.length:=aG
  have e:=x5 gy
  cbv
  exact ⟨by have eV:=e;exact bM⟩
 have gy:(a.length:Int)=b.length:=aG
 have gy:=lK gy
 clear h
 cbv
 refine Sat.dP (VT 0 0) 0 5 [] (λi:Nat=>[(5,.i .i64 λ_=>(i:Int))]) (λ_=>[]) (λi=>i<=a.length/\∀(j:Nat) (x y:List Int),j < i->a[j]?=some x->b[j]?=some y->x=y) (λi=>a.length - i) 0 (by exact aW) (by exact aW) ⟨cI _,λj x y h=>absurd h (s5 _)⟩ ?_
 intro i hi
 obtain ⟨hi,hq⟩:i<=a.length/\∀(j:Nat) (x y:List Int),j < i->a[j]?=some x->b[j]?=some y->x=y:=hi
 have h0:=n0 i
 have h1:=eh (i:=i) (by omega)
 have CV:i < a.length->i < b.length:=λh=>by omega
 cbv
 refine ⟨λh=>?_,λh=>?_⟩
 ·have aP:i < a.length:=aG
  have cf:a.length - (i+1) < a.length - i:=by omega
  have Fo:=CV aP
  refine (cg aP).elim λx hx=>?_
  refine (cg Fo).elim λy hy=>?_
  have tT:=q9 x (cM hx)
  have lK:=oz y (cM hy)
  have bR:=bR i x y hx hy
  have pw:=pw x y
  have Oy:=Oy x y
  have P3:=P3 x y
  have zP:∀q:lZ y x=true,¬x=y:=λq w=>by rw [w,R9] at q;cases q
  have cb:x=y->(i+1<=a.length/\∀(j:Nat) (x y:List Int),j < i+1->a[j]?=some x->b[j]?=some y->x=y)/\a.length - (i+1) < a.length - i:=λheq=>⟨⟨aP,λj u v hj hu hv=>by
    by_cases ra:j=i
    ·subst ra;rw [hx] at hu;rw [hy] at hv;cases hu;cases hv;exact heq
    ·exact hq j u v (by omega) hu hv⟩,cf⟩
  clear h
  cbv
  refine ⟨x,⟨h0,hx⟩,?_⟩
  cbv
  refine ⟨y,⟨h0,hy⟩,?_⟩
  cbv
  refine ⟨λh=>?_,λh=>?_⟩
  ·have hl:¬(x.length:Int)=y.length:=aG
   have e:=bR (pw hl)
   cbv
   exact ⟨by have eV:=e;exact bM⟩
  have hl:(x.length:Int)=y.length:=aG
  clear h
  cbv
  refine ⟨x,⟨h0,hx⟩,?_⟩
  cbv
  refine ⟨y,⟨h0,hy⟩,?_⟩
  cbv
  refine ⟨⟨x,y⟩,⟨by exact a8,tT,lK⟩,?_⟩
  cbv
  refine ⟨λh=>?_,λh=>?_⟩
  ·have e:=bR (P3 h.out)
   cbv
   exact ⟨by have eV:=e;exact bM⟩
  have q1:lZ x y=false:=h.out
  clear h
  cbv
  refine ⟨y,⟨h0,hy⟩,?_⟩
  cbv
  refine ⟨x,⟨h0,hx⟩,?_⟩
  cbv
  refine ⟨⟨y,x⟩,⟨by exact a8,lK,tT⟩,?_⟩
  cbv
  refine ⟨λh=>?_,λh=>?_⟩
  ·have e:=bR (zP h.out)
   cbv
   exact ⟨by have eV:=e;exact bM⟩
  ·have q2:lZ y x=false:=h.out
   have hn:=cb (Oy hl q1 q2)
   cbv
   exact ⟨i+1,by have bK:=h1;exact bq,by exact aW,⟨hn⟩⟩
 ·have bV:a.length<=i:=aG
  have e:=e7 gy λj x y hj hx hy=>hq j x y (Nat.lt_of_lt_of_le hj bV) hx hy
  cbv
  exact ⟨by have eV:=e;exact bM⟩
structure EJ (m:ea):Prop where
 cells:m.cells.length<=1000000
 cin:∀x∈m.cells,x.ins.length<=1000000
 dr:m.bA.length<=1000000
structure Jw (a b:ea) (e:Bool):Prop where
 la:EJ a
 lb:EJ b
 eq:e=true↔a=b
@[reducible] noncomputable def Oz:Vc.Spec where
 α:=ND ea
 args x:=[.agg (wa x.a),.agg (wa x.b)]
 pre x:=Jw x.a x.b x.e
 res x:=.b (λ_=>x.e)
structure SqF (an bn:Int) (ac bc:List Cell) (ad bd:List Int) (e:Bool):Prop where
 n:¬an=bn->false=e
 l:¬(ac.length:Int)=bc.length->false=e
 d:jI ad bd=false->false=e
 ll:(ac.length:Int)=bc.length->ac.length=bc.length
 c:∀(i:Nat) (x y:Cell),ac[i]?=some x->bc[i]?=some y->(¬x.table=y.table->false=e)/\(¬x.ej=y.ej->false=e)/\(jI x.ins y.ins=false->false=e)/\(x.table=y.table->x.ej=y.ej->jI x.ins y.ins=true->x=y)
 all:an=bn->ac.length=bc.length->jI ad bd=true->(∀(j:Nat) (x y:Cell),j < ac.length->ac[j]?=some x->bc[j]?=some y->x=y)->true=e
theorem sqF {an bn:Int} {ac bc:List Cell} {ad bd:List Int} {e:Bool} (he:e=true↔(⟨an,ac,ad⟩:ea)=⟨bn,bc,bd⟩):SqF an bn ac bc ad bd e:=by
 have dC:¬(⟨an,ac,ad⟩:ea)=⟨bn,bc,bd⟩->false=e:=λh=>by cases e with
  | false=>rfl
  | true=>exact absurd (he.1 rfl) h
 refine ⟨λh=>dC λq=>h (congrArg ea.n q),λh=>dC λq=>h (by rw [show ac=bc from congrArg ea.cells q]),λh=>dC λq=>?_,λh=>by omega,λi x y hx hy=>?_,λh1 h2 h3 h4=>?_⟩
 ·have:ad=bd:=congrArg ea.bA q
  rw [this,xw.2 rfl] at h;cases h
 ·have bR:¬x=y->false=e:=λh=>dC λq=>h (by
   have:ac=bc:=congrArg ea.cells q
   rw [this,hy] at hx;exact (vD hx).symm)
  refine ⟨λh=>bR λq=>h (by rw [q]),λh=>bR λq=>h (by rw [q]),λh=>bR λq=>?_,λq1 q2 q3=>?_⟩
  ·rw [q,xw.2 rfl] at h;cases h
  ·obtain ⟨xi,xt,xr⟩:=x
   obtain ⟨yi,yt,yr⟩:=y
   have q3:=xw.1 q3
   simp only at q1 q2 q3
   rw [q1,q2,q3]
 ·have h3:=xw.1 h3
  have h5:ac=bc:=LB h2 λi a b=>h4 i _ _ a (eG a) (eG b)
  exact (he.2 (by rw [h1,h3,h5])).symm
noncomputable def ajF (n m:Nat):Ctx:=cW n m [] [(108,Cs)]
theorem VU (n m:Nat):CB PP (ajF n m):=cZ n m trivial ⟨Nc,trivial⟩
theorem VV:cY (PP ()) 55 Oz:=by
 refine e6 (VU 0 0) (fo Tryz.func55) (λa=>⟨xu a.a,xu a.b,trivial⟩) (λa=>trivial) ?_
 rintro ⟨⟨an,ac,ad⟩,⟨bn,bc,bd⟩,e⟩ hx
 obtain ⟨⟨yg,q9,Gc⟩,⟨ov,oz,qY⟩,he⟩:Jw ⟨an,ac,ad⟩ ⟨bn,bc,bd⟩ e:=hx
 have yg:ac.length<=1000000:=yg
 have ov:bc.length<=1000000:=ov
 have Gc:ad.length<=1000000000000:=na Gc (by decide)
 have qY:bd.length<=1000000000000:=na qY (by decide)
 have q9:∀x∈ac,x.ins.length<=1000000000000:=λx hx=>na (q9 x hx) (by decide)
 have oz:∀x∈bc,x.ins.length<=1000000000000:=λx hx=>na (oz x hx) (by decide)
 have hF:=sqF he
 clear he
 refine ⟨?_⟩
 cbv
 refine ⟨λh=>?_,λh=>?_⟩
 ·have q:¬an=bn:=aG
  have e:=hF.n q
  cbv
  exact ⟨by have eV:=e;exact bM⟩
 have g1:an=bn:=aG
 clear h
 cbv
 refine ⟨λh=>?_,λh=>?_⟩
 ·have q:¬(ac.length:Int)=bc.length:=aG
  have e:=hF.l q
  cbv
  exact ⟨by have eV:=e;exact bM⟩
 have g2:(ac.length:Int)=bc.length:=aG
 have g2:=hF.ll g2
 clear h
 cbv
 refine ⟨⟨ad,bd⟩,⟨by exact a8,Gc,qY⟩,?_⟩
 cbv
 refine ⟨λh=>?_,λh=>?_⟩
 ·have q:jI ad bd=false:=by
       have h':(!jI ad bd)=true:=h.out
       simpa using h'
  have e:=hF.d q
  cbv
  exact ⟨by have eV:=e;exact bM⟩
 have g3:jI ad bd=true:=by
      have h':(!jI ad bd)=false:=h.out
      simpa using h'
 clear h
 cbv
 refine Sat.dP (VU 0 0) 2 5 [] (λi:Nat=>[(5,.i .i64 λ_=>(i:Int))]) (λ_=>[]) (λi=>i<=ac.length/\∀(j:Nat) (x y:Cell),j < i->ac[j]?=some x->bc[j]?=some y->x=y) (λi=>ac.length - i) 0 (by exact aW) (by exact aW) ⟨cI _,λj x y h=>absurd h (s5 _)⟩ ?_
 intro i hi
 obtain ⟨hi,hq⟩:i<=ac.length/\∀(j:Nat) (x y:Cell),j < i->ac[j]?=some x->bc[j]?=some y->x=y:=hi
 have h0:=n0 i
 have h1:=eh (i:=i) (by omega)
 have CV:i < ac.length->i < bc.length:=λh=>by omega
 cbv
 refine ⟨λh=>?_,λh=>?_⟩
 ·have aP:i < ac.length:=aG
  have cf:ac.length - (i+1) < ac.length - i:=by omega
  have Fo:=CV aP
  refine (cg aP).elim λx=>?_
  refine x.casesOn λxi xt xr hx=>?_
  refine (cg Fo).elim λy=>?_
  refine y.casesOn λyi yt yr hy=>?_
  have hc:=hF.c i _ _ hx hy
  have tT:=q9 _ (cM hx)
  have lK:=oz _ (cM hy)
  have c1:¬xt=yt->false=e:=hc.1
  have c2:¬xr=yr->false=e:=hc.2.1
  have c3:jI xi yi=false->false=e:=hc.2.2.1
  have c4:xt=yt->xr=yr->jI xi yi=true->(⟨xi,xt,xr⟩:Cell)=⟨yi,yt,yr⟩:=hc.2.2.2
  have cb:(⟨xi,xt,xr⟩:Cell)=⟨yi,yt,yr⟩->(i+1<=ac.length/\∀(j:Nat) (x y:Cell),j < i+1->ac[j]?=some x->bc[j]?=some y->x=y)/\ac.length - (i+1) < ac.length - i:=λheq=>⟨⟨aP,λj u v hj hu hv=>by
    by_cases ra:j=i
    ·subst ra;rw [hx] at hu;rw [hy] at hv;cases hu;cases hv;exact heq
    ·exact hq j u v (by omega) hu hv⟩,cf⟩
  clear h hc
  cbv
  refine ⟨⟨xi,xt,xr⟩,⟨h0,hx⟩,?_⟩
  cbv
  refine ⟨⟨yi,yt,yr⟩,⟨h0,hy⟩,?_⟩
  cbv
  refine ⟨λh=>?_,λh=>?_⟩
  ·have q:¬xt=yt:=aG
   have e:=c1 q
   cbv
   exact ⟨by have eV:=e;exact bM⟩
  have q1:xt=yt:=aG
  clear h
  cbv
  refine ⟨λh=>?_,λh=>?_⟩
  ·have q:¬xr=yr:=aG
   have e:=c2 q
   cbv
   exact ⟨by have eV:=e;exact bM⟩
  have q2:xr=yr:=aG
  clear h
  cbv
  refine ⟨⟨xi,yi⟩,⟨by exact a8,tT,lK⟩,?_⟩
  cbv
  refine ⟨λh=>?_,λh=>?_⟩
  ·have q:jI xi yi=false:=by
         have h':(!jI xi yi)=true:=h.out
         simpa using h'
   have e:=c3 q
   cbv
   exact ⟨by have eV:=e;exact bM⟩
  ·have q:jI xi yi=true:=by
        have h':(!jI xi yi)=false:=h.out
        simpa using h'
   have hn:=cb (c4 q1 q2 q)
   cbv
   exact ⟨i+1,by have bK:=h1;exact bq,by exact aW,⟨hn⟩⟩
 ·have bV:ac.length<=i:=aG
  have e:=hF.all g1 g2 g3 λj x y hj hx hy=>hq j x y (Nat.lt_of_lt_of_le hj bV) hx hy
  cbv
  exact ⟨by have eV:=e;exact bM⟩
structure wI where
 m:ea
 c:kA
 e:Int
def OA (x:wI):List SV:=[.i .i64 (λ_=>x.m.n),.sl 3 mF (λ_=>x.m.cells),.sl 1 bJ (λ_=>x.m.bA),.sl 1 bJ (λ_=>x.c.root),.sl 1 fT (λ_=>x.c.leaves),.i .i64 (λ_=>x.e)]
theorem UZ (x:wI):cj (OA x):=⟨trivial,λx=>(Bz x).1,λx=>(dq x).1,λx=>(dq x).1,λx=>(qJ x).1,trivial,trivial⟩
structure Nd (x:wI):Prop where
 m:EJ x.m
 r:x.c.root.length<=1000000000000
 l:x.c.leaves.length<=1000000/\∀l∈x.c.leaves,l.length<=1000000
structure OB (a b:wI) (e:Bool):Prop where
 la:Nd a
 lb:Nd b
 eq:e=true↔a=b
@[reducible] noncomputable def XU:Vc.Spec where
 α:=ND wI
 args x:=[.agg (OA x.a),.agg (OA x.b)]
 pre x:=OB x.a x.b x.e
 res x:=.b (λ_=>x.e)
open Classical in
theorem alF {am bm:ea} {ar br:List Int} {al bl:List (List Int)} {ae be:Int} {e:Bool} (he:e=true↔(⟨am,⟨ar,al⟩,ae⟩:wI)=⟨bm,⟨br,bl⟩,be⟩) :
  ∃q1 q2:Bool,(q1=true↔am=bm)/\(q2=true↔al=bl)/\(ga ae be=false->false=e)/\(q1=false->false=e)/\(jI ar br=false->false=e)/\(ga ae be=true->q1=true->jI ar br=true->q2=e):=by
 have dC:¬(⟨am,⟨ar,al⟩,ae⟩:wI)=⟨bm,⟨br,bl⟩,be⟩->false=e:=λh=>by cases e with
  | false=>rfl
  | true=>exact absurd (he.1 rfl) h
 refine ⟨decide (am=bm),decide (al=bl),by simp,by simp,λh=>dC λq=>?_,λh=>dC λq=>?_,λh=>dC λq=>?_,λh1 h2 h3=>?_⟩
 ·have:ae=be:=congrArg wI.e q
  rw [this] at h;simp [ga] at h
 ·exact absurd (congrArg wI.m q) (by simpa using h)
 ·have:ar=br:=congrArg (λx=>x.c.root) q
  rw [this,xw.2 rfl] at h;cases h
 ·have h1:ae=be:=by simpa [ga] using h1
  have h2:am=bm:=by simpa using h2
  have h3:=xw.1 h3
  by_cases h:al=bl
  ·rw [decide_eq_true h]
   exact (he.2 (by rw [h1,h2,h3,h])).symm
  ·rw [decide_eq_false h]
   exact dC λq=>h (congrArg (λx=>x.c.leaves) q)
noncomputable def ajG (n m:Nat):Ctx:=cW n m [] [(108,Cs),(55,Oz),(109,XT)]
theorem agi (n m:Nat):CB PP (ajG n m):=cZ n m trivial ⟨Nc,VV,agh,trivial⟩
theorem agj:cY (PP ()) 36 XU:=by
 refine e6 (agi 0 0) (fo Tryz.func36) (λa=>⟨UZ a.a,UZ a.b,trivial⟩) (λa=>trivial) ?_
 rintro ⟨⟨⟨an,ac,ad⟩,⟨ar,al⟩,ae⟩,⟨⟨bn,bc,bd⟩,⟨br,bl⟩,be⟩,e⟩ hx
 obtain ⟨⟨yg,q9,Gc⟩,⟨ov,oz,qY⟩,he⟩:OB ⟨⟨an,ac,ad⟩,⟨ar,al⟩,ae⟩ ⟨⟨bn,bc,bd⟩,⟨br,bl⟩,be⟩ e:=hx
 obtain ⟨q1,q2,k1,k2,k3,k4,k5,k6⟩:=alF he
 have p1:Jw ⟨an,ac,ad⟩ ⟨bn,bc,bd⟩ q1:=⟨yg,ov,k1⟩
 have p2:Ox al bl q2:=⟨Gc,qY,k2⟩
 have q9:ar.length<=1000000000000:=q9
 have oz:br.length<=1000000000000:=oz
 refine ⟨?_⟩
 cbv
 refine ⟨λh=>?_,λh=>?_⟩
 rotate_left
 ·have e:=k3 h.out
  cbv
  exact ⟨by have eV:=e;exact bM⟩
 have g1:ga ae be=true:=h.out
 clear h
 cbv
 refine ⟨⟨⟨an,ac,ad⟩,⟨bn,bc,bd⟩,q1⟩,⟨by exact a8,p1⟩,?_⟩
 cbv
 refine ⟨λh=>?_,λh=>?_⟩
 rotate_left
 ·have e:=k4 h.out
  cbv
  exact ⟨by have eV:=e;exact bM⟩
 have g2:q1=true:=h.out
 clear h
 cbv
 refine ⟨⟨ar,br⟩,⟨by exact a8,q9,oz⟩,?_⟩
 cbv
 refine ⟨λh=>?_,λh=>?_⟩
 rotate_left
 ·have e:=k5 h.out
  cbv
  exact ⟨by have eV:=e;exact bM⟩
 have e:=k6 g1 g2 h.out
 clear h
 cbv
 refine ⟨⟨al,bl,q2⟩,⟨by exact a8,p2⟩,?_⟩
 cbv
 exact ⟨by have ny:=e;exact bM⟩
noncomputable def ajH (n m:Nat):Ctx:=cW n m [] [(115,Jr),(116,Oo),(96,Od)]
theorem Iw (n m:Nat):CB PP (ajH n m):=cZ n m trivial ⟨M8,VI,Vs,trivial⟩
theorem VW:cY (PP ()) 44 Oq:=by
 refine e6 (Iw 0 0) (fo Tryz.func44) (λa=>⟨rQ a.n,xu a.m,VJ a.c,trivial⟩) (λa=>trivial) ?_
 rintro ⟨⟨ins,gs,outs,dr⟩,⟨mn,mc,md⟩,⟨R,V⟩,e⟩ hx
 have hx:Fm ⟨ins,gs,outs,dr⟩ ⟨mn,mc,md⟩ ⟨R,V⟩ e:=hx
 obtain ⟨mL,AI,ZZ,Z0,e7⟩:=chF hx
 have hb:2+ins.length+gs.length<=600:=hx.G.mK
 have tU:dr.length<=1000000:=hx.dr
 have AF:mc.length<=1000000:=hx.cells
 obtain ⟨N,hN⟩:∃N:Int,2+(ins.length:Int)+gs.length=N:=⟨_,rfl⟩
 obtain ⟨L0,Gd⟩:∃L0:Int,1+(ins.length:Int)=L0:=⟨_,rfl⟩
 have nt:IntKind.i64.wrap (1+(ins.length:Int))=L0:=by rw [<-Gd];exact dV (by omega) (by omega)
 have qj:IntKind.i64.wrap (IntKind.i64.wrap (2+(ins.length:Int))+(gs.length:Int))=N:=by rw [dV (n:=2+(ins.length:Int)) (by omega) (by omega),dV (by omega) (by omega)];exact hN
 rw [hN,Gd] at e7
 clear hx hb hN Gd
 refine ⟨?_⟩
 cbv
 refine ⟨λh=>?_,λh=>?_⟩
 ·have bR:¬mn=(ins.length:Int):=aG
  have e1:=mL bR
  cbv
  exact ⟨by have fW:=e1;exact bM⟩
 have h1:mn=(ins.length:Int):=aG
 clear h
 cbv
 refine ⟨λh=>?_,λh=>?_⟩
 ·have bR:¬(R.length:Int)=mc.length:=aG
  have e1:=AI bR
  cbv
  exact ⟨by have fW:=e1;exact bM⟩
 have h2:(R.length:Int)=mc.length:=aG
 clear h
 cbv
 refine ⟨λh=>?_,λh=>?_⟩
 ·have bR:¬(V.length:Int)=mc.length:=aG
  have e1:=ZZ bR
  cbv
  exact ⟨by have fW:=e1;exact bM⟩
 have h3:(V.length:Int)=mc.length:=aG
 clear h
 cbv
 refine ⟨λh=>?_,λh=>?_⟩
 ·have bR:¬(md.length:Int)=dr.length:=aG
  have e1:=Z0 bR
  cbv
  exact ⟨by have fW:=e1;exact bM⟩
 have h4:(md.length:Int)=dr.length:=aG
 obtain ⟨rB,Rk,sg,Ck,Dk,k1,k2,k3,ksg,kr0,Z1,Z2,OC,WR,kce,kde,kdn⟩:=e7 h1 h2 h3 h4
 clear h e7 mL AI ZZ Z0 h2 h3 h4
 cbv
 refine Sat.dP (Iw 0 0) 3 9 [] (λy:Nat × Int=>[(8,.i .i64 (λ_=>y.2)),(57,.sl 1 bJ (λ_=>R)),(58,.i .i64 (λ_=>(R.length:Int))),(59,.i .i64 (λ_=>(y.1:Int)))]) (λ_=>[]) (λy=>y.1<=R.length/\rB=Rk y.1 y.2) (λy=>R.length - y.1) (0,L0) (by have bK:=nt;exact bq) (by exact aW) ⟨cI _,kr0⟩ ?_
 rintro ⟨i,last⟩ hi
 obtain ⟨hi,yv⟩:i<=R.length/\rB=Rk i last:=hi
 have dv:=n0 i
 have eW:=eh (i:=i) (by omega)
 have Kg:=Z1 i
 have Z3:=Z2 i last
 cbv
 refine ⟨λh=>?_,λh=>?_⟩
 ·have bO:i < R.length:=aG
  have cf:R.length - (i+1) < R.length - i:=by omega
  refine (cg bO).elim λr hr=>?_
  obtain ⟨r1,r2,r3⟩:=Kg r last hr
  clear h
  cbv
  refine ⟨r,⟨dv,hr⟩,?_⟩
  cbv
  refine ⟨λh=>?_,λh=>?_⟩
  ·have hle:¬last < r:=aG
   have e1:=OC (yv.trans (r1 hle))
   cbv
   exact ⟨by have fW:=e1;exact bM⟩
  have aP:last < r:=aG
  clear h
  cbv
  refine ⟨λh=>?_,λh=>?_⟩
  ·have bV:=h.out
   rw [qj] at bV
   have bV:¬r < N:=by simpa [iG] using bV
   have e1:=OC (yv.trans (r2 bV))
   cbv
   exact ⟨by have fW:=e1;exact bM⟩
  ·have bV:=h.out
   rw [qj] at bV
   have bV:r < N:=by simpa [iG] using bV
   have cb:(i+1<=R.length/\rB=Rk (i+1) r)/\R.length - (i+1) < R.length - i:=⟨⟨bO,yv.trans (r3 aP bV)⟩,cf⟩
   clear h
   cbv
   exact ⟨(i+1,r),by have bK:=eW;exact bq,by exact aW,⟨cb⟩⟩
 have bV:R.length<=i:=aG
 obtain ⟨⟨g1,g2⟩,g3,g4⟩:=WR (yv.trans (Z3 bV))
 have g12:ins.length<=1000000/\B1 ins.length R:=⟨g1,g2⟩
 clear h WR Z1 Z2 OC Z3 Kg
 cbv
 refine ⟨⟨⟨ins,gs,outs,dr⟩,R⟩,⟨by exact a8,g12⟩,?_⟩
 cbv
 refine Sat.dP (Iw 0 0) 3 12 [] (λi:Nat=>[(11,.mp (.int .i64) bJ (λ_=>sg)),(85,.sl 3 mF (λ_=>mc)),(86,.i .i64 (λ_=>(mc.length:Int))),(87,.i .i64 (λ_=>(i:Int)))]) (λ_=>[]) (λi=>i<=mc.length/\Ck 0=Ck i) (λi=>mc.length - i) 0 (by have FV:=ksg;exact bq) (by exact aW) ⟨cI _,rfl⟩ ?_
 intro j hj
 obtain ⟨hj,P4⟩:j<=mc.length/\Ck 0=Ck j:=hj
 have jg:=n0 j
 have lg:=eh (i:=j) (by omega)
 have lM:=kce j
 cbv
 refine ⟨λh=>?_,λh=>?_⟩
 ·have ei:j < mc.length:=aG
  have cf:mc.length - (j+1) < mc.length - j:=by omega
  refine (cg ei).elim λx hx=>?_
  obtain ⟨r,l,y,t,c1,c2,c3,c4,c5,c6,c7,c8,c9,c10⟩:=g4 j x hx
  have si:Ck j=false->260=e:=λq=>by rw [<-g3,P4,q];rfl
  have c6:¬t=0->260=e:=λq=>si (c6 q)
  have c7:¬x.table=y.table->260=e:=λq=>si (c7 q)
  have c8:¬x.ej=y.ej->260=e:=λq=>si (c8 q)
  have c9:¬x.ins=y.ins->260=e:=λq=>si (c9 q)
  obtain ⟨xi,xt,xr⟩:=x
  obtain ⟨yi,yt,yr⟩:=y
  clear h
  cbv
  refine ⟨⟨xi,xt,xr⟩,⟨jg,hx⟩,?_⟩
  cbv
  refine ⟨r,⟨jg,c1⟩,?_⟩
  cbv
  refine ⟨l,⟨jg,c2⟩,?_⟩
  cbv
  refine ⟨⟨⟨ins,gs,outs,dr⟩,r,l,sg,⟨yi,yt,yr⟩,t⟩,⟨by exact a8,c3⟩,?_⟩
  cbv
  refine ⟨λh=>?_,λh=>?_⟩
  ·have q1:¬t=0:=aG
   have e1:=c6 q1
   cbv
   exact ⟨by have fW:=e1;exact bM⟩
  have q1:t=0:=aG
  clear h
  cbv
  refine ⟨λh=>?_,λh=>?_⟩
  ·have q2:¬xt=yt:=aG
   have e1:=c7 q2
   cbv
   exact ⟨by have fW:=e1;exact bM⟩
  have q2:xt=yt:=aG
  clear h
  cbv
  refine ⟨λh=>?_,λh=>?_⟩
  ·have q3:¬xr=yr:=aG
   have e1:=c8 q3
   cbv
   exact ⟨by have fW:=e1;exact bM⟩
  have q3:xr=yr:=aG
  clear h
  cbv
  refine ⟨⟨xi,yi⟩,⟨by exact a8,⟨c5,c4⟩⟩,?_⟩
  cbv
  refine ⟨λh=>?_,λh=>?_⟩
  ·have q4:¬xi=yi:=by have h':(!decide (xi=yi))=true:=h.out;simpa using h'
   have e1:=c9 q4
   cbv
   exact ⟨by have fW:=e1;exact bM⟩
  ·have q4:xi=yi:=by have h':(!decide (xi=yi))=false:=h.out;simpa using h'
   have cb:(j+1<=mc.length/\Ck 0=Ck (j+1))/\mc.length - (j+1) < mc.length - j:=⟨⟨ei,P4.trans (c10 q1 q2 q3 q4)⟩,cf⟩
   cbv
   exact ⟨j+1,by have bK:=lg;exact bq,by exact aW,⟨cb⟩⟩
 have hjg:mc.length<=j:=aG
 have g5:wb (Dk 0)=e:=by rw [<-g3,P4,lM hjg];rfl
 clear h
 cbv
 refine Sat.dP (Iw 0 0) 3 12 [] (λi:Nat=>[(134,.sl 1 bJ (λ_=>dr)),(135,.i .i64 (λ_=>(dr.length:Int))),(136,.i .i64 (λ_=>(i:Int)))]) (λ_=>[]) (λi=>i<=dr.length/\Dk 0=Dk i) (λi=>dr.length - i) 0 (by exact aW) (by exact aW) ⟨cI _,rfl⟩ ?_
 intro q hq
 obtain ⟨hq,P5⟩:q<=dr.length/\Dk 0=Dk q:=hq
 have vj:=n0 q
 have AJ:=eh (i:=q) (by omega)
 have Ge:=kde q
 cbv
 refine ⟨λh=>?_,λh=>?_⟩
 ·have uY:q < dr.length:=aG
  have cf:dr.length - (q+1) < dr.length - q:=by omega
  refine (cg uY).elim λv hv=>?_
  obtain ⟨t,t1,t2,t3,t4⟩:=kdn q v hv
  have si:Dk q=false->260=e:=λw=>by rw [<-g5,P5,w];rfl
  clear h
  rcases hs:sg v with _|s
  ·have e1:=si (t2 hs)
   cbv
   refine ⟨v,⟨vj,hv⟩,?_⟩
   cbv
   refine ⟨some none,⟨hs⟩,?_⟩
   cbv
   exact ⟨by have fW:=e1;exact bM⟩
  ·cbv
   refine ⟨v,⟨vj,hv⟩,?_⟩
   cbv
   refine ⟨some (some s),⟨hs⟩,?_⟩
   cbv
   refine ⟨t,⟨vj,t1⟩,?_⟩
   cbv
   refine ⟨λh=>?_,λh=>?_⟩
   ·have bR:¬s=t:=aG
    have e1:=si (t3 s hs bR)
    cbv
    exact ⟨by have fW:=e1;exact bM⟩
   ·have heq:s=t:=aG
    have cb:(q+1<=dr.length/\Dk 0=Dk (q+1))/\dr.length - (q+1) < dr.length - q:=⟨⟨uY,P5.trans (t4 (by rw [hs,heq]))⟩,cf⟩
    cbv
    exact ⟨q+1,by have bK:=AJ;exact bq,by exact aW,⟨cb⟩⟩
 have P6:dr.length<=q:=aG
 have e1:0=e:=by rw [<-g5,P5,Ge P6];rfl
 cbv
 exact ⟨by have fW:=e1;exact bM⟩
def uR (I:Nat) (l:List Bool) (x:Int):Prop:=x < 2+I\/l[x.toNat]?=some true
structure zI (I:Nat) (s:dW) (l:List Bool) (v:Int) (l':List Bool):Prop where
 len:l'.length=l.length
 mono:∀u:Nat,l[u]?=some true->l'[u]?=some true
 nw:∀u:Nat,l'[u]?=some true->l[u]?=some true\/(2+I<=u/\ox (j9 I s) (·=v.toNat) u/\∀x∈j9 I s u,uR I l' x)
 vi:uR I l' v
structure sH (I:Nat) (s:dW) (l:List Bool) (v:Int) (L:List Int) (j:Nat) (l':List Bool):Prop where
 le:j<=L.length
 len:l'.length=l.length
 mono:∀u:Nat,l[u]?=some true->l'[u]?=some true
 vi:l'[v.toNat]?=some true
 nw:∀u:Nat,l'[u]?=some true->l[u]?=some true\/(2+I<=u/\ox (j9 I s) (·=v.toNat) u/\(u=v.toNat\/∀x∈j9 I s u,uR I l' x))
 ch:∀i x,i < j->L[i]?=some x->uR I l' x
section
variable {I:Nat} {s:dW} {l l' l2:List Bool} {v:Int}
theorem uR.mono (h:∀u:Nat,l[u]?=some true->l'[u]?=some true) {x:Int} (k:uR I l x):uR I l' x:=k.imp_right (h _)
theorem zI.known (h:uR I l v):zI I s l v l:=⟨rfl,λ_ h=>h,λ_ h=>.inl h,h⟩
theorem Mv {v u:Nat}:(l.set v true)[u]?=some true↔l[u]?=some true\/(u=v/\v < l.length):=by
 rw [jP]
 by_cases e:v=u
 ·subst e
  by_cases hl:v < l.length
  ·simp [hl]
  ·simp [hl]
 ·rw [if_neg e]
  exact ⟨.inl,λh=>h.resolve_right λ⟨a,_⟩=>e a.symm⟩
theorem sH.start (h0:2+(I:Int)<=v) (hl:v.toNat < l.length) (L:List Int):sH I s l v L 0 (l.set v.toNat true) where
 le:=cI _
 len:=y8
 mono u h:=Mv.2 (.inl h)
 vi:=Mv.2 (.inr ⟨rfl,hl⟩)
 nw u h:=by
  rcases Mv.1 h with h|⟨rfl,_⟩
  ·exact .inl h
  ·exact .inr ⟨by omega,.base rfl,.inl rfl⟩
 ch i x h:=by omega
theorem ad5 {x:Int} (hx:x∈j9 I s v.toNat) {w:Nat} (h:ox (j9 I s) (·=x.toNat) w):ox (j9 I s) (·=v.toNat) w :=
 h.mono λu hu=>by subst hu;exact .step (.base rfl) hx
theorem sH.step {L:List Int} {j:Nat} {x:Int} (h:sH I s l v L j l') (hj:L[j]?=some x) (hx:x∈j9 I s v.toNat) (k:zI I s l' x l2):sH I s l v L (j+1) l2 where
 le:=(bf.1 hj).1
 len:=k.len.trans h.len
 mono u hu:=k.mono u (h.mono u hu)
 vi:=k.mono _ h.vi
 nw u hu:=by
  rcases k.nw u hu with hu|⟨a,b,c⟩
  ·rcases h.nw u hu with hu|⟨a,b,c⟩
   ·exact .inl hu
   ·exact .inr ⟨a,b,c.imp_right λc y hy=>(c y hy).mono k.mono⟩
  ·exact .inr ⟨a,ad5 hx b,.inr c⟩
 ch i y hi hy:=by
  by_cases e:i=j
  ·subst e;rw [hj] at hy;cases hy;exact k.vi
  ·exact (h.ch i y (by omega) hy).mono k.mono
theorem sH.fin {L:List Int} {j:Nat} (h:sH I s l v L j l') (hj:L.length<=j) (hL:j9 I s v.toNat=L):zI I s l v l' where
 len:=h.len
 mono:=h.mono
 nw u hu:=by
  rcases h.nw u hu with hu|⟨a,b,c⟩
  ·exact .inl hu
  ·refine .inr ⟨a,b,?_⟩
   rcases c with rfl|c
   ·intro x hx
    rw [hL] at hx
    obtain ⟨i,hi⟩:=qG hx
    exact h.ch i x (by have:=(bf.1 hi).1;omega) hi
   ·exact c
 vi:=.inr h.vi
end
structure ri (I:Nat) (s:dW) (bA:List Int) (N j:Nat) (l:List Bool):Prop where
 le:j<=bA.length
 len:l.length=N
 nw:∀u:Nat,l[u]?=some true->2+I<=u/\ox (j9 I s) (λw=>∃d∈bA,d.toNat=w) u/\∀x∈j9 I s u,uR I l x
 ch:∀i x,i < j->bA[i]?=some x->uR I l x
theorem ri.start (I:Nat) (s:dW) (bA:List Int) (N:Nat):ri I s bA N 0 (List.replicate N false) where
 le:=cI _
 len:=y4
 nw u h:=by rw [ud] at h;split at h<;>cases h
 ch i x h:=by omega
theorem ri.step {I:Nat} {s:dW} {bA:List Int} {N j:Nat} {l l2:List Bool} {x:Int} (h:ri I s bA N j l) (hj:bA[j]?=some x) (k:zI I s l x l2):ri I s bA N (j+1) l2 where
 le:=(bf.1 hj).1
 len:=k.len.trans h.len
 nw u hu:=by
  rcases k.nw u hu with hu|⟨a,b,c⟩
  ·obtain ⟨a,b,c⟩:=h.nw u hu
   exact ⟨a,b,λy hy=>(c y hy).mono k.mono⟩
  ·exact ⟨a,b.mono λu hu=>.base ⟨x,cM hj,hu.symm⟩,c⟩
 ch i y hi hy:=by
  by_cases e:i=j
  ·subst e;rw [hj] at hy;cases hy;exact k.vi
  ·exact (h.ch i y (by omega) hy).mono k.mono
theorem ri.fin {I:Nat} {gs:List Gate} (G:cC I gs) {s:dW} (hs:lX I gs s) {bA:List Int} {j:Nat} {l:List Bool} (h:ri I s bA (2+I+gs.length) j l) (hj:bA.length<=j) (hd:∀d∈bA,0<=d/\d < 2+I+gs.length) (v:Nat) :
  l[v]?=some true↔(v:Int)∈jo I s bA:=by
 rw [RY G hs hd]
 refine ⟨λhv=>?_,λ⟨h1,h2,h3⟩=>?_⟩
 ·obtain ⟨a,b,_⟩:=h.nw v hv
  have:=(bf.1 hv).1
  rw [h.len] at this
  exact ⟨a,this,b⟩
 ·suffices H:∀{u:Nat},ox (j9 I s) (λw=>∃d∈bA,d.toNat=w) u->2+I<=u->l[u]?=some true from H h3 h1
  intro u hu
  induction hu with
  | base hb =>
   intro hl
   obtain ⟨d,JT,rfl⟩:=hb
   obtain ⟨i,hi⟩:=qG JT
   rcases h.ch i d (by have:=(bf.1 hi).1;omega) hi with hc|hc
   ·omega
   ·exact hc
  | @step w x hw hx ih =>
   intro hl
   have P7:2+I<=w:=by
    unfold j9 at hx
    split at hx
    ·cases hx
    ·omega
   have hwm:=ih P7
   rcases (h.nw w hwm).2.2 x hx with hc|hc
   ·omega
   ·exact hc
def oE (l:List Bool) (n:Nat):List Int:=((List.range n).filter λv=>l[v]? == some true).map λv:Nat=>(v:Int)
theorem aby {l:List Bool} {n:Nat} (h:l[n]?=some true):oE l (n+1)=oE l n++[(n:Int)]:=by
 unfold oE
 rw [LD,Lu,vC,Lh (by rw [h];rfl)];rfl
theorem ab0 {l:List Bool} {n:Nat} (h:l[n]?=some false):oE l (n+1)=oE l n:=by
 unfold oE
 rw [LD,Lu,vC,Sj (by rw [h];decide)]
 exact yU _
theorem abz {l:List Bool} {n:Nat} {x:Int}:x∈oE l n↔∃v:Nat,x=v/\v < n/\l[v]?=some true:=by
 unfold oE
 rw [jw]
 refine ⟨λ⟨v,hv,e⟩=>?_,λ⟨v,e,h1,h2⟩=>⟨v,?_,e.symm⟩⟩
 ·obtain ⟨a,b⟩:=lx.1 hv
  exact ⟨v,e.symm,mr.1 a,by simpa using b⟩
 ·exact lx.2 ⟨mr.2 h1,by rw [h2];rfl⟩
theorem abA (l:List Bool) (n:Nat):gd (oE l n):=by
 unfold oE gd
 rw [pM]
 exact (Br.filter _).imp λh=>by omega
theorem RE (l:List Bool):∀n,(oE l n).length<=n
 | 0=>fN _
 | n+1=>by
  unfold oE
  rw [jQ]
  exact na (Dy _ _) (Nat.le_of_eq Hk)
theorem aba {I:Nat} {s:dW} {bA:List Int} {l:List Bool} {n:Nat} (hn:l.length<=n) (h:∀v:Nat,l[v]?=some true↔(v:Int)∈jo I s bA):oE l n=jo I s bA :=
 (abA l n).ext (RZ I s bA) λu=>by
  rw [abz]
  constructor
  ·rintro ⟨v,rfl,_,hv⟩
   exact (h v).1 hv
  ·intro hu
   have e:=R0 hu
   refine ⟨u.toNat,e.symm,?_,(h _).2 (by rw [e];exact hu)⟩
   have:=(bf.1 ((h u.toNat).2 (by rw [e];exact hu))).1
   omega
structure ajI where
 n:Net
 s:dW
 l:List Bool
 v:Int
def XV (n:Net) (s:dW) (l:List Bool):List Slot:=[.fix 48 (oj n),.fix 41 [.own 2],.dyn 4 1 pe (λ_=>l),.fix 320 [.db (Jm n s) 0],.fix 187 [.fn (.func 182) [] [.ptr 0 0,.ptr 1 0,.ptr 3 0,.ptr 4 0]]]
structure Jx (n:Net) (s:dW) (l:List Bool) (v:Int):Prop where
 G:cC n.ins.length n.cq
 s:lX n.ins.length n.cq s
 l:l.length=2+n.ins.length+n.cq.length
 v0:0<=v
 v1:v < 2+n.ins.length+n.cq.length
@[reducible] noncomputable def P8 (k:Nat):nU where
 α:=ajI
 args x:=[.i .i64 (λ_=>x.v),.ptr 0 0,.ptr 1 0,.ptr 3 0,.ptr 4 0]
 io x:=XV x.n x.s x.l
 pre x:=Jx x.n x.s x.l x.v/\x.v.toNat<=k
 β:=List Bool
 post x y:=zI x.n.ins.length x.s x.l x.v y
 mv:=[]
 res x y:=.cd []
 ld x y:=XV x.n x.s y
noncomputable def cNe (n m:Nat):Ctx:=cW n m [(182,Tryz.f182)] [] [182]
theorem WS (n m:Nat):CB PP (cNe n m):=cZ n m ⟨fo Tryz.func182,trivial⟩ trivial
theorem U1 (k:Nat) (ih:∀m,m+1=k->l5 PP 182 (P8 m)):l5 PP 182 (P8 k):=by
 refine qZ (WS 0 0) (fo Tryz.func182) (λa y=>rfl) (λa=>⟨rfl,rfl⟩) .nil ?_
 rintro ⟨⟨ins,gs,outs,dr⟩,⟨LL,CC,FF⟩,l,v⟩ hx
 obtain ⟨⟨G,hs,hl,jH,rf⟩,hvk⟩:Jx ⟨ins,gs,outs,dr⟩ ⟨LL,CC,FF⟩ l v/\v.toNat<=k:=hx
 have G:cC ins.length gs:=G
 have hs:lX ins.length gs ⟨LL,CC,FF⟩:=hs
 have hl:l.length=2+ins.length+gs.length:=hl
 have rf:v < 2+(ins.length:Int)+gs.length:=rf
 have hF:FF.length=2+ins.length+gs.length:=hs.oN
 have hb:=G.mK
 have hw:IntKind.i64.wrap (2+(ins.length:Int))=2+ins.length:=dV (by omega) (by omega)
 obtain ⟨T,hT⟩:∃T:Int,2+(ins.length:Int)=T:=⟨_,rfl⟩
 have iy:v.toNat < l.length:=by omega
 have F9:v.toNat < FF.length:=by omega
 obtain ⟨b,yn⟩:=cg iy
 obtain ⟨L,hL⟩:=cg F9
 have C1:T<=v->j9 ins.length ⟨LL,CC,FF⟩ v.toNat=L:=λh=>by
  unfold j9
  rw [if_neg (by omega),List.getD_eq_getElem?_getD,hL];rfl
 have x5:=MZ G hs v.toNat
 have Kh:T<=v->∀x∈L,0<=x/\x < v:=λh x hx=>by
  have:=x5 x (by rw [C1 h];exact hx);omega
 have AK:L.length<=600\/v < T:=by
  by_cases h:T<=v
  ·left
   obtain ⟨g,hg⟩:=cg (l:=gs) (i:=v.toNat - 2 - ins.length) (by omega)
   have:=hs.lf (v.toNat - 2 - ins.length) L g (by rw [show 2+ins.length+(v.toNat - 2 - ins.length)=v.toNat by omega];exact hL) hg
   split at this
   ·rw [this];have:=(vI g).2;omega
   ·have:=this.2.1;omega
  ·right;omega
 have du:0<=v/\l[v.toNat]?=some b:=⟨jH,yn⟩
 have XW:0<=v/\v.toNat < l.length:=⟨jH,iy⟩
 have hfv:0<=v/\FF[v.toNat]?=some L:=⟨jH,hL⟩
 have VX:v < T\/b=true->zI ins.length ⟨LL,CC,FF⟩ l v l:=λh=>.known (h.imp (λh=>by omega) λh=>by rw [<-h];exact yn)
 obtain ⟨l1,jc⟩:∃l1,l.set v.toNat true=l1:=⟨_,rfl⟩
 have ym:T<=v->sH ins.length ⟨LL,CC,FF⟩ l v L 0 l1:=λh=>jc ▸ sH.start (by omega) iy L
 have hw:=hw.trans hT
 have e7:T<=v->j9 ins.length ⟨LL,CC,FF⟩ v.toNat=L/\(∀x∈L,0<=x/\x < v)/\sH ins.length ⟨LL,CC,FF⟩ l v L 0 l1/\L.length<=600/\(∀x∈L,x∈j9 ins.length ⟨LL,CC,FF⟩ v.toNat)/\∃m,m+1=k:=λh =>
  ⟨C1 h,Kh h,ym h,AK.resolve_right (by omega),λx hx=>by rw [C1 h];exact hx,k - 1,by omega⟩
 clear C1 Kh ym AK x5
 refine ⟨?_⟩
 cbv
 refine ⟨λh=>?_,λh=>?_⟩
 ·have aP:fk v (IntKind.i64.wrap (2+(ins.length:Int)))=true:=h.out
  rw [hw] at aP
  have aP:v < T:=by simpa [fk] using aP
  have di:=VX (.inl aP)
  cbv
  exact ⟨l,[],[],⟨by exact e9,trivial⟩,by exact aW,⟨di⟩⟩
 have bV:fk v (IntKind.i64.wrap (2+(ins.length:Int)))=false:=h.out
 rw [hw] at bV
 have bV:T<=v:=by
     have h':¬v < T:=by simpa [fk] using bV
     exact yY.1 h'
 obtain ⟨C1,Kh,ym,AK,hLx,m,oU⟩:=e7 bV
 have ih:=ih m oU
 clear h
 cbv
 refine ⟨⟨XW⟩,?_⟩
 cbv
 refine ⟨b,⟨yn,rfl⟩,?_⟩
 cbv
 refine ⟨λh=>?_,λh=>?_⟩
 ·have rh:b=true:=h.out
  have di:=VX (.inr rh)
  cbv
  exact ⟨l,[],[],⟨by exact e9,trivial⟩,by exact aW,⟨di⟩⟩
 clear h
 cbv
 refine ⟨⟨XW⟩,?_⟩
 cbv
 refine ⟨(b,true),⟨yn,rfl,by exact e9⟩,?_⟩
 cbv
 refine ⟨L,⟨hfv⟩,?_⟩
 cbv
 refine Sat.dP (WS 0 0) 6 5 [] (λy:Nat × List Bool=>[(29,.sl 1 bJ (λ_=>L)),(30,.i .i64 (λ_=>(L.length:Int))),(31,.i .i64 (λ_=>(y.1:Int)))]) (λy=>[(2,.dyn 4 1 pe (λ_=>y.2))]) (λy=>sH ins.length ⟨LL,CC,FF⟩ l v L y.1 y.2) (λy=>L.length - y.1) (0,l1) (by exact aW) (by have eH:=jc;exact bq) ym ?_
 rintro ⟨j,l2⟩ hJ
 have hJ:sH ins.length ⟨LL,CC,FF⟩ l v L j l2:=hJ
 have ei:=hJ.le
 have k8:l2.length=2+ins.length+gs.length:=hJ.len.trans hl
 have jg:=n0 j
 have lg:=eh (i:=j) (by omega)
 cbv
 refine ⟨λh=>?_,λh=>?_⟩
 rotate_left
 ·have Jt:L.length<=j:=aG
  have di:=hJ.fin Jt C1
  cbv
  exact ⟨l2,[],[],⟨by exact e9,trivial⟩,by exact aW,⟨di⟩⟩
 have Fk:j < L.length:=aG
 have cf:L.length - (j+1) < L.length - j:=by omega
 refine (cg Fk).elim λx hx=>?_
 have F7:=cM hx
 have j4:=Kh x F7
 have dR:Jx ⟨ins,gs,outs,dr⟩ ⟨LL,CC,FF⟩ l2 x/\x.toNat<=m:=⟨⟨G,hs,k8,j4.1,Int.lt_trans j4.2 rf⟩,by have:=j4.1;have:=j4.2;omega⟩
 have Kc:=hLx x F7
 clear h
 cbv
 refine ⟨x,⟨jg,hx⟩,?_⟩
 cbv
 refine iW.tP ih (λa y=>trivial) ⟨⟨ins,gs,outs,dr⟩,⟨LL,CC,FF⟩,l2,x⟩ [0,1,2,3,4] rfl (by exact a8) (by exact aW) ⟨dR⟩ λy hy=>?_
 have cb:=hJ.step hx Kc hy.out
 cbv
 exact ⟨(j+1,y),by have bK:=lg;exact bq,by exact aW,⟨⟨cb,cf⟩⟩⟩
theorem WU:∀k,l5 PP 182 (P8 k)
 | 0=>U1 0 λm h=>by omega
 | k+1=>U1 (k+1) λm h=>by
  cases Nat.succ.inj h
  exact WU k
@[reducible] noncomputable def XX:Vc.Spec where
 α:=List Int
 args x:=[.sl 1 bJ (λ_=>x)]
 pre x:=x.length<=1000000
 res x:=.sl 1 bJ (λ_=>x)
noncomputable def ajJ (n m:Nat):Ctx:=cW n m [] [] [] [] [] [35]
theorem agk (n m:Nat):CB PP (ajJ n m):=cZ n m trivial trivial
theorem agl:cY (PP ()) 146 XX:=by
 refine e6 (agk 0 0) (fo Tryz.func146) (λa=>⟨λx=>(dq x).1,trivial⟩) (λa=>λx=>(dq x).1) ?_
 intro l hx
 have hl:l.length<=1000000:=hx
 have b1:l.length*8<=140737488355328:=by omega
 have b2:l.length<=9223372036854775807:=by omega
 have b3:(0+l.length)*8<=140737488355328:=by omega
 have b4:0+l.length<=9223372036854775807:=by omega
 refine ⟨?_⟩
 cbv
 refine ⟨λh=>?_,?_⟩
 ·have hn:l=[]:=by
   have h':=h.out
   simpa using h'
  subst hn
  cbv
  exact ⟨by exact a8⟩
 refine ⟨l,⟨by exact e9,b3,b4⟩,?_⟩
 cbv
 exact ⟨by exact a8⟩
end Go.Proofs.Pk
