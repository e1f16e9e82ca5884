import Derived.Test.YthnhbemmlfaihaaR13
import Derived.Test.YthnhbemmlfaihaaR15
import Derived.Test.YthnhbemmlfaihaaR25
import Derived.Test.YthnhbemmlfaihaaR26
set_option linter.unusedVariables false
set_option linter.unusedSimpArgs false
set_option maxRecDepth 10000
set_option maxHeartbeats 64000000
namespace Go.Proofs.Pk
open Go Go.Vc
theorem Uv:∀{a b:List Int},a.length=b.length->sE a b=false->sE b a=false->a=b
 | [],[],_,_,_=>rfl
 | [],_ :: _,h,_,_=>by simp at h
 | _ :: _,[],h,_,_=>by simp at h
 | x :: a,y :: b,h,h1,h2=>by
  unfold sE at h1 h2
  by_cases e:x=y
  ·subst e
   simp at h1 h2
   rw [Uv (by simpa using h) h1 h2]
  ·rw [if_pos e] at h1
   rw [if_pos λq=>e q.symm] at h2
   simp only [decide_eq_false_iff_not] at h1 h2
   omega
theorem Tt:∀a:List Int,sE a a=false
 | []=>rfl
 | x :: a=>by unfold sE;simp [Tt a]
theorem adi {a b:List Int} (h:a.length=b.length) (h1:l9 a b=false) (h2:l9 b a=false):a=b:=by
 unfold l9 at h1 h2
 rw [if_neg (by simp [h])] at h1 h2
 exact Uv h h1 h2
theorem SE (a:List Int):l9 a a=false:=by
 unfold l9
 rw [if_neg (by simp)]
 exact Tt a
structure N5 (A:Type) where
 a:A
 b:A
 e:Bool
@[reducible] noncomputable def CL:Vc.Spec where
 α:=aj6 Int
 args x:=[.sl 1 bK (λ_=>x.a),.sl 1 bK (λ_=>x.b)]
 pre x:=x.a.length<=1000000000000/\x.b.length<=1000000000000
 res x:=.b (λ_=>jO x.a x.b)
noncomputable def aj7 (n m:Nat):Ctx:=cT n m [] []
theorem Wg (n m:Nat):CB PP (aj7 n m):=cW n m trivial trivial
theorem NH:dw (PP ()) 24 CL:=by
 refine fH (Wg 0 0) (fo Try.func24) (λa=>⟨(λx=>(dv x).1),(λx=>(dv x).1),trivial⟩) (λa=>trivial) ?_
 rintro ⟨a,b⟩ hx
 obtain ⟨ha,hb⟩:a.length<=1000000000000/\b.length<=1000000000000:=hx
 have di:¬(a.length:Int)=b.length->false=jO a b:=λh=>(Wf λe=>h (by rw [e])).symm
 have lV:(a.length:Int)=b.length->a.length=b.length:=λh=>by omega
 refine ⟨?_⟩
 cbv
 refine ⟨λh=>?_,λh=>?_⟩
 ·have gx:¬(a.length:Int)=b.length:=aJ
  have e:=di gx
  cbv
  exact ⟨by have eW:=e;exact bN⟩
 have gx:(a.length:Int)=b.length:=aJ
 have gx:=lV gx
 clear h
 cbv
 refine Sat.eI (Wg 0 0) 0 5 [] (λi:Nat=>[(5,.i .i64 λ_=>(i:Int))]) (λ_=>[]) (λi=>i<=a.length/\∀(j:Nat) (x y:Int),j < i->a[j]?=some x->b[j]?=some y->x=y) (λi=>a.length - i) 0 (by exact aX) (by exact aX) ⟨cP _,λj x y h=>absurd h (tu _)⟩ ?_
 intro i hi
 obtain ⟨hi,he⟩:i<=a.length/\∀(j:Nat) (x y:Int),j < i->a[j]?=some x->b[j]?=some y->x=y:=hi
 have h0:=n0 i
 have h1:=eU (i:=i) (by omega)
 have Dh:i < a.length->i < b.length:=λh=>by omega
 cbv
 refine ⟨λh=>?_,λh=>?_⟩
 ·have aP:i < a.length:=aJ
  have cD:a.length - (i+1) < a.length - i:=by omega
  have FK:=Dh aP
  refine (cy aP).elim λx hx=>?_
  refine (cy FK).elim λy hy=>?_
  clear h
  cbv
  refine ⟨x,⟨h0,hx⟩,?_⟩
  cbv
  refine ⟨y,⟨h0,hy⟩,?_⟩
  cbv
  refine ⟨λh=>?_,λh=>?_⟩
  ·have bL:¬x=y:=aJ
   have e:=(agA hx hy bL).symm
   cbv
   exact ⟨by have eW:=e;exact bN⟩
  ·have heq:x=y:=aJ
   have b9:i+1<=a.length/\∀(j:Nat) (x y:Int),j < i+1->a[j]?=some x->b[j]?=some y->x=y:=⟨aP,λj u v hj hu hv=>by
    by_cases ry:j=i
    ·subst ry;rw [hx] at hu;rw [hy] at hv;cases hu;cases hv;exact heq
    ·exact he j u v (by omega) hu hv⟩
   cbv
   exact ⟨i+1,by have bI:=h1;exact bp,by exact aX,⟨⟨b9,cD⟩⟩⟩
 ·have cf:a.length<=i:=aJ
  have e:true=jO a b:=(afu gx λj x y hx hy=>he j x y (by have:=(bh.1 hx).1;omega) hx hy).symm
  cbv
  exact ⟨by have eW:=e;exact bN⟩
noncomputable def aj8 (n m:Nat):Ctx:=cT n m [] [(24,CL)]
theorem agB (n m:Nat):CB PP (aj8 n m):=cW n m trivial ⟨NH,trivial⟩
theorem agC:dw (PP ()) 18 CL:=by
 refine fH (agB 0 0) (fo Try.func18) (λa=>⟨(λx=>(dv x).1),(λx=>(dv x).1),trivial⟩) (λa=>trivial) ?_
 rintro ⟨a,b⟩ hx
 obtain ⟨ha,hb⟩:a.length<=1000000000000/\b.length<=1000000000000:=hx
 refine ⟨?_⟩
 cbv
 refine ⟨⟨a,b⟩,⟨by exact aY,ha,hb⟩,?_⟩
 cbv
 exact ⟨by exact aY⟩
structure OW (a b:List (List Int)) (e:Bool):Prop where
 la:a.length<=1000000/\∀l∈a,l.length<=1000000
 lb:b.length<=1000000/\∀l∈b,l.length<=1000000
 eq:e=true↔a=b
@[reducible] noncomputable def Yg:Vc.Spec where
 α:=N5 (List (List Int))
 args x:=[.sl 1 fP (λ_=>x.a),.sl 1 fP (λ_=>x.b)]
 pre x:=OW x.a x.b x.e
 res x:=.b (λ_=>x.e)
noncomputable def aj9 (n m:Nat):Ctx:=cT n m [] [(37,II)]
theorem Wh (n m:Nat):CB PP (aj9 n m):=cW n m trivial ⟨MS,trivial⟩
theorem agD:dw (PP ()) 25 Yg:=by
 refine fH (Wh 0 0) (fo Try.func25) (λa=>⟨(λx=>(qS x).1),(λx=>(qS x).1),trivial⟩) (λa=>trivial) ?_
 rintro ⟨a,b,e⟩ hx
 obtain ⟨⟨ha,rv⟩,⟨hb,oI⟩,he⟩:OW a b e:=hx
 have di:¬a=b->false=e:=λh=>by cases e with
  | false=>rfl
  | true=>exact absurd (he.1 rfl) h
 have yL:a=b->true=e:=λh=>(he.2 h).symm
 have yG:¬(a.length:Int)=b.length->false=e:=λh=>di λe=>h (by rw [e])
 have lV:(a.length:Int)=b.length->a.length=b.length:=λh=>by omega
 have bL:∀(i:Nat) (x y:List Int),a[i]?=some x->b[i]?=some y->¬x=y->false=e:=λi x y hx hy h=>di λq=>h (by rw [q,hy] at hx;exact (vT hx).symm)
 have o7:∀x y:List Int,¬(x.length:Int)=y.length->¬x=y:=λx y h e=>h (by rw [e])
 have e6:a.length=b.length->(∀(j:Nat) (x y:List Int),j < a.length->a[j]?=some x->b[j]?=some y->x=y)->true=e:=λhl h=>yL (L6 hl λi h1 h2=>h i _ _ h1 (dE h1) (dE h2))
 have OX:∀x y:List Int,(x.length:Int)=y.length->l9 x y=false->l9 y x=false->x=y:=λx y h h1 h2=>adi (by omega) h1 h2
 have Qo:∀x y:List Int,l9 x y=true->¬x=y:=λx y h q=>by rw [q,SE] at h;cases h
 refine ⟨?_⟩
 cbv
 refine ⟨λh=>?_,λh=>?_⟩
 ·have gx:¬(a.length:Int)=b.length:=aJ
  have e:=yG gx
  cbv
  exact ⟨by have eW:=e;exact bN⟩
 have gx:(a.length:Int)=b.length:=aJ
 have gx:=lV gx
 clear h
 cbv
 refine Sat.eI (Wh 0 0) 0 5 [] (λi:Nat=>[(5,.i .i64 λ_=>(i:Int))]) (λ_=>[]) (λi=>i<=a.length/\∀(j:Nat) (x y:List Int),j < i->a[j]?=some x->b[j]?=some y->x=y) (λi=>a.length - i) 0 (by exact aX) (by exact aX) ⟨cP _,λj x y h=>absurd h (tu _)⟩ ?_
 intro i hi
 obtain ⟨hi,hq⟩:i<=a.length/\∀(j:Nat) (x y:List Int),j < i->a[j]?=some x->b[j]?=some y->x=y:=hi
 have h0:=n0 i
 have h1:=eU (i:=i) (by omega)
 have Dh:i < a.length->i < b.length:=λh=>by omega
 cbv
 refine ⟨λh=>?_,λh=>?_⟩
 ·have aP:i < a.length:=aJ
  have cD:a.length - (i+1) < a.length - i:=by omega
  have FK:=Dh aP
  refine (cy aP).elim λx hx=>?_
  refine (cy FK).elim λy hy=>?_
  have nL:=rv x (cN hx)
  have lV:=oI y (cN hy)
  have bL:=bL i x y hx hy
  have o7:=o7 x y
  have OX:=OX x y
  have Qo:=Qo x y
  have Ai:∀q:l9 y x=true,¬x=y:=λq w=>by rw [w,SE] at q;cases q
  have b9:x=y->(i+1<=a.length/\∀(j:Nat) (x y:List Int),j < i+1->a[j]?=some x->b[j]?=some y->x=y)/\a.length - (i+1) < a.length - i:=λheq=>⟨⟨aP,λj u v hj hu hv=>by
    by_cases ry:j=i
    ·subst ry;rw [hx] at hu;rw [hy] at hv;cases hu;cases hv;exact heq
    ·exact hq j u v (by omega) hu hv⟩,cD⟩
  clear h
  cbv
  refine ⟨x,⟨h0,hx⟩,?_⟩
  cbv
  refine ⟨y,⟨h0,hy⟩,?_⟩
  cbv
  refine ⟨λh=>?_,λh=>?_⟩
  ·have hl:¬(x.length:Int)=y.length:=aJ
   have e:=bL (o7 hl)
   cbv
   exact ⟨by have eW:=e;exact bN⟩
  have hl:(x.length:Int)=y.length:=aJ
  clear h
  cbv
  refine ⟨x,⟨h0,hx⟩,?_⟩
  cbv
  refine ⟨y,⟨h0,hy⟩,?_⟩
  cbv
  refine ⟨⟨x,y⟩,⟨by exact aY,nL,lV⟩,?_⟩
  cbv
  refine ⟨λh=>?_,λh=>?_⟩
  ·have e:=bL (Qo h.out)
   cbv
   exact ⟨by have eW:=e;exact bN⟩
  have q1:l9 x y=false:=h.out
  clear h
  cbv
  refine ⟨y,⟨h0,hy⟩,?_⟩
  cbv
  refine ⟨x,⟨h0,hx⟩,?_⟩
  cbv
  refine ⟨⟨y,x⟩,⟨by exact aY,lV,nL⟩,?_⟩
  cbv
  refine ⟨λh=>?_,λh=>?_⟩
  ·have e:=bL (Ai h.out)
   cbv
   exact ⟨by have eW:=e;exact bN⟩
  ·have q2:l9 y x=false:=h.out
   have hn:=b9 (OX hl q1 q2)
   cbv
   exact ⟨i+1,by have bI:=h1;exact bp,by exact aX,⟨hn⟩⟩
 ·have cf:a.length<=i:=aJ
  have e:=e6 gx λj x y hj hx hy=>hq j x y (Nat.lt_of_lt_of_le hj cf) hx hy
  cbv
  exact ⟨by have eW:=e;exact bN⟩
structure Cn (m:dM):Prop where
 cells:m.cells.length<=1000000
 cin:∀x∈m.cells,x.ins.length<=1000000
 dr:m.bf.length<=1000000
structure OY (a b:dM) (e:Bool):Prop where
 la:Cn a
 lb:Cn b
 eq:e=true↔a=b
@[reducible] noncomputable def Yh:Vc.Spec where
 α:=N5 dM
 args x:=[.agg (yB x.a),.agg (yB x.b)]
 pre x:=OY x.a x.b x.e
 res x:=.b (λ_=>x.e)
structure SqF (an bn:Int) (ac bc:List Cell) (ad bd:List Int) (e:Bool):Prop where
 n:¬an=bn->false=e
 l:¬(ac.length:Int)=bc.length->false=e
 d:jO ad bd=false->false=e
 ll:(ac.length:Int)=bc.length->ac.length=bc.length
 c:∀(i:Nat) (x y:Cell),ac[i]?=some x->bc[i]?=some y->(¬x.table=y.table->false=e)/\(¬x.ew=y.ew->false=e)/\(jO x.ins y.ins=false->false=e)/\(x.table=y.table->x.ew=y.ew->jO x.ins y.ins=true->x=y)
 all:an=bn->ac.length=bc.length->jO ad bd=true->(∀(j:Nat) (x y:Cell),j < ac.length->ac[j]?=some x->bc[j]?=some y->x=y)->true=e
theorem sqF {an bn:Int} {ac bc:List Cell} {ad bd:List Int} {e:Bool} (he:e=true↔(⟨an,ac,ad⟩:dM)=⟨bn,bc,bd⟩):SqF an bn ac bc ad bd e:=by
 have di:¬(⟨an,ac,ad⟩:dM)=⟨bn,bc,bd⟩->false=e:=λh=>by cases e with
  | false=>rfl
  | true=>exact absurd (he.1 rfl) h
 refine ⟨λh=>di λq=>h (congrArg dM.n q),λh=>di λq=>h (by rw [show ac=bc from congrArg dM.cells q]),λh=>di λq=>?_,λh=>by omega,λi x y hx hy=>?_,λh1 h2 h3 h4=>?_⟩
 ·have:ad=bd:=congrArg dM.bf q
  rw [this,xU.2 rfl] at h;cases h
 ·have bL:¬x=y->false=e:=λh=>di λq=>h (by
   have:ac=bc:=congrArg dM.cells q
   rw [this,hy] at hx;exact (vT hx).symm)
  refine ⟨λh=>bL λq=>h (by rw [q]),λh=>bL λq=>h (by rw [q]),λh=>bL λq=>?_,λq1 q2 q3=>?_⟩
  ·rw [q,xU.2 rfl] at h;cases h
  ·obtain ⟨xi,xt,xr⟩:=x
   obtain ⟨yi,yt,yr⟩:=y
   have q3:=xU.1 q3
   simp only at q1 q2 q3
   rw [q1,q2,q3]
 ·have h3:=xU.1 h3
  have h5:ac=bc:=L6 h2 λi a b=>h4 i _ _ a (dE a) (dE b)
  exact (he.2 (by rw [h1,h3,h5])).symm
noncomputable def aka (n m:Nat):Ctx:=cT n m [] [(24,CL)]
theorem Wi (n m:Nat):CB PP (aka n m):=cW n m trivial ⟨NH,trivial⟩
theorem agE:dw (PP ()) 23 Yh:=by
 refine fH (Wi 0 0) (fo Try.func23) (λa=>⟨zL a.a,zL a.b,trivial⟩) (λa=>trivial) ?_
 rintro ⟨⟨an,ac,ad⟩,⟨bn,bc,bd⟩,e⟩ hx
 obtain ⟨⟨Db,rv,Gw⟩,⟨pG,oI,rm⟩,he⟩:OY ⟨an,ac,ad⟩ ⟨bn,bc,bd⟩ e:=hx
 have Db:ac.length<=1000000:=Db
 have pG:bc.length<=1000000:=pG
 have Gw:ad.length<=1000000000000:=nj Gw (by decide)
 have rm:bd.length<=1000000000000:=nj rm (by decide)
 have rv:∀x∈ac,x.ins.length<=1000000000000:=λx hx=>nj (rv x hx) (by decide)
 have oI:∀x∈bc,x.ins.length<=1000000000000:=λx hx=>nj (oI x hx) (by decide)
 have hF:=sqF he
 clear he
 refine ⟨?_⟩
 cbv
 refine ⟨λh=>?_,λh=>?_⟩
 ·have q:¬an=bn:=aJ
  have e:=hF.n q
  cbv
  exact ⟨by have eW:=e;exact bN⟩
 have g1:an=bn:=aJ
 clear h
 cbv
 refine ⟨λh=>?_,λh=>?_⟩
 ·have q:¬(ac.length:Int)=bc.length:=aJ
  have e:=hF.l q
  cbv
  exact ⟨by have eW:=e;exact bN⟩
 have g2:(ac.length:Int)=bc.length:=aJ
 have g2:=hF.ll g2
 clear h
 cbv
 refine ⟨⟨ad,bd⟩,⟨by exact aY,Gw,rm⟩,?_⟩
 cbv
 refine ⟨λh=>?_,λh=>?_⟩
 ·have q:jO ad bd=false:=by
       have h':(!jO ad bd)=true:=h.out
       simpa using h'
  have e:=hF.d q
  cbv
  exact ⟨by have eW:=e;exact bN⟩
 have g3:jO ad bd=true:=by
      have h':(!jO ad bd)=false:=h.out
      simpa using h'
 clear h
 cbv
 refine Sat.eI (Wi 0 0) 2 5 [] (λi:Nat=>[(5,.i .i64 λ_=>(i:Int))]) (λ_=>[]) (λi=>i<=ac.length/\∀(j:Nat) (x y:Cell),j < i->ac[j]?=some x->bc[j]?=some y->x=y) (λi=>ac.length - i) 0 (by exact aX) (by exact aX) ⟨cP _,λj x y h=>absurd h (tu _)⟩ ?_
 intro i hi
 obtain ⟨hi,hq⟩:i<=ac.length/\∀(j:Nat) (x y:Cell),j < i->ac[j]?=some x->bc[j]?=some y->x=y:=hi
 have h0:=n0 i
 have h1:=eU (i:=i) (by omega)
 have Dh:i < ac.length->i < bc.length:=λh=>by omega
 cbv
 refine ⟨λh=>?_,λh=>?_⟩
 ·have aP:i < ac.length:=aJ
  have cD:ac.length - (i+1) < ac.length - i:=by omega
  have FK:=Dh aP
  refine (cy aP).elim λx=>?_
  refine x.casesOn λxi xt xr hx=>?_
  refine (cy FK).elim λy=>?_
  refine y.casesOn λyi yt yr hy=>?_
  have hc:=hF.c i _ _ hx hy
  have nL:=rv _ (cN hx)
  have lV:=oI _ (cN hy)
  have c1:¬xt=yt->false=e:=hc.1
  have c2:¬xr=yr->false=e:=hc.2.1
  have c3:jO xi yi=false->false=e:=hc.2.2.1
  have c4:xt=yt->xr=yr->jO xi yi=true->(⟨xi,xt,xr⟩:Cell)=⟨yi,yt,yr⟩:=hc.2.2.2
  have b9:(⟨xi,xt,xr⟩:Cell)=⟨yi,yt,yr⟩->(i+1<=ac.length/\∀(j:Nat) (x y:Cell),j < i+1->ac[j]?=some x->bc[j]?=some y->x=y)/\ac.length - (i+1) < ac.length - i:=λheq=>⟨⟨aP,λj u v hj hu hv=>by
    by_cases ry:j=i
    ·subst ry;rw [hx] at hu;rw [hy] at hv;cases hu;cases hv;exact heq
    ·exact hq j u v (by omega) hu hv⟩,cD⟩
  clear h hc
  cbv
  refine ⟨⟨xi,xt,xr⟩,⟨h0,hx⟩,?_⟩
  cbv
  refine ⟨⟨yi,yt,yr⟩,⟨h0,hy⟩,?_⟩
  cbv
  refine ⟨λh=>?_,λh=>?_⟩
  ·have q:¬xt=yt:=aJ
   have e:=c1 q
   cbv
   exact ⟨by have eW:=e;exact bN⟩
  have q1:xt=yt:=aJ
  clear h
  cbv
  refine ⟨λh=>?_,λh=>?_⟩
  ·have q:¬xr=yr:=aJ
   have e:=c2 q
   cbv
   exact ⟨by have eW:=e;exact bN⟩
  have q2:xr=yr:=aJ
  clear h
  cbv
  refine ⟨⟨xi,yi⟩,⟨by exact aY,nL,lV⟩,?_⟩
  cbv
  refine ⟨λh=>?_,λh=>?_⟩
  ·have q:jO xi yi=false:=by
         have h':(!jO xi yi)=true:=h.out
         simpa using h'
   have e:=c3 q
   cbv
   exact ⟨by have eW:=e;exact bN⟩
  ·have q:jO xi yi=true:=by
        have h':(!jO xi yi)=false:=h.out
        simpa using h'
   have hn:=b9 (c4 q1 q2 q)
   cbv
   exact ⟨i+1,by have bI:=h1;exact bp,by exact aX,⟨hn⟩⟩
 ·have cf:ac.length<=i:=aJ
  have e:=hF.all g1 g2 g3 λj x y hj hx hy=>hq j x y (Nat.lt_of_lt_of_le hj cf) hx hy
  cbv
  exact ⟨by have eW:=e;exact bN⟩
structure pc where
 m:dM
 c:jn
 e:Int
def FL (x:pc):List SV:=[.i .i64 (λ_=>x.m.n),.sl 3 lK (λ_=>x.m.cells),.sl 1 bK (λ_=>x.m.bf),.sl 1 bK (λ_=>x.c.root),.sl 1 fP (λ_=>x.c.leaves),.i .i64 (λ_=>x.e)]
theorem Ih (x:pc):bX (FL x):=⟨trivial,λx=>(BR x).1,λx=>(dv x).1,λx=>(dv x).1,λx=>(qS x).1,trivial,trivial⟩
structure we (x:pc):Prop where
 m:Cn x.m
 r:x.c.root.length<=1000000000000
 l:x.c.leaves.length<=1000000/\∀l∈x.c.leaves,l.length<=1000000
structure FM (a b:pc) (e:Bool):Prop where
 la:we a
 lb:we b
 eq:e=true↔a=b
@[reducible] noncomputable def OZ:Vc.Spec where
 α:=N5 pc
 args x:=[.agg (FL x.a),.agg (FL x.b)]
 pre x:=FM x.a x.b x.e
 res x:=.b (λ_=>x.e)
open Classical in
theorem alF {am bm:dM} {ar br:List Int} {al bl:List (List Int)} {ae be:Int} {e:Bool} (he:e=true↔(⟨am,⟨ar,al⟩,ae⟩:pc)=⟨bm,⟨br,bl⟩,be⟩) :
  ∃q1 q2:Bool,(q1=true↔am=bm)/\(q2=true↔al=bl)/\(gG ae be=false->false=e)/\(q1=false->false=e)/\(jO ar br=false->false=e)/\(gG ae be=true->q1=true->jO ar br=true->q2=e):=by
 have di:¬(⟨am,⟨ar,al⟩,ae⟩:pc)=⟨bm,⟨br,bl⟩,be⟩->false=e:=λh=>by cases e with
  | false=>rfl
  | true=>exact absurd (he.1 rfl) h
 refine ⟨decide (am=bm),decide (al=bl),by simp,by simp,λh=>di λq=>?_,λh=>di λq=>?_,λh=>di λq=>?_,λh1 h2 h3=>?_⟩
 ·have:ae=be:=congrArg pc.e q
  rw [this] at h;simp [gG] at h
 ·exact absurd (congrArg pc.m q) (by simpa using h)
 ·have:ar=br:=congrArg (λx=>x.c.root) q
  rw [this,xU.2 rfl] at h;cases h
 ·have h1:ae=be:=by simpa [gG] using h1
  have h2:am=bm:=by simpa using h2
  have h3:=xU.1 h3
  by_cases h:al=bl
  ·rw [decide_eq_true h]
   exact (he.2 (by rw [h1,h2,h3,h])).symm
  ·rw [decide_eq_false h]
   exact di λq=>h (congrArg (λx=>x.c.leaves) q)
noncomputable def akb (n m:Nat):Ctx:=cT n m [] [(24,CL),(23,Yh),(25,Yg)]
theorem agF (n m:Nat):CB PP (akb n m):=cW n m trivial ⟨NH,agE,agD,trivial⟩
theorem Wj:dw (PP ()) 11 OZ:=by
 refine fH (agF 0 0) (fo Try.func11) (λa=>⟨Ih a.a,Ih a.b,trivial⟩) (λa=>trivial) ?_
 rintro ⟨⟨⟨an,ac,ad⟩,⟨ar,al⟩,ae⟩,⟨⟨bn,bc,bd⟩,⟨br,bl⟩,be⟩,e⟩ hx
 obtain ⟨⟨Db,rv,Gw⟩,⟨pG,oI,rm⟩,he⟩:FM ⟨⟨an,ac,ad⟩,⟨ar,al⟩,ae⟩ ⟨⟨bn,bc,bd⟩,⟨br,bl⟩,be⟩ e:=hx
 obtain ⟨q1,q2,k1,k2,k3,k4,k5,k6⟩:=alF he
 have p1:OY ⟨an,ac,ad⟩ ⟨bn,bc,bd⟩ q1:=⟨Db,pG,k1⟩
 have p2:OW al bl q2:=⟨Gw,rm,k2⟩
 have rv:ar.length<=1000000000000:=rv
 have oI:br.length<=1000000000000:=oI
 refine ⟨?_⟩
 cbv
 refine ⟨λh=>?_,λh=>?_⟩
 rotate_left
 ·have e:=k3 h.out
  cbv
  exact ⟨by have eW:=e;exact bN⟩
 have g1:gG ae be=true:=h.out
 clear h
 cbv
 refine ⟨⟨⟨an,ac,ad⟩,⟨bn,bc,bd⟩,q1⟩,⟨by exact aY,p1⟩,?_⟩
 cbv
 refine ⟨λh=>?_,λh=>?_⟩
 rotate_left
 ·have e:=k4 h.out
  cbv
  exact ⟨by have eW:=e;exact bN⟩
 have g2:q1=true:=h.out
 clear h
 cbv
 refine ⟨⟨ar,br⟩,⟨by exact aY,rv,oI⟩,?_⟩
 cbv
 refine ⟨λh=>?_,λh=>?_⟩
 rotate_left
 ·have e:=k5 h.out
  cbv
  exact ⟨by have eW:=e;exact bN⟩
 have e:=k6 g1 g2 h.out
 clear h
 cbv
 refine ⟨⟨al,bl,q2⟩,⟨by exact aY,p2⟩,?_⟩
 cbv
 exact ⟨by have nG:=e;exact bN⟩
noncomputable def akc (n m:Nat):Ctx:=cT n m [] [(20,JD),(21,OQ),(22,OH)]
theorem IJ (n m:Nat):CB PP (akc n m):=cW n m trivial ⟨NC,V6,VO,trivial⟩
theorem Wk:dw (PP ()) 9 OR:=by
 refine fH (IJ 0 0) (fo Try.func9) (λa=>⟨uH a.n,zL a.m,V7 a.c,trivial⟩) (λa=>trivial) ?_
 rintro ⟨⟨ins,gs,outs,dr⟩,⟨mn,mc,md⟩,⟨R,V⟩,e⟩ hx
 have hx:tP ⟨ins,gs,outs,dr⟩ ⟨mn,mc,md⟩ ⟨R,V⟩ e:=hx
 obtain ⟨pa,Kw,hd3,hd4,e6⟩:=chF hx
 have hb:2+ins.length+gs.length<=600:=hx.G.o9
 have vw:dr.length<=1000000:=hx.dr
 have A0:mc.length<=1000000:=hx.cells
 obtain ⟨N,hN⟩:∃N:Int,2+(ins.length:Int)+gs.length=N:=⟨_,rfl⟩
 obtain ⟨L0,Gx⟩:∃L0:Int,1+(ins.length:Int)=L0:=⟨_,rfl⟩
 have sK:IntKind.i64.wrap (1+(ins.length:Int))=L0:=by rw [<-Gx];exact eP (by omega) (by omega)
 have wZ:IntKind.i64.wrap (IntKind.i64.wrap (2+(ins.length:Int))+(gs.length:Int))=N:=by rw [eP (n:=2+(ins.length:Int)) (by omega) (by omega),eP (by omega) (by omega)];exact hN
 rw [hN,Gx] at e6
 clear hx hb hN Gx
 refine ⟨?_⟩
 cbv
 refine ⟨λh=>?_,λh=>?_⟩
 ·have bL:¬mn=(ins.length:Int):=aJ
  have e1:=pa bL
  cbv
  exact ⟨by have gP:=e1;exact bN⟩
 have h1:mn=(ins.length:Int):=aJ
 clear h
 cbv
 refine ⟨λh=>?_,λh=>?_⟩
 ·have bL:¬(R.length:Int)=mc.length:=aJ
  have e1:=Kw bL
  cbv
  exact ⟨by have gP:=e1;exact bN⟩
 have h2:(R.length:Int)=mc.length:=aJ
 clear h
 cbv
 refine ⟨λh=>?_,λh=>?_⟩
 ·have bL:¬(V.length:Int)=mc.length:=aJ
  have e1:=hd3 bL
  cbv
  exact ⟨by have gP:=e1;exact bN⟩
 have h3:(V.length:Int)=mc.length:=aJ
 clear h
 cbv
 refine ⟨λh=>?_,λh=>?_⟩
 ·have bL:¬(md.length:Int)=dr.length:=aJ
  have e1:=hd4 bL
  cbv
  exact ⟨by have gP:=e1;exact bN⟩
 have h4:(md.length:Int)=dr.length:=aJ
 obtain ⟨rB,Rk,sg,Ck,Dk,k1,k2,k3,ksg,kr0,krn,kre,O0,Xf,kce,kde,kdn⟩:=e6 h1 h2 h3 h4
 clear h e6 pa Kw hd3 hd4 h2 h3 h4
 cbv
 refine Sat.eI (IJ 0 0) 3 9 [] (λy:Nat × Int=>[(8,.i .i64 (λ_=>y.2)),(57,.sl 1 bK (λ_=>R)),(58,.i .i64 (λ_=>(R.length:Int))),(59,.i .i64 (λ_=>(y.1:Int)))]) (λ_=>[]) (λy=>y.1<=R.length/\rB=Rk y.1 y.2) (λy=>R.length - y.1) (0,L0) (by have bI:=sK;exact bp) (by exact aX) ⟨cP _,kr0⟩ ?_
 rintro ⟨i,last⟩ hi
 obtain ⟨hi,yZ⟩:i<=R.length/\rB=Rk i last:=hi
 have dY:=n0 i
 have gH:=eU (i:=i) (by omega)
 have Kx:=krn i
 have hre:=kre i last
 cbv
 refine ⟨λh=>?_,λh=>?_⟩
 ·have bU:i < R.length:=aJ
  have cD:R.length - (i+1) < R.length - i:=by omega
  refine (cy bU).elim λr hr=>?_
  obtain ⟨r1,r2,r3⟩:=Kx r last hr
  clear h
  cbv
  refine ⟨r,⟨dY,hr⟩,?_⟩
  cbv
  refine ⟨λh=>?_,λh=>?_⟩
  ·have hle:¬last < r:=aJ
   have e1:=O0 (yZ.trans (r1 hle))
   cbv
   exact ⟨by have gP:=e1;exact bN⟩
  have aP:last < r:=aJ
  clear h
  cbv
  refine ⟨λh=>?_,λh=>?_⟩
  ·have cf:=h.out
   rw [wZ] at cf
   have cf:¬r < N:=by simpa [jI] using cf
   have e1:=O0 (yZ.trans (r2 cf))
   cbv
   exact ⟨by have gP:=e1;exact bN⟩
  ·have cf:=h.out
   rw [wZ] at cf
   have cf:r < N:=by simpa [jI] using cf
   have b9:(i+1<=R.length/\rB=Rk (i+1) r)/\R.length - (i+1) < R.length - i:=⟨⟨bU,yZ.trans (r3 aP cf)⟩,cD⟩
   clear h
   cbv
   exact ⟨(i+1,r),by have bI:=gH;exact bp,by exact aX,⟨b9⟩⟩
 have cf:R.length<=i:=aJ
 obtain ⟨⟨g1,g2⟩,g3,g4⟩:=Xf (yZ.trans (hre cf))
 have g12:ins.length<=1000000/\Cl ins.length R:=⟨g1,g2⟩
 clear h Xf krn kre O0 hre Kx
 cbv
 refine ⟨⟨⟨ins,gs,outs,dr⟩,R⟩,⟨by exact aY,g12⟩,?_⟩
 cbv
 refine Sat.eI (IJ 0 0) 3 12 [] (λi:Nat=>[(11,.mp (.int .i64) bK (λ_=>sg)),(85,.sl 3 lK (λ_=>mc)),(86,.i .i64 (λ_=>(mc.length:Int))),(87,.i .i64 (λ_=>(i:Int)))]) (λ_=>[]) (λi=>i<=mc.length/\Ck 0=Ck i) (λi=>mc.length - i) 0 (by have Gg:=ksg;exact bp) (by exact aX) ⟨cP _,rfl⟩ ?_
 intro j hj
 obtain ⟨hj,Qp⟩:j<=mc.length/\Ck 0=Ck j:=hj
 have mi:=n0 j
 have pb:=eU (i:=j) (by omega)
 have nJ:=kce j
 cbv
 refine ⟨λh=>?_,λh=>?_⟩
 ·have e8:j < mc.length:=aJ
  have cD:mc.length - (j+1) < mc.length - j:=by omega
  refine (cy e8).elim λx hx=>?_
  obtain ⟨r,l,y,t,c1,c2,c3,c4,c5,c6,c7,c8,c9,c10⟩:=g4 j x hx
  have sF:Ck j=false->260=e:=λq=>by rw [<-g3,Qp,q];rfl
  have c6:¬t=0->260=e:=λq=>sF (c6 q)
  have c7:¬x.table=y.table->260=e:=λq=>sF (c7 q)
  have c8:¬x.ew=y.ew->260=e:=λq=>sF (c8 q)
  have c9:¬x.ins=y.ins->260=e:=λq=>sF (c9 q)
  obtain ⟨xi,xt,xr⟩:=x
  obtain ⟨yi,yt,yr⟩:=y
  clear h
  cbv
  refine ⟨⟨xi,xt,xr⟩,⟨mi,hx⟩,?_⟩
  cbv
  refine ⟨r,⟨mi,c1⟩,?_⟩
  cbv
  refine ⟨l,⟨mi,c2⟩,?_⟩
  cbv
  refine ⟨⟨⟨ins,gs,outs,dr⟩,r,l,sg,⟨yi,yt,yr⟩,t⟩,⟨by exact aY,c3⟩,?_⟩
  cbv
  refine ⟨λh=>?_,λh=>?_⟩
  ·have q1:¬t=0:=aJ
   have e1:=c6 q1
   cbv
   exact ⟨by have gP:=e1;exact bN⟩
  have q1:t=0:=aJ
  clear h
  cbv
  refine ⟨λh=>?_,λh=>?_⟩
  ·have q2:¬xt=yt:=aJ
   have e1:=c7 q2
   cbv
   exact ⟨by have gP:=e1;exact bN⟩
  have q2:xt=yt:=aJ
  clear h
  cbv
  refine ⟨λh=>?_,λh=>?_⟩
  ·have q3:¬xr=yr:=aJ
   have e1:=c8 q3
   cbv
   exact ⟨by have gP:=e1;exact bN⟩
  have q3:xr=yr:=aJ
  clear h
  cbv
  refine ⟨⟨xi,yi⟩,⟨by exact aY,⟨c5,c4⟩⟩,?_⟩
  cbv
  refine ⟨λh=>?_,λh=>?_⟩
  ·have q4:¬xi=yi:=by have h':(!decide (xi=yi))=true:=h.out;simpa using h'
   have e1:=c9 q4
   cbv
   exact ⟨by have gP:=e1;exact bN⟩
  ·have q4:xi=yi:=by have h':(!decide (xi=yi))=false:=h.out;simpa using h'
   have b9:(j+1<=mc.length/\Ck 0=Ck (j+1))/\mc.length - (j+1) < mc.length - j:=⟨⟨e8,Qp.trans (c10 q1 q2 q3 q4)⟩,cD⟩
   cbv
   exact ⟨j+1,by have bI:=pb;exact bp,by exact aX,⟨b9⟩⟩
 have hjg:mc.length<=j:=aJ
 have g5:wB (Dk 0)=e:=by rw [<-g3,Qp,nJ hjg];rfl
 clear h
 cbv
 refine Sat.eI (IJ 0 0) 3 12 [] (λi:Nat=>[(134,.sl 1 bK (λ_=>dr)),(135,.i .i64 (λ_=>(dr.length:Int))),(136,.i .i64 (λ_=>(i:Int)))]) (λ_=>[]) (λi=>i<=dr.length/\Dk 0=Dk i) (λi=>dr.length - i) 0 (by exact aX) (by exact aX) ⟨cP _,rfl⟩ ?_
 intro q hq
 obtain ⟨hq,Qq⟩:q<=dr.length/\Dk 0=Dk q:=hq
 have vy:=n0 q
 have Gy:=eU (i:=q) (by omega)
 have Gz:=kde q
 cbv
 refine ⟨λh=>?_,λh=>?_⟩
 ·have vh:q < dr.length:=aJ
  have cD:dr.length - (q+1) < dr.length - q:=by omega
  refine (cy vh).elim λv hv=>?_
  obtain ⟨t,t1,t2,t3,t4⟩:=kdn q v hv
  have sF:Dk q=false->260=e:=λw=>by rw [<-g5,Qq,w];rfl
  clear h
  rcases hs:sg v with _|s
  ·have e1:=sF (t2 hs)
   cbv
   refine ⟨v,⟨vy,hv⟩,?_⟩
   cbv
   refine ⟨some none,⟨hs⟩,?_⟩
   cbv
   exact ⟨by have gP:=e1;exact bN⟩
  ·cbv
   refine ⟨v,⟨vy,hv⟩,?_⟩
   cbv
   refine ⟨some (some s),⟨hs⟩,?_⟩
   cbv
   refine ⟨t,⟨vy,t1⟩,?_⟩
   cbv
   refine ⟨λh=>?_,λh=>?_⟩
   ·have bL:¬s=t:=aJ
    have e1:=sF (t3 s hs bL)
    cbv
    exact ⟨by have gP:=e1;exact bN⟩
   ·have heq:s=t:=aJ
    have b9:(q+1<=dr.length/\Dk 0=Dk (q+1))/\dr.length - (q+1) < dr.length - q:=⟨⟨vh,Qq.trans (t4 (by rw [hs,heq]))⟩,cD⟩
    cbv
    exact ⟨q+1,by have bI:=Gy;exact bp,by exact aX,⟨b9⟩⟩
 have Qr:dr.length<=q:=aJ
 have e1:0=e:=by rw [<-g5,Qq,Gz Qr];rfl
 cbv
 exact ⟨by have gP:=e1;exact bN⟩
def u7 (I:Nat) (l:List Bool) (x:Int):Prop:=x < 2+I\/l[x.toNat]?=some true
structure Aa (I:Nat) (s:dV) (l:List Bool) (v:Int) (l':List Bool):Prop where
 len:l'.length=l.length
 mono:∀u:Nat,l[u]?=some true->l'[u]?=some true
 nw:∀u:Nat,l'[u]?=some true->l[u]?=some true\/(2+I<=u/\oH (j9 I s) (·=v.toNat) u/\∀x∈j9 I s u,u7 I l' x)
 vi:u7 I l' v
structure sW (I:Nat) (s:dV) (l:List Bool) (v:Int) (L:List Int) (j:Nat) (l':List Bool):Prop where
 le:j<=L.length
 len:l'.length=l.length
 mono:∀u:Nat,l[u]?=some true->l'[u]?=some true
 vi:l'[v.toNat]?=some true
 nw:∀u:Nat,l'[u]?=some true->l[u]?=some true\/(2+I<=u/\oH (j9 I s) (·=v.toNat) u/\(u=v.toNat\/∀x∈j9 I s u,u7 I l' x))
 ch:∀i x,i < j->L[i]?=some x->u7 I l' x
section
variable {I:Nat} {s:dV} {l l' l2:List Bool} {v:Int}
theorem u7.mono (h:∀u:Nat,l[u]?=some true->l'[u]?=some true) {x:Int} (k:u7 I l x):u7 I l' x:=k.imp_right (h _)
theorem Aa.known (h:u7 I l v):Aa I s l v l:=⟨rfl,λ_ h=>h,λ_ h=>.inl h,h⟩
theorem MT {v u:Nat}:(l.set v true)[u]?=some true↔l[u]?=some true\/(u=v/\v < l.length):=by
 rw [iN]
 by_cases e:v=u
 ·subst e
  by_cases hl:v < l.length
  ·simp [hl]
  ·simp [hl]
 ·rw [if_neg e]
  exact ⟨.inl,λh=>h.resolve_right λ⟨a,_⟩=>e a.symm⟩
theorem sW.start (h0:2+(I:Int)<=v) (hl:v.toNat < l.length) (L:List Int):sW I s l v L 0 (l.set v.toNat true) where
 le:=cP _
 len:=pZ
 mono u h:=MT.2 (.inl h)
 vi:=MT.2 (.inr ⟨rfl,hl⟩)
 nw u h:=by
  rcases MT.1 h with h|⟨rfl,_⟩
  ·exact .inl h
  ·exact .inr ⟨by omega,.base rfl,.inl rfl⟩
 ch i x h:=by omega
theorem aeu {x:Int} (hx:x∈j9 I s v.toNat) {w:Nat} (h:oH (j9 I s) (·=x.toNat) w):oH (j9 I s) (·=v.toNat) w :=
 h.mono λu hu=>by subst hu;exact .step (.base rfl) hx
theorem sW.step {L:List Int} {j:Nat} {x:Int} (h:sW I s l v L j l') (hj:L[j]?=some x) (hx:x∈j9 I s v.toNat) (k:Aa I s l' x l2):sW I s l v L (j+1) l2 where
 le:=(bh.1 hj).1
 len:=k.len.trans h.len
 mono u hu:=k.mono u (h.mono u hu)
 vi:=k.mono _ h.vi
 nw u hu:=by
  rcases k.nw u hu with hu|⟨a,b,c⟩
  ·rcases h.nw u hu with hu|⟨a,b,c⟩
   ·exact .inl hu
   ·exact .inr ⟨a,b,c.imp_right λc y hy=>(c y hy).mono k.mono⟩
  ·exact .inr ⟨a,aeu hx b,.inr c⟩
 ch i y hi hy:=by
  by_cases e:i=j
  ·subst e;rw [hj] at hy;cases hy;exact k.vi
  ·exact (h.ch i y (by omega) hy).mono k.mono
theorem sW.fin {L:List Int} {j:Nat} (h:sW I s l v L j l') (hj:L.length<=j) (hL:j9 I s v.toNat=L):Aa I s l v l' where
 len:=h.len
 mono:=h.mono
 nw u hu:=by
  rcases h.nw u hu with hu|⟨a,b,c⟩
  ·exact .inl hu
  ·refine .inr ⟨a,b,?_⟩
   rcases c with rfl|c
   ·intro x hx
    rw [hL] at hx
    obtain ⟨i,hi⟩:=pW hx
    exact h.ch i x (by have:=(bh.1 hi).1;omega) hi
   ·exact c
 vi:=.inr h.vi
end
structure rC (I:Nat) (s:dV) (bf:List Int) (N j:Nat) (l:List Bool):Prop where
 le:j<=bf.length
 len:l.length=N
 nw:∀u:Nat,l[u]?=some true->2+I<=u/\oH (j9 I s) (λw=>∃d∈bf,d.toNat=w) u/\∀x∈j9 I s u,u7 I l x
 ch:∀i x,i < j->bf[i]?=some x->u7 I l x
theorem rC.start (I:Nat) (s:dV) (bf:List Int) (N:Nat):rC I s bf N 0 (List.replicate N false) where
 le:=cP _
 len:=zr
 nw u h:=by rw [ux] at h;split at h<;>cases h
 ch i x h:=by omega
theorem rC.step {I:Nat} {s:dV} {bf:List Int} {N j:Nat} {l l2:List Bool} {x:Int} (h:rC I s bf N j l) (hj:bf[j]?=some x) (k:Aa I s l x l2):rC I s bf N (j+1) l2 where
 le:=(bh.1 hj).1
 len:=k.len.trans h.len
 nw u hu:=by
  rcases k.nw u hu with hu|⟨a,b,c⟩
  ·obtain ⟨a,b,c⟩:=h.nw u hu
   exact ⟨a,b,λy hy=>(c y hy).mono k.mono⟩
  ·exact ⟨a,b.mono λu hu=>.base ⟨x,cN hj,hu.symm⟩,c⟩
 ch i y hi hy:=by
  by_cases e:i=j
  ·subst e;rw [hj] at hy;cases hy;exact k.vi
  ·exact (h.ch i y (by omega) hy).mono k.mono
theorem rC.fin {I:Nat} {gs:List Gate} (G:cI I gs) {s:dV} (hs:lJ I gs s) {bf:List Int} {j:Nat} {l:List Bool} (h:rC I s bf (2+I+gs.length) j l) (hj:bf.length<=j) (hd:∀d∈bf,0<=d/\d < 2+I+gs.length) (v:Nat) :
  l[v]?=some true↔(v:Int)∈fN I s bf:=by
 rw [Sw G hs hd]
 refine ⟨λhv=>?_,λ⟨h1,h2,h3⟩=>?_⟩
 ·obtain ⟨a,b,_⟩:=h.nw v hv
  have:=(bh.1 hv).1
  rw [h.len] at this
  exact ⟨a,this,b⟩
 ·suffices H:∀{u:Nat},oH (j9 I s) (λw=>∃d∈bf,d.toNat=w) u->2+I<=u->l[u]?=some true from H h3 h1
  intro u hu
  induction hu with
  | base hb =>
   intro hl
   obtain ⟨d,J8,rfl⟩:=hb
   obtain ⟨i,hi⟩:=pW J8
   rcases h.ch i d (by have:=(bh.1 hi).1;omega) hi with hc|hc
   ·omega
   ·exact hc
  | @step w x hw hx ih =>
   intro hl
   have Qs:2+I<=w:=by
    unfold j9 at hx
    split at hx
    ·cases hx
    ·omega
   have hwm:=ih Qs
   rcases (h.nw w hwm).2.2 x hx with hc|hc
   ·omega
   ·exact hc
def oP (l:List Bool) (n:Nat):List Int:=((List.range n).filter λv=>l[v]? == some true).map λv:Nat=>(v:Int)
theorem abY {l:List Bool} {n:Nat} (h:l[n]?=some true):oP l (n+1)=oP l n++[(n:Int)]:=by
 unfold oP
 rw [L9,LW,vS,LD (by rw [h];rfl)];rfl
theorem acu {l:List Bool} {n:Nat} (h:l[n]?=some false):oP l (n+1)=oP l n:=by
 unfold oP
 rw [L9,LW,vS,SK (by rw [h];decide)]
 exact zm _
theorem abZ {l:List Bool} {n:Nat} {x:Int}:x∈oP l n↔∃v:Nat,x=v/\v < n/\l[v]?=some true:=by
 unfold oP
 rw [jW]
 refine ⟨λ⟨v,hv,e⟩=>?_,λ⟨v,e,h1,h2⟩=>⟨v,?_,e.symm⟩⟩
 ·obtain ⟨a,b⟩:=lD.1 hv
  exact ⟨v,e.symm,mB.1 a,by simpa using b⟩
 ·exact lD.2 ⟨mB.2 h1,by rw [h2];rfl⟩
theorem ab0 (l:List Bool) (n:Nat):fX (oP l n):=by
 unfold oP fX
 rw [pY]
 exact (BN.filter _).imp λh=>by omega
theorem R9 (l:List Bool):∀n,(oP l n).length<=n
 | 0=>fT _
 | n+1=>by
  unfold oP
  rw [kF]
  exact nj (DV _ _) (Nat.le_of_eq HF)
theorem abA {I:Nat} {s:dV} {bf:List Int} {l:List Bool} {n:Nat} (hn:l.length<=n) (h:∀v:Nat,l[v]?=some true↔(v:Int)∈fN I s bf):oP l n=fN I s bf :=
 (ab0 l n).ext (Sx I s bf) λu=>by
  rw [abZ]
  constructor
  ·rintro ⟨v,rfl,_,hv⟩
   exact (h v).1 hv
  ·intro hu
   have e:=Sy hu
   refine ⟨u.toNat,e.symm,?_,(h _).2 (by rw [e];exact hu)⟩
   have:=(bh.1 ((h u.toNat).2 (by rw [e];exact hu))).1
   omega
structure akd where
 n:Net
 s:dV
 l:List Bool
 v:Int
def Yi (n:Net) (s:dV) (l:List Bool):List Slot:=[.fix 34 (px n),.fix 60 [.own 2],.dyn 4 1 pr (λ_=>l),.fix 86 [.dg (Jy n s) 0],.fix 92 [.fn (.func 33) [] [.ptr 0 0,.ptr 1 0,.ptr 3 0,.ptr 4 0]]]
structure JI (n:Net) (s:dV) (l:List Bool) (v:Int):Prop where
 G:cI n.ins.length n.cg
 s:lJ n.ins.length n.cg s
 l:l.length=2+n.ins.length+n.cg.length
 v0:0<=v
 v1:v < 2+n.ins.length+n.cg.length
@[reducible] noncomputable def Qt (k:Nat):oj where
 α:=akd
 args x:=[.i .i64 (λ_=>x.v),.ptr 0 0,.ptr 1 0,.ptr 3 0,.ptr 4 0]
 io x:=Yi x.n x.s x.l
 pre x:=JI x.n x.s x.l x.v/\x.v.toNat<=k
 β:=List Bool
 post x y:=Aa x.n.ins.length x.s x.l x.v y
 mv:=[]
 res x y:=.ca []
 lz x y:=Yi x.n x.s y
noncomputable def cNe (n m:Nat):Ctx:=cT n m [(33,Try.f33)] [] [33]
theorem Xg (n m:Nat):CB PP (cNe n m):=cW n m ⟨fo Try.func33,trivial⟩ trivial
theorem Vr (k:Nat) (ih:∀m,m+1=k->ma PP 33 (Qt m)):ma PP 33 (Qt k):=by
 refine rp (Xg 0 0) (fo Try.func33) (λa y=>rfl) (λa=>⟨rfl,rfl⟩) .nil ?_
 rintro ⟨⟨ins,gs,outs,dr⟩,⟨LL,CC,FF⟩,l,v⟩ hx
 obtain ⟨⟨G,hs,hl,kD,rz⟩,hvk⟩:JI ⟨ins,gs,outs,dr⟩ ⟨LL,CC,FF⟩ l v/\v.toNat<=k:=hx
 have G:cI ins.length gs:=G
 have hs:lJ ins.length gs ⟨LL,CC,FF⟩:=hs
 have hl:l.length=2+ins.length+gs.length:=hl
 have rz:v < 2+(ins.length:Int)+gs.length:=rz
 have hF:FF.length=2+ins.length+gs.length:=hs.o0
 have hb:=G.o9
 have hw:IntKind.i64.wrap (2+(ins.length:Int))=2+ins.length:=eP (by omega) (by omega)
 obtain ⟨T,hT⟩:∃T:Int,2+(ins.length:Int)=T:=⟨_,rfl⟩
 have ji:v.toNat < l.length:=by omega
 have Gs:v.toNat < FF.length:=by omega
 obtain ⟨b,yV⟩:=cy ji
 obtain ⟨L,hL⟩:=cy Gs
 have Dr:T<=v->j9 ins.length ⟨LL,CC,FF⟩ v.toNat=L:=λh=>by
  unfold j9
  rw [if_neg (by omega),List.getD_eq_getElem?_getD,hL];rfl
 have yG:=Nr G hs v.toNat
 have Ky:T<=v->∀x∈L,0<=x/\x < v:=λh x hx=>by
  have:=yG x (by rw [Dr h];exact hx);omega
 have A4:L.length<=600\/v < T:=by
  by_cases h:T<=v
  ·left
   obtain ⟨g,hg⟩:=cy (l:=gs) (i:=v.toNat - 2 - ins.length) (by omega)
   have:=hs.lf (v.toNat - 2 - ins.length) L g (by rw [show 2+ins.length+(v.toNat - 2 - ins.length)=v.toNat by omega];exact hL) hg
   split at this
   ·rw [this];have:=(zz g).2;omega
   ·have:=this.2.1;omega
  ·right;omega
 have cJ:0<=v/\l[v.toNat]?=some b:=⟨kD,yV⟩
 have Yj:0<=v/\v.toNat < l.length:=⟨kD,ji⟩
 have hfv:0<=v/\FF[v.toNat]?=some L:=⟨kD,hL⟩
 have Wl:v < T\/b=true->Aa ins.length ⟨LL,CC,FF⟩ l v l:=λh=>.known (h.imp (λh=>by omega) λh=>by rw [<-h];exact yV)
 obtain ⟨l1,jj⟩:∃l1,l.set v.toNat true=l1:=⟨_,rfl⟩
 have yU:T<=v->sW ins.length ⟨LL,CC,FF⟩ l v L 0 l1:=λh=>jj ▸ sW.start (by omega) ji L
 have hw:=hw.trans hT
 have e6:T<=v->j9 ins.length ⟨LL,CC,FF⟩ v.toNat=L/\(∀x∈L,0<=x/\x < v)/\sW ins.length ⟨LL,CC,FF⟩ l v L 0 l1/\L.length<=600/\(∀x∈L,x∈j9 ins.length ⟨LL,CC,FF⟩ v.toNat)/\∃m,m+1=k:=λh =>
  ⟨Dr h,Ky h,yU h,A4.resolve_right (by omega),λx hx=>by rw [Dr h];exact hx,k - 1,by omega⟩
 clear Dr Ky yU A4 yG
 refine ⟨?_⟩
 cbv
 refine ⟨λh=>?_,λh=>?_⟩
 ·have aP:fu v (IntKind.i64.wrap (2+(ins.length:Int)))=true:=h.out
  rw [hw] at aP
  have aP:v < T:=by simpa [fu] using aP
  have bV:=Wl (.inl aP)
  cbv
  exact ⟨l,[],[],⟨by exact fj,trivial⟩,by exact aX,⟨bV⟩⟩
 have cf:fu v (IntKind.i64.wrap (2+(ins.length:Int)))=false:=h.out
 rw [hw] at cf
 have cf:T<=v:=by
     have h':¬v < T:=by simpa [fu] using cf
     exact Int.not_lt.1 h'
 obtain ⟨Dr,Ky,yU,A4,hLx,m,qt⟩:=e6 cf
 have ih:=ih m qt
 clear h
 cbv
 refine ⟨⟨Yj⟩,?_⟩
 cbv
 refine ⟨b,⟨yV,rfl⟩,?_⟩
 cbv
 refine ⟨λh=>?_,λh=>?_⟩
 ·have rA:b=true:=h.out
  have bV:=Wl (.inr rA)
  cbv
  exact ⟨l,[],[],⟨by exact fj,trivial⟩,by exact aX,⟨bV⟩⟩
 clear h
 cbv
 refine ⟨⟨Yj⟩,?_⟩
 cbv
 refine ⟨(b,true),⟨yV,rfl,by exact fj⟩,?_⟩
 cbv
 refine ⟨L,⟨hfv⟩,?_⟩
 cbv
 refine Sat.eI (Xg 0 0) 6 5 [] (λy:Nat × List Bool=>[(29,.sl 1 bK (λ_=>L)),(30,.i .i64 (λ_=>(L.length:Int))),(31,.i .i64 (λ_=>(y.1:Int)))]) (λy=>[(2,.dyn 4 1 pr (λ_=>y.2))]) (λy=>sW ins.length ⟨LL,CC,FF⟩ l v L y.1 y.2) (λy=>L.length - y.1) (0,l1) (by exact aX) (by have eu:=jj;exact bp) yU ?_
 rintro ⟨j,l2⟩ hJ
 have hJ:sW ins.length ⟨LL,CC,FF⟩ l v L j l2:=hJ
 have e8:=hJ.le
 have lx:l2.length=2+ins.length+gs.length:=hJ.len.trans hl
 have mi:=n0 j
 have pb:=eU (i:=j) (by omega)
 cbv
 refine ⟨λh=>?_,λh=>?_⟩
 rotate_left
 ·have JF:L.length<=j:=aJ
  have bV:=hJ.fin JF Dr
  cbv
  exact ⟨l2,[],[],⟨by exact fj,trivial⟩,by exact aX,⟨bV⟩⟩
 have FJ:j < L.length:=aJ
 have cD:L.length - (j+1) < L.length - j:=by omega
 refine (cy FJ).elim λx hx=>?_
 have Gq:=cN hx
 have lT:=Ky x Gq
 have dU:JI ⟨ins,gs,outs,dr⟩ ⟨LL,CC,FF⟩ l2 x/\x.toNat<=m:=⟨⟨G,hs,lx,lT.1,Int.lt_trans lT.2 rz⟩,by have:=lT.1;have:=lT.2;omega⟩
 have Kt:=hLx x Gq
 clear h
 cbv
 refine ⟨x,⟨mi,hx⟩,?_⟩
 cbv
 refine iP.ue ih (λa y=>trivial) ⟨⟨ins,gs,outs,dr⟩,⟨LL,CC,FF⟩,l2,x⟩ [0,1,2,3,4] rfl (by exact aY) (by exact aX) ⟨dU⟩ λy hy=>?_
 have b9:=hJ.step hx Kt hy.out
 cbv
 exact ⟨(j+1,y),by have bI:=pb;exact bp,by exact aX,⟨⟨b9,cD⟩⟩⟩
theorem Xh:∀k,ma PP 33 (Qt k)
 | 0=>Vr 0 λm h=>by omega
 | k+1=>Vr (k+1) λm h=>by
  cases Nat.succ.inj h
  exact Xh k
@[reducible] noncomputable def Yk:Vc.Spec where
 α:=List Int
 args x:=[.sl 1 bK (λ_=>x)]
 pre x:=x.length<=1000000
 res x:=.sl 1 bK (λ_=>x)
noncomputable def ake (n m:Nat):Ctx:=cT n m [] [] [] [] [] [32]
theorem agG (n m:Nat):CB PP (ake n m):=cW n m trivial trivial
theorem agH:dw (PP ()) 34 Yk:=by
 refine fH (agG 0 0) (fo Try.func34) (λa=>⟨λx=>(dv x).1,trivial⟩) (λa=>λx=>(dv x).1) ?_
 intro l hx
 have hl:l.length<=1000000:=hx
 have b1:l.length*8<=140737488355328:=by omega
 have b2:l.length<=9223372036854775807:=by omega
 have b3:(0+l.length)*8<=140737488355328:=by omega
 have b4:0+l.length<=9223372036854775807:=by omega
 refine ⟨?_⟩
 cbv
 refine ⟨λh=>?_,?_⟩
 ·have hn:l=[]:=by
   have h':=h.out
   simpa using h'
  subst hn
  cbv
  exact ⟨by exact aY⟩
 refine ⟨l,⟨by exact fj,b3,b4⟩,?_⟩
 cbv
 exact ⟨by exact aY⟩
end Go.Proofs.Pk
