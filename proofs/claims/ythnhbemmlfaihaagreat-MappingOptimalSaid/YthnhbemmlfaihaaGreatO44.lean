import Derived.Test.YthnhbemmlfaihaaGreatO13
import Derived.Test.YthnhbemmlfaihaaGreatO35
import Derived.Test.YthnhbemmlfaihaaGreatO40
set_option linter.unusedVariables false
set_option linter.unusedSimpArgs false
set_option maxRecDepth 10000
set_option maxHeartbeats 64000000
namespace Go.Proofs.Pk
open Go Go.Vc
structure Tg (m:dK):Prop where
 v:yJ m
 f:HY m
@[reducible] noncomputable def adv:Vc.Spec where
 α:=adq
 args x:=[.agg (yH x.m)]
 pre x:=Tg x.m
 res x:=.bc true
theorem shF {l:Nat} {xt:Int} (hl:l<=4) (h0:0<=xt) (h1:xt < 2^(2^l)):0<=IntKind.u64.wrap (if (l:Int)<=4 then (l:Int) else 4)/\0<=IntKind.u64.wrap (1*2^min (IntKind.u64.wrap (if (l:Int)<=4 then (l:Int) else 4)).toNat IntKind.u64.bits) /\
  fk (xt.fdiv (2^min (IntKind.u64.wrap (1*2^min (IntKind.u64.wrap (if (l:Int)<=4 then (l:Int) else 4)).toNat IntKind.u64.bits)).toNat IntKind.i64.bits)) 0=true:=by
 have main:∀p:Int,0 < p->xt < p->fk (xt.fdiv p) 0=true:=λp hp h=>by
  rw [Int.fdiv_eq_ediv_of_nonneg _ (by omega),Int.ediv_eq_zero_of_lt h0 h];rfl
 have:l=0\/l=1\/l=2\/l=3\/l=4:=by omega
 rcases this with e|e|e|e|e<;>subst e<;>refine ⟨by decide,by decide,main _ (by decide) (Int.lt_of_lt_of_le h1 (by decide))⟩
noncomputable def ary (n m:Nat):Ctx:=dM n m [] []
theorem Mb (n m:Nat):CB PP (ary n m):=dP n m trivial trivial
theorem amO:dt (PP ()) 40 adv:=by
 refine e6 (Mb 0 0) (fo Tryz.func40) (λa=>⟨z8 a.m,trivial⟩) (λa=>trivial) ?_
 rintro ⟨⟨mn,mc,md⟩⟩ hx
 obtain ⟨hv,hf⟩:Tg ⟨mn,mc,md⟩:=hx
 have hm0:0<=mn:=hv.n0
 have hm6:2+mn+(mc.length:Int)<=600:=hv.n6
 have wB:md.length<=1000000:=hf.dr
 have Bj:∀s∈md,0<=s/\s < 2+mn+mc.length:=hv.dr
 have nA:∀(i:Nat) (xi:List Int) (xt xr:Int),mc[i]?=some ⟨xi,xt,xr⟩->((xr=-1/\xi.length<=4/\0<=xt/\xt < 2^(2^xi.length))\/(0<=xr/\xr < 64/\xi.length=3/\xt=0))/\∀s∈xi,0<=s/\s < 2+mn+i:=λi xi xt xr hx=>by
  obtain ⟨c1,c2⟩:=hv.cell i _ hx
  refine ⟨?_,c2⟩
  simp only [oq,r6,r7,cG,decide_eq_true_eq] at c1
  omega
 have I1:mc.length<=600:=by omega
 have arz:¬600 < mn:=by omega
 have kO:IntKind.i64.wrap (2+mn)=2+mn:=cW (by omega) (by omega)
 have n7:∀j:Nat,j<=600->IntKind.i64.wrap (IntKind.i64.wrap (2+mn)+(j:Int))=2+mn+j:=λj hj=>by rw [kO];exact cW (by omega) (by omega)
 have Dy:=n7 mc.length I1
 have arA:¬600 < IntKind.i64.wrap (IntKind.i64.wrap (2+mn)+(mc.length:Int)):=by rw [Dy];omega
 clear hv hf
 refine ⟨?_⟩
 cbv
 refine ⟨λh=>?_,λh=>?_⟩
 ·have aO:mn < 0:=aL
  cases (show False by omega)
 clear h
 cbv
 refine ⟨λh=>?_,λh=>?_⟩
 ·have aO:600 < mn:=aL
  cases (show False from arz aO)
 clear h
 cbv
 refine ⟨λh=>?_,λh=>?_⟩
 ·have aO:600 < IntKind.i64.wrap (IntKind.i64.wrap (2+mn)+(mc.length:Int)):=by simpa [dv] using h.out
  cases (show False from arA aO)
 clear h
 cbv
 refine Sat.cU (Mb 0 0) 1 3 [] (λi:Nat=>[(3,.i .i64 (λ_=>(i:Int)))]) (λ_=>[]) (λi=>i<=mc.length) (λi=>mc.length - i) 0 (by exact aM) (by exact aM) (cg _) ?_
 intro i hi
 have hi:i<=mc.length:=hi
 have cZ:=n0 i
 have ei:=cX (i:=i) (by omega)
 have qb:=n7 i (by omega)
 refine (⟨_,rfl⟩:∃L,2+mn+(i:Int)=L).elim λL hL=>?_
 cbv
 refine ⟨λh=>?_,λh=>?_⟩
 ·have bQ:i < mc.length:=aL
  have bX:mc.length - (i+1) < mc.length - i:=by omega
  refine (bK bQ).elim λx=>?_
  refine x.casesOn λxi xt xr hx=>?_
  obtain ⟨hc,hs⟩:=nA i xi xt xr hx
  rw [hL] at qb hs
  have qH:xi.length<=4:=by omega
  clear h nA
  cbv
  refine ⟨⟨xi,xt,xr⟩,⟨cZ,hx⟩,?_⟩
  cbv
  refine Sat.cU (Mb 0 0) 2 6 [] (λj:Nat=>[(6,.i .i64 (λ_=>(j:Int)))]) (λ_=>[]) (λj=>j<=xi.length) (λj=>xi.length - j) 0 (by exact aM) (by exact aM) (cg _) ?_
  intro j hj
  have hj:j<=xi.length:=hj
  have gV:=n0 j
  have jm:=cX (i:=j) (by omega)
  cbv
  refine ⟨λh=>?_,λh=>?_⟩
  ·have dG:j < xi.length:=aL
   have xD:xi.length - (j+1) < xi.length - j:=by omega
   refine (bK dG).elim λs DA=>?_
   obtain ⟨s0,s1⟩:=hs s (cf DA)
   have s2:¬IntKind.i64.wrap (IntKind.i64.wrap (2+mn)+(i:Int))<=s:=by rw [qb];omega
   clear h
   cbv
   refine ⟨s,⟨gV,DA⟩,?_⟩
   cbv
   refine ⟨λh=>?_,λh=>?_⟩
   ·have aO:s < 0:=aL
    cases (show False by omega)
   clear h
   cbv
   refine ⟨s,⟨gV,DA⟩,?_⟩
   cbv
   refine ⟨λh=>?_,λh=>?_⟩
   ·have aO:IntKind.i64.wrap (IntKind.i64.wrap (2+mn)+(i:Int))<=s:=by simpa [fU] using h.out
    cases (show False from s2 aO)
   clear h
   cbv
   exact ⟨j+1,by have bD:=jm;exact a8,by exact aM,⟨⟨dG,xD⟩⟩⟩
  clear h
  rcases hc with ⟨c1,c2,c3,c4⟩|⟨c1,c2,c3,c4⟩
  ·obtain ⟨n1,n2,e⟩:=shF c2 c3 c4
   cbv
   refine ⟨λh=>?_,λh=>?_⟩
   rotate_left
   ·have q1:¬xr=-1:=aL
    cases (show False from q1 c1)
   clear h
   cbv
   refine ⟨λh=>?_,λh=>?_⟩
   rotate_left
   ·have q1:fU (xi.length:Int) 4=false:=h.out
    cases (show False by simp [fU] at q1;omega)
   clear h
   cbv
   refine ⟨λh=>?_,λh=>?_⟩
   rotate_left
   ·have q1:¬0<=xt:=aL
    cases (show False from q1 c3)
   clear h
   cbv
   refine ⟨⟨n1⟩,⟨n2⟩,?_⟩
   cbv
   refine ⟨λh=>?_,λh=>?_⟩
   ·have q1:=h.out
    cases (show False by simp only [oY] at q1;rw [e] at q1;cases q1)
   clear h
   cbv
   exact ⟨i+1,by have bD:=ei;exact a8,by exact aM,⟨⟨bQ,bX⟩⟩⟩
  ·have c3':(xi.length:Int)=3:=by omega
   cbv
   refine ⟨λh=>?_,λh=>?_⟩
   ·have q1:xr=-1:=aL
    cases (show False by omega)
   clear h
   cbv
   refine ⟨λh=>?_,λh=>?_⟩
   ·have q1:xr < 0:=aL
    cases (show False by omega)
   clear h
   cbv
   refine ⟨λh=>?_,λh=>?_⟩
   ·have q1:63 < xr:=aL
    cases (show False by omega)
   clear h
   cbv
   refine ⟨λh=>?_,λh=>?_⟩
   ·have q1:¬(xi.length:Int)=3:=aL
    cases (show False from q1 c3')
   clear h
   cbv
   refine ⟨λh=>?_,λh=>?_⟩
   ·have q1:¬xt=0:=aL
    cases (show False from q1 c4)
   clear h
   cbv
   exact ⟨i+1,by have bD:=ei;exact a8,by exact aM,⟨⟨bQ,bX⟩⟩⟩
 ·clear h
  cbv
  refine Sat.cU (Mb 0 0) 1 3 [] (λj:Nat=>[(8,.i .i64 (λ_=>(j:Int)))]) (λ_=>[]) (λj=>j<=md.length) (λj=>md.length - j) 0 (by exact aM) (by exact aM) (cg _) ?_
  intro j hj
  have hj:j<=md.length:=hj
  have gV:=n0 j
  have jm:=cX (i:=j) (by omega)
  cbv
  refine ⟨λh=>?_,λh=>?_⟩
  ·have dG:j < md.length:=aL
   have xD:md.length - (j+1) < md.length - j:=by omega
   refine (bK dG).elim λs DA=>?_
   obtain ⟨s0,s1⟩:=Bj s (cf DA)
   have s2:¬IntKind.i64.wrap (IntKind.i64.wrap (2+mn)+(mc.length:Int))<=s:=by rw [Dy];omega
   clear h
   cbv
   refine ⟨s,⟨gV,DA⟩,?_⟩
   cbv
   refine ⟨λh=>?_,λh=>?_⟩
   ·have aO:s < 0:=aL
    cases (show False by omega)
   clear h
   cbv
   refine ⟨s,⟨gV,DA⟩,?_⟩
   cbv
   refine ⟨λh=>?_,λh=>?_⟩
   ·have aO:IntKind.i64.wrap (IntKind.i64.wrap (2+mn)+(mc.length:Int))<=s:=by simpa [fU] using h.out
    cases (show False from s2 aO)
   clear h
   cbv
   exact ⟨j+1,by have bD:=jm;exact a8,by exact aM,⟨⟨dG,xD⟩⟩⟩
  clear h
  cbv
  exact ⟨by exact bp⟩
end Go.Proofs.Pk
