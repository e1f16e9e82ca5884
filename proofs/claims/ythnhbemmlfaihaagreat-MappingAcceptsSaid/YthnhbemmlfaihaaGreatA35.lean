import Derived.Test.YthnhbemmlfaihaaGreatA13
import Derived.Test.YthnhbemmlfaihaaGreatA29
import Derived.Test.YthnhbemmlfaihaaGreatA32
set_option linter.unusedVariables false
set_option linter.unusedSimpArgs false
set_option maxRecDepth 10000
set_option maxHeartbeats 64000000
namespace Go.Proofs.Pk
open Go Go.Vc
structure OM (m:ea):Prop where
 v:uP m
 f:EJ m
@[reducible] noncomputable def Yc:Vc.Spec where
 α:=X8
 args x:=[.agg (wa x.m)]
 pre x:=OM x.m
 res x:=.bc true
theorem shF {l:Nat} {xt:Int} (hl:l<=4) (h0:0<=xt) (h1:xt < 2^(2^l)):0<=IntKind.u64.wrap (if (l:Int)<=4 then (l:Int) else 4)/\0<=IntKind.u64.wrap (1*2^min (IntKind.u64.wrap (if (l:Int)<=4 then (l:Int) else 4)).toNat IntKind.u64.bits) /\
  ga (xt.fdiv (2^min (IntKind.u64.wrap (1*2^min (IntKind.u64.wrap (if (l:Int)<=4 then (l:Int) else 4)).toNat IntKind.u64.bits)).toNat IntKind.i64.bits)) 0=true:=by
 have main:∀p:Int,0 < p->xt < p->ga (xt.fdiv p) 0=true:=λp hp h=>by
  rw [Int.fdiv_eq_ediv_of_nonneg _ (by omega),Int.ediv_eq_zero_of_lt h0 h];rfl
 have:l=0\/l=1\/l=2\/l=3\/l=4:=by omega
 rcases this with e|e|e|e|e<;>subst e<;>refine ⟨by decide,by decide,main _ (by decide) (Int.lt_of_lt_of_le h1 (by decide))⟩
noncomputable def akl (n m:Nat):Ctx:=cW n m [] []
theorem Iy (n m:Nat):CB PP (akl n m):=cZ n m trivial trivial
theorem agD:cY (PP ()) 40 Yc:=by
 refine e6 (Iy 0 0) (fo Tryz.func40) (λa=>⟨xu a.m,trivial⟩) (λa=>trivial) ?_
 rintro ⟨⟨mn,mc,md⟩⟩ hx
 obtain ⟨hv,hf⟩:OM ⟨mn,mc,md⟩:=hx
 have hm0:0<=mn:=hv.n0
 have hm6:2+mn+(mc.length:Int)<=600:=hv.n6
 have tU:md.length<=1000000:=hf.dr
 have sI:∀s∈md,0<=s/\s < 2+mn+mc.length:=hv.dr
 have lM:∀(i:Nat) (xi:List Int) (xt xr:Int),mc[i]?=some ⟨xi,xt,xr⟩->((xr=-1/\xi.length<=4/\0<=xt/\xt < 2^(2^xi.length))\/(0<=xr/\xr < 64/\xi.length=3/\xt=0))/\∀s∈xi,0<=s/\s < 2+mn+i:=λi xi xt xr hx=>by
  obtain ⟨c1,c2⟩:=hv.cell i _ hx
  refine ⟨?_,c2⟩
  simp only [nM,pg,pU,b9,decide_eq_true_eq] at c1
  omega
 have CD:mc.length<=600:=by omega
 have akm:¬600 < mn:=by omega
 have nt:IntKind.i64.wrap (2+mn)=2+mn:=dV (by omega) (by omega)
 have qj:∀j:Nat,j<=600->IntKind.i64.wrap (IntKind.i64.wrap (2+mn)+(j:Int))=2+mn+j:=λj hj=>by rw [nt];exact dV (by omega) (by omega)
 have AN:=qj mc.length CD
 have akn:¬600 < IntKind.i64.wrap (IntKind.i64.wrap (2+mn)+(mc.length:Int)):=by rw [AN];omega
 clear hv hf
 refine ⟨?_⟩
 cbv
 refine ⟨λh=>?_,λh=>?_⟩
 ·have aP:mn < 0:=aG
  cases (show False by omega)
 clear h
 cbv
 refine ⟨λh=>?_,λh=>?_⟩
 ·have aP:600 < mn:=aG
  cases (show False from akm aP)
 clear h
 cbv
 refine ⟨λh=>?_,λh=>?_⟩
 ·have aP:600 < IntKind.i64.wrap (IntKind.i64.wrap (2+mn)+(mc.length:Int)):=by simpa [fk] using h.out
  cases (show False from akn aP)
 clear h
 cbv
 refine Sat.dP (Iy 0 0) 1 3 [] (λi:Nat=>[(3,.i .i64 (λ_=>(i:Int)))]) (λ_=>[]) (λi=>i<=mc.length) (λi=>mc.length - i) 0 (by exact aW) (by exact aW) (cI _) ?_
 intro i hi
 have hi:i<=mc.length:=hi
 have dv:=n0 i
 have eW:=eh (i:=i) (by omega)
 have tR:=qj i (by omega)
 refine (⟨_,rfl⟩:∃L,2+mn+(i:Int)=L).elim λL hL=>?_
 cbv
 refine ⟨λh=>?_,λh=>?_⟩
 ·have bO:i < mc.length:=aG
  have cf:mc.length - (i+1) < mc.length - i:=by omega
  refine (cg bO).elim λx=>?_
  refine x.casesOn λxi xt xr hx=>?_
  obtain ⟨hc,hs⟩:=lM i xi xt xr hx
  rw [hL] at tR hs
  have tT:xi.length<=4:=by omega
  clear h lM
  cbv
  refine ⟨⟨xi,xt,xr⟩,⟨dv,hx⟩,?_⟩
  cbv
  refine Sat.dP (Iy 0 0) 2 6 [] (λj:Nat=>[(6,.i .i64 (λ_=>(j:Int)))]) (λ_=>[]) (λj=>j<=xi.length) (λj=>xi.length - j) 0 (by exact aW) (by exact aW) (cI _) ?_
  intro j hj
  have hj:j<=xi.length:=hj
  have jg:=n0 j
  have lg:=eh (i:=j) (by omega)
  cbv
  refine ⟨λh=>?_,λh=>?_⟩
  ·have ei:j < xi.length:=aG
   have CX:xi.length - (j+1) < xi.length - j:=by omega
   refine (cg ei).elim λs AP=>?_
   obtain ⟨s0,s1⟩:=hs s (cM AP)
   have s2:¬IntKind.i64.wrap (IntKind.i64.wrap (2+mn)+(i:Int))<=s:=by rw [tR];omega
   clear h
   cbv
   refine ⟨s,⟨jg,AP⟩,?_⟩
   cbv
   refine ⟨λh=>?_,λh=>?_⟩
   ·have aP:s < 0:=aG
    cases (show False by omega)
   clear h
   cbv
   refine ⟨s,⟨jg,AP⟩,?_⟩
   cbv
   refine ⟨λh=>?_,λh=>?_⟩
   ·have aP:IntKind.i64.wrap (IntKind.i64.wrap (2+mn)+(i:Int))<=s:=by simpa [iG] using h.out
    cases (show False from s2 aP)
   clear h
   cbv
   exact ⟨j+1,by have bK:=lg;exact bq,by exact aW,⟨⟨ei,CX⟩⟩⟩
  clear h
  rcases hc with ⟨c1,c2,c3,c4⟩|⟨c1,c2,c3,c4⟩
  ·obtain ⟨n1,n2,e⟩:=shF c2 c3 c4
   cbv
   refine ⟨λh=>?_,λh=>?_⟩
   rotate_left
   ·have q1:¬xr=-1:=aG
    cases (show False from q1 c1)
   clear h
   cbv
   refine ⟨λh=>?_,λh=>?_⟩
   rotate_left
   ·have q1:iG (xi.length:Int) 4=false:=h.out
    cases (show False by simp [iG] at q1;omega)
   clear h
   cbv
   refine ⟨λh=>?_,λh=>?_⟩
   rotate_left
   ·have q1:¬0<=xt:=aG
    cases (show False from q1 c3)
   clear h
   cbv
   refine ⟨⟨n1⟩,⟨n2⟩,?_⟩
   cbv
   refine ⟨λh=>?_,λh=>?_⟩
   ·have q1:=h.out
    cases (show False by simp only [mX] at q1;rw [e] at q1;cases q1)
   clear h
   cbv
   exact ⟨i+1,by have bK:=eW;exact bq,by exact aW,⟨⟨bO,cf⟩⟩⟩
  ·have c3':(xi.length:Int)=3:=by omega
   cbv
   refine ⟨λh=>?_,λh=>?_⟩
   ·have q1:xr=-1:=aG
    cases (show False by omega)
   clear h
   cbv
   refine ⟨λh=>?_,λh=>?_⟩
   ·have q1:xr < 0:=aG
    cases (show False by omega)
   clear h
   cbv
   refine ⟨λh=>?_,λh=>?_⟩
   ·have q1:63 < xr:=aG
    cases (show False by omega)
   clear h
   cbv
   refine ⟨λh=>?_,λh=>?_⟩
   ·have q1:¬(xi.length:Int)=3:=aG
    cases (show False from q1 c3')
   clear h
   cbv
   refine ⟨λh=>?_,λh=>?_⟩
   ·have q1:¬xt=0:=aG
    cases (show False from q1 c4)
   clear h
   cbv
   exact ⟨i+1,by have bK:=eW;exact bq,by exact aW,⟨⟨bO,cf⟩⟩⟩
 ·clear h
  cbv
  refine Sat.dP (Iy 0 0) 1 3 [] (λj:Nat=>[(8,.i .i64 (λ_=>(j:Int)))]) (λ_=>[]) (λj=>j<=md.length) (λj=>md.length - j) 0 (by exact aW) (by exact aW) (cI _) ?_
  intro j hj
  have hj:j<=md.length:=hj
  have jg:=n0 j
  have lg:=eh (i:=j) (by omega)
  cbv
  refine ⟨λh=>?_,λh=>?_⟩
  ·have ei:j < md.length:=aG
   have CX:md.length - (j+1) < md.length - j:=by omega
   refine (cg ei).elim λs AP=>?_
   obtain ⟨s0,s1⟩:=sI s (cM AP)
   have s2:¬IntKind.i64.wrap (IntKind.i64.wrap (2+mn)+(mc.length:Int))<=s:=by rw [AN];omega
   clear h
   cbv
   refine ⟨s,⟨jg,AP⟩,?_⟩
   cbv
   refine ⟨λh=>?_,λh=>?_⟩
   ·have aP:s < 0:=aG
    cases (show False by omega)
   clear h
   cbv
   refine ⟨s,⟨jg,AP⟩,?_⟩
   cbv
   refine ⟨λh=>?_,λh=>?_⟩
   ·have aP:IntKind.i64.wrap (IntKind.i64.wrap (2+mn)+(mc.length:Int))<=s:=by simpa [iG] using h.out
    cases (show False from s2 aP)
   clear h
   cbv
   exact ⟨j+1,by have bK:=lg;exact bq,by exact aW,⟨⟨ei,CX⟩⟩⟩
  clear h
  cbv
  exact ⟨by exact a8⟩
end Go.Proofs.Pk
