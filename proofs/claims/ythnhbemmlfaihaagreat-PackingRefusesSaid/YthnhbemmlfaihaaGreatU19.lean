import Derived.Test.YthnhbemmlfaihaaGreatU7
import Derived.Test.YthnhbemmlfaihaaGreatU18
set_option linter.unusedVariables false
set_option linter.unusedSimpArgs false
set_option maxRecDepth 10000
set_option maxHeartbeats 64000000
namespace Go.Proofs.Pk
open Go Go.Vc
structure AL where
 l:List Int
 w:Int
structure Kc (l y:List Int):Prop where
 len:y.length=3
 mem:∀v∈y,v=0\/v∈l
@[reducible] noncomputable def ar4:fK where
 α:=AL
 args x:=[.sl 1 bM (λ_=>x.l),.i .i64 (λ_=>x.w)]
 pre x:=x.l.length<=1000
 β:=List Int
 post x y:=Kc x.l y
 res x y:=.sl 1 bM (λ_=>y)
noncomputable def cAd (n m:Nat):Ctx:=fB n m [] [] [] [] [] [35]
theorem af1 (n m:Nat):CB PP (cAd n m):=fG n m trivial trivial
theorem adQ:eG PP 163 ar4:=by
 refine iL (af1 0 0) (fo Tryz.func163) (λa=>⟨(λx=>(cQ x).1),trivial,trivial⟩) (λa y=>(λx=>(cQ x).1)) ?_
 rintro ⟨l,w⟩ hx
 have hl:l.length<=1000:=hx
 refine ⟨?_⟩
 cbv
 refine ⟨[0,0,0],⟨by exact aK,rfl⟩,?_⟩
 cbv
 refine Sat.cf (af1 0 0) 1 6 [] (λx:Nat × List Int=>[(6,.i .i64 λ_=>(x.1:Int))]) (λx=>[(0,.dyn 3 1 bM λ_=>x.2)]) (λx=>x.1<=3/\Kc l x.2) (λx=>3 - x.1) ⟨0,[0,0,0]⟩ (by exact ao) (by exact ao) ⟨by omega,rfl,λv hv=>by simp at hv;exact .inl hv⟩ ?_
 rintro ⟨i,y⟩ ⟨hi,hlen,eV⟩
 simp only at hi hlen eV
 have h0:=n0 i
 have h1:=cq (i:=i) (by omega)
 have hc:IntKind.u64.wrap (i:Int)=i:=by
  have:i=0\/i=1\/i=2\/i=3:=by omega
  rcases this with rfl|rfl|rfl|rfl<;>rfl
 cbv
 refine ⟨λh=>?_,λh=>?_⟩
 ·(have h:=h.out;simp (disch:=exact aT) only [hS] at h)
  have aR:i < 3:=by exact aT
  cbv
  refine ⟨λh=>?_,λh=>?_⟩
  ·(have h:=h.out;simp (disch:=exact aT) only [hS] at h)
   have wC:i < l.length:=by exact aT
   obtain ⟨v,hv⟩:=bD wC
   cbv
   refine ⟨⟨by rw [hc];exact h0⟩,?_⟩
   cbv
   refine ⟨λh=>?_,λh=>?_⟩
   ·cbv
    refine ⟨v,⟨h0,hv⟩,?_⟩
    have Re:i < y.length:=by omega
    obtain ⟨u,hu⟩:=bD Re
    have bh:3 - (i+1) < 3 - i:=by omega
    have mO:i+1<=3:=by omega
    have bX:Kc l (y.set i v):=⟨by rw [km];exact hlen,λz hz=>by
     rcases NU hz with hz|rfl
     ·exact eV z hz
     ·exact .inr (cb hv)⟩
    cbv
    refine ⟨⟨h0,Re⟩,?_⟩
    cbv
    refine ⟨(u,v),⟨hu,rfl,by exact aK⟩,?_⟩
    cbv
    exact ⟨(i+1,y.set i v),by have bg:=h1;exact bJ,by exact ao,⟨⟨mO,bX⟩,bh⟩⟩
   ·cbv
    exact .mk' y ⟨by exact aK⟩ ⟨hlen,eV⟩
  ·cbv
   exact .mk' y ⟨by exact aK⟩ ⟨hlen,eV⟩
 ·cbv
  exact .mk' y ⟨by exact aK⟩ ⟨hlen,eV⟩
end Go.Proofs.Pk
