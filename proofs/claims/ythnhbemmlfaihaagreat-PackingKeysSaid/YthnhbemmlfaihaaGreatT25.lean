import Derived.Test.YthnhbemmlfaihaaGreatT12
import Derived.Test.YthnhbemmlfaihaaGreatT24
set_option linter.unusedVariables false
set_option linter.unusedSimpArgs false
set_option maxRecDepth 10000
set_option maxHeartbeats 64000000
namespace Go.Proofs.Pk
open Go Go.Vc
structure AL where
 l:List Int
 w:Int
structure Kr (l y:List Int):Prop where
 len:y.length=3
 mem:∀v∈y,v=0\/v∈l
@[reducible] noncomputable def asn:fO where
 α:=AL
 args x:=[.sl 1 bK (λ_=>x.l),.i .i64 (λ_=>x.w)]
 pre x:=x.l.length<=1000
 β:=List Int
 post x y:=Kr x.l y
 res x y:=.sl 1 bK (λ_=>y)
noncomputable def cAd (n m:Nat):Ctx:=fy n m [] [] [] [] [] [35]
theorem aga (n m:Nat):CB PP (cAd n m):=fF n m trivial trivial
theorem ad4:eM PP 163 asn:=by
 refine iQ (aga 0 0) (fo Tryz.func163) (λa=>⟨(λx=>(cP x).1),trivial,trivial⟩) (λa y=>(λx=>(cP x).1)) ?_
 rintro ⟨l,w⟩ hx
 have hl:l.length<=1000:=hx
 refine ⟨?_⟩
 cbv
 refine ⟨[0,0,0],⟨by exact aL,rfl⟩,?_⟩
 cbv
 refine Sat.cd (aga 0 0) 1 6 [] (λx:Nat × List Int=>[(6,.i .i64 λ_=>(x.1:Int))]) (λx=>[(0,.dyn 3 1 bK λ_=>x.2)]) (λx=>x.1<=3/\Kr l x.2) (λx=>3 - x.1) ⟨0,[0,0,0]⟩ (by exact ao) (by exact ao) ⟨by omega,rfl,λv hv=>by simp at hv;exact .inl hv⟩ ?_
 rintro ⟨i,y⟩ ⟨hi,hlen,eS⟩
 simp only at hi hlen eS
 have h0:=n0 i
 have h1:=cj (i:=i) (by omega)
 have hc:IntKind.u64.wrap (i:Int)=i:=by
  have:i=0\/i=1\/i=2\/i=3:=by omega
  rcases this with rfl|rfl|rfl|rfl<;>rfl
 cbv
 refine ⟨λh=>?_,λh=>?_⟩
 ·(have h:=h.out;simp (disch:=exact aU) only [hS] at h)
  have aR:i < 3:=by exact aU
  cbv
  refine ⟨λh=>?_,λh=>?_⟩
  ·(have h:=h.out;simp (disch:=exact aU) only [hS] at h)
   have wF:i < l.length:=by exact aU
   obtain ⟨v,hv⟩:=bB wF
   cbv
   refine ⟨⟨by rw [hc];exact h0⟩,?_⟩
   cbv
   refine ⟨λh=>?_,λh=>?_⟩
   ·cbv
    refine ⟨v,⟨h0,hv⟩,?_⟩
    have Rc:i < y.length:=by omega
    obtain ⟨u,hu⟩:=bB Rc
    have a7:3 - (i+1) < 3 - i:=by omega
    have mR:i+1<=3:=by omega
    have bW:Kr l (y.set i v):=⟨by rw [kO];exact hlen,λz hz=>by
     rcases S4 hz with hz|rfl
     ·exact eS z hz
     ·exact .inr (cb hv)⟩
    cbv
    refine ⟨⟨h0,Rc⟩,?_⟩
    cbv
    refine ⟨(u,v),⟨hu,rfl,by exact aL⟩,?_⟩
    cbv
    exact ⟨(i+1,y.set i v),by have bm:=h1;exact bI,by exact ao,⟨⟨mR,bW⟩,a7⟩⟩
   ·cbv
    exact .mk' y ⟨by exact aL⟩ ⟨hlen,eS⟩
  ·cbv
   exact .mk' y ⟨by exact aL⟩ ⟨hlen,eS⟩
 ·cbv
  exact .mk' y ⟨by exact aL⟩ ⟨hlen,eS⟩
end Go.Proofs.Pk
