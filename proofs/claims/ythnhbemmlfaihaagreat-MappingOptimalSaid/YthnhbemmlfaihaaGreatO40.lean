import Derived.Test.YthnhbemmlfaihaaGreatO13
import Derived.Test.YthnhbemmlfaihaaGreatO31
set_option linter.unusedVariables false
set_option linter.unusedSimpArgs false
set_option maxRecDepth 10000
set_option maxHeartbeats 64000000
namespace Go.Proofs.Pk
open Go Go.Vc
structure VlF (xi:List Int) (xt xr:Int) (tb rb:Bool) (K:Int):Prop where
 k:(xi.length:Int)=K
 t:r6 ⟨xi,xt,xr⟩=tb
 r:r7 ⟨xi,xt,xr⟩=rb
 t1:¬xr=-1->false=tb
 t2:fU (xi.length:Int) 4=false->false=tb
 k4:fU (xi.length:Int) 4=true->K<=4
 t3:¬0<=xt->false=tb
 t4:xr=-1->K<=4->0<=xt->0<=(if (xi.length:Int)<=4 then (xi.length:Int) else 4)/\0<=(IntKind.u64.wrap (1*2^min (if (xi.length:Int)<=4 then (xi.length:Int) else 4).toNat IntKind.u64.bits))/\dv xt (IntKind.i64.wrap (1*2^min (IntKind.u64.wrap (1*2^min (if (xi.length:Int)<=4 then (xi.length:Int) else 4).toNat IntKind.u64.bits)).toNat IntKind.i64.bits))=tb
 r1:¬0<=xr->false=rb
 r2:¬xr < 64->false=rb
 r3:¬K=3->false=rb
 r4:0<=xr->xr < 64->K=3->fk xt 0=rb
theorem vlF (xi:List Int) (xt xr:Int):∃tb rb K,VlF xi xt xr tb rb K:=by
 refine ⟨_,_,_,rfl,rfl,rfl,λh=>?_,λh=>?_,λh=>by simpa [fU] using h,λh=>?_,λh1 h2 h3=>?_,λh=>?_,λh=>?_,λh=>?_,λh1 h2 h3=>?_⟩
 ·unfold r6;simp [h]
 ·have h:¬(xi.length:Int)<=4:=by simpa [fU] using h
  have h:¬xi.length<=4:=by omega
  unfold r6;simp [h]
 ·unfold r6;simp [h]
 ·have h4:xi.length<=4:=by omega
  unfold r6
  simp only
  rw [decide_eq_true h1,decide_eq_true h4,decide_eq_true h3]
  have:xi.length=0\/xi.length=1\/xi.length=2\/xi.length=3\/xi.length=4:=by omega
  rcases this with h|h|h|h|h<;>rw [h]<;>exact ⟨by decide,by decide,by simp [dv,show IntKind.u64.bits=64 from rfl,show IntKind.i64.bits=64 from rfl];rfl⟩
 ·unfold r7;simp [h]
 ·unfold r7;simp [h]
 ·have h:¬xi.length=3:=by omega
  unfold r7;simp [h]
 ·have h3:xi.length=3:=by omega
  unfold r7
  by_cases h:xt=0<;>simp [h1,h2,h3,h,fk]
structure VlA (mn:Int) (mc:List Cell) (md:List Int) (vb:Bool) (Ck:Nat->Bool) (dB:Bool):Prop where
 fin:(Ck 0&&dB)=vb
 d:md.all (jx (2+mn+mc.length))=dB
 ce:∀i:Nat,mc.length<=i->Ck i=true
 cn:∀(i:Nat) (xi:List Int) (xt xr L:Int),mc[i]?=some ⟨xi,xt,xr⟩->2+mn+(i:Int)=L->Ck i=((r6 ⟨xi,xt,xr⟩||r7 ⟨xi,xt,xr⟩)&&xi.all (jx L)&&Ck (i+1))
theorem vlA {mn:Int} {mc:List Cell} {md:List Int} {vb:Bool} (h:(q8 mc (2+mn)&&md.all (jx (2+mn+mc.length)))=vb):∃Ck dB,VlA mn mc md vb Ck dB:=by
 refine ⟨λi=>q8 (mc.drop i) (2+mn+i),_,?_,rfl,λi h=>?_,λi xi xt xr L hx hL=>?_⟩
 ·rw [<-h];simp
 ·show q8 (mc.drop i) _=true
  rw [Ev h];rfl
 ·show q8 (mc.drop i) _=(_&&q8 (mc.drop (i+1)) _)
  rw [ag7 hx,show 2+mn+(i:Int)+1=2+mn+((i+1:Nat):Int) by omega,hL];rfl
structure adq where
 m:dK
structure H8 (m:dK):Prop where
 cells:m.cells.length<=1000000
 cin:∀x∈m.cells,x.ins.length<=1000000
 dr:m.bj.length<=1000000
@[reducible] noncomputable def Nn:Vc.Spec where
 α:=adq
 args x:=[.agg (yH x.m)]
 pre x:=H8 x.m
 res x:=.b (λ_=>vX x.m)
def sF (mn:Int) (mc:List Cell) (md:List Int) (i:Nat) (K:Int) (x:Cell) (t:List SV):Vc.St :=
 ⟨[.agg [.i .i64 (λ_=>mn),.sl 3 mw (λ_=>mc),.sl 1 bC (λ_=>md)],.ptr 0 0,.bc false,.fn (.func 111) [] [],.i .i64 (λ_=>(i:Int)),.ptr 1 0,.i .i64 (λ_=>K)]++t++tk 19++[.sl 3 mw (λ_=>mc),.i .i64 (λ_=>(mc.length:Int)),.i .i64 (λ_=>(i:Int))]++tk 75,
  [.fix 51 [.i .i64 (λ_=>mn),.sl 3 mw (λ_=>mc),.sl 1 bC (λ_=>md)],.fix 135 [.sl 1 bC (λ_=>x.ins),.i .i64 (λ_=>x.table),.i .i64 (λ_=>x.eI)]]⟩
noncomputable def ari (n m:Nat):Ctx:=dM n m [] [(111,SX)] [] [] [9,10]
theorem aaM (n m:Nat):CB PP (ari n m):=dP n m trivial ⟨aaA,trivial⟩
noncomputable def aom (n m:Nat):Ctx:=dM n m [] [(111,SX)]
theorem HF (n m:Nat):CB PP (aom n m):=dP n m trivial ⟨aaA,trivial⟩
theorem aaN:dt (PP ()) 39 Nn:=by
 refine e6 (aaM 0 0) (fo Tryz.func39) (λa=>⟨z8 a.m,trivial⟩) (λa=>trivial) ?_
 rintro ⟨⟨mn,mc,md⟩⟩ hx
 obtain ⟨Dv,u5,wB⟩:H8 ⟨mn,mc,md⟩:=hx
 have Dv:mc.length<=1000000:=Dv
 have u5:∀x∈mc,x.ins.length<=1000000:=u5
 have wB:md.length<=1000000:=wB
 obtain ⟨vb,oH⟩:∃vb,vX ⟨mn,mc,md⟩=vb:=⟨_,rfl⟩
 have Of:Nn.res ⟨⟨mn,mc,md⟩⟩=.b (λ_=>vb):=by rw [<-oH]
 rw [Of]
 unfold vX at oH
 simp only at oH
 have mL:¬0<=mn->false=vb:=λh=>by rw [<-oH,decide_eq_false h];rfl
 have qE:¬mn<=600->false=vb:=λh=>by rw [<-oH,decide_eq_false h];simp
 have JM:¬2+mn+(mc.length:Int)<=600->false=vb:=λh=>by rw [<-oH,decide_eq_false h];simp
 have eG:0<=mn->mn<=600->2+mn+(mc.length:Int)<=600->(q8 mc (2+mn)&&md.all (jx (2+mn+mc.length)))=vb:=λh1 h2 h3=>by rw [<-oH,decide_eq_true h1,decide_eq_true h2,decide_eq_true h3];rfl
 clear oH Of
 refine ⟨?_⟩
 cbv
 refine ⟨λh=>?_,λh=>?_⟩
 ·have aO:¬0<=mn:=aL
  have e1:=mL aO
  cbv
  exact ⟨by have fH:=e1;exact cd⟩
 have hm0:0<=mn:=aL
 clear h
 cbv
 refine ⟨λh=>?_,λh=>?_⟩
 ·have aO:¬mn<=600:=aL
  have e1:=qE aO
  cbv
  exact ⟨by have fH:=e1;exact cd⟩
 have hm6:mn<=600:=aL
 have kO:IntKind.i64.wrap (2+mn)=2+mn:=cW (by omega) (by omega)
 have n7:∀j:Nat,j<=1000000->IntKind.i64.wrap (IntKind.i64.wrap (2+mn)+(j:Int))=2+mn+j:=λj hj=>by rw [kO];exact cW (by omega) (by omega)
 have Dy:=n7 mc.length Dv
 clear h
 cbv
 refine ⟨λh=>?_,λh=>?_⟩
 ·have h':=h.out
  rw [Dy] at h'
  have aO:¬2+mn+(mc.length:Int)<=600:=by
         have h2:600 < 2+mn+(mc.length:Int):=by simpa [dv] using h'
         exact Ej.2 h2
  have e1:=JM aO
  cbv
  exact ⟨by have fH:=e1;exact cd⟩
 have hm7:2+mn+(mc.length:Int)<=600:=by
  have h':=h.out
  rw [Dy] at h'
  have h2:¬600 < 2+mn+(mc.length:Int):=by simpa [dv] using h'
  exact KY.1 h2
 refine (vlA (eG hm0 hm6 hm7)).elim λCk hA=>?_
 refine hA.elim λdB hA=>?_
 have iJ:=hA.fin
 have nA:=hA.ce
 clear h eG mL qE JM
 cbv
 refine Sat.cU (aaM 0 0) 1 4 [] (λi:Nat=>[(28,.sl 3 mw (λ_=>mc)),(29,.i .i64 (λ_=>(mc.length:Int))),(30,.i .i64 (λ_=>(i:Int)))]) (λ_=>[]) (λi=>i<=mc.length/\Ck 0=Ck i) (λi=>mc.length - i) 0 (by exact aM) (by exact aM) ⟨cg _,rfl⟩ ?_
 intro i hi
 have Bg:Ck 0=Ck i:=hi.2
 have hi:i<=mc.length:=hi.1
 have cZ:=n0 i
 have ei:=cX (i:=i) (by omega)
 have nA:=nA i
 have qb:=n7 i (by omega)
 refine (⟨_,rfl⟩:∃L,2+mn+(i:Int)=L).elim λL hL=>?_
 rw [hL] at qb
 cbv
 refine ⟨λh=>?_,λh=>?_⟩
 ·have bQ:i < mc.length:=aL
  have bX:mc.length - (i+1) < mc.length - i:=by omega
  refine (bK bQ).elim λx=>?_
  refine x.casesOn λxi xt xr hx=>?_
  have qH:xi.length<=1000000:=u5 _ (cf hx)
  have JL:=hA.cn i xi xt xr L hx hL
  refine (vlF xi xt xr).elim λtb hF=>?_
  refine hF.elim λrb hF=>?_
  refine hF.elim λK hF=>?_
  rw [hF.t,hF.r] at JL
  have hK:=hF.k
  have qC:(tb||rb)=false\/xi.all (jx L)=false->false=vb:=λh=>by
   rw [<-iJ,Bg,JL]
   rcases h with h|h<;>rw [h]<;>simp
  have RZ:(tb||rb)=true->xi.all (jx L)=true->(i+1<=mc.length/\Ck 0=Ck (i+1))/\mc.length - (i+1) < mc.length - i:=λh1 h2=>⟨⟨bQ,by rw [Bg,JL,h1,h2];rfl⟩,bX⟩
  clear h
  cbv
  refine ⟨⟨xi,xt,xr⟩,⟨cZ,hx⟩,?_⟩
  cbv
  apply yb (λc k=>Sat [] false PP c (sF mn mc md i K ⟨xi,xt,xr⟩ [.b (λ_=>tb),.any]) k)
  ·intro tail
   refine ⟨λh=>?_,λh=>?_⟩
   rotate_left
   ·have q1:¬xr=-1:=aL
    have e:=hF.t1 q1
    cbv
    exact iX 2 (sF mn mc md i K ⟨xi,xt,xr⟩ [.b (λ_=>tb),.any]) (by have fH:=e;have bD:=hK;exact a8) (by exact aM) tail
   have q1:xr=-1:=aL
   clear h
   cbv
   refine ⟨λh=>?_,λh=>?_⟩
   rotate_left
   ·have e:=hF.t2 h.out
    cbv
    exact iX 2 (sF mn mc md i K ⟨xi,xt,xr⟩ [.b (λ_=>tb),.any]) (by have fH:=e;have bD:=hK;exact a8) (by exact aM) tail
   have q2:=hF.k4 h.out
   clear h
   cbv
   refine ⟨λh=>?_,λh=>?_⟩
   rotate_left
   ·have q3:¬0<=xt:=aL
    have e:=hF.t3 q3
    cbv
    exact iX 2 (sF mn mc md i K ⟨xi,xt,xr⟩ [.b (λ_=>tb),.any]) (by have fH:=e;have bD:=hK;exact a8) (by exact aM) tail
   have q3:0<=xt:=aL
   obtain ⟨n1,n2,e⟩:=hF.t4 q1 q2 q3
   clear h
   cbv
   refine ⟨⟨n1⟩,⟨n2⟩,?_⟩
   exact iX 2 (sF mn mc md i K ⟨xi,xt,xr⟩ [.b (λ_=>tb),.any]) (by have po:=e;have bD:=hK;exact a8) (by exact aM) tail
  ·refine Sat.jN (HF 0 0) ?_
   cbv
   apply yb (λc k=>Sat [] false PP c (sF mn mc md i K ⟨xi,xt,xr⟩ [.b (λ_=>tb),.b (λ_=>rb)]) k)
   ·intro tail
    refine ⟨λh=>?_,λh=>?_⟩
    rotate_left
    ·have q1:¬0<=xr:=aL
     have e:=hF.r1 q1
     cbv
     exact iX 2 (sF mn mc md i K ⟨xi,xt,xr⟩ [.b (λ_=>tb),.b (λ_=>rb)]) (by have fH:=e;have po:=e;exact a8) (by exact aM) tail
    have q1:0<=xr:=aL
    clear h
    cbv
    refine ⟨λh=>?_,λh=>?_⟩
    rotate_left
    ·have q2:¬xr < 64:=aL
     have e:=hF.r2 q2
     cbv
     exact iX 2 (sF mn mc md i K ⟨xi,xt,xr⟩ [.b (λ_=>tb),.b (λ_=>rb)]) (by have fH:=e;have po:=e;exact a8) (by exact aM) tail
    have q2:xr < 64:=aL
    clear h
    cbv
    refine ⟨λh=>?_,λh=>?_⟩
    rotate_left
    ·have q3:¬K=3:=aL
     have e:=hF.r3 q3
     cbv
     exact iX 2 (sF mn mc md i K ⟨xi,xt,xr⟩ [.b (λ_=>tb),.b (λ_=>rb)]) (by have fH:=e;have po:=e;exact a8) (by exact aM) tail
    have q3:K=3:=aL
    have e:=hF.r4 q1 q2 q3
    clear h
    cbv
    exact iX 2 (sF mn mc md i K ⟨xi,xt,xr⟩ [.b (λ_=>tb),.b (λ_=>rb)]) (by have fH:=e;have po:=e;exact a8) (by exact aM) tail
   ·cases tb<;>cases rb
    ·refine iX 2 (sF mn mc md i K ⟨xi,xt,xr⟩ [.bc false,.bc false]) (by ((try cbv)<;>(repeat' (first|with_reducible exact trivial|with_reducible refine And.intro ?_ ?_))<;>(try first|exact cR.refl _|exact cR.dyn rfl|exact cR.map rfl|exact cR.iter rfl rfl (.inl rfl)|exact cR.iter rfl rfl (.inr rfl)|refine cR.fix ?_|refine cR.dyn ?_)<;>((repeat' first|exact dA.nil|exact Le.refl _|refine dA.cons ?_ ?_|exact Le.ic rfl|exact Le.bc rfl|exact Le.i rfl|exact Le.b rfl|exact Le.sl rfl|exact Le.mp rfl|exact Le.gq rfl|exact Le.pP rfl|refine Le.cQ rfl (λ_=>?_)|refine Le.ew rfl (λ_ _=>rfl) (λ_=>?_) ?_|refine Le.agg ?_|refine Le.cM ?_|refine Le.fn ?_ ?_|refine Le.dV ?_|exact trivial|refine And.intro ?_ ?_|refine λ_=>?_|exact Le.any _)))<;>exact .Ic rfl) (by exact aM) ?_
     refine Sat.jN (HF 0 0) ?_
     have e:=qC (.inl rfl)
     cbv
     exact ⟨by have fH:=e;exact cd⟩
    ·refine iX 2 (sF mn mc md i K ⟨xi,xt,xr⟩ [.bc false,.bc true]) (by ((try cbv)<;>(repeat' (first|with_reducible exact trivial|with_reducible refine And.intro ?_ ?_))<;>(try first|exact cR.refl _|exact cR.dyn rfl|exact cR.map rfl|exact cR.iter rfl rfl (.inl rfl)|exact cR.iter rfl rfl (.inr rfl)|refine cR.fix ?_|refine cR.dyn ?_)<;>((repeat' first|exact dA.nil|exact Le.refl _|refine dA.cons ?_ ?_|exact Le.ic rfl|exact Le.bc rfl|exact Le.i rfl|exact Le.b rfl|exact Le.sl rfl|exact Le.mp rfl|exact Le.gq rfl|exact Le.pP rfl|refine Le.cQ rfl (λ_=>?_)|refine Le.ew rfl (λ_ _=>rfl) (λ_=>?_) ?_|refine Le.agg ?_|refine Le.cM ?_|refine Le.fn ?_ ?_|refine Le.dV ?_|exact trivial|refine And.intro ?_ ?_|refine λ_=>?_|exact Le.any _)))<;>exact .Ic rfl) (by exact aM) ?_
     refine Sat.jN (HF 0 0) ?_
     cbv
     refine ⟨⟨xi,L⟩,⟨by have bD:=qb;exact cd,qH⟩,?_⟩
     cbv
     refine ⟨λh=>?_,λh=>?_⟩
     ·have q5:xi.all (jx L)=false:=by
        have h':(!xi.all (jx L))=true:=h.out
        simpa using h'
      have e:=qC (.inr q5)
      cbv
      exact ⟨by have fH:=e;exact cd⟩
     ·have q5:xi.all (jx L)=true:=by
       have h':(!xi.all (jx L))=false:=h.out
       simpa using h'
      have bV:=RZ rfl q5
      cbv
      exact ⟨i+1,by have bD:=ei;exact a8,by exact aM,⟨bV⟩⟩
    ·refine iX 2 (sF mn mc md i K ⟨xi,xt,xr⟩ [.bc true,.bc false]) (by ((try cbv)<;>(repeat' (first|with_reducible exact trivial|with_reducible refine And.intro ?_ ?_))<;>(try first|exact cR.refl _|exact cR.dyn rfl|exact cR.map rfl|exact cR.iter rfl rfl (.inl rfl)|exact cR.iter rfl rfl (.inr rfl)|refine cR.fix ?_|refine cR.dyn ?_)<;>((repeat' first|exact dA.nil|exact Le.refl _|refine dA.cons ?_ ?_|exact Le.ic rfl|exact Le.bc rfl|exact Le.i rfl|exact Le.b rfl|exact Le.sl rfl|exact Le.mp rfl|exact Le.gq rfl|exact Le.pP rfl|refine Le.cQ rfl (λ_=>?_)|refine Le.ew rfl (λ_ _=>rfl) (λ_=>?_) ?_|refine Le.agg ?_|refine Le.cM ?_|refine Le.fn ?_ ?_|refine Le.dV ?_|exact trivial|refine And.intro ?_ ?_|refine λ_=>?_|exact Le.any _)))<;>exact .Ic rfl) (by exact aM) ?_
     refine Sat.jN (HF 0 0) ?_
     cbv
     refine ⟨⟨xi,L⟩,⟨by have bD:=qb;exact cd,qH⟩,?_⟩
     cbv
     refine ⟨λh=>?_,λh=>?_⟩
     ·have q5:xi.all (jx L)=false:=by
        have h':(!xi.all (jx L))=true:=h.out
        simpa using h'
      have e:=qC (.inr q5)
      cbv
      exact ⟨by have fH:=e;exact cd⟩
     ·have q5:xi.all (jx L)=true:=by
       have h':(!xi.all (jx L))=false:=h.out
       simpa using h'
      have bV:=RZ rfl q5
      cbv
      exact ⟨i+1,by have bD:=ei;exact a8,by exact aM,⟨bV⟩⟩
    ·refine iX 2 (sF mn mc md i K ⟨xi,xt,xr⟩ [.bc true,.bc true]) (by ((try cbv)<;>(repeat' (first|with_reducible exact trivial|with_reducible refine And.intro ?_ ?_))<;>(try first|exact cR.refl _|exact cR.dyn rfl|exact cR.map rfl|exact cR.iter rfl rfl (.inl rfl)|exact cR.iter rfl rfl (.inr rfl)|refine cR.fix ?_|refine cR.dyn ?_)<;>((repeat' first|exact dA.nil|exact Le.refl _|refine dA.cons ?_ ?_|exact Le.ic rfl|exact Le.bc rfl|exact Le.i rfl|exact Le.b rfl|exact Le.sl rfl|exact Le.mp rfl|exact Le.gq rfl|exact Le.pP rfl|refine Le.cQ rfl (λ_=>?_)|refine Le.ew rfl (λ_ _=>rfl) (λ_=>?_) ?_|refine Le.agg ?_|refine Le.cM ?_|refine Le.fn ?_ ?_|refine Le.dV ?_|exact trivial|refine And.intro ?_ ?_|refine λ_=>?_|exact Le.any _)))<;>exact .Ic rfl) (by exact aM) ?_
     refine Sat.jN (HF 0 0) ?_
     cbv
     refine ⟨⟨xi,L⟩,⟨by have bD:=qb;exact cd,qH⟩,?_⟩
     cbv
     refine ⟨λh=>?_,λh=>?_⟩
     ·have q5:xi.all (jx L)=false:=by
        have h':(!xi.all (jx L))=true:=h.out
        simpa using h'
      have e:=qC (.inr q5)
      cbv
      exact ⟨by have fH:=e;exact cd⟩
     ·have q5:xi.all (jx L)=true:=by
       have h':(!xi.all (jx L))=false:=h.out
       simpa using h'
      have bV:=RZ rfl q5
      cbv
      exact ⟨i+1,by have bD:=ei;exact a8,by exact aM,⟨bV⟩⟩
 have cz:mc.length<=i:=aL
 have hC:=nA cz
 refine (⟨_,rfl⟩:∃L,2+mn+(mc.length:Int)=L).elim λL hL=>?_
 rw [hL] at Dy
 have hd:md.all (jx L)=vb:=by rw [<-iJ,Bg,hC,<-hA.d,hL];simp
 clear h
 cbv
 refine ⟨⟨md,L⟩,⟨by have bD:=Dy;exact cd,wB⟩,?_⟩
 cbv
 exact ⟨by have po:=hd;exact cd⟩
end Go.Proofs.Pk
