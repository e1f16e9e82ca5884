import Derived.Test.YthnhbemmlfaihaaR13
import Derived.Test.YthnhbemmlfaihaaR26
set_option linter.unusedVariables false
set_option linter.unusedSimpArgs false
set_option maxRecDepth 10000
set_option maxHeartbeats 64000000
namespace Go.Proofs.Pk
open Go Go.Vc
structure VlF (xi:List Int) (xt xr:Int) (tb rb:Bool) (K:Int):Prop where
 k:(xi.length:Int)=K
 t:so ⟨xi,xt,xr⟩=tb
 r:sq ⟨xi,xt,xr⟩=rb
 t1:¬xr=-1->false=tb
 t2:jI (xi.length:Int) 4=false->false=tb
 k4:jI (xi.length:Int) 4=true->K<=4
 t3:¬0<=xt->false=tb
 t4:xr=-1->K<=4->0<=xt->0<=(if (xi.length:Int)<=4 then (xi.length:Int) else 4)/\0<=(IntKind.u64.wrap (1*2^min (if (xi.length:Int)<=4 then (xi.length:Int) else 4).toNat IntKind.u64.bits))/\fu xt (IntKind.i64.wrap (1*2^min (IntKind.u64.wrap (1*2^min (if (xi.length:Int)<=4 then (xi.length:Int) else 4).toNat IntKind.u64.bits)).toNat IntKind.i64.bits))=tb
 r1:¬0<=xr->false=rb
 r2:¬xr < 64->false=rb
 r3:¬K=3->false=rb
 r4:0<=xr->xr < 64->K=3->gG xt 0=rb
theorem vlF (xi:List Int) (xt xr:Int):∃tb rb K,VlF xi xt xr tb rb K:=by
 refine ⟨_,_,_,rfl,rfl,rfl,λh=>?_,λh=>?_,λh=>by simpa [jI] using h,λh=>?_,λh1 h2 h3=>?_,λh=>?_,λh=>?_,λh=>?_,λh1 h2 h3=>?_⟩
 ·unfold so;simp [h]
 ·have h:¬(xi.length:Int)<=4:=by simpa [jI] using h
  have h:¬xi.length<=4:=by omega
  unfold so;simp [h]
 ·unfold so;simp [h]
 ·have h4:xi.length<=4:=by omega
  unfold so
  simp only
  rw [decide_eq_true h1,decide_eq_true h4,decide_eq_true h3]
  have:xi.length=0\/xi.length=1\/xi.length=2\/xi.length=3\/xi.length=4:=by omega
  rcases this with h|h|h|h|h<;>rw [h]<;>exact ⟨by decide,by decide,by simp [fu,show IntKind.u64.bits=64 from rfl,show IntKind.i64.bits=64 from rfl];rfl⟩
 ·unfold sq;simp [h]
 ·unfold sq;simp [h]
 ·have h:¬xi.length=3:=by omega
  unfold sq;simp [h]
 ·have h3:xi.length=3:=by omega
  unfold sq
  by_cases h:xt=0<;>simp [h1,h2,h3,h,gG]
structure VlA (mn:Int) (mc:List Cell) (md:List Int) (vb:Bool) (Ck:Nat->Bool) (dB:Bool):Prop where
 fin:(Ck 0&&dB)=vb
 d:md.all (iT (2+mn+mc.length))=dB
 ce:∀i:Nat,mc.length<=i->Ck i=true
 cn:∀(i:Nat) (xi:List Int) (xt xr L:Int),mc[i]?=some ⟨xi,xt,xr⟩->2+mn+(i:Int)=L->Ck i=((so ⟨xi,xt,xr⟩||sq ⟨xi,xt,xr⟩)&&xi.all (iT L)&&Ck (i+1))
theorem vlA {mn:Int} {mc:List Cell} {md:List Int} {vb:Bool} (h:(uN mc (2+mn)&&md.all (iT (2+mn+mc.length)))=vb):∃Ck dB,VlA mn mc md vb Ck dB:=by
 refine ⟨λi=>uN (mc.drop i) (2+mn+i),_,?_,rfl,λi h=>?_,λi xi xt xr L hx hL=>?_⟩
 ·rw [<-h];simp
 ·show uN (mc.drop i) _=true
  rw [BM h];rfl
 ·show uN (mc.drop i) _=(_&&uN (mc.drop (i+1)) _)
  rw [abX hx,show 2+mn+(i:Int)+1=2+mn+((i+1:Nat):Int) by omega,hL];rfl
structure akA where
 m:dM
structure Jc (m:dM):Prop where
 cells:m.cells.length<=1000000
 cin:∀x∈m.cells,x.ins.length<=1000000
 dr:m.bf.length<=1000000
@[reducible] noncomputable def O8:Vc.Spec where
 α:=akA
 args x:=[.agg (yB x.m)]
 pre x:=Jc x.m
 res x:=.b (λ_=>Ax x.m)
def qv (mn:Int) (mc:List Cell) (md:List Int) (i:Nat) (K:Int) (x:Cell) (t:List SV):Vc.St :=
 ⟨[.agg [.i .i64 (λ_=>mn),.sl 3 lK (λ_=>mc),.sl 1 bK (λ_=>md)],.ptr 0 0,.bc false,.fn (.func 27) [] [],.i .i64 (λ_=>(i:Int)),.ptr 1 0,.i .i64 (λ_=>K)]++t++qZ 19++[.sl 3 lK (λ_=>mc),.i .i64 (λ_=>(mc.length:Int)),.i .i64 (λ_=>(i:Int))]++qZ 75,
  [.fix 38 [.i .i64 (λ_=>mn),.sl 3 lK (λ_=>mc),.sl 1 bK (λ_=>md)],.fix 57 [.sl 1 bK (λ_=>x.ins),.i .i64 (λ_=>x.table),.i .i64 (λ_=>x.ew)]]⟩
noncomputable def akB (n m:Nat):Ctx:=cT n m [] [(27,OS)] [] [] [9,10]
theorem Wo (n m:Nat):CB PP (akB n m):=cW n m trivial ⟨V9,trivial⟩
noncomputable def ail (n m:Nat):Ctx:=cT n m [] [(27,OS)]
theorem EO (n m:Nat):CB PP (ail n m):=cW n m trivial ⟨V9,trivial⟩
theorem agT:dw (PP ()) 15 O8:=by
 refine fH (Wo 0 0) (fo Try.func15) (λa=>⟨zL a.m,trivial⟩) (λa=>trivial) ?_
 rintro ⟨⟨mn,mc,md⟩⟩ hx
 obtain ⟨A0,sT,vw⟩:Jc ⟨mn,mc,md⟩:=hx
 have A0:mc.length<=1000000:=A0
 have sT:∀x∈mc,x.ins.length<=1000000:=sT
 have vw:md.length<=1000000:=vw
 obtain ⟨vb,pB⟩:∃vb,Ax ⟨mn,mc,md⟩=vb:=⟨_,rfl⟩
 have KB:O8.res ⟨⟨mn,mc,md⟩⟩=.b (λ_=>vb):=by rw [<-pB]
 rw [KB]
 unfold Ax at pB
 simp only at pB
 have rz:¬0<=mn->false=vb:=λh=>by rw [<-pB,decide_eq_false h];rfl
 have wR:¬mn<=600->false=vb:=λh=>by rw [<-pB,decide_eq_false h];simp
 have hv3:¬2+mn+(mc.length:Int)<=600->false=vb:=λh=>by rw [<-pB,decide_eq_false h];simp
 have e6:0<=mn->mn<=600->2+mn+(mc.length:Int)<=600->(uN mc (2+mn)&&md.all (iT (2+mn+mc.length)))=vb:=λh1 h2 h3=>by rw [<-pB,decide_eq_true h1,decide_eq_true h2,decide_eq_true h3];rfl
 clear pB KB
 refine ⟨?_⟩
 cbv
 refine ⟨λh=>?_,λh=>?_⟩
 ·have aP:¬0<=mn:=aJ
  have e1:=rz aP
  cbv
  exact ⟨by have eW:=e1;exact bN⟩
 have Qx:0<=mn:=aJ
 clear h
 cbv
 refine ⟨λh=>?_,λh=>?_⟩
 ·have aP:¬mn<=600:=aJ
  have e1:=wR aP
  cbv
  exact ⟨by have eW:=e1;exact bN⟩
 have hm6:mn<=600:=aJ
 have sK:IntKind.i64.wrap (2+mn)=2+mn:=eP (by omega) (by omega)
 have wZ:∀j:Nat,j<=1000000->IntKind.i64.wrap (IntKind.i64.wrap (2+mn)+(j:Int))=2+mn+j:=λj hj=>by rw [sK];exact eP (by omega) (by omega)
 have KC:=wZ mc.length A0
 clear h
 cbv
 refine ⟨λh=>?_,λh=>?_⟩
 ·have h':=h.out
  rw [KC] at h'
  have aP:¬2+mn+(mc.length:Int)<=600:=by
         have h2:600 < 2+mn+(mc.length:Int):=by simpa [fu] using h'
         exact Int.not_le.2 h2
  have e1:=hv3 aP
  cbv
  exact ⟨by have eW:=e1;exact bN⟩
 have hm7:2+mn+(mc.length:Int)<=600:=by
  have h':=h.out
  rw [KC] at h'
  have h2:¬600 < 2+mn+(mc.length:Int):=by simpa [fu] using h'
  exact Int.not_lt.1 h2
 refine (vlA (e6 Qx hm6 hm7)).elim λCk hA=>?_
 refine hA.elim λdB hA=>?_
 have nA:=hA.fin
 have nJ:=hA.ce
 clear h e6 rz wR hv3
 cbv
 refine Sat.eI (Wo 0 0) 1 4 [] (λi:Nat=>[(28,.sl 3 lK (λ_=>mc)),(29,.i .i64 (λ_=>(mc.length:Int))),(30,.i .i64 (λ_=>(i:Int)))]) (λ_=>[]) (λi=>i<=mc.length/\Ck 0=Ck i) (λi=>mc.length - i) 0 (by exact aX) (by exact aX) ⟨cP _,rfl⟩ ?_
 intro i hi
 have yZ:Ck 0=Ck i:=hi.2
 have hi:i<=mc.length:=hi.1
 have dY:=n0 i
 have gH:=eU (i:=i) (by omega)
 have nJ:=nJ i
 have Dl:=wZ i (by omega)
 refine (⟨_,rfl⟩:∃L,2+mn+(i:Int)=L).elim λL hL=>?_
 rw [hL] at Dl
 cbv
 refine ⟨λh=>?_,λh=>?_⟩
 ·have bU:i < mc.length:=aJ
  have cD:mc.length - (i+1) < mc.length - i:=by omega
  refine (cy bU).elim λx=>?_
  refine x.casesOn λxi xt xr hx=>?_
  have nL:xi.length<=1000000:=sT _ (cN hx)
  have GD:=hA.cn i xi xt xr L hx hL
  refine (vlF xi xt xr).elim λtb hF=>?_
  refine hF.elim λrb hF=>?_
  refine hF.elim λK hF=>?_
  rw [hF.t,hF.r] at GD
  have hK:=hF.k
  have sF:(tb||rb)=false\/xi.all (iT L)=false->false=vb:=λh=>by
   rw [<-nA,yZ,GD]
   rcases h with h|h<;>rw [h]<;>simp
  have N9:(tb||rb)=true->xi.all (iT L)=true->(i+1<=mc.length/\Ck 0=Ck (i+1))/\mc.length - (i+1) < mc.length - i:=λh1 h2=>⟨⟨bU,by rw [yZ,GD,h1,h2];rfl⟩,cD⟩
  clear h
  cbv
  refine ⟨⟨xi,xt,xr⟩,⟨dY,hx⟩,?_⟩
  cbv
  apply xN (λc k=>Sat [] false PP c (qv mn mc md i K ⟨xi,xt,xr⟩ [.b (λ_=>tb),.any]) k)
  ·intro tail
   refine ⟨λh=>?_,λh=>?_⟩
   rotate_left
   ·have q1:¬xr=-1:=aJ
    have e:=hF.t1 q1
    cbv
    exact ga 2 (qv mn mc md i K ⟨xi,xt,xr⟩ [.b (λ_=>tb),.any]) (by have eW:=e;have bI:=hK;exact bp) (by exact aX) tail
   have q1:xr=-1:=aJ
   clear h
   cbv
   refine ⟨λh=>?_,λh=>?_⟩
   rotate_left
   ·have e:=hF.t2 h.out
    cbv
    exact ga 2 (qv mn mc md i K ⟨xi,xt,xr⟩ [.b (λ_=>tb),.any]) (by have eW:=e;have bI:=hK;exact bp) (by exact aX) tail
   have q2:=hF.k4 h.out
   clear h
   cbv
   refine ⟨λh=>?_,λh=>?_⟩
   rotate_left
   ·have q3:¬0<=xt:=aJ
    have e:=hF.t3 q3
    cbv
    exact ga 2 (qv mn mc md i K ⟨xi,xt,xr⟩ [.b (λ_=>tb),.any]) (by have eW:=e;have bI:=hK;exact bp) (by exact aX) tail
   have q3:0<=xt:=aJ
   obtain ⟨n1,n2,e⟩:=hF.t4 q1 q2 q3
   clear h
   cbv
   refine ⟨⟨n1⟩,⟨n2⟩,?_⟩
   exact ga 2 (qv mn mc md i K ⟨xi,xt,xr⟩ [.b (λ_=>tb),.any]) (by have nG:=e;have bI:=hK;exact bp) (by exact aX) tail
  ·refine Sat.jN (EO 0 0) ?_
   cbv
   apply xN (λc k=>Sat [] false PP c (qv mn mc md i K ⟨xi,xt,xr⟩ [.b (λ_=>tb),.b (λ_=>rb)]) k)
   ·intro tail
    refine ⟨λh=>?_,λh=>?_⟩
    rotate_left
    ·have q1:¬0<=xr:=aJ
     have e:=hF.r1 q1
     cbv
     exact ga 2 (qv mn mc md i K ⟨xi,xt,xr⟩ [.b (λ_=>tb),.b (λ_=>rb)]) (by have eW:=e;have nG:=e;exact bp) (by exact aX) tail
    have q1:0<=xr:=aJ
    clear h
    cbv
    refine ⟨λh=>?_,λh=>?_⟩
    rotate_left
    ·have q2:¬xr < 64:=aJ
     have e:=hF.r2 q2
     cbv
     exact ga 2 (qv mn mc md i K ⟨xi,xt,xr⟩ [.b (λ_=>tb),.b (λ_=>rb)]) (by have eW:=e;have nG:=e;exact bp) (by exact aX) tail
    have q2:xr < 64:=aJ
    clear h
    cbv
    refine ⟨λh=>?_,λh=>?_⟩
    rotate_left
    ·have q3:¬K=3:=aJ
     have e:=hF.r3 q3
     cbv
     exact ga 2 (qv mn mc md i K ⟨xi,xt,xr⟩ [.b (λ_=>tb),.b (λ_=>rb)]) (by have eW:=e;have nG:=e;exact bp) (by exact aX) tail
    have q3:K=3:=aJ
    have e:=hF.r4 q1 q2 q3
    clear h
    cbv
    exact ga 2 (qv mn mc md i K ⟨xi,xt,xr⟩ [.b (λ_=>tb),.b (λ_=>rb)]) (by have eW:=e;have nG:=e;exact bp) (by exact aX) tail
   ·cases tb<;>cases rb
    ·refine ga 2 (qv mn mc md i K ⟨xi,xt,xr⟩ [.bc false,.bc false]) (by ((try cbv)<;>(repeat' (first|with_reducible exact trivial|with_reducible refine And.intro ?_ ?_))<;>(try first|exact cj.refl _|exact cj.dyn rfl|exact cj.map rfl|exact cj.iter rfl rfl (.inl rfl)|exact cj.iter rfl rfl (.inr rfl)|refine cj.fix ?_|refine cj.dyn ?_)<;>((repeat' first|exact cM.nil|exact Le.refl _|refine cM.cons ?_ ?_|exact Le.ic rfl|exact Le.bc rfl|exact Le.i rfl|exact Le.b rfl|exact Le.sl rfl|exact Le.mp rfl|exact Le.fA rfl|exact Le.oq rfl|refine Le.cH rfl (λ_=>?_)|refine Le.dO rfl (λ_ _=>rfl) (λ_=>?_) ?_|refine Le.agg ?_|refine Le.ca ?_|refine Le.fn ?_ ?_|refine Le.dg ?_|exact trivial|refine And.intro ?_ ?_|refine λ_=>?_|exact Le.any _)))<;>exact .Fg rfl) (by exact aX) ?_
     refine Sat.jN (EO 0 0) ?_
     have e:=sF (.inl rfl)
     cbv
     exact ⟨by have eW:=e;exact bN⟩
    ·refine ga 2 (qv mn mc md i K ⟨xi,xt,xr⟩ [.bc false,.bc true]) (by ((try cbv)<;>(repeat' (first|with_reducible exact trivial|with_reducible refine And.intro ?_ ?_))<;>(try first|exact cj.refl _|exact cj.dyn rfl|exact cj.map rfl|exact cj.iter rfl rfl (.inl rfl)|exact cj.iter rfl rfl (.inr rfl)|refine cj.fix ?_|refine cj.dyn ?_)<;>((repeat' first|exact cM.nil|exact Le.refl _|refine cM.cons ?_ ?_|exact Le.ic rfl|exact Le.bc rfl|exact Le.i rfl|exact Le.b rfl|exact Le.sl rfl|exact Le.mp rfl|exact Le.fA rfl|exact Le.oq rfl|refine Le.cH rfl (λ_=>?_)|refine Le.dO rfl (λ_ _=>rfl) (λ_=>?_) ?_|refine Le.agg ?_|refine Le.ca ?_|refine Le.fn ?_ ?_|refine Le.dg ?_|exact trivial|refine And.intro ?_ ?_|refine λ_=>?_|exact Le.any _)))<;>exact .Fg rfl) (by exact aX) ?_
     refine Sat.jN (EO 0 0) ?_
     cbv
     refine ⟨⟨xi,L⟩,⟨by have bI:=Dl;exact bN,nL⟩,?_⟩
     cbv
     refine ⟨λh=>?_,λh=>?_⟩
     ·have q5:xi.all (iT L)=false:=by
        have h':(!xi.all (iT L))=true:=h.out
        simpa using h'
      have e:=sF (.inr q5)
      cbv
      exact ⟨by have eW:=e;exact bN⟩
     ·have q5:xi.all (iT L)=true:=by
       have h':(!xi.all (iT L))=false:=h.out
       simpa using h'
      have b9:=N9 rfl q5
      cbv
      exact ⟨i+1,by have bI:=gH;exact bp,by exact aX,⟨b9⟩⟩
    ·refine ga 2 (qv mn mc md i K ⟨xi,xt,xr⟩ [.bc true,.bc false]) (by ((try cbv)<;>(repeat' (first|with_reducible exact trivial|with_reducible refine And.intro ?_ ?_))<;>(try first|exact cj.refl _|exact cj.dyn rfl|exact cj.map rfl|exact cj.iter rfl rfl (.inl rfl)|exact cj.iter rfl rfl (.inr rfl)|refine cj.fix ?_|refine cj.dyn ?_)<;>((repeat' first|exact cM.nil|exact Le.refl _|refine cM.cons ?_ ?_|exact Le.ic rfl|exact Le.bc rfl|exact Le.i rfl|exact Le.b rfl|exact Le.sl rfl|exact Le.mp rfl|exact Le.fA rfl|exact Le.oq rfl|refine Le.cH rfl (λ_=>?_)|refine Le.dO rfl (λ_ _=>rfl) (λ_=>?_) ?_|refine Le.agg ?_|refine Le.ca ?_|refine Le.fn ?_ ?_|refine Le.dg ?_|exact trivial|refine And.intro ?_ ?_|refine λ_=>?_|exact Le.any _)))<;>exact .Fg rfl) (by exact aX) ?_
     refine Sat.jN (EO 0 0) ?_
     cbv
     refine ⟨⟨xi,L⟩,⟨by have bI:=Dl;exact bN,nL⟩,?_⟩
     cbv
     refine ⟨λh=>?_,λh=>?_⟩
     ·have q5:xi.all (iT L)=false:=by
        have h':(!xi.all (iT L))=true:=h.out
        simpa using h'
      have e:=sF (.inr q5)
      cbv
      exact ⟨by have eW:=e;exact bN⟩
     ·have q5:xi.all (iT L)=true:=by
       have h':(!xi.all (iT L))=false:=h.out
       simpa using h'
      have b9:=N9 rfl q5
      cbv
      exact ⟨i+1,by have bI:=gH;exact bp,by exact aX,⟨b9⟩⟩
    ·refine ga 2 (qv mn mc md i K ⟨xi,xt,xr⟩ [.bc true,.bc true]) (by ((try cbv)<;>(repeat' (first|with_reducible exact trivial|with_reducible refine And.intro ?_ ?_))<;>(try first|exact cj.refl _|exact cj.dyn rfl|exact cj.map rfl|exact cj.iter rfl rfl (.inl rfl)|exact cj.iter rfl rfl (.inr rfl)|refine cj.fix ?_|refine cj.dyn ?_)<;>((repeat' first|exact cM.nil|exact Le.refl _|refine cM.cons ?_ ?_|exact Le.ic rfl|exact Le.bc rfl|exact Le.i rfl|exact Le.b rfl|exact Le.sl rfl|exact Le.mp rfl|exact Le.fA rfl|exact Le.oq rfl|refine Le.cH rfl (λ_=>?_)|refine Le.dO rfl (λ_ _=>rfl) (λ_=>?_) ?_|refine Le.agg ?_|refine Le.ca ?_|refine Le.fn ?_ ?_|refine Le.dg ?_|exact trivial|refine And.intro ?_ ?_|refine λ_=>?_|exact Le.any _)))<;>exact .Fg rfl) (by exact aX) ?_
     refine Sat.jN (EO 0 0) ?_
     cbv
     refine ⟨⟨xi,L⟩,⟨by have bI:=Dl;exact bN,nL⟩,?_⟩
     cbv
     refine ⟨λh=>?_,λh=>?_⟩
     ·have q5:xi.all (iT L)=false:=by
        have h':(!xi.all (iT L))=true:=h.out
        simpa using h'
      have e:=sF (.inr q5)
      cbv
      exact ⟨by have eW:=e;exact bN⟩
     ·have q5:xi.all (iT L)=true:=by
       have h':(!xi.all (iT L))=false:=h.out
       simpa using h'
      have b9:=N9 rfl q5
      cbv
      exact ⟨i+1,by have bI:=gH;exact bp,by exact aX,⟨b9⟩⟩
 have cf:mc.length<=i:=aJ
 have hC:=nJ cf
 refine (⟨_,rfl⟩:∃L,2+mn+(mc.length:Int)=L).elim λL hL=>?_
 rw [hL] at KC
 have hd:md.all (iT L)=vb:=by rw [<-nA,yZ,hC,<-hA.d,hL];simp
 clear h
 cbv
 refine ⟨⟨md,L⟩,⟨by have bI:=KC;exact bN,vw⟩,?_⟩
 cbv
 exact ⟨by have nG:=hd;exact bN⟩
end Go.Proofs.Pk
