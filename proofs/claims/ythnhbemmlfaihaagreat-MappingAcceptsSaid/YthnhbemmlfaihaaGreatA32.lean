import Derived.Test.YthnhbemmlfaihaaGreatA13
import Derived.Test.YthnhbemmlfaihaaGreatA26
set_option linter.unusedVariables false
set_option linter.unusedSimpArgs false
set_option maxRecDepth 10000
set_option maxHeartbeats 64000000
namespace Go.Proofs.Pk
open Go Go.Vc
structure VlF (xi:List Int) (xt xr:Int) (tb rb:Bool) (K:Int):Prop where
 k:(xi.length:Int)=K
 t:pg ⟨xi,xt,xr⟩=tb
 r:pU ⟨xi,xt,xr⟩=rb
 t1:¬xr=-1->false=tb
 t2:iG (xi.length:Int) 4=false->false=tb
 k4:iG (xi.length:Int) 4=true->K<=4
 t3:¬0<=xt->false=tb
 t4:xr=-1->K<=4->0<=xt->0<=(if (xi.length:Int)<=4 then (xi.length:Int) else 4)/\0<=(IntKind.u64.wrap (1*2^min (if (xi.length:Int)<=4 then (xi.length:Int) else 4).toNat IntKind.u64.bits))/\fk xt (IntKind.i64.wrap (1*2^min (IntKind.u64.wrap (1*2^min (if (xi.length:Int)<=4 then (xi.length:Int) else 4).toNat IntKind.u64.bits)).toNat IntKind.i64.bits))=tb
 r1:¬0<=xr->false=rb
 r2:¬xr < 64->false=rb
 r3:¬K=3->false=rb
 r4:0<=xr->xr < 64->K=3->ga xt 0=rb
theorem vlF (xi:List Int) (xt xr:Int):∃tb rb K,VlF xi xt xr tb rb K:=by
 refine ⟨_,_,_,rfl,rfl,rfl,λh=>?_,λh=>?_,λh=>by simpa [iG] using h,λh=>?_,λh1 h2 h3=>?_,λh=>?_,λh=>?_,λh=>?_,λh1 h2 h3=>?_⟩
 ·unfold pg;simp [h]
 ·have h:¬(xi.length:Int)<=4:=by simpa [iG] using h
  have h:¬xi.length<=4:=by omega
  unfold pg;simp [h]
 ·unfold pg;simp [h]
 ·have h4:xi.length<=4:=by omega
  unfold pg
  simp only
  rw [decide_eq_true h1,decide_eq_true h4,decide_eq_true h3]
  have:xi.length=0\/xi.length=1\/xi.length=2\/xi.length=3\/xi.length=4:=by omega
  rcases this with h|h|h|h|h<;>rw [h]<;>exact ⟨by decide,by decide,by simp [fk,show IntKind.u64.bits=64 from rfl,show IntKind.i64.bits=64 from rfl];rfl⟩
 ·unfold pU;simp [h]
 ·unfold pU;simp [h]
 ·have h:¬xi.length=3:=by omega
  unfold pU;simp [h]
 ·have h3:xi.length=3:=by omega
  unfold pU
  by_cases h:xt=0<;>simp [h1,h2,h3,h,ga]
structure VlA (mn:Int) (mc:List Cell) (md:List Int) (vb:Bool) (Ck:Nat->Bool) (dB:Bool):Prop where
 fin:(Ck 0&&dB)=vb
 d:md.all (iu (2+mn+mc.length))=dB
 ce:∀i:Nat,mc.length<=i->Ck i=true
 cn:∀(i:Nat) (xi:List Int) (xt xr L:Int),mc[i]?=some ⟨xi,xt,xr⟩->2+mn+(i:Int)=L->Ck i=((pg ⟨xi,xt,xr⟩||pU ⟨xi,xt,xr⟩)&&xi.all (iu L)&&Ck (i+1))
theorem vlA {mn:Int} {mc:List Cell} {md:List Int} {vb:Bool} (h:(pb mc (2+mn)&&md.all (iu (2+mn+mc.length)))=vb):∃Ck dB,VlA mn mc md vb Ck dB:=by
 refine ⟨λi=>pb (mc.drop i) (2+mn+i),_,?_,rfl,λi h=>?_,λi xi xt xr L hx hL=>?_⟩
 ·rw [<-h];simp
 ·show pb (mc.drop i) _=true
  rw [Bq h];rfl
 ·show pb (mc.drop i) _=(_&&pb (mc.drop (i+1)) _)
  rw [abx hx,show 2+mn+(i:Int)+1=2+mn+((i+1:Nat):Int) by omega,hL];rfl
structure X8 where
 m:ea
structure EN (m:ea):Prop where
 cells:m.cells.length<=1000000
 cin:∀x∈m.cells,x.ins.length<=1000000
 dr:m.bA.length<=1000000
@[reducible] noncomputable def JA:Vc.Spec where
 α:=X8
 args x:=[.agg (wa x.m)]
 pre x:=EN x.m
 res x:=.b (λ_=>tD x.m)
def qk (mn:Int) (mc:List Cell) (md:List Int) (i:Nat) (K:Int) (x:Cell) (t:List SV):Vc.St :=
 ⟨[.agg [.i .i64 (λ_=>mn),.sl 3 mF (λ_=>mc),.sl 1 bJ (λ_=>md)],.ptr 0 0,.bc false,.fn (.func 111) [] [],.i .i64 (λ_=>(i:Int)),.ptr 1 0,.i .i64 (λ_=>K)]++t++tz 19++[.sl 3 mF (λ_=>mc),.i .i64 (λ_=>(mc.length:Int)),.i .i64 (λ_=>(i:Int))]++tz 75,
  [.fix 51 [.i .i64 (λ_=>mn),.sl 3 mF (λ_=>mc),.sl 1 bJ (λ_=>md)],.fix 135 [.sl 1 bJ (λ_=>x.ins),.i .i64 (λ_=>x.table),.i .i64 (λ_=>x.ej)]]⟩
noncomputable def aj9 (n m:Nat):Ctx:=cW n m [] [(111,Ot)] [] [] [9,10]
theorem V2 (n m:Nat):CB PP (aj9 n m):=cZ n m trivial ⟨VL,trivial⟩
noncomputable def ahS (n m:Nat):Ctx:=cW n m [] [(111,Ot)]
theorem En (n m:Nat):CB PP (ahS n m):=cZ n m trivial ⟨VL,trivial⟩
theorem V4:cY (PP ()) 39 JA:=by
 refine e6 (V2 0 0) (fo Tryz.func39) (λa=>⟨xu a.m,trivial⟩) (λa=>trivial) ?_
 rintro ⟨⟨mn,mc,md⟩⟩ hx
 obtain ⟨AF,sF,tU⟩:EN ⟨mn,mc,md⟩:=hx
 have AF:mc.length<=1000000:=AF
 have sF:∀x∈mc,x.ins.length<=1000000:=sF
 have tU:md.length<=1000000:=tU
 obtain ⟨vb,oq⟩:∃vb,tD ⟨mn,mc,md⟩=vb:=⟨_,rfl⟩
 have Kl:JA.res ⟨⟨mn,mc,md⟩⟩=.b (λ_=>vb):=by rw [<-oq]
 rw [Kl]
 unfold tD at oq
 simp only at oq
 have rf:¬0<=mn->false=vb:=λh=>by rw [<-oq,decide_eq_false h];rfl
 have wA:¬mn<=600->false=vb:=λh=>by rw [<-oq,decide_eq_false h];simp
 have hv3:¬2+mn+(mc.length:Int)<=600->false=vb:=λh=>by rw [<-oq,decide_eq_false h];simp
 have e7:0<=mn->mn<=600->2+mn+(mc.length:Int)<=600->(pb mc (2+mn)&&md.all (iu (2+mn+mc.length)))=vb:=λh1 h2 h3=>by rw [<-oq,decide_eq_true h1,decide_eq_true h2,decide_eq_true h3];rfl
 clear oq Kl
 refine ⟨?_⟩
 cbv
 refine ⟨λh=>?_,λh=>?_⟩
 ·have aP:¬0<=mn:=aG
  have e1:=rf aP
  cbv
  exact ⟨by have eV:=e1;exact bM⟩
 have hm0:0<=mn:=aG
 clear h
 cbv
 refine ⟨λh=>?_,λh=>?_⟩
 ·have aP:¬mn<=600:=aG
  have e1:=wA aP
  cbv
  exact ⟨by have eV:=e1;exact bM⟩
 have hm6:mn<=600:=aG
 have nt:IntKind.i64.wrap (2+mn)=2+mn:=dV (by omega) (by omega)
 have qj:∀j:Nat,j<=1000000->IntKind.i64.wrap (IntKind.i64.wrap (2+mn)+(j:Int))=2+mn+j:=λj hj=>by rw [nt];exact dV (by omega) (by omega)
 have AN:=qj mc.length AF
 clear h
 cbv
 refine ⟨λh=>?_,λh=>?_⟩
 ·have h':=h.out
  rw [AN] at h'
  have aP:¬2+mn+(mc.length:Int)<=600:=by
         have h2:600 < 2+mn+(mc.length:Int):=by simpa [fk] using h'
         exact DN.2 h2
  have e1:=hv3 aP
  cbv
  exact ⟨by have eV:=e1;exact bM⟩
 have hm7:2+mn+(mc.length:Int)<=600:=by
  have h':=h.out
  rw [AN] at h'
  have h2:¬600 < 2+mn+(mc.length:Int):=by simpa [fk] using h'
  exact yY.1 h2
 refine (vlA (e7 hm0 hm6 hm7)).elim λCk hA=>?_
 refine hA.elim λdB hA=>?_
 have nk:=hA.fin
 have lM:=hA.ce
 clear h e7 rf wA hv3
 cbv
 refine Sat.dP (V2 0 0) 1 4 [] (λi:Nat=>[(28,.sl 3 mF (λ_=>mc)),(29,.i .i64 (λ_=>(mc.length:Int))),(30,.i .i64 (λ_=>(i:Int)))]) (λ_=>[]) (λi=>i<=mc.length/\Ck 0=Ck i) (λi=>mc.length - i) 0 (by exact aW) (by exact aW) ⟨cI _,rfl⟩ ?_
 intro i hi
 have yv:Ck 0=Ck i:=hi.2
 have hi:i<=mc.length:=hi.1
 have dv:=n0 i
 have eW:=eh (i:=i) (by omega)
 have lM:=lM i
 have tR:=qj i (by omega)
 refine (⟨_,rfl⟩:∃L,2+mn+(i:Int)=L).elim λL hL=>?_
 rw [hL] at tR
 cbv
 refine ⟨λh=>?_,λh=>?_⟩
 ·have bO:i < mc.length:=aG
  have cf:mc.length - (i+1) < mc.length - i:=by omega
  refine (cg bO).elim λx=>?_
  refine x.casesOn λxi xt xr hx=>?_
  have tT:xi.length<=1000000:=sF _ (cM hx)
  have Gh:=hA.cn i xi xt xr L hx hL
  refine (vlF xi xt xr).elim λtb hF=>?_
  refine hF.elim λrb hF=>?_
  refine hF.elim λK hF=>?_
  rw [hF.t,hF.r] at Gh
  have hK:=hF.k
  have si:(tb||rb)=false\/xi.all (iu L)=false->false=vb:=λh=>by
   rw [<-nk,yv,Gh]
   rcases h with h|h<;>rw [h]<;>simp
  have NJ:(tb||rb)=true->xi.all (iu L)=true->(i+1<=mc.length/\Ck 0=Ck (i+1))/\mc.length - (i+1) < mc.length - i:=λh1 h2=>⟨⟨bO,by rw [yv,Gh,h1,h2];rfl⟩,cf⟩
  clear h
  cbv
  refine ⟨⟨xi,xt,xr⟩,⟨dv,hx⟩,?_⟩
  cbv
  apply y9 (λc k=>Sat [] false PP c (qk mn mc md i K ⟨xi,xt,xr⟩ [.b (λ_=>tb),.any]) k)
  ·intro tail
   refine ⟨λh=>?_,λh=>?_⟩
   rotate_left
   ·have q1:¬xr=-1:=aG
    have e:=hF.t1 q1
    cbv
    exact iC 2 (qk mn mc md i K ⟨xi,xt,xr⟩ [.b (λ_=>tb),.any]) (by have eV:=e;have bK:=hK;exact bq) (by exact aW) tail
   have q1:xr=-1:=aG
   clear h
   cbv
   refine ⟨λh=>?_,λh=>?_⟩
   rotate_left
   ·have e:=hF.t2 h.out
    cbv
    exact iC 2 (qk mn mc md i K ⟨xi,xt,xr⟩ [.b (λ_=>tb),.any]) (by have eV:=e;have bK:=hK;exact bq) (by exact aW) tail
   have q2:=hF.k4 h.out
   clear h
   cbv
   refine ⟨λh=>?_,λh=>?_⟩
   rotate_left
   ·have q3:¬0<=xt:=aG
    have e:=hF.t3 q3
    cbv
    exact iC 2 (qk mn mc md i K ⟨xi,xt,xr⟩ [.b (λ_=>tb),.any]) (by have eV:=e;have bK:=hK;exact bq) (by exact aW) tail
   have q3:0<=xt:=aG
   obtain ⟨n1,n2,e⟩:=hF.t4 q1 q2 q3
   clear h
   cbv
   refine ⟨⟨n1⟩,⟨n2⟩,?_⟩
   exact iC 2 (qk mn mc md i K ⟨xi,xt,xr⟩ [.b (λ_=>tb),.any]) (by have ny:=e;have bK:=hK;exact bq) (by exact aW) tail
  ·refine Sat.j8 (En 0 0) ?_
   cbv
   apply y9 (λc k=>Sat [] false PP c (qk mn mc md i K ⟨xi,xt,xr⟩ [.b (λ_=>tb),.b (λ_=>rb)]) k)
   ·intro tail
    refine ⟨λh=>?_,λh=>?_⟩
    rotate_left
    ·have q1:¬0<=xr:=aG
     have e:=hF.r1 q1
     cbv
     exact iC 2 (qk mn mc md i K ⟨xi,xt,xr⟩ [.b (λ_=>tb),.b (λ_=>rb)]) (by have eV:=e;have ny:=e;exact bq) (by exact aW) tail
    have q1:0<=xr:=aG
    clear h
    cbv
    refine ⟨λh=>?_,λh=>?_⟩
    rotate_left
    ·have q2:¬xr < 64:=aG
     have e:=hF.r2 q2
     cbv
     exact iC 2 (qk mn mc md i K ⟨xi,xt,xr⟩ [.b (λ_=>tb),.b (λ_=>rb)]) (by have eV:=e;have ny:=e;exact bq) (by exact aW) tail
    have q2:xr < 64:=aG
    clear h
    cbv
    refine ⟨λh=>?_,λh=>?_⟩
    rotate_left
    ·have q3:¬K=3:=aG
     have e:=hF.r3 q3
     cbv
     exact iC 2 (qk mn mc md i K ⟨xi,xt,xr⟩ [.b (λ_=>tb),.b (λ_=>rb)]) (by have eV:=e;have ny:=e;exact bq) (by exact aW) tail
    have q3:K=3:=aG
    have e:=hF.r4 q1 q2 q3
    clear h
    cbv
    exact iC 2 (qk mn mc md i K ⟨xi,xt,xr⟩ [.b (λ_=>tb),.b (λ_=>rb)]) (by have eV:=e;have ny:=e;exact bq) (by exact aW) tail
   ·cases tb<;>cases rb
    ·refine iC 2 (qk mn mc md i K ⟨xi,xt,xr⟩ [.bc false,.bc false]) (by ((try cbv)<;>(repeat' (first|with_reducible exact trivial|with_reducible refine And.intro ?_ ?_))<;>(try first|exact cy.refl _|exact cy.dyn rfl|exact cy.map rfl|exact cy.iter rfl rfl (.inl rfl)|exact cy.iter rfl rfl (.inr rfl)|refine cy.fix ?_|refine cy.dyn ?_)<;>((repeat' first|exact cO.nil|exact Le.refl _|refine cO.cons ?_ ?_|exact Le.ic rfl|exact Le.bc rfl|exact Le.i rfl|exact Le.b rfl|exact Le.sl rfl|exact Le.mp rfl|exact Le.fC rfl|exact Le.nX rfl|refine Le.cG rfl (λ_=>?_)|refine Le.dK rfl (λ_ _=>rfl) (λ_=>?_) ?_|refine Le.agg ?_|refine Le.cd ?_|refine Le.fn ?_ ?_|refine Le.db ?_|exact trivial|refine And.intro ?_ ?_|refine λ_=>?_|exact Le.any _)))<;>exact .EP rfl) (by exact aW) ?_
     refine Sat.j8 (En 0 0) ?_
     have e:=si (.inl rfl)
     cbv
     exact ⟨by have eV:=e;exact bM⟩
    ·refine iC 2 (qk mn mc md i K ⟨xi,xt,xr⟩ [.bc false,.bc true]) (by ((try cbv)<;>(repeat' (first|with_reducible exact trivial|with_reducible refine And.intro ?_ ?_))<;>(try first|exact cy.refl _|exact cy.dyn rfl|exact cy.map rfl|exact cy.iter rfl rfl (.inl rfl)|exact cy.iter rfl rfl (.inr rfl)|refine cy.fix ?_|refine cy.dyn ?_)<;>((repeat' first|exact cO.nil|exact Le.refl _|refine cO.cons ?_ ?_|exact Le.ic rfl|exact Le.bc rfl|exact Le.i rfl|exact Le.b rfl|exact Le.sl rfl|exact Le.mp rfl|exact Le.fC rfl|exact Le.nX rfl|refine Le.cG rfl (λ_=>?_)|refine Le.dK rfl (λ_ _=>rfl) (λ_=>?_) ?_|refine Le.agg ?_|refine Le.cd ?_|refine Le.fn ?_ ?_|refine Le.db ?_|exact trivial|refine And.intro ?_ ?_|refine λ_=>?_|exact Le.any _)))<;>exact .EP rfl) (by exact aW) ?_
     refine Sat.j8 (En 0 0) ?_
     cbv
     refine ⟨⟨xi,L⟩,⟨by have bK:=tR;exact bM,tT⟩,?_⟩
     cbv
     refine ⟨λh=>?_,λh=>?_⟩
     ·have q5:xi.all (iu L)=false:=by
        have h':(!xi.all (iu L))=true:=h.out
        simpa using h'
      have e:=si (.inr q5)
      cbv
      exact ⟨by have eV:=e;exact bM⟩
     ·have q5:xi.all (iu L)=true:=by
       have h':(!xi.all (iu L))=false:=h.out
       simpa using h'
      have cb:=NJ rfl q5
      cbv
      exact ⟨i+1,by have bK:=eW;exact bq,by exact aW,⟨cb⟩⟩
    ·refine iC 2 (qk mn mc md i K ⟨xi,xt,xr⟩ [.bc true,.bc false]) (by ((try cbv)<;>(repeat' (first|with_reducible exact trivial|with_reducible refine And.intro ?_ ?_))<;>(try first|exact cy.refl _|exact cy.dyn rfl|exact cy.map rfl|exact cy.iter rfl rfl (.inl rfl)|exact cy.iter rfl rfl (.inr rfl)|refine cy.fix ?_|refine cy.dyn ?_)<;>((repeat' first|exact cO.nil|exact Le.refl _|refine cO.cons ?_ ?_|exact Le.ic rfl|exact Le.bc rfl|exact Le.i rfl|exact Le.b rfl|exact Le.sl rfl|exact Le.mp rfl|exact Le.fC rfl|exact Le.nX rfl|refine Le.cG rfl (λ_=>?_)|refine Le.dK rfl (λ_ _=>rfl) (λ_=>?_) ?_|refine Le.agg ?_|refine Le.cd ?_|refine Le.fn ?_ ?_|refine Le.db ?_|exact trivial|refine And.intro ?_ ?_|refine λ_=>?_|exact Le.any _)))<;>exact .EP rfl) (by exact aW) ?_
     refine Sat.j8 (En 0 0) ?_
     cbv
     refine ⟨⟨xi,L⟩,⟨by have bK:=tR;exact bM,tT⟩,?_⟩
     cbv
     refine ⟨λh=>?_,λh=>?_⟩
     ·have q5:xi.all (iu L)=false:=by
        have h':(!xi.all (iu L))=true:=h.out
        simpa using h'
      have e:=si (.inr q5)
      cbv
      exact ⟨by have eV:=e;exact bM⟩
     ·have q5:xi.all (iu L)=true:=by
       have h':(!xi.all (iu L))=false:=h.out
       simpa using h'
      have cb:=NJ rfl q5
      cbv
      exact ⟨i+1,by have bK:=eW;exact bq,by exact aW,⟨cb⟩⟩
    ·refine iC 2 (qk mn mc md i K ⟨xi,xt,xr⟩ [.bc true,.bc true]) (by ((try cbv)<;>(repeat' (first|with_reducible exact trivial|with_reducible refine And.intro ?_ ?_))<;>(try first|exact cy.refl _|exact cy.dyn rfl|exact cy.map rfl|exact cy.iter rfl rfl (.inl rfl)|exact cy.iter rfl rfl (.inr rfl)|refine cy.fix ?_|refine cy.dyn ?_)<;>((repeat' first|exact cO.nil|exact Le.refl _|refine cO.cons ?_ ?_|exact Le.ic rfl|exact Le.bc rfl|exact Le.i rfl|exact Le.b rfl|exact Le.sl rfl|exact Le.mp rfl|exact Le.fC rfl|exact Le.nX rfl|refine Le.cG rfl (λ_=>?_)|refine Le.dK rfl (λ_ _=>rfl) (λ_=>?_) ?_|refine Le.agg ?_|refine Le.cd ?_|refine Le.fn ?_ ?_|refine Le.db ?_|exact trivial|refine And.intro ?_ ?_|refine λ_=>?_|exact Le.any _)))<;>exact .EP rfl) (by exact aW) ?_
     refine Sat.j8 (En 0 0) ?_
     cbv
     refine ⟨⟨xi,L⟩,⟨by have bK:=tR;exact bM,tT⟩,?_⟩
     cbv
     refine ⟨λh=>?_,λh=>?_⟩
     ·have q5:xi.all (iu L)=false:=by
        have h':(!xi.all (iu L))=true:=h.out
        simpa using h'
      have e:=si (.inr q5)
      cbv
      exact ⟨by have eV:=e;exact bM⟩
     ·have q5:xi.all (iu L)=true:=by
       have h':(!xi.all (iu L))=false:=h.out
       simpa using h'
      have cb:=NJ rfl q5
      cbv
      exact ⟨i+1,by have bK:=eW;exact bq,by exact aW,⟨cb⟩⟩
 have bV:mc.length<=i:=aG
 have hC:=lM bV
 refine (⟨_,rfl⟩:∃L,2+mn+(mc.length:Int)=L).elim λL hL=>?_
 rw [hL] at AN
 have hd:md.all (iu L)=vb:=by rw [<-nk,yv,hC,<-hA.d,hL];simp
 clear h
 cbv
 refine ⟨⟨md,L⟩,⟨by have bK:=AN;exact bM,tU⟩,?_⟩
 cbv
 exact ⟨by have ny:=hd;exact bM⟩
end Go.Proofs.Pk
