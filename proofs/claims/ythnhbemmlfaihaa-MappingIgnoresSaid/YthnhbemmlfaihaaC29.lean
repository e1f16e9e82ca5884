import Derived.Test.YthnhbemmlfaihaaC13
import Derived.Test.YthnhbemmlfaihaaC25
set_option linter.unusedVariables false
set_option linter.unusedSimpArgs false
set_option maxRecDepth 10000
set_option maxHeartbeats 64000000
namespace Go.Proofs.Pk
open Go Go.Vc
structure VlF (xi:List Int) (xt xr:Int) (tb rb:Bool) (K:Int):Prop where
 k:(xi.length:Int)=K
 t:rX ⟨xi,xt,xr⟩=tb
 r:rY ⟨xi,xt,xr⟩=rb
 t1:¬xr=-1->false=tb
 t2:jB (xi.length:Int) 4=false->false=tb
 k4:jB (xi.length:Int) 4=true->K<=4
 t3:¬0<=xt->false=tb
 t4:xr=-1->K<=4->0<=xt->0<=(if (xi.length:Int)<=4 then (xi.length:Int) else 4)/\0<=(IntKind.u64.wrap (1*2^min (if (xi.length:Int)<=4 then (xi.length:Int) else 4).toNat IntKind.u64.bits))/\fj xt (IntKind.i64.wrap (1*2^min (IntKind.u64.wrap (1*2^min (if (xi.length:Int)<=4 then (xi.length:Int) else 4).toNat IntKind.u64.bits)).toNat IntKind.i64.bits))=tb
 r1:¬0<=xr->false=rb
 r2:¬xr < 64->false=rb
 r3:¬K=3->false=rb
 r4:0<=xr->xr < 64->K=3->gA xt 0=rb
theorem vlF (xi:List Int) (xt xr:Int):∃tb rb K,VlF xi xt xr tb rb K:=by
 refine ⟨_,_,_,rfl,rfl,rfl,λh=>?_,λh=>?_,λh=>by simpa [jB] using h,λh=>?_,λh1 h2 h3=>?_,λh=>?_,λh=>?_,λh=>?_,λh1 h2 h3=>?_⟩
 ·unfold rX;simp [h]
 ·have h:¬(xi.length:Int)<=4:=by simpa [jB] using h
  have h:¬xi.length<=4:=by omega
  unfold rX;simp [h]
 ·unfold rX;simp [h]
 ·have h4:xi.length<=4:=by omega
  unfold rX
  simp only
  rw [decide_eq_true h1,decide_eq_true h4,decide_eq_true h3]
  have:xi.length=0\/xi.length=1\/xi.length=2\/xi.length=3\/xi.length=4:=by omega
  rcases this with h|h|h|h|h<;>rw [h]<;>exact ⟨by decide,by decide,by simp [fj,show IntKind.u64.bits=64 from rfl,show IntKind.i64.bits=64 from rfl];rfl⟩
 ·unfold rY;simp [h]
 ·unfold rY;simp [h]
 ·have h:¬xi.length=3:=by omega
  unfold rY;simp [h]
 ·have h3:xi.length=3:=by omega
  unfold rY
  by_cases h:xt=0<;>simp [h1,h2,h3,h,gA]
structure VlA (mn:Int) (mc:List Cell) (md:List Int) (vb:Bool) (Ck:Nat->Bool) (dB:Bool):Prop where
 fin:(Ck 0&&dB)=vb
 d:md.all (iP (2+mn+mc.length))=dB
 ce:∀i:Nat,mc.length<=i->Ck i=true
 cn:∀(i:Nat) (xi:List Int) (xt xr L:Int),mc[i]?=some ⟨xi,xt,xr⟩->2+mn+(i:Int)=L->Ck i=((rX ⟨xi,xt,xr⟩||rY ⟨xi,xt,xr⟩)&&xi.all (iP L)&&Ck (i+1))
theorem vlA {mn:Int} {mc:List Cell} {md:List Int} {vb:Bool} (h:(uy mc (2+mn)&&md.all (iP (2+mn+mc.length)))=vb):∃Ck dB,VlA mn mc md vb Ck dB:=by
 refine ⟨λi=>uy (mc.drop i) (2+mn+i),_,?_,rfl,λi h=>?_,λi xi xt xr L hx hL=>?_⟩
 ·rw [<-h];simp
 ·show uy (mc.drop i) _=true
  rw [Bh h];rfl
 ·show uy (mc.drop i) _=(_&&uy (mc.drop (i+1)) _)
  rw [abm hx,show 2+mn+(i:Int)+1=2+mn+((i+1:Nat):Int) by omega,hL];rfl
structure ajX where
 m:ec
structure IC (m:ec):Prop where
 cells:m.cells.length<=1000000
 cin:∀x∈m.cells,x.ins.length<=1000000
 dr:m.bf.length<=1000000
@[reducible] noncomputable def OB:Vc.Spec where
 α:=ajX
 args x:=[.agg (xY x.m)]
 pre x:=IC x.m
 res x:=.b (λ_=>z6 x.m)
def qi (mn:Int) (mc:List Cell) (md:List Int) (i:Nat) (K:Int) (x:Cell) (t:List SV):Vc.St :=
 ⟨[.agg [.i .i64 (λ_=>mn),.sl 3 mC (λ_=>mc),.sl 1 bH (λ_=>md)],.ptr 0 0,.bc false,.fn (.func 27) [] [],.i .i64 (λ_=>(i:Int)),.ptr 1 0,.i .i64 (λ_=>K)]++t++r9 19++[.sl 3 mC (λ_=>mc),.i .i64 (λ_=>(mc.length:Int)),.i .i64 (λ_=>(i:Int))]++r9 75,
  [.fix 38 [.i .i64 (λ_=>mn),.sl 3 mC (λ_=>mc),.sl 1 bH (λ_=>md)],.fix 57 [.sl 1 bH (λ_=>x.ins),.i .i64 (λ_=>x.table),.i .i64 (λ_=>x.ej)]]⟩
noncomputable def ajY (n m:Nat):Ctx:=cP n m [] [(27,Oi)] [] [] [9,10]
theorem VO (n m:Nat):CB PP (ajY n m):=cR n m trivial ⟨VB,trivial⟩
noncomputable def ahH (n m:Nat):Ctx:=cP n m [] [(27,Oi)]
theorem Ec (n m:Nat):CB PP (ahH n m):=cR n m trivial ⟨VB,trivial⟩
theorem agl:dm (PP ()) 15 OB:=by
 refine fl (VO 0 0) (fo Try.func15) (λa=>⟨zh a.m,trivial⟩) (λa=>trivial) ?_
 rintro ⟨⟨mn,mc,md⟩⟩ hx
 obtain ⟨Az,sG,u6⟩:IC ⟨mn,mc,md⟩:=hx
 have Az:mc.length<=1000000:=Az
 have sG:∀x∈mc,x.ins.length<=1000000:=sG
 have u6:md.length<=1000000:=u6
 obtain ⟨vb,pg⟩:∃vb,z6 ⟨mn,mc,md⟩=vb:=⟨_,rfl⟩
 have J2:OB.res ⟨⟨mn,mc,md⟩⟩=.b (λ_=>vb):=by rw [<-pg]
 rw [J2]
 unfold z6 at pg
 simp only at pg
 have qZ:¬0<=mn->false=vb:=λh=>by rw [<-pg,decide_eq_false h];rfl
 have wx:¬mn<=600->false=vb:=λh=>by rw [<-pg,decide_eq_false h];simp
 have ZZ:¬2+mn+(mc.length:Int)<=600->false=vb:=λh=>by rw [<-pg,decide_eq_false h];simp
 have eV:0<=mn->mn<=600->2+mn+(mc.length:Int)<=600->(uy mc (2+mn)&&md.all (iP (2+mn+mc.length)))=vb:=λh1 h2 h3=>by rw [<-pg,decide_eq_true h1,decide_eq_true h2,decide_eq_true h3];rfl
 clear pg J2
 refine ⟨?_⟩
 cbv
 refine ⟨λh=>?_,λh=>?_⟩
 ·have aQ:¬0<=mn:=aL
  have e1:=qZ aQ
  cbv
  exact ⟨by have eR:=e1;exact bJ⟩
 have hm0:0<=mn:=aL
 clear h
 cbv
 refine ⟨λh=>?_,λh=>?_⟩
 ·have aQ:¬mn<=600:=aL
  have e1:=wx aQ
  cbv
  exact ⟨by have eR:=e1;exact bJ⟩
 have hm6:mn<=600:=aL
 have sx:IntKind.i64.wrap (2+mn)=2+mn:=ei (by omega) (by omega)
 have wE:∀j:Nat,j<=1000000->IntKind.i64.wrap (IntKind.i64.wrap (2+mn)+(j:Int))=2+mn+j:=λj hj=>by rw [sx];exact ei (by omega) (by omega)
 have J3:=wE mc.length Az
 clear h
 cbv
 refine ⟨λh=>?_,λh=>?_⟩
 ·have h':=h.out
  rw [J3] at h'
  have aQ:¬2+mn+(mc.length:Int)<=600:=by
         have h2:600 < 2+mn+(mc.length:Int):=by simpa [fj] using h'
         exact Int.not_le.2 h2
  have e1:=ZZ aQ
  cbv
  exact ⟨by have eR:=e1;exact bJ⟩
 have hm7:2+mn+(mc.length:Int)<=600:=by
  have h':=h.out
  rw [J3] at h'
  have h2:¬600 < 2+mn+(mc.length:Int):=by simpa [fj] using h'
  exact Int.not_lt.1 h2
 refine (vlA (eV hm0 hm6 hm7)).elim λCk hA=>?_
 refine hA.elim λdB hA=>?_
 have nf:=hA.fin
 have nt:=hA.ce
 clear h eV qZ wx ZZ
 cbv
 refine Sat.eE (VO 0 0) 1 4 [] (λi:Nat=>[(28,.sl 3 mC (λ_=>mc)),(29,.i .i64 (λ_=>(mc.length:Int))),(30,.i .i64 (λ_=>(i:Int)))]) (λ_=>[]) (λi=>i<=mc.length/\Ck 0=Ck i) (λi=>mc.length - i) 0 (by exact aW) (by exact aW) ⟨cK _,rfl⟩ ?_
 intro i hi
 have yx:Ck 0=Ck i:=hi.2
 have hi:i<=mc.length:=hi.1
 have dP:=n0 i
 have gB:=eO (i:=i) (by omega)
 have nt:=nt i
 have CM:=wE i (by omega)
 refine (⟨_,rfl⟩:∃L,2+mn+(i:Int)=L).elim λL hL=>?_
 rw [hL] at CM
 cbv
 refine ⟨λh=>?_,λh=>?_⟩
 ·have bP:i < mc.length:=aL
  have cy:mc.length - (i+1) < mc.length - i:=by omega
  refine (cC bP).elim λx=>?_
  refine x.casesOn λxi xt xr hx=>?_
  have u5:xi.length<=1000000:=sG _ (cL hx)
  have FZ:=hA.cn i xi xt xr L hx hL
  refine (vlF xi xt xr).elim λtb hF=>?_
  refine hF.elim λrb hF=>?_
  refine hF.elim λK hF=>?_
  rw [hF.t,hF.r] at FZ
  have hK:=hF.k
  have sm:(tb||rb)=false\/xi.all (iP L)=false->false=vb:=λh=>by
   rw [<-nf,yx,FZ]
   rcases h with h|h<;>rw [h]<;>simp
  have NF:(tb||rb)=true->xi.all (iP L)=true->(i+1<=mc.length/\Ck 0=Ck (i+1))/\mc.length - (i+1) < mc.length - i:=λh1 h2=>⟨⟨bP,by rw [yx,FZ,h1,h2];rfl⟩,cy⟩
  clear h
  cbv
  refine ⟨⟨xi,xt,xr⟩,⟨dP,hx⟩,?_⟩
  cbv
  apply xl (λc k=>Sat [] false PP c (qi mn mc md i K ⟨xi,xt,xr⟩ [.b (λ_=>tb),.any]) k)
  ·intro tail
   refine ⟨λh=>?_,λh=>?_⟩
   rotate_left
   ·have q1:¬xr=-1:=aL
    have e:=hF.t1 q1
    cbv
    exact fW 2 (qi mn mc md i K ⟨xi,xt,xr⟩ [.b (λ_=>tb),.any]) (by have eR:=e;have bE:=hK;exact a8) (by exact aW) tail
   have q1:xr=-1:=aL
   clear h
   cbv
   refine ⟨λh=>?_,λh=>?_⟩
   rotate_left
   ·have e:=hF.t2 h.out
    cbv
    exact fW 2 (qi mn mc md i K ⟨xi,xt,xr⟩ [.b (λ_=>tb),.any]) (by have eR:=e;have bE:=hK;exact a8) (by exact aW) tail
   have q2:=hF.k4 h.out
   clear h
   cbv
   refine ⟨λh=>?_,λh=>?_⟩
   rotate_left
   ·have q3:¬0<=xt:=aL
    have e:=hF.t3 q3
    cbv
    exact fW 2 (qi mn mc md i K ⟨xi,xt,xr⟩ [.b (λ_=>tb),.any]) (by have eR:=e;have bE:=hK;exact a8) (by exact aW) tail
   have q3:0<=xt:=aL
   obtain ⟨n1,n2,e⟩:=hF.t4 q1 q2 q3
   clear h
   cbv
   refine ⟨⟨n1⟩,⟨n2⟩,?_⟩
   exact fW 2 (qi mn mc md i K ⟨xi,xt,xr⟩ [.b (λ_=>tb),.any]) (by have nq:=e;have bE:=hK;exact a8) (by exact aW) tail
  ·refine Sat.iR (Ec 0 0) ?_
   cbv
   apply xl (λc k=>Sat [] false PP c (qi mn mc md i K ⟨xi,xt,xr⟩ [.b (λ_=>tb),.b (λ_=>rb)]) k)
   ·intro tail
    refine ⟨λh=>?_,λh=>?_⟩
    rotate_left
    ·have q1:¬0<=xr:=aL
     have e:=hF.r1 q1
     cbv
     exact fW 2 (qi mn mc md i K ⟨xi,xt,xr⟩ [.b (λ_=>tb),.b (λ_=>rb)]) (by have eR:=e;have nq:=e;exact a8) (by exact aW) tail
    have q1:0<=xr:=aL
    clear h
    cbv
    refine ⟨λh=>?_,λh=>?_⟩
    rotate_left
    ·have q2:¬xr < 64:=aL
     have e:=hF.r2 q2
     cbv
     exact fW 2 (qi mn mc md i K ⟨xi,xt,xr⟩ [.b (λ_=>tb),.b (λ_=>rb)]) (by have eR:=e;have nq:=e;exact a8) (by exact aW) tail
    have q2:xr < 64:=aL
    clear h
    cbv
    refine ⟨λh=>?_,λh=>?_⟩
    rotate_left
    ·have q3:¬K=3:=aL
     have e:=hF.r3 q3
     cbv
     exact fW 2 (qi mn mc md i K ⟨xi,xt,xr⟩ [.b (λ_=>tb),.b (λ_=>rb)]) (by have eR:=e;have nq:=e;exact a8) (by exact aW) tail
    have q3:K=3:=aL
    have e:=hF.r4 q1 q2 q3
    clear h
    cbv
    exact fW 2 (qi mn mc md i K ⟨xi,xt,xr⟩ [.b (λ_=>tb),.b (λ_=>rb)]) (by have eR:=e;have nq:=e;exact a8) (by exact aW) tail
   ·cases tb<;>cases rb
    ·refine fW 2 (qi mn mc md i K ⟨xi,xt,xr⟩ [.bc false,.bc false]) (by ((try cbv)<;>(repeat' (first|with_reducible exact trivial|with_reducible refine And.intro ?_ ?_))<;>(try first|exact cm.refl _|exact cm.dyn rfl|exact cm.map rfl|exact cm.iter rfl rfl (.inl rfl)|exact cm.iter rfl rfl (.inr rfl)|refine cm.fix ?_|refine cm.dyn ?_)<;>((repeat' first|exact cH.nil|exact Le.refl _|refine cH.cons ?_ ?_|exact Le.ic rfl|exact Le.bc rfl|exact Le.i rfl|exact Le.b rfl|exact Le.sl rfl|exact Le.mp rfl|exact Le.fu rfl|exact Le.nX rfl|refine Le.cD rfl (λ_=>?_)|refine Le.dF rfl (λ_ _=>rfl) (λ_=>?_) ?_|refine Le.agg ?_|refine Le.bX ?_|refine Le.fn ?_ ?_|refine Le.cZ ?_|exact trivial|refine And.intro ?_ ?_|refine λ_=>?_|exact Le.any _)))<;>exact .EA rfl) (by exact aW) ?_
     refine Sat.iR (Ec 0 0) ?_
     have e:=sm (.inl rfl)
     cbv
     exact ⟨by have eR:=e;exact bJ⟩
    ·refine fW 2 (qi mn mc md i K ⟨xi,xt,xr⟩ [.bc false,.bc true]) (by ((try cbv)<;>(repeat' (first|with_reducible exact trivial|with_reducible refine And.intro ?_ ?_))<;>(try first|exact cm.refl _|exact cm.dyn rfl|exact cm.map rfl|exact cm.iter rfl rfl (.inl rfl)|exact cm.iter rfl rfl (.inr rfl)|refine cm.fix ?_|refine cm.dyn ?_)<;>((repeat' first|exact cH.nil|exact Le.refl _|refine cH.cons ?_ ?_|exact Le.ic rfl|exact Le.bc rfl|exact Le.i rfl|exact Le.b rfl|exact Le.sl rfl|exact Le.mp rfl|exact Le.fu rfl|exact Le.nX rfl|refine Le.cD rfl (λ_=>?_)|refine Le.dF rfl (λ_ _=>rfl) (λ_=>?_) ?_|refine Le.agg ?_|refine Le.bX ?_|refine Le.fn ?_ ?_|refine Le.cZ ?_|exact trivial|refine And.intro ?_ ?_|refine λ_=>?_|exact Le.any _)))<;>exact .EA rfl) (by exact aW) ?_
     refine Sat.iR (Ec 0 0) ?_
     cbv
     refine ⟨⟨xi,L⟩,⟨by have bE:=CM;exact bJ,u5⟩,?_⟩
     cbv
     refine ⟨λh=>?_,λh=>?_⟩
     ·have q5:xi.all (iP L)=false:=by
        have h':(!xi.all (iP L))=true:=h.out
        simpa using h'
      have e:=sm (.inr q5)
      cbv
      exact ⟨by have eR:=e;exact bJ⟩
     ·have q5:xi.all (iP L)=true:=by
       have h':(!xi.all (iP L))=false:=h.out
       simpa using h'
      have bW:=NF rfl q5
      cbv
      exact ⟨i+1,by have bE:=gB;exact a8,by exact aW,⟨bW⟩⟩
    ·refine fW 2 (qi mn mc md i K ⟨xi,xt,xr⟩ [.bc true,.bc false]) (by ((try cbv)<;>(repeat' (first|with_reducible exact trivial|with_reducible refine And.intro ?_ ?_))<;>(try first|exact cm.refl _|exact cm.dyn rfl|exact cm.map rfl|exact cm.iter rfl rfl (.inl rfl)|exact cm.iter rfl rfl (.inr rfl)|refine cm.fix ?_|refine cm.dyn ?_)<;>((repeat' first|exact cH.nil|exact Le.refl _|refine cH.cons ?_ ?_|exact Le.ic rfl|exact Le.bc rfl|exact Le.i rfl|exact Le.b rfl|exact Le.sl rfl|exact Le.mp rfl|exact Le.fu rfl|exact Le.nX rfl|refine Le.cD rfl (λ_=>?_)|refine Le.dF rfl (λ_ _=>rfl) (λ_=>?_) ?_|refine Le.agg ?_|refine Le.bX ?_|refine Le.fn ?_ ?_|refine Le.cZ ?_|exact trivial|refine And.intro ?_ ?_|refine λ_=>?_|exact Le.any _)))<;>exact .EA rfl) (by exact aW) ?_
     refine Sat.iR (Ec 0 0) ?_
     cbv
     refine ⟨⟨xi,L⟩,⟨by have bE:=CM;exact bJ,u5⟩,?_⟩
     cbv
     refine ⟨λh=>?_,λh=>?_⟩
     ·have q5:xi.all (iP L)=false:=by
        have h':(!xi.all (iP L))=true:=h.out
        simpa using h'
      have e:=sm (.inr q5)
      cbv
      exact ⟨by have eR:=e;exact bJ⟩
     ·have q5:xi.all (iP L)=true:=by
       have h':(!xi.all (iP L))=false:=h.out
       simpa using h'
      have bW:=NF rfl q5
      cbv
      exact ⟨i+1,by have bE:=gB;exact a8,by exact aW,⟨bW⟩⟩
    ·refine fW 2 (qi mn mc md i K ⟨xi,xt,xr⟩ [.bc true,.bc true]) (by ((try cbv)<;>(repeat' (first|with_reducible exact trivial|with_reducible refine And.intro ?_ ?_))<;>(try first|exact cm.refl _|exact cm.dyn rfl|exact cm.map rfl|exact cm.iter rfl rfl (.inl rfl)|exact cm.iter rfl rfl (.inr rfl)|refine cm.fix ?_|refine cm.dyn ?_)<;>((repeat' first|exact cH.nil|exact Le.refl _|refine cH.cons ?_ ?_|exact Le.ic rfl|exact Le.bc rfl|exact Le.i rfl|exact Le.b rfl|exact Le.sl rfl|exact Le.mp rfl|exact Le.fu rfl|exact Le.nX rfl|refine Le.cD rfl (λ_=>?_)|refine Le.dF rfl (λ_ _=>rfl) (λ_=>?_) ?_|refine Le.agg ?_|refine Le.bX ?_|refine Le.fn ?_ ?_|refine Le.cZ ?_|exact trivial|refine And.intro ?_ ?_|refine λ_=>?_|exact Le.any _)))<;>exact .EA rfl) (by exact aW) ?_
     refine Sat.iR (Ec 0 0) ?_
     cbv
     refine ⟨⟨xi,L⟩,⟨by have bE:=CM;exact bJ,u5⟩,?_⟩
     cbv
     refine ⟨λh=>?_,λh=>?_⟩
     ·have q5:xi.all (iP L)=false:=by
        have h':(!xi.all (iP L))=true:=h.out
        simpa using h'
      have e:=sm (.inr q5)
      cbv
      exact ⟨by have eR:=e;exact bJ⟩
     ·have q5:xi.all (iP L)=true:=by
       have h':(!xi.all (iP L))=false:=h.out
       simpa using h'
      have bW:=NF rfl q5
      cbv
      exact ⟨i+1,by have bE:=gB;exact a8,by exact aW,⟨bW⟩⟩
 have b9:mc.length<=i:=aL
 have hC:=nt b9
 refine (⟨_,rfl⟩:∃L,2+mn+(mc.length:Int)=L).elim λL hL=>?_
 rw [hL] at J3
 have hd:md.all (iP L)=vb:=by rw [<-nf,yx,hC,<-hA.d,hL];simp
 clear h
 cbv
 refine ⟨⟨md,L⟩,⟨by have bE:=J3;exact bJ,u6⟩,?_⟩
 cbv
 exact ⟨by have nq:=hd;exact bJ⟩
end Go.Proofs.Pk
