import Derived.Test.YthnhbemmlfaihaaGreatQ11
import Derived.Test.YthnhbemmlfaihaaGreatQ22
set_option linter.unusedVariables false
set_option linter.unusedSimpArgs false
set_option maxRecDepth 10000
set_option maxHeartbeats 64000000
namespace Go.Proofs.Pk
open Go Go.Vc
structure VlF (xi:List Int) (xt xr:Int) (tb rb:Bool) (K:Int):Prop where
 k:(xi.length:Int)=K
 t:ug ⟨xi,xt,xr⟩=tb
 r:uh ⟨xi,xt,xr⟩=rb
 t1:¬xr=-1->false=tb
 t2:gI (xi.length:Int) 4=false->false=tb
 k4:gI (xi.length:Int) 4=true->K<=4
 t3:¬0<=xt->false=tb
 t4:xr=-1->K<=4->0<=xt->0<=(if (xi.length:Int)<=4 then (xi.length:Int) else 4)/\0<=(IntKind.u64.wrap (1*2^min (if (xi.length:Int)<=4 then (xi.length:Int) else 4).toNat IntKind.u64.bits))/\dw xt (IntKind.i64.wrap (1*2^min (IntKind.u64.wrap (1*2^min (if (xi.length:Int)<=4 then (xi.length:Int) else 4).toNat IntKind.u64.bits)).toNat IntKind.i64.bits))=tb
 r1:¬0<=xr->false=rb
 r2:¬xr < 64->false=rb
 r3:¬K=3->false=rb
 r4:0<=xr->xr < 64->K=3->eW xt 0=rb
theorem vlF (xi:List Int) (xt xr:Int):∃tb rb K,VlF xi xt xr tb rb K:=by
 refine ⟨_,_,_,rfl,rfl,rfl,λh=>?_,λh=>?_,λh=>by simpa [gI] using h,λh=>?_,λh1 h2 h3=>?_,λh=>?_,λh=>?_,λh=>?_,λh1 h2 h3=>?_⟩
 ·unfold ug;simp [h]
 ·have h:¬(xi.length:Int)<=4:=by simpa [gI] using h
  have h:¬xi.length<=4:=by omega
  unfold ug;simp [h]
 ·unfold ug;simp [h]
 ·have h4:xi.length<=4:=by omega
  unfold ug
  simp only
  rw [decide_eq_true h1,decide_eq_true h4,decide_eq_true h3]
  have:xi.length=0\/xi.length=1\/xi.length=2\/xi.length=3\/xi.length=4:=by omega
  rcases this with h|h|h|h|h<;>rw [h]<;>exact ⟨by decide,by decide,by simp [dw,show IntKind.u64.bits=64 from rfl,show IntKind.i64.bits=64 from rfl];rfl⟩
 ·unfold uh;simp [h]
 ·unfold uh;simp [h]
 ·have h:¬xi.length=3:=by omega
  unfold uh;simp [h]
 ·have h3:xi.length=3:=by omega
  unfold uh
  by_cases h:xt=0<;>simp [h1,h2,h3,h,eW]
structure VlA (mn:Int) (mc:List Cell) (md:List Int) (vb:Bool) (Ck:Nat->Bool) (dB:Bool):Prop where
 fin:(Ck 0&&dB)=vb
 d:md.all (ko (2+mn+mc.length))=dB
 ce:∀i:Nat,mc.length<=i->Ck i=true
 cn:∀(i:Nat) (xi:List Int) (xt xr L:Int),mc[i]?=some ⟨xi,xt,xr⟩->2+mn+(i:Int)=L->Ck i=((ug ⟨xi,xt,xr⟩||uh ⟨xi,xt,xr⟩)&&xi.all (ko L)&&Ck (i+1))
theorem vlA {mn:Int} {mc:List Cell} {md:List Int} {vb:Bool} (h:(xO mc (2+mn)&&md.all (ko (2+mn+mc.length)))=vb):∃Ck dB,VlA mn mc md vb Ck dB:=by
 refine ⟨λi=>xO (mc.drop i) (2+mn+i),_,?_,rfl,λi h=>?_,λi xi xt xr L hx hL=>?_⟩
 ·rw [<-h];simp
 ·show xO (mc.drop i) _=true
  rw [F2 h];rfl
 ·show xO (mc.drop i) _=(_&&xO (mc.drop (i+1)) _)
  rw [aju hx,show 2+mn+(i:Int)+1=2+mn+((i+1:Nat):Int) by omega,hL];rfl
structure afC where
 m:ej
structure OB (m:ej):Prop where
 cells:m.cells.length<=1000000
 cin:∀x∈m.cells,x.ins.length<=1000000
 dr:m.bj.length<=1000000
@[reducible] noncomputable def Pp:Vc.Spec where
 α:=afC
 args x:=[.agg (wR x.m)]
 pre x:=OB x.m
 res x:=.b (λ_=>El x.m)
def tz (mn:Int) (mc:List Cell) (md:List Int) (i:Nat) (K:Int) (x:Cell) (t:List SV):Vc.St :=
 ⟨[.agg [.i .i64 (λ_=>mn),.sl 3 lN (λ_=>mc),.sl 1 bP (λ_=>md)],.ptr 0 0,.bc false,.fn (.func 111) [] [],.i .i64 (λ_=>(i:Int)),.ptr 1 0,.i .i64 (λ_=>K)]++t++qY 19++[.sl 3 lN (λ_=>mc),.i .i64 (λ_=>(mc.length:Int)),.i .i64 (λ_=>(i:Int))]++qY 75,
  [.fix 51 [.i .i64 (λ_=>mn),.sl 3 lN (λ_=>mc),.sl 1 bP (λ_=>md)],.fix 135 [.sl 1 bP (λ_=>x.ins),.i .i64 (λ_=>x.table),.i .i64 (λ_=>x.ep)]]⟩
noncomputable def auf (n m:Nat):Ctx:=dH n m [] [(111,UU)] [] [] [9,10]
theorem acV (n m:Nat):CB PP (auf n m):=dK n m trivial ⟨acG,trivial⟩
noncomputable def aqZ (n m:Nat):Ctx:=dH n m [] [(111,UU)]
theorem Jv (n m:Nat):CB PP (aqZ n m):=dK n m trivial ⟨acG,trivial⟩
theorem acW:cR (PP ()) 39 Pp:=by
 refine et (acV 0 0) (fo Tryz.func39) (λa=>⟨y4 a.m,trivial⟩) (λa=>trivial) ?_
 rintro ⟨⟨mn,mc,md⟩⟩ hx
 obtain ⟨ER,vM,xh⟩:OB ⟨mn,mc,md⟩:=hx
 have ER:mc.length<=1000000:=ER
 have vM:∀x∈mc,x.ins.length<=1000000:=vM
 have xh:md.length<=1000000:=xh
 obtain ⟨vb,sa⟩:∃vb,El ⟨mn,mc,md⟩=vb:=⟨_,rfl⟩
 have Qf:Pp.res ⟨⟨mn,mc,md⟩⟩=.b (λ_=>vb):=by rw [<-sa]
 rw [Qf]
 unfold El at sa
 simp only at sa
 have nB:¬0<=mn->false=vb:=λh=>by rw [<-sa,decide_eq_false h];rfl
 have nv:¬mn<=600->false=vb:=λh=>by rw [<-sa,decide_eq_false h];simp
 have Lx:¬2+mn+(mc.length:Int)<=600->false=vb:=λh=>by rw [<-sa,decide_eq_false h];simp
 have eZ:0<=mn->mn<=600->2+mn+(mc.length:Int)<=600->(xO mc (2+mn)&&md.all (ko (2+mn+mc.length)))=vb:=λh1 h2 h3=>by rw [<-sa,decide_eq_true h1,decide_eq_true h2,decide_eq_true h3];rfl
 clear sa Qf
 refine ⟨?_⟩
 cbv
 refine ⟨λh=>?_,λh=>?_⟩
 ·have aP:¬0<=mn:=aH
  have e1:=nB aP
  cbv
  exact ⟨by have eK:=e1;exact bX⟩
 have HV:0<=mn:=aH
 clear h
 cbv
 refine ⟨λh=>?_,λh=>?_⟩
 ·have aP:¬mn<=600:=aH
  have e1:=nv aP
  cbv
  exact ⟨by have eK:=e1;exact bX⟩
 have hm6:mn<=600:=aH
 have mK:IntKind.i64.wrap (2+mn)=2+mn:=dt (by omega) (by omega)
 have pc:∀j:Nat,j<=1000000->IntKind.i64.wrap (IntKind.i64.wrap (2+mn)+(j:Int))=2+mn+j:=λj hj=>by rw [mK];exact dt (by omega) (by omega)
 have EY:=pc mc.length ER
 clear h
 cbv
 refine ⟨λh=>?_,λh=>?_⟩
 ·have h':=h.out
  rw [EY] at h'
  have aP:¬2+mn+(mc.length:Int)<=600:=by
         have h2:600 < 2+mn+(mc.length:Int):=by simpa [dw] using h'
         exact C1.2 h2
  have e1:=Lx aP
  cbv
  exact ⟨by have eK:=e1;exact bX⟩
 have hm7:2+mn+(mc.length:Int)<=600:=by
  have h':=h.out
  rw [EY] at h'
  have h2:¬600 < 2+mn+(mc.length:Int):=by simpa [dw] using h'
  exact C0.1 h2
 refine (vlA (eZ HV hm6 hm7)).elim λCk hA=>?_
 refine hA.elim λdB hA=>?_
 have jA:=hA.fin
 have n8:=hA.ce
 clear h eZ nB nv Lx
 cbv
 refine Sat.dq (acV 0 0) 1 4 [] (λi:Nat=>[(28,.sl 3 lN (λ_=>mc)),(29,.i .i64 (λ_=>(mc.length:Int))),(30,.i .i64 (λ_=>(i:Int)))]) (λ_=>[]) (λi=>i<=mc.length/\Ck 0=Ck i) (λi=>mc.length - i) 0 (by exact aM) (by exact aM) ⟨cg _,rfl⟩ ?_
 intro i hi
 have Cj:Ck 0=Ck i:=hi.2
 have hi:i<=mc.length:=hi.1
 have dV:=n0 i
 have e7:=dC (i:=i) (by omega)
 have n8:=n8 i
 have sy:=pc i (by omega)
 refine (⟨_,rfl⟩:∃L,2+mn+(i:Int)=L).elim λL hL=>?_
 rw [hL] at sy
 cbv
 refine ⟨λh=>?_,λh=>?_⟩
 ·have bM:i < mc.length:=aH
  have bZ:mc.length - (i+1) < mc.length - i:=by omega
  refine (bO bM).elim λx=>?_
  refine x.casesOn λxi xt xr hx=>?_
  have jM:xi.length<=1000000:=vM _ (cB hx)
  have Ln:=hA.cn i xi xt xr L hx hL
  refine (vlF xi xt xr).elim λtb hF=>?_
  refine hF.elim λrb hF=>?_
  refine hF.elim λK hF=>?_
  rw [hF.t,hF.r] at Ln
  have hK:=hF.k
  have pM:(tb||rb)=false\/xi.all (ko L)=false->false=vb:=λh=>by
   rw [<-jA,Cj,Ln]
   rcases h with h|h<;>rw [h]<;>simp
  have Uc:(tb||rb)=true->xi.all (ko L)=true->(i+1<=mc.length/\Ck 0=Ck (i+1))/\mc.length - (i+1) < mc.length - i:=λh1 h2=>⟨⟨bM,by rw [Cj,Ln,h1,h2];rfl⟩,bZ⟩
  clear h
  cbv
  refine ⟨⟨xi,xt,xr⟩,⟨dV,hx⟩,?_⟩
  cbv
  apply wv (λc k=>Sat [] false PP c (tz mn mc md i K ⟨xi,xt,xr⟩ [.b (λ_=>tb),.any]) k)
  ·intro tail
   refine ⟨λh=>?_,λh=>?_⟩
   rotate_left
   ·have q1:¬xr=-1:=aH
    have e:=hF.t1 q1
    cbv
    exact gg 2 (tz mn mc md i K ⟨xi,xt,xr⟩ [.b (λ_=>tb),.any]) (by have eK:=e;have bH:=hK;exact bh) (by exact aM) tail
   have q1:xr=-1:=aH
   clear h
   cbv
   refine ⟨λh=>?_,λh=>?_⟩
   rotate_left
   ·have e:=hF.t2 h.out
    cbv
    exact gg 2 (tz mn mc md i K ⟨xi,xt,xr⟩ [.b (λ_=>tb),.any]) (by have eK:=e;have bH:=hK;exact bh) (by exact aM) tail
   have q2:=hF.k4 h.out
   clear h
   cbv
   refine ⟨λh=>?_,λh=>?_⟩
   rotate_left
   ·have q3:¬0<=xt:=aH
    have e:=hF.t3 q3
    cbv
    exact gg 2 (tz mn mc md i K ⟨xi,xt,xr⟩ [.b (λ_=>tb),.any]) (by have eK:=e;have bH:=hK;exact bh) (by exact aM) tail
   have q3:0<=xt:=aH
   obtain ⟨n1,n2,e⟩:=hF.t4 q1 q2 q3
   clear h
   cbv
   refine ⟨⟨n1⟩,⟨n2⟩,?_⟩
   exact gg 2 (tz mn mc md i K ⟨xi,xt,xr⟩ [.b (λ_=>tb),.any]) (by have kQ:=e;have bH:=hK;exact bh) (by exact aM) tail
  ·refine Sat.j2 (Jv 0 0) ?_
   cbv
   apply wv (λc k=>Sat [] false PP c (tz mn mc md i K ⟨xi,xt,xr⟩ [.b (λ_=>tb),.b (λ_=>rb)]) k)
   ·intro tail
    refine ⟨λh=>?_,λh=>?_⟩
    rotate_left
    ·have q1:¬0<=xr:=aH
     have e:=hF.r1 q1
     cbv
     exact gg 2 (tz mn mc md i K ⟨xi,xt,xr⟩ [.b (λ_=>tb),.b (λ_=>rb)]) (by have eK:=e;have kQ:=e;exact bh) (by exact aM) tail
    have q1:0<=xr:=aH
    clear h
    cbv
    refine ⟨λh=>?_,λh=>?_⟩
    rotate_left
    ·have q2:¬xr < 64:=aH
     have e:=hF.r2 q2
     cbv
     exact gg 2 (tz mn mc md i K ⟨xi,xt,xr⟩ [.b (λ_=>tb),.b (λ_=>rb)]) (by have eK:=e;have kQ:=e;exact bh) (by exact aM) tail
    have q2:xr < 64:=aH
    clear h
    cbv
    refine ⟨λh=>?_,λh=>?_⟩
    rotate_left
    ·have q3:¬K=3:=aH
     have e:=hF.r3 q3
     cbv
     exact gg 2 (tz mn mc md i K ⟨xi,xt,xr⟩ [.b (λ_=>tb),.b (λ_=>rb)]) (by have eK:=e;have kQ:=e;exact bh) (by exact aM) tail
    have q3:K=3:=aH
    have e:=hF.r4 q1 q2 q3
    clear h
    cbv
    exact gg 2 (tz mn mc md i K ⟨xi,xt,xr⟩ [.b (λ_=>tb),.b (λ_=>rb)]) (by have eK:=e;have kQ:=e;exact bh) (by exact aM) tail
   ·cases tb<;>cases rb
    ·refine gg 2 (tz mn mc md i K ⟨xi,xt,xr⟩ [.bc false,.bc false]) (by ((try cbv)<;>(repeat' (first|with_reducible exact trivial|with_reducible refine And.intro ?_ ?_))<;>(try first|exact db.refl _|exact db.dyn rfl|exact db.map rfl|exact db.iter rfl rfl (.inl rfl)|exact db.iter rfl rfl (.inr rfl)|refine db.fix ?_|refine db.dyn ?_)<;>((repeat' first|exact dF.nil|exact Le.refl _|refine dF.cons ?_ ?_|exact Le.ic rfl|exact Le.bc rfl|exact Le.i rfl|exact Le.b rfl|exact Le.sl rfl|exact Le.mp rfl|exact Le.gH rfl|exact Le.qu rfl|refine Le.cW rfl (λ_=>?_)|refine Le.eF rfl (λ_ _=>rfl) (λ_=>?_) ?_|refine Le.agg ?_|refine Le.cS ?_|refine Le.fn ?_ ?_|refine Le.dU ?_|exact trivial|refine And.intro ?_ ?_|refine λ_=>?_|exact Le.any _)))<;>exact .JV rfl) (by exact aM) ?_
     refine Sat.j2 (Jv 0 0) ?_
     have e:=pM (.inl rfl)
     cbv
     exact ⟨by have eK:=e;exact bX⟩
    ·refine gg 2 (tz mn mc md i K ⟨xi,xt,xr⟩ [.bc false,.bc true]) (by ((try cbv)<;>(repeat' (first|with_reducible exact trivial|with_reducible refine And.intro ?_ ?_))<;>(try first|exact db.refl _|exact db.dyn rfl|exact db.map rfl|exact db.iter rfl rfl (.inl rfl)|exact db.iter rfl rfl (.inr rfl)|refine db.fix ?_|refine db.dyn ?_)<;>((repeat' first|exact dF.nil|exact Le.refl _|refine dF.cons ?_ ?_|exact Le.ic rfl|exact Le.bc rfl|exact Le.i rfl|exact Le.b rfl|exact Le.sl rfl|exact Le.mp rfl|exact Le.gH rfl|exact Le.qu rfl|refine Le.cW rfl (λ_=>?_)|refine Le.eF rfl (λ_ _=>rfl) (λ_=>?_) ?_|refine Le.agg ?_|refine Le.cS ?_|refine Le.fn ?_ ?_|refine Le.dU ?_|exact trivial|refine And.intro ?_ ?_|refine λ_=>?_|exact Le.any _)))<;>exact .JV rfl) (by exact aM) ?_
     refine Sat.j2 (Jv 0 0) ?_
     cbv
     refine ⟨⟨xi,L⟩,⟨by have bH:=sy;exact bX,jM⟩,?_⟩
     cbv
     refine ⟨λh=>?_,λh=>?_⟩
     ·have q5:xi.all (ko L)=false:=by
        have h':(!xi.all (ko L))=true:=h.out
        simpa using h'
      have e:=pM (.inr q5)
      cbv
      exact ⟨by have eK:=e;exact bX⟩
     ·have q5:xi.all (ko L)=true:=by
       have h':(!xi.all (ko L))=false:=h.out
       simpa using h'
      have bS:=Uc rfl q5
      cbv
      exact ⟨i+1,by have bH:=e7;exact bh,by exact aM,⟨bS⟩⟩
    ·refine gg 2 (tz mn mc md i K ⟨xi,xt,xr⟩ [.bc true,.bc false]) (by ((try cbv)<;>(repeat' (first|with_reducible exact trivial|with_reducible refine And.intro ?_ ?_))<;>(try first|exact db.refl _|exact db.dyn rfl|exact db.map rfl|exact db.iter rfl rfl (.inl rfl)|exact db.iter rfl rfl (.inr rfl)|refine db.fix ?_|refine db.dyn ?_)<;>((repeat' first|exact dF.nil|exact Le.refl _|refine dF.cons ?_ ?_|exact Le.ic rfl|exact Le.bc rfl|exact Le.i rfl|exact Le.b rfl|exact Le.sl rfl|exact Le.mp rfl|exact Le.gH rfl|exact Le.qu rfl|refine Le.cW rfl (λ_=>?_)|refine Le.eF rfl (λ_ _=>rfl) (λ_=>?_) ?_|refine Le.agg ?_|refine Le.cS ?_|refine Le.fn ?_ ?_|refine Le.dU ?_|exact trivial|refine And.intro ?_ ?_|refine λ_=>?_|exact Le.any _)))<;>exact .JV rfl) (by exact aM) ?_
     refine Sat.j2 (Jv 0 0) ?_
     cbv
     refine ⟨⟨xi,L⟩,⟨by have bH:=sy;exact bX,jM⟩,?_⟩
     cbv
     refine ⟨λh=>?_,λh=>?_⟩
     ·have q5:xi.all (ko L)=false:=by
        have h':(!xi.all (ko L))=true:=h.out
        simpa using h'
      have e:=pM (.inr q5)
      cbv
      exact ⟨by have eK:=e;exact bX⟩
     ·have q5:xi.all (ko L)=true:=by
       have h':(!xi.all (ko L))=false:=h.out
       simpa using h'
      have bS:=Uc rfl q5
      cbv
      exact ⟨i+1,by have bH:=e7;exact bh,by exact aM,⟨bS⟩⟩
    ·refine gg 2 (tz mn mc md i K ⟨xi,xt,xr⟩ [.bc true,.bc true]) (by ((try cbv)<;>(repeat' (first|with_reducible exact trivial|with_reducible refine And.intro ?_ ?_))<;>(try first|exact db.refl _|exact db.dyn rfl|exact db.map rfl|exact db.iter rfl rfl (.inl rfl)|exact db.iter rfl rfl (.inr rfl)|refine db.fix ?_|refine db.dyn ?_)<;>((repeat' first|exact dF.nil|exact Le.refl _|refine dF.cons ?_ ?_|exact Le.ic rfl|exact Le.bc rfl|exact Le.i rfl|exact Le.b rfl|exact Le.sl rfl|exact Le.mp rfl|exact Le.gH rfl|exact Le.qu rfl|refine Le.cW rfl (λ_=>?_)|refine Le.eF rfl (λ_ _=>rfl) (λ_=>?_) ?_|refine Le.agg ?_|refine Le.cS ?_|refine Le.fn ?_ ?_|refine Le.dU ?_|exact trivial|refine And.intro ?_ ?_|refine λ_=>?_|exact Le.any _)))<;>exact .JV rfl) (by exact aM) ?_
     refine Sat.j2 (Jv 0 0) ?_
     cbv
     refine ⟨⟨xi,L⟩,⟨by have bH:=sy;exact bX,jM⟩,?_⟩
     cbv
     refine ⟨λh=>?_,λh=>?_⟩
     ·have q5:xi.all (ko L)=false:=by
        have h':(!xi.all (ko L))=true:=h.out
        simpa using h'
      have e:=pM (.inr q5)
      cbv
      exact ⟨by have eK:=e;exact bX⟩
     ·have q5:xi.all (ko L)=true:=by
       have h':(!xi.all (ko L))=false:=h.out
       simpa using h'
      have bS:=Uc rfl q5
      cbv
      exact ⟨i+1,by have bH:=e7;exact bh,by exact aM,⟨bS⟩⟩
 have cG:mc.length<=i:=aH
 have hC:=n8 cG
 refine (⟨_,rfl⟩:∃L,2+mn+(mc.length:Int)=L).elim λL hL=>?_
 rw [hL] at EY
 have hd:md.all (ko L)=vb:=by rw [<-jA,Cj,hC,<-hA.d,hL];simp
 clear h
 cbv
 refine ⟨⟨md,L⟩,⟨by have bH:=EY;exact bX,xh⟩,?_⟩
 cbv
 exact ⟨by have kQ:=hd;exact bX⟩
end Go.Proofs.Pk
