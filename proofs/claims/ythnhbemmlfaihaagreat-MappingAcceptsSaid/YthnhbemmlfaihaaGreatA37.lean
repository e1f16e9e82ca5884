import Derived.Test.YthnhbemmlfaihaaGreatA13
import Derived.Test.YthnhbemmlfaihaaGreatA29
import Derived.Test.YthnhbemmlfaihaaGreatA34
import Derived.Test.YthnhbemmlfaihaaGreatA35
import Derived.Test.YthnhbemmlfaihaaGreatA36
set_option linter.unusedVariables false
set_option linter.unusedSimpArgs false
set_option maxRecDepth 10000
set_option maxHeartbeats 64000000
namespace Go.Proofs.Pk
open Go Go.Vc
@[reducible] noncomputable def akq:Vc.Spec where
 α:=JB
 args x:=[.agg [.sl 1 sE (λ_=>x.w),.sl 5 vd (λ_=>x.g),.sl 4 ve (λ_=>x.o)]]
 pre x:=EO x
 res x:=.b (λ_=>true)
theorem afk {n:Net} (h:Gn n):∃m c e,Ab n m c e:=⟨_,_,_,h.G,h.dr,by have:=h.d;omega,rfl⟩
noncomputable def akr (n m:Nat):Ctx:=cW n m [(30,Tryz.f30),(33,Tryz.f33),(32,Tryz.f32)] [(29,Yb),(104,OD),(55,Oz),(44,Oq),(39,JA),(40,Yc),(46,OK),(56,X7),(51,Ix)] [32]
theorem V8 (n m:Nat):CB PP (akr n m):=cZ n m ⟨fo Tryz.func30,fo Tryz.func33,fo Tryz.func32,trivial⟩ ⟨agC,VY,VV,VW,V4,agD,V7,agx,Mw,trivial⟩
theorem agF:cY (PP ()) 8 akq:=by
 refine e6 (V8 0 0) (fo Tryz.func8) (λa=>⟨⟨λx=>(Ih x).1,λx=>(Ip x).1,λx=>(Iq x).1,trivial⟩,trivial⟩) (λa=>trivial) ?_
 rintro ⟨w,g,o⟩ hx
 have hx:EO ⟨w,g,o⟩:=hx
 have F1:Jw ⟨0,[],[]⟩ ⟨0,[],[]⟩ true:=⟨⟨by decide,λx hx=>(by cases hx),by decide⟩,⟨by decide,λx hx=>(by cases hx),by decide⟩,by simp⟩
 refine ⟨?_⟩
 cbv
 refine ⟨(),⟨by exact a8,trivial⟩,?_⟩
 cbv
 refine ⟨λh=>?_,λh=>?_⟩
 ·have h:=h.out
  cases (show False by simp at h)
 clear h
 cbv
 refine ⟨λh=>?_,λh=>?_⟩
 rotate_left
 ·clear h
  cbv
  exact ⟨by exact a8⟩
 clear h
 cbv
 refine ⟨λh=>?_,λh=>?_⟩
 rotate_left
 ·clear h
  cbv
  exact ⟨by exact a8⟩
 clear h
 cbv
 refine ⟨λh=>?_,λh=>?_⟩
 ·clear h
  cbv
  exact ⟨by exact a8⟩
 clear h
 cbv
 refine iW.rel agE ⟨w,g,o⟩ (by exact e9) ⟨hx⟩ λn=>?_
 refine n.casesOn λins gs outs dr hn=>?_
 have hn:Gn ⟨ins,gs,outs,dr⟩:=hn.out
 refine (afk hn).elim λm hm=>?_
 revert hm
 refine m.casesOn λmn mc md hm=>?_
 refine hm.elim λc hm=>?_
 revert hm
 refine c.casesOn λR V hm=>?_
 refine hm.elim λe hm=>?_
 have hb:=ago hm
 rcases hb with rfl|hb
 rotate_left
 ·have e1:=hb.1
  have e2:(⟨mn,mc,md⟩:ea)=⟨0,[],[]⟩:=hb.2.1
  have e3:(⟨R,V⟩:kA)=⟨[],[]⟩:=hb.2.2
  cases e2
  cases e3
  subst e1
  clear hb
  cbv
  refine ⟨⟨⟨ins,gs,outs,dr⟩,⟨0,[],[]⟩,⟨[],[]⟩,2⟩,⟨by exact a8,hm⟩,?_⟩
  cbv
  refine ⟨λh=>?_,λh=>?_⟩
  rotate_left
  ·have h':(2:Int)=0:=aG
   cases (show False by omega)
  clear h
  cbv
  refine ⟨λh=>?_,λh=>?_⟩
  rotate_left
  ·have h':¬(2:Int)=2:=aG
   cases (show False from h' rfl)
  clear h
  cbv
  refine ⟨⟨⟨0,[],[]⟩,⟨0,[],[]⟩,true⟩,⟨by exact a8,F1⟩,?_⟩
  cbv
  refine ⟨λh=>?_,λh=>?_⟩
  rotate_left
  ·have h:=h.out
   cases (show False from by simp at h)
  clear h
  cbv
  exact ⟨by exact a8⟩
 ·have O:=OE hm
  have G:cC ins.length gs:=hn.G
  have vg:=G.mK
  have oq:tD ⟨mn,mc,md⟩=true:=ajn.2 O.v
  have hnv:(!tD ⟨mn,mc,md⟩)=true->False:=λh=>by rw [oq] at h;cases h
  have iy:EN ⟨mn,mc,md⟩:=⟨O.gY.m.cells,O.gY.m.cin,O.gY.m.dr⟩
  have Ke:OM ⟨mn,mc,md⟩:=⟨O.v,O.gY.m⟩
  have Pa:(mc.length:Int)<=gs.length:=by have:=O.cells;simp only at this;omega
  have hrc:(R.length:Int)=mc.length:=by have:=O.ok.rl;simp only at this;omega
  obtain ⟨d1,mL⟩:∃d,qN ⟨mn,mc,md⟩=d:=⟨_,rfl⟩
  obtain ⟨d2,AI⟩:∃d,qN (zH ins.length gs dr)=d:=⟨_,rfl⟩
  have tG:d1<=d2:=by rw [<-mL,<-AI];exact O.dp
  have wm:Ft ⟨mn,mc,md⟩ d1:=⟨O.v,O.gY.m.cin,O.gY.m.dr,mL⟩
  have Fy:NI ⟨ins,gs,outs,dr⟩ d2:=⟨G,hm.dr,hm.gY,AI⟩
  have Au:=O.ck
  have Cl:∀r∈R,2+(ins.length:Int)<=r/\r < 2+ins.length+gs.length:=O.ok.lim
  have jX:∀(i:Nat) (a b:Int),R[i]?=some a->R[i+1]?=some b->a < b:=λi a b ha hb=>by
   obtain ⟨p1,q1⟩:=bf.1 ha
   obtain ⟨p2,q2⟩:=bf.1 hb
   have:=(qC.1 O.ok.inc) i (i+1) p1 p2 (Ly i)
   rw [<-q1,<-q2];exact this
  have F6:R.length<=600:=by omega
  have ff:2+ins.length+gs.length<=1000000:=by omega
  have tR:IntKind.i64.wrap (2+(ins.length:Int))=2+ins.length:=dV (by omega) (by omega)
  clear O hn
  cbv
  refine ⟨⟨⟨ins,gs,outs,dr⟩,⟨mn,mc,md⟩,⟨R,V⟩,0⟩,⟨by exact a8,hm⟩,?_⟩
  cbv
  refine ⟨λh=>?_,λh=>?_⟩
  ·have h':¬(0:Int)=0:=aG
   cases (show False from h' rfl)
  clear h
  cbv
  refine ⟨⟨⟨ins,gs,outs,dr⟩,⟨mn,mc,md⟩,⟨R,V⟩,0⟩,⟨by exact a8,Au⟩,?_⟩
  cbv
  refine ⟨λh=>?_,λh=>?_⟩
  ·have h':¬(0:Int)=0:=aG
   cases (show False from h' rfl)
  clear h
  cbv
  refine ⟨⟨⟨mn,mc,md⟩⟩,⟨by exact a8,iy⟩,?_⟩
  cbv
  refine ⟨λh=>?_,λh=>?_⟩
  ·have h:=h.out
   cases (show False from hnv h)
  clear h
  cbv
  refine ⟨⟨⟨mn,mc,md⟩⟩,⟨by exact a8,Ke⟩,?_⟩
  cbv
  refine ⟨λh=>?_,λh=>?_⟩
  ·have h':((gs.length:Int):Int) < (mc.length:Int):=aG
   cases (show False from yY.2 (Pa) h')
  clear h
  cbv
  refine ⟨λh=>?_,λh=>?_⟩
  ·have h':¬((R.length:Int):Int)=(mc.length:Int):=aG
   cases (show False from h' hrc)
  clear h
  cbv
  refine ⟨⟨⟨mn,mc,md⟩,d1⟩,⟨by exact a8,wm⟩,?_⟩
  cbv
  refine ⟨⟨⟨ins,gs,outs,dr⟩,d2⟩,⟨by exact a8,Fy⟩,?_⟩
  cbv
  refine ⟨λh=>?_,λh=>?_⟩
  ·have h':(d2:Int) < d1:=aG
   cases (show False from yY.2 (tG) h')
  clear h
  cbv
  refine Sat.dP (V8 0 0) 8 6 [] (λi:Nat=>[(6,.i .i64 (λ_=>(i:Int)))]) (λ_=>[]) (λi=>i<=R.length) (λi=>R.length - i) 0 (by exact aW) (by exact aW) (cI _) ?_
  intro i hi
  have hi:i<=R.length:=hi
  have dv:=n0 i
  have eW:=eh (i:=i) (by omega)
  cbv
  refine ⟨λh=>?_,λh=>?_⟩
  ·have bO:i < R.length:=aG
   have cf:R.length - (i+1) < R.length - i:=by omega
   refine (cg bO).elim λr hr=>?_
   obtain ⟨r1,r2⟩:=Cl r (cM hr)
   have r3:IntKind.i64.wrap (2+(ins.length:Int))<=r:=by rw [tR];exact r1
   have r4:r < Ex ⟨ins,gs,outs,dr⟩:=r2
   have hpr:0 < i->0<=IntKind.i64.wrap ((i:Int) - 1)/\∃q,R[(IntKind.i64.wrap ((i:Int) - 1)).toNat]?=some q/\q < r:=λh0=>by
    have e:IntKind.i64.wrap ((i:Int) - 1)=((i - 1:Nat):Int):=by rw [dV (by omega) (by omega)];omega
    rw [e,iS]
    obtain ⟨q,hq⟩:=cg (l:=R) (i:=i - 1) (by omega)
    exact ⟨by omega,q,hq,jX (i - 1) q r hq (by rw [show i - 1+1=i by omega];exact hr)⟩
   have fv:i+1<=R.length/\R.length - (i+1) < R.length - i:=⟨bO,cf⟩
   clear h
   cbv
   refine ⟨λh=>?_,λh=>?_⟩
   ·have h0:0 < i:=aG
    have hp:=hpr h0
    have Ah:=hp.1
    refine hp.2.elim λq hq=>?_
    have AJ:=hq.1
    have O0:=hq.2
    clear h
    cbv
    refine ⟨q,⟨Ah,AJ⟩,?_⟩
    cbv
    refine ⟨r,⟨dv,hr⟩,?_⟩
    cbv
    refine ⟨λh=>?_,λh=>?_⟩
    ·have h':(r:Int)<=q:=aG
     cases (show False from DN.2 (O0) h')
    clear h
    cbv
    refine ⟨r,⟨dv,hr⟩,?_⟩
    cbv
    refine ⟨λh=>?_,λh=>?_⟩
    ·have h':(r:Int) < IntKind.i64.wrap (2+(ins.length:Int)):=aG
     cases (show False from yY.2 (r3) h')
    clear h
    cbv
    refine ⟨r,⟨dv,hr⟩,?_⟩
    cbv
    refine ⟨⟨ins,gs,outs,dr⟩,⟨by exact a8,ff⟩,?_⟩
    cbv
    refine ⟨λh=>?_,λh=>?_⟩
    ·have h':(Ex ⟨ins,gs,outs,dr⟩:Int)<=r:=aG
     cases (show False from DN.2 (r4) h')
    clear h
    cbv
    exact ⟨i+1,by have bK:=eW;exact bq,by exact aW,⟨fv⟩⟩
   ·clear h
    cbv
    refine ⟨r,⟨dv,hr⟩,?_⟩
    cbv
    refine ⟨λh=>?_,λh=>?_⟩
    ·have h':(r:Int) < IntKind.i64.wrap (2+(ins.length:Int)):=aG
     cases (show False from yY.2 (r3) h')
    clear h
    cbv
    refine ⟨r,⟨dv,hr⟩,?_⟩
    cbv
    refine ⟨⟨ins,gs,outs,dr⟩,⟨by exact a8,ff⟩,?_⟩
    cbv
    refine ⟨λh=>?_,λh=>?_⟩
    ·have h':(Ex ⟨ins,gs,outs,dr⟩:Int)<=r:=aG
     cases (show False from DN.2 (r4) h')
    clear h
    cbv
    exact ⟨i+1,by have bK:=eW;exact bq,by exact aW,⟨fv⟩⟩
  ·clear h
   cbv
   exact ⟨by exact a8⟩
end Go.Proofs.Pk
