import Derived.Test.YthnhbemmlfaihaaGreatU7
import Derived.Test.YthnhbemmlfaihaaGreatU30
import Derived.Test.YthnhbemmlfaihaaGreatU31
set_option linter.unusedVariables false
set_option linter.unusedSimpArgs false
set_option maxRecDepth 10000
set_option maxHeartbeats 64000000
namespace Go.Proofs.Pk
open Go Go.Vc
theorem afc:∃f:List bU->List Source->Int->Source,f=gP:=⟨_,rfl⟩
noncomputable def qN:List bU->List Source->Int->Source:=Classical.choose afc
theorem OI:qN=gP:=BZ afc
@[reducible] noncomputable def Py:Vc.Spec where
 α:=Xu
 args y:=[.dE (Y6 y.x) 0,.i .i64 (λ_=>y.sig)]
 pre y:=HE y
 res y:=.agg [.i .i64 (λ_=>(qN y.x.n.ins y.x.k.cells y.sig).kind),.i .i64 (λ_=>(qN y.x.n.ins y.x.k.cells y.sig).n)]
theorem aoF:cZ (PP ()) 167 Py:=by
 have h:Py=KX:=by unfold Py KX;rw [OI]
 rw [h];exact UN
structure C1 (y:um):Prop where
 pb:XM y
 map:(y.n.ins.length:Int)=y.m.n->y.n.outs.length=y.m.ay.length->jG y.n y.m
open Classical in
noncomputable def tZ (y:um):bC × Int:=if (y.n.ins.length:Int)=y.m.n/\y.n.outs.length=y.m.ay.length then (qM y.n y.m,0) else (⟨[],[],[],[]⟩,270)
theorem afd:∃f:um->bC × Int,f=tZ:=⟨_,rfl⟩
noncomputable def iG:um->bC × Int:=Classical.choose afd
theorem yN:iG=tZ:=BZ afd
@[reducible] noncomputable def KY:Vc.Spec where
 α:=um
 args y:=[.agg [.sl 3 dm (λ_=>y.n.ins),.sl 5 dD (λ_=>y.n.gM),.sl 3 dm (λ_=>y.n.outs),.sl 1 bM (λ_=>y.n.ay)],.agg [.i .i64 (λ_=>y.m.n),.sl 3 rL (λ_=>y.m.cells),.sl 1 bM (λ_=>y.m.ay)]]
 pre y:=C1 y
 res y:=.dG [.agg (fH (iG y).1),.i .i64 (λ_=>(iG y).2)]
theorem agI {n:Net} {nc:Nat} {d:Lj} (hd:Vh n nc d) {np:Nat} (hnp:np<=600) {s:Source} (hs:pZ n.ins np s) (hi:n.ins.length<=600) (h0:0<=d.c0/\d.c0<=1000000) (h1:0<=d.c1/\d.c1<=1000000):LM ⟨s,others n.ins,d.t.k.bL,d.c0,d.c1⟩:=by
 have hl:(others n.ins).length<=n.ins.length:=Am _ _
 have hlen:=hd.len
 refine ⟨by show (others n.ins).length<=1000000;omega,λh=>?_,λh=>?_,λh=>?_,h0,h1⟩
 ·have h:s.kind=1:=h
  rcases hs with g|g|g|g
  ·have:=g.1;omega
  ·obtain ⟨w,hw,hk,hc⟩:=g.2
   have cO:=hd.bL w hw hk
   rw [<-hc] at cO
   show ∃v,d.t.k.bL s.n=some v/\0<=v/\v<=1000000
   cases hv:d.t.k.bL s.n with
   | none=>exact absurd hv cO
   | some v =>
    obtain ⟨b,hb,x,hx,_⟩:=hd.k.back _ _ hv
    have:=(bW.1 hx).1
    exact ⟨v,rfl,by omega,by omega⟩
  ·have:=g.1;omega
  ·have:=g.1;omega
 ·have h:s.kind=2:=h
  rcases hs with g|g|g|g
  ·have:=g.1;omega
  ·have:=g.1;omega
  ·exact ⟨g.2.1,by have:=g.2.2;show s.n<=1000000;omega⟩
  ·have:=g.1;omega
 ·have h:s.kind=3:=h
  rcases hs with g|g|g|g
  ·have:=g.1;omega
  ·have:=g.1;omega
  ·have:=g.1;omega
  ·exact g.2
def vh (ks:List Int) (l:List Block) (k:Nat):List Block:=l.mapIdx (λi x=>if i < k then Ic ks i x else x)
theorem anC (ks:List Int) (l:List Block):l=vh ks l 0:=by
 unfold vh
 refine oy λi=>?_
 rw [Ap]
 simp
theorem ac1 (ks:List Int) (l:List Block) (k:Nat):(vh ks l k).length=l.length:=by simp [vh]
theorem apN {ks:List Int} {l:List Block} {k:Nat} {x:Block} (h:l[k]?=some x):(vh ks l k)[k]?=some x:=by
 unfold vh
 rw [Ap,h]
 simp
theorem anD {ks:List Int} {l:List Block} {k:Nat} {x:Block} {v:Int} (h:l[k]?=some x) (hv:ks[k]?=some v):(vh ks l k).set k ⟨x.ins,x.table,x.bR,x.aZ,v⟩=vh ks l (k+1):=by
 refine oy λi=>?_
 have aR:=(bW.1 h).1
 rw [ja]
 split
 ·rename_i e;subst e
  rw [ac1,if_pos aR]
  unfold vh
  rw [Ap,h]
  simp only [vT,N6,if_true]
  unfold Ic
  rw [iE,hv]
  rfl
 ·rename_i e
  unfold vh
  rw [Ap,Ap]
  cases l[i]? with
  | none=>rfl
  | some y =>
   simp only [vT]
   by_cases h1:i < k
   ·rw [if_pos h1,if_pos (by omega)]
   ·rw [if_neg h1,if_neg (by omega)]
theorem aoG {ks:List Int} {l:List Block} {k:Nat} (h:l.length<=k):vh ks l k=l.mapIdx (Ic ks):=by
 unfold vh
 refine oy λi=>?_
 rw [Ap,Ap]
 cases hi:l[i]? with
 | none=>rfl
 | some y =>
  have:=(bW.1 hi).1
  simp only [vT]
  rw [if_pos (by omega)]
@[reducible] def kS:KD:=.ints [.i64,.i64]
def asJ (x:Source):List SV:=[.agg (my x)]
noncomputable def cPa (n m:Nat):Ctx:=eu n m [(170,Tryz.f170),(171,Tryz.f171),(165,Tryz.f165),(166,Tryz.f166),(168,Tryz.f168)] [(164,TP),(167,Py),(26,Qg),(172,ae4)] [165,166,168] [170]
theorem Cz (n m:Nat):CB PP (cPa n m):=ez n m ⟨fo Tryz.func170,fo Tryz.func171,fo Tryz.func165,fo Tryz.func166,fo Tryz.func168,trivial⟩ ⟨amq,aoF,UQ,aox,trivial⟩
theorem UR:cZ (PP ()) 74 KY:=by
 refine dT (Cz 0 0) (fo Tryz.func74) (λa=>⟨⟨(λx=>(gS x).1),(λx=>(eO x).1),(λx=>(gS x).1),(λx=>(cQ x).1),trivial⟩,⟨trivial,(λx=>(Aw x).1),(λx=>(cQ x).1),trivial⟩,trivial⟩) (λa=>⟨kD _,trivial,trivial⟩) ?_
 rintro ⟨⟨ins,gs,outs,dr⟩,⟨mn,mc,md⟩⟩ hx
 have hx:C1 ⟨⟨ins,gs,outs,dr⟩,⟨mn,mc,md⟩⟩:=hx
 have RY:=hx.pb
 have j6:eX ⟨ins,gs,outs,dr⟩:=RY.Bv
 have wH:2+ins.length+gs.length<=600:=j6.pF
 obtain ⟨R,hR⟩:∃R,tZ ⟨⟨ins,gs,outs,dr⟩,⟨mn,mc,md⟩⟩=R:=⟨_,rfl⟩
 have mS:KY.res ⟨⟨ins,gs,outs,dr⟩,⟨mn,mc,md⟩⟩=.dG [.agg (fH R.1),.i .i64 (λ_=>R.2)]:=by rw [<-hR,<-yN]
 rw [mS]
 unfold tZ at hR
 simp only at hR
 refine ⟨?_⟩
 cbv
 refine ⟨⟨⟨ins,gs,outs,dr⟩,⟨mn,mc,md⟩⟩,⟨by exact bQ,RY⟩,?_⟩
 cbv
 refine ⟨λh=>?_,λh=>?_⟩
 ·have eA:¬((ins.length:Int)=mn/\outs.length=md.length):=by
   have h':(!(aV (ins.length:Int) mn&&aV (outs.length:Int) (md.length:Int)))=true:=h.out
   rintro ⟨e1,e2⟩
   rw [e1,e2] at h'
   simp [aV] at h'
  rw [if_neg eA] at hR
  subst hR
  cbv
  exact ⟨by exact aK⟩
 have zt:(ins.length:Int)=mn/\outs.length=md.length:=by
  have h':(!(aV (ins.length:Int) mn&&aV (outs.length:Int) (md.length:Int)))=false:=h.out
  simp only [aV,Ee,eh,beq_iff_eq] at h'
  exact ⟨h'.1,by exact aT⟩
 clear h
 rw [if_pos zt] at hR
 have hm:jG ⟨ins,gs,outs,dr⟩ ⟨mn,mc,md⟩:=hx.map zt.1 zt.2
 have fV:outs.length=md.length:=zt.2
 clear zt hx
 have hmc:mc.length<=gs.length:=hm.dK
 have ME:outs.length<=100000:=RY.outs
 obtain ⟨W,hW⟩:∃W:Nat->List Int->Option Int,∀i,W i=A5 ins i:=⟨_,λ_=>rfl⟩
 obtain ⟨O,hO⟩:∃O:Nat->List bU,∀i,O i=others (ins.take i):=⟨_,λ_=>rfl⟩
 have I5:(λ_=>none)=W 0:=by rw [hW];rfl
 have Zj:[]=O 0:=by rw [hO];rfl
 cbv
 refine Sat.iK 5 5 307 4 adE Oz rfl rfl ?_
 cbv
 refine Sat.iK 5 6 302 2 Oq yH rfl rfl ?_
 cbv
 refine Sat.iK 7 0 133 3 Ha gS rfl rfl ?_
 cbv
 refine Sat.iK 7 1 76 5 acA JJ rfl rfl ?_
 cbv
 refine Sat.iK 7 2 133 3 Ha gS rfl rfl ?_
 cbv
 refine Sat.iK 7 3 3 1 oC cQ rfl rfl ?_
 cbv
 refine Sat.cf (Cz 0 0) 14 8 [(.c 7 0,10)] (λi:Nat=>[(37,.sl 3 dm (λ_=>ins)),(38,.i .i64 (λ_=>(ins.length:Int))),(39,.i .i64 (λ_=>(i:Int)))]) (λi=>[(3,.map kW bM (λ_=>W i)),(10,.dyn 133 3 dm (λ_=>O i))]) (λi=>i<=ins.length) (λi=>ins.length - i) 0 (by exact ao) (by have ij:=I5;have et:=Zj;have kR:=Zj;exact bJ) (cN _) ?_
 intro i hi
 have hi:i<=ins.length:=hi
 have h0:=n0 i
 have h1:=cq (i:=i) (by omega)
 cbv
 refine ⟨λh=>?_,λh=>?_⟩
 ·have bt:i < ins.length:=bI
  have bh:ins.length - (i+1) < ins.length - i:=by omega
  refine (bD bt).elim λw hw=>?_
  have ui:=λhk=>ad5 hw hk
  have bB:=λhk=>ad6 hw hk
  obtain ⟨v,hv⟩:∃v:Int,((O i).length:Int)=v:=⟨_,rfl⟩
  have gv:(O i).length<=600:=by rw [hO];have:(others (ins.take i)).length<=(ins.take i).length:=Am _ _;rw [lJ] at this;omega
  have eb:((O i).length+1)*24<=140737488355328:=by omega
  have nj:(O i).length+1<=9223372036854775807:=by omega
  cbv
  refine ⟨w,⟨h0,hw⟩,?_⟩
  cbv
  refine ⟨λh=>?_,λh=>?_⟩
  ·have hk:w.kind≠1:=by have h':(!aV w.kind 1)=true:=h.out;simpa [aV] using h'
   have MN:(λj=>if j=gG w then some v else W i j)=W (i+1):=by rw [hW (i+1),(bB hk).1,<-hv,hO,hW]
   have Zk:O i++[w]=O (i+1):=by rw [hO (i+1),(bB hk).2,<-hO]
   cbv
   refine ⟨v,⟨by have bg:=hv;exact cP⟩,?_⟩
   cbv
   refine ⟨[w],⟨by exact bQ,eb,nj⟩,?_⟩
   cbv
   exact ⟨i+1,by exact ao,by have ij:=MN;have et:=Zk;exact bJ,⟨⟨bt,bh⟩⟩⟩
  ·have hk:w.kind=1:=by have h':(!aV w.kind 1)=false:=h.out;simpa [aV] using h'
   have MN:W i=W (i+1):=by rw [hW (i+1),(ui hk).1,<-hW]
   have Zk:O i=O (i+1):=by rw [hO (i+1),(ui hk).2,<-hO]
   cbv
   exact ⟨i+1,by exact ao,by have ij:=MN;have et:=Zk;exact bJ,⟨⟨bt,bh⟩⟩⟩
 have b9:i=ins.length:=by
  have h':aU i ins.length=false:=h.out
  have h2:¬(i:Int) < ins.length:=by simpa [aU] using h'
  omega
 obtain ⟨w,hw⟩:∃w,W i=w:=⟨_,rfl⟩
 have qp:w=v9 ins:=by rw [<-hw,b9,hW,apG]
 obtain ⟨oi,xc⟩:∃o,O i=o:=⟨_,rfl⟩
 have pC:oi=others ins:=by rw [<-xc,b9,hO,lK]
 clear h h0 h1 hi I5 Zj
 obtain ⟨K1,qt⟩:∃K:Nat->PK,∀i,K i=xd ⟨ins,gs,outs,dr⟩ ⟨mn,mc,md⟩ i:=⟨_,λ_=>rfl⟩
 have LR:K1 0=⟨[],[],false,false,λ_=>none⟩:=by rw [qt];rfl
 have a1:[]=(K1 0).parts:=by rw [LR]
 have a2:[]=(K1 0).cells:=by rw [LR]
 have a3:false=(K1 0).n0:=by rw [LR]
 have a4:false=(K1 0).n1:=by rw [LR]
 have a5:(λ_=>none)=(K1 0).bL:=by rw [LR]
 cbv
 refine Sat.cf (Cz 0 0) 14 8 [(.c 5 5,8),(.c 5 6,9)] (λi:Nat=>[(62,.sl 3 rL (λ_=>mc)),(63,.i .i64 (λ_=>(mc.length:Int))),(64,.i .i64 (λ_=>(i:Int)))])
  (λi=>[(3,.map kW bM (λ_=>w)),(4,.map kF bM (λ_=>(K1 i).bL)),(5,.fix 298 [.sl 3 dm (λ_=>ins),.sl 5 dD (λ_=>gs),.sl 3 dm (λ_=>outs),.sl 1 bM (λ_=>dr),.fc 3,.own 8,.own 9,.b (λ_=>(K1 i).n0),.b (λ_=>(K1 i).n1),.fc 4]),(8,.dyn 307 4 u4 (λ_=>(K1 i).parts)),(9,.dyn 302 2 my (λ_=>(K1 i).cells)),(10,.dyn 133 3 dm (λ_=>oi))])
  (λi=>i<=mc.length) (λi=>mc.length - i) 0 (by exact ao) (by have ij:=hw;have zI:=a5;have kR:=xc;have lB:=a1;have uz:=a2;have et:=xc;have kH:=a1;have oU:=a2;have IF:=a3;have Yp:=a4;exact bJ) (cN _) ?_
 intro i hi
 have hi:i<=mc.length:=hi
 have h0:=n0 i
 have h1:=cq (i:=i) (by omega)
 cbv
 refine ⟨λh=>?_,λh=>?_⟩
 ·have bt:i < mc.length:=bI
  have bh:mc.length - (i+1) < mc.length - i:=by omega
  refine (bD bt).elim λc hc=>?_
  have hk:=agn j6 hm (i:=i) (by exact hi)
  rw [<-qt] at hk
  have C8:=hm.cells i c hc
  have qc:(K1 i).cells.length=i:=hk.ok.nc
  have hce:Xy ⟨⟨⟨ins,gs,outs,dr⟩,w,K1 i⟩,c⟩:=⟨j6,qp,by have:=hk.dK;show (K1 i).parts.length<=100000;omega,by show (K1 i).cells.length<=100000;omega,by
   show c.ins.length<=100000;rcases C8.vw with h|h<;>omega,λg hg=>by
    have:=C8.ins g hg
    show 0<=g/\g < 2+(ins.length:Int)+((K1 i).cells.length:Int)
    have:0<=g/\g < 2+(ins.length:Int)+(i:Int):=this
    omega,λx hx=>by
    obtain ⟨b,hb⟩:=nX hx
    have:=(hk.ok.src b x hb).1.k;omega,λg hg h3=>by
    have wP:=C8.ins g hg
    have:=aqX (m:=⟨mn,mc,md⟩) hk.ok wP.1 wP.2
    have h3:(gP ins (K1 i).cells g).kind=3:=h3
    have this:pZ ins (K1 i).parts.length (gP ins (K1 i).cells g):=this
    rcases this with h|h|h|h
    ·have:=h.1;omega
    ·have:=h.1;omega
    ·have:=h.1;omega
    ·exact h.2⟩
  have cJ:jv ins (K1 i) c=K1 (i+1):=by rw [qt (i+1),apD hc,<-qt]
  have e1:(jv ins (K1 i) c).parts=(K1 (i+1)).parts:=by rw [cJ]
  have e2:(jv ins (K1 i) c).bL=(K1 (i+1)).bL:=by rw [cJ]
  have e3:(jv ins (K1 i) c).cells=(K1 (i+1)).cells:=by rw [cJ]
  have e4:(jv ins (K1 i) c).n0=(K1 (i+1)).n0:=by rw [cJ]
  have e5:(jv ins (K1 i) c).n1=(K1 (i+1)).n1:=by rw [cJ]
  cbv
  refine ⟨c,⟨h0,hc⟩,?_⟩
  cbv
  refine bV.io aou ⟨⟨⟨ins,gs,outs,dr⟩,w,K1 i⟩,c⟩ [5,3,8,9,4] rfl (by exact bQ) (by exact ao) ⟨hce⟩ λ_ _=>?_
  cbv
  exact ⟨i+1,by exact ao,by have ij:=e2;have kR:=e1;have lB:=e3;have et:=e1;have kH:=e3;have jJ:=e4;have mN:=e5;exact bJ,⟨⟨bt,bh⟩⟩⟩
 have b9:i=mc.length:=by
  have h':aU i mc.length=false:=h.out
  have h2:¬(i:Int) < mc.length:=by simpa [aU] using h'
  omega
 clear h h0 h1 hi
 obtain ⟨K2,MO⟩:∃K:Nat->PK,∀i,K i=xe ⟨ins,gs,outs,dr⟩ ⟨mn,mc,md⟩ i:=⟨_,λ_=>rfl⟩
 obtain ⟨Oo,Gb⟩:∃O:Nat->List bU,∀i,O i=others (outs.take i):=⟨_,λ_=>rfl⟩
 have LS:K1 i=K2 0:=by rw [MO,qt,b9];rfl
 have b1:(K1 i).parts=(K2 0).parts:=by rw [LS]
 have b2:(K1 i).cells=(K2 0).cells:=by rw [LS]
 have b3:(K1 i).n0=(K2 0).n0:=by rw [LS]
 have b4:(K1 i).n1=(K2 0).n1:=by rw [LS]
 have b5:(K1 i).bL=(K2 0).bL:=by rw [LS]
 have b6:[]=Oo 0:=by rw [Gb];rfl
 cbv
 refine Sat.cf (Cz 0 0) 14 8 [(.c 5 5,8),(.c 7 2,12)] (λi:Nat=>[(73,.sl 3 dm (λ_=>outs)),(74,.i .i64 (λ_=>(outs.length:Int))),(75,.i .i64 (λ_=>(i:Int)))])
  (λi=>[(4,.map kF bM (λ_=>(K2 i).bL)),(5,.fix 298 [.sl 3 dm (λ_=>ins),.sl 5 dD (λ_=>gs),.sl 3 dm (λ_=>outs),.sl 1 bM (λ_=>dr),.fc 3,.own 8,.own 9,.b (λ_=>(K2 i).n0),.b (λ_=>(K2 i).n1),.fc 4]),(8,.dyn 307 4 u4 (λ_=>(K2 i).parts)),(9,.dyn 302 2 my (λ_=>(K2 i).cells)),(12,.dyn 133 3 dm (λ_=>Oo i))])
  (λi=>i<=outs.length) (λi=>outs.length - i) 0 (by exact ao) (by have ij:=b5;have kR:=b1;have lB:=b2;have uz:=b6;have et:=b1;have kH:=b2;have oU:=b6;have jJ:=b3;have mN:=b4;exact bJ) (cN _) ?_
 intro j hj
 have hj:j<=outs.length:=hj
 have h0:=n0 j
 have h1:=cq (i:=j) (by omega)
 cbv
 refine ⟨λh=>?_,λh=>?_⟩
 ·have er:j < outs.length:=bI
  have bh:outs.length - (j+1) < outs.length - j:=by omega
  refine (bD er).elim λx jw=>?_
  refine (bD (l:=md) (i:=j) (by omega)).elim λd I6=>?_
  have hk:=V8 j6 hm j
  rw [<-MO] at hk
  have qc:(K2 j).cells.length=mc.length:=hk.ok.nc
  have nw:0<=d/\d < 2+(ins.length:Int)+(mc.length:Int):=hm.ay d (cb I6)
  have cJ:K2 (j+1)=oN ins (K2 j) (x,d):=by rw [MO (j+1),apE jw I6,<-MO]
  have vu:pZ ins (K2 j).parts.length (gP ins (K2 j).cells d):=J0 hk.ok.cells nw.1 (by rw [qc];exact nw.2)
  have nr:HE ⟨⟨⟨ins,gs,outs,dr⟩,w,K2 j⟩,d⟩:=⟨j6,qp,nw.1,by show d < 2+(ins.length:Int)+((K2 j).cells.length:Int);rw [qc];exact nw.2,by show (K2 j).cells.length<=1000000;omega⟩
  have jo:=j6.outs x (cb jw)
  obtain ⟨s,hs⟩:∃s,gP ins (K2 j).cells d=s:=⟨_,rfl⟩
  have Ml:(qN ins (K2 j).cells d).kind=s.kind:=by rw [OI,hs]
  have tB:(qN ins (K2 j).cells d).n=s.n:=by rw [OI,hs]
  rw [hs] at vu
  have Bt:V6 ⟨⟨⟨ins,gs,outs,dr⟩,w,K2 j⟩,s,lN x⟩:=⟨by have:=hk.dK;show (K2 j).parts.length<=1000000;omega,λh2=>by
   have h2:s.kind=2:=h2
   rcases vu with h|h|h|h
   ·have:=h.1;omega
   ·have:=h.1;omega
   ·exact h.2
   ·have:=h.1;omega⟩
  have gv:(Oo j).length<=100000:=by rw [Gb];have:(others (outs.take j)).length<=(outs.take j).length:=Am _ _;rw [lJ] at this;omega
  have eb:((Oo j).length+1)*24<=140737488355328:=by omega
  have nj:(Oo j).length+1<=9223372036854775807:=by omega
  cbv
  refine ⟨x,⟨h0,jw⟩,?_⟩
  cbv
  refine ⟨λh=>?_,λh=>?_⟩
  ·have eT:x.kind=1:=bI
   have avj:=(j6.ins x ((j6.aM x eT).2 (cb jw))).2
   have hcw:IntKind.i64.wrap (IntKind.i64.wrap (8*x.i)+x.bit)=lN x:=by
    obtain ⟨⟨_,_,ha,hb,hc⟩,_⟩:=jo
    rw [cu (n:=8*x.i) (by omega) (by omega),cu (by omega) (by omega)];rfl
   have ui:j4 (K2 j) s (lN x)=K2 (j+1):=by rw [cJ];unfold oN;simp only;rw [if_pos eT,hs]
   have e1:(j4 (K2 j) s (lN x)).parts=(K2 (j+1)).parts:=by rw [ui]
   have e2:(j4 (K2 j) s (lN x)).bL=(K2 (j+1)).bL:=by rw [ui]
   have e3:(j4 (K2 j) s (lN x)).cells=(K2 (j+1)).cells:=by rw [ui]
   have e4:(j4 (K2 j) s (lN x)).n0=(K2 (j+1)).n0:=by rw [ui]
   have e5:(j4 (K2 j) s (lN x)).n1=(K2 (j+1)).n1:=by rw [ui]
   have e6:Oo j=Oo (j+1):=by rw [Gb,Gb,(ad5 jw eT).2]
   cbv
   refine ⟨d,⟨h0,I6⟩,?_⟩
   cbv
   refine ⟨⟨⟨⟨ins,gs,outs,dr⟩,w,K2 j⟩,d⟩,⟨.inl ⟨by exact bQ,rfl⟩,nr⟩,?_⟩
   cbv
   refine bV.io apA ⟨⟨⟨ins,gs,outs,dr⟩,w,K2 j⟩,s,lN x⟩ [5,3,8,9,4] rfl (by exact bQ) (by exact ao) ⟨Bt⟩ λ_ _=>?_
   cbv
   exact ⟨j+1,by exact ao,by have ij:=e2;have kR:=e1;have lB:=e3;have uz:=e6;have et:=e1;have kH:=e3;have oU:=e6;have jJ:=e4;have mN:=e5;exact bJ,⟨⟨er,bh⟩⟩⟩
  ·have eT:x.kind≠1:=bI
   have bX:K2 (j+1)={ K2 j with n0:=(K2 j).n0||d == 0,n1:=(K2 j).n1||d == 1 }:=by rw [cJ];unfold oN;simp only;rw [if_neg eT]
   have e1:(K2 j).parts=(K2 (j+1)).parts:=by rw [bX]
   have e2:(K2 j).bL=(K2 (j+1)).bL:=by rw [bX]
   have e3:(K2 j).cells=(K2 (j+1)).cells:=by rw [bX]
   have RZ:d=0->true=(K2 (j+1)).n0:=λh=>by rw [bX,h];simp
   have MP:d≠0->(K2 j).n0=(K2 (j+1)).n0:=λh=>by rw [bX];simp [h]
   have R0:d=1->true=(K2 (j+1)).n1:=λh=>by rw [bX,h];simp
   have MQ:d≠1->(K2 j).n1=(K2 (j+1)).n1:=λh=>by rw [bX];simp [h]
   have e6:Oo j++[x]=Oo (j+1):=by rw [Gb,Gb,(ad6 jw eT).2]
   clear bX
   cbv
   refine ⟨[x],⟨by exact bQ,eb,nj⟩,?_⟩
   cbv
   refine ⟨d,⟨h0,I6⟩,?_⟩
   cbv
   refine ⟨λh=>?_,λh=>?_⟩
   ·have IY:d < 2:=bI
    rcases (show d=0\/d=1 by omega) with pA|pA
    ·have e4:=RZ pA
     have e5:=MQ (by omega)
     clear RZ MP R0 MQ
     cbv
     refine ⟨d,⟨h0,I6⟩,?_⟩
     cbv
     refine ⟨0,⟨pA,by decide⟩,?_⟩
     cbv
     exact ⟨j+1,by exact ao,by have ij:=e2;have kR:=e1;have lB:=e3;have uz:=e6;have et:=e1;have kH:=e3;have oU:=e6;have jJ:=e4;have IF:=e4;have mN:=e5;exact bJ,⟨⟨er,bh⟩⟩⟩
    ·have e4:=MP (by omega)
     have e5:=R0 pA
     clear RZ MP R0 MQ
     cbv
     refine ⟨d,⟨h0,I6⟩,?_⟩
     cbv
     refine ⟨1,⟨pA,by decide⟩,?_⟩
     cbv
     exact ⟨j+1,by exact ao,by have ij:=e2;have kR:=e1;have lB:=e3;have uz:=e6;have et:=e1;have kH:=e3;have oU:=e6;have jJ:=e4;have IF:=e5;have mN:=e5;exact bJ,⟨⟨er,bh⟩⟩⟩
   ·have IY:2<=d:=bI
    have e4:=MP (by omega)
    have e5:=MQ (by omega)
    clear RZ MP R0 MQ
    cbv
    exact ⟨j+1,by exact ao,by have ij:=e2;have kR:=e1;have lB:=e3;have uz:=e6;have et:=e1;have kH:=e3;have oU:=e6;have jJ:=e4;have mN:=e5;exact bJ,⟨⟨er,bh⟩⟩⟩
 have uh:j=outs.length:=by
  have h':aU j outs.length=false:=h.out
  have h2:¬(j:Int) < outs.length:=by simpa [aU] using h'
  omega
 clear h h0 h1 hj
 obtain ⟨K3,Fy,LU,aiD⟩:∃K:Nat->PK,K 0=nR ⟨ins,gs,outs,dr⟩ ⟨mn,mc,md⟩/\K 1=sM ⟨ins,gs,outs,dr⟩ ⟨mn,mc,md⟩/\K 2=qu ⟨ins,gs,outs,dr⟩ ⟨mn,mc,md⟩ :=
  ⟨λi=>match i with|0=>nR ⟨ins,gs,outs,dr⟩ ⟨mn,mc,md⟩|1=>sM ⟨ins,gs,outs,dr⟩ ⟨mn,mc,md⟩|_=>qu ⟨ins,gs,outs,dr⟩ ⟨mn,mc,md⟩,rfl,rfl,rfl⟩
 have LV:K2 j=K3 0:=by rw [MO,uh,Fy];rfl
 obtain ⟨cA,Be,hA1,R3⟩:∃c:Nat->Int,c 0=0/\c 1=RS ⟨ins,gs,outs,dr⟩ ⟨mn,mc,md⟩/\c 2=c 1:=⟨λi=>match i with|0=>0|_=>RS ⟨ins,gs,outs,dr⟩ ⟨mn,mc,md⟩,rfl,rfl,rfl⟩
 obtain ⟨cB,uB,IX,hB2⟩:∃c:Nat->Int,c 0=0/\c 1=0/\c 2=RT ⟨ins,gs,outs,dr⟩ ⟨mn,mc,md⟩:=⟨λi=>match i with|0=>0|1=>0|_=>RT ⟨ins,gs,outs,dr⟩ ⟨mn,mc,md⟩,rfl,rfl,rfl⟩
 obtain ⟨qA,aiE,aiF,aiG⟩:∃c:Nat->Int,c 0=0/\c 1=(if (K3 0).n0 then 2 else 0)/\c 2=c 1:=⟨λi=>match i with|0=>0|_=>(if (K3 0).n0 then 2 else 0),rfl,rfl,rfl⟩
 obtain ⟨qB,XN,XO,aiH⟩:∃c:Nat->Int,c 0=0/\c 1=0/\c 2=(if (K3 0).n1 then 2 else 0):=⟨λi=>match i with|0=>0|1=>0|_=>(if (K3 0).n1 then 2 else 0),rfl,rfl,rfl⟩
 obtain ⟨g1,g2,g3,g4,g5,g6,g7,g8⟩:=ago j6 hm
 have aiI:K3 1=oD (K3 0) 0 (K3 0).n0:=by rw [LU,Fy];rfl
 have aiJ:K3 2=oD (K3 1) 1 (K3 0).n1:=by rw [aiD,LU,Fy];rfl
 have aiK:(K3 1).n1=(K3 0).n1:=by rw [LU,Fy];exact g7
 have Vw:(K3 0).parts.length<=1000000:=by have hf:(nR ⟨ins,gs,outs,dr⟩ ⟨mn,mc,md⟩).parts.length<=1200:=(V8 j6 hm outs.length).dK;rw [Fy];omega
 have asK:(K3 1).parts.length<=1000000:=by rw [LU];omega
 have XP:cA 1=(if (K3 0).n0 then ((K3 0).parts.length:Int) else 0):=by rw [hA1,Fy];rfl
 have XQ:cB 2=(if (K3 0).n1 then ((K3 1).parts.length:Int) else 0):=by rw [hB2,Fy,LU];rfl
 have c1:(K2 j).parts=(K3 0).parts:=by rw [LV]
 have c2:(K2 j).cells=(K3 0).cells:=by rw [LV]
 have c3:(K2 j).n0=(K3 0).n0:=by rw [LV]
 have c4:(K2 j).n1=(K3 0).n1:=by rw [LV]
 have c5:(K2 j).bL=(K3 0).bL:=by rw [LV]
 have c6:0=cA 0:=Be.symm
 have c7:0=cB 0:=uB.symm
 have c8:0=qA 0:=aiE.symm
 have c9:0=qB 0:=XN.symm
 cbv
 refine Sat.cf (Cz 0 0) 15 8 [(.c 5 5,8)] (λi:Nat=>[(14,.ptr 14 0),(120,.i .i64 (λ_=>(i:Int)))])
  (λi=>[(4,.map kF bM (λ_=>(K3 i).bL)),(5,.fix 298 [.sl 3 dm (λ_=>ins),.sl 5 dD (λ_=>gs),.sl 3 dm (λ_=>outs),.sl 1 bM (λ_=>dr),.fc 3,.own 8,.own 9,.b (λ_=>(K3 i).n0),.b (λ_=>(K3 i).n1),.fc 4]),(8,.dyn 307 4 u4 (λ_=>(K3 i).parts)),(9,.dyn 302 2 my (λ_=>(K3 i).cells)),
   (14,.fix 304 [.i .i64 (λ_=>qA i),.i .i64 (λ_=>cA i),.i .i64 (λ_=>qB i),.i .i64 (λ_=>cB i)])])
  (λi=>i<=2) (λi=>2 - i) 0 (by exact ao) (by have ij:=c5;have kR:=c1;have lB:=c2;have et:=c1;have kH:=c2;have jJ:=c3;have mN:=c4;have om:=c6;have IE:=c7;have Yn:=c8;have Yo:=c9;exact bJ) (cN _) ?_
 intro i hi
 have hi:i<=2:=hi
 have h0:=n0 i
 have h1:=cq (i:=i) (by omega)
 cbv
 refine ⟨λh=>?_,λh=>?_⟩
 ·have bt:i < 2:=by have h':aU i 2=true:=h.out;simp only [aU,decide_eq_true_eq] at h';omega
  clear h
  rcases (show i=0\/i=1 by omega) with rfl|rfl
  ·cbv
   refine ⟨0,⟨rfl,by decide⟩,?_⟩
   cbv
   refine ⟨λh=>?_,λh=>?_⟩
   ·have hb:(K3 0).n0=true:=h.out
    have ef:=hb
    have jS:K3 1=(K3 0).add ⟨[],0,-1,-1⟩:=by rw [aiI,ef];rfl
    have e1:((K3 0).add ⟨[],0,-1,-1⟩).parts=(K3 1).parts:=by rw [jS]
    have e2:((K3 0).add ⟨[],0,-1,-1⟩).bL=(K3 1).bL:=by rw [jS]
    have e3:((K3 0).add ⟨[],0,-1,-1⟩).cells=(K3 1).cells:=by rw [jS]
    have e4:((K3 0).add ⟨[],0,-1,-1⟩).n0=(K3 1).n0:=by rw [jS]
    have e5:((K3 0).add ⟨[],0,-1,-1⟩).n1=(K3 1).n1:=by rw [jS]
    have d1:2=qA 1:=by rw [aiF,if_pos ef]
    have d2:((K3 0).parts.length:Int)=cA 1:=by rw [XP,if_pos ef]
    have d3:qB 0=qB 1:=by rw [XN,XO]
    have d4:cB 0=cB 1:=by rw [uB,IX]
    have F7:(K3 0).parts.length<=1000000:=Vw
    cbv
    refine bV.io Cd ⟨⟨⟨ins,gs,outs,dr⟩,w,K3 0⟩,⟨[],0,-1,-1⟩⟩ [5,3,8,9,4] rfl (by exact bQ) (by exact ao) ⟨F7⟩ λ_ _=>?_
    cbv
    refine ⟨0,⟨rfl,by decide⟩,?_⟩
    cbv
    exact ⟨1,by exact ao,by have ij:=e2;have kR:=e1;have lB:=e3;have et:=e1;have kH:=e3;have jJ:=e4;have mN:=e5;have bg:=d1;have lQ:=d2;have zH:=d3;have ID:=d4;have om:=d1;have IE:=d3;exact bJ,⟨⟨by decide,by decide⟩⟩⟩
   ·have hb:(K3 0).n0=false:=h.out
    have ef:=hb
    have jS:K3 1=K3 0:=by rw [aiI,ef];rfl
    have e1:(K3 0).parts=(K3 1).parts:=by rw [jS]
    have e2:(K3 0).bL=(K3 1).bL:=by rw [jS]
    have e3:(K3 0).cells=(K3 1).cells:=by rw [jS]
    have e4:(K3 0).n0=(K3 1).n0:=by rw [jS]
    have e5:(K3 0).n1=(K3 1).n1:=by rw [jS]
    have d1:qA 0=qA 1:=by rw [aiE,aiF,ef];rfl
    have d2:cA 0=cA 1:=by rw [Be,XP,ef];rfl
    have d3:qB 0=qB 1:=by rw [XN,XO]
    have d4:cB 0=cB 1:=by rw [uB,IX]
    cbv
    exact ⟨1,by exact ao,by have ij:=e2;have kR:=e1;have lB:=e3;have et:=e1;have kH:=e3;have jJ:=e4;have mN:=e5;have bg:=d1;have lQ:=d2;have zH:=d3;have ID:=d4;exact bJ,⟨⟨by decide,by decide⟩⟩⟩
  ·cbv
   refine ⟨1,⟨rfl,by decide⟩,?_⟩
   cbv
   refine ⟨λh=>?_,λh=>?_⟩
   ·have hb:(K3 1).n1=true:=h.out
    have ef:(K3 0).n1=true:=by rw [<-aiK];exact hb
    have jS:K3 2=(K3 1).add ⟨[],1,-1,-1⟩:=by rw [aiJ,ef];rfl
    have e1:((K3 1).add ⟨[],1,-1,-1⟩).parts=(K3 2).parts:=by rw [jS]
    have e2:((K3 1).add ⟨[],1,-1,-1⟩).bL=(K3 2).bL:=by rw [jS]
    have e3:((K3 1).add ⟨[],1,-1,-1⟩).cells=(K3 2).cells:=by rw [jS]
    have e4:((K3 1).add ⟨[],1,-1,-1⟩).n0=(K3 2).n0:=by rw [jS]
    have e5:((K3 1).add ⟨[],1,-1,-1⟩).n1=(K3 2).n1:=by rw [jS]
    have d1:qA 1=qA 2:=by rw [aiG]
    have d2:cA 1=cA 2:=by rw [R3]
    have d3:2=qB 2:=by rw [aiH,if_pos ef]
    have d4:((K3 1).parts.length:Int)=cB 2:=by rw [XQ,if_pos ef]
    have F7:(K3 1).parts.length<=1000000:=asK
    cbv
    refine bV.io Cd ⟨⟨⟨ins,gs,outs,dr⟩,w,K3 1⟩,⟨[],1,-1,-1⟩⟩ [5,3,8,9,4] rfl (by exact bQ) (by exact ao) ⟨F7⟩ λ_ _=>?_
    cbv
    refine ⟨1,⟨rfl,by decide⟩,?_⟩
    cbv
    exact ⟨2,by exact ao,by have ij:=e2;have kR:=e1;have lB:=e3;have et:=e1;have kH:=e3;have jJ:=e4;have mN:=e5;have bg:=d1;have lQ:=d2;have zH:=d3;have ID:=d4;have om:=d1;have IE:=d3;exact bJ,⟨⟨by decide,by decide⟩⟩⟩
   ·have hb:(K3 1).n1=false:=h.out
    have ef:(K3 0).n1=false:=by rw [<-aiK];exact hb
    have jS:K3 2=K3 1:=by rw [aiJ,ef];rfl
    have e1:(K3 1).parts=(K3 2).parts:=by rw [jS]
    have e2:(K3 1).bL=(K3 2).bL:=by rw [jS]
    have e3:(K3 1).cells=(K3 2).cells:=by rw [jS]
    have e4:(K3 1).n0=(K3 2).n0:=by rw [jS]
    have e5:(K3 1).n1=(K3 2).n1:=by rw [jS]
    have d1:qA 1=qA 2:=by rw [aiG]
    have d2:cA 1=cA 2:=by rw [R3]
    have d3:qB 1=qB 2:=by rw [XO,aiH,ef];rfl
    have d4:cB 1=cB 2:=by rw [IX,XQ,ef];rfl
    cbv
    exact ⟨2,by exact ao,by have ij:=e2;have kR:=e1;have lB:=e3;have et:=e1;have kH:=e3;have jJ:=e4;have mN:=e5;have bg:=d1;have lQ:=d2;have zH:=d3;have ID:=d4;exact bJ,⟨⟨by decide,by decide⟩⟩⟩
 have hi2:i=2:=by
  have h':aU i 2=false:=h.out
  have h2:¬(i:Int) < 2:=by simpa [aU] using h'
  omega
 subst hi2
 clear h h0 h1 hi
 obtain ⟨T,hT⟩:∃T:Nat->TH,∀i,T i=xf ⟨ins,gs,outs,dr⟩ ⟨mn,mc,md⟩ i:=⟨_,λ_=>rfl⟩
 have Gc:T 0=⟨K3 2,[],λ_=>none⟩:=by rw [hT,aiD];rfl
 have f1:(K3 2).parts=(T 0).k.parts:=by rw [Gc]
 have f2:(K3 2).bL=(T 0).k.bL:=by rw [Gc]
 have f3:(K3 2).cells=(T 0).k.cells:=by rw [Gc]
 have f4:(K3 2).n0=(T 0).k.n0:=by rw [Gc]
 have f5:(K3 2).n1=(T 0).k.n1:=by rw [Gc]
 have f6:[]=(T 0).ay:=by rw [Gc]
 have f7:(λ_=>none)=(T 0).thr:=by rw [Gc]
 cbv
 refine Sat.Cv 16 302 2 Oq yH rfl ?_
 cbv
 refine Sat.cf (Cz 0 0) 17 8 [(.c 5 5,8),(.t 16,16)] (λi:Nat=>[(14,.ptr 14 0),(16,.own 16),(17,.fc 15),(138,.sl 3 dm (λ_=>outs)),(139,.i .i64 (λ_=>(outs.length:Int))),(140,.i .i64 (λ_=>(i:Int)))])
  (λi=>[(4,.map kF bM (λ_=>(T i).k.bL)),(5,.fix 298 [.sl 3 dm (λ_=>ins),.sl 5 dD (λ_=>gs),.sl 3 dm (λ_=>outs),.sl 1 bM (λ_=>dr),.fc 3,.own 8,.own 9,.b (λ_=>(T i).k.n0),.b (λ_=>(T i).k.n1),.fc 4]),(8,.dyn 307 4 u4 (λ_=>(T i).k.parts)),(9,.dyn 302 2 my (λ_=>(T i).k.cells)),
   (15,.map kS asJ (λ_=>(T i).thr)),(16,.dyn 302 2 my (λ_=>(T i).ay))])
  (λi=>i<=outs.length) (λi=>outs.length - i) 0 (by exact ao) (by have ij:=f2;have zI:=f7;have kR:=f1;have lB:=f3;have uz:=f6;have et:=f1;have kH:=f3;have oU:=f6;have jJ:=f4;have mN:=f5;exact bJ) (cN _) ?_
 intro i hi
 have hi:i<=outs.length:=hi
 have h0:=n0 i
 have h1:=cq (i:=i) (by omega)
 cbv
 refine ⟨λh=>?_,λh=>?_⟩
 ·have bt:i < outs.length:=bI
  have bh:outs.length - (i+1) < outs.length - i:=by omega
  refine (bD bt).elim λx ku=>?_
  refine (bD (l:=md) (i:=i) (by omega)).elim λd q9=>?_
  have hk:=agp j6 hm i
  rw [<-hT] at hk
  have qc:(T i).k.cells.length=mc.length:=hk.ok.nc
  have nw:0<=d/\d < 2+(ins.length:Int)+(mc.length:Int):=hm.ay d (cb q9)
  have cJ:T (i+1)=nJ ins (T i) (x,d):=by rw [hT (i+1),apF ku q9,<-hT]
  have nr:HE ⟨⟨⟨ins,gs,outs,dr⟩,w,(T i).k⟩,d⟩:=⟨j6,qp,nw.1,by show d < 2+(ins.length:Int)+((T i).k.cells.length:Int);rw [qc];exact nw.2,by show (T i).k.cells.length<=1000000;omega⟩
  have F7:(T i).k.parts.length<=1000000:=by have:=hk.dK;omega
  have aBH:(T i).ay.length<=100000:=by have h':(T i).ay.length<=outs.length:=hk.dl;omega
  have eb:((T i).ay.length+1)*16<=140737488355328:=by omega
  have nj:(T i).ay.length+1<=9223372036854775807:=by omega
  cbv
  refine ⟨x,⟨h0,ku⟩,?_⟩
  cbv
  refine ⟨λh=>?_,λh=>?_⟩
  ·have eT:x.kind=1:=bI
   have wj:T i=T (i+1):=by rw [cJ];unfold nJ;simp only;rw [if_pos eT]
   have e1:(T i).k.parts=(T (i+1)).k.parts:=by rw [<-wj]
   have e2:(T i).k.bL=(T (i+1)).k.bL:=by rw [<-wj]
   have e3:(T i).k.cells=(T (i+1)).k.cells:=by rw [<-wj]
   have e4:(T i).k.n0=(T (i+1)).k.n0:=by rw [<-wj]
   have e5:(T i).k.n1=(T (i+1)).k.n1:=by rw [<-wj]
   have e6:(T i).ay=(T (i+1)).ay:=by rw [<-wj]
   have e7:(T i).thr=(T (i+1)).thr:=by rw [<-wj]
   cbv
   exact ⟨i+1,by exact ao,by have ij:=e2;have zI:=e7;have kR:=e1;have lB:=e3;have uz:=e6;have et:=e1;have kH:=e3;have oU:=e6;have jJ:=e4;have mN:=e5;exact bJ,⟨⟨bt,bh⟩⟩⟩
  ·have eT:x.kind≠1:=bI
   obtain ⟨s,hs⟩:∃s,qN ins (T i).k.cells d=s:=⟨_,rfl⟩
   have Zl:gP ins (T i).k.cells d=s:=by rw [<-OI];exact hs
   cbv
   refine ⟨d,⟨h0,q9⟩,?_⟩
   cbv
   refine ⟨⟨⟨⟨ins,gs,outs,dr⟩,w,(T i).k⟩,d⟩,⟨.inl ⟨by exact bQ,rfl⟩,nr⟩,?_⟩
   cbv
   refine ⟨λh=>?_,λh=>?_⟩
   ·have gA:s.kind=0:=by have h':aV (qN ins (T i).k.cells d).kind 0=true:=h.out;rw [hs] at h';simpa [aV] using h'
    have s1:(qN ins (T i).k.cells d).kind=s.kind:=by rw [hs]
    have s2:(qN ins (T i).k.cells d).n=s.n:=by rw [hs]
    rcases Dr:(T i).thr (A0 s) with _|u
    ·have XR:(T i).thr [(qN ins (T i).k.cells d).kind,(qN ins (T i).k.cells d).n]=none:=by rw [hs];exact Dr
     obtain ⟨z,hz⟩:∃z:Int,((T i).k.parts.length:Int)=z:=⟨_,rfl⟩
     have bX:T (i+1)=⟨(T i).k.add ⟨[s],2,-1,-1⟩,(T i).ay++[(T i).k.here],λj=>if j=A0 s then some (T i).k.here else (T i).thr j⟩:=by rw [cJ];unfold nJ;simp only;rw [if_neg eT,Zl,if_pos gA,Dr]
     have e1:((T i).k.add ⟨[s],2,-1,-1⟩).parts=(T (i+1)).k.parts:=by rw [bX]
     have e2:((T i).k.add ⟨[s],2,-1,-1⟩).bL=(T (i+1)).k.bL:=by rw [bX]
     have e3:((T i).k.add ⟨[s],2,-1,-1⟩).cells=(T (i+1)).k.cells:=by rw [bX]
     have e4:((T i).k.add ⟨[s],2,-1,-1⟩).n0=(T (i+1)).k.n0:=by rw [bX]
     have e5:((T i).k.add ⟨[s],2,-1,-1⟩).n1=(T (i+1)).k.n1:=by rw [bX]
     have e6:(T i).ay++[⟨2,z⟩]=(T (i+1)).ay:=by rw [bX,<-hz];rfl
     have e7:(λj=>if j=[(qN ins (T i).k.cells d).kind,(qN ins (T i).k.cells d).n] then some (⟨2,z⟩:Source) else (T i).thr j)=(T (i+1)).thr:=by rw [bX,hs,<-hz];rfl
     clear bX
     cbv
     refine ⟨some none,⟨XR⟩,?_⟩
     cbv
     refine bV.io Cd ⟨⟨⟨ins,gs,outs,dr⟩,w,(T i).k⟩,⟨[s],2,-1,-1⟩⟩ [5,3,8,9,4] rfl (by exact bQ) (by exact ao) ⟨F7⟩ λ_ _=>?_
     cbv
     refine ⟨⟨2,z⟩,⟨by have bg:=hz;exact cP⟩,?_⟩
     cbv
     refine ⟨[⟨2,z⟩],⟨by have bg:=hz;exact cP,eb,nj⟩,?_⟩
     cbv
     exact ⟨i+1,by exact ao,by have ij:=e2;have zI:=e7;have kR:=e1;have lB:=e3;have uz:=e6;have et:=e1;have kH:=e3;have oU:=e6;have jJ:=e4;have mN:=e5;exact bJ,⟨⟨bt,bh⟩⟩⟩
    ·have XR:(T i).thr [(qN ins (T i).k.cells d).kind,(qN ins (T i).k.cells d).n]=some u:=by rw [hs];exact Dr
     have bX:T (i+1)={ T i with ay:=(T i).ay++[u] }:=by rw [cJ];unfold nJ;simp only;rw [if_neg eT,Zl,if_pos gA,Dr]
     have e1:(T i).k.parts=(T (i+1)).k.parts:=by rw [bX]
     have e2:(T i).k.bL=(T (i+1)).k.bL:=by rw [bX]
     have e3:(T i).k.cells=(T (i+1)).k.cells:=by rw [bX]
     have e4:(T i).k.n0=(T (i+1)).k.n0:=by rw [bX]
     have e5:(T i).k.n1=(T (i+1)).k.n1:=by rw [bX]
     have e6:(T i).ay++[u]=(T (i+1)).ay:=by rw [bX]
     have e7:(T i).thr=(T (i+1)).thr:=by rw [bX]
     clear bX
     cbv
     refine ⟨some (some u),⟨XR⟩,?_⟩
     cbv
     refine ⟨[u],⟨by exact bQ,eb,nj⟩,?_⟩
     cbv
     exact ⟨i+1,by exact ao,by have ij:=e2;have zI:=e7;have kR:=e1;have lB:=e3;have uz:=e6;have et:=e1;have kH:=e3;have oU:=e6;have jJ:=e4;have mN:=e5;exact bJ,⟨⟨bt,bh⟩⟩⟩
   ·have gA:s.kind≠0:=by have h':aV (qN ins (T i).k.cells d).kind 0=false:=h.out;rw [hs] at h';simpa [aV] using h'
    have bX:T (i+1)={ T i with ay:=(T i).ay++[s] }:=by rw [cJ];unfold nJ;simp only;rw [if_neg eT,Zl,if_neg gA]
    have e1:(T i).k.parts=(T (i+1)).k.parts:=by rw [bX]
    have e2:(T i).k.bL=(T (i+1)).k.bL:=by rw [bX]
    have e3:(T i).k.cells=(T (i+1)).k.cells:=by rw [bX]
    have e4:(T i).k.n0=(T (i+1)).k.n0:=by rw [bX]
    have e5:(T i).k.n1=(T (i+1)).k.n1:=by rw [bX]
    have e6:(T i).ay++[s]=(T (i+1)).ay:=by rw [bX]
    have e7:(T i).thr=(T (i+1)).thr:=by rw [bX]
    have s1:(qN ins (T i).k.cells d).kind=s.kind:=by rw [hs]
    have s2:(qN ins (T i).k.cells d).n=s.n:=by rw [hs]
    clear bX
    cbv
    refine ⟨[s],⟨by exact bQ,eb,nj⟩,?_⟩
    cbv
    exact ⟨i+1,by exact ao,by have ij:=e2;have zI:=e7;have kR:=e1;have lB:=e3;have uz:=e6;have et:=e1;have kH:=e3;have oU:=e6;have jJ:=e4;have mN:=e5;exact bJ,⟨⟨bt,bh⟩⟩⟩
 have QM:i=outs.length:=by
  have h':aU i outs.length=false:=h.out
  have h2:¬(i:Int) < outs.length:=by simpa [aU] using h'
  omega
 clear h h0 h1 hi
 have hTi:T i=xf ⟨ins,gs,outs,dr⟩ ⟨mn,mc,md⟩ outs.length:=by rw [hT,QM]
 have Zm:=agp j6 hm outs.length
 rw [<-hTi] at Zm
 have AX:=acM j6 hm
 have R4:oH ⟨ins,gs,outs,dr⟩ ⟨mn,mc,md⟩=⟨cA 2,cB 2,T i⟩:=by rw [aov hm,hTi,R3,hA1,hB2]
 rw [R4] at AX
 obtain ⟨t,ht⟩:∃t,T i=t:=⟨_,rfl⟩
 rw [ht] at Zm AX R4
 obtain ⟨z0,vl⟩:∃z,cA 2=z:=⟨_,rfl⟩
 obtain ⟨z1,iS⟩:∃z,cB 2=z:=⟨_,rfl⟩
 rw [vl,iS] at R4 AX
 have t1:(T i).k.parts=t.k.parts:=by rw [ht]
 have t2:(T i).k.bL=t.k.bL:=by rw [ht]
 have t3:(T i).ay=t.ay:=by rw [ht]
 have ht6:t.k.parts.length<=600:=AX.len
 have e9:0<=((T i).k.parts.length:Int)/\56*((T i).k.parts.length:Int)<=281474976710656/\((T i).k.parts.length:Int)<=9223372036854775807:=by rw [ht];omega
 have aiL:0<=z0/\z0<=1000000:=by rw [<-vl,R3,XP];split<;>exact aT
 have aiM:0<=z1/\z1<=1000000:=by rw [<-iS,XQ];split<;>exact aT
 obtain ⟨N,hN⟩:∃N:Source->Int,x7 oi.length t.k.bL z0 z1=N:=⟨_,rfl⟩
 obtain ⟨B,hB⟩:∃B:Nat->List Block,∀k,B k=(t.k.parts.take k).map (λx=>⟨x.ins.map N,x.table,x.bR,x.aZ,0⟩):=⟨_,λ_=>rfl⟩
 have hBz:[]=B 0:=by rw [hB];rfl
 cbv
 refine ⟨⟨by decide,e9.1,e9.2.1,e9.2.2⟩,?_⟩
 cbv
 refine Sat.cf (Cz 0 0) 19 2 [(.t 5,18)] (λk:Nat=>[(5,.own 18),(11,.own 8),(12,.i .i64 (λ_=>(t.k.parts.length:Int))),(13,.i .i64 (λ_=>(k:Int)))])
  (λk=>[(4,.map kF bM (λ_=>t.k.bL)),(8,.dyn 307 4 u4 (λ_=>t.k.parts)),(14,.fix 304 [.i .i64 (λ_=>qA 2),.i .i64 (λ_=>z0),.i .i64 (λ_=>qB 2),.i .i64 (λ_=>z1)]),(16,.dyn 302 2 my (λ_=>t.ay)),(18,.dyn 76 5 ph (λ_=>B k))])
  (λk=>k<=t.k.parts.length) (λk=>t.k.parts.length - k) 0 (by ((try cbv)<;>(repeat' (first|with_reducible exact trivial|with_reducible refine And.intro ?_ ?_))<;>(try first|exact eQ.refl _|exact eQ.dyn rfl|exact eQ.map rfl|exact eQ.iter rfl rfl (.inl rfl)|exact eQ.iter rfl rfl (.inr rfl)|refine eQ.fix ?_|refine eQ.dyn ?_)<;>((repeat' first|exact dR.nil|exact Le.refl _|refine dR.cons ?_ ?_|exact Le.ic rfl|exact Le.bc rfl|exact Le.i rfl|exact Le.b rfl|exact Le.sl rfl|exact Le.mp rfl|exact Le.iz rfl|exact Le.si rfl|refine Le.dg rfl (λ_=>?_)|refine Le.eK rfl (λ_ _=>rfl) (λ_=>?_) ?_|refine Le.agg ?_|refine Le.dG ?_|refine Le.fn ?_ ?_|refine Le.dE ?_|exact trivial|refine And.intro ?_ ?_|refine λ_=>?_|exact Le.any _)))<;>first|(refine Le.i ?_;show ((T i).k.parts.length:Int)=t.k.parts.length;rw [ht])) (by have ij:=t2;have kR:=t1;have lB:=t3;have uz:=hBz;have et:=t1;have kH:=t3;have oU:=hBz;have bg:=vl;have lQ:=iS;exact bJ) (cN _) ?_
 intro k hk
 have hk:k<=t.k.parts.length:=hk
 have h0:=n0 k
 have h1:=cq (i:=k) (by omega)
 cbv
 refine ⟨λh=>?_,λh=>?_⟩
 ·have dq:k < t.k.parts.length:=bI
  have bh:t.k.parts.length - (k+1) < t.k.parts.length - k:=by omega
  refine (bD dq).elim λx hx=>?_
  have RU:0<=(k:Int)/\(k:Int).toNat < t.k.parts.length:=⟨h0,by omega⟩
  have yx:B k++[⟨x.ins.map N,x.table,x.bR,x.aZ,0⟩]=B (k+1):=by rw [hB,hB,Eu hx];simp
  have dP:(B k).length=k:=by rw [hB,qJ,lJ];omega
  have eb:((B k).length+1)*56<=140737488355328:=by omega
  have nj:(B k).length+1<=9223372036854775807:=by omega
  have zK:x.ins.map (x7 oi.length t.k.bL z0 z1)=x.ins.map N:=by rw [hN]
  have RQ:=AX.k.src k x hx
  have Y8:QX ⟨x.ins,oi,t.k.bL,z0,z1⟩:=⟨by have:=RQ.1.k;show x.ins.length<=1000000;omega,λs hs=>by rw [pC];exact agI (np:=k) AX (by omega) (RQ.2 s hs) (by show ins.length<=600;omega) aiL aiM⟩
  cbv
  refine ⟨⟨RU⟩,x,⟨hx,rfl⟩,?_⟩
  cbv
  refine ⟨⟨x.ins,oi,t.k.bL,z0,z1⟩,⟨.inl ⟨by exact bQ,rfl⟩,Y8⟩,?_⟩
  cbv
  refine ⟨[⟨x.ins.map N,x.table,x.bR,x.aZ,0⟩],⟨by exact bQ,eb,nj⟩,?_⟩
  cbv
  exact ⟨k+1,by exact ao,by have et:=yx;exact bJ,⟨⟨dq,bh⟩⟩⟩
 have avo:k=t.k.parts.length:=by
  have h':aU k t.k.parts.length=false:=h.out
  have h2:¬(k:Int) < t.k.parts.length:=by simpa [aU] using h'
  omega
 clear h h0 h1 hk
 obtain ⟨Q0,RO⟩:∃Q,B k=Q:=⟨_,rfl⟩
 obtain ⟨DD,hDD⟩:∃D,t.ay.map (x7 oi.length t.k.bL z0 z1)=D:=⟨_,rfl⟩
 obtain ⟨oj,Zn⟩:∃o,Oo j=o:=⟨_,rfl⟩
 have aiN:l9 ⟨ins,gs,outs,dr⟩ ⟨mn,mc,md⟩=⟨oi,Q0,oj,DD⟩:=by
  rw [<-RO,hB,avo,lK,<-hN,<-hDD,<-Zn,Gb,uh,lK,pC]
  unfold l9
  rw [R4]
  rfl
 have Iv:=adZ j6 hm
 rw [aiN] at Iv
 have rh:Fw ⟨oi,Q0,oj,DD⟩:=⟨Iv.1,⟨_,Iv.2⟩,by show oi.length<=1000000;rw [pC];have:(others ins).length<=ins.length:=Am _ _;omega⟩
 have avp:QX ⟨t.ay,oi,t.k.bL,z0,z1⟩:=⟨by have h':t.ay.length<=outs.length:=Zm.dl;show t.ay.length<=1000000;omega,λs hs=>by rw [pC];exact agI AX AX.len (AX.zN s hs).2.1 (by show ins.length<=600;omega) aiL aiM⟩
 obtain ⟨KS,MH⟩:∃K,pq ⟨oi,Q0,oj,DD⟩=K:=⟨_,rfl⟩
 have aBI:KS.length=Q0.length:=by rw [<-MH,anq]
 have hQ6:Q0.length<=600:=Iv.1.dK
 obtain ⟨Q,hQ⟩:∃Q:Nat->List Block,∀k,Q k=vh KS Q0 k:=⟨_,λ_=>rfl⟩
 have hQz:B k=Q 0:=by rw [hQ,RO];exact anC _ _
 cbv
 refine ⟨⟨t.ay,oi,t.k.bL,z0,z1⟩,⟨.inl ⟨by exact bQ,rfl⟩,avp⟩,?_⟩
 cbv
 refine ⟨⟨oi,Q0,oj,DD⟩,⟨.inl ⟨by exact bQ,rfl⟩,rh⟩,?_⟩
 cbv
 have hKl:((pq ⟨oi,Q0,oj,DD⟩).length:Int)=KS.length:=by rw [MH]
 refine Sat.cf (Cz 0 0) 19 24 [] (λk:Nat=>[(193,.sl 1 mE (λ_=>KS)),(194,.i .i64 (λ_=>(KS.length:Int))),(195,.i .i64 (λ_=>(k:Int)))])
  (λk=>[(12,.dyn 133 3 dm (λ_=>oj)),(18,.dyn 76 5 ph (λ_=>Q k))])
  (λk=>k<=KS.length) (λk=>KS.length - k) 0 (by have dJ:=MH;have bg:=hKl;exact bJ) (by have kR:=hQz;have lB:=Zn;have et:=hQz;have kH:=Zn;exact bJ) (cN _) ?_
 intro k hk
 have hk:k<=KS.length:=hk
 have h0:=n0 k
 have h1:=cq (i:=k) (by omega)
 cbv
 refine ⟨λh=>?_,λh=>?_⟩
 ·have dq:k < KS.length:=bI
  have bh:KS.length - (k+1) < KS.length - k:=by omega
  refine (bD dq).elim λv hv=>?_
  refine (bD (l:=Q0) (i:=k) (by omega)).elim λx hx=>?_
  have hqi:0<=(k:Int)/\(k:Int).toNat < (Q k).length:=⟨h0,by rw [hQ,ac1];omega⟩
  have hqx:(Q k)[k]?=some x:=by rw [hQ];exact apN hx
  have hqn:(Q k).set ((k:Int)).toNat ⟨x.ins,x.table,x.bR,x.aZ,v⟩=Q (k+1):=by rw [hQ,hQ];exact anD hx hv
  cbv
  refine ⟨v,⟨h0,hv⟩,?_⟩
  cbv
  refine ⟨⟨hqi⟩,?_⟩
  cbv
  refine ⟨(x,⟨x.ins,x.table,x.bR,x.aZ,v⟩),⟨hqx,rfl,by exact bQ⟩,?_⟩
  cbv
  exact ⟨k+1,by exact ao,by have et:=hqn;exact bJ,⟨⟨dq,bh⟩⟩⟩
 have aBJ:k=KS.length:=by
  have h':aU k KS.length=false:=h.out
  have h2:¬(k:Int) < KS.length:=by simpa [aU] using h'
  omega
 have I7:R=(⟨oi,Q k,oj,DD⟩,0):=by
  rw [<-hR,hQ,aoG (by omega)]
  unfold qM
  rw [aiN,MH]
  rfl
 have r1:oi=R.1.ins:=by rw [I7]
 have r2:Q k=R.1.blocks:=by rw [I7]
 have r3:oj=R.1.outs:=by rw [I7]
 have r4:t.ay.map (x7 oi.length t.k.bL z0 z1)=R.1.ay:=by rw [I7,hDD]
 have r5:0=R.2:=by rw [I7]
 clear I7 h h0 h1 hk
 cbv
 exact ⟨by have dJ:=r1;have rU:=r2;have Da:=r3;have Db:=r4;have om:=r5;exact dx⟩
end Go.Proofs.Pk
