import Derived.Test.YthnhbemmlfaihaaGreatT19
import Derived.Test.YthnhbemmlfaihaaGreatT37
import Derived.Test.YthnhbemmlfaihaaGreatT39
import Derived.Test.YthnhbemmlfaihaaGreatT40
set_option linter.unusedVariables false
set_option linter.unusedSimpArgs false
set_option maxRecDepth 10000
set_option maxHeartbeats 64000000
namespace Go.Proofs.Pk
open Go Go.Vc
theorem aej:∃f:List bT->List Source->Int->Source,f=gH:=⟨_,rfl⟩
noncomputable def qt:List bT->List Source->Int->Source:=Classical.choose aej
theorem NS:qt=gH:=w_ aej
@[reducible] noncomputable def OL:Vc.Spec where
 α:=WA
 args y:=[.dC (Yg y.x) 0,.i .i64 (λ_=>y.sig)]
 pre y:=Hj y
 res y:=.agg [.i .i64 (λ_=>(qt y.x.n.ins y.x.k.cells y.sig).kind),.i .i64 (λ_=>(qt y.x.n.ins y.x.k.cells y.sig).n)]
theorem anL:cS (PP ()) 167 OL:=by
 have h:OL=Kt:=by unfold OL Kt;rw [NS]
 rw [h];exact T7
structure CK (y:tO):Prop where
 pb:WW y
 map:(y.n.ins.length:Int)=y.m.n->y.n.outs.length=y.m.ay.length->jz y.n y.m
open Classical in
noncomputable def tE (y:tO):bq × Int:=if (y.n.ins.length:Int)=y.m.n/\y.n.outs.length=y.m.ay.length then (rR y.n y.m,0) else (⟨[],[],[],[]⟩,270)
theorem aek:∃f:tO->bq × Int,f=tE:=⟨_,rfl⟩
noncomputable def gM:tO->bq × Int:=Classical.choose aek
theorem yz:gM=tE:=w_ aek
@[reducible] noncomputable def Ku:Vc.Spec where
 α:=tO
 args y:=[.agg [.sl 3 dc (λ_=>y.n.ins),.sl 5 dB (λ_=>y.n.gG),.sl 3 dc (λ_=>y.n.outs),.sl 1 bJ (λ_=>y.n.ay)],.agg [.i .i64 (λ_=>y.m.n),.sl 3 rf (λ_=>y.m.cells),.sl 1 bJ (λ_=>y.m.ay)]]
 pre y:=CK y
 res y:=.dE [.agg (fq (gM y).1),.i .i64 (λ_=>(gM y).2)]
theorem afM {n:Net} {nc:Nat} {d:KL} (hd:Ux n nc d) {np:Nat} (hnp:np<=600) {s:Source} (hs:pN n.ins np s) (hi:n.ins.length<=600) (h0:0<=d.c0/\d.c0<=1000000) (h1:0<=d.c1/\d.c1<=1000000):Lb ⟨s,others n.ins,d.t.k.bK,d.c0,d.c1⟩:=by
 have hl:(others n.ins).length<=n.ins.length:=zZ _ _
 have hlen:=hd.len
 refine ⟨by show (others n.ins).length<=1000000;omega,λh=>?_,λh=>?_,λh=>?_,h0,h1⟩
 ·have h:s.kind=1:=h
  rcases hs with g|g|g|g
  ·have:=g.1;omega
  ·obtain ⟨w,hw,hk,hc⟩:=g.2
   have cZ:=hd.bK w hw hk
   rw [<-hc] at cZ
   show ∃v,d.t.k.bK s.n=some v/\0<=v/\v<=1000000
   cases hv:d.t.k.bK s.n with
   | none=>exact absurd hv cZ
   | some v =>
    obtain ⟨b,hb,x,hx,_⟩:=hd.k.back _ _ hv
    have:=(bX.1 hx).1
    exact ⟨v,rfl,by omega,by omega⟩
  ·have:=g.1;omega
  ·have:=g.1;omega
 ·have h:s.kind=2:=h
  rcases hs with g|g|g|g
  ·have:=g.1;omega
  ·have:=g.1;omega
  ·exact ⟨g.2.1,by have:=g.2.2;show s.n<=1000000;omega⟩
  ·have:=g.1;omega
 ·have h:s.kind=3:=h
  rcases hs with g|g|g|g
  ·have:=g.1;omega
  ·have:=g.1;omega
  ·have:=g.1;omega
  ·exact g.2
def uT (ks:List Int) (l:List Block) (k:Nat):List Block:=l.mapIdx (λi x=>if i < k then HK ks i x else x)
theorem amG (ks:List Int) (l:List Block):l=uT ks l 0:=by
 unfold uT
 refine nL λi=>?_
 rw [z9]
 simp
theorem aca (ks:List Int) (l:List Block) (k:Nat):(uT ks l k).length=l.length:=by simp [uT]
theorem aoR {ks:List Int} {l:List Block} {k:Nat} {x:Block} (h:l[k]?=some x):(uT ks l k)[k]?=some x:=by
 unfold uT
 rw [z9,h]
 simp
theorem amH {ks:List Int} {l:List Block} {k:Nat} {x:Block} {v:Int} (h:l[k]?=some x) (hv:ks[k]?=some v):(uT ks l k).set k ⟨x.ins,x.table,x.bZ,x.bf,v⟩=uT ks l (k+1):=by
 refine nL λi=>?_
 have aR:=(bX.1 h).1
 rw [iT]
 split
 ·rename_i e;subst e
  rw [aca,if_pos aR]
  unfold uT
  rw [z9,h]
  simp only [yv,Nj,if_true]
  unfold HK
  rw [gW,hv]
  rfl
 ·rename_i e
  unfold uT
  rw [z9,z9]
  cases l[i]? with
  | none=>rfl
  | some y =>
   simp only [yv]
   by_cases h1:i < k
   ·rw [if_pos h1,if_pos (by omega)]
   ·rw [if_neg h1,if_neg (by omega)]
theorem anM {ks:List Int} {l:List Block} {k:Nat} (h:l.length<=k):uT ks l k=l.mapIdx (HK ks):=by
 unfold uT
 refine nL λi=>?_
 rw [z9,z9]
 cases hi:l[i]? with
 | none=>rfl
 | some y =>
  have:=(bX.1 hi).1
  simp only [yv]
  rw [if_pos (by omega)]
@[reducible] def kS:KD:=.ints [.i64,.i64]
def arF (x:Source):List SV:=[.agg (l7 x)]
noncomputable def cPa (n m:Nat):Ctx:=eB n m [(170,Tryz.f170),(171,Tryz.f171),(165,Tryz.f165),(166,Tryz.f166),(168,Tryz.f168)] [(164,SZ),(167,OL),(26,Pn),(172,aeb)] [165,166,168] [170]
theorem Ch (n m:Nat):CB PP (cPa n m):=eD n m ⟨fo Tryz.func170,fo Tryz.func171,fo Tryz.func165,fo Tryz.func166,fo Tryz.func168,trivial⟩ ⟨alu,anL,T_,anD,trivial⟩
theorem Ua:cS (PP ()) 74 Ku:=by
 refine dP (Ch 0 0) (fo Tryz.func74) (λa=>⟨⟨(λx=>(gL x).1),(λx=>(eK x).1),(λx=>(gL x).1),(λx=>(cM x).1),trivial⟩,⟨trivial,(λx=>(Af x).1),(λx=>(cM x).1),trivial⟩,trivial⟩) (λa=>⟨km _,trivial,trivial⟩) ?_
 rintro ⟨⟨ins,gs,outs,dr⟩,⟨mn,mc,md⟩⟩ hx
 have hx:CK ⟨⟨ins,gs,outs,dr⟩,⟨mn,mc,md⟩⟩:=hx
 have Q8:=hx.pb
 have jS:eQ ⟨ins,gs,outs,dr⟩:=Q8.Bg
 have v5:2+ins.length+gs.length<=600:=jS.pf
 obtain ⟨R,hR⟩:∃R,tE ⟨⟨ins,gs,outs,dr⟩,⟨mn,mc,md⟩⟩=R:=⟨_,rfl⟩
 have j9:Ku.res ⟨⟨ins,gs,outs,dr⟩,⟨mn,mc,md⟩⟩=.dE [.agg (fq R.1),.i .i64 (λ_=>R.2)]:=by rw [<-hR,<-yz]
 rw [j9]
 unfold tE at hR
 simp only at hR
 refine ⟨?_⟩
 cbv
 refine ⟨⟨⟨ins,gs,outs,dr⟩,⟨mn,mc,md⟩⟩,⟨by exact bP,Q8⟩,?_⟩
 cbv
 refine ⟨λh=>?_,λh=>?_⟩
 ·have et:¬((ins.length:Int)=mn/\outs.length=md.length):=by
   have h':(!(aV (ins.length:Int) mn&&aV (outs.length:Int) (md.length:Int)))=true:=h.out
   rintro ⟨e1,e2⟩
   rw [e1,e2] at h'
   simp [aV] at h'
  rw [if_neg et] at hR
  subst hR
  cbv
  exact ⟨by exact aJ⟩
 have y_:(ins.length:Int)=mn/\outs.length=md.length:=by
  have h':(!(aV (ins.length:Int) mn&&aV (outs.length:Int) (md.length:Int)))=false:=h.out
  simp only [aV,DS,ei,beq_iff_eq] at h'
  exact ⟨h'.1,by exact aU⟩
 clear h
 rw [if_pos y_] at hR
 have hm:jz ⟨ins,gs,outs,dr⟩ ⟨mn,mc,md⟩:=hx.map y_.1 y_.2
 have fO:outs.length=md.length:=y_.2
 clear y_ hx
 have hmc:mc.length<=gs.length:=hm.dH
 have L_:outs.length<=100000:=Q8.outs
 obtain ⟨W,hW⟩:∃W:Nat->List Int->Option Int,∀i,W i=AR ins i:=⟨_,λ_=>rfl⟩
 obtain ⟨O,hO⟩:∃O:Nat->List bT,∀i,O i=others (ins.take i):=⟨_,λ_=>rfl⟩
 have Q6:(λ_=>none)=W 0:=by rw [hW];rfl
 have Yt:[]=O 0:=by rw [hO];rfl
 cbv
 refine Sat.iz 5 5 307 4 acL NJ rfl rfl ?_
 cbv
 refine Sat.iz 5 6 302 2 NA yr rfl rfl ?_
 cbv
 refine Sat.iz 7 0 133 3 GN gL rfl rfl ?_
 cbv
 refine Sat.iz 7 1 76 5 abM Jj rfl rfl ?_
 cbv
 refine Sat.iz 7 2 133 3 GN gL rfl rfl ?_
 cbv
 refine Sat.iz 7 3 3 1 nN cM rfl rfl ?_
 cbv
 refine Sat.ca (Ch 0 0) 14 8 [(.c 7 0,10)] (λi:Nat=>[(37,.sl 3 dc (λ_=>ins)),(38,.i .i64 (λ_=>(ins.length:Int))),(39,.i .i64 (λ_=>(i:Int)))]) (λi=>[(3,.map kW bJ (λ_=>W i)),(10,.dyn 133 3 dc (λ_=>O i))]) (λi=>i<=ins.length) (λi=>ins.length - i) 0 (by exact ao) (by have g_:=Q6;have dM:=Yt;have jW:=Yt;exact bH) (cJ _) ?_
 intro i hi
 have hi:i<=ins.length:=hi
 have h0:=n0 i
 have h1:=cd (i:=i) (by omega)
 cbv
 refine ⟨λh=>?_,λh=>?_⟩
 ·have bp:i < ins.length:=bE
  have a7:ins.length - (i+1) < ins.length - i:=by omega
  refine (bz bp).elim λw hw=>?_
  have tN:=λhk=>ac9 hw hk
  have bw:=λhk=>ac_ hw hk
  obtain ⟨v,hv⟩:∃v:Int,((O i).length:Int)=v:=⟨_,rfl⟩
  have gd:(O i).length<=600:=by rw [hO];have:(others (ins.take i)).length<=(ins.take i).length:=zZ _ _;rw [lu] at this;omega
  have dY:((O i).length+1)*24<=140737488355328:=by omega
  have mT:(O i).length+1<=9223372036854775807:=by omega
  cbv
  refine ⟨w,⟨h0,hw⟩,?_⟩
  cbv
  refine ⟨λh=>?_,λh=>?_⟩
  ·have hk:w.kind≠1:=by have h':(!aV w.kind 1)=true:=h.out;simpa [aV] using h'
   have Yu:(λj=>if j=gw w then some v else W i j)=W (i+1):=by rw [hW (i+1),(bw hk).1,<-hv,hO,hW]
   have Yv:O i++[w]=O (i+1):=by rw [hO (i+1),(bw hk).2,<-hO]
   cbv
   refine ⟨v,⟨by have bj:=hv;exact cN⟩,?_⟩
   cbv
   refine ⟨[w],⟨by exact bP,dY,mT⟩,?_⟩
   cbv
   exact ⟨i+1,by exact ao,by have g_:=Yu;have dM:=Yv;exact bH,⟨⟨bp,a7⟩⟩⟩
  ·have hk:w.kind=1:=by have h':(!aV w.kind 1)=false:=h.out;simpa [aV] using h'
   have Yu:W i=W (i+1):=by rw [hW (i+1),(tN hk).1,<-hW]
   have Yv:O i=O (i+1):=by rw [hO (i+1),(tN hk).2,<-hO]
   cbv
   exact ⟨i+1,by exact ao,by have g_:=Yu;have dM:=Yv;exact bH,⟨⟨bp,a7⟩⟩⟩
 have bR:i=ins.length:=by
  have h':aS i ins.length=false:=h.out
  have h2:¬(i:Int) < ins.length:=by simpa [aS] using h'
  omega
 obtain ⟨w,hw⟩:∃w,W i=w:=⟨_,rfl⟩
 have pZ:w=vJ ins:=by rw [<-hw,bR,hW,aoK]
 obtain ⟨oi,wJ⟩:∃o,O i=o:=⟨_,rfl⟩
 have nz:oi=others ins:=by rw [<-wJ,bR,hO,kh]
 clear h h0 h1 hi Q6 Yt
 obtain ⟨K1,p9⟩:∃K:Nat->PK,∀i,K i=wK ⟨ins,gs,outs,dr⟩ ⟨mn,mc,md⟩ i:=⟨_,λ_=>rfl⟩
 have Lg:K1 0=⟨[],[],false,false,λ_=>none⟩:=by rw [p9];rfl
 have a1:[]=(K1 0).parts:=by rw [Lg]
 have a2:[]=(K1 0).cells:=by rw [Lg]
 have a3:false=(K1 0).n0:=by rw [Lg]
 have a4:false=(K1 0).n1:=by rw [Lg]
 have a5:(λ_=>none)=(K1 0).bK:=by rw [Lg]
 cbv
 refine Sat.ca (Ch 0 0) 14 8 [(.c 5 5,8),(.c 5 6,9)] (λi:Nat=>[(62,.sl 3 rf (λ_=>mc)),(63,.i .i64 (λ_=>(mc.length:Int))),(64,.i .i64 (λ_=>(i:Int)))])
  (λi=>[(3,.map kW bJ (λ_=>w)),(4,.map kF bJ (λ_=>(K1 i).bK)),(5,.fix 298 [.sl 3 dc (λ_=>ins),.sl 5 dB (λ_=>gs),.sl 3 dc (λ_=>outs),.sl 1 bJ (λ_=>dr),.eV 3,.own 8,.own 9,.b (λ_=>(K1 i).n0),.b (λ_=>(K1 i).n1),.eV 4]),(8,.dyn 307 4 uJ (λ_=>(K1 i).parts)),(9,.dyn 302 2 l7 (λ_=>(K1 i).cells)),(10,.dyn 133 3 dc (λ_=>oi))])
  (λi=>i<=mc.length) (λi=>mc.length - i) 0 (by exact ao) (by have g_:=hw;have zm:=a5;have jW:=wJ;have k_:=a1;have tY:=a2;have dM:=wJ;have kq:=a1;have oF:=a2;have Ia:=a3;have XF:=a4;exact bH) (cJ _) ?_
 intro i hi
 have hi:i<=mc.length:=hi
 have h0:=n0 i
 have h1:=cd (i:=i) (by omega)
 cbv
 refine ⟨λh=>?_,λh=>?_⟩
 ·have bp:i < mc.length:=bE
  have a7:mc.length - (i+1) < mc.length - i:=by omega
  refine (bz bp).elim λc hc=>?_
  have hk:=afr jS hm (i:=i) (by exact hi)
  rw [<-p9] at hk
  have CT:=hm.cells i c hc
  have pQ:(K1 i).cells.length=i:=hk.ok.nc
  have hce:WE ⟨⟨⟨ins,gs,outs,dr⟩,w,K1 i⟩,c⟩:=⟨jS,pZ,by have:=hk.dH;show (K1 i).parts.length<=100000;omega,by show (K1 i).cells.length<=100000;omega,by
   show c.ins.length<=100000;rcases CT.u6 with h|h<;>omega,λg hg=>by
    have:=CT.ins g hg
    show 0<=g/\g < 2+(ins.length:Int)+((K1 i).cells.length:Int)
    have:0<=g/\g < 2+(ins.length:Int)+(i:Int):=this
    omega,λx hx=>by
    obtain ⟨b,hb⟩:=na hx
    have:=(hk.ok.src b x hb).1.k;omega,λg hg h3=>by
    have we:=CT.ins g hg
    have:=ap1 (m:=⟨mn,mc,md⟩) hk.ok we.1 we.2
    have h3:(gH ins (K1 i).cells g).kind=3:=h3
    have this:pN ins (K1 i).parts.length (gH ins (K1 i).cells g):=this
    rcases this with h|h|h|h
    ·have:=h.1;omega
    ·have:=h.1;omega
    ·have:=h.1;omega
    ·exact h.2⟩
  have cG:ji ins (K1 i) c=K1 (i+1):=by rw [p9 (i+1),aoH hc,<-p9]
  have e1:(ji ins (K1 i) c).parts=(K1 (i+1)).parts:=by rw [cG]
  have e2:(ji ins (K1 i) c).bK=(K1 (i+1)).bK:=by rw [cG]
  have e3:(ji ins (K1 i) c).cells=(K1 (i+1)).cells:=by rw [cG]
  have e4:(ji ins (K1 i) c).n0=(K1 (i+1)).n0:=by rw [cG]
  have e5:(ji ins (K1 i) c).n1=(K1 (i+1)).n1:=by rw [cG]
  cbv
  refine ⟨c,⟨h0,hc⟩,?_⟩
  cbv
  refine bU.io anA ⟨⟨⟨ins,gs,outs,dr⟩,w,K1 i⟩,c⟩ [5,3,8,9,4] rfl (by exact bP) (by exact ao) ⟨hce⟩ λ_ _=>?_
  cbv
  exact ⟨i+1,by exact ao,by have g_:=e2;have jW:=e1;have k_:=e3;have dM:=e1;have kq:=e3;have jN:=e4;have mB:=e5;exact bH,⟨⟨bp,a7⟩⟩⟩
 have bR:i=mc.length:=by
  have h':aS i mc.length=false:=h.out
  have h2:¬(i:Int) < mc.length:=by simpa [aS] using h'
  omega
 clear h h0 h1 hi
 obtain ⟨K2,Mi⟩:∃K:Nat->PK,∀i,K i=wL ⟨ins,gs,outs,dr⟩ ⟨mn,mc,md⟩ i:=⟨_,λ_=>rfl⟩
 obtain ⟨Oo,FR⟩:∃O:Nat->List bT,∀i,O i=others (outs.take i):=⟨_,λ_=>rfl⟩
 have Lh:K1 i=K2 0:=by rw [Mi,p9,bR];rfl
 have b1:(K1 i).parts=(K2 0).parts:=by rw [Lh]
 have b2:(K1 i).cells=(K2 0).cells:=by rw [Lh]
 have b3:(K1 i).n0=(K2 0).n0:=by rw [Lh]
 have b4:(K1 i).n1=(K2 0).n1:=by rw [Lh]
 have b5:(K1 i).bK=(K2 0).bK:=by rw [Lh]
 have b6:[]=Oo 0:=by rw [FR];rfl
 cbv
 refine Sat.ca (Ch 0 0) 14 8 [(.c 5 5,8),(.c 7 2,12)] (λi:Nat=>[(73,.sl 3 dc (λ_=>outs)),(74,.i .i64 (λ_=>(outs.length:Int))),(75,.i .i64 (λ_=>(i:Int)))])
  (λi=>[(4,.map kF bJ (λ_=>(K2 i).bK)),(5,.fix 298 [.sl 3 dc (λ_=>ins),.sl 5 dB (λ_=>gs),.sl 3 dc (λ_=>outs),.sl 1 bJ (λ_=>dr),.eV 3,.own 8,.own 9,.b (λ_=>(K2 i).n0),.b (λ_=>(K2 i).n1),.eV 4]),(8,.dyn 307 4 uJ (λ_=>(K2 i).parts)),(9,.dyn 302 2 l7 (λ_=>(K2 i).cells)),(12,.dyn 133 3 dc (λ_=>Oo i))])
  (λi=>i<=outs.length) (λi=>outs.length - i) 0 (by exact ao) (by have g_:=b5;have jW:=b1;have k_:=b2;have tY:=b6;have dM:=b1;have kq:=b2;have oF:=b6;have jN:=b3;have mB:=b4;exact bH) (cJ _) ?_
 intro j hj
 have hj:j<=outs.length:=hj
 have h0:=n0 j
 have h1:=cd (i:=j) (by omega)
 cbv
 refine ⟨λh=>?_,λh=>?_⟩
 ·have eA:j < outs.length:=bE
  have a7:outs.length - (j+1) < outs.length - j:=by omega
  refine (bz eA).elim λx jk=>?_
  refine (bz (l:=md) (i:=j) (by omega)).elim λd IC=>?_
  have hk:=Vo jS hm j
  rw [<-Mi] at hk
  have pQ:(K2 j).cells.length=mc.length:=hk.ok.nc
  have oI:0<=d/\d < 2+(ins.length:Int)+(mc.length:Int):=hm.ay d (b_ IC)
  have cG:K2 (j+1)=oy ins (K2 j) (x,d):=by rw [Mi (j+1),aoI jk IC,<-Mi]
  have sZ:pN ins (K2 j).parts.length (gH ins (K2 j).cells d):=JA hk.ok.cells oI.1 (by rw [pQ];exact oI.2)
  have nX:Hj ⟨⟨⟨ins,gs,outs,dr⟩,w,K2 j⟩,d⟩:=⟨jS,pZ,oI.1,by show d < 2+(ins.length:Int)+((K2 j).cells.length:Int);rw [pQ];exact oI.2,by show (K2 j).cells.length<=1000000;omega⟩
  have je:=jS.outs x (b_ jk)
  obtain ⟨s,hs⟩:∃s,gH ins (K2 j).cells d=s:=⟨_,rfl⟩
  have LO:(qt ins (K2 j).cells d).kind=s.kind:=by rw [NS,hs]
  have s9:(qt ins (K2 j).cells d).n=s.n:=by rw [NS,hs]
  rw [hs] at sZ
  have x9:Vm ⟨⟨⟨ins,gs,outs,dr⟩,w,K2 j⟩,s,lA x⟩:=⟨by have:=hk.dH;show (K2 j).parts.length<=1000000;omega,λh2=>by
   have h2:s.kind=2:=h2
   rcases sZ with h|h|h|h
   ·have:=h.1;omega
   ·have:=h.1;omega
   ·exact h.2
   ·have:=h.1;omega⟩
  have gd:(Oo j).length<=100000:=by rw [FR];have:(others (outs.take j)).length<=(outs.take j).length:=zZ _ _;rw [lu] at this;omega
  have dY:((Oo j).length+1)*24<=140737488355328:=by omega
  have mT:(Oo j).length+1<=9223372036854775807:=by omega
  cbv
  refine ⟨x,⟨h0,jk⟩,?_⟩
  cbv
  refine ⟨λh=>?_,λh=>?_⟩
  ·have eT:x.kind=1:=bE
   have aui:=(jS.ins x ((jS.aN x eT).2 (b_ jk))).2
   have hcw:IntKind.i64.wrap (IntKind.i64.wrap (8*x.i)+x.bit)=lA x:=by
    obtain ⟨⟨_,_,ha,hb,hc⟩,_⟩:=je
    rw [cz (n:=8*x.i) (by omega) (by omega),cz (by omega) (by omega)];rfl
   have tN:jR (K2 j) s (lA x)=K2 (j+1):=by rw [cG];unfold oy;simp only;rw [if_pos eT,hs]
   have e1:(jR (K2 j) s (lA x)).parts=(K2 (j+1)).parts:=by rw [tN]
   have e2:(jR (K2 j) s (lA x)).bK=(K2 (j+1)).bK:=by rw [tN]
   have e3:(jR (K2 j) s (lA x)).cells=(K2 (j+1)).cells:=by rw [tN]
   have e4:(jR (K2 j) s (lA x)).n0=(K2 (j+1)).n0:=by rw [tN]
   have e5:(jR (K2 j) s (lA x)).n1=(K2 (j+1)).n1:=by rw [tN]
   have e6:Oo j=Oo (j+1):=by rw [FR,FR,(ac9 jk eT).2]
   cbv
   refine ⟨d,⟨h0,IC⟩,?_⟩
   cbv
   refine ⟨⟨⟨⟨ins,gs,outs,dr⟩,w,K2 j⟩,d⟩,⟨.inl ⟨by exact bP,rfl⟩,nX⟩,?_⟩
   cbv
   refine bU.io aoE ⟨⟨⟨ins,gs,outs,dr⟩,w,K2 j⟩,s,lA x⟩ [5,3,8,9,4] rfl (by exact bP) (by exact ao) ⟨x9⟩ λ_ _=>?_
   cbv
   exact ⟨j+1,by exact ao,by have g_:=e2;have jW:=e1;have k_:=e3;have tY:=e6;have dM:=e1;have kq:=e3;have oF:=e6;have jN:=e4;have mB:=e5;exact bH,⟨⟨eA,a7⟩⟩⟩
  ·have eT:x.kind≠1:=bE
   have bV:K2 (j+1)={ K2 j with n0:=(K2 j).n0||d == 0,n1:=(K2 j).n1||d == 1 }:=by rw [cG];unfold oy;simp only;rw [if_neg eT]
   have e1:(K2 j).parts=(K2 (j+1)).parts:=by rw [bV]
   have e2:(K2 j).bK=(K2 (j+1)).bK:=by rw [bV]
   have e3:(K2 j).cells=(K2 (j+1)).cells:=by rw [bV]
   have Q9:d=0->true=(K2 (j+1)).n0:=λh=>by rw [bV,h];simp
   have Mj:d≠0->(K2 j).n0=(K2 (j+1)).n0:=λh=>by rw [bV];simp [h]
   have Q_:d=1->true=(K2 (j+1)).n1:=λh=>by rw [bV,h];simp
   have Ml:d≠1->(K2 j).n1=(K2 (j+1)).n1:=λh=>by rw [bV];simp [h]
   have e6:Oo j++[x]=Oo (j+1):=by rw [FR,FR,(ac_ jk eT).2]
   clear bV
   cbv
   refine ⟨[x],⟨by exact bP,dY,mT⟩,?_⟩
   cbv
   refine ⟨d,⟨h0,IC⟩,?_⟩
   cbv
   refine ⟨λh=>?_,λh=>?_⟩
   ·have QU:d < 2:=bE
    rcases (show d=0\/d=1 by omega) with o9|o9
    ·have e4:=Q9 o9
     have e5:=Ml (by omega)
     clear Q9 Mj Q_ Ml
     cbv
     refine ⟨d,⟨h0,IC⟩,?_⟩
     cbv
     refine ⟨0,⟨o9,by decide⟩,?_⟩
     cbv
     exact ⟨j+1,by exact ao,by have g_:=e2;have jW:=e1;have k_:=e3;have tY:=e6;have dM:=e1;have kq:=e3;have oF:=e6;have jN:=e4;have Ia:=e4;have mB:=e5;exact bH,⟨⟨eA,a7⟩⟩⟩
    ·have e4:=Mj (by omega)
     have e5:=Q_ o9
     clear Q9 Mj Q_ Ml
     cbv
     refine ⟨d,⟨h0,IC⟩,?_⟩
     cbv
     refine ⟨1,⟨o9,by decide⟩,?_⟩
     cbv
     exact ⟨j+1,by exact ao,by have g_:=e2;have jW:=e1;have k_:=e3;have tY:=e6;have dM:=e1;have kq:=e3;have oF:=e6;have jN:=e4;have Ia:=e5;have mB:=e5;exact bH,⟨⟨eA,a7⟩⟩⟩
   ·have QU:2<=d:=bE
    have e4:=Mj (by omega)
    have e5:=Ml (by omega)
    clear Q9 Mj Q_ Ml
    cbv
    exact ⟨j+1,by exact ao,by have g_:=e2;have jW:=e1;have k_:=e3;have tY:=e6;have dM:=e1;have kq:=e3;have oF:=e6;have jN:=e4;have mB:=e5;exact bH,⟨⟨eA,a7⟩⟩⟩
 have tM:j=outs.length:=by
  have h':aS j outs.length=false:=h.out
  have h2:¬(j:Int) < outs.length:=by simpa [aS] using h'
  omega
 clear h h0 h1 hj
 obtain ⟨K3,Fh,Lj,ahI⟩:∃K:Nat->PK,K 0=nF ⟨ins,gs,outs,dr⟩ ⟨mn,mc,md⟩/\K 1=su ⟨ins,gs,outs,dr⟩ ⟨mn,mc,md⟩/\K 2=p_ ⟨ins,gs,outs,dr⟩ ⟨mn,mc,md⟩ :=
  ⟨λi=>match i with|0=>nF ⟨ins,gs,outs,dr⟩ ⟨mn,mc,md⟩|1=>su ⟨ins,gs,outs,dr⟩ ⟨mn,mc,md⟩|_=>p_ ⟨ins,gs,outs,dr⟩ ⟨mn,mc,md⟩,rfl,rfl,rfl⟩
 have Lk:K2 j=K3 0:=by rw [Mi,tM,Fh];rfl
 obtain ⟨cA,A3,hA1,Ra⟩:∃c:Nat->Int,c 0=0/\c 1=QY ⟨ins,gs,outs,dr⟩ ⟨mn,mc,md⟩/\c 2=c 1:=⟨λi=>match i with|0=>0|_=>QY ⟨ins,gs,outs,dr⟩ ⟨mn,mc,md⟩,rfl,rfl,rfl⟩
 obtain ⟨cB,rE,Ix,hB2⟩:∃c:Nat->Int,c 0=0/\c 1=0/\c 2=QZ ⟨ins,gs,outs,dr⟩ ⟨mn,mc,md⟩:=⟨λi=>match i with|0=>0|1=>0|_=>QZ ⟨ins,gs,outs,dr⟩ ⟨mn,mc,md⟩,rfl,rfl,rfl⟩
 obtain ⟨qA,ahJ,ahK,ahL⟩:∃c:Nat->Int,c 0=0/\c 1=(if (K3 0).n0 then 2 else 0)/\c 2=c 1:=⟨λi=>match i with|0=>0|_=>(if (K3 0).n0 then 2 else 0),rfl,rfl,rfl⟩
 obtain ⟨qB,WX,WY,ahM⟩:∃c:Nat->Int,c 0=0/\c 1=0/\c 2=(if (K3 0).n1 then 2 else 0):=⟨λi=>match i with|0=>0|1=>0|_=>(if (K3 0).n1 then 2 else 0),rfl,rfl,rfl⟩
 obtain ⟨g1,g2,g3,g4,g5,g6,g7,g8⟩:=afs jS hm
 have ahN:K3 1=oh (K3 0) 0 (K3 0).n0:=by rw [Lj,Fh];rfl
 have ahO:K3 2=oh (K3 1) 1 (K3 0).n1:=by rw [ahI,Lj,Fh];rfl
 have ahP:(K3 1).n1=(K3 0).n1:=by rw [Lj,Fh];exact g7
 have UO:(K3 0).parts.length<=1000000:=by have hf:(nF ⟨ins,gs,outs,dr⟩ ⟨mn,mc,md⟩).parts.length<=1200:=(Vo jS hm outs.length).dH;rw [Fh];omega
 have arG:(K3 1).parts.length<=1000000:=by rw [Lj];omega
 have WZ:cA 1=(if (K3 0).n0 then ((K3 0).parts.length:Int) else 0):=by rw [hA1,Fh];rfl
 have W0:cB 2=(if (K3 0).n1 then ((K3 1).parts.length:Int) else 0):=by rw [hB2,Fh,Lj];rfl
 have c1:(K2 j).parts=(K3 0).parts:=by rw [Lk]
 have c2:(K2 j).cells=(K3 0).cells:=by rw [Lk]
 have c3:(K2 j).n0=(K3 0).n0:=by rw [Lk]
 have c4:(K2 j).n1=(K3 0).n1:=by rw [Lk]
 have c5:(K2 j).bK=(K3 0).bK:=by rw [Lk]
 have c6:0=cA 0:=A3.symm
 have c7:0=cB 0:=rE.symm
 have c8:0=qA 0:=ahJ.symm
 have c9:0=qB 0:=WX.symm
 cbv
 refine Sat.ca (Ch 0 0) 15 8 [(.c 5 5,8)] (λi:Nat=>[(14,.ptr 14 0),(120,.i .i64 (λ_=>(i:Int)))])
  (λi=>[(4,.map kF bJ (λ_=>(K3 i).bK)),(5,.fix 298 [.sl 3 dc (λ_=>ins),.sl 5 dB (λ_=>gs),.sl 3 dc (λ_=>outs),.sl 1 bJ (λ_=>dr),.eV 3,.own 8,.own 9,.b (λ_=>(K3 i).n0),.b (λ_=>(K3 i).n1),.eV 4]),(8,.dyn 307 4 uJ (λ_=>(K3 i).parts)),(9,.dyn 302 2 l7 (λ_=>(K3 i).cells)),
   (14,.fix 304 [.i .i64 (λ_=>qA i),.i .i64 (λ_=>cA i),.i .i64 (λ_=>qB i),.i .i64 (λ_=>cB i)])])
  (λi=>i<=2) (λi=>2 - i) 0 (by exact ao) (by have g_:=c5;have jW:=c1;have k_:=c2;have dM:=c1;have kq:=c2;have jN:=c3;have mB:=c4;have nY:=c6;have H_:=c7;have XD:=c8;have XE:=c9;exact bH) (cJ _) ?_
 intro i hi
 have hi:i<=2:=hi
 have h0:=n0 i
 have h1:=cd (i:=i) (by omega)
 cbv
 refine ⟨λh=>?_,λh=>?_⟩
 ·have bp:i < 2:=by have h':aS i 2=true:=h.out;simp only [aS,decide_eq_true_eq] at h';omega
  clear h
  rcases (show i=0\/i=1 by omega) with rfl|rfl
  ·cbv
   refine ⟨0,⟨rfl,by decide⟩,?_⟩
   cbv
   refine ⟨λh=>?_,λh=>?_⟩
   ·have hb:(K3 0).n0=true:=h.out
    have eb:=hb
    have jB:K3 1=(K3 0).add ⟨[],0,-1,-1⟩:=by rw [ahN,eb];rfl
    have e1:((K3 0).add ⟨[],0,-1,-1⟩).parts=(K3 1).parts:=by rw [jB]
    have e2:((K3 0).add ⟨[],0,-1,-1⟩).bK=(K3 1).bK:=by rw [jB]
    have e3:((K3 0).add ⟨[],0,-1,-1⟩).cells=(K3 1).cells:=by rw [jB]
    have e4:((K3 0).add ⟨[],0,-1,-1⟩).n0=(K3 1).n0:=by rw [jB]
    have e5:((K3 0).add ⟨[],0,-1,-1⟩).n1=(K3 1).n1:=by rw [jB]
    have d1:2=qA 1:=by rw [ahK,if_pos eb]
    have d2:((K3 0).parts.length:Int)=cA 1:=by rw [WZ,if_pos eb]
    have d3:qB 0=qB 1:=by rw [WX,WY]
    have d4:cB 0=cB 1:=by rw [rE,Ix]
    have FN:(K3 0).parts.length<=1000000:=UO
    cbv
    refine bU.io BU ⟨⟨⟨ins,gs,outs,dr⟩,w,K3 0⟩,⟨[],0,-1,-1⟩⟩ [5,3,8,9,4] rfl (by exact bP) (by exact ao) ⟨FN⟩ λ_ _=>?_
    cbv
    refine ⟨0,⟨rfl,by decide⟩,?_⟩
    cbv
    exact ⟨1,by exact ao,by have g_:=e2;have jW:=e1;have k_:=e3;have dM:=e1;have kq:=e3;have jN:=e4;have mB:=e5;have bj:=d1;have lE:=d2;have zk:=d3;have H9:=d4;have nY:=d1;have H_:=d3;exact bH,⟨⟨by decide,by decide⟩⟩⟩
   ·have hb:(K3 0).n0=false:=h.out
    have eb:=hb
    have jB:K3 1=K3 0:=by rw [ahN,eb];rfl
    have e1:(K3 0).parts=(K3 1).parts:=by rw [jB]
    have e2:(K3 0).bK=(K3 1).bK:=by rw [jB]
    have e3:(K3 0).cells=(K3 1).cells:=by rw [jB]
    have e4:(K3 0).n0=(K3 1).n0:=by rw [jB]
    have e5:(K3 0).n1=(K3 1).n1:=by rw [jB]
    have d1:qA 0=qA 1:=by rw [ahJ,ahK,eb];rfl
    have d2:cA 0=cA 1:=by rw [A3,WZ,eb];rfl
    have d3:qB 0=qB 1:=by rw [WX,WY]
    have d4:cB 0=cB 1:=by rw [rE,Ix]
    cbv
    exact ⟨1,by exact ao,by have g_:=e2;have jW:=e1;have k_:=e3;have dM:=e1;have kq:=e3;have jN:=e4;have mB:=e5;have bj:=d1;have lE:=d2;have zk:=d3;have H9:=d4;exact bH,⟨⟨by decide,by decide⟩⟩⟩
  ·cbv
   refine ⟨1,⟨rfl,by decide⟩,?_⟩
   cbv
   refine ⟨λh=>?_,λh=>?_⟩
   ·have hb:(K3 1).n1=true:=h.out
    have eb:(K3 0).n1=true:=by rw [<-ahP];exact hb
    have jB:K3 2=(K3 1).add ⟨[],1,-1,-1⟩:=by rw [ahO,eb];rfl
    have e1:((K3 1).add ⟨[],1,-1,-1⟩).parts=(K3 2).parts:=by rw [jB]
    have e2:((K3 1).add ⟨[],1,-1,-1⟩).bK=(K3 2).bK:=by rw [jB]
    have e3:((K3 1).add ⟨[],1,-1,-1⟩).cells=(K3 2).cells:=by rw [jB]
    have e4:((K3 1).add ⟨[],1,-1,-1⟩).n0=(K3 2).n0:=by rw [jB]
    have e5:((K3 1).add ⟨[],1,-1,-1⟩).n1=(K3 2).n1:=by rw [jB]
    have d1:qA 1=qA 2:=by rw [ahL]
    have d2:cA 1=cA 2:=by rw [Ra]
    have d3:2=qB 2:=by rw [ahM,if_pos eb]
    have d4:((K3 1).parts.length:Int)=cB 2:=by rw [W0,if_pos eb]
    have FN:(K3 1).parts.length<=1000000:=arG
    cbv
    refine bU.io BU ⟨⟨⟨ins,gs,outs,dr⟩,w,K3 1⟩,⟨[],1,-1,-1⟩⟩ [5,3,8,9,4] rfl (by exact bP) (by exact ao) ⟨FN⟩ λ_ _=>?_
    cbv
    refine ⟨1,⟨rfl,by decide⟩,?_⟩
    cbv
    exact ⟨2,by exact ao,by have g_:=e2;have jW:=e1;have k_:=e3;have dM:=e1;have kq:=e3;have jN:=e4;have mB:=e5;have bj:=d1;have lE:=d2;have zk:=d3;have H9:=d4;have nY:=d1;have H_:=d3;exact bH,⟨⟨by decide,by decide⟩⟩⟩
   ·have hb:(K3 1).n1=false:=h.out
    have eb:(K3 0).n1=false:=by rw [<-ahP];exact hb
    have jB:K3 2=K3 1:=by rw [ahO,eb];rfl
    have e1:(K3 1).parts=(K3 2).parts:=by rw [jB]
    have e2:(K3 1).bK=(K3 2).bK:=by rw [jB]
    have e3:(K3 1).cells=(K3 2).cells:=by rw [jB]
    have e4:(K3 1).n0=(K3 2).n0:=by rw [jB]
    have e5:(K3 1).n1=(K3 2).n1:=by rw [jB]
    have d1:qA 1=qA 2:=by rw [ahL]
    have d2:cA 1=cA 2:=by rw [Ra]
    have d3:qB 1=qB 2:=by rw [WY,ahM,eb];rfl
    have d4:cB 1=cB 2:=by rw [Ix,W0,eb];rfl
    cbv
    exact ⟨2,by exact ao,by have g_:=e2;have jW:=e1;have k_:=e3;have dM:=e1;have kq:=e3;have jN:=e4;have mB:=e5;have bj:=d1;have lE:=d2;have zk:=d3;have H9:=d4;exact bH,⟨⟨by decide,by decide⟩⟩⟩
 have hi2:i=2:=by
  have h':aS i 2=false:=h.out
  have h2:¬(i:Int) < 2:=by simpa [aS] using h'
  omega
 subst hi2
 clear h h0 h1 hi
 obtain ⟨T,hT⟩:∃T:Nat->TH,∀i,T i=wM ⟨ins,gs,outs,dr⟩ ⟨mn,mc,md⟩ i:=⟨_,λ_=>rfl⟩
 have FT:T 0=⟨K3 2,[],λ_=>none⟩:=by rw [hT,ahI];rfl
 have f1:(K3 2).parts=(T 0).k.parts:=by rw [FT]
 have f2:(K3 2).bK=(T 0).k.bK:=by rw [FT]
 have f3:(K3 2).cells=(T 0).k.cells:=by rw [FT]
 have f4:(K3 2).n0=(T 0).k.n0:=by rw [FT]
 have f5:(K3 2).n1=(T 0).k.n1:=by rw [FT]
 have f6:[]=(T 0).ay:=by rw [FT]
 have f7:(λ_=>none)=(T 0).thr:=by rw [FT]
 cbv
 refine Sat.Cd 16 302 2 NA yr rfl ?_
 cbv
 refine Sat.ca (Ch 0 0) 17 8 [(.c 5 5,8),(.t 16,16)] (λi:Nat=>[(14,.ptr 14 0),(16,.own 16),(17,.eV 15),(138,.sl 3 dc (λ_=>outs)),(139,.i .i64 (λ_=>(outs.length:Int))),(140,.i .i64 (λ_=>(i:Int)))])
  (λi=>[(4,.map kF bJ (λ_=>(T i).k.bK)),(5,.fix 298 [.sl 3 dc (λ_=>ins),.sl 5 dB (λ_=>gs),.sl 3 dc (λ_=>outs),.sl 1 bJ (λ_=>dr),.eV 3,.own 8,.own 9,.b (λ_=>(T i).k.n0),.b (λ_=>(T i).k.n1),.eV 4]),(8,.dyn 307 4 uJ (λ_=>(T i).k.parts)),(9,.dyn 302 2 l7 (λ_=>(T i).k.cells)),
   (15,.map kS arF (λ_=>(T i).thr)),(16,.dyn 302 2 l7 (λ_=>(T i).ay))])
  (λi=>i<=outs.length) (λi=>outs.length - i) 0 (by exact ao) (by have g_:=f2;have zm:=f7;have jW:=f1;have k_:=f3;have tY:=f6;have dM:=f1;have kq:=f3;have oF:=f6;have jN:=f4;have mB:=f5;exact bH) (cJ _) ?_
 intro i hi
 have hi:i<=outs.length:=hi
 have h0:=n0 i
 have h1:=cd (i:=i) (by omega)
 cbv
 refine ⟨λh=>?_,λh=>?_⟩
 ·have bp:i < outs.length:=bE
  have a7:outs.length - (i+1) < outs.length - i:=by omega
  refine (bz bp).elim λx kJ=>?_
  refine (bz (l:=md) (i:=i) (by omega)).elim λd qI=>?_
  have hk:=aft jS hm i
  rw [<-hT] at hk
  have pQ:(T i).k.cells.length=mc.length:=hk.ok.nc
  have oI:0<=d/\d < 2+(ins.length:Int)+(mc.length:Int):=hm.ay d (b_ qI)
  have cG:T (i+1)=nr ins (T i) (x,d):=by rw [hT (i+1),aoJ kJ qI,<-hT]
  have nX:Hj ⟨⟨⟨ins,gs,outs,dr⟩,w,(T i).k⟩,d⟩:=⟨jS,pZ,oI.1,by show d < 2+(ins.length:Int)+((T i).k.cells.length:Int);rw [pQ];exact oI.2,by show (T i).k.cells.length<=1000000;omega⟩
  have FN:(T i).k.parts.length<=1000000:=by have:=hk.dH;omega
  have az4:(T i).ay.length<=100000:=by have h':(T i).ay.length<=outs.length:=hk.dl;omega
  have dY:((T i).ay.length+1)*16<=140737488355328:=by omega
  have mT:(T i).ay.length+1<=9223372036854775807:=by omega
  cbv
  refine ⟨x,⟨h0,kJ⟩,?_⟩
  cbv
  refine ⟨λh=>?_,λh=>?_⟩
  ·have eT:x.kind=1:=bE
   have vP:T i=T (i+1):=by rw [cG];unfold nr;simp only;rw [if_pos eT]
   have e1:(T i).k.parts=(T (i+1)).k.parts:=by rw [<-vP]
   have e2:(T i).k.bK=(T (i+1)).k.bK:=by rw [<-vP]
   have e3:(T i).k.cells=(T (i+1)).k.cells:=by rw [<-vP]
   have e4:(T i).k.n0=(T (i+1)).k.n0:=by rw [<-vP]
   have e5:(T i).k.n1=(T (i+1)).k.n1:=by rw [<-vP]
   have e6:(T i).ay=(T (i+1)).ay:=by rw [<-vP]
   have e7:(T i).thr=(T (i+1)).thr:=by rw [<-vP]
   cbv
   exact ⟨i+1,by exact ao,by have g_:=e2;have zm:=e7;have jW:=e1;have k_:=e3;have tY:=e6;have dM:=e1;have kq:=e3;have oF:=e6;have jN:=e4;have mB:=e5;exact bH,⟨⟨bp,a7⟩⟩⟩
  ·have eT:x.kind≠1:=bE
   obtain ⟨s,hs⟩:∃s,qt ins (T i).k.cells d=s:=⟨_,rfl⟩
   have Yw:gH ins (T i).k.cells d=s:=by rw [<-NS];exact hs
   cbv
   refine ⟨d,⟨h0,qI⟩,?_⟩
   cbv
   refine ⟨⟨⟨⟨ins,gs,outs,dr⟩,w,(T i).k⟩,d⟩,⟨.inl ⟨by exact bP,rfl⟩,nX⟩,?_⟩
   cbv
   refine ⟨λh=>?_,λh=>?_⟩
   ·have gK:s.kind=0:=by have h':aV (qt ins (T i).k.cells d).kind 0=true:=h.out;rw [hs] at h';simpa [aV] using h'
    have s1:(qt ins (T i).k.cells d).kind=s.kind:=by rw [hs]
    have s2:(qt ins (T i).k.cells d).n=s.n:=by rw [hs]
    rcases C9:(T i).thr (AM s) with _|u
    ·have W1:(T i).thr [(qt ins (T i).k.cells d).kind,(qt ins (T i).k.cells d).n]=none:=by rw [hs];exact C9
     obtain ⟨z,hz⟩:∃z:Int,((T i).k.parts.length:Int)=z:=⟨_,rfl⟩
     have bV:T (i+1)=⟨(T i).k.add ⟨[s],2,-1,-1⟩,(T i).ay++[(T i).k.here],λj=>if j=AM s then some (T i).k.here else (T i).thr j⟩:=by rw [cG];unfold nr;simp only;rw [if_neg eT,Yw,if_pos gK,C9]
     have e1:((T i).k.add ⟨[s],2,-1,-1⟩).parts=(T (i+1)).k.parts:=by rw [bV]
     have e2:((T i).k.add ⟨[s],2,-1,-1⟩).bK=(T (i+1)).k.bK:=by rw [bV]
     have e3:((T i).k.add ⟨[s],2,-1,-1⟩).cells=(T (i+1)).k.cells:=by rw [bV]
     have e4:((T i).k.add ⟨[s],2,-1,-1⟩).n0=(T (i+1)).k.n0:=by rw [bV]
     have e5:((T i).k.add ⟨[s],2,-1,-1⟩).n1=(T (i+1)).k.n1:=by rw [bV]
     have e6:(T i).ay++[⟨2,z⟩]=(T (i+1)).ay:=by rw [bV,<-hz];rfl
     have e7:(λj=>if j=[(qt ins (T i).k.cells d).kind,(qt ins (T i).k.cells d).n] then some (⟨2,z⟩:Source) else (T i).thr j)=(T (i+1)).thr:=by rw [bV,hs,<-hz];rfl
     clear bV
     cbv
     refine ⟨some none,⟨W1⟩,?_⟩
     cbv
     refine bU.io BU ⟨⟨⟨ins,gs,outs,dr⟩,w,(T i).k⟩,⟨[s],2,-1,-1⟩⟩ [5,3,8,9,4] rfl (by exact bP) (by exact ao) ⟨FN⟩ λ_ _=>?_
     cbv
     refine ⟨⟨2,z⟩,⟨by have bj:=hz;exact cN⟩,?_⟩
     cbv
     refine ⟨[⟨2,z⟩],⟨by have bj:=hz;exact cN,dY,mT⟩,?_⟩
     cbv
     exact ⟨i+1,by exact ao,by have g_:=e2;have zm:=e7;have jW:=e1;have k_:=e3;have tY:=e6;have dM:=e1;have kq:=e3;have oF:=e6;have jN:=e4;have mB:=e5;exact bH,⟨⟨bp,a7⟩⟩⟩
    ·have W1:(T i).thr [(qt ins (T i).k.cells d).kind,(qt ins (T i).k.cells d).n]=some u:=by rw [hs];exact C9
     have bV:T (i+1)={ T i with ay:=(T i).ay++[u] }:=by rw [cG];unfold nr;simp only;rw [if_neg eT,Yw,if_pos gK,C9]
     have e1:(T i).k.parts=(T (i+1)).k.parts:=by rw [bV]
     have e2:(T i).k.bK=(T (i+1)).k.bK:=by rw [bV]
     have e3:(T i).k.cells=(T (i+1)).k.cells:=by rw [bV]
     have e4:(T i).k.n0=(T (i+1)).k.n0:=by rw [bV]
     have e5:(T i).k.n1=(T (i+1)).k.n1:=by rw [bV]
     have e6:(T i).ay++[u]=(T (i+1)).ay:=by rw [bV]
     have e7:(T i).thr=(T (i+1)).thr:=by rw [bV]
     clear bV
     cbv
     refine ⟨some (some u),⟨W1⟩,?_⟩
     cbv
     refine ⟨[u],⟨by exact bP,dY,mT⟩,?_⟩
     cbv
     exact ⟨i+1,by exact ao,by have g_:=e2;have zm:=e7;have jW:=e1;have k_:=e3;have tY:=e6;have dM:=e1;have kq:=e3;have oF:=e6;have jN:=e4;have mB:=e5;exact bH,⟨⟨bp,a7⟩⟩⟩
   ·have gK:s.kind≠0:=by have h':aV (qt ins (T i).k.cells d).kind 0=false:=h.out;rw [hs] at h';simpa [aV] using h'
    have bV:T (i+1)={ T i with ay:=(T i).ay++[s] }:=by rw [cG];unfold nr;simp only;rw [if_neg eT,Yw,if_neg gK]
    have e1:(T i).k.parts=(T (i+1)).k.parts:=by rw [bV]
    have e2:(T i).k.bK=(T (i+1)).k.bK:=by rw [bV]
    have e3:(T i).k.cells=(T (i+1)).k.cells:=by rw [bV]
    have e4:(T i).k.n0=(T (i+1)).k.n0:=by rw [bV]
    have e5:(T i).k.n1=(T (i+1)).k.n1:=by rw [bV]
    have e6:(T i).ay++[s]=(T (i+1)).ay:=by rw [bV]
    have e7:(T i).thr=(T (i+1)).thr:=by rw [bV]
    have s1:(qt ins (T i).k.cells d).kind=s.kind:=by rw [hs]
    have s2:(qt ins (T i).k.cells d).n=s.n:=by rw [hs]
    clear bV
    cbv
    refine ⟨[s],⟨by exact bP,dY,mT⟩,?_⟩
    cbv
    exact ⟨i+1,by exact ao,by have g_:=e2;have zm:=e7;have jW:=e1;have k_:=e3;have tY:=e6;have dM:=e1;have kq:=e3;have oF:=e6;have jN:=e4;have mB:=e5;exact bH,⟨⟨bp,a7⟩⟩⟩
 have PY:i=outs.length:=by
  have h':aS i outs.length=false:=h.out
  have h2:¬(i:Int) < outs.length:=by simpa [aS] using h'
  omega
 clear h h0 h1 hi
 have hTi:T i=wM ⟨ins,gs,outs,dr⟩ ⟨mn,mc,md⟩ outs.length:=by rw [hT,PY]
 have Yx:=aft jS hm outs.length
 rw [<-hTi] at Yx
 have AI:=abX jS hm
 have Rb:ot ⟨ins,gs,outs,dr⟩ ⟨mn,mc,md⟩=⟨cA 2,cB 2,T i⟩:=by rw [anB hm,hTi,Ra,hA1,hB2]
 rw [Rb] at AI
 obtain ⟨t,ht⟩:∃t,T i=t:=⟨_,rfl⟩
 rw [ht] at Yx AI Rb
 obtain ⟨z0,uX⟩:∃z,cA 2=z:=⟨_,rfl⟩
 obtain ⟨z1,iL⟩:∃z,cB 2=z:=⟨_,rfl⟩
 rw [uX,iL] at Rb AI
 have t1:(T i).k.parts=t.k.parts:=by rw [ht]
 have t2:(T i).k.bK=t.k.bK:=by rw [ht]
 have t3:(T i).ay=t.ay:=by rw [ht]
 have ht6:t.k.parts.length<=600:=AI.len
 have eE:0<=((T i).k.parts.length:Int)/\56*((T i).k.parts.length:Int)<=281474976710656/\((T i).k.parts.length:Int)<=9223372036854775807:=by rw [ht];omega
 have ahQ:0<=z0/\z0<=1000000:=by rw [<-uX,Ra,WZ];split<;>exact aU
 have ahR:0<=z1/\z1<=1000000:=by rw [<-iL,W0];split<;>exact aU
 obtain ⟨N,hN⟩:∃N:Source->Int,xM oi.length t.k.bK z0 z1=N:=⟨_,rfl⟩
 obtain ⟨B,hB⟩:∃B:Nat->List Block,∀k,B k=(t.k.parts.take k).map (λx=>⟨x.ins.map N,x.table,x.bZ,x.bf,0⟩):=⟨_,λ_=>rfl⟩
 have hBz:[]=B 0:=by rw [hB];rfl
 cbv
 refine ⟨⟨by decide,eE.1,eE.2.1,eE.2.2⟩,?_⟩
 cbv
 refine Sat.ca (Ch 0 0) 19 2 [(.t 5,18)] (λk:Nat=>[(5,.own 18),(11,.own 8),(12,.i .i64 (λ_=>(t.k.parts.length:Int))),(13,.i .i64 (λ_=>(k:Int)))])
  (λk=>[(4,.map kF bJ (λ_=>t.k.bK)),(8,.dyn 307 4 uJ (λ_=>t.k.parts)),(14,.fix 304 [.i .i64 (λ_=>qA 2),.i .i64 (λ_=>z0),.i .i64 (λ_=>qB 2),.i .i64 (λ_=>z1)]),(16,.dyn 302 2 l7 (λ_=>t.ay)),(18,.dyn 76 5 oe (λ_=>B k))])
  (λk=>k<=t.k.parts.length) (λk=>t.k.parts.length - k) 0 (by ((try cbv)<;>(repeat' (first|with_reducible exact trivial|with_reducible refine And.intro ?_ ?_))<;>(try first|exact cY.refl _|exact cY.dyn rfl|exact cY.map rfl|exact cY.iter rfl rfl (.inl rfl)|exact cY.iter rfl rfl (.inr rfl)|refine cY.fix ?_|refine cY.dyn ?_)<;>((repeat' first|exact dT.nil|exact Le.refl _|refine dT.cons ?_ ?_|exact Le.ic rfl|exact Le.bc rfl|exact Le.i rfl|exact Le.b rfl|exact Le.sl rfl|exact Le.mp rfl|exact Le.im rfl|exact Le.rO rfl|refine Le.di rfl (λ_=>?_)|refine Le.eH rfl (λ_ _=>rfl) (λ_=>?_) ?_|refine Le.agg ?_|refine Le.dE ?_|refine Le.fn ?_ ?_|refine Le.dC ?_|exact trivial|refine And.intro ?_ ?_|refine λ_=>?_|exact Le.any _)))<;>first|(refine Le.i ?_;show ((T i).k.parts.length:Int)=t.k.parts.length;rw [ht])) (by have g_:=t2;have jW:=t1;have k_:=t3;have tY:=hBz;have dM:=t1;have kq:=t3;have oF:=hBz;have bj:=uX;have lE:=iL;exact bH) (cJ _) ?_
 intro k hk
 have hk:k<=t.k.parts.length:=hk
 have h0:=n0 k
 have h1:=cd (i:=k) (by omega)
 cbv
 refine ⟨λh=>?_,λh=>?_⟩
 ·have cW:k < t.k.parts.length:=bE
  have a7:t.k.parts.length - (k+1) < t.k.parts.length - k:=by omega
  refine (bz cW).elim λx hx=>?_
  have Q5:0<=(k:Int)/\(k:Int).toNat < t.k.parts.length:=⟨h0,by omega⟩
  have yf:B k++[⟨x.ins.map N,x.table,x.bZ,x.bf,0⟩]=B (k+1):=by rw [hB,hB,Eg hx];simp
  have dW:(B k).length=k:=by rw [hB,oT,lu];omega
  have dY:((B k).length+1)*56<=140737488355328:=by omega
  have mT:(B k).length+1<=9223372036854775807:=by omega
  have zt:x.ins.map (xM oi.length t.k.bK z0 z1)=x.ins.map N:=by rw [hN]
  have QX:=AI.k.src k x hx
  have Yi:Qa ⟨x.ins,oi,t.k.bK,z0,z1⟩:=⟨by have:=QX.1.k;show x.ins.length<=1000000;omega,λs hs=>by rw [nz];exact afM (np:=k) AI (by omega) (QX.2 s hs) (by show ins.length<=600;omega) ahQ ahR⟩
  cbv
  refine ⟨⟨Q5⟩,x,⟨hx,rfl⟩,?_⟩
  cbv
  refine ⟨⟨x.ins,oi,t.k.bK,z0,z1⟩,⟨.inl ⟨by exact bP,rfl⟩,Yi⟩,?_⟩
  cbv
  refine ⟨[⟨x.ins.map N,x.table,x.bZ,x.bf,0⟩],⟨by exact bP,dY,mT⟩,?_⟩
  cbv
  exact ⟨k+1,by exact ao,by have dM:=yf;exact bH,⟨⟨cW,a7⟩⟩⟩
 have aun:k=t.k.parts.length:=by
  have h':aS k t.k.parts.length=false:=h.out
  have h2:¬(k:Int) < t.k.parts.length:=by simpa [aS] using h'
  omega
 clear h h0 h1 hk
 obtain ⟨Q0,QT⟩:∃Q,B k=Q:=⟨_,rfl⟩
 obtain ⟨DD,hDD⟩:∃D,t.ay.map (xM oi.length t.k.bK z0 z1)=D:=⟨_,rfl⟩
 obtain ⟨oj,Yy⟩:∃o,Oo j=o:=⟨_,rfl⟩
 have ahS:lS ⟨ins,gs,outs,dr⟩ ⟨mn,mc,md⟩=⟨oi,Q0,oj,DD⟩:=by
  rw [<-QT,hB,aun,kh,<-hN,<-hDD,<-Yy,FR,tM,kh,nz]
  unfold lS
  rw [Rb]
  rfl
 have wh:=ac6 jS hm
 rw [ahS] at wh
 have pq:CI ⟨oi,Q0,oj,DD⟩:=⟨wh.1,⟨_,wh.2⟩,by show oi.length<=1000000;rw [nz];have:(others ins).length<=ins.length:=zZ _ _;omega⟩
 have auo:Qa ⟨t.ay,oi,t.k.bK,z0,z1⟩:=⟨by have h':t.ay.length<=outs.length:=Yx.dl;show t.ay.length<=1000000;omega,λs hs=>by rw [nz];exact afM AI AI.len (AI.yb s hs).2.1 (by show ins.length<=600;omega) ahQ ahR⟩
 obtain ⟨KS,Mb⟩:∃K,kY ⟨oi,Q0,oj,DD⟩=K:=⟨_,rfl⟩
 have az5:KS.length=Q0.length:=by rw [<-Mb,SU]
 have hQ6:Q0.length<=600:=wh.1.dH
 obtain ⟨Q,hQ⟩:∃Q:Nat->List Block,∀k,Q k=uT KS Q0 k:=⟨_,λ_=>rfl⟩
 have hQz:B k=Q 0:=by rw [hQ,QT];exact amG _ _
 cbv
 refine ⟨⟨t.ay,oi,t.k.bK,z0,z1⟩,⟨.inl ⟨by exact bP,rfl⟩,auo⟩,?_⟩
 cbv
 refine ⟨⟨oi,Q0,oj,DD⟩,⟨.inl ⟨by exact bP,rfl⟩,pq⟩,?_⟩
 cbv
 have hKl:((kY ⟨oi,Q0,oj,DD⟩).length:Int)=KS.length:=by rw [Mb]
 refine Sat.ca (Ch 0 0) 19 24 [] (λk:Nat=>[(193,.sl 1 mf (λ_=>KS)),(194,.i .i64 (λ_=>(KS.length:Int))),(195,.i .i64 (λ_=>(k:Int)))])
  (λk=>[(12,.dyn 133 3 dc (λ_=>oj)),(18,.dyn 76 5 oe (λ_=>Q k))])
  (λk=>k<=KS.length) (λk=>KS.length - k) 0 (by have dG:=Mb;have bj:=hKl;exact bH) (by have jW:=hQz;have k_:=Yy;have dM:=hQz;have kq:=Yy;exact bH) (cJ _) ?_
 intro k hk
 have hk:k<=KS.length:=hk
 have h0:=n0 k
 have h1:=cd (i:=k) (by omega)
 cbv
 refine ⟨λh=>?_,λh=>?_⟩
 ·have cW:k < KS.length:=bE
  have a7:KS.length - (k+1) < KS.length - k:=by omega
  refine (bz cW).elim λv hv=>?_
  refine (bz (l:=Q0) (i:=k) (by omega)).elim λx hx=>?_
  have hqi:0<=(k:Int)/\(k:Int).toNat < (Q k).length:=⟨h0,by rw [hQ,aca];omega⟩
  have hqx:(Q k)[k]?=some x:=by rw [hQ];exact aoR hx
  have hqn:(Q k).set ((k:Int)).toNat ⟨x.ins,x.table,x.bZ,x.bf,v⟩=Q (k+1):=by rw [hQ,hQ];exact amH hx hv
  cbv
  refine ⟨v,⟨h0,hv⟩,?_⟩
  cbv
  refine ⟨⟨hqi⟩,?_⟩
  cbv
  refine ⟨(x,⟨x.ins,x.table,x.bZ,x.bf,v⟩),⟨hqx,rfl,by exact bP⟩,?_⟩
  cbv
  exact ⟨k+1,by exact ao,by have dM:=hqn;exact bH,⟨⟨cW,a7⟩⟩⟩
 have az6:k=KS.length:=by
  have h':aS k KS.length=false:=h.out
  have h2:¬(k:Int) < KS.length:=by simpa [aS] using h'
  omega
 have wQ:R=(⟨oi,Q k,oj,DD⟩,0):=by
  rw [<-hR,hQ,anM (by omega)]
  unfold rR
  rw [ahS,Mb]
  rfl
 have r1:oi=R.1.ins:=by rw [wQ]
 have r2:Q k=R.1.blocks:=by rw [wQ]
 have r3:oj=R.1.outs:=by rw [wQ]
 have r4:t.ay.map (xM oi.length t.k.bK z0 z1)=R.1.ay:=by rw [wQ,hDD]
 have r5:0=R.2:=by rw [wQ]
 clear wQ h h0 h1 hk
 cbv
 exact ⟨by have dG:=r1;have pe:=r2;have xZ:=r3;have x3:=r4;have nY:=r5;exact dv⟩
end Go.Proofs.Pk
