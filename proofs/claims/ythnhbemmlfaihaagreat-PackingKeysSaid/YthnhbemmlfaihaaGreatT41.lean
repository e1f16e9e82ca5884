import Derived.Test.YthnhbemmlfaihaaGreatT12
import Derived.Test.YthnhbemmlfaihaaGreatT37
import Derived.Test.YthnhbemmlfaihaaGreatT38
import Derived.Test.YthnhbemmlfaihaaGreatT39
set_option linter.unusedVariables false
set_option linter.unusedSimpArgs false
set_option maxRecDepth 10000
set_option maxHeartbeats 64000000
namespace Go.Proofs.Pk
open Go Go.Vc
theorem afm:∃f:List bU->List Source->Int->Source,f=gQ:=⟨_,rfl⟩
noncomputable def qQ:List bU->List Source->Int->Source:=Classical.choose afm
theorem OI:qQ=gQ:=xF afm
@[reducible] noncomputable def Pw:Vc.Spec where
 α:=Xy
 args y:=[.dF (Zd y.x) 0,.i .i64 (λ_=>y.sig)]
 pre y:=HX y
 res y:=.agg [.i .i64 (λ_=>(qQ y.x.n.ins y.x.k.cells y.sig).kind),.i .i64 (λ_=>(qQ y.x.n.ins y.x.k.cells y.sig).n)]
theorem aoY:cW (PP ()) 167 Pw:=by
 have h:Pw=Ld:=by unfold Pw Ld;rw [OI]
 rw [h];exact UY
structure Dg (y:ux):Prop where
 pb:XQ y
 map:(y.n.ins.length:Int)=y.m.n->y.n.outs.length=y.m.ay.length->jI y.n y.m
open Classical in
noncomputable def uh (y:ux):bt × Int:=if (y.n.ins.length:Int)=y.m.n/\y.n.outs.length=y.m.ay.length then (sw y.n y.m,0) else (⟨[],[],[],[]⟩,270)
theorem afn:∃f:ux->bt × Int,f=uh:=⟨_,rfl⟩
noncomputable def gV:ux->bt × Int:=Classical.choose afn
theorem y6:gV=uh:=xF afn
@[reducible] noncomputable def Lf:Vc.Spec where
 α:=ux
 args y:=[.agg [.sl 3 dk (λ_=>y.n.ins),.sl 5 dE (λ_=>y.n.gP),.sl 3 dk (λ_=>y.n.outs),.sl 1 bK (λ_=>y.n.ay)],.agg [.i .i64 (λ_=>y.m.n),.sl 3 rM (λ_=>y.m.cells),.sl 1 bK (λ_=>y.m.ay)]]
 pre y:=Dg y
 res y:=.dH [.agg (fB (gV y).1),.i .i64 (λ_=>(gV y).2)]
theorem agR {n:Net} {nc:Nat} {d:Lv} (hd:Vr n nc d) {np:Nat} (hnp:np<=600) {s:Source} (hs:qf n.ins np s) (hi:n.ins.length<=600) (h0:0<=d.c0/\d.c0<=1000000) (h1:0<=d.c1/\d.c1<=1000000):LZ ⟨s,others n.ins,d.t.k.bL,d.c0,d.c1⟩:=by
 have hl:(others n.ins).length<=n.ins.length:=AA _ _
 have hlen:=hd.len
 refine ⟨by show (others n.ins).length<=1000000;omega,λh=>?_,λh=>?_,λh=>?_,h0,h1⟩
 ·have h:s.kind=1:=h
  rcases hs with g|g|g|g
  ·have:=g.1;omega
  ·obtain ⟨w,hw,hk,hc⟩:=g.2
   have cT:=hd.bL w hw hk
   rw [<-hc] at cT
   show ∃v,d.t.k.bL s.n=some v/\0<=v/\v<=1000000
   cases hv:d.t.k.bL s.n with
   | none=>exact absurd hv cT
   | some v =>
    obtain ⟨b,hb,x,hx,_⟩:=hd.k.back _ _ hv
    have:=(bY.1 hx).1
    exact ⟨v,rfl,by omega,by omega⟩
  ·have:=g.1;omega
  ·have:=g.1;omega
 ·have h:s.kind=2:=h
  rcases hs with g|g|g|g
  ·have:=g.1;omega
  ·have:=g.1;omega
  ·exact ⟨g.2.1,by have:=g.2.2;show s.n<=1000000;omega⟩
  ·have:=g.1;omega
 ·have h:s.kind=3:=h
  rcases hs with g|g|g|g
  ·have:=g.1;omega
  ·have:=g.1;omega
  ·have:=g.1;omega
  ·exact g.2
def vu (ks:List Int) (l:List Block) (k:Nat):List Block:=l.mapIdx (λi x=>if i < k then Ix ks i x else x)
theorem anT (ks:List Int) (l:List Block):l=vu ks l 0:=by
 unfold vu
 refine n5 λi=>?_
 rw [AE]
 simp
theorem adg (ks:List Int) (l:List Block) (k:Nat):(vu ks l k).length=l.length:=by simp [vu]
theorem ap6 {ks:List Int} {l:List Block} {k:Nat} {x:Block} (h:l[k]?=some x):(vu ks l k)[k]?=some x:=by
 unfold vu
 rw [AE,h]
 simp
theorem anU {ks:List Int} {l:List Block} {k:Nat} {x:Block} {v:Int} (h:l[k]?=some x) (hv:ks[k]?=some v):(vu ks l k).set k ⟨x.ins,x.table,x.b9,x.bh,v⟩=vu ks l (k+1):=by
 refine n5 λi=>?_
 have aR:=(bY.1 h).1
 rw [jb]
 split
 ·rename_i e;subst e
  rw [adg,if_pos aR]
  unfold vu
  rw [AE,h]
  simp only [yY,N4,if_true]
  unfold Ix
  rw [ig,hv]
  rfl
 ·rename_i e
  unfold vu
  rw [AE,AE]
  cases l[i]? with
  | none=>rfl
  | some y =>
   simp only [yY]
   by_cases h1:i < k
   ·rw [if_pos h1,if_pos (by omega)]
   ·rw [if_neg h1,if_neg (by omega)]
theorem aoZ {ks:List Int} {l:List Block} {k:Nat} (h:l.length<=k):vu ks l k=l.mapIdx (Ix ks):=by
 unfold vu
 refine n5 λi=>?_
 rw [AE,AE]
 cases hi:l[i]? with
 | none=>rfl
 | some y =>
  have:=(bY.1 hi).1
  simp only [yY]
  rw [if_pos (by omega)]
@[reducible] def kS:KD:=.ints [.i64,.i64]
def as0 (x:Source):List SV:=[.agg (mB x)]
noncomputable def cPa (n m:Nat):Ctx:=eF n m [(170,Tryz.f170),(171,Tryz.f171),(165,Tryz.f165),(166,Tryz.f166),(168,Tryz.f168)] [(164,TV),(167,Pw),(26,Qe),(172,afe)] [165,166,168] [170]
theorem CP (n m:Nat):CB PP (cPa n m):=eH n m ⟨fo Tryz.func170,fo Tryz.func171,fo Tryz.func165,fo Tryz.func166,fo Tryz.func168,trivial⟩ ⟨amE,aoY,U2,aoQ,trivial⟩
theorem U3:cW (PP ()) 74 Lf:=by
 refine dT (CP 0 0) (fo Tryz.func74) (λa=>⟨⟨(λx=>(gU x).1),(λx=>(eO x).1),(λx=>(gU x).1),(λx=>(cP x).1),trivial⟩,⟨trivial,(λx=>(AM x).1),(λx=>(cP x).1),trivial⟩,trivial⟩) (λa=>⟨kE _,trivial,trivial⟩) ?_
 rintro ⟨⟨ins,gs,outs,dr⟩,⟨mn,mc,md⟩⟩ hx
 have hx:Dg ⟨⟨ins,gs,outs,dr⟩,⟨mn,mc,md⟩⟩:=hx
 have RV:=hx.pb
 have j2:eU ⟨ins,gs,outs,dr⟩:=RV.BM
 have wK:2+ins.length+gs.length<=600:=j2.pI
 obtain ⟨R,hR⟩:∃R,uh ⟨⟨ins,gs,outs,dr⟩,⟨mn,mc,md⟩⟩=R:=⟨_,rfl⟩
 have kp:Lf.res ⟨⟨ins,gs,outs,dr⟩,⟨mn,mc,md⟩⟩=.dH [.agg (fB R.1),.i .i64 (λ_=>R.2)]:=by rw [<-hR,<-y6]
 rw [kp]
 unfold uh at hR
 simp only at hR
 refine ⟨?_⟩
 cbv
 refine ⟨⟨⟨ins,gs,outs,dr⟩,⟨mn,mc,md⟩⟩,⟨by exact bQ,RV⟩,?_⟩
 cbv
 refine ⟨λh=>?_,λh=>?_⟩
 ·have eA:¬((ins.length:Int)=mn/\outs.length=md.length):=by
   have h':(!(aV (ins.length:Int) mn&&aV (outs.length:Int) (md.length:Int)))=true:=h.out
   rintro ⟨e1,e2⟩
   rw [e1,e2] at h'
   simp [aV] at h'
  rw [if_neg eA] at hR
  subst hR
  cbv
  exact ⟨by exact aL⟩
 have zK:(ins.length:Int)=mn/\outs.length=md.length:=by
  have h':(!(aV (ins.length:Int) mn&&aV (outs.length:Int) (md.length:Int)))=false:=h.out
  simp only [aV,Ez,er,beq_iff_eq] at h'
  exact ⟨h'.1,by exact aU⟩
 clear h
 rw [if_pos zK] at hR
 have hm:jI ⟨ins,gs,outs,dr⟩ ⟨mn,mc,md⟩:=hx.map zK.1 zK.2
 have fV:outs.length=md.length:=zK.2
 clear zK hx
 have hmc:mc.length<=gs.length:=hm.dK
 have MP:outs.length<=100000:=RV.outs
 obtain ⟨W,hW⟩:∃W:Nat->List Int->Option Int,∀i,W i=Bn ins i:=⟨_,λ_=>rfl⟩
 obtain ⟨O,hO⟩:∃O:Nat->List bU,∀i,O i=others (ins.take i):=⟨_,λ_=>rfl⟩
 have RT:(λ_=>none)=W 0:=by rw [hW];rfl
 have Zq:[]=O 0:=by rw [hO];rfl
 cbv
 refine Sat.iH 5 5 307 4 adP Oy rfl rfl ?_
 cbv
 refine Sat.iH 5 6 302 2 On yU rfl rfl ?_
 cbv
 refine Sat.iH 7 0 133 3 Hs gU rfl rfl ?_
 cbv
 refine Sat.iH 7 1 76 5 acP JV rfl rfl ?_
 cbv
 refine Sat.iH 7 2 133 3 Hs gU rfl rfl ?_
 cbv
 refine Sat.iH 7 3 3 1 n8 cP rfl rfl ?_
 cbv
 refine Sat.cd (CP 0 0) 14 8 [(.c 7 0,10)] (λi:Nat=>[(37,.sl 3 dk (λ_=>ins)),(38,.i .i64 (λ_=>(ins.length:Int))),(39,.i .i64 (λ_=>(i:Int)))]) (λi=>[(3,.map kW bK (λ_=>W i)),(10,.dyn 133 3 dk (λ_=>O i))]) (λi=>i<=ins.length) (λi=>ins.length - i) 0 (by exact ao) (by have im:=RT;have dP:=Zq;have j6:=Zq;exact bI) (cL _) ?_
 intro i hi
 have hi:i<=ins.length:=hi
 have h0:=n0 i
 have h1:=cj (i:=i) (by omega)
 cbv
 refine ⟨λh=>?_,λh=>?_⟩
 ·have bq:i < ins.length:=bG
  have a7:ins.length - (i+1) < ins.length - i:=by omega
  refine (bB bq).elim λw hw=>?_
  have uw:=λhk=>aeg hw hk
  have bA:=λhk=>aeh hw hk
  obtain ⟨v,hv⟩:∃v:Int,((O i).length:Int)=v:=⟨_,rfl⟩
  have gu:(O i).length<=600:=by rw [hO];have:(others (ins.take i)).length<=(ins.take i).length:=AA _ _;rw [kB] at this;omega
  have ef:((O i).length+1)*24<=140737488355328:=by omega
  have nj:(O i).length+1<=9223372036854775807:=by omega
  cbv
  refine ⟨w,⟨h0,hw⟩,?_⟩
  cbv
  refine ⟨λh=>?_,λh=>?_⟩
  ·have hk:w.kind≠1:=by have h':(!aV w.kind 1)=true:=h.out;simpa [aV] using h'
   have Zs:(λj=>if j=gC w then some v else W i j)=W (i+1):=by rw [hW (i+1),(bA hk).1,<-hv,hO,hW]
   have Zt:O i++[w]=O (i+1):=by rw [hO (i+1),(bA hk).2,<-hO]
   cbv
   refine ⟨v,⟨by have bm:=hv;exact cQ⟩,?_⟩
   cbv
   refine ⟨[w],⟨by exact bQ,ef,nj⟩,?_⟩
   cbv
   exact ⟨i+1,by exact ao,by have im:=Zs;have dP:=Zt;exact bI,⟨⟨bq,a7⟩⟩⟩
  ·have hk:w.kind=1:=by have h':(!aV w.kind 1)=false:=h.out;simpa [aV] using h'
   have Zs:W i=W (i+1):=by rw [hW (i+1),(uw hk).1,<-hW]
   have Zt:O i=O (i+1):=by rw [hO (i+1),(uw hk).2,<-hO]
   cbv
   exact ⟨i+1,by exact ao,by have im:=Zs;have dP:=Zt;exact bI,⟨⟨bq,a7⟩⟩⟩
 have bS:i=ins.length:=by
  have h':aS i ins.length=false:=h.out
  have h2:¬(i:Int) < ins.length:=by simpa [aS] using h'
  omega
 obtain ⟨w,hw⟩:∃w,W i=w:=⟨_,rfl⟩
 have qw:w=wh ins:=by rw [<-hw,bS,hW,apZ]
 obtain ⟨oi,xg⟩:∃o,O i=o:=⟨_,rfl⟩
 have nP:oi=others ins:=by rw [<-xg,bS,hO,kC]
 clear h h0 h1 hi RT Zq
 obtain ⟨K1,qz⟩:∃K:Nat->PK,∀i,K i=xh ⟨ins,gs,outs,dr⟩ ⟨mn,mc,md⟩ i:=⟨_,λ_=>rfl⟩
 have L5:K1 0=⟨[],[],false,false,λ_=>none⟩:=by rw [qz];rfl
 have a1:[]=(K1 0).parts:=by rw [L5]
 have a2:[]=(K1 0).cells:=by rw [L5]
 have a3:false=(K1 0).n0:=by rw [L5]
 have a4:false=(K1 0).n1:=by rw [L5]
 have a5:(λ_=>none)=(K1 0).bL:=by rw [L5]
 cbv
 refine Sat.cd (CP 0 0) 14 8 [(.c 5 5,8),(.c 5 6,9)] (λi:Nat=>[(62,.sl 3 rM (λ_=>mc)),(63,.i .i64 (λ_=>(mc.length:Int))),(64,.i .i64 (λ_=>(i:Int)))])
  (λi=>[(3,.map kW bK (λ_=>w)),(4,.map kF bK (λ_=>(K1 i).bL)),(5,.fix 298 [.sl 3 dk (λ_=>ins),.sl 5 dE (λ_=>gs),.sl 3 dk (λ_=>outs),.sl 1 bK (λ_=>dr),.e9 3,.own 8,.own 9,.b (λ_=>(K1 i).n0),.b (λ_=>(K1 i).n1),.e9 4]),(8,.dyn 307 4 vg (λ_=>(K1 i).parts)),(9,.dyn 302 2 mB (λ_=>(K1 i).cells)),(10,.dyn 133 3 dk (λ_=>oi))])
  (λi=>i<=mc.length) (λi=>mc.length - i) 0 (by exact ao) (by have im:=hw;have zV:=a5;have j6:=xg;have lD:=a1;have uG:=a2;have dP:=xg;have kI:=a1;have oU:=a2;have IX:=a3;have YA:=a4;exact bI) (cL _) ?_
 intro i hi
 have hi:i<=mc.length:=hi
 have h0:=n0 i
 have h1:=cj (i:=i) (by omega)
 cbv
 refine ⟨λh=>?_,λh=>?_⟩
 ·have bq:i < mc.length:=bG
  have a7:mc.length - (i+1) < mc.length - i:=by omega
  refine (bB bq).elim λc hc=>?_
  have hk:=agw j2 hm (i:=i) (by exact hi)
  rw [<-qz] at hk
  have Dq:=hm.cells i c hc
  have ql:(K1 i).cells.length=i:=hk.ok.nc
  have hce:XC ⟨⟨⟨ins,gs,outs,dr⟩,w,K1 i⟩,c⟩:=⟨j2,qw,by have:=hk.dK;show (K1 i).parts.length<=100000;omega,by show (K1 i).cells.length<=100000;omega,by
   show c.ins.length<=100000;rcases Dq.vD with h|h<;>omega,λg hg=>by
    have:=Dq.ins g hg
    show 0<=g/\g < 2+(ins.length:Int)+((K1 i).cells.length:Int)
    have:0<=g/\g < 2+(ins.length:Int)+(i:Int):=this
    omega,λx hx=>by
    obtain ⟨b,hb⟩:=nC hx
    have:=(hk.ok.src b x hb).1.k;omega,λg hg h3=>by
    have wS:=Dq.ins g hg
    have:=arh (m:=⟨mn,mc,md⟩) hk.ok wS.1 wS.2
    have h3:(gQ ins (K1 i).cells g).kind=3:=h3
    have this:qf ins (K1 i).parts.length (gQ ins (K1 i).cells g):=this
    rcases this with h|h|h|h
    ·have:=h.1;omega
    ·have:=h.1;omega
    ·have:=h.1;omega
    ·exact h.2⟩
  have cI:jt ins (K1 i) c=K1 (i+1):=by rw [qz (i+1),apW hc,<-qz]
  have e1:(jt ins (K1 i) c).parts=(K1 (i+1)).parts:=by rw [cI]
  have e2:(jt ins (K1 i) c).bL=(K1 (i+1)).bL:=by rw [cI]
  have e3:(jt ins (K1 i) c).cells=(K1 (i+1)).cells:=by rw [cI]
  have e4:(jt ins (K1 i) c).n0=(K1 (i+1)).n0:=by rw [cI]
  have e5:(jt ins (K1 i) c).n1=(K1 (i+1)).n1:=by rw [cI]
  cbv
  refine ⟨c,⟨h0,hc⟩,?_⟩
  cbv
  refine bV.io aoN ⟨⟨⟨ins,gs,outs,dr⟩,w,K1 i⟩,c⟩ [5,3,8,9,4] rfl (by exact bQ) (by exact ao) ⟨hce⟩ λ_ _=>?_
  cbv
  exact ⟨i+1,by exact ao,by have im:=e2;have j6:=e1;have lD:=e3;have dP:=e1;have kI:=e3;have jW:=e4;have mQ:=e5;exact bI,⟨⟨bq,a7⟩⟩⟩
 have bS:i=mc.length:=by
  have h':aS i mc.length=false:=h.out
  have h2:¬(i:Int) < mc.length:=by simpa [aS] using h'
  omega
 clear h h0 h1 hi
 obtain ⟨K2,MY⟩:∃K:Nat->PK,∀i,K i=xk ⟨ins,gs,outs,dr⟩ ⟨mn,mc,md⟩ i:=⟨_,λ_=>rfl⟩
 obtain ⟨Oo,Gs⟩:∃O:Nat->List bU,∀i,O i=others (outs.take i):=⟨_,λ_=>rfl⟩
 have L6:K1 i=K2 0:=by rw [MY,qz,bS];rfl
 have b1:(K1 i).parts=(K2 0).parts:=by rw [L6]
 have b2:(K1 i).cells=(K2 0).cells:=by rw [L6]
 have b3:(K1 i).n0=(K2 0).n0:=by rw [L6]
 have b4:(K1 i).n1=(K2 0).n1:=by rw [L6]
 have b5:(K1 i).bL=(K2 0).bL:=by rw [L6]
 have b6:[]=Oo 0:=by rw [Gs];rfl
 cbv
 refine Sat.cd (CP 0 0) 14 8 [(.c 5 5,8),(.c 7 2,12)] (λi:Nat=>[(73,.sl 3 dk (λ_=>outs)),(74,.i .i64 (λ_=>(outs.length:Int))),(75,.i .i64 (λ_=>(i:Int)))])
  (λi=>[(4,.map kF bK (λ_=>(K2 i).bL)),(5,.fix 298 [.sl 3 dk (λ_=>ins),.sl 5 dE (λ_=>gs),.sl 3 dk (λ_=>outs),.sl 1 bK (λ_=>dr),.e9 3,.own 8,.own 9,.b (λ_=>(K2 i).n0),.b (λ_=>(K2 i).n1),.e9 4]),(8,.dyn 307 4 vg (λ_=>(K2 i).parts)),(9,.dyn 302 2 mB (λ_=>(K2 i).cells)),(12,.dyn 133 3 dk (λ_=>Oo i))])
  (λi=>i<=outs.length) (λi=>outs.length - i) 0 (by exact ao) (by have im:=b5;have j6:=b1;have lD:=b2;have uG:=b6;have dP:=b1;have kI:=b2;have oU:=b6;have jW:=b3;have mQ:=b4;exact bI) (cL _) ?_
 intro j hj
 have hj:j<=outs.length:=hj
 have h0:=n0 j
 have h1:=cj (i:=j) (by omega)
 cbv
 refine ⟨λh=>?_,λh=>?_⟩
 ·have eE:j < outs.length:=bG
  have a7:outs.length - (j+1) < outs.length - j:=by omega
  refine (bB eE).elim λx jv=>?_
  refine (bB (l:=md) (i:=j) (by omega)).elim λd Jl=>?_
  have hk:=Wh j2 hm j
  rw [<-MY] at hk
  have ql:(K2 j).cells.length=mc.length:=hk.ok.nc
  have oX:0<=d/\d < 2+(ins.length:Int)+(mc.length:Int):=hm.ay d (cb Jl)
  have cI:K2 (j+1)=oN ins (K2 j) (x,d):=by rw [MY (j+1),apX jv Jl,<-MY]
  have tD:qf ins (K2 j).parts.length (gQ ins (K2 j).cells d):=Kc hk.ok.cells oX.1 (by rw [ql];exact oX.2)
  have ou:HX ⟨⟨⟨ins,gs,outs,dr⟩,w,K2 j⟩,d⟩:=⟨j2,qw,oX.1,by show d < 2+(ins.length:Int)+((K2 j).cells.length:Int);rw [ql];exact oX.2,by show (K2 j).cells.length<=1000000;omega⟩
  have jo:=j2.outs x (cb jv)
  obtain ⟨s,hs⟩:∃s,gQ ins (K2 j).cells d=s:=⟨_,rfl⟩
  have Mv:(qQ ins (K2 j).cells d).kind=s.kind:=by rw [OI,hs]
  have tK:(qQ ins (K2 j).cells d).n=s.n:=by rw [OI,hs]
  rw [hs] at tD
  have yD:Wf ⟨⟨⟨ins,gs,outs,dr⟩,w,K2 j⟩,s,lO x⟩:=⟨by have:=hk.dK;show (K2 j).parts.length<=1000000;omega,λh2=>by
   have h2:s.kind=2:=h2
   rcases tD with h|h|h|h
   ·have:=h.1;omega
   ·have:=h.1;omega
   ·exact h.2
   ·have:=h.1;omega⟩
  have gu:(Oo j).length<=100000:=by rw [Gs];have:(others (outs.take j)).length<=(outs.take j).length:=AA _ _;rw [kB] at this;omega
  have ef:((Oo j).length+1)*24<=140737488355328:=by omega
  have nj:(Oo j).length+1<=9223372036854775807:=by omega
  cbv
  refine ⟨x,⟨h0,jv⟩,?_⟩
  cbv
  refine ⟨λh=>?_,λh=>?_⟩
  ·have eX:x.kind=1:=bG
   have avC:=(j2.ins x ((j2.aN x eX).2 (cb jv))).2
   have hcw:IntKind.i64.wrap (IntKind.i64.wrap (8*x.i)+x.bit)=lO x:=by
    obtain ⟨⟨_,_,ha,hb,hc⟩,_⟩:=jo
    rw [cD (n:=8*x.i) (by omega) (by omega),cD (by omega) (by omega)];rfl
   have uw:j1 (K2 j) s (lO x)=K2 (j+1):=by rw [cI];unfold oN;simp only;rw [if_pos eX,hs]
   have e1:(j1 (K2 j) s (lO x)).parts=(K2 (j+1)).parts:=by rw [uw]
   have e2:(j1 (K2 j) s (lO x)).bL=(K2 (j+1)).bL:=by rw [uw]
   have e3:(j1 (K2 j) s (lO x)).cells=(K2 (j+1)).cells:=by rw [uw]
   have e4:(j1 (K2 j) s (lO x)).n0=(K2 (j+1)).n0:=by rw [uw]
   have e5:(j1 (K2 j) s (lO x)).n1=(K2 (j+1)).n1:=by rw [uw]
   have e6:Oo j=Oo (j+1):=by rw [Gs,Gs,(aeg jv eX).2]
   cbv
   refine ⟨d,⟨h0,Jl⟩,?_⟩
   cbv
   refine ⟨⟨⟨⟨ins,gs,outs,dr⟩,w,K2 j⟩,d⟩,⟨.inl ⟨by exact bQ,rfl⟩,ou⟩,?_⟩
   cbv
   refine bV.io apT ⟨⟨⟨ins,gs,outs,dr⟩,w,K2 j⟩,s,lO x⟩ [5,3,8,9,4] rfl (by exact bQ) (by exact ao) ⟨yD⟩ λ_ _=>?_
   cbv
   exact ⟨j+1,by exact ao,by have im:=e2;have j6:=e1;have lD:=e3;have uG:=e6;have dP:=e1;have kI:=e3;have oU:=e6;have jW:=e4;have mQ:=e5;exact bI,⟨⟨eE,a7⟩⟩⟩
  ·have eX:x.kind≠1:=bG
   have bW:K2 (j+1)={ K2 j with n0:=(K2 j).n0||d == 0,n1:=(K2 j).n1||d == 1 }:=by rw [cI];unfold oN;simp only;rw [if_neg eX]
   have e1:(K2 j).parts=(K2 (j+1)).parts:=by rw [bW]
   have e2:(K2 j).bL=(K2 (j+1)).bL:=by rw [bW]
   have e3:(K2 j).cells=(K2 (j+1)).cells:=by rw [bW]
   have RX:d=0->true=(K2 (j+1)).n0:=λh=>by rw [bW,h];simp
   have MZ:d≠0->(K2 j).n0=(K2 (j+1)).n0:=λh=>by rw [bW];simp [h]
   have RY:d=1->true=(K2 (j+1)).n1:=λh=>by rw [bW,h];simp
   have M1:d≠1->(K2 j).n1=(K2 (j+1)).n1:=λh=>by rw [bW];simp [h]
   have e6:Oo j++[x]=Oo (j+1):=by rw [Gs,Gs,(aeh jv eX).2]
   clear bW
   cbv
   refine ⟨[x],⟨by exact bQ,ef,nj⟩,?_⟩
   cbv
   refine ⟨d,⟨h0,Jl⟩,?_⟩
   cbv
   refine ⟨λh=>?_,λh=>?_⟩
   ·have RL:d < 2:=bG
    rcases (show d=0\/d=1 by omega) with pE|pE
    ·have e4:=RX pE
     have e5:=M1 (by omega)
     clear RX MZ RY M1
     cbv
     refine ⟨d,⟨h0,Jl⟩,?_⟩
     cbv
     refine ⟨0,⟨pE,by decide⟩,?_⟩
     cbv
     exact ⟨j+1,by exact ao,by have im:=e2;have j6:=e1;have lD:=e3;have uG:=e6;have dP:=e1;have kI:=e3;have oU:=e6;have jW:=e4;have IX:=e4;have mQ:=e5;exact bI,⟨⟨eE,a7⟩⟩⟩
    ·have e4:=MZ (by omega)
     have e5:=RY pE
     clear RX MZ RY M1
     cbv
     refine ⟨d,⟨h0,Jl⟩,?_⟩
     cbv
     refine ⟨1,⟨pE,by decide⟩,?_⟩
     cbv
     exact ⟨j+1,by exact ao,by have im:=e2;have j6:=e1;have lD:=e3;have uG:=e6;have dP:=e1;have kI:=e3;have oU:=e6;have jW:=e4;have IX:=e5;have mQ:=e5;exact bI,⟨⟨eE,a7⟩⟩⟩
   ·have RL:2<=d:=bG
    have e4:=MZ (by omega)
    have e5:=M1 (by omega)
    clear RX MZ RY M1
    cbv
    exact ⟨j+1,by exact ao,by have im:=e2;have j6:=e1;have lD:=e3;have uG:=e6;have dP:=e1;have kI:=e3;have oU:=e6;have jW:=e4;have mQ:=e5;exact bI,⟨⟨eE,a7⟩⟩⟩
 have uv:j=outs.length:=by
  have h':aS j outs.length=false:=h.out
  have h2:¬(j:Int) < outs.length:=by simpa [aS] using h'
  omega
 clear h h0 h1 hj
 obtain ⟨K3,FV,L7,aiP⟩:∃K:Nat->PK,K 0=nV ⟨ins,gs,outs,dr⟩ ⟨mn,mc,md⟩/\K 1=sW ⟨ins,gs,outs,dr⟩ ⟨mn,mc,md⟩/\K 2=qC ⟨ins,gs,outs,dr⟩ ⟨mn,mc,md⟩ :=
  ⟨λi=>match i with|0=>nV ⟨ins,gs,outs,dr⟩ ⟨mn,mc,md⟩|1=>sW ⟨ins,gs,outs,dr⟩ ⟨mn,mc,md⟩|_=>qC ⟨ins,gs,outs,dr⟩ ⟨mn,mc,md⟩,rfl,rfl,rfl⟩
 have L8:K2 j=K3 0:=by rw [MY,uv,FV];rfl
 obtain ⟨cA,By,hA1,RZ⟩:∃c:Nat->Int,c 0=0/\c 1=RP ⟨ins,gs,outs,dr⟩ ⟨mn,mc,md⟩/\c 2=c 1:=⟨λi=>match i with|0=>0|_=>RP ⟨ins,gs,outs,dr⟩ ⟨mn,mc,md⟩,rfl,rfl,rfl⟩
 obtain ⟨cB,rZ,Jg,hB2⟩:∃c:Nat->Int,c 0=0/\c 1=0/\c 2=RQ ⟨ins,gs,outs,dr⟩ ⟨mn,mc,md⟩:=⟨λi=>match i with|0=>0|1=>0|_=>RQ ⟨ins,gs,outs,dr⟩ ⟨mn,mc,md⟩,rfl,rfl,rfl⟩
 obtain ⟨qA,aiQ,aiR,aiS⟩:∃c:Nat->Int,c 0=0/\c 1=(if (K3 0).n0 then 2 else 0)/\c 2=c 1:=⟨λi=>match i with|0=>0|_=>(if (K3 0).n0 then 2 else 0),rfl,rfl,rfl⟩
 obtain ⟨qB,XR,XS,aiT⟩:∃c:Nat->Int,c 0=0/\c 1=0/\c 2=(if (K3 0).n1 then 2 else 0):=⟨λi=>match i with|0=>0|1=>0|_=>(if (K3 0).n1 then 2 else 0),rfl,rfl,rfl⟩
 obtain ⟨g1,g2,g3,g4,g5,g6,g7,g8⟩:=agx j2 hm
 have aiU:K3 1=oE (K3 0) 0 (K3 0).n0:=by rw [L7,FV];rfl
 have aiV:K3 2=oE (K3 1) 1 (K3 0).n1:=by rw [aiP,L7,FV];rfl
 have aiW:(K3 1).n1=(K3 0).n1:=by rw [L7,FV];exact g7
 have VH:(K3 0).parts.length<=1000000:=by have hf:(nV ⟨ins,gs,outs,dr⟩ ⟨mn,mc,md⟩).parts.length<=1200:=(Wh j2 hm outs.length).dK;rw [FV];omega
 have as1:(K3 1).parts.length<=1000000:=by rw [L7];omega
 have XT:cA 1=(if (K3 0).n0 then ((K3 0).parts.length:Int) else 0):=by rw [hA1,FV];rfl
 have XU:cB 2=(if (K3 0).n1 then ((K3 1).parts.length:Int) else 0):=by rw [hB2,FV,L7];rfl
 have c1:(K2 j).parts=(K3 0).parts:=by rw [L8]
 have c2:(K2 j).cells=(K3 0).cells:=by rw [L8]
 have c3:(K2 j).n0=(K3 0).n0:=by rw [L8]
 have c4:(K2 j).n1=(K3 0).n1:=by rw [L8]
 have c5:(K2 j).bL=(K3 0).bL:=by rw [L8]
 have c6:0=cA 0:=By.symm
 have c7:0=cB 0:=rZ.symm
 have c8:0=qA 0:=aiQ.symm
 have c9:0=qB 0:=XR.symm
 cbv
 refine Sat.cd (CP 0 0) 15 8 [(.c 5 5,8)] (λi:Nat=>[(14,.ptr 14 0),(120,.i .i64 (λ_=>(i:Int)))])
  (λi=>[(4,.map kF bK (λ_=>(K3 i).bL)),(5,.fix 298 [.sl 3 dk (λ_=>ins),.sl 5 dE (λ_=>gs),.sl 3 dk (λ_=>outs),.sl 1 bK (λ_=>dr),.e9 3,.own 8,.own 9,.b (λ_=>(K3 i).n0),.b (λ_=>(K3 i).n1),.e9 4]),(8,.dyn 307 4 vg (λ_=>(K3 i).parts)),(9,.dyn 302 2 mB (λ_=>(K3 i).cells)),
   (14,.fix 304 [.i .i64 (λ_=>qA i),.i .i64 (λ_=>cA i),.i .i64 (λ_=>qB i),.i .i64 (λ_=>cB i)])])
  (λi=>i<=2) (λi=>2 - i) 0 (by exact ao) (by have im:=c5;have j6:=c1;have lD:=c2;have dP:=c1;have kI:=c2;have jW:=c3;have mQ:=c4;have ov:=c6;have IV:=c7;have Yy:=c8;have Yz:=c9;exact bI) (cL _) ?_
 intro i hi
 have hi:i<=2:=hi
 have h0:=n0 i
 have h1:=cj (i:=i) (by omega)
 cbv
 refine ⟨λh=>?_,λh=>?_⟩
 ·have bq:i < 2:=by have h':aS i 2=true:=h.out;simp only [aS,decide_eq_true_eq] at h';omega
  clear h
  rcases (show i=0\/i=1 by omega) with rfl|rfl
  ·cbv
   refine ⟨0,⟨rfl,by decide⟩,?_⟩
   cbv
   refine ⟨λh=>?_,λh=>?_⟩
   ·have hb:(K3 0).n0=true:=h.out
    have ei:=hb
    have jK:K3 1=(K3 0).add ⟨[],0,-1,-1⟩:=by rw [aiU,ei];rfl
    have e1:((K3 0).add ⟨[],0,-1,-1⟩).parts=(K3 1).parts:=by rw [jK]
    have e2:((K3 0).add ⟨[],0,-1,-1⟩).bL=(K3 1).bL:=by rw [jK]
    have e3:((K3 0).add ⟨[],0,-1,-1⟩).cells=(K3 1).cells:=by rw [jK]
    have e4:((K3 0).add ⟨[],0,-1,-1⟩).n0=(K3 1).n0:=by rw [jK]
    have e5:((K3 0).add ⟨[],0,-1,-1⟩).n1=(K3 1).n1:=by rw [jK]
    have d1:2=qA 1:=by rw [aiR,if_pos ei]
    have d2:((K3 0).parts.length:Int)=cA 1:=by rw [XT,if_pos ei]
    have d3:qB 0=qB 1:=by rw [XR,XS]
    have d4:cB 0=cB 1:=by rw [rZ,Jg]
    have Gp:(K3 0).parts.length<=1000000:=VH
    cbv
    refine bV.io Cs ⟨⟨⟨ins,gs,outs,dr⟩,w,K3 0⟩,⟨[],0,-1,-1⟩⟩ [5,3,8,9,4] rfl (by exact bQ) (by exact ao) ⟨Gp⟩ λ_ _=>?_
    cbv
    refine ⟨0,⟨rfl,by decide⟩,?_⟩
    cbv
    exact ⟨1,by exact ao,by have im:=e2;have j6:=e1;have lD:=e3;have dP:=e1;have kI:=e3;have jW:=e4;have mQ:=e5;have bm:=d1;have lR:=d2;have zU:=d3;have IU:=d4;have ov:=d1;have IV:=d3;exact bI,⟨⟨by decide,by decide⟩⟩⟩
   ·have hb:(K3 0).n0=false:=h.out
    have ei:=hb
    have jK:K3 1=K3 0:=by rw [aiU,ei];rfl
    have e1:(K3 0).parts=(K3 1).parts:=by rw [jK]
    have e2:(K3 0).bL=(K3 1).bL:=by rw [jK]
    have e3:(K3 0).cells=(K3 1).cells:=by rw [jK]
    have e4:(K3 0).n0=(K3 1).n0:=by rw [jK]
    have e5:(K3 0).n1=(K3 1).n1:=by rw [jK]
    have d1:qA 0=qA 1:=by rw [aiQ,aiR,ei];rfl
    have d2:cA 0=cA 1:=by rw [By,XT,ei];rfl
    have d3:qB 0=qB 1:=by rw [XR,XS]
    have d4:cB 0=cB 1:=by rw [rZ,Jg]
    cbv
    exact ⟨1,by exact ao,by have im:=e2;have j6:=e1;have lD:=e3;have dP:=e1;have kI:=e3;have jW:=e4;have mQ:=e5;have bm:=d1;have lR:=d2;have zU:=d3;have IU:=d4;exact bI,⟨⟨by decide,by decide⟩⟩⟩
  ·cbv
   refine ⟨1,⟨rfl,by decide⟩,?_⟩
   cbv
   refine ⟨λh=>?_,λh=>?_⟩
   ·have hb:(K3 1).n1=true:=h.out
    have ei:(K3 0).n1=true:=by rw [<-aiW];exact hb
    have jK:K3 2=(K3 1).add ⟨[],1,-1,-1⟩:=by rw [aiV,ei];rfl
    have e1:((K3 1).add ⟨[],1,-1,-1⟩).parts=(K3 2).parts:=by rw [jK]
    have e2:((K3 1).add ⟨[],1,-1,-1⟩).bL=(K3 2).bL:=by rw [jK]
    have e3:((K3 1).add ⟨[],1,-1,-1⟩).cells=(K3 2).cells:=by rw [jK]
    have e4:((K3 1).add ⟨[],1,-1,-1⟩).n0=(K3 2).n0:=by rw [jK]
    have e5:((K3 1).add ⟨[],1,-1,-1⟩).n1=(K3 2).n1:=by rw [jK]
    have d1:qA 1=qA 2:=by rw [aiS]
    have d2:cA 1=cA 2:=by rw [RZ]
    have d3:2=qB 2:=by rw [aiT,if_pos ei]
    have d4:((K3 1).parts.length:Int)=cB 2:=by rw [XU,if_pos ei]
    have Gp:(K3 1).parts.length<=1000000:=as1
    cbv
    refine bV.io Cs ⟨⟨⟨ins,gs,outs,dr⟩,w,K3 1⟩,⟨[],1,-1,-1⟩⟩ [5,3,8,9,4] rfl (by exact bQ) (by exact ao) ⟨Gp⟩ λ_ _=>?_
    cbv
    refine ⟨1,⟨rfl,by decide⟩,?_⟩
    cbv
    exact ⟨2,by exact ao,by have im:=e2;have j6:=e1;have lD:=e3;have dP:=e1;have kI:=e3;have jW:=e4;have mQ:=e5;have bm:=d1;have lR:=d2;have zU:=d3;have IU:=d4;have ov:=d1;have IV:=d3;exact bI,⟨⟨by decide,by decide⟩⟩⟩
   ·have hb:(K3 1).n1=false:=h.out
    have ei:(K3 0).n1=false:=by rw [<-aiW];exact hb
    have jK:K3 2=K3 1:=by rw [aiV,ei];rfl
    have e1:(K3 1).parts=(K3 2).parts:=by rw [jK]
    have e2:(K3 1).bL=(K3 2).bL:=by rw [jK]
    have e3:(K3 1).cells=(K3 2).cells:=by rw [jK]
    have e4:(K3 1).n0=(K3 2).n0:=by rw [jK]
    have e5:(K3 1).n1=(K3 2).n1:=by rw [jK]
    have d1:qA 1=qA 2:=by rw [aiS]
    have d2:cA 1=cA 2:=by rw [RZ]
    have d3:qB 1=qB 2:=by rw [XS,aiT,ei];rfl
    have d4:cB 1=cB 2:=by rw [Jg,XU,ei];rfl
    cbv
    exact ⟨2,by exact ao,by have im:=e2;have j6:=e1;have lD:=e3;have dP:=e1;have kI:=e3;have jW:=e4;have mQ:=e5;have bm:=d1;have lR:=d2;have zU:=d3;have IU:=d4;exact bI,⟨⟨by decide,by decide⟩⟩⟩
 have hi2:i=2:=by
  have h':aS i 2=false:=h.out
  have h2:¬(i:Int) < 2:=by simpa [aS] using h'
  omega
 subst hi2
 clear h h0 h1 hi
 obtain ⟨T,hT⟩:∃T:Nat->TH,∀i,T i=xl ⟨ins,gs,outs,dr⟩ ⟨mn,mc,md⟩ i:=⟨_,λ_=>rfl⟩
 have Gt:T 0=⟨K3 2,[],λ_=>none⟩:=by rw [hT,aiP];rfl
 have f1:(K3 2).parts=(T 0).k.parts:=by rw [Gt]
 have f2:(K3 2).bL=(T 0).k.bL:=by rw [Gt]
 have f3:(K3 2).cells=(T 0).k.cells:=by rw [Gt]
 have f4:(K3 2).n0=(T 0).k.n0:=by rw [Gt]
 have f5:(K3 2).n1=(T 0).k.n1:=by rw [Gt]
 have f6:[]=(T 0).ay:=by rw [Gt]
 have f7:(λ_=>none)=(T 0).thr:=by rw [Gt]
 cbv
 refine Sat.CK 16 302 2 On yU rfl ?_
 cbv
 refine Sat.cd (CP 0 0) 17 8 [(.c 5 5,8),(.t 16,16)] (λi:Nat=>[(14,.ptr 14 0),(16,.own 16),(17,.e9 15),(138,.sl 3 dk (λ_=>outs)),(139,.i .i64 (λ_=>(outs.length:Int))),(140,.i .i64 (λ_=>(i:Int)))])
  (λi=>[(4,.map kF bK (λ_=>(T i).k.bL)),(5,.fix 298 [.sl 3 dk (λ_=>ins),.sl 5 dE (λ_=>gs),.sl 3 dk (λ_=>outs),.sl 1 bK (λ_=>dr),.e9 3,.own 8,.own 9,.b (λ_=>(T i).k.n0),.b (λ_=>(T i).k.n1),.e9 4]),(8,.dyn 307 4 vg (λ_=>(T i).k.parts)),(9,.dyn 302 2 mB (λ_=>(T i).k.cells)),
   (15,.map kS as0 (λ_=>(T i).thr)),(16,.dyn 302 2 mB (λ_=>(T i).ay))])
  (λi=>i<=outs.length) (λi=>outs.length - i) 0 (by exact ao) (by have im:=f2;have zV:=f7;have j6:=f1;have lD:=f3;have uG:=f6;have dP:=f1;have kI:=f3;have oU:=f6;have jW:=f4;have mQ:=f5;exact bI) (cL _) ?_
 intro i hi
 have hi:i<=outs.length:=hi
 have h0:=n0 i
 have h1:=cj (i:=i) (by omega)
 cbv
 refine ⟨λh=>?_,λh=>?_⟩
 ·have bq:i < outs.length:=bG
  have a7:outs.length - (i+1) < outs.length - i:=by omega
  refine (bB bq).elim λx kZ=>?_
  refine (bB (l:=md) (i:=i) (by omega)).elim λd rf=>?_
  have hk:=agy j2 hm i
  rw [<-hT] at hk
  have ql:(T i).k.cells.length=mc.length:=hk.ok.nc
  have oX:0<=d/\d < 2+(ins.length:Int)+(mc.length:Int):=hm.ay d (cb rf)
  have cI:T (i+1)=nJ ins (T i) (x,d):=by rw [hT (i+1),apY kZ rf,<-hT]
  have ou:HX ⟨⟨⟨ins,gs,outs,dr⟩,w,(T i).k⟩,d⟩:=⟨j2,qw,oX.1,by show d < 2+(ins.length:Int)+((T i).k.cells.length:Int);rw [ql];exact oX.2,by show (T i).k.cells.length<=1000000;omega⟩
  have Gp:(T i).k.parts.length<=1000000:=by have:=hk.dK;omega
  have aBr:(T i).ay.length<=100000:=by have h':(T i).ay.length<=outs.length:=hk.dl;omega
  have ef:((T i).ay.length+1)*16<=140737488355328:=by omega
  have nj:(T i).ay.length+1<=9223372036854775807:=by omega
  cbv
  refine ⟨x,⟨h0,kZ⟩,?_⟩
  cbv
  refine ⟨λh=>?_,λh=>?_⟩
  ·have eX:x.kind=1:=bG
   have wz:T i=T (i+1):=by rw [cI];unfold nJ;simp only;rw [if_pos eX]
   have e1:(T i).k.parts=(T (i+1)).k.parts:=by rw [<-wz]
   have e2:(T i).k.bL=(T (i+1)).k.bL:=by rw [<-wz]
   have e3:(T i).k.cells=(T (i+1)).k.cells:=by rw [<-wz]
   have e4:(T i).k.n0=(T (i+1)).k.n0:=by rw [<-wz]
   have e5:(T i).k.n1=(T (i+1)).k.n1:=by rw [<-wz]
   have e6:(T i).ay=(T (i+1)).ay:=by rw [<-wz]
   have e7:(T i).thr=(T (i+1)).thr:=by rw [<-wz]
   cbv
   exact ⟨i+1,by exact ao,by have im:=e2;have zV:=e7;have j6:=e1;have lD:=e3;have uG:=e6;have dP:=e1;have kI:=e3;have oU:=e6;have jW:=e4;have mQ:=e5;exact bI,⟨⟨bq,a7⟩⟩⟩
  ·have eX:x.kind≠1:=bG
   obtain ⟨s,hs⟩:∃s,qQ ins (T i).k.cells d=s:=⟨_,rfl⟩
   have Zu:gQ ins (T i).k.cells d=s:=by rw [<-OI];exact hs
   cbv
   refine ⟨d,⟨h0,rf⟩,?_⟩
   cbv
   refine ⟨⟨⟨⟨ins,gs,outs,dr⟩,w,(T i).k⟩,d⟩,⟨.inl ⟨by exact bQ,rfl⟩,ou⟩,?_⟩
   cbv
   refine ⟨λh=>?_,λh=>?_⟩
   ·have gS:s.kind=0:=by have h':aV (qQ ins (T i).k.cells d).kind 0=true:=h.out;rw [hs] at h';simpa [aV] using h'
    have s1:(qQ ins (T i).k.cells d).kind=s.kind:=by rw [hs]
    have s2:(qQ ins (T i).k.cells d).n=s.n:=by rw [hs]
    rcases DI:(T i).thr (Bi s) with _|u
    ·have XV:(T i).thr [(qQ ins (T i).k.cells d).kind,(qQ ins (T i).k.cells d).n]=none:=by rw [hs];exact DI
     obtain ⟨z,hz⟩:∃z:Int,((T i).k.parts.length:Int)=z:=⟨_,rfl⟩
     have bW:T (i+1)=⟨(T i).k.add ⟨[s],2,-1,-1⟩,(T i).ay++[(T i).k.here],λj=>if j=Bi s then some (T i).k.here else (T i).thr j⟩:=by rw [cI];unfold nJ;simp only;rw [if_neg eX,Zu,if_pos gS,DI]
     have e1:((T i).k.add ⟨[s],2,-1,-1⟩).parts=(T (i+1)).k.parts:=by rw [bW]
     have e2:((T i).k.add ⟨[s],2,-1,-1⟩).bL=(T (i+1)).k.bL:=by rw [bW]
     have e3:((T i).k.add ⟨[s],2,-1,-1⟩).cells=(T (i+1)).k.cells:=by rw [bW]
     have e4:((T i).k.add ⟨[s],2,-1,-1⟩).n0=(T (i+1)).k.n0:=by rw [bW]
     have e5:((T i).k.add ⟨[s],2,-1,-1⟩).n1=(T (i+1)).k.n1:=by rw [bW]
     have e6:(T i).ay++[⟨2,z⟩]=(T (i+1)).ay:=by rw [bW,<-hz];rfl
     have e7:(λj=>if j=[(qQ ins (T i).k.cells d).kind,(qQ ins (T i).k.cells d).n] then some (⟨2,z⟩:Source) else (T i).thr j)=(T (i+1)).thr:=by rw [bW,hs,<-hz];rfl
     clear bW
     cbv
     refine ⟨some none,⟨XV⟩,?_⟩
     cbv
     refine bV.io Cs ⟨⟨⟨ins,gs,outs,dr⟩,w,(T i).k⟩,⟨[s],2,-1,-1⟩⟩ [5,3,8,9,4] rfl (by exact bQ) (by exact ao) ⟨Gp⟩ λ_ _=>?_
     cbv
     refine ⟨⟨2,z⟩,⟨by have bm:=hz;exact cQ⟩,?_⟩
     cbv
     refine ⟨[⟨2,z⟩],⟨by have bm:=hz;exact cQ,ef,nj⟩,?_⟩
     cbv
     exact ⟨i+1,by exact ao,by have im:=e2;have zV:=e7;have j6:=e1;have lD:=e3;have uG:=e6;have dP:=e1;have kI:=e3;have oU:=e6;have jW:=e4;have mQ:=e5;exact bI,⟨⟨bq,a7⟩⟩⟩
    ·have XV:(T i).thr [(qQ ins (T i).k.cells d).kind,(qQ ins (T i).k.cells d).n]=some u:=by rw [hs];exact DI
     have bW:T (i+1)={ T i with ay:=(T i).ay++[u] }:=by rw [cI];unfold nJ;simp only;rw [if_neg eX,Zu,if_pos gS,DI]
     have e1:(T i).k.parts=(T (i+1)).k.parts:=by rw [bW]
     have e2:(T i).k.bL=(T (i+1)).k.bL:=by rw [bW]
     have e3:(T i).k.cells=(T (i+1)).k.cells:=by rw [bW]
     have e4:(T i).k.n0=(T (i+1)).k.n0:=by rw [bW]
     have e5:(T i).k.n1=(T (i+1)).k.n1:=by rw [bW]
     have e6:(T i).ay++[u]=(T (i+1)).ay:=by rw [bW]
     have e7:(T i).thr=(T (i+1)).thr:=by rw [bW]
     clear bW
     cbv
     refine ⟨some (some u),⟨XV⟩,?_⟩
     cbv
     refine ⟨[u],⟨by exact bQ,ef,nj⟩,?_⟩
     cbv
     exact ⟨i+1,by exact ao,by have im:=e2;have zV:=e7;have j6:=e1;have lD:=e3;have uG:=e6;have dP:=e1;have kI:=e3;have oU:=e6;have jW:=e4;have mQ:=e5;exact bI,⟨⟨bq,a7⟩⟩⟩
   ·have gS:s.kind≠0:=by have h':aV (qQ ins (T i).k.cells d).kind 0=false:=h.out;rw [hs] at h';simpa [aV] using h'
    have bW:T (i+1)={ T i with ay:=(T i).ay++[s] }:=by rw [cI];unfold nJ;simp only;rw [if_neg eX,Zu,if_neg gS]
    have e1:(T i).k.parts=(T (i+1)).k.parts:=by rw [bW]
    have e2:(T i).k.bL=(T (i+1)).k.bL:=by rw [bW]
    have e3:(T i).k.cells=(T (i+1)).k.cells:=by rw [bW]
    have e4:(T i).k.n0=(T (i+1)).k.n0:=by rw [bW]
    have e5:(T i).k.n1=(T (i+1)).k.n1:=by rw [bW]
    have e6:(T i).ay++[s]=(T (i+1)).ay:=by rw [bW]
    have e7:(T i).thr=(T (i+1)).thr:=by rw [bW]
    have s1:(qQ ins (T i).k.cells d).kind=s.kind:=by rw [hs]
    have s2:(qQ ins (T i).k.cells d).n=s.n:=by rw [hs]
    clear bW
    cbv
    refine ⟨[s],⟨by exact bQ,ef,nj⟩,?_⟩
    cbv
    exact ⟨i+1,by exact ao,by have im:=e2;have zV:=e7;have j6:=e1;have lD:=e3;have uG:=e6;have dP:=e1;have kI:=e3;have oU:=e6;have jW:=e4;have mQ:=e5;exact bI,⟨⟨bq,a7⟩⟩⟩
 have QL:i=outs.length:=by
  have h':aS i outs.length=false:=h.out
  have h2:¬(i:Int) < outs.length:=by simpa [aS] using h'
  omega
 clear h h0 h1 hi
 have hTi:T i=xl ⟨ins,gs,outs,dr⟩ ⟨mn,mc,md⟩ outs.length:=by rw [hT,QL]
 have Zv:=agy j2 hm outs.length
 rw [<-hTi] at Zv
 have Bf:=ac0 j2 hm
 have R0:oI ⟨ins,gs,outs,dr⟩ ⟨mn,mc,md⟩=⟨cA 2,cB 2,T i⟩:=by rw [aoO hm,hTi,RZ,hA1,hB2]
 rw [R0] at Bf
 obtain ⟨t,ht⟩:∃t,T i=t:=⟨_,rfl⟩
 rw [ht] at Zv Bf R0
 obtain ⟨z0,vy⟩:∃z,cA 2=z:=⟨_,rfl⟩
 obtain ⟨z1,iT⟩:∃z,cB 2=z:=⟨_,rfl⟩
 rw [vy,iT] at R0 Bf
 have t1:(T i).k.parts=t.k.parts:=by rw [ht]
 have t2:(T i).k.bL=t.k.bL:=by rw [ht]
 have t3:(T i).ay=t.ay:=by rw [ht]
 have ht6:t.k.parts.length<=600:=Bf.len
 have eI:0<=((T i).k.parts.length:Int)/\56*((T i).k.parts.length:Int)<=281474976710656/\((T i).k.parts.length:Int)<=9223372036854775807:=by rw [ht];omega
 have aiX:0<=z0/\z0<=1000000:=by rw [<-vy,RZ,XT];split<;>exact aU
 have aiY:0<=z1/\z1<=1000000:=by rw [<-iT,XU];split<;>exact aU
 obtain ⟨N,hN⟩:∃N:Source->Int,yi oi.length t.k.bL z0 z1=N:=⟨_,rfl⟩
 obtain ⟨B,hB⟩:∃B:Nat->List Block,∀k,B k=(t.k.parts.take k).map (λx=>⟨x.ins.map N,x.table,x.b9,x.bh,0⟩):=⟨_,λ_=>rfl⟩
 have hBz:[]=B 0:=by rw [hB];rfl
 cbv
 refine ⟨⟨by decide,eI.1,eI.2.1,eI.2.2⟩,?_⟩
 cbv
 refine Sat.cd (CP 0 0) 19 2 [(.t 5,18)] (λk:Nat=>[(5,.own 18),(11,.own 8),(12,.i .i64 (λ_=>(t.k.parts.length:Int))),(13,.i .i64 (λ_=>(k:Int)))])
  (λk=>[(4,.map kF bK (λ_=>t.k.bL)),(8,.dyn 307 4 vg (λ_=>t.k.parts)),(14,.fix 304 [.i .i64 (λ_=>qA 2),.i .i64 (λ_=>z0),.i .i64 (λ_=>qB 2),.i .i64 (λ_=>z1)]),(16,.dyn 302 2 mB (λ_=>t.ay)),(18,.dyn 76 5 oD (λ_=>B k))])
  (λk=>k<=t.k.parts.length) (λk=>t.k.parts.length - k) 0 (by ((try cbv)<;>(repeat' (first|with_reducible exact trivial|with_reducible refine And.intro ?_ ?_))<;>(try first|exact de.refl _|exact de.dyn rfl|exact de.map rfl|exact de.iter rfl rfl (.inl rfl)|exact de.iter rfl rfl (.inr rfl)|refine de.fix ?_|refine de.dyn ?_)<;>((repeat' first|exact dW.nil|exact Le.refl _|refine dW.cons ?_ ?_|exact Le.ic rfl|exact Le.bc rfl|exact Le.i rfl|exact Le.b rfl|exact Le.sl rfl|exact Le.mp rfl|exact Le.iB rfl|exact Le.sr rfl|refine Le.dp rfl (λ_=>?_)|refine Le.eL rfl (λ_ _=>rfl) (λ_=>?_) ?_|refine Le.agg ?_|refine Le.dH ?_|refine Le.fn ?_ ?_|refine Le.dF ?_|exact trivial|refine And.intro ?_ ?_|refine λ_=>?_|exact Le.any _)))<;>first|(refine Le.i ?_;show ((T i).k.parts.length:Int)=t.k.parts.length;rw [ht])) (by have im:=t2;have j6:=t1;have lD:=t3;have uG:=hBz;have dP:=t1;have kI:=t3;have oU:=hBz;have bm:=vy;have lR:=iT;exact bI) (cL _) ?_
 intro k hk
 have hk:k<=t.k.parts.length:=hk
 have h0:=n0 k
 have h1:=cj (i:=k) (by omega)
 cbv
 refine ⟨λh=>?_,λh=>?_⟩
 ·have db:k < t.k.parts.length:=bG
  have a7:t.k.parts.length - (k+1) < t.k.parts.length - k:=by omega
  refine (bB db).elim λx hx=>?_
  have RS:0<=(k:Int)/\(k:Int).toNat < t.k.parts.length:=⟨h0,by omega⟩
  have yJ:B k++[⟨x.ins.map N,x.table,x.b9,x.bh,0⟩]=B (k+1):=by rw [hB,hB,ER hx];simp
  have eb:(B k).length=k:=by rw [hB,ph,kB];omega
  have ef:((B k).length+1)*56<=140737488355328:=by omega
  have nj:(B k).length+1<=9223372036854775807:=by omega
  have z7:x.ins.map (yi oi.length t.k.bL z0 z1)=x.ins.map N:=by rw [hN]
  have RO:=Bf.k.src k x hx
  have Zf:QU ⟨x.ins,oi,t.k.bL,z0,z1⟩:=⟨by have:=RO.1.k;show x.ins.length<=1000000;omega,λs hs=>by rw [nP];exact agR (np:=k) Bf (by omega) (RO.2 s hs) (by show ins.length<=600;omega) aiX aiY⟩
  cbv
  refine ⟨⟨RS⟩,x,⟨hx,rfl⟩,?_⟩
  cbv
  refine ⟨⟨x.ins,oi,t.k.bL,z0,z1⟩,⟨.inl ⟨by exact bQ,rfl⟩,Zf⟩,?_⟩
  cbv
  refine ⟨[⟨x.ins.map N,x.table,x.b9,x.bh,0⟩],⟨by exact bQ,ef,nj⟩,?_⟩
  cbv
  exact ⟨k+1,by exact ao,by have dP:=yJ;exact bI,⟨⟨db,a7⟩⟩⟩
 have avH:k=t.k.parts.length:=by
  have h':aS k t.k.parts.length=false:=h.out
  have h2:¬(k:Int) < t.k.parts.length:=by simpa [aS] using h'
  omega
 clear h h0 h1 hk
 obtain ⟨Q0,RK⟩:∃Q,B k=Q:=⟨_,rfl⟩
 obtain ⟨DD,hDD⟩:∃D,t.ay.map (yi oi.length t.k.bL z0 z1)=D:=⟨_,rfl⟩
 obtain ⟨oj,Zw⟩:∃o,Oo j=o:=⟨_,rfl⟩
 have aiZ:l9 ⟨ins,gs,outs,dr⟩ ⟨mn,mc,md⟩=⟨oi,Q0,oj,DD⟩:=by
  rw [<-RK,hB,avH,kC,<-hN,<-hDD,<-Zw,Gs,uv,kC,nP]
  unfold l9
  rw [R0]
  rfl
 have wU:=aed j2 hm
 rw [aiZ] at wU
 have pL:De ⟨oi,Q0,oj,DD⟩:=⟨wU.1,⟨_,wU.2⟩,by show oi.length<=1000000;rw [nP];have:(others ins).length<=ins.length:=AA _ _;omega⟩
 have avI:QU ⟨t.ay,oi,t.k.bL,z0,z1⟩:=⟨by have h':t.ay.length<=outs.length:=Zv.dl;show t.ay.length<=1000000;omega,λs hs=>by rw [nP];exact agR Bf Bf.len (Bf.yG s hs).2.1 (by show ins.length<=600;omega) aiX aiY⟩
 obtain ⟨KS,MR⟩:∃K,lx ⟨oi,Q0,oj,DD⟩=K:=⟨_,rfl⟩
 have aBs:KS.length=Q0.length:=by rw [<-MR,TR]
 have hQ6:Q0.length<=600:=wU.1.dK
 obtain ⟨Q,hQ⟩:∃Q:Nat->List Block,∀k,Q k=vu KS Q0 k:=⟨_,λ_=>rfl⟩
 have hQz:B k=Q 0:=by rw [hQ,RK];exact anT _ _
 cbv
 refine ⟨⟨t.ay,oi,t.k.bL,z0,z1⟩,⟨.inl ⟨by exact bQ,rfl⟩,avI⟩,?_⟩
 cbv
 refine ⟨⟨oi,Q0,oj,DD⟩,⟨.inl ⟨by exact bQ,rfl⟩,pL⟩,?_⟩
 cbv
 have hKl:((lx ⟨oi,Q0,oj,DD⟩).length:Int)=KS.length:=by rw [MR]
 refine Sat.cd (CP 0 0) 19 24 [] (λk:Nat=>[(193,.sl 1 mH (λ_=>KS)),(194,.i .i64 (λ_=>(KS.length:Int))),(195,.i .i64 (λ_=>(k:Int)))])
  (λk=>[(12,.dyn 133 3 dk (λ_=>oj)),(18,.dyn 76 5 oD (λ_=>Q k))])
  (λk=>k<=KS.length) (λk=>KS.length - k) 0 (by have dJ:=MR;have bm:=hKl;exact bI) (by have j6:=hQz;have lD:=Zw;have dP:=hQz;have kI:=Zw;exact bI) (cL _) ?_
 intro k hk
 have hk:k<=KS.length:=hk
 have h0:=n0 k
 have h1:=cj (i:=k) (by omega)
 cbv
 refine ⟨λh=>?_,λh=>?_⟩
 ·have db:k < KS.length:=bG
  have a7:KS.length - (k+1) < KS.length - k:=by omega
  refine (bB db).elim λv hv=>?_
  refine (bB (l:=Q0) (i:=k) (by omega)).elim λx hx=>?_
  have hqi:0<=(k:Int)/\(k:Int).toNat < (Q k).length:=⟨h0,by rw [hQ,adg];omega⟩
  have hqx:(Q k)[k]?=some x:=by rw [hQ];exact ap6 hx
  have hqn:(Q k).set ((k:Int)).toNat ⟨x.ins,x.table,x.b9,x.bh,v⟩=Q (k+1):=by rw [hQ,hQ];exact anU hx hv
  cbv
  refine ⟨v,⟨h0,hv⟩,?_⟩
  cbv
  refine ⟨⟨hqi⟩,?_⟩
  cbv
  refine ⟨(x,⟨x.ins,x.table,x.b9,x.bh,v⟩),⟨hqx,rfl,by exact bQ⟩,?_⟩
  cbv
  exact ⟨k+1,by exact ao,by have dP:=hqn;exact bI,⟨⟨db,a7⟩⟩⟩
 have aBt:k=KS.length:=by
  have h':aS k KS.length=false:=h.out
  have h2:¬(k:Int) < KS.length:=by simpa [aS] using h'
  omega
 have xq:R=(⟨oi,Q k,oj,DD⟩,0):=by
  rw [<-hR,hQ,aoZ (by omega)]
  unfold sw
  rw [aiZ,MR]
  rfl
 have r1:oi=R.1.ins:=by rw [xq]
 have r2:Q k=R.1.blocks:=by rw [xq]
 have r3:oj=R.1.outs:=by rw [xq]
 have r4:t.ay.map (yi oi.length t.k.bL z0 z1)=R.1.ay:=by rw [xq,hDD]
 have r5:0=R.2:=by rw [xq]
 clear xq h h0 h1 hk
 cbv
 exact ⟨by have dJ:=r1;have pH:=r2;have yw:=r3;have yx:=r4;have ov:=r5;exact dy⟩
end Go.Proofs.Pk
