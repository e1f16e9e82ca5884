import Derived.Test.YthnhbemmlfaihaaGreatU7
import Derived.Test.YthnhbemmlfaihaaGreatU30
import Derived.Test.YthnhbemmlfaihaaGreatU31
set_option linter.unusedVariables false
set_option linter.unusedSimpArgs false
set_option maxRecDepth 10000
set_option maxHeartbeats 64000000
namespace Go.Proofs.Pk
open Go Go.Vc
def Fx (l:List Int) (i:Nat):Int->Option Unit:=λk=>if k∈l.take i then some () else none
theorem anB {l:List Int} {i:Nat} {x:Int} (h:l[i]?=some x):(λj=>if j=x then some () else Fx l i j)=Fx l (i+1):=by
 funext j
 unfold Fx
 rw [take_one h]
 by_cases e:j=x
 ·simp [e]
 ·simp [e]
open Classical in
noncomputable def zf (p q:bC):Bool:=decide (EV p q)
structure aiB where
 p:bC
 q:bC
structure LQ (y:aiB):Prop where
 pi:y.p.ins.length<=1000000
 po:y.p.outs.length<=1000000
 pb:y.p.blocks.length<=1000000
 pd:y.p.ay.length<=1000000
 pk:∀x∈y.p.blocks,x.ins.length<=1000000
 qi:y.q.ins.length<=1000000
 qo:y.q.outs.length<=1000000
 qb:y.q.blocks.length<=1000000
 qd:y.q.ay.length<=1000000
 qk:∀x∈y.q.blocks,x.ins.length<=1000000
 used:∀x∈y.q.blocks,∀s∈x.ins,0<=s/\s < y.q.sigs
 ay:∀s∈y.q.ay,0<=s/\s < y.q.sigs
@[reducible] noncomputable def Qh:Vc.Spec where
 α:=aiB
 args y:=[.agg (fH y.p),.agg (fH y.q)]
 pre y:=LQ y
 res y:=.b (λ_=>zf y.p y.q)
noncomputable def cSm (n m:Nat):Ctx:=eu n m [] [(92,VV),(96,VW),(97,ae6)]
theorem Qi (n m:Nat):CB PP (cSm n m):=ez n m trivial ⟨apx,apy,aoy,trivial⟩
theorem aec:cZ (PP ()) 24 Qh:=by
 refine dT (Qi 0 0) (fo Tryz.func24) (λa=>⟨kD a.p,kD a.q,trivial⟩) (λa=>trivial) ?_
 rintro ⟨⟨pins,dQ,fq,fg⟩,⟨ins,blocks,outs,ay⟩⟩ hx
 have hx:LQ ⟨⟨pins,dQ,fq,fg⟩,⟨ins,blocks,outs,ay⟩⟩:=hx
 obtain ⟨R,hR⟩:∃R,zf ⟨pins,dQ,fq,fg⟩ ⟨ins,blocks,outs,ay⟩=R:=⟨_,rfl⟩
 have mS:Qh.res ⟨⟨pins,dQ,fq,fg⟩,⟨ins,blocks,outs,ay⟩⟩=.b (λ_=>R):=by rw [<-hR]
 rw [mS]
 have eA:¬EV ⟨pins,dQ,fq,fg⟩ ⟨ins,blocks,outs,ay⟩->false=R:=λh=>by rw [<-hR];unfold zf;simp [h]
 have zt:EV ⟨pins,dQ,fq,fg⟩ ⟨ins,blocks,outs,ay⟩->true=R:=λh=>by rw [<-hR];unfold zf;simp [h]
 clear mS hR
 have avk:pins.length<=1000000:=hx.pi
 have avl:ins.length<=1000000:=hx.qi
 have aBG:dQ.length<=1000000:=hx.pb
 have avm:blocks.length<=1000000:=hx.qb
 obtain ⟨E1,hE1⟩:∃E,jL pins ins=E:=⟨_,rfl⟩
 obtain ⟨E2,hE2⟩:∃E,jL fq outs=E:=⟨_,rfl⟩
 refine ⟨?_⟩
 cbv
 refine ⟨⟨pins,ins⟩,⟨by exact bQ,hx.pi,hx.qi⟩,?_⟩
 cbv
 refine ⟨λh=>?_,λh=>?_⟩
 ·have e:false=R:=eA λhs=>by
   have h':(!jL pins ins)=true:=h.out
   rw [sY.2 hs.ins] at h';cases h'
  cbv
  exact ⟨by exact aK⟩
 have hi:pins=ins:=by
  have h':(!jL pins ins)=false:=h.out
  exact sY.1 (by simpa using h')
 clear h
 cbv
 refine ⟨⟨fq,outs⟩,⟨by exact bQ,hx.po,hx.qo⟩,?_⟩
 cbv
 refine ⟨λh=>?_,λh=>?_⟩
 ·have e:false=R:=eA λhs=>by
   have h':(!jL fq outs)=true:=h.out
   rw [sY.2 hs.outs] at h';cases h'
  cbv
  exact ⟨by exact aK⟩
 have ho:fq=outs:=by
  have h':(!jL fq outs)=false:=h.out
  exact sY.1 (by simpa using h')
 clear h
 cbv
 refine ⟨λh=>?_,λh=>?_⟩
 ·have e:false=R:=eA λhs=>by
   have h':(!aV (dQ.length:Int) (blocks.length:Int))=true:=h.out
   have hl:dQ.length=blocks.length:=hs.len
   rw [hl] at h';simp [aV] at h'
  cbv
  exact ⟨by exact aK⟩
 have hl:dQ.length=blocks.length:=by
  have h':(!aV (dQ.length:Int) (blocks.length:Int))=false:=h.out
  simp only [aV,Ee,beq_iff_eq] at h'
  exact aT
 clear h
 obtain ⟨A,hA⟩:∃A:Nat->Int->Option Int,∀i,A i=atR dQ i:=⟨_,λ_=>rfl⟩
 have Be:(λ_=>none)=A 0:=by rw [hA];rfl
 cbv
 refine Sat.cf (Qi 0 0) 4 6 [] (λi:Nat=>[(44,.sl 5 ph (λ_=>dQ)),(45,.i .i64 (λ_=>(dQ.length:Int))),(46,.i .i64 (λ_=>(i:Int)))]) (λi=>[(2,.map kU bM (λ_=>A i))]) (λi=>i<=dQ.length) (λi=>dQ.length - i) 0 (by exact ao) (by have ij:=Be;exact bJ) (cN _) ?_
 intro i iO
 have iO:i<=dQ.length:=iO
 have h0:=n0 i
 have h1:=cq (i:=i) (by omega)
 cbv
 refine ⟨λh=>?_,λh=>?_⟩
 ·have bt:i < dQ.length:=bI
  have bh:dQ.length - (i+1) < dQ.length - i:=by omega
  refine (bD bt).elim λx ku=>?_
  obtain ⟨v,hv⟩:∃v:Int,(i:Int)=v:=⟨_,rfl⟩
  have cJ:(λj=>if j=x.key then some v else A i j)=A (i+1):=by rw [hA,hA,<-hv];exact Uh ku
  cbv
  refine ⟨x,⟨h0,ku⟩,?_⟩
  cbv
  refine ⟨v,⟨by have bg:=hv;exact cP⟩,?_⟩
  cbv
  exact ⟨i+1,by exact ao,by have ij:=cJ;exact bJ,⟨⟨bt,bh⟩⟩⟩
 have b9:i=dQ.length:=by
  have h':aU i dQ.length=false:=h.out
  have h2:¬(i:Int) < dQ.length:=by simpa [aU] using h'
  omega
 obtain ⟨iU,iT⟩:∃a,A i=a:=⟨_,rfl⟩
 have Ik:iU=MJ ⟨pins,dQ,fq,fg⟩:=by rw [<-iT,hA,b9];rfl
 clear h h0 h1 iO Be
 obtain ⟨M,hM⟩:∃M:Nat->Int->Option Unit,∀i,M i=Fx (gE ⟨ins,blocks,outs,ay⟩) i:=⟨_,λ_=>rfl⟩
 have RV:(λ_=>none)=M 0:=by rw [hM];funext j;simp [Fx]
 cbv
 refine Sat.cf (Qi 0 0) 5 6 [] (λi:Nat=>[(8,.fc 4),(58,.sl 5 ph (λ_=>blocks)),(59,.i .i64 (λ_=>(blocks.length:Int))),(60,.i .i64 (λ_=>(i:Int)))]) (λi=>[(2,.map kU bM (λ_=>iU)),(4,.map kU C0 (λ_=>M i))])
  (λi=>i<=blocks.length/\(∀j y,j < i->blocks[j]?=some y->y.key∈gE ⟨pins,dQ,fq,fg⟩)/\((gE ⟨ins,blocks,outs,ay⟩).take i).Nodup) (λi=>blocks.length - i) 0 (by exact ao) (by have ij:=RV;have zI:=iT;exact bJ) ⟨cN _,λj y h=>by omega,by simp⟩ ?_
 rintro i ⟨iO,eV,gI⟩
 have iO:i<=blocks.length:=iO
 have eV:∀j y,j < i->blocks[j]?=some y->y.key∈gE ⟨pins,dQ,fq,fg⟩:=eV
 have gI:((gE ⟨ins,blocks,outs,ay⟩).take i).Nodup:=gI
 have h0:=n0 i
 have h1:=cq (i:=i) (by omega)
 cbv
 refine ⟨λh=>?_,λh=>?_⟩
 ·have bt:i < blocks.length:=bI
  have bh:blocks.length - (i+1) < blocks.length - i:=by omega
  refine (bD bt).elim λy Du=>?_
  have rh:(gE ⟨ins,blocks,outs,ay⟩)[i]?=some y.key:=by unfold gE;rw [m7];show (blocks[i]?).map _=_;rw [Du];rfl
  have xg:y.key∈gE ⟨ins,blocks,outs,ay⟩:=cb rh
  cbv
  refine ⟨y,⟨h0,Du⟩,?_⟩
  cbv
  rcases aiC:iU y.key with _|v
  ·have e:false=R:=eA λhs=>by
    have h2:=OZ.2 (hs.mem y (cb Du))
    rw [<-Ik,aiC] at h2;cases h2
   refine ⟨some none,⟨rfl⟩,?_⟩
   cbv
   exact ⟨by exact aK⟩
  ·have hkp:y.key∈gE ⟨pins,dQ,fq,fg⟩:=OZ.1 (by rw [<-Ik,aiC];rfl)
   refine ⟨some (some v),⟨rfl⟩,?_⟩
   by_cases dM:y.key∈(gE ⟨ins,blocks,outs,ay⟩).take i
   ·have Zd:M i y.key=some ():=by rw [hM];unfold Fx;rw [if_pos dM]
    have e:false=R:=eA λhs=>by
     have hq:(gE ⟨ins,blocks,outs,ay⟩).Nodup:=hs.qd
     obtain ⟨j,hj⟩:=nX dM
     have er:=(bW.1 hj).1
     rw [lJ] at er
     rw [NX (by omega)] at hj
     have:=TK hq hj rh
     omega
    cbv
    refine ⟨some (some ()),⟨Zd⟩,?_⟩
    cbv
    exact ⟨by exact aK⟩
   ·have Zd:M i y.key=none:=by rw [hM];unfold Fx;rw [if_neg dM]
    have hMs:(λj=>if j=y.key then some () else M i j)=M (i+1):=by rw [hM,hM];exact anB rh
    have bB:i+1<=blocks.length/\(∀j y,j < i+1->blocks[j]?=some y->y.key∈gE ⟨pins,dQ,fq,fg⟩)/\((gE ⟨ins,blocks,outs,ay⟩).take (i+1)).Nodup:=⟨bt,λj z hj hz=>by
     by_cases e:j=i
     ·subst e;rw [Du] at hz;cases hz;exact hkp
     ·exact eV j z (by omega) hz,by
     rw [take_one rh]
     exact N3.2 ⟨gI,by simp,λa ha b hb e=>by simp at hb;subst hb;subst e;exact dM ha⟩⟩
    cbv
    refine ⟨some none,⟨Zd⟩,?_⟩
    cbv
    refine ⟨(),⟨by exact bQ⟩,?_⟩
    cbv
    exact ⟨i+1,by exact ao,by have ij:=hMs;exact bJ,⟨⟨bB,bh⟩⟩⟩
 have uh:i=blocks.length:=by
  have h':aU i blocks.length=false:=h.out
  have h2:¬(i:Int) < blocks.length:=by simpa [aU] using h'
  omega
 have hqd:xD ⟨ins,blocks,outs,ay⟩:=by
  have dq:(gE ⟨ins,blocks,outs,ay⟩).length=i:=by rw [uh];simp [gE]
  rw [<-dq,lK] at gI
  exact gI
 have eV:∀y∈blocks,y.key∈gE ⟨pins,dQ,fq,fg⟩:=λy hy=>by
  obtain ⟨j,hj⟩:=nX hy
  exact eV j y (by rw [uh];exact (bW.1 hj).1) hj
 clear h h0 h1 iO RV
 obtain ⟨ks,k1,k2,k3,k4,k5⟩:=dedup (gE ⟨pins,dQ,fq,fg⟩)
 have dq:(gE ⟨pins,dQ,fq,fg⟩).length=dQ.length:=by simp [gE]
 have tp:ks.Nodup/\∀n,n∈ks↔(iU n).isSome=true:=⟨k1,λn=>by rw [k2,Ik,OZ]⟩
 cbv
 refine ⟨ks,⟨tp⟩,?_⟩
 cbv
 refine ⟨λh=>?_,λh=>?_⟩
 ·have e:false=R:=eA λhs=>by
   have h':(!aV (ks.length:Int) (dQ.length:Int))=true:=h.out
   rw [k5 hs.pd,dq] at h';simp [aV] at h'
  cbv
  exact ⟨by exact aK⟩
 have RX:xD ⟨pins,dQ,fq,fg⟩:=k4 (by
  have h':(!aV (ks.length:Int) (dQ.length:Int))=false:=h.out
  simp only [aV,Ee,beq_iff_eq] at h'
  rw [dq];exact aT)
 clear h tp
 obtain ⟨N,hN⟩:∃N,wK pins.length ⟨ins,blocks,outs,ay⟩ iU=N:=⟨_,rfl⟩
 have Ze:∀s,0<=s->s < (⟨ins,blocks,outs,ay⟩:bC).sigs->N s=oM ⟨pins,dQ,fq,fg⟩ ⟨ins,blocks,outs,ay⟩ s:=λs h0 h1=>by
  rw [<-hN,Ik];exact apH (p:=⟨pins,dQ,fq,fg⟩) RX eV h0 h1
 have Ga:∀s,0<=s->s < (⟨ins,blocks,outs,ay⟩:bC).sigs->LO ⟨s,⟨pins,dQ,fq,fg⟩,⟨ins,blocks,outs,ay⟩,iU⟩:=λs h0 h1=>⟨avk,avl,avm,h0,h1,λy hy=>by
  obtain ⟨x,e,gU,_⟩:=Vn RX (eV y hy)
  have aR:Bx ⟨pins,dQ,fq,fg⟩ y.key < dQ.length:=(bW.1 gU).1
  refine ⟨_,by show iU y.key=_;rw [Ik];exact e,by omega,by omega⟩⟩
 cbv
 refine Sat.cf (Qi 0 0) 7 16 [] (λi:Nat=>[(95,.sl 5 ph (λ_=>blocks)),(96,.i .i64 (λ_=>(blocks.length:Int))),(97,.i .i64 (λ_=>(i:Int)))]) (λi=>[])
  (λi=>i<=blocks.length/\∀j y,j < i->blocks[j]?=some y->HD ⟨pins,dQ,fq,fg⟩ ⟨ins,blocks,outs,ay⟩ y) (λi=>blocks.length - i) 0 (by exact ao) (by exact ao) ⟨cN _,λj y h=>by omega⟩ ?_
 rintro i ⟨iO,zR⟩
 have iO:i<=blocks.length:=iO
 have zR:∀j y,j < i->blocks[j]?=some y->HD ⟨pins,dQ,fq,fg⟩ ⟨ins,blocks,outs,ay⟩ y:=zR
 have h0:=n0 i
 have h1:=cq (i:=i) (by omega)
 cbv
 refine ⟨λh=>?_,λh=>?_⟩
 ·have bt:i < blocks.length:=bI
  have bh:blocks.length - (i+1) < blocks.length - i:=by omega
  refine (bD bt).elim λy Du=>?_
  have zU:=cb Du
  refine (Vn RX (eV y zU)).elim λx Yx=>?_
  obtain ⟨ha,gU,mq⟩:=Yx
  obtain ⟨v,hv⟩:∃v:Int,(Bx ⟨pins,dQ,fq,fg⟩ y.key:Int)=v:=⟨_,rfl⟩
  rw [hv] at ha
  have Df:iU y.key=some v:=by rw [Ik];exact ha
  have gu:0<=v/\dQ[v.toNat]?=some x:=by rw [<-hv];exact ⟨by omega,gU⟩
  have avn:∀z,dQ[Bx ⟨pins,dQ,fq,fg⟩ y.key]?=some z->z=x:=λz hz=>by
   have gU:dQ[Bx ⟨pins,dQ,fq,fg⟩ y.key]?=some x:=gU
   rw [gU] at hz;cases hz;rfl
  have HI:¬(x.table=y.table/\x.bR=y.bR/\x.aZ=y.aZ/\x.ins=y.ins.map N)->false=R:=λhn=>eA λhs=>by
   obtain ⟨z,hz,g1,g2,g3,g4⟩:=hs.Q7 y zU
   have:=avn z hz
   subst this
   refine hn ⟨g1,g2,g3,?_⟩
   rw [g4]
   exact (map_eq λs kr=>Ze s (hx.used y zU s kr).1 (hx.used y zU s kr).2).symm
  have wz:x.table=y.table->x.bR=y.bR->x.aZ=y.aZ->x.ins=y.ins.map N->HD ⟨pins,dQ,fq,fg⟩ ⟨ins,blocks,outs,ay⟩ y:=λg1 g2 g3 g4=>⟨x,gU,g1,g2,g3,by
   rw [g4]
   exact map_eq λs kr=>Ze s (hx.used y zU s kr).1 (hx.used y zU s kr).2⟩
  have Zf:QY ⟨y.ins,⟨pins,dQ,fq,fg⟩,⟨ins,blocks,outs,ay⟩,iU⟩:=⟨hx.qk y zU,λs hs=>Ga s (hx.used y zU s hs).1 (hx.used y zU s hs).2⟩
  obtain ⟨m2,jH⟩:∃m,y.ins.map N=m:=⟨_,rfl⟩
  have Zg:(⟨x.ins,m2⟩:nK Int).a.length<=1000000/\(⟨x.ins,m2⟩:nK Int).b.length<=1000000:=⟨hx.pk x (cb gU),by show m2.length<=1000000;rw [<-jH,qJ];exact hx.qk y zU⟩
  have Zh:y.ins.map (wK pins.length ⟨ins,blocks,outs,ay⟩ iU)=m2:=by rw [hN,jH]
  cbv
  refine ⟨y,⟨h0,Du⟩,?_⟩
  cbv
  refine ⟨some (some v),⟨Df⟩,?_⟩
  cbv
  refine ⟨x,⟨gu⟩,?_⟩
  cbv
  refine ⟨λh=>?_,λh=>?_⟩
  ·have e:false=R:=HI λg=>by
    have h':(!aV x.table y.table)=true:=h.out
    rw [g.1] at h';simp [aV] at h'
   cbv
   exact ⟨by exact aK⟩
  have g1:x.table=y.table:=by have h':(!aV x.table y.table)=false:=h.out;simpa [aV] using h'
  clear h
  cbv
  refine ⟨λh=>?_,λh=>?_⟩
  ·have e:false=R:=HI λg=>by
    have h':(!aV x.bR y.bR)=true:=h.out
    rw [g.2.1] at h';simp [aV] at h'
   cbv
   exact ⟨by exact aK⟩
  have g2:x.bR=y.bR:=by have h':(!aV x.bR y.bR)=false:=h.out;simpa [aV] using h'
  clear h
  cbv
  refine ⟨λh=>?_,λh=>?_⟩
  ·have e:false=R:=HI λg=>by
    have h':(!aV x.aZ y.aZ)=true:=h.out
    rw [g.2.2.1] at h';simp [aV] at h'
   cbv
   exact ⟨by exact aK⟩
  have g3:x.aZ=y.aZ:=by have h':(!aV x.aZ y.aZ)=false:=h.out;simpa [aV] using h'
  clear h
  cbv
  refine ⟨⟨y.ins,⟨pins,dQ,fq,fg⟩,⟨ins,blocks,outs,ay⟩,iU⟩,⟨.inl ⟨by exact bQ,rfl⟩,Zf⟩,?_⟩
  cbv
  refine ⟨⟨x.ins,m2⟩,⟨by have dJ:=Zh;exact cP,Zg⟩,?_⟩
  cbv
  refine ⟨λh=>?_,λh=>?_⟩
  ·have e:false=R:=HI λg=>by
    have h':(!jL x.ins m2)=true:=h.out
    rw [sY.2 (g.2.2.2.trans jH)] at h';cases h'
   cbv
   exact ⟨by exact aK⟩
  have g4:x.ins=y.ins.map N:=by
   have h':(!jL x.ins m2)=false:=h.out
   exact (sY.1 (by simpa using h')).trans jH.symm
  have bB:i+1<=blocks.length/\∀j y,j < i+1->blocks[j]?=some y->HD ⟨pins,dQ,fq,fg⟩ ⟨ins,blocks,outs,ay⟩ y:=⟨bt,λj z hj hz=>by
   by_cases e:j=i
   ·subst e;rw [Du] at hz;cases hz;exact wz g1 g2 g3 g4
   ·exact zR j z (by omega) hz⟩
  clear h
  cbv
  exact ⟨i+1,by exact ao,by exact ao,⟨⟨bB,bh⟩⟩⟩
 have QM:i=blocks.length:=by
  have h':aU i blocks.length=false:=h.out
  have h2:¬(i:Int) < blocks.length:=by simpa [aU] using h'
  omega
 have zR:∀y∈blocks,HD ⟨pins,dQ,fq,fg⟩ ⟨ins,blocks,outs,ay⟩ y:=λy hy=>by
  obtain ⟨j,hj⟩:=nX hy
  exact zR j y (by rw [QM];exact (bW.1 hj).1) hj
 have Zi:ay.map N=ay.map (oM ⟨pins,dQ,fq,fg⟩ ⟨ins,blocks,outs,ay⟩):=map_eq λs hs=>Ze s (hx.ay s hs).1 (hx.ay s hs).2
 have Zf:QY ⟨ay,⟨pins,dQ,fq,fg⟩,⟨ins,blocks,outs,ay⟩,iU⟩:=⟨hx.qd,λs hs=>Ga s (hx.ay s hs).1 (hx.ay s hs).2⟩
 obtain ⟨m2,jH⟩:∃m,ay.map N=m:=⟨_,rfl⟩
 have Zh:ay.map (wK pins.length ⟨ins,blocks,outs,ay⟩ iU)=m2:=by rw [hN,jH]
 have Zg:(⟨fg,m2⟩:nK Int).a.length<=1000000/\(⟨fg,m2⟩:nK Int).b.length<=1000000:=⟨hx.pd,by show m2.length<=1000000;rw [<-jH,qJ];exact hx.qd⟩
 rw [jH] at Zi
 have e:jL fg m2=R:=by
  by_cases hd:fg=m2
  ·rw [sY.2 hd]
   exact zt ⟨hi,ho,hl,eV,hqd,RX,zR,hd.trans Zi⟩
  ·rw [ED hd]
   exact eA λhs=>hd ((show fg=ay.map (oM ⟨pins,dQ,fq,fg⟩ ⟨ins,blocks,outs,ay⟩) from hs.ay).trans Zi.symm)
 clear h h0 h1 iO
 cbv
 refine ⟨⟨ay,⟨pins,dQ,fq,fg⟩,⟨ins,blocks,outs,ay⟩,iU⟩,⟨.inl ⟨by exact bQ,rfl⟩,Zf⟩,?_⟩
 cbv
 refine ⟨⟨fg,m2⟩,⟨by have dJ:=Zh;exact cP,Zg⟩,?_⟩
 cbv
 exact ⟨by exact aK⟩
end Go.Proofs.Pk
