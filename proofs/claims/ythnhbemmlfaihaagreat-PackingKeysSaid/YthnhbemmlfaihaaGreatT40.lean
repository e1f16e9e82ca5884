import Derived.Test.YthnhbemmlfaihaaGreatT12
import Derived.Test.YthnhbemmlfaihaaGreatT37
import Derived.Test.YthnhbemmlfaihaaGreatT39
set_option linter.unusedVariables false
set_option linter.unusedSimpArgs false
set_option maxRecDepth 10000
set_option maxHeartbeats 64000000
namespace Go.Proofs.Pk
open Go Go.Vc
def FU (l:List Int) (i:Nat):Int->Option Unit:=λk=>if k∈l.take i then some () else none
theorem anS {l:List Int} {i:Nat} {x:Int} (h:l[i]?=some x):(λj=>if j=x then some () else FU l i j)=FU l (i+1):=by
 funext j
 unfold FU
 rw [take_one h]
 by_cases e:j=x
 ·simp [e]
 ·simp [e]
open Classical in
noncomputable def zw (p q:bt):Bool:=decide (HW p q)
structure aiN where
 p:bt
 q:bt
structure L4 (y:aiN):Prop where
 pi:y.p.ins.length<=1000000
 po:y.p.outs.length<=1000000
 pb:y.p.blocks.length<=1000000
 pd:y.p.ay.length<=1000000
 pk:∀x∈y.p.blocks,x.ins.length<=1000000
 qi:y.q.ins.length<=1000000
 qo:y.q.outs.length<=1000000
 qb:y.q.blocks.length<=1000000
 qd:y.q.ay.length<=1000000
 qk:∀x∈y.q.blocks,x.ins.length<=1000000
 used:∀x∈y.q.blocks,∀s∈x.ins,0<=s/\s < y.q.sigs
 ay:∀s∈y.q.ay,0<=s/\s < y.q.sigs
@[reducible] noncomputable def Qf:Vc.Spec where
 α:=aiN
 args y:=[.agg (fB y.p),.agg (fB y.q)]
 pre y:=L4 y
 res y:=.b (λ_=>zw y.p y.q)
noncomputable def cSm (n m:Nat):Ctx:=eF n m [] [(92,V6),(96,V7),(97,afg)]
theorem Qg (n m:Nat):CB PP (cSm n m):=eH n m trivial ⟨apQ,apR,aoR,trivial⟩
theorem aen:cW (PP ()) 24 Qf:=by
 refine dT (Qg 0 0) (fo Tryz.func24) (λa=>⟨kE a.p,kE a.q,trivial⟩) (λa=>trivial) ?_
 rintro ⟨⟨pins,dU,fk,fc⟩,⟨ins,blocks,outs,ay⟩⟩ hx
 have hx:L4 ⟨⟨pins,dU,fk,fc⟩,⟨ins,blocks,outs,ay⟩⟩:=hx
 obtain ⟨R,hR⟩:∃R,zw ⟨pins,dU,fk,fc⟩ ⟨ins,blocks,outs,ay⟩=R:=⟨_,rfl⟩
 have kp:Qf.res ⟨⟨pins,dU,fk,fc⟩,⟨ins,blocks,outs,ay⟩⟩=.b (λ_=>R):=by rw [<-hR]
 rw [kp]
 have eA:¬HW ⟨pins,dU,fk,fc⟩ ⟨ins,blocks,outs,ay⟩->false=R:=λh=>by rw [<-hR];unfold zw;simp [h]
 have zK:HW ⟨pins,dU,fk,fc⟩ ⟨ins,blocks,outs,ay⟩->true=R:=λh=>by rw [<-hR];unfold zw;simp [h]
 clear kp hR
 have avD:pins.length<=1000000:=hx.pi
 have avE:ins.length<=1000000:=hx.qi
 have aBq:dU.length<=1000000:=hx.pb
 have avF:blocks.length<=1000000:=hx.qb
 obtain ⟨E1,hE1⟩:∃E,jE pins ins=E:=⟨_,rfl⟩
 obtain ⟨E2,hE2⟩:∃E,jE fk outs=E:=⟨_,rfl⟩
 refine ⟨?_⟩
 cbv
 refine ⟨⟨pins,ins⟩,⟨by exact bQ,hx.pi,hx.qi⟩,?_⟩
 cbv
 refine ⟨λh=>?_,λh=>?_⟩
 ·have e:false=R:=eA λhs=>by
   have h':(!jE pins ins)=true:=h.out
   rw [s9.2 hs.ins] at h';cases h'
  cbv
  exact ⟨by exact aL⟩
 have hi:pins=ins:=by
  have h':(!jE pins ins)=false:=h.out
  exact s9.1 (by simpa using h')
 clear h
 cbv
 refine ⟨⟨fk,outs⟩,⟨by exact bQ,hx.po,hx.qo⟩,?_⟩
 cbv
 refine ⟨λh=>?_,λh=>?_⟩
 ·have e:false=R:=eA λhs=>by
   have h':(!jE fk outs)=true:=h.out
   rw [s9.2 hs.outs] at h';cases h'
  cbv
  exact ⟨by exact aL⟩
 have ho:fk=outs:=by
  have h':(!jE fk outs)=false:=h.out
  exact s9.1 (by simpa using h')
 clear h
 cbv
 refine ⟨λh=>?_,λh=>?_⟩
 ·have e:false=R:=eA λhs=>by
   have h':(!aV (dU.length:Int) (blocks.length:Int))=true:=h.out
   have hl:dU.length=blocks.length:=hs.len
   rw [hl] at h';simp [aV] at h'
  cbv
  exact ⟨by exact aL⟩
 have hl:dU.length=blocks.length:=by
  have h':(!aV (dU.length:Int) (blocks.length:Int))=false:=h.out
  simp only [aV,Ez,beq_iff_eq] at h'
  exact aU
 clear h
 obtain ⟨A,hA⟩:∃A:Nat->Int->Option Int,∀i,A i=atR dU i:=⟨_,λ_=>rfl⟩
 have By:(λ_=>none)=A 0:=by rw [hA];rfl
 cbv
 refine Sat.cd (Qg 0 0) 4 6 [] (λi:Nat=>[(44,.sl 5 oD (λ_=>dU)),(45,.i .i64 (λ_=>(dU.length:Int))),(46,.i .i64 (λ_=>(i:Int)))]) (λi=>[(2,.map kU bK (λ_=>A i))]) (λi=>i<=dU.length) (λi=>dU.length - i) 0 (by exact ao) (by have im:=By;exact bI) (cL _) ?_
 intro i gY
 have gY:i<=dU.length:=gY
 have h0:=n0 i
 have h1:=cj (i:=i) (by omega)
 cbv
 refine ⟨λh=>?_,λh=>?_⟩
 ·have bq:i < dU.length:=bG
  have a7:dU.length - (i+1) < dU.length - i:=by omega
  refine (bB bq).elim λx kZ=>?_
  obtain ⟨v,hv⟩:∃v:Int,(i:Int)=v:=⟨_,rfl⟩
  have cI:(λj=>if j=x.key then some v else A i j)=A (i+1):=by rw [hA,hA,<-hv];exact Up kZ
  cbv
  refine ⟨x,⟨h0,kZ⟩,?_⟩
  cbv
  refine ⟨v,⟨by have bm:=hv;exact cQ⟩,?_⟩
  cbv
  exact ⟨i+1,by exact ao,by have im:=cI;exact bI,⟨⟨bq,a7⟩⟩⟩
 have bS:i=dU.length:=by
  have h':aS i dU.length=false:=h.out
  have h2:¬(i:Int) < dU.length:=by simpa [aS] using h'
  omega
 obtain ⟨iU,iL⟩:∃a,A i=a:=⟨_,rfl⟩
 have IA:iU=MT ⟨pins,dU,fk,fc⟩:=by rw [<-iL,hA,bS];rfl
 clear h h0 h1 gY By
 obtain ⟨M,hM⟩:∃M:Nat->Int->Option Unit,∀i,M i=FU (jS ⟨ins,blocks,outs,ay⟩) i:=⟨_,λ_=>rfl⟩
 have MX:(λ_=>none)=M 0:=by rw [hM];funext j;simp [FU]
 cbv
 refine Sat.cd (Qg 0 0) 5 6 [] (λi:Nat=>[(8,.e9 4),(58,.sl 5 oD (λ_=>blocks)),(59,.i .i64 (λ_=>(blocks.length:Int))),(60,.i .i64 (λ_=>(i:Int)))]) (λi=>[(2,.map kU bK (λ_=>iU)),(4,.map kU Df (λ_=>M i))])
  (λi=>i<=blocks.length/\(∀j y,j < i->blocks[j]?=some y->y.key∈jS ⟨pins,dU,fk,fc⟩)/\((jS ⟨ins,blocks,outs,ay⟩).take i).Nodup) (λi=>blocks.length - i) 0 (by exact ao) (by have im:=MX;have zV:=iL;exact bI) ⟨cL _,λj y h=>by omega,by simp⟩ ?_
 rintro i ⟨gY,eS,gG⟩
 have gY:i<=blocks.length:=gY
 have eS:∀j y,j < i->blocks[j]?=some y->y.key∈jS ⟨pins,dU,fk,fc⟩:=eS
 have gG:((jS ⟨ins,blocks,outs,ay⟩).take i).Nodup:=gG
 have h0:=n0 i
 have h1:=cj (i:=i) (by omega)
 cbv
 refine ⟨λh=>?_,λh=>?_⟩
 ·have bq:i < blocks.length:=bG
  have a7:blocks.length - (i+1) < blocks.length - i:=by omega
  refine (bB bq).elim λy DN=>?_
  have pL:(jS ⟨ins,blocks,outs,ay⟩)[i]?=some y.key:=by unfold jS;rw [m7];show (blocks[i]?).map _=_;rw [DN];rfl
  have xm:y.key∈jS ⟨ins,blocks,outs,ay⟩:=cb pL
  cbv
  refine ⟨y,⟨h0,DN⟩,?_⟩
  cbv
  rcases aiO:iU y.key with _|v
  ·have e:false=R:=eA λhs=>by
    have h2:=OZ.2 (hs.mem y (cb DN))
    rw [<-IA,aiO] at h2;cases h2
   refine ⟨some none,⟨rfl⟩,?_⟩
   cbv
   exact ⟨by exact aL⟩
  ·have hkp:y.key∈jS ⟨pins,dU,fk,fc⟩:=OZ.1 (by rw [<-IA,aiO];rfl)
   refine ⟨some (some v),⟨rfl⟩,?_⟩
   by_cases dN:y.key∈(jS ⟨ins,blocks,outs,ay⟩).take i
   ·have Zk:M i y.key=some ():=by rw [hM];unfold FU;rw [if_pos dN]
    have e:false=R:=eA λhs=>by
     have hq:(jS ⟨ins,blocks,outs,ay⟩).Nodup:=hs.qd
     obtain ⟨j,hj⟩:=nC dN
     have eE:=(bY.1 hj).1
     rw [kB] at eE
     rw [NX (by omega)] at hj
     have:=abV hq hj pL
     omega
    cbv
    refine ⟨some (some ()),⟨Zk⟩,?_⟩
    cbv
    exact ⟨by exact aL⟩
   ·have Zk:M i y.key=none:=by rw [hM];unfold FU;rw [if_neg dN]
    have hMs:(λj=>if j=y.key then some () else M i j)=M (i+1):=by rw [hM,hM];exact anS pL
    have bA:i+1<=blocks.length/\(∀j y,j < i+1->blocks[j]?=some y->y.key∈jS ⟨pins,dU,fk,fc⟩)/\((jS ⟨ins,blocks,outs,ay⟩).take (i+1)).Nodup:=⟨bq,λj z hj hz=>by
     by_cases e:j=i
     ·subst e;rw [DN] at hz;cases hz;exact hkp
     ·exact eS j z (by omega) hz,by
     rw [take_one pL]
     exact Ek.2 ⟨gG,by simp,λa ha b hb e=>by simp at hb;subst hb;subst e;exact dN ha⟩⟩
    cbv
    refine ⟨some none,⟨Zk⟩,?_⟩
    cbv
    refine ⟨(),⟨by exact bQ⟩,?_⟩
    cbv
    exact ⟨i+1,by exact ao,by have im:=hMs;exact bI,⟨⟨bA,a7⟩⟩⟩
 have uv:i=blocks.length:=by
  have h':aS i blocks.length=false:=h.out
  have h2:¬(i:Int) < blocks.length:=by simpa [aS] using h'
  omega
 have hqd:y5 ⟨ins,blocks,outs,ay⟩:=by
  have db:(jS ⟨ins,blocks,outs,ay⟩).length=i:=by rw [uv];simp [jS]
  rw [<-db,kC] at gG
  exact gG
 have eS:∀y∈blocks,y.key∈jS ⟨pins,dU,fk,fc⟩:=λy hy=>by
  obtain ⟨j,hj⟩:=nC hy
  exact eS j y (by rw [uv];exact (bY.1 hj).1) hj
 clear h h0 h1 gY MX
 obtain ⟨ks,k1,k2,k3,k4,k5⟩:=dedup (jS ⟨pins,dU,fk,fc⟩)
 have db:(jS ⟨pins,dU,fk,fc⟩).length=dU.length:=by simp [jS]
 have tB:ks.Nodup/\∀n,n∈ks↔(iU n).isSome=true:=⟨k1,λn=>by rw [k2,IA,OZ]⟩
 cbv
 refine ⟨ks,⟨tB⟩,?_⟩
 cbv
 refine ⟨λh=>?_,λh=>?_⟩
 ·have e:false=R:=eA λhs=>by
   have h':(!aV (ks.length:Int) (dU.length:Int))=true:=h.out
   rw [k5 hs.pd,db] at h';simp [aV] at h'
  cbv
  exact ⟨by exact aL⟩
 have RU:y5 ⟨pins,dU,fk,fc⟩:=k4 (by
  have h':(!aV (ks.length:Int) (dU.length:Int))=false:=h.out
  simp only [aV,Ez,beq_iff_eq] at h'
  rw [db];exact aU)
 clear h tB
 obtain ⟨N,hN⟩:∃N,wN pins.length ⟨ins,blocks,outs,ay⟩ iU=N:=⟨_,rfl⟩
 have Zl:∀s,0<=s->s < (⟨ins,blocks,outs,ay⟩:bt).sigs->N s=rS ⟨pins,dU,fk,fc⟩ ⟨ins,blocks,outs,ay⟩ s:=λs h0 h1=>by
  rw [<-hN,IA];exact ap0 (p:=⟨pins,dU,fk,fc⟩) RU eS h0 h1
 have MV:∀s,0<=s->s < (⟨ins,blocks,outs,ay⟩:bt).sigs->L0 ⟨s,⟨pins,dU,fk,fc⟩,⟨ins,blocks,outs,ay⟩,iU⟩:=λs h0 h1=>⟨avD,avE,avF,h0,h1,λy hy=>by
  obtain ⟨x,e,gy,_⟩:=Vy RU (eS y hy)
  have aR:BO ⟨pins,dU,fk,fc⟩ y.key < dU.length:=(bY.1 gy).1
  refine ⟨_,by show iU y.key=_;rw [IA];exact e,by omega,by omega⟩⟩
 cbv
 refine Sat.cd (Qg 0 0) 7 16 [] (λi:Nat=>[(95,.sl 5 oD (λ_=>blocks)),(96,.i .i64 (λ_=>(blocks.length:Int))),(97,.i .i64 (λ_=>(i:Int)))]) (λi=>[])
  (λi=>i<=blocks.length/\∀j y,j < i->blocks[j]?=some y->HV ⟨pins,dU,fk,fc⟩ ⟨ins,blocks,outs,ay⟩ y) (λi=>blocks.length - i) 0 (by exact ao) (by exact ao) ⟨cL _,λj y h=>by omega⟩ ?_
 rintro i ⟨gY,Ad⟩
 have gY:i<=blocks.length:=gY
 have Ad:∀j y,j < i->blocks[j]?=some y->HV ⟨pins,dU,fk,fc⟩ ⟨ins,blocks,outs,ay⟩ y:=Ad
 have h0:=n0 i
 have h1:=cj (i:=i) (by omega)
 cbv
 refine ⟨λh=>?_,λh=>?_⟩
 ·have bq:i < blocks.length:=bG
  have a7:blocks.length - (i+1) < blocks.length - i:=by omega
  refine (bB bq).elim λy DN=>?_
  have Ah:=cb DN
  refine (Vy RU (eS y Ah)).elim λx YH=>?_
  obtain ⟨ha,gy,mu⟩:=YH
  obtain ⟨v,hv⟩:∃v:Int,(BO ⟨pins,dU,fk,fc⟩ y.key:Int)=v:=⟨_,rfl⟩
  rw [hv] at ha
  have Dv:iU y.key=some v:=by rw [IA];exact ha
  have gE:0<=v/\dU[v.toNat]?=some x:=by rw [<-hv];exact ⟨by omega,gy⟩
  have avG:∀z,dU[BO ⟨pins,dU,fk,fc⟩ y.key]?=some z->z=x:=λz hz=>by
   have gy:dU[BO ⟨pins,dU,fk,fc⟩ y.key]?=some x:=gy
   rw [gy] at hz;cases hz;rfl
  have H5:¬(x.table=y.table/\x.b9=y.b9/\x.bh=y.bh/\x.ins=y.ins.map N)->false=R:=λhn=>eA λhs=>by
   obtain ⟨z,hz,g1,g2,g3,g4⟩:=hs.X6 y Ah
   have:=avG z hz
   subst this
   refine hn ⟨g1,g2,g3,?_⟩
   rw [g4]
   exact (map_eq λs iM=>Zl s (hx.used y Ah s iM).1 (hx.used y Ah s iM).2).symm
  have xW:x.table=y.table->x.b9=y.b9->x.bh=y.bh->x.ins=y.ins.map N->HV ⟨pins,dU,fk,fc⟩ ⟨ins,blocks,outs,ay⟩ y:=λg1 g2 g3 g4=>⟨x,gy,g1,g2,g3,by
   rw [g4]
   exact map_eq λs iM=>Zl s (hx.used y Ah s iM).1 (hx.used y Ah s iM).2⟩
  have Zm:QV ⟨y.ins,⟨pins,dU,fk,fc⟩,⟨ins,blocks,outs,ay⟩,iU⟩:=⟨hx.qk y Ah,λs hs=>MV s (hx.used y Ah s hs).1 (hx.used y Ah s hs).2⟩
  obtain ⟨m2,ju⟩:∃m,y.ins.map N=m:=⟨_,rfl⟩
  have Zn:(⟨x.ins,m2⟩:nK Int).a.length<=1000000/\(⟨x.ins,m2⟩:nK Int).b.length<=1000000:=⟨hx.pk x (cb gy),by show m2.length<=1000000;rw [<-ju,ph];exact hx.qk y Ah⟩
  have Zo:y.ins.map (wN pins.length ⟨ins,blocks,outs,ay⟩ iU)=m2:=by rw [hN,ju]
  cbv
  refine ⟨y,⟨h0,DN⟩,?_⟩
  cbv
  refine ⟨some (some v),⟨Dv⟩,?_⟩
  cbv
  refine ⟨x,⟨gE⟩,?_⟩
  cbv
  refine ⟨λh=>?_,λh=>?_⟩
  ·have e:false=R:=H5 λg=>by
    have h':(!aV x.table y.table)=true:=h.out
    rw [g.1] at h';simp [aV] at h'
   cbv
   exact ⟨by exact aL⟩
  have g1:x.table=y.table:=by have h':(!aV x.table y.table)=false:=h.out;simpa [aV] using h'
  clear h
  cbv
  refine ⟨λh=>?_,λh=>?_⟩
  ·have e:false=R:=H5 λg=>by
    have h':(!aV x.b9 y.b9)=true:=h.out
    rw [g.2.1] at h';simp [aV] at h'
   cbv
   exact ⟨by exact aL⟩
  have g2:x.b9=y.b9:=by have h':(!aV x.b9 y.b9)=false:=h.out;simpa [aV] using h'
  clear h
  cbv
  refine ⟨λh=>?_,λh=>?_⟩
  ·have e:false=R:=H5 λg=>by
    have h':(!aV x.bh y.bh)=true:=h.out
    rw [g.2.2.1] at h';simp [aV] at h'
   cbv
   exact ⟨by exact aL⟩
  have g3:x.bh=y.bh:=by have h':(!aV x.bh y.bh)=false:=h.out;simpa [aV] using h'
  clear h
  cbv
  refine ⟨⟨y.ins,⟨pins,dU,fk,fc⟩,⟨ins,blocks,outs,ay⟩,iU⟩,⟨.inl ⟨by exact bQ,rfl⟩,Zm⟩,?_⟩
  cbv
  refine ⟨⟨x.ins,m2⟩,⟨by have dJ:=Zo;exact cQ,Zn⟩,?_⟩
  cbv
  refine ⟨λh=>?_,λh=>?_⟩
  ·have e:false=R:=H5 λg=>by
    have h':(!jE x.ins m2)=true:=h.out
    rw [s9.2 (g.2.2.2.trans ju)] at h';cases h'
   cbv
   exact ⟨by exact aL⟩
  have g4:x.ins=y.ins.map N:=by
   have h':(!jE x.ins m2)=false:=h.out
   exact (s9.1 (by simpa using h')).trans ju.symm
  have bA:i+1<=blocks.length/\∀j y,j < i+1->blocks[j]?=some y->HV ⟨pins,dU,fk,fc⟩ ⟨ins,blocks,outs,ay⟩ y:=⟨bq,λj z hj hz=>by
   by_cases e:j=i
   ·subst e;rw [DN] at hz;cases hz;exact xW g1 g2 g3 g4
   ·exact Ad j z (by omega) hz⟩
  clear h
  cbv
  exact ⟨i+1,by exact ao,by exact ao,⟨⟨bA,a7⟩⟩⟩
 have QL:i=blocks.length:=by
  have h':aS i blocks.length=false:=h.out
  have h2:¬(i:Int) < blocks.length:=by simpa [aS] using h'
  omega
 have Ad:∀y∈blocks,HV ⟨pins,dU,fk,fc⟩ ⟨ins,blocks,outs,ay⟩ y:=λy hy=>by
  obtain ⟨j,hj⟩:=nC hy
  exact Ad j y (by rw [QL];exact (bY.1 hj).1) hj
 have Zp:ay.map N=ay.map (rS ⟨pins,dU,fk,fc⟩ ⟨ins,blocks,outs,ay⟩):=map_eq λs hs=>Zl s (hx.ay s hs).1 (hx.ay s hs).2
 have Zm:QV ⟨ay,⟨pins,dU,fk,fc⟩,⟨ins,blocks,outs,ay⟩,iU⟩:=⟨hx.qd,λs hs=>MV s (hx.ay s hs).1 (hx.ay s hs).2⟩
 obtain ⟨m2,ju⟩:∃m,ay.map N=m:=⟨_,rfl⟩
 have Zo:ay.map (wN pins.length ⟨ins,blocks,outs,ay⟩ iU)=m2:=by rw [hN,ju]
 have Zn:(⟨fc,m2⟩:nK Int).a.length<=1000000/\(⟨fc,m2⟩:nK Int).b.length<=1000000:=⟨hx.pd,by show m2.length<=1000000;rw [<-ju,ph];exact hx.qd⟩
 rw [ju] at Zp
 have e:jE fc m2=R:=by
  by_cases hd:fc=m2
  ·rw [s9.2 hd]
   exact zK ⟨hi,ho,hl,eS,hqd,RU,Ad,hd.trans Zp⟩
  ·rw [E4 hd]
   exact eA λhs=>hd ((show fc=ay.map (rS ⟨pins,dU,fk,fc⟩ ⟨ins,blocks,outs,ay⟩) from hs.ay).trans Zp.symm)
 clear h h0 h1 gY
 cbv
 refine ⟨⟨ay,⟨pins,dU,fk,fc⟩,⟨ins,blocks,outs,ay⟩,iU⟩,⟨.inl ⟨by exact bQ,rfl⟩,Zm⟩,?_⟩
 cbv
 refine ⟨⟨fc,m2⟩,⟨by have dJ:=Zo;exact cQ,Zn⟩,?_⟩
 cbv
 exact ⟨by exact aL⟩
end Go.Proofs.Pk
