import Derived.Test.YthnhbemmlfaihaaGreatT19
import Derived.Test.YthnhbemmlfaihaaGreatT34
import Derived.Test.YthnhbemmlfaihaaGreatT35
set_option linter.unusedVariables false
set_option linter.unusedSimpArgs false
set_option maxRecDepth 10000
set_option maxHeartbeats 64000000
namespace Go.Proofs.Pk
open Go Go.Vc
structure Wz (p:bq):Prop where
 v:AP p
 ok:Cg p
@[reducible] noncomputable def ac8:Vc.Spec where
 α:=bq
 args x:=[.agg (fq x)]
 pre x:=Wz x
 res x:=.b (λ_=>true)
@[reducible] noncomputable def ab6:Vc.Spec:=OJ
theorem alW:cS (PP ()) 75 ab6:=amz
noncomputable def cVr (n m:Nat):Ctx:=eB n m [] [(76,SY),(77,afk),(75,ab6),(78,ad7)]
theorem Ph (n m:Nat):CB PP (cVr n m):=eD n m trivial ⟨ZR,aoD,alW,anw,trivial⟩
theorem amA:cS (PP ()) 17 ac8:=by
 refine dP (Ph 0 0) (fo Tryz.func17) (λa=>⟨km a,trivial⟩) (λa=>trivial) ?_
 rintro ⟨ins,blocks,outs,ay⟩ hx
 have hx:Wz ⟨ins,blocks,outs,ay⟩:=hx
 have hp:=hx.v
 obtain ⟨ef,ju⟩:=hx.ok
 have ss:=hp.small
 have gQ:ins.length<=1000000:=ss.ins
 have L_:outs.length<=1000000:=hp.outs
 have oA:blocks.length<=600:=ef.dH
 have fO:ay.length=outs.length:=ef.o5
 have oI:∀s∈ay,kj ⟨ins,blocks,outs,ay⟩ s:=ef.ay
 have dK:∀w∈ins,l9 w 2 4:=ef.ins
 have Bj:∀w∈outs,l9 w 5 10:=ef.outs
 clear hx hp
 refine ⟨?_⟩
 cbv
 refine ⟨λh=>?_,λ_=>?_⟩
 ·have hF:False:=by
   have h':aS 600 (blocks.length:Int)=true:=h.out
   simp only [aS,decide_eq_true_eq] at h'
   exact aU
  cases hF
 cbv
 refine ⟨λh=>?_,λ_=>?_⟩
 ·have hF:False:=by
   have h':(!aV (ay.length:Int) (outs.length:Int))=true:=h.out
   rw [fO] at h'
   simp [aV] at h'
  cases hF
 cbv
 refine Sat.ca (Ph 0 0) 1 3 [] (λi:Nat=>[(3,.i .i64 (λ_=>(i:Int)))]) (λi=>[]) (λi=>i<=ins.length) (λi=>ins.length - i) 0 (by exact ao) (by exact ao) (cJ _) ?_
 rintro i hi
 have h0:=n0 i
 have h1:=cd (i:=i) (by omega)
 cbv
 refine ⟨λh=>?_,λh=>?_⟩
 ·have bp:i < ins.length:=bE
  have a7:i+1<=ins.length/\ins.length - (i+1) < ins.length - i:=by omega
  refine (bz bp).elim λw hw=>?_
  have C8:=dK w (b_ hw)
  cbv
  refine ⟨w,⟨h0,hw⟩,?_⟩
  cbv
  refine ⟨⟨w,2,4⟩,⟨by exact bP,trivial⟩,?_⟩
  cbv
  refine ⟨λh=>?_,λ_=>?_⟩
  ·have hF:False:=by
    have h':(!ue 2 4 w)=true:=h.out
    rw [T0.2 C8] at h'
    cases h'
   cases hF
  cbv
  exact ⟨i+1,by exact ao,by exact ao,⟨a7⟩⟩
 ·clear h0 h1 hi
  cbv
  refine Sat.ca (Ph 0 0) 1 3 [] (λi:Nat=>[(4,.i .i64 (λ_=>(i:Int)))]) (λi=>[]) (λi=>i<=outs.length) (λi=>outs.length - i) 0 (by exact ao) (by exact ao) (cJ _) ?_
  rintro i hi
  have h0:=n0 i
  have h1:=cd (i:=i) (by omega)
  cbv
  refine ⟨λh=>?_,λh=>?_⟩
  ·have bp:i < outs.length:=bE
   have a7:i+1<=outs.length/\outs.length - (i+1) < outs.length - i:=by omega
   refine (bz bp).elim λw hw=>?_
   have C8:=Bj w (b_ hw)
   refine (bz (l:=ay) (i:=i) (by omega)).elim λs hs=>?_
   have o8:=oI s (b_ hs)
   cbv
   refine ⟨w,⟨h0,hw⟩,?_⟩
   cbv
   refine ⟨⟨w,5,10⟩,⟨by exact bP,trivial⟩,?_⟩
   cbv
   refine ⟨λh=>?_,λ_=>?_⟩
   ·have hF:False:=by
     have h':(!ue 5 10 w)=true:=h.out
     rw [T0.2 C8] at h'
     cases h'
    cases hF
   cbv
   refine ⟨s,⟨h0,hs⟩,?_⟩
   cbv
   refine ⟨⟨⟨ins,blocks,outs,ay⟩,s⟩,⟨by exact bP,ss⟩,?_⟩
   cbv
   refine ⟨λh=>?_,λ_=>?_⟩
   ·have hF:False:=by
     have h':(!oa ⟨ins,blocks,outs,ay⟩ s)=true:=h.out
     rw [RU.2 o8] at h'
     cases h'
    cases hF
   cbv
   exact ⟨i+1,by exact ao,by exact ao,⟨a7⟩⟩
  ·clear h0 h1 hi
   cbv
   refine Sat.ca (Ph 0 0) 1 3 [] (λi:Nat=>[(5,.i .i64 (λ_=>(i:Int)))]) (λi=>[]) (λi=>i<=blocks.length) (λi=>blocks.length - i) 0 (by exact ao) (by exact ao) (cJ _) ?_
   rintro i hi
   have h0:=n0 i
   have h1:=cd (i:=i) (by omega)
   cbv
   refine ⟨λh=>?_,λh=>?_⟩
   ·have bp:i < blocks.length:=bE
    have a7:i+1<=blocks.length/\blocks.length - (i+1) < blocks.length - i:=by omega
    have e9:HL ⟨ins,blocks,outs,ay⟩ i:=⟨ef,gQ,h0,by show (i:Int) < blocks.length;omega⟩
    cbv
    refine ⟨⟨⟨ins,blocks,outs,ay⟩,i⟩,⟨by exact bP,e9⟩,?_⟩
    cbv
    refine ⟨λh=>?_,λ_=>?_⟩
    ·have hF:False:=by
      have h':(!true)=true:=h.out
      cases h'
     cases hF
    cbv
    exact ⟨i+1,by exact ao,by exact ao,⟨a7⟩⟩
   ·cbv
    refine ⟨⟨ins,blocks,outs,ay⟩,⟨by exact bP,⟨ef,ju,gQ⟩⟩,?_⟩
    have e:aV ((G5 ⟨ins,blocks,outs,ay⟩).length:Int) (blocks.length:Int)=true:=by rw [alV ef ju];simp [aV]
    cbv
    exact ⟨by exact aJ⟩
structure PR where
 n:Net
 w:List Int->Option Int
 k:PK
@[reducible] def kW:KD:=.ints [.i64,.i64,.i64]
@[reducible] def kF:KD:=.int .i64
def Yg (x:PR):List SV:=[.sl 3 dc (λ_=>x.n.ins),.sl 5 dB (λ_=>x.n.gG),.sl 3 dc (λ_=>x.n.outs),.sl 1 bJ (λ_=>x.n.ay),.mp kW bJ (λ_=>x.w),.sl 4 uJ (λ_=>x.k.parts),.sl 2 l7 (λ_=>x.k.cells),.b (λ_=>x.k.n0),.b (λ_=>x.k.n1),.mp kF bJ (λ_=>x.k.bK)]
theorem apZ (x:PR):dm (Yg x):=⟨λx=>(gL x).1,λx=>(eK x).1,λx=>(gL x).1,λx=>(cM x).1,λx=>(cM x).1,λx=>(NJ x).1,λx=>(yr x).1,trivial,trivial,λx=>(cM x).1,trivial⟩
structure WA where
 x:PR
 sig:Int
structure Hj (y:WA):Prop where
 Bg:eQ y.x.n
 w:y.x.w=vJ y.x.n.ins
 lo:0<=y.sig
 hi:y.sig < 2+y.x.n.ins.length+y.x.k.cells.length
 dH:y.x.k.cells.length<=1000000
@[reducible] noncomputable def Kt:Vc.Spec where
 α:=WA
 args y:=[.dC (Yg y.x) 0,.i .i64 (λ_=>y.sig)]
 pre y:=Hj y
 res y:=.agg [.i .i64 (λ_=>(gH y.x.n.ins y.x.k.cells y.sig).kind),.i .i64 (λ_=>(gH y.x.n.ins y.x.k.cells y.sig).n)]
noncomputable def cFm (n m:Nat):Ctx:=eB n m [] []
theorem art (n m:Nat):CB PP (cFm n m):=eD n m trivial trivial
theorem T7:cS (PP ()) 167 Kt:=by
 refine dP (art 0 0) (fo Tryz.func167) (λa=>⟨apZ a.x,trivial,trivial⟩) (λa=>⟨trivial,trivial,trivial⟩) ?_
 rintro ⟨⟨⟨ins,gs,outs,dr⟩,w,⟨parts,cells,fC,fD,bK⟩⟩,sig⟩ hx
 have hx:Hj ⟨⟨⟨ins,gs,outs,dr⟩,w,⟨parts,cells,fC,fD,bK⟩⟩,sig⟩:=hx
 have hn:=hx.Bg
 have hw:w=vJ ins:=hx.w
 have h0:0<=sig:=hx.lo
 have gy:sig < 2+(ins.length:Int)+cells.length:=hx.hi
 have hc6:cells.length<=1000000:=hx.dH
 have v5:2+ins.length+gs.length<=600:=hn.pf
 have wz:∀w∈ins,l9 w 1 4/\w.i<=31:=hn.ins
 have dx:IntKind.i64.wrap (sig - 2)=sig - 2:=cz (by omega) (by omega)
 obtain ⟨S,hS⟩:∃S,gH ins cells sig=S:=⟨_,rfl⟩
 have Yh:S.kind=(gH ins cells sig).kind:=by rw [hS]
 have H5:S.n=(gH ins cells sig).n:=by rw [hS]
 unfold gH at hS
 refine ⟨?_⟩
 cbv
 refine ⟨λh=>?_,λh=>?_⟩
 ·have aR:sig < 2:=by have h':aS (IntKind.i64.wrap (sig - 2)) 0=true:=h.out;rw [dx] at h';simp only [aS,decide_eq_true_eq] at h';omega
  rw [if_pos aR] at hS
  subst hS
  cbv
  exact ⟨by exact aJ⟩
 ·have bR:¬sig < 2:=by have h':aS (IntKind.i64.wrap (sig - 2)) 0=false:=h.out;rw [dx] at h';simp only [aS,decide_eq_false_iff_not] at h';omega
  rw [if_neg bR] at hS
  cbv
  refine ⟨λh=>?_,λh=>?_⟩
  ·have we:¬sig - 2 < (ins.length:Int):=by have h':cR (ins.length:Int) (IntKind.i64.wrap (sig - 2))=true:=h.out;rw [dx] at h';simp only [cR,decide_eq_true_eq] at h';exact aU
   rw [if_neg we] at hS
   have gy:sig < 2+(ins.length:Int)+cells.length:=gy
   have s7:IntKind.i64.wrap (IntKind.i64.wrap (sig - 2) - (ins.length:Int))=sig - 2 - ins.length:=by rw [dx];exact cz (by omega) (by omega)
   refine (bz (l:=cells) (i:=(sig - 2 - ins.length).toNat) (by omega)).elim λc hc=>?_
   have gx:0<=IntKind.i64.wrap (IntKind.i64.wrap (sig - 2) - (ins.length:Int))/\cells[(IntKind.i64.wrap (IntKind.i64.wrap (sig - 2) - (ins.length:Int))).toNat]?=some c:=by rw [s7];exact ⟨by omega,hc⟩
   have hSc:c=S:=by rw [<-hS,gW,hc];rfl
   subst hSc
   cbv
   refine ⟨c,⟨gx⟩,?_⟩
   cbv
   exact ⟨by exact aJ⟩
  ·have we:sig - 2 < (ins.length:Int):=by have h':cR (ins.length:Int) (IntKind.i64.wrap (sig - 2))=false:=h.out;rw [dx] at h';simp only [cR,decide_eq_false_iff_not] at h';exact aU
   rw [if_pos we] at hS
   refine (bz (l:=ins) (i:=(sig - 2).toNat) (by omega)).elim λx hx=>?_
   have gx:0<=IntKind.i64.wrap (sig - 2)/\ins[(IntKind.i64.wrap (sig - 2)).toNat]?=some x:=by rw [dx];exact ⟨by omega,hx⟩
   have qJ:=wz x (b_ hx)
   have hgx:ins.getD (sig - 2).toNat ⟨0,0,0⟩=x:=by rw [gW,hx];rfl
   rw [hgx] at hS
   simp only at hS
   cbv
   refine ⟨x,⟨gx⟩,?_⟩
   cbv
   refine ⟨λh=>?_,λh=>?_⟩
   ·have hk:x.kind=1:=bE
    rw [if_pos hk] at hS
    have hcw:IntKind.i64.wrap (IntKind.i64.wrap (8*x.i)+x.bit)=lA x:=by
     obtain ⟨⟨_,_,ha,hb,hc⟩,hd⟩:=qJ
     rw [cz (n:=8*x.i) (by omega) (by omega),cz (by omega) (by omega)];rfl
    subst hS
    cbv
    exact ⟨by ((repeat' first|exact dT.nil|exact Le.refl _|refine dT.cons ?_ ?_|exact Le.ic rfl|exact Le.bc rfl|exact Le.i rfl|exact Le.b rfl|exact Le.sl rfl|exact Le.mp rfl|exact Le.im rfl|exact Le.rO rfl|refine Le.di rfl (λ_=>?_)|refine Le.eH rfl (λ_ _=>rfl) (λ_=>?_) ?_|refine Le.agg ?_|refine Le.dE ?_|refine Le.fn ?_ ?_|refine Le.dC ?_|exact trivial|refine And.intro ?_ ?_|refine λ_=>?_|exact Le.any _))<;>first|exact .ic Yh|(refine .i (hcw.trans ?_);exact H5)⟩
   ·have hk:¬x.kind=1:=bE
    rw [if_neg hk] at hS
    subst hS
    rcases hm:w (gw x) with _|v
    ·have hz:(vJ ins (gw x)).getD 0=0:=by rw [<-hw,hm];rfl
     cbv
     refine ⟨some none,⟨hm⟩,?_⟩
     cbv
     exact ⟨by have nY:=Yh;have H_:=hz.symm.trans H5;exact dv⟩
    ·have hz:(vJ ins (gw x)).getD 0=v:=by rw [<-hw,hm];rfl
     cbv
     refine ⟨some (some v),⟨hm⟩,?_⟩
     cbv
     exact ⟨by have nY:=Yh;have bj:=hz.symm.trans H5;exact dv⟩
@[reducible] noncomputable def AQ (x:PR):List Slot :=
 [.fix 298 [.sl 3 dc (λ_=>x.n.ins),.sl 5 dB (λ_=>x.n.gG),.sl 3 dc (λ_=>x.n.outs),.sl 1 bJ (λ_=>x.n.ay),.eV 1,.own 2,.own 3,.b (λ_=>x.k.n0),.b (λ_=>x.k.n1),.eV 4],
  .map kW bJ (λ_=>x.w),.dyn 307 4 uJ (λ_=>x.k.parts),.dyn 302 2 l7 (λ_=>x.k.cells),.map kF bJ (λ_=>x.k.bK)]
structure at3 where
 x:PR
 p:Part
@[reducible] noncomputable def aru:mP where
 α:=at3
 args y:=[.ptr 0 0,.agg (uJ y.p)]
 io y:=AQ y.x
 pre y:=y.x.k.parts.length<=1000000
 β:=Unit
 post x y:=True
 mv:=[2]
 res y _:=.agg [.i .i64 (λ_=>2),.i .i64 (λ_=>(y.x.k.parts.length:Int))]
 j8 y _:=AQ ⟨y.x.n,y.x.w,y.x.k.add y.p⟩
noncomputable def cAp (n m:Nat):Ctx:=eB n m [] []
theorem arv (n m:Nat):CB PP (cAp n m):=eD n m trivial trivial
theorem BU:iC PP 168 aru:=by
 refine mA (arv 0 0) (fo Tryz.func168) (λa y=>rfl) (λa=>⟨rfl,rfl⟩) (by show ([2]:List Nat).Nodup;decide) ?_
 rintro ⟨⟨⟨ins,gs,outs,dr⟩,w,⟨parts,cells,fC,fD,bK⟩⟩,⟨Ma,pt,pr,pg⟩⟩ hx
 have Iy:parts.length<=1000000:=hx
 have dY:(parts.length+1)*48<=140737488355328:=by omega
 have mT:parts.length+1<=9223372036854775807:=by omega
 have pP:IntKind.i64.wrap (((parts++[(⟨Ma,pt,pr,pg⟩:Part)]).length:Int) - 1)=(parts.length:Int):=by
  rw [fZ,nK]
  rw [cz (by omega) (by omega)];omega
 refine ⟨?_⟩
 cbv
 refine ⟨λh=>?_,λh=>?_⟩
 ·have hg:0<=pg:=bE
  obtain ⟨v,hv⟩:∃v:Int,(parts.length:Int)=v:=⟨_,rfl⟩
  have zg:(λj=>if j=pg then some v else bK j)=(PK.add ⟨parts,cells,fC,fD,bK⟩ ⟨Ma,pt,pr,pg⟩).bK:=by unfold PK.add ga;simp only;rw [if_pos hg,hv]
  cbv
  refine ⟨v,⟨by have bj:=hv;exact cN⟩,?_⟩
  cbv
  refine ⟨[⟨Ma,pt,pr,pg⟩],⟨by exact bP,dY,mT⟩,?_⟩
  cbv
  refine ⟨(),[],[(.c 0 5,2)],?_,by have g_:=zg;exact bH,⟨trivial⟩⟩
  cbv
  exact ⟨by have bj:=pP;exact dv,trivial⟩
 ·have hg:¬0<=pg:=bE
  have zg:bK=(PK.add ⟨parts,cells,fC,fD,bK⟩ ⟨Ma,pt,pr,pg⟩).bK:=by unfold PK.add;simp only;rw [if_neg hg]
  cbv
  refine ⟨[⟨Ma,pt,pr,pg⟩],⟨by exact bP,dY,mT⟩,?_⟩
  cbv
  refine ⟨(),[],[(.c 0 5,2)],?_,by have g_:=zg;exact bH,⟨trivial⟩⟩
  cbv
  exact ⟨by have bj:=pP;exact dv,trivial⟩
theorem alX {l:List Part} {i:Nat} {x:Part} (h:l[i]?=some x) (code:Int):An l i code=l.set i { x with bf:=code }:=by
 unfold An
 refine nL λj=>?_
 rw [Sg,iT]
 split
 ·rename_i e;subst e;rw [h];simp [(bX.1 h).1]
 ·simp
structure ahj where
 x:PR
 s:Source
 code:Int
structure Vm (y:ahj):Prop where
 dH:y.x.k.parts.length<=1000000
 s:y.s.kind=2->0<=y.s.n/\y.s.n < y.x.k.parts.length
@[reducible] noncomputable def afn:mP where
 α:=ahj
 args y:=[.ptr 0 0,.agg (l7 y.s),.i .i64 (λ_=>y.code)]
 io y:=AQ y.x
 pre y:=Vm y
 β:=Unit
 post x y:=True
 mv:=[2]
 res y _:=.dE []
 j8 y _:=AQ ⟨y.x.n,y.x.w,jR y.x.k y.s y.code⟩
noncomputable def cRp (n m:Nat):Ctx:=eB n m [(168,Tryz.f168)] [] [168]
theorem arw (n m:Nat):CB PP (cRp n m):=eD n m ⟨fo Tryz.func168,trivial⟩ trivial
theorem aoE:iC PP 166 afn:=by
 refine mA (arw 0 0) (fo Tryz.func166) (λa y=>rfl) (λa=>⟨rfl,rfl⟩) (by show ([2]:List Nat).Nodup;decide) ?_
 rintro ⟨⟨⟨ins,gs,outs,dr⟩,w,⟨parts,cells,fC,fD,bK⟩⟩,⟨sk,sn⟩,code⟩ hx
 have hx:Vm ⟨⟨⟨ins,gs,outs,dr⟩,w,⟨parts,cells,fC,fD,bK⟩⟩,⟨sk,sn⟩,code⟩:=hx
 have Iy:parts.length<=1000000:=hx.dH
 have s9:sk=2->0<=sn/\sn < parts.length:=hx.s
 obtain ⟨K,hK⟩:∃K,jR ⟨parts,cells,fC,fD,bK⟩ ⟨sk,sn⟩ code=K:=⟨_,rfl⟩
 have hKr:(afn.j8 ⟨⟨⟨ins,gs,outs,dr⟩,w,⟨parts,cells,fC,fD,bK⟩⟩,⟨sk,sn⟩,code⟩ ())=AQ ⟨⟨ins,gs,outs,dr⟩,w,K⟩:=by rw [<-hK]
 have e1:K.parts=(jR ⟨parts,cells,fC,fD,bK⟩ ⟨sk,sn⟩ code).parts:=by rw [hK]
 have e2:K.bK=(jR ⟨parts,cells,fC,fD,bK⟩ ⟨sk,sn⟩ code).bK:=by rw [hK]
 have e3:K.cells=(jR ⟨parts,cells,fC,fD,bK⟩ ⟨sk,sn⟩ code).cells:=by rw [hK]
 have e4:K.n0=(jR ⟨parts,cells,fC,fD,bK⟩ ⟨sk,sn⟩ code).n0:=by rw [hK]
 have e5:K.n1=(jR ⟨parts,cells,fC,fD,bK⟩ ⟨sk,sn⟩ code).n1:=by rw [hK]
 unfold jR at hK
 simp only at hK
 clear hx hKr
 refine ⟨?_⟩
 cbv
 refine ⟨λh=>?_,λh=>?_⟩
 ·have h3:sk=3:=bE
  rw [if_pos h3] at hK
  subst hK
  cbv
  refine bU.io BU ⟨⟨⟨ins,gs,outs,dr⟩,w,⟨parts,cells,fC,fD,bK⟩⟩,⟨[],sn,-1,code⟩⟩ [0,1,2,3,4] rfl (by exact bP) (by exact ao) ⟨Iy⟩ λ_ _=>?_
  cbv
  refine ⟨(),[],[(.c 0 5,2)],?_,by have g_:=e2;have jW:=e1;have k_:=e3;have dM:=e1;have kq:=e3;have oF:=e4;have A5:=e5;have jN:=e4;have mB:=e5;exact bH,⟨trivial⟩⟩
  cbv
  exact ⟨by exact aJ,trivial⟩
 ·have h3:¬sk=3:=bE
  rw [if_neg h3] at hK
  cbv
  refine ⟨λh=>?_,λh=>?_⟩
  ·have h2:sk=2:=bE
   have hsn:0<=sn/\sn < (parts.length:Int):=s9 h2
   have ua:0<=sn/\sn.toNat < parts.length:=by omega
   refine (bz ua.2).elim λq hq=>?_
   have hgq:parts.getD sn.toNat ⟨[],0,0,0⟩=q:=by rw [gW,hq];rfl
   rw [hgq] at hK
   cbv
   refine ⟨⟨ua⟩,q,⟨hq,rfl⟩,?_⟩
   cbv
   refine ⟨λh=>?_,λh=>?_⟩
   ·have hr:q.bZ < 0:=bE
    cbv
    refine ⟨⟨ua⟩,q,⟨hq,rfl⟩,?_⟩
    cbv
    refine ⟨λh=>?_,λh=>?_⟩
    ·have hg:q.bf < 0:=bE
     rw [if_pos ⟨h2,hr,hg⟩,alX hq] at hK
     have ny:(λj=>if j=code then some sn else bK j)=(jR ⟨parts,cells,fC,fD,bK⟩ ⟨sk,sn⟩ code).bK:=by rw [<-e2,<-hK];rfl
     have uY:parts.set sn.toNat { q with bf:=code }=(jR ⟨parts,cells,fC,fD,bK⟩ ⟨sk,sn⟩ code).parts:=by rw [<-e1,<-hK]
     have e3':cells=(jR ⟨parts,cells,fC,fD,bK⟩ ⟨sk,sn⟩ code).cells:=by rw [<-e3,<-hK]
     have e4':fC=(jR ⟨parts,cells,fC,fD,bK⟩ ⟨sk,sn⟩ code).n0:=by rw [<-e4,<-hK]
     have e5':fD=(jR ⟨parts,cells,fC,fD,bK⟩ ⟨sk,sn⟩ code).n1:=by rw [<-e5,<-hK]
     obtain ⟨q2,rB⟩:∃q2,({ q with bf:=code }:Part)=q2:=⟨_,rfl⟩
     rw [rB] at uY
     have k9:q.ins=q2.ins:=by rw [<-rB]
     have oD:q.table=q2.table:=by rw [<-rB]
     have C7:q.bZ=q2.bZ:=by rw [<-rB]
     have QF:code=q2.bf:=by rw [<-rB]
     cbv
     refine ⟨⟨ua⟩,(q,q2),⟨hq,rfl,by have dG:=k9;have bj:=oD;have lE:=C7;have zk:=QF;exact cN⟩,?_⟩
     cbv
     refine ⟨sn,⟨by exact bP⟩,?_⟩
     cbv
     refine ⟨(),[],[(.c 0 5,2)],?_,by have g_:=ny;have jW:=uY;have k_:=e3';have dM:=uY;have kq:=e3';have oF:=e4';have A5:=e5';have jN:=e4';have mB:=e5';exact bH,⟨trivial⟩⟩
     cbv
     exact ⟨by exact aJ,trivial⟩
    ·have hg:¬q.bf < 0:=bE
     rw [if_neg (λh=>hg h.2.2)] at hK
     subst hK
     cbv
     refine bU.io BU ⟨⟨⟨ins,gs,outs,dr⟩,w,⟨parts,cells,fC,fD,bK⟩⟩,⟨[⟨sk,sn⟩],2,-1,code⟩⟩ [0,1,2,3,4] rfl (by exact bP) (by exact ao) ⟨Iy⟩ λ_ _=>?_
     cbv
     refine ⟨(),[],[(.c 0 5,2)],?_,by have g_:=e2;have jW:=e1;have k_:=e3;have dM:=e1;have kq:=e3;have oF:=e4;have A5:=e5;have jN:=e4;have mB:=e5;exact bH,⟨trivial⟩⟩
     cbv
     exact ⟨by exact aJ,trivial⟩
   ·have hr:¬q.bZ < 0:=bE
    rw [if_neg (λh=>hr h.2.1)] at hK
    subst hK
    cbv
    refine bU.io BU ⟨⟨⟨ins,gs,outs,dr⟩,w,⟨parts,cells,fC,fD,bK⟩⟩,⟨[⟨sk,sn⟩],2,-1,code⟩⟩ [0,1,2,3,4] rfl (by exact bP) (by exact ao) ⟨Iy⟩ λ_ _=>?_
    cbv
    refine ⟨(),[],[(.c 0 5,2)],?_,by have g_:=e2;have jW:=e1;have k_:=e3;have dM:=e1;have kq:=e3;have oF:=e4;have A5:=e5;have jN:=e4;have mB:=e5;exact bH,⟨trivial⟩⟩
    cbv
    exact ⟨by exact aJ,trivial⟩
  ·have h2:¬sk=2:=bE
   rw [if_neg (λh=>h2 h.1)] at hK
   subst hK
   cbv
   refine bU.io BU ⟨⟨⟨ins,gs,outs,dr⟩,w,⟨parts,cells,fC,fD,bK⟩⟩,⟨[⟨sk,sn⟩],2,-1,code⟩⟩ [0,1,2,3,4] rfl (by exact bP) (by exact ao) ⟨Iy⟩ λ_ _=>?_
   cbv
   refine ⟨(),[],[(.c 0 5,2)],?_,by have g_:=e2;have jW:=e1;have k_:=e3;have dM:=e1;have kq:=e3;have oF:=e4;have A5:=e5;have jN:=e4;have mB:=e5;exact bH,⟨trivial⟩⟩
   cbv
   exact ⟨by exact aJ,trivial⟩
structure SS where
 a:List Source
 b:List Source
@[reducible] noncomputable def WB:Vc.Spec where
 α:=SS
 args x:=[.sl 2 l7 (λ_=>x.a),.sl 2 l7 (λ_=>x.b)]
 pre x:=x.a.length<=1000000/\x.b.length<=1000000
 res x:=.b (λ_=>x.a == x.b)
theorem aoF {a b:List Source} (hl:a.length=b.length) (h:∀j,j < a.length->a[j]?=b[j]?):(a == b)=true:=by
 rw [beq_iff_eq]
 refine nL λj=>?_
 by_cases hj:j < a.length
 ·exact h j hj
 ·rw [l6 (by omega),l6 (by omega)]
theorem arx {a b:List Source} {j:Nat} (h:a[j]?≠b[j]?):(a == b)=false:=by
 rw [beq_eq_false_iff_ne]
 rintro rfl
 exact h rfl
noncomputable def cEs (n m:Nat):Ctx:=eB n m [] []
theorem afo (n m:Nat):CB PP (cEs n m):=eD n m trivial trivial
theorem ap0:cS (PP ()) 236 WB:=by
 refine dP (afo 0 0) (fo Tryz.func236) (λa=>⟨(λx=>(yr x).1),(λx=>(yr x).1),trivial⟩) (λa=>trivial) ?_
 rintro ⟨a,b⟩ hx
 obtain ⟨ha,hb⟩:a.length<=1000000/\b.length<=1000000:=hx
 obtain ⟨R,hR⟩:∃R,(a == b)=R:=⟨_,rfl⟩
 have j9:WB.res ⟨a,b⟩=.b (λ_=>R):=by rw [<-hR]
 rw [j9]
 refine ⟨?_⟩
 cbv
 refine ⟨λh=>?_,λh=>?_⟩
 ·have cZ:¬a.length=b.length:=by have h':(!aV (a.length:Int) (b.length:Int))=true:=h.out;simp only [aV,pI,beq_eq_false_iff_ne,ne_eq] at h';intro e;exact h' (by rw [e])
  have e:false=R:=by rw [<-hR];symm;rw [beq_eq_false_iff_ne];rintro rfl;exact cZ rfl
  cbv
  exact ⟨by exact aJ⟩
 ·have hl:a.length=b.length:=by have h':(!aV (a.length:Int) (b.length:Int))=false:=h.out;simp only [aV,DS,beq_iff_eq] at h';exact aU
  cbv
  refine Sat.ca (afo 0 0) 0 5 [] (λi:Nat=>[(12,.i .i64 (λ_=>(a.length:Int))),(13,.i .i64 (λ_=>(i:Int)))]) (λi=>[]) (λi=>i<=a.length/\∀j,j < i->a[j]?=b[j]?) (λi=>a.length - i) 0 (by exact ao) (by exact ao) ⟨cJ _,λj h=>by omega⟩ ?_
  rintro i ⟨hi,hj⟩
  have h0:=n0 i
  have h1:=cd (i:=i) (by omega)
  cbv
  refine ⟨λh=>?_,λh=>?_⟩
  ·have bp:i < a.length:=bE
   have a7:a.length - (i+1) < a.length - i:=by omega
   refine (bz bp).elim λx hx=>?_
   refine (bz (l:=b) (i:=i) (by omega)).elim λy hy=>?_
   cbv
   refine ⟨x,⟨h0,hx⟩,?_⟩
   cbv
   refine ⟨y,⟨h0,hy⟩,?_⟩
   cbv
   refine ⟨λh=>?_,λh=>?_⟩
   ·have h:=h.out
    have cZ:x≠y:=by rintro rfl;simp [aV] at h
    have e:false=R:=by rw [<-hR];symm;exact arx (by rw [hx,hy];simpa using cZ)
    cbv
    exact ⟨by exact aJ⟩
   ·have h:=h.out
    have he:x=y:=by simp [aV] at h;cases x;cases y;simp at h ⊢;omega
    have bw:i+1<=a.length/\∀j,j < i+1->a[j]?=b[j]?:=⟨bp,λj eA=>by
     by_cases e:j=i
     ·subst e;rw [hx,hy,he]
     ·exact hj j (by omega)⟩
    cbv
    exact ⟨i+1,by exact ao,by exact ao,⟨⟨bw,a7⟩⟩⟩
  ·have bR:i=a.length:=by
    have h':aS i a.length=false:=h.out
    have h2:¬(i:Int) < a.length:=by simpa [aS] using h'
    omega
   have e:true=R:=by rw [<-hR];symm;exact aoF hl (by rw [<-bR];exact hj)
   cbv
   exact ⟨by exact aJ⟩
structure ahk where
 l:List Part
 c:Cell
 s:List Source
def xL (c:Cell) (s:List Source) (l:List Part):Int:=match l.findIdx? (VV c s) with
 | some i=>(i:Int)
 | none=>-1
structure WC (y:ahk):Prop where
 l:y.l.length<=1000000
 s:y.s.length<=1000000
 k:∀x∈y.l,x.ins.length<=1000000
@[reducible] noncomputable def P_:Vc.Spec where
 α:=ahk
 args y:=[.sl 4 uJ (λ_=>y.l),.fn (.func 235) [] [.dC (rf y.c) 0,.dC [.sl 2 l7 (λ_=>y.s)] 0]]
 pre y:=WC y
 res y:=.i .i64 (λ_=>xL y.c y.s y.l)
noncomputable def cIx (n m:Nat):Ctx:=eB n m [(235,Tryz.f235)] [(236,WB)]
theorem afp (n m:Nat):CB PP (cIx n m):=eD n m ⟨fo Tryz.func235,trivial⟩ ⟨ap0,trivial⟩
theorem ad9:cS (PP ()) 234 P_:=by
 refine dP (afp 0 0) (fo Tryz.func234) (λa=>⟨(λx=>(NJ x).1),⟨trivial,(Af a.c).1,⟨(λx=>(yr x).1),trivial⟩,trivial⟩,trivial⟩) (λa=>trivial) ?_
 rintro ⟨l,c,s⟩ hx
 have hx:WC ⟨l,c,s⟩:=hx
 have hl:l.length<=1000000:=hx.l
 have hs6:s.length<=1000000:=hx.s
 have Dc:∀x∈l,x.ins.length<=1000000:=hx.k
 obtain ⟨f,hf⟩:∃f,f=VV c s:=⟨_,rfl⟩
 have hfe:∀x,f x=(x.table == c.table&&x.bZ == c.bZ&&x.ins == s):=λx=>by rw [hf];rfl
 obtain ⟨R,hR⟩:∃R,xL c s l=R:=⟨_,rfl⟩
 have j9:P_.res ⟨l,c,s⟩=.i .i64 (λ_=>R):=by rw [<-hR]
 have y_:∀i,i < l.length->(∀j,j < i->∀x,l[j]?=some x->f x=false)->(∀x,l[i]?=some x->f x=true)->(i:Int)=R:=λi hi h1 h2=>by
  rw [<-hR];unfold xL;rw [<-hf]
  have:l.findIdx? f=some i:=by
   rw [DM]
   exact ⟨hi,h2 _ (eh hi),λj hj=>by rw [h1 j hj _ (eh (by omega))];decide⟩
  rw [this]
 have et:(∀j,j < l.length->∀x,l[j]?=some x->f x=false)->-1=R:=λh=>by
  rw [<-hR];unfold xL;rw [<-hf]
  have:l.findIdx? f=none:=by
   rw [Jq]
   intro x hx
   obtain ⟨j,hj,e⟩:=z8.1 hx
   exact h j hj x (by rw [eh hj,e])
  rw [this]
 rw [j9]
 clear j9
 refine ⟨?_⟩
 cbv
 refine Sat.ca (afp 0 0) 0 4 [] (λi:Nat=>[(7,.i .i64 (λ_=>(l.length:Int))),(8,.i .i64 (λ_=>(i:Int)))]) (λi=>[]) (λi=>i<=l.length/\∀j,j < i->∀x,l[j]?=some x->f x=false) (λi=>l.length - i) 0 (by exact ao) (by exact ao) ⟨cJ _,λj h=>by omega⟩ ?_
 rintro i ⟨hi,hj⟩
 have h0:=n0 i
 have h1:=cd (i:=i) (by omega)
 cbv
 refine ⟨λh=>?_,λh=>?_⟩
 ·have bp:i < l.length:=bE
  have a7:l.length - (i+1) < l.length - i:=by omega
  refine (bz bp).elim λx hx=>?_
  have lY:=Dc x (b_ hx)
  have qK:=hfe x
  have hF:f x=false->i+1<=l.length/\∀j,j < i+1->∀x,l[j]?=some x->f x=false:=λWD=>⟨bp,λj eA z hz=>by
   by_cases e:j=i
   ·subst e;rw [hx] at hz;cases hz;exact WD
   ·exact hj j (by omega) z hz⟩
  have hT:f x=true->(i:Int)=R:=λWD=>y_ i bp hj λz hz=>by rw [hx] at hz;cases hz;exact WD
  clear y_ et
  cbv
  refine ⟨x,⟨h0,hx⟩,?_⟩
  refine ⟨λh=>?_,λh=>?_⟩
  ·have tV:(x.table == c.table)=true:=h.out
   cbv
   refine ⟨λh=>?_,λh=>?_⟩
   ·have CQ:(x.bZ == c.bZ)=true:=h.out
    cbv
    refine ⟨⟨x.ins,s⟩,⟨by exact bP,lY,hs6⟩,?_⟩
    cbv
    refine ⟨λh=>?_,λh=>?_⟩
    ·have pO:(x.ins == s)=true:=h.out
     have e:=hT (by rw [qK,tV,CQ,pO];rfl)
     cbv
     exact ⟨by exact aJ⟩
    ·have pO:(x.ins == s)=false:=h.out
     have bw:=hF (by rw [qK,tV,CQ,pO];rfl)
     cbv
     exact ⟨i+1,by exact ao,by exact ao,⟨⟨bw,a7⟩⟩⟩
   ·have CQ:(x.bZ == c.bZ)=false:=h.out
    have bw:=hF (by rw [qK,tV,CQ];rfl)
    cbv
    exact ⟨i+1,by exact ao,by exact ao,⟨⟨bw,a7⟩⟩⟩
  ·have tV:(x.table == c.table)=false:=h.out
   have bw:=hF (by rw [qK,tV];rfl)
   cbv
   exact ⟨i+1,by exact ao,by exact ao,⟨⟨bw,a7⟩⟩⟩
 ·have bR:i=l.length:=by
   have h':aS i l.length=false:=h.out
   have h2:¬(i:Int) < l.length:=by simpa [aS] using h'
   omega
  have e:=et (by rw [<-bR];exact hj)
  cbv
  exact ⟨by exact aJ⟩
structure ahl where
 x:PR
 c:Cell
structure WE (y:ahl):Prop where
 Bg:eQ y.x.n
 w:y.x.w=vJ y.x.n.ins
 parts:y.x.k.parts.length<=100000
 cells:y.x.k.cells.length<=100000
 dH:y.c.ins.length<=100000
 ins:∀g∈y.c.ins,0<=g/\g < 2+y.x.n.ins.length+y.x.k.cells.length
 k:∀x∈y.x.k.parts,x.ins.length<=100000
 src:∀g∈y.c.ins,(gH y.x.n.ins y.x.k.cells g).kind=3->(gH y.x.n.ins y.x.k.cells g).n=0\/(gH y.x.n.ins y.x.k.cells g).n=1
@[reducible] noncomputable def ad_:mP where
 α:=ahl
 args y:=[.ptr 0 0,.agg (rf y.c)]
 io y:=AQ y.x
 pre y:=WE y
 β:=Unit
 post x y:=True
 mv:=[2,3]
 res y _:=.dE []
 j8 y _:=AQ ⟨y.x.n,y.x.w,ji y.x.n.ins y.x.k y.c⟩
theorem amB {bZ:Int} {l:List Source} (h:0<=bZ):strip bZ (l++[⟨3,0⟩])=strip bZ l:=by
 simp [strip,h,xk]
theorem alY {bZ:Int} {l:List Source} {s:Source} (h:s≠⟨3,0⟩):strip bZ (l++[s])=l++[s]:=by
 unfold strip
 split
 ·simp [xk,h]
 ·rfl
theorem Eg {α:Type} {l:List α} {n:Nat} {x:α} (h:l[n]?=some x):l.take (n+1)=l.take n++[x]:=by
 rw [DE,h];rfl
theorem anz {ins:List bT} {k:PK} {c:Cell} {l:List Source} {R:Int} (hl:strip c.bZ (c.ins.map (gH ins k.cells))=l) (hR:xL c l k.parts=R) (h:0<=R) :
  ji ins k c={ k with cells:=k.cells++[⟨2,R⟩] }:=by
 unfold ji
 simp only [hl]
 unfold xL at hR
 split at hR
 ·rename_i i hi
  rw [hi,<-hR]
 ·omega
theorem aoG {ins:List bT} {k:PK} {c:Cell} {l:List Source} {R:Int} (hl:strip c.bZ (c.ins.map (gH ins k.cells))=l) (hR:xL c l k.parts=R) (h:R < 0) :
  ji ins k c={ (k.add ⟨l,c.table,c.bZ,-1⟩) with cells:=k.cells++[k.here],n0:=k.n0||oq 0 l,n1:=k.n1||oq 1 l }:=by
 unfold ji
 simp only [hl]
 unfold xL at hR
 split at hR
 ·omega
 ·rename_i hi
  rw [hi]
theorem M_ {v:Int} {l:List Source} {i:Nat} {x:Source} (h:l[i]?=some x):oq v (l.take (i+1))=(oq v (l.take i)||(x.kind == 3&&x.n == v)):=by
 rw [Eg h];simp [oq]
noncomputable def QW (x:PR) (c:Cell) (l:List Source):Vc.St :=
 ⟨[.ptr 0 0,.agg (rf c),.any,.ptr 5 0,.ptr 7 0]++xA 83,AQ x++[.fix 135 (rf c),.dead,.fix 295 [.sl 2 l7 (λ_=>l)]]⟩
noncomputable def cCe (n m:Nat):Ctx:=eB n m [(233,Tryz.f233),(168,Tryz.f168)] [(167,Kt),(234,P_)] [168] [233] [4]
theorem Vn (n m:Nat):CB PP (cCe n m):=eD n m ⟨fo Tryz.func233,fo Tryz.func168,trivial⟩ ⟨T7,ad9,trivial⟩
noncomputable def at4 (n m:Nat):Ctx:=eB n m [(233,Tryz.f233),(168,Tryz.f168)] [(167,Kt),(234,P_)] [168] [233]
theorem UB (n m:Nat):CB PP (at4 n m):=eD n m ⟨fo Tryz.func233,fo Tryz.func168,trivial⟩ ⟨T7,ad9,trivial⟩
theorem anA:iC PP 165 ad_:=by
 refine mA (Vn 0 0) (fo Tryz.func165) (λa y=>rfl) (λa=>⟨rfl,rfl⟩) (by show ([2,3]:List Nat).Nodup;decide) ?_
 rintro ⟨⟨⟨ins,gs,outs,dr⟩,w,⟨parts,cells,fC,fD,bK⟩⟩,⟨fN,ct,cr⟩⟩ hx
 have hx:WE ⟨⟨⟨ins,gs,outs,dr⟩,w,⟨parts,cells,fC,fD,bK⟩⟩,⟨fN,ct,cr⟩⟩:=hx
 have Iy:parts.length<=100000:=hx.parts
 have hc6:cells.length<=100000:=hx.cells
 have gQ:fN.length<=100000:=hx.dH
 have we:∀g∈fN,0<=g/\g < 2+(ins.length:Int)+cells.length:=hx.ins
 obtain ⟨K,hK⟩:∃K,ji ins ⟨parts,cells,fC,fD,bK⟩ ⟨fN,ct,cr⟩=K:=⟨_,rfl⟩
 have jS:=hx.Bg
 have pZ:w=vJ ins:=hx.w
 have Dc:∀x∈parts,x.ins.length<=100000:=hx.k
 obtain ⟨L,hL⟩:∃L,fN.map (gH ins cells)=L:=⟨_,rfl⟩
 have Ih:L.length=fN.length:=by rw [<-hL];simp
 refine ⟨?_⟩
 cbv
 refine ⟨⟨by decide,by exact Gf _,by show (16:Int)*(fN.length:Int)<=281474976710656;omega,by show (fN.length:Int)<=9223372036854775807;omega⟩,?_⟩
 cbv
 refine Sat.ca (Vn 0 0) 7 10 [(.t 5,6)] (λi:Nat=>[(5,.own 6),(11,.sl 1 bJ (λ_=>fN)),(12,.i .i64 (λ_=>(fN.length:Int))),(13,.i .i64 (λ_=>(i:Int)))]) (λi=>[(6,.dyn 302 2 l7 (λ_=>(fN.take i).map (gH ins cells)))]) (λi=>i<=fN.length) (λi=>fN.length - i) 0 (by exact ao) (by exact ao) (cJ _) ?_
 intro i hi
 have hi:i<=fN.length:=hi
 have h0:=n0 i
 have h1:=cd (i:=i) (by omega)
 cbv
 refine ⟨λh=>?_,λh=>?_⟩
 ·have bp:i < fN.length:=bE
  have a7:fN.length - (i+1) < fN.length - i:=by omega
  refine (bz bp).elim λg hg=>?_
  have oB:=we g (b_ hg)
  have zw:Hj ⟨⟨⟨ins,gs,outs,dr⟩,w,⟨parts,cells,fC,fD,bK⟩⟩,g⟩:=⟨jS,pZ,oB.1,oB.2,by show cells.length<=1000000;omega⟩
  have yf:(fN.take i).map (gH ins cells)++[gH ins cells g]=(fN.take (i+1)).map (gH ins cells):=by rw [Eg hg];simp
  have mu:((fN.take i).map (gH ins cells)).length+1<=100001:=by simp;omega
  have dY:(((fN.take i).map (gH ins cells)).length+1)*16<=140737488355328:=by omega
  have mT:((fN.take i).map (gH ins cells)).length+1<=9223372036854775807:=by omega
  cbv
  refine Sat.tZ (UB 0 0) ?_
  cbv
  refine ⟨g,⟨h0,hg⟩,?_⟩
  cbv
  refine ⟨⟨⟨⟨ins,gs,outs,dr⟩,w,⟨parts,cells,fC,fD,bK⟩⟩,g⟩,⟨.inl ⟨by exact bP,rfl⟩,zw⟩,?_⟩
  cbv
  refine ⟨[gH ins cells g],⟨by exact bP,dY,mT⟩,?_⟩
  cbv
  exact ⟨i+1,by exact ao,by have dM:=yf;exact bH,⟨⟨bp,a7⟩⟩⟩
 ·have bR:i=fN.length:=by
   have h':aS i fN.length=false:=h.out
   have h2:¬(i:Int) < fN.length:=by simpa [aS] using h'
   omega
  have hLe:(fN.take i).map (gH ins cells)=L.take L.length:=by rw [bR,kh,kh,hL]
  cbv
  refine Sat.freeze 6 rfl rfl ?_
  refine Sat.ca (Vn 0 0) 8 13 [] (λn:Nat=>[]) (λn=>[(7,.fix 295 [.sl 2 l7 (λ_=>L.take n)])]) (λn=>n<=L.length/\strip cr (L.take n)=strip cr L) (λn=>n) L.length (by exact ao) (by have dM:=hLe;have dG:=hLe;exact bH) ⟨cP _,by rw [kh]⟩ ?_
  rintro n ⟨hn,cG⟩
  have hn:n<=L.length:=hn
  have cG:strip cr (L.take n)=strip cr L:=cG
  have A_:(L.take n).length=n:=by rw [lu];omega
  have ahm:∀m,n=m+1->0<=cr->L[m]?=some ⟨3,0⟩->m<=L.length/\strip cr (L.take m)=strip cr L:=λm hm h0 hx=>⟨by omega,by rw [<-cG,hm,Eg hx,amB h0]⟩
  have Pj:cr < 0\/n=0\/(∃m x,n=m+1/\L[m]?=some x/\x≠⟨3,0⟩)->strip cr L=L.take n:=by
   rintro (h|h|⟨m,x,h,hx,cZ⟩)
   ·rw [<-cG,aaM h]
   ·rw [<-cG,h];simp [strip,xk]
   ·rw [<-cG,h,Eg hx,alY cZ]
  obtain ⟨l,lW⟩:∃l,L.take n=l:=⟨_,rfl⟩
  apply BQ (λc k=>∀l:List Source,strip cr L=l->Sat [.ptr 0 0,.eV 1,.any,.any,.eV 4] false PP c (QW ⟨⟨ins,gs,outs,dr⟩,w,⟨parts,cells,fC,fD,bK⟩⟩ ⟨fN,ct,cr⟩ l) k)
  ·intro tail
   cbv
   refine ⟨λh=>?_,λh=>?_⟩
   ·have hr:0<=cr:=bE
    cbv
    refine ⟨λh=>?_,λh=>?_⟩
    ·have h':aS 0 ((L.take n).length:Int)=true:=h.out
     have rz:0 < n:=by rw [A_] at h';simp only [aS,decide_eq_true_eq] at h';omega
     obtain ⟨m,hm⟩:∃m,n=m+1:=⟨n - 1,by omega⟩
     refine (bz (l:=L) (i:=m) (by omega)).elim λx gP=>?_
     have C6:IntKind.i64.wrap (((L.take n).length:Int) - 1)=(m:Int):=by rw [A_,cz (by omega) (by omega)];omega
     have gx:0<=IntKind.i64.wrap (((L.take n).length:Int) - 1)/\(L.take n)[(IntKind.i64.wrap (((L.take n).length:Int) - 1)).toNat]?=some x:=by
      rw [C6];refine ⟨by omega,?_⟩;rw [oS,Nc (by omega)];exact gP
     have ary:(0:Int)<=0/\(0:Int)<=IntKind.i64.wrap (((L.take n).length:Int) - 1)/\IntKind.i64.wrap (((L.take n).length:Int) - 1)<=((L.take n).length:Int):=by rw [C6,A_];omega
     have jc:(((L.take n).take (IntKind.i64.wrap (((L.take n).length:Int) - 1)).toNat).drop (0:Int).toNat)=L.take m:=by
      rw [C6,oS,Sw,show min m n=m by omega];rfl
     have tQ:m < n:=by omega
     cbv
     refine ⟨x,⟨gx⟩,?_⟩
     cbv
     refine ⟨λh=>?_,λh=>?_⟩
     ·have WG:x=⟨3,0⟩:=by have h:=h.out;simp [aV] at h;cases x;simp at h ⊢;exact h
      have bw:=ahm m hm hr (by rw [gP,WG])
      cbv
      refine ⟨⟨ary⟩,?_⟩
      cbv
      exact ⟨m,by exact ao,by have dM:=jc;have dG:=jc;exact bH,⟨⟨bw,tQ⟩⟩⟩
     ·have WG:x≠⟨3,0⟩:=by rintro rfl;have h:=h.out;simp [aV] at h
      have hs:=Pj (.inr (.inr ⟨m,x,hm,gP,WG⟩))
      cbv
      exact kD 8 (QW ⟨⟨ins,gs,outs,dr⟩,w,⟨parts,cells,fC,fD,bK⟩⟩ ⟨fN,ct,cr⟩ l) (by exact ao) (by exact ao) (tail l (hs.trans lW))
    ·have h':aS 0 ((L.take n).length:Int)=false:=h.out
     have rz:n=0:=by rw [A_] at h';simp only [aS,decide_eq_false_iff_not] at h';omega
     have hs:=Pj (.inr (.inl rz))
     cbv
     exact kD 8 (QW ⟨⟨ins,gs,outs,dr⟩,w,⟨parts,cells,fC,fD,bK⟩⟩ ⟨fN,ct,cr⟩ l) (by exact ao) (by exact ao) (tail l (hs.trans lW))
   ·have hr:cr < 0:=by have h':cR 0 cr=false:=h.out;simp only [cR,decide_eq_false_iff_not] at h';omega
    have hs:=Pj (.inl hr)
    cbv
    exact kD 8 (QW ⟨⟨ins,gs,outs,dr⟩,w,⟨parts,cells,fC,fD,bK⟩⟩ ⟨fN,ct,cr⟩ l) (by exact ao) (by exact ao) (tail l (hs.trans lW))
  ·intro l hl
   clear ahm Pj
   have lW:l.length<=100000:=by
    have:=aaL cr L
    rw [<-hl];omega
   have qw:∀s∈L,s.kind=3->s.n=0\/s.n=1:=by
    intro s hs
    rw [<-hL] at hs
    obtain ⟨g,hg,rfl⟩:=j3.1 hs
    exact hx.src g hg
   have gx:WC ⟨parts,⟨fN,ct,cr⟩,l⟩:=⟨by show parts.length<=1000000;omega,by show l.length<=1000000;omega,λx hx=>by have:=Dc x hx;show x.ins.length<=1000000;omega⟩
   obtain ⟨R,hR⟩:∃R,xL ⟨fN,ct,cr⟩ l parts=R:=⟨_,rfl⟩
   have hlc:strip cr (fN.map (gH ins cells))=l:=by rw [hL,hl]
   have hcz:(cells.length+1)*16<=140737488355328:=by omega
   have ahn:cells.length+1<=9223372036854775807:=by omega
   have Mb:ad_.j8 ⟨⟨⟨ins,gs,outs,dr⟩,w,⟨parts,cells,fC,fD,bK⟩⟩,⟨fN,ct,cr⟩⟩ ()=AQ ⟨⟨ins,gs,outs,dr⟩,w,K⟩:=by rw [<-hK]
   refine Sat.tZ (UB 0 0) ?_
   cbv
   refine ⟨⟨parts,⟨fN,ct,cr⟩,l⟩,⟨.inl ⟨by exact bP,rfl⟩,gx⟩,?_⟩
   cbv
   refine ⟨λh=>?_,λh=>?_⟩
   ·have Mc:0<=R:=by have h':cR 0 (xL ⟨fN,ct,cr⟩ l parts)=true:=h.out;rw [hR] at h';simpa [cR] using h'
    have p9:=anz (k:=⟨parts,cells,fC,fD,bK⟩) (c:=⟨fN,ct,cr⟩) hlc hR Mc
    rw [hK] at p9
    have e3:cells++[⟨2,R⟩]=(ji ins ⟨parts,cells,fC,fD,bK⟩ ⟨fN,ct,cr⟩).cells:=by rw [hK,p9]
    have e1:parts=(ji ins ⟨parts,cells,fC,fD,bK⟩ ⟨fN,ct,cr⟩).parts:=by rw [hK,p9]
    have e2:bK=(ji ins ⟨parts,cells,fC,fD,bK⟩ ⟨fN,ct,cr⟩).bK:=by rw [hK,p9]
    have e4:fC=(ji ins ⟨parts,cells,fC,fD,bK⟩ ⟨fN,ct,cr⟩).n0:=by rw [hK,p9]
    have e5:fD=(ji ins ⟨parts,cells,fC,fD,bK⟩ ⟨fN,ct,cr⟩).n1:=by rw [hK,p9]
    cbv
    refine ⟨[⟨2,R⟩],⟨by exact bP,hcz,ahn⟩,?_⟩
    cbv
    refine ⟨(),[],[(.c 0 5,2),(.c 0 6,3)],?_,by have g_:=e2;have jW:=e1;have k_:=e3;have dM:=e1;have kq:=e3;have oF:=e4;have A5:=e5;have jN:=e4;have mB:=e5;exact bH,⟨trivial⟩⟩
    cbv
    exact ⟨by exact aJ,trivial⟩
   ·have Mc:R < 0:=by have h':cR 0 (xL ⟨fN,ct,cr⟩ l parts)=false:=h.out;rw [hR] at h';simp only [cR,decide_eq_false_iff_not] at h';omega
    have p9:=aoG (k:=⟨parts,cells,fC,fD,bK⟩) (c:=⟨fN,ct,cr⟩) hlc hR Mc
    rw [hK] at p9
    cbv
    refine Sat.ca (UB 0 0) 8 5 [] (λx:Nat × Bool × Bool=>[(55,.sl 2 l7 (λ_=>l)),(56,.i .i64 (λ_=>(l.length:Int))),(57,.i .i64 (λ_=>(x.1:Int)))])
     (λx=>[(0,.fix 298 [.sl 3 dc (λ_=>ins),.sl 5 dB (λ_=>gs),.sl 3 dc (λ_=>outs),.sl 1 bJ (λ_=>dr),.eV 1,.own 2,.own 3,.b (λ_=>x.2.1),.b (λ_=>x.2.2),.eV 4])])
     (λx=>x.1<=l.length/\x.2.1=(fC||oq 0 (l.take x.1))/\x.2.2=(fD||oq 1 (l.take x.1))) (λx=>l.length - x.1) (0,fC,fD) (by exact ao) (by exact ao) ⟨cJ _,by simp [oq],by simp [oq]⟩ ?_
    rintro ⟨i,b0,b1⟩ ⟨hi,eb,jC⟩
    have hi:i<=l.length:=hi
    have eb:b0=(fC||oq 0 (l.take i)):=eb
    have jC:b1=(fD||oq 1 (l.take i)):=jC
    have h0:=n0 i
    have h1:=cd (i:=i) (by omega)
    cbv
    refine ⟨λh=>?_,λh=>?_⟩
    ·have bp:i < l.length:=bE
     have a7:l.length - (i+1) < l.length - i:=by omega
     refine (bz bp).elim λx pV=>?_
     have QX:x.kind=3->x.n=0\/x.n=1:=qw x (by rw [<-hl] at pV;exact aaK x (b_ pV))
     have et:¬x.kind=3->i+1<=l.length/\b0=(fC||oq 0 (l.take (i+1)))/\b1=(fD||oq 1 (l.take (i+1))):=λhk=>by
      have X0:(x.kind == 3)=false:=beq_eq_false_iff_ne.2 hk
      refine ⟨bp,?_,?_⟩
      ·rw [M_ pV,eb,X0,Sy,SC]
      ·rw [M_ pV,jC,X0,Sy,SC]
     have h00:x.kind=3->x.n=0->i+1<=l.length/\true=(fC||oq 0 (l.take (i+1)))/\b1=(fD||oq 1 (l.take (i+1))):=λhk hn=>by
      refine ⟨bp,?_,?_⟩<;>simp [M_ pV,jC,hk,hn]
     have zq:x.kind=3->x.n=1->i+1<=l.length/\b0=(fC||oq 0 (l.take (i+1)))/\true=(fD||oq 1 (l.take (i+1))):=λhk hn=>by
      refine ⟨bp,?_,?_⟩<;>simp [M_ pV,eb,hk,hn]
     cbv
     refine ⟨x,⟨h0,pV⟩,?_⟩
     cbv
     refine ⟨λh=>?_,λh=>?_⟩
     ·have nE:x.kind=3:=bE
      rcases QX nE with hn|hn
      ·have bw:=h00 nE hn
       cbv
       refine ⟨0,⟨hn,by decide⟩,?_⟩
       cbv
       exact ⟨(i+1,true,b1),by exact ao,by exact ao,⟨⟨bw,a7⟩⟩⟩
      ·have bw:=zq nE hn
       cbv
       refine ⟨1,⟨hn,by decide⟩,?_⟩
       cbv
       exact ⟨(i+1,b0,true),by exact ao,by exact ao,⟨⟨bw,a7⟩⟩⟩
     ·have nE:¬x.kind=3:=bE
      have bw:=et nE
      cbv
      exact ⟨(i+1,b0,b1),by exact ao,by exact ao,⟨⟨bw,a7⟩⟩⟩
    ·have bR:i=l.length:=by
      have h':aS i l.length=false:=h.out
      have h2:¬(i:Int) < l.length:=by simpa [aS] using h'
      omega
     rw [bR,kh] at eb jC
     have FN:parts.length<=1000000:=by omega
     have e1:(PK.add ⟨parts,cells,b0,b1,bK⟩ ⟨l,ct,cr,-1⟩).parts=(ji ins ⟨parts,cells,fC,fD,bK⟩ ⟨fN,ct,cr⟩).parts:=by rw [hK,p9];rfl
     have e2:(PK.add ⟨parts,cells,b0,b1,bK⟩ ⟨l,ct,cr,-1⟩).bK=(ji ins ⟨parts,cells,fC,fD,bK⟩ ⟨fN,ct,cr⟩).bK:=by rw [hK,p9];rfl
     have e3:(PK.add ⟨parts,cells,b0,b1,bK⟩ ⟨l,ct,cr,-1⟩).cells++[⟨2,(parts.length:Int)⟩]=(ji ins ⟨parts,cells,fC,fD,bK⟩ ⟨fN,ct,cr⟩).cells:=by rw [hK,p9];rfl
     have e4:b0=(ji ins ⟨parts,cells,fC,fD,bK⟩ ⟨fN,ct,cr⟩).n0:=by rw [hK,p9,eb]
     have e5:b1=(ji ins ⟨parts,cells,fC,fD,bK⟩ ⟨fN,ct,cr⟩).n1:=by rw [hK,p9,jC]
     cbv
     refine bU.io BU ⟨⟨⟨ins,gs,outs,dr⟩,w,⟨parts,cells,b0,b1,bK⟩⟩,⟨l,ct,cr,-1⟩⟩ [0,1,2,3,4] rfl (by exact bP) (by exact ao) ⟨FN⟩ λ_ _=>?_
     cbv
     refine ⟨[⟨2,(parts.length:Int)⟩],⟨by exact bP,hcz,ahn⟩,?_⟩
     cbv
     refine ⟨(),[],[(.c 0 5,2),(.c 0 6,3)],?_,by have g_:=e2;have jW:=e1;have k_:=e3;have dM:=e1;have kq:=e3;have oF:=e4;have A5:=e5;have jN:=e4;have mB:=e5;exact bH,⟨trivial⟩⟩
     cbv
     exact ⟨by exact aJ,trivial⟩
end Go.Proofs.Pk
