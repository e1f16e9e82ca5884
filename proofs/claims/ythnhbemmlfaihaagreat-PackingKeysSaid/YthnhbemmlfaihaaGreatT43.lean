import Derived.Test.YthnhbemmlfaihaaGreatT19
import Derived.Test.YthnhbemmlfaihaaGreatT31
import Derived.Test.YthnhbemmlfaihaaGreatT36
import Derived.Test.YthnhbemmlfaihaaGreatT42
set_option linter.unusedVariables false
set_option linter.unusedSimpArgs false
set_option maxRecDepth 10000
set_option maxHeartbeats 64000000
namespace Go.Proofs.Pk
open Go Go.Vc
structure tC (p:bq):Prop where
 sh:Shape p
 rk:∃r,jy p r
 ky:Ko p
 il:p.ins.length<=1000000
 ol:p.outs.length<=1000000
theorem tC.va {p:bq} (h:tC p):AP p :=
 ⟨⟨by have:=h.sh.dH;omega,h.il⟩,h.ol,by rw [h.sh.o5];exact h.ol,λx hx=>by have:=(h.sh.formed x hx).k;omega⟩
theorem tC.vr {p:bq} (h:tC p):Wz p:=⟨h.va,h.sh,h.rk⟩
theorem tC.ahY {p:bq} (h:tC p):CI p:=⟨h.sh,h.rk,h.il⟩
theorem tC.mv {p:bq} {l:List Int} (h:tC p) (hl:ly p.blocks.length l):W8 ⟨p,l⟩ :=
 ⟨h.il,by have:=h.sh.dH;show p.blocks.length<=1000000;omega,h.va.ay,hl,h.va.k,λy hy s hs=>⟨(h.sh.used y hy s hs).lo,(h.sh.used y hy s hs).hi⟩,λs hs=>⟨(h.sh.ay s hs).lo,(h.sh.ay s hs).hi⟩⟩
theorem tC.arK {p:bq} {l:List Int} (h:tC p) (hl:ly p.blocks.length l):tC (nO p l):=by
 obtain ⟨r,hr⟩:=h.rk
 exact ⟨alo hl h.sh,⟨_,Zz hl h.sh hr⟩,alr hl h.sh hr h.ky,h.il,h.ol⟩
theorem tC.bf {p:bq} (h:tC p) {i:Nat} {y:Block} (hy:p.blocks[i]?=some y) (h0:0<=y.bf):y.key=ie [1,y.bf]:=by
 have h1:=h.ky i y hy
 rw [NP (bX.1 hy).1] at h1
 unfold CD at h1
 rw [hy] at h1
 simp only [if_pos h0] at h1
 exact (BK h1).symm
theorem al0 {n:Net} {m:gE} (hn:eQ n) (hm:jz n m) (hd:n.ay.length<=1000):tC (rR n m):=by
 obtain ⟨h1,h2,h3⟩:=Tp hn hm
 obtain ⟨s1,s2⟩:=ZV (m:=m) hn
 have fO:=hn.o5
 exact ⟨h1,⟨_,h2⟩,h3,by omega,by omega⟩
theorem aoY {n:Net} {m:gE} (hn:eQ n) (hm:jz n m) (hd:n.ay.length<=1000):CK ⟨n,m⟩ :=
 ⟨⟨hn,by have:=hn.o5;show n.outs.length<=100000;omega,by have:=hn.o5;have:=hm.o5;show m.ay.length<=100000;omega⟩,λ_ _=>hm⟩
theorem anR {n:Net} {m:gE} (hm:jz n m):tE ⟨n,m⟩=(rR n m,0):=by
 unfold tE
 rw [if_pos ⟨hm.ni.symm,hm.o5.symm⟩]
@[reducible] noncomputable def Xa:Vc.Spec where
 α:=tO
 args y:=[.agg [.sl 3 dc (λ_=>y.n.ins),.sl 5 dB (λ_=>y.n.gG),.sl 3 dc (λ_=>y.n.outs),.sl 1 bJ (λ_=>y.n.ay)],.agg [.i .i64 (λ_=>y.m.n),.sl 3 rf (λ_=>y.m.cells),.sl 1 bJ (λ_=>y.m.ay)]]
 pre y:=CK y
 res y:=.agg [.sl 3 dc (λ_=>(gM y).1.ins),.sl 5 oe (λ_=>(gM y).1.blocks),.sl 3 dc (λ_=>(gM y).1.outs),.sl 1 bJ (λ_=>(gM y).1.ay),.i .i64 (λ_=>(gM y).2)]
noncomputable def auy (n m:Nat):Ctx:=eB n m [] [(74,Ku)]
theorem aqb (n m:Nat):CB PP (auy n m):=eD n m trivial ⟨Ua,trivial⟩
theorem aqc:cS (PP ()) 16 Xa:=by
 refine dP (aqb 0 0) (fo Tryz.func16) (λa=>⟨⟨(λx=>(gL x).1),(λx=>(eK x).1),(λx=>(gL x).1),(λx=>(cM x).1),trivial⟩,⟨trivial,(λx=>(Af x).1),(λx=>(cM x).1),trivial⟩,trivial⟩) (λa=>⟨(λx=>(gL x).1),(λx=>(Jj x).1),(λx=>(gL x).1),(λx=>(cM x).1),trivial,trivial⟩) ?_
 rintro ⟨⟨ins,gs,outs,dr⟩,⟨mn,mc,md⟩⟩ hx
 have hx:CK ⟨⟨ins,gs,outs,dr⟩,⟨mn,mc,md⟩⟩:=hx
 obtain ⟨R,hR⟩:∃R,gM ⟨⟨ins,gs,outs,dr⟩,⟨mn,mc,md⟩⟩=R:=⟨_,rfl⟩
 obtain ⟨⟨ri,rb,ro,rd⟩,re⟩:=R
 have j9:Xa.res ⟨⟨ins,gs,outs,dr⟩,⟨mn,mc,md⟩⟩=.agg [.sl 3 dc (λ_=>ri),.sl 5 oe (λ_=>rb),.sl 3 dc (λ_=>ro),.sl 1 bJ (λ_=>rd),.i .i64 (λ_=>re)]:=by
  show SV.agg [.sl 3 dc (λ_=>(gM ⟨⟨ins,gs,outs,dr⟩,⟨mn,mc,md⟩⟩).1.ins),.sl 5 oe (λ_=>(gM ⟨⟨ins,gs,outs,dr⟩,⟨mn,mc,md⟩⟩).1.blocks),.sl 3 dc (λ_=>(gM ⟨⟨ins,gs,outs,dr⟩,⟨mn,mc,md⟩⟩).1.outs),.sl 1 bJ (λ_=>(gM ⟨⟨ins,gs,outs,dr⟩,⟨mn,mc,md⟩⟩).1.ay),.i .i64 (λ_=>(gM ⟨⟨ins,gs,outs,dr⟩,⟨mn,mc,md⟩⟩).2)]=_
  rw [hR]
 have w1:(gM ⟨⟨ins,gs,outs,dr⟩,⟨mn,mc,md⟩⟩).1.ins=ri:=by rw [hR]
 have w2:(gM ⟨⟨ins,gs,outs,dr⟩,⟨mn,mc,md⟩⟩).1.blocks=rb:=by rw [hR]
 have w3:(gM ⟨⟨ins,gs,outs,dr⟩,⟨mn,mc,md⟩⟩).1.outs=ro:=by rw [hR]
 have w4:(gM ⟨⟨ins,gs,outs,dr⟩,⟨mn,mc,md⟩⟩).1.ay=rd:=by rw [hR]
 have w5:(gM ⟨⟨ins,gs,outs,dr⟩,⟨mn,mc,md⟩⟩).2=re:=by rw [hR]
 rw [j9]
 refine ⟨?_⟩
 cbv
 refine ⟨⟨⟨ins,gs,outs,dr⟩,⟨mn,mc,md⟩⟩,⟨by exact bP,hx⟩,?_⟩
 cbv
 exact ⟨by have dG:=w1;have pe:=w2;have xZ:=w3;have x3:=w4;have bj:=w5;exact dv⟩
structure Ke where
 x:List Int
 s:List Int
 i:List Int
 c:List Int
 b:List Int
structure ahZ (y:Ke):Prop where
 x:qp y.x
 c:qp y.c
 b:qp y.b
@[reducible] noncomputable def KeS:Vc.Spec where
 α:=Ke
 args y:=[.agg [.sl 1 iF (λ_=>y.x),.sl 1 iF (λ_=>y.s),.sl 1 iF (λ_=>y.i),.sl 1 iF (λ_=>y.c)],.sl 1 iF (λ_=>y.b)]
 pre y:=ahZ y
 res y:=.b (λ_=>true)
noncomputable def cKe (n m:Nat):Ctx:=eB n m [(15,Tryz.f15)] [(11,ExS),(12,adY),(16,Xa),(17,ac8),(19,W6),(18,W9),(26,Pn),(27,J4)] [15]
theorem afS (n m:Nat):CB PP (cKe n m):=eD n m ⟨fo Tryz.func15,trivial⟩ ⟨arI,ann,aqc,amA,ap8,aqa,T_,Tq,trivial⟩
theorem arL:cS (PP ()) 4 KeS:=by
 refine dP (afS 0 0) (fo Tryz.func4) (λa=>⟨⟨(λx=>(rN x).1),(λx=>(rN x).1),(λx=>(rN x).1),(λx=>(rN x).1),trivial⟩,(λx=>(rN x).1),trivial⟩) (λa=>trivial) ?_
 rintro ⟨x,s,i0,c,b⟩ hx
 have hx:ahZ ⟨x,s,i0,c,b⟩:=hx
 have oK:qp x:=hx.x
 have gn:qp c:=hx.c
 have zn:qp b:=hx.b
 clear hx
 refine ⟨?_⟩
 cbv
 refine ⟨(),⟨by exact bP,trivial⟩,?_⟩
 cbv
 refine ⟨λh=>?_,λh=>?_⟩
 ·have hF:False:=by have h:=h.out;simp at h
  cases hF
 clear h
 cbv
 refine ⟨λh=>?_,λh=>?_⟩
 ·cbv
  exact ⟨.refl _⟩
 have az7:c.length<=40:=by
  have h':aS 40 (c.length:Int)=false:=h.out
  have h2:¬(40:Int) < c.length:=by simpa [aS] using h'
  omega
 have k9:c.length<=1000/\∀z∈c,0<=z/\z<=255:=⟨by omega,gn.2⟩
 clear h
 cbv
 refine ⟨x,⟨by exact bP,oK⟩,?_⟩
 cbv
 refine bU.rel apR c (by exact aJ) ⟨k9⟩ λy hy=>?_
 have hy:Pc y:=hy.out
 obtain ⟨⟨ins,gs,outs,dr⟩,⟨mn,mc,md⟩,is⟩:=y
 have jS:eQ ⟨ins,gs,outs,dr⟩:=hy.Bg
 have oI:dr.length<=1000:=hy.yb
 have Cj:is=true->jz ⟨ins,gs,outs,dr⟩ ⟨mn,mc,md⟩:=hy.map
 clear hy
 cbv
 refine ⟨λh=>?_,λh=>?_⟩
 ·cbv
  exact ⟨.refl _⟩
 have his:is=true:=by
  have h':(!is)=false:=h.out
  simpa using h'
 have YD:=Cj his
 have FU:=aoY jS YD oI
 have EH:=al0 jS YD oI
 have vb:gM ⟨⟨ins,gs,outs,dr⟩,⟨mn,mc,md⟩⟩=(rR ⟨ins,gs,outs,dr⟩ ⟨mn,mc,md⟩,0):=by rw [yz,anR YD]
 obtain ⟨p,hp⟩:∃p,rR ⟨ins,gs,outs,dr⟩ ⟨mn,mc,md⟩=p:=⟨_,rfl⟩
 rw [hp] at vb EH
 obtain ⟨P1,P2,P3,P4⟩:=p
 have w1:(gM ⟨⟨ins,gs,outs,dr⟩,⟨mn,mc,md⟩⟩).1.ins=P1:=by rw [vb]
 have w2:(gM ⟨⟨ins,gs,outs,dr⟩,⟨mn,mc,md⟩⟩).1.blocks=P2:=by rw [vb]
 have w3:(gM ⟨⟨ins,gs,outs,dr⟩,⟨mn,mc,md⟩⟩).1.outs=P3:=by rw [vb]
 have w4:(gM ⟨⟨ins,gs,outs,dr⟩,⟨mn,mc,md⟩⟩).1.ay=P4:=by rw [vb]
 have w5:(gM ⟨⟨ins,gs,outs,dr⟩,⟨mn,mc,md⟩⟩).2=0:=by rw [vb]
 clear h Cj hp
 cbv
 refine ⟨⟨⟨ins,gs,outs,dr⟩,⟨mn,mc,md⟩⟩,⟨by exact bP,FU⟩,?_⟩
 cbv
 refine ⟨λh=>?_,λh=>?_⟩
 ·have hF:False:=by
   have h:=h.out
   rw [show aV (gM ⟨⟨ins,gs,outs,dr⟩,⟨mn,mc,md⟩⟩).2 0=true by rw [w5];rfl] at h
   cases h
  cases hF
 clear h
 have LP:=EH.vr
 have hP2:P2.length<=600:=EH.sh.dH
 have nz:W5 ⟨P2.length,b⟩:=⟨by show P2.length<=1000000;omega,zn.2⟩
 have zF:ly P2.length (Ll b P2.length):=by rw [adk];exact aoW _ _
 obtain ⟨l,hl⟩:∃l,Ll b P2.length=l:=⟨_,rfl⟩
 rw [hl] at zF
 have LH:=EH.mv zF
 have Mn:=EH.arK zF
 rw [<-Ud] at Mn
 obtain ⟨q,hq⟩:∃q,zb ⟨P1,P2,P3,P4⟩ l=q:=⟨_,rfl⟩
 rw [hq] at Mn
 have Qf:q.blocks.length=P2.length:=by rw [<-hq,Ud,Gp]
 obtain ⟨Q1,Q2,Q3,Q4⟩:=q
 have v1:(zb ⟨P1,P2,P3,P4⟩ l).ins=Q1:=by rw [hq]
 have v2:(zb ⟨P1,P2,P3,P4⟩ l).blocks=Q2:=by rw [hq]
 have v3:(zb ⟨P1,P2,P3,P4⟩ l).outs=Q3:=by rw [hq]
 have v4:(zb ⟨P1,P2,P3,P4⟩ l).ay=Q4:=by rw [hq]
 obtain ⟨N,hN⟩:∃N,P2.length=N:=⟨_,rfl⟩
 rw [hN] at nz hl zF hP2 Qf
 have CP:((gM ⟨⟨ins,gs,outs,dr⟩,⟨mn,mc,md⟩⟩).1.blocks.length:Int)=(N:Int):=by rw [w2,hN]
 have jj:((zb ⟨P1,P2,P3,P4⟩ l).blocks.length:Int)=(N:Int):=by rw [v2];exact congrArg Nat.cast Qf
 have eT:((kY ⟨P1,P2,P3,P4⟩).length:Int)=(N:Int):=by rw [SU];exact congrArg Nat.cast hN
 have my:((kY ⟨Q1,Q2,Q3,Q4⟩).length:Int)=(N:Int):=by rw [SU];exact congrArg Nat.cast Qf
 have hcA:(!aV ((kY ⟨P1,P2,P3,P4⟩).length:Int) ((gM ⟨⟨ins,gs,outs,dr⟩,⟨mn,mc,md⟩⟩).1.blocks.length:Int))=true->False:=by
  rw [eT,CP];simp [aV]
 have hcB:(!aV ((kY ⟨Q1,Q2,Q3,Q4⟩).length:Int) ((kY ⟨P1,P2,P3,P4⟩).length:Int))=true->False:=by
  rw [eT,my];simp [aV]
 have aR:∀i:Nat,aS i ((kY ⟨P1,P2,P3,P4⟩).length:Int)=true->i < N:=λi h'=>by
  rw [eT] at h'
  simpa [aS] using h'
 have arN:∀{i:Nat} {x:Block},P2[i]?=some x->(gM ⟨⟨ins,gs,outs,dr⟩,⟨mn,mc,md⟩⟩).1.blocks[i]?=some x:=λh=>by rw [w2];exact h
 have arO:∀{i:Nat} {x:Block},Q2[i]?=some x->(zb ⟨P1,P2,P3,P4⟩ l).blocks[i]?=some x:=λh=>by rw [v2];exact h
 have pq:=EH.ahY
 have hkq:=Mn.ahY
 cbv
 refine ⟨⟨P1,P2,P3,P4⟩,⟨by have dG:=w1;have pe:=w2;have xZ:=w3;have x3:=w4;exact cN,LP⟩,?_⟩
 cbv
 refine ⟨λh=>?_,λh=>?_⟩
 ·have hF:False:=by have h:=h.out;simp at h
  cases hF
 clear h
 cbv
 refine ⟨⟨N,b⟩,⟨by have bj:=CP;exact cN,nz⟩,?_⟩
 cbv
 refine ⟨⟨⟨P1,P2,P3,P4⟩,l⟩,⟨by have dG:=w1;have pe:=w2;have xZ:=w3;have x3:=w4;have XC:=hl;exact cN,LH⟩,?_⟩
 cbv
 refine ⟨⟨P1,P2,P3,P4⟩,⟨by have dG:=w1;have pe:=w2;have xZ:=w3;have x3:=w4;exact cN,pq⟩,?_⟩
 cbv
 refine ⟨⟨Q1,Q2,Q3,Q4⟩,⟨by have dG:=v1;have pe:=v2;have xZ:=v3;have x3:=v4;exact cN,hkq⟩,?_⟩
 cbv
 refine ⟨λh=>?_,λh=>?_⟩
 ·have hF:=hcA h.out
  cases hF
 clear h
 cbv
 refine ⟨λh=>?_,λh=>?_⟩
 ·have hF:=hcB h.out
  cases hF
 clear h
 cbv
 refine Sat.ca (afS 0 0) 4 11 [] (λi:Nat=>[(11,.i .i64 (λ_=>(i:Int)))]) (λi=>[]) (λi=>i<=N) (λi=>N - i) 0 (by exact ao) (by exact ao) (cJ _) ?_
 intro i hi
 have hi:i<=N:=hi
 have h0:=n0 i
 have h1:=cd (i:=i) (by omega)
 cbv
 refine ⟨λh=>?_,λh=>?_⟩
 rotate_left
 ·cbv
  exact ⟨.refl _⟩
 have bp:i < N:=aR i h.out
 have a7:N - (i+1) < N - i:=by omega
 refine (bz (l:=P2) (i:=i) (by rw [hN];exact bp)).elim λx1 gk=>?_
 refine (bz (l:=Q2) (i:=i) (by show i < Q2.length;rw [show Q2.length=N from Qf];exact bp)).elim λy1 fA=>?_
 have hkx:=EH.ky i x1 gk
 have ah0:=Mn.ky i y1 fA
 have tN:=Mn.bf fA
 have auz:=arN gk
 have Xb:=arO fA
 clear h
 cbv
 refine ⟨x1.key,⟨h0,hkx⟩,?_⟩
 cbv
 have hcC:(!aV x1.key x1.key)=true->False:=λh=>by simp [aV] at h
 have hcD:(!aV y1.key y1.key)=true->False:=λh=>by simp [aV] at h
 refine ⟨x1,⟨h0,auz⟩,?_⟩
 cbv
 refine ⟨λh=>?_,λh=>?_⟩
 ·have hF:=hcC h.out
  cases hF
 clear h
 cbv
 refine ⟨y1.key,⟨h0,ah0⟩,?_⟩
 cbv
 refine ⟨y1,⟨h0,Xb⟩,?_⟩
 cbv
 refine ⟨λh=>?_,λh=>?_⟩
 ·have hF:=hcD h.out
  cases hF
 clear h
 cbv
 refine ⟨y1,⟨h0,Xb⟩,?_⟩
 cbv
 refine And.intro ?_ ?_
 ·intro h
  have FB:0<=y1.bf:=bE
  have FM:=tN FB
  have hcE:(!aV y1.key (ie [1,y1.bf]))=true->False:=λh=>by rw [FM] at h;simp [aV] at h
  have s7:([1,y1.bf]:List Int).length < 4611686018427387904:=by show 2 < 4611686018427387904;decide
  clear h
  cbv
  refine ⟨y1.key,⟨h0,ah0⟩,?_⟩
  cbv
  refine ⟨y1,⟨h0,Xb⟩,?_⟩
  cbv
  refine ⟨[1,y1.bf],⟨.inl ⟨by exact bP,rfl⟩,s7⟩,?_⟩
  cbv
  refine ⟨λh=>?_,λh=>?_⟩
  ·have hF:=hcE h.out
   cases hF
  clear h
  cbv
  exact ⟨i+1,by exact ao,by exact ao,⟨⟨bp,a7⟩⟩⟩
 ·intro h
  clear h
  cbv
  exact ⟨i+1,by exact ao,by exact ao,⟨⟨bp,a7⟩⟩⟩
theorem cS.bc {f:FuncId} {S:Vc.Spec} (h:cS (PP ()) f S) (hr:∀a,S.res a=.b λ_=>true):cS (PP ()) f { S with res:=λ_=>.bc true,fr:=false } where
 fn:=h.fn
 lf:=h.lf
 lr:=λ_=>trivial
 fresh:=λh=>by cases h
 run:=λa hp H F w vals h1 h2 h3=>(h.run a hp H F w vals h1 h2 h3).mono (by
  rintro e w' ⟨v,H',g1,g2,g3,g4,g5,g6,g7⟩
  rw [hr] at g6
  exact ⟨v,H',g1,g2,g3,g4,g5,by simpa only [rel] using g6,g7⟩)
@[reducible] noncomputable def keS:Vc.Spec:={ KeS with res:=λ_=>.bc true,fr:=false }
theorem aqd:cS (PP ()) 4 keS:=cS.bc arL λ_=>rfl
theorem YE {l:List Int} (h:l.length<=maxLen/\∀x∈l,IntKind.u8.min<=x/\x<=IntKind.u8.max):qp l:=by
 refine ⟨by have:=h.1;unfold maxLen at this;omega,λx hx=>?_⟩
 have:=h.2 x hx
 simp [IntKind.min,IntKind.max,IntKind.bits,IntKind.signed] at this
 omega
end Go.Proofs.Pk
