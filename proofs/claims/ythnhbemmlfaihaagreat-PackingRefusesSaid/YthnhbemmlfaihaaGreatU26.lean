import Derived.Test.YthnhbemmlfaihaaGreatU7
import Derived.Test.YthnhbemmlfaihaaGreatU16
import Derived.Test.YthnhbemmlfaihaaGreatU25
set_option linter.unusedVariables false
set_option linter.unusedSimpArgs false
set_option maxRecDepth 10000
set_option maxHeartbeats 64000000
namespace Go.Proofs.Pk
open Go Go.Vc
structure NE where
 n:Net
 e:Int
@[reducible] noncomputable def aqJ:fK where
 α:=rR
 args x:=[.agg (za 2 x)]
 pre x:=rG x
 β:=NE
 post x y:=eX y.n/\y.n.ay.length<=1000
 res x y:=.agg [.sl 3 dm (λ_=>y.n.ins),.sl 5 dD (λ_=>y.n.gM),.sl 3 dm (λ_=>y.n.outs),.sl 1 bM (λ_=>y.n.ay),.i .i64 (λ_=>y.e)]
structure H5 (L:Int) (g0 c k m:Nat) (f:Nat->Int) (n l:Nat) (rw:List Int) (x:SL):Prop where
 i:x.i<=n
 ok:kT L x.gs
 lo:g0<=x.gs.length
 hi:x.gs.length<=g0+c*x.i
 out:OB L (f x.i) rw m 0 (l+k*x.i) x.gs x.out x.dr
theorem OB.sig {L c:Int} {rw:List Int} {i k:Int} {n:Nat} {gs:List Gate} {l:List bU} {dr:List Int} (h:OB L c rw i k n gs l dr) {cw:List Gate} (hg:gs.length<=cw.length):OB L c rw i k n cw l dr:=h.up (j5 _) (cR _) hg
theorem OB.outs {L c:Int} {rw:List Int} {n:Nat} {gs:List Gate} {l:List bU} {dr:List Int} (h:OB L c rw rw.length 0 n gs l dr):U3 rw l:=⟨⟨_,h.tz⟩,h.wr,h.aM⟩
structure QN (n:Nat) (L:Int) (g0 g1 m:Nat) (c:Int) (l:Nat) (rw:List Int) (x:SL):Prop where
 le:x.i<=n
 ok:kT L x.gs
 lo:g0<=x.gs.length
 hi:x.gs.length<=g1
 out:OB L (c+(x.i:Int)) rw m 0 (l+1*x.i) x.gs x.out x.dr
theorem apt:eX ⟨[],[],[],[]⟩:=⟨by decide,by simp,λi g h=>by simp at h,by simp,GM,GM,λw _=>xu,rfl,by simp⟩
noncomputable def cBd (n m:Nat):Ctx:=fB n m [(157,Tryz.f157),(158,Tryz.f158),(159,Tryz.f159),(162,Tryz.f162),(161,Tryz.f161),(163,Tryz.f163)] [(160,KP),(51,AF)] [157,158,159,162,161,163]
theorem HB (n m:Nat):CB PP (cBd n m):=fG n m ⟨fo Tryz.func157,fo Tryz.func158,fo Tryz.func159,fo Tryz.func162,fo Tryz.func161,fo Tryz.func163,trivial⟩ ⟨UC,B9,trivial⟩
theorem aoj:eG PP 73 aqJ:=by
 refine iL (HB 2 2) (fo Tryz.func73) (λa=>⟨G4 2 a,trivial⟩) (λa y=>⟨(λx=>(gS x).1),(λx=>(eO x).1),(λx=>(gS x).1),(λx=>(cQ x).1),trivial,trivial⟩) ?_
 rintro p hp
 have hp:rG p:=hp
 obtain ⟨R,hR⟩:∃R,R=p.aM.map (·.w):=⟨_,rfl⟩
 have Bj:R.length=p.aM.length:=by rw [hR,qJ]
 have rX:p.aM.length<=3:=hp.aM.1
 have kq:p.bf.length<=1:=hp.bf.1
 have tm:p.dZ.length<=2:=hp.dZ.1
 have IP:∀(i:Nat) (r:rV),p.dZ[i]?=some r->1<=r.w/\r.w<=2/\WT (n8 p true) 3 r.w r.data:=λi r h=>by have:=hp.dZ.2 r (cb h);exact ⟨this.1,this.2.1,this.2.2.2⟩
 have hmw:∀(i:Nat) (r:Mem),p.bf[i]?=some r->1<=r.w/\r.w<=2/\WT (n8 p true) 3 1 r.en/\(∃v,okW v/\WT (n8 p true) 3 v r.ad)/\WT (n8 p true) 3 r.w r.da:=λi r h=>by
  obtain ⟨a,b,_,_,c,⟨v,d⟩,e⟩:=hp.bf.2 r (cb h)
  exact ⟨a,b,c,⟨v,d.wide (adR hp true),d⟩,e⟩
 refine ⟨?_⟩
 cbv
 refine bV.rel aqy p (by exact bQ) ⟨hp⟩ λins Lz=>?_
 have Lz:Vd (p.aM.map (·.w)) ins:=Lz.out
 rw [<-hR] at Lz
 have hi:=Lz.len
 cbv
 refine bV.rel apo ⟨p,ins⟩ (by exact bQ) ⟨hp,hi⟩ λd hd=>?_
 have hd:EB ins.length p d:=hd.out
 cbv
 refine bV.io aoi ⟨p,ins,d⟩ [9,9] rfl (by exact bQ) (by exact ao) ⟨⟨hp,hi,hd⟩⟩ λy hy=>?_
 have hy:UD ins.length p d y:=hy.out
 obtain ⟨L,hL⟩:∃L:Int,(ins.length:Int)=L:=⟨_,rfl⟩
 have hd:EB ((ins.length:Nat):Int) p d:=hd
 rw [hL] at hd hy
 have Dh:0<=L/\L<=100:=by omega
 have oo:=P5 hp hi (b:=true) (I:=L) (gs:=d.gs) (data:=d.data) (λ_=>hd.data)
 obtain ⟨st,cJ⟩:∃st,st=n8 p true:=⟨_,rfl⟩
 rw [<-cJ] at IP hmw oo
 obtain ⟨data,tY⟩:∃data,d.data=data:=⟨_,rfl⟩
 obtain ⟨jg,ES⟩:∃v,d.jg=v:=⟨_,rfl⟩
 obtain ⟨dZ,KK⟩:∃v,d.dZ=v:=⟨_,rfl⟩
 have hdf:d.gs.length<=6000:=hd.dK
 have Hp:cI L d.gs jg:=by rw [<-ES];exact hd.jg
 have Mz:fL L d.gs dZ:=by rw [<-KK];exact hd.pn
 have C4:dZ.length=p.dZ.length:=by rw [<-KK];exact hd.pl
 have Fj:∀d'∈data,fL L d.gs d':=by rw [<-tY];exact hd.data.ok
 rw [tY] at oo
 obtain ⟨G,hG⟩:∃G,d.gs=G:=⟨_,rfl⟩
 rw [hG] at Hp Mz Fj hdf
 obtain ⟨xa,ah0,dr1⟩:=y
 have auE:kT L xa:=hy.ok
 have aBw:G.length<=xa.length:=by rw [<-hG];exact hy.lo
 have aBx:xa.length<=G.length+3400:=by rw [<-hG];exact hy.hi
 have auF:OB L (2000+32*((0:Nat):Int)) R R.length 0 (30+4*0) xa ah0 dr1:=by
  have h:=hy.out
  rw [<-hR,<-Bj] at h
  exact h
 clear hd hy hp
 cbv
 have hL:((ins.length:Nat):Int)=L:=hL
 refine Sat.cf (HB 2 2) 7 7 [(.c 6 2,4),(.c 6 3,5)] (λx:SL=>[(7,.i .i64 λ_=>(x.i:Int))]) (λx=>[(6,.fix 282 [.i .i64 (λ_=>(ins.length:Int)),.sl 5 dD (λ_=>x.gs),.own 4,.own 5]),(4,.dyn 133 3 dm λ_=>x.out),(5,.dyn 3 1 bM λ_=>x.dr)])
  (λx=>H5 L xa.length 1100 4 R.length (λi=>2000+32*(i:Int)) p.dZ.length 30 R ⟨x.i,x.gs,x.out,x.dr⟩) (λx=>p.dZ.length - x.i) ⟨0,xa,ah0,dr1⟩ (by exact ao) (by exact ao) ⟨cN _,auE,cR _,cR _,auF⟩ ?_
 rintro ⟨i,gs,out,dr⟩ ⟨F3,cg,fe,gH,nL⟩
 simp only at F3 cg fe gH nL
 have h0:=n0 i
 have h1:=cq (i:=i) (by omega)
 cbv
 refine ⟨λh=>?_,λh=>?_⟩
 ·have bt:i < p.dZ.length:=bI
  have bh:p.dZ.length - (i+1) < p.dZ.length - i:=by omega
  refine (bD bt).elim λr hr=>?_
  have hw:=IP i r hr
  refine (bD (l:=dZ) (i:=i) (by omega)).elim λdue H4=>?_
  have af7:cI L gs due:=(Mz due (cb H4)).mono (by omega)
  have nr:cI L gs jg:=Hp.mono (by omega)
  have ug:eD L gs:=⟨cg,by omega,by omega⟩
  obtain ⟨z,tE⟩:∃zz,zz=andM L gs jg due:=⟨_,rfl⟩
  have hz:dU L gs 1 z:=by rw [tE];exact Hf ug nr af7
  have iS:(andM L gs jg due).gs=z.gs:=by rw [tE]
  have iH:(andM L gs jg due).n=z.n:=by rw [tE]
  have Fm:=hz.lo
  have Xj:=hz.hi
  have QO:=hz.ok
  have RG:=hz.n
  have lz:2000+32*(i:Int)<=iu ⟨6,i,0⟩:=by simp [iu]
  have oS:iu ⟨6,i,0⟩ < 2000+32*(i:Int)+16+((0:Nat):Int):=by simp [iu];omega
  have A3:=nL.add (w:=⟨6,i,0⟩) (by simp) ⟨⟨by simp,by simp,by simp,by simp,by simp⟩,by simp⟩ lz oS Fm RG
  have hL:((ins.length:Nat):Int)=L:=hL
  cbv
  refine ⟨due,⟨h0,by rw [KK];exact H4⟩,?_⟩
  cbv
  refine ⟨⟨L,gs,jg,due⟩,⟨by exact bQ,⟨ug,nr,af7⟩,trivial⟩,?_⟩
  cbv
  have gv:out.length<=1000000:=by have:=nL.len;omega
  have fV:dr.length<=1000000:=by rw [nL.dl];exact gv
  have hL:((ins.length:Nat):Int)=L:=hL
  refine bV.io Es ⟨L,gs,out,dr,⟨6,i,0⟩,z.gs,z.n⟩ [4,5] rfl (by exact bQ) (by exact ao) ⟨⟨gv,fV⟩⟩ λ_ _=>?_
  cbv
  refine ⟨r,⟨h0,hr⟩,?_⟩
  cbv
  have hL:((ins.length:Nat):Int)=L:=hL
  refine bV.rel (Er 2 3) ⟨p,ins,data,z.gs,r.data,st,r.w⟩ (by have Bh:=hw.2.2;have dJ:=tY;have bg:=hL.symm;exact cP) ⟨oo,(by show Room ins.length z.gs (KB 3);rw [hL];exact ⟨QO,by omega,by show _+1040<=_;omega⟩),λd hd=>(by show fL ins.length z.gs d;rw [hL];exact (Fj d hd).mono (by omega)),hw.2.2⟩ λv hv=>?_
  have hv:lO L z.gs 1040 (r.w).toNat v:=hL ▸ hv.out
  have QP:=hv.lo
  have auG:=hv.hi
  have ase:=hv.len
  have Xk:=hv.ok
  have yo:=hv.n
  have tc:OB L (2000+32*(i:Int)+16+((0:Nat):Int)) R R.length 0 (30+4*i+1+1*0) v.gs (out++[⟨6,i,0⟩]) (dr++[z.n]):=A3.sig QP
  cbv
  have hL:((ins.length:Nat):Int)=L:=hL
  refine Sat.cf (HB 2 2) 11 10 [(.c 6 2,8),(.c 6 3,9)] (λx:SL=>[(10,.i .i64 λ_=>(x.i:Int))]) (λx=>[(6,.fix 282 [.i .i64 (λ_=>(ins.length:Int)),.sl 5 dD (λ_=>x.gs),.own 8,.own 9]),(8,.dyn 133 3 dm λ_=>x.out),(9,.dyn 3 1 bM λ_=>x.dr)])
   (λx=>H5 L v.gs.length 1 1 R.length (λk=>2000+32*(i:Int)+16+(k:Int)) v.l.length (30+4*i+1) R ⟨x.i,x.gs,x.out,x.dr⟩) (λx=>v.l.length - x.i) ⟨0,v.gs,out++[⟨6,i,0⟩],dr++[z.n]⟩ (by exact ao) (by exact ao) ⟨cN _,Xk,cR _,cR _,tc⟩ ?_
  rintro ⟨k,cD,dF,pG⟩ ⟨yu,x3,CU,Fk,LB⟩
  simp only at yu x3 CU Fk LB
  have gA:=n0 k
  have eT:=cq (i:=k) (by omega)
  have ka:v.l.length<=2:=by have:=hw.2.1;omega
  cbv
  refine ⟨λh=>?_,λh=>?_⟩
  ·have dq:k < v.l.length:=bI
   have ll:v.l.length - (k+1) < v.l.length - k:=by omega
   refine (bD dq).elim λx hx=>?_
   have w9:cI L cD x:=(yo x (cb hx)).mono CU
   have ah1:cI L cD z.n:=RG.mono (by omega)
   have af8:eD L cD:=⟨x3,by omega,by omega⟩
   obtain ⟨u,Mn⟩:∃zz,zz=andM L cD z.n x:=⟨_,rfl⟩
   have hu:dU L cD 1 u:=by rw [Mn];exact Hf af8 ah1 w9
   have hu1:(andM L cD z.n x).gs=u.gs:=by rw [Mn]
   have yr:(andM L cD z.n x).n=u.n:=by rw [Mn]
   have auH:=hu.lo
   have aBy:=hu.hi
   have auI:=hu.ok
   have nt:=hu.n
   have lz:2000+32*(i:Int)+16+(k:Int)<=iu ⟨7,i,k⟩:=by simp [iu]
   have oS:iu ⟨7,i,k⟩ < 2000+32*(i:Int)+16+((k+1:Nat):Int):=by simp [iu];omega
   have Fo:=LB.add (w:=⟨7,i,k⟩) (by simp) ⟨⟨by simp,by simp,by simp,by simp,by simp;omega⟩,by simp⟩ lz oS auH nt
   have bB:H5 L v.gs.length 1 1 R.length (λk=>2000+32*(i:Int)+16+(k:Int)) v.l.length (30+4*i+1) R ⟨k+1,u.gs,dF++[⟨7,i,k⟩],pG++[u.n]⟩:=⟨dq,auI,by show v.gs.length<=u.gs.length;omega,by show u.gs.length<=v.gs.length+1*(k+1);omega,Fo⟩
   cbv
   refine ⟨x,⟨gA,hx⟩,?_⟩
   cbv
   refine ⟨⟨L,cD,z.n,x⟩,⟨by exact bQ,⟨af8,ah1,w9⟩,trivial⟩,?_⟩
   cbv
   have gv:dF.length<=1000000:=by have:=LB.len;omega
   have fV:pG.length<=1000000:=by rw [LB.dl];exact gv
   have hL:((ins.length:Nat):Int)=L:=hL
   refine bV.io Es ⟨L,cD,dF,pG,⟨7,i,k⟩,u.gs,u.n⟩ [8,9] rfl (by exact bQ) (by exact ao) ⟨⟨gv,fV⟩⟩ λ_ _=>?_
   cbv
   exact ⟨⟨k+1,u.gs,dF++[⟨7,i,k⟩],pG++[u.n]⟩,by exact ao,by exact ao,⟨⟨bB,ll⟩⟩⟩
  ·have uh:k=v.l.length:=tR h.out yu
   have bB:H5 L xa.length 1100 4 R.length (λi=>2000+32*(i:Int)) p.dZ.length 30 R ⟨i+1,cD,dF,pG⟩:=⟨bt,x3,by show xa.length<=cD.length;omega,by show cD.length<=xa.length+1100*(i+1);omega,LB.up (by exact aT) (by show 30+4*i+1+1*k<=30+4*(i+1);omega) (cR _)⟩
   cbv
   exact ⟨⟨i+1,cD,dF,pG⟩,by exact ao,by exact ao,⟨⟨bB,bh⟩⟩⟩
 ·have b9:i=p.dZ.length:=tR h.out F3
  have A3:OB L (3000+64*((0:Nat):Int)) R R.length 0 (60+8*0) gs out dr:=nL.up (by rw [b9];exact aT) (by rw [b9];omega) (cR _)
  have Fk:gs.length<=xa.length+2200:=by rw [b9] at gH;omega
  obtain ⟨cD,ah2⟩:∃g,g=gs:=⟨_,rfl⟩
  have CU:xa.length<=cD.length:=by rw [ah2];exact fe
  have ahV:cD.length<=xa.length+2200:=by rw [ah2];exact Fk
  clear nL h0 h1
  cbv
  have hL:((ins.length:Nat):Int)=L:=hL
  refine Sat.cf (HB 2 2) 7 7 [(.c 6 2,4),(.c 6 3,5)] (λx:SL=>[(11,.i .i64 λ_=>(x.i:Int))]) (λx=>[(6,.fix 282 [.i .i64 (λ_=>(ins.length:Int)),.sl 5 dD (λ_=>x.gs),.own 4,.own 5]),(4,.dyn 133 3 dm λ_=>x.out),(5,.dyn 3 1 bM λ_=>x.dr)])
   (λx=>H5 L gs.length 4400 8 R.length (λi=>3000+64*(i:Int)) p.bf.length 60 R ⟨x.i,x.gs,x.out,x.dr⟩) (λx=>p.bf.length - x.i) ⟨0,gs,out,dr⟩ (by exact ao) (by exact ao) ⟨cN _,cg,cR _,cR _,A3⟩ ?_
  rintro ⟨i,vB,out,dr⟩ ⟨F3,Xl,auJ,auK,nL⟩
  simp only at F3 Xl auJ auK nL
  have h0:=n0 i
  have h1:=cq (i:=i) (by omega)
  cbv
  refine ⟨λh=>?_,λh=>?_⟩
  ·have bt:i < p.bf.length:=bI
   have bh:p.bf.length - (i+1) < p.bf.length - i:=by omega
   have iB:i=0:=by omega
   refine (bD bt).elim λr hr=>?_
   have hw:=hmw i r hr
   refine hw.2.2.2.1.elim λav Df=>?_
   have hgl:vB.length<=8200+4400:=by omega
   cbv
   refine ⟨r,⟨h0,hr⟩,?_⟩
   cbv
   have hL:((ins.length:Nat):Int)=L:=hL
   refine bV.rel (Er 2 3) ⟨p,ins,data,vB,r.en,st,(1:Int)⟩ (by have Bh:=hw.2.2.1;have dJ:=tY;have bg:=hL.symm;exact cP) ⟨oo,(by show Room ins.length vB (KB 3);rw [hL];exact ⟨Xl,by omega,by show _+1040<=_;omega⟩),λd hd=>(by show fL ins.length vB d;rw [hL];exact (Fj d hd).mono (by omega)),hw.2.2.1⟩ λe he=>?_
   have he:lO L vB 1040 ((1:Int)).toNat e:=hL ▸ he.out
   have auL:=he.lo
   have aBz:=he.hi
   have aA5:=he.len
   have auM:=he.ok
   have auN:=he.n
   refine (bD (l:=e.l) (i:=0) (by omega)).elim λen hen=>?_
   have ah3:cI L e.gs en:=auN en (cb hen)
   have nr:cI L e.gs jg:=Hp.mono (by omega)
   have ug:eD L e.gs:=⟨auM,by omega,by omega⟩
   obtain ⟨z,tE⟩:∃zz,zz=andM L e.gs jg en:=⟨_,rfl⟩
   have hz:dU L e.gs 1 z:=by rw [tE];exact Hf ug nr ah3
   have iS:(andM L e.gs jg en).gs=z.gs:=by rw [tE]
   have iH:(andM L e.gs jg en).n=z.n:=by rw [tE]
   have Fm:=hz.lo
   have Xj:=hz.hi
   have QO:=hz.ok
   have RG:=hz.n
   have lz:3000+64*(i:Int)<=iu ⟨8,i,0⟩:=by simp [iu]
   have oS:iu ⟨8,i,0⟩ < 3000+64*(i:Int)+16+((0:Nat):Int):=by simp [iu];omega
   have A3:=(nL.sig auL).add (w:=⟨8,i,0⟩) (by simp) ⟨⟨by simp,by simp,by simp,by simp,by simp⟩,by simp⟩ lz oS Fm RG
   have hL:((ins.length:Nat):Int)=L:=hL
   cbv
   refine ⟨en,⟨j5 _,hen⟩,?_⟩
   cbv
   refine ⟨⟨L,e.gs,jg,en⟩,⟨by exact bQ,⟨ug,nr,ah3⟩,trivial⟩,?_⟩
   cbv
   have gv:out.length<=1000000:=by have:=nL.len;omega
   have fV:dr.length<=1000000:=by rw [nL.dl];exact gv
   have hL:((ins.length:Nat):Int)=L:=hL
   refine bV.io Es ⟨L,vB,out,dr,⟨8,i,0⟩,z.gs,z.n⟩ [4,5] rfl (by exact bQ) (by exact ao) ⟨⟨gv,fV⟩⟩ λ_ _=>?_
   cbv
   refine ⟨r,⟨h0,hr⟩,?_⟩
   cbv
   have hL:((ins.length:Nat):Int)=L:=hL
   refine bV.rel (Er 2 3) ⟨p,ins,data,z.gs,r.ad,st,av⟩ (by have Bh:=Df.2;have dJ:=tY;have bg:=hL.symm;exact cP) ⟨oo,(by show Room ins.length z.gs (KB 3);rw [hL];exact ⟨QO,by omega,by show _+1040<=_;omega⟩),λd hd=>(by show fL ins.length z.gs d;rw [hL];exact (Fj d hd).mono (by omega)),Df.2⟩ λa ha=>?_
   have ha:lO L z.gs 1040 (av).toNat a:=hL ▸ ha.out
   have ah4:=ha.lo
   have aBA:=ha.hi
   have asf:=ha.len
   have auO:=ha.ok
   have han:=ha.n
   have aBB:av<=8:=Df.1.2
   cbv
   refine ⟨r,⟨h0,hr⟩,?_⟩
   cbv
   refine bV.rel adQ ⟨a.l,r.words⟩ (by exact bQ) ⟨by show a.l.length<=1000;rw [asf];omega⟩ λad Bs=>?_
   have Bs:Kc a.l ad:=Bs.out
   have Lw:∀v∈ad,cI L a.gs v:=λv hv=>by
    rcases Bs.mem v hv with rfl|h
    ·exact .zero Dh.1
    ·exact han v h
   have aui:=Bs.len
   have tc:OB L (3000+64*(i:Int)+16+((0:Nat):Int)) R R.length 0 (60+8*i+1+1*0) z.gs (out++[⟨8,i,0⟩]) (dr++[z.n]):=A3
   cbv
   have hL:((ins.length:Nat):Int)=L:=hL
   refine Sat.cf (HB 2 2) 11 15 [(.c 6 2,8),(.c 6 3,9)] (λx:SL=>[(15,.i .i64 λ_=>(x.i:Int))]) (λx=>[(6,.fix 282 [.i .i64 (λ_=>(ins.length:Int)),.sl 5 dD (λ_=>x.gs),.own 8,.own 9]),(8,.dyn 133 3 dm λ_=>x.out),(9,.dyn 3 1 bM λ_=>x.dr)])
    (λx=>QN 3 L z.gs.length a.gs.length R.length (3000+64*(i:Int)+16) (60+8*i+1) R ⟨x.i,x.gs,x.out,x.dr⟩) (λx=>3 - x.i) ⟨0,z.gs,out++[⟨8,i,0⟩],dr++[z.n]⟩ (by exact ao) (by exact ao) ⟨cN _,QO,cR _,ah4,tc⟩ ?_
   rintro ⟨k,Bu,H6,IQ⟩ ⟨mQ,Xm,auP,Xn,Fo⟩
   simp only at mQ Xm auP Xn Fo
   have gA:=n0 k
   have eT:=cq (i:=k) (by omega)
   cbv
   refine ⟨λh=>?_,λh=>?_⟩
   ·have dq:k < 3:=by have h':aU (k:Int) 3=true:=h.out;simp only [aU,decide_eq_true_eq] at h';exact aT
    have ll:3 - (k+1) < 3 - k:=by omega
    refine (bD (l:=ad) (i:=k) (by omega)).elim λx hx=>?_
    have w9:cI L a.gs x:=Lw x (cb hx)
    have lz:3000+64*(i:Int)+16+(k:Int)<=iu ⟨9,i,k⟩:=by simp [iu]
    have oS:iu ⟨9,i,k⟩ < 3000+64*(i:Int)+16+((k+1:Nat):Int):=by simp [iu];omega
    have Xo:=Fo.add (w:=⟨9,i,k⟩) (by simp) ⟨⟨by simp,by simp,by simp,by simp,by simp;omega⟩,by simp⟩ lz oS Xn w9
    have bB:QN 3 L z.gs.length a.gs.length R.length (3000+64*(i:Int)+16) (60+8*i+1) R ⟨k+1,a.gs,H6++[⟨9,i,k⟩],IQ++[x]⟩:=⟨dq,auO,ah4,cR _,Xo⟩
    cbv
    refine ⟨x,⟨gA,hx⟩,?_⟩
    cbv
    have gv:H6.length<=1000000:=by have:=Fo.len;omega
    have fV:IQ.length<=1000000:=by rw [Fo.dl];exact gv
    have hL:((ins.length:Nat):Int)=L:=hL
    refine bV.io Es ⟨L,Bu,H6,IQ,⟨9,i,k⟩,a.gs,x⟩ [8,9] rfl (by exact bQ) (by exact ao) ⟨⟨gv,fV⟩⟩ λ_ _=>?_
    cbv
    exact ⟨⟨k+1,a.gs,H6++[⟨9,i,k⟩],IQ++[x]⟩,by exact ao,by exact ao,⟨⟨bB,ll⟩⟩⟩
   ·have auQ:k=3:=by have h':aU (k:Int) 3=false:=h.out;simp only [aU,decide_eq_false_iff_not] at h';exact aT
    have Xo:OB L (3000+64*(i:Int)+32+((0:Nat):Int)) R R.length 0 (60+8*i+4+1*0) Bu H6 IQ:=Fo.up (by rw [auQ];exact aT) (by omega) (cR _)
    cbv
    refine ⟨r,⟨h0,hr⟩,?_⟩
    cbv
    have hL:((ins.length:Nat):Int)=L:=hL
    refine bV.rel (Er 2 3) ⟨p,ins,data,Bu,r.da,st,r.w⟩ (by have Bh:=hw.2.2.2.2;have dJ:=tY;have bg:=hL.symm;exact cP) ⟨oo,(by show Room ins.length Bu (KB 3);rw [hL];exact ⟨Xm,by omega,by show _+1040<=_;omega⟩),λd hd=>(by show fL ins.length Bu d;rw [hL];exact (Fj d hd).mono (by omega)),hw.2.2.2.2⟩ λv hv=>?_
    have hv:lO L Bu 1040 (r.w).toNat v:=hL ▸ hv.out
    have QP:=hv.lo
    have auG:=hv.hi
    have ase:=hv.len
    have Xk:=hv.ok
    have yo:=hv.n
    cbv
    have hL:((ins.length:Nat):Int)=L:=hL
    refine Sat.cf (HB 2 2) 12 17 [(.c 6 2,8),(.c 6 3,9)] (λx:SL=>[(17,.i .i64 λ_=>(x.i:Int))]) (λx=>[(6,.fix 282 [.i .i64 (λ_=>(ins.length:Int)),.sl 5 dD (λ_=>x.gs),.own 8,.own 9]),(8,.dyn 133 3 dm λ_=>x.out),(9,.dyn 3 1 bM λ_=>x.dr)])
     (λx=>QN v.l.length L Bu.length v.gs.length R.length (3000+64*(i:Int)+32) (60+8*i+4) R ⟨x.i,x.gs,x.out,x.dr⟩) (λx=>v.l.length - x.i) ⟨0,Bu,H6,IQ⟩ (by exact ao) (by exact ao) ⟨cN _,Xm,cR _,QP,Xo⟩ ?_
    rintro ⟨k,MA,H7,IS⟩ ⟨yu,ah5,auR,ah6,LD⟩
    simp only at yu ah5 auR ah6 LD
    have gA:=n0 k
    have eT:=cq (i:=k) (by omega)
    have ka:v.l.length<=2:=by have:=hw.2.1;omega
    cbv
    refine ⟨λh=>?_,λh=>?_⟩
    ·have dq:k < v.l.length:=bI
     have ll:v.l.length - (k+1) < v.l.length - k:=by omega
     refine (bD dq).elim λx hx=>?_
     have w9:cI L v.gs x:=yo x (cb hx)
     have lz:3000+64*(i:Int)+32+(k:Int)<=iu ⟨10,i,k⟩:=by simp [iu]
     have oS:iu ⟨10,i,k⟩ < 3000+64*(i:Int)+32+((k+1:Nat):Int):=by simp [iu];omega
     have auS:=LD.add (w:=⟨10,i,k⟩) (by simp) ⟨⟨by simp,by simp,by simp,by simp,by simp;omega⟩,by simp⟩ lz oS ah6 w9
     have bB:QN v.l.length L Bu.length v.gs.length R.length (3000+64*(i:Int)+32) (60+8*i+4) R ⟨k+1,v.gs,H7++[⟨10,i,k⟩],IS++[x]⟩:=⟨dq,Xk,QP,cR _,auS⟩
     cbv
     refine ⟨x,⟨gA,hx⟩,?_⟩
     cbv
     have gv:H7.length<=1000000:=by have:=LD.len;omega
     have fV:IS.length<=1000000:=by rw [LD.dl];exact gv
     have hL:((ins.length:Nat):Int)=L:=hL
     refine bV.io Es ⟨L,MA,H7,IS,⟨10,i,k⟩,v.gs,x⟩ [8,9] rfl (by exact bQ) (by exact ao) ⟨⟨gv,fV⟩⟩ λ_ _=>?_
     cbv
     exact ⟨⟨k+1,v.gs,H7++[⟨10,i,k⟩],IS++[x]⟩,by exact ao,by exact ao,⟨⟨bB,ll⟩⟩⟩
    ·have uh:k=v.l.length:=tR h.out yu
     have bB:H5 L gs.length 4400 8 R.length (λi=>3000+64*(i:Int)) p.bf.length 60 R ⟨i+1,MA,H7,IS⟩:=⟨bt,ah5,by show gs.length<=MA.length;omega,by show MA.length<=gs.length+4400*(i+1);omega,LD.up (by exact aT) (by show 60+8*i+4+1*k<=60+8*(i+1);omega) (cR _)⟩
     cbv
     exact ⟨⟨i+1,MA,H7,IS⟩,by exact ao,by exact ao,⟨⟨bB,bh⟩⟩⟩
  ·have Xn:vB.length<=20000:=by omega
   have aBC:ins.length<=100:=hi
   have bX:U3 R out:=nL.outs
   have fV:=nL.dl
   have gI:=nL.nd
   have auT:dr.length<=1000:=by have:=nL.len;rw [fV];omega
   cbv
   refine ⟨⟨ins,vB,out,dr⟩,⟨.inl ⟨by exact aK,rfl⟩,by show 2+ins.length+vB.length<=1000000;omega⟩,?_⟩
   cbv
   refine ⟨λh=>?_,λh=>?_⟩
   ·cbv
    exact .mk' ⟨⟨[],[],[],[]⟩,2⟩ ⟨by exact aK⟩ ⟨apt,by decide⟩
   ·have hN:2+ins.length+vB.length<=600:=by
     have h':aU 600 (fR ⟨ins,vB,out,dr⟩)=false:=h.out
     unfold fR at h'
     simp only [aU,decide_eq_false_iff_not] at h'
     exact aT
    have hL:((ins.length:Nat):Int)=L:=hL
    have j6:eX ⟨ins,vB,out,dr⟩:=an7 Lz.ok bX (by rw [hL];exact Xl) fV (λd hd=>by rw [hL];exact gI d hd) hN
    cbv
    exact .mk' ⟨⟨ins,vB,out,dr⟩,0⟩ ⟨by exact aK⟩ ⟨j6,auT⟩
end Go.Proofs.Pk
