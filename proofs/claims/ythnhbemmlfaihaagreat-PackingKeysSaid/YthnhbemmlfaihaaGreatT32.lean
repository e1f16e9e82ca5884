import Derived.Test.YthnhbemmlfaihaaGreatT12
import Derived.Test.YthnhbemmlfaihaaGreatT21
import Derived.Test.YthnhbemmlfaihaaGreatT31
set_option linter.unusedVariables false
set_option linter.unusedSimpArgs false
set_option maxRecDepth 10000
set_option maxHeartbeats 64000000
namespace Go.Proofs.Pk
open Go Go.Vc
structure NE where
 n:Net
 e:Int
@[reducible] noncomputable def aq3:fO where
 α:=rT
 args x:=[.agg (zp 2 x)]
 pre x:=rH x
 β:=NE
 post x y:=eU y.n/\y.n.ay.length<=1000
 res x y:=.agg [.sl 3 dk (λ_=>y.n.ins),.sl 5 dE (λ_=>y.n.gP),.sl 3 dk (λ_=>y.n.outs),.sl 1 bK (λ_=>y.n.ay),.i .i64 (λ_=>y.e)]
structure Ir (L:Int) (g0 c k m:Nat) (f:Nat->Int) (n l:Nat) (rw:List Int) (x:SL):Prop where
 i:x.i<=n
 ok:k6 L x.gs
 lo:g0<=x.gs.length
 hi:x.gs.length<=g0+c*x.i
 out:OB L (f x.i) rw m 0 (l+k*x.i) x.gs x.out x.dr
theorem OB.sig {L c:Int} {rw:List Int} {i k:Int} {n:Nat} {gs:List Gate} {l:List bU} {dr:List Int} (h:OB L c rw i k n gs l dr) {cw:List Gate} (hg:gs.length<=cw.length):OB L c rw i k n cw l dr:=h.up (jR _) (cR _) hg
theorem OB.outs {L c:Int} {rw:List Int} {n:Nat} {gs:List Gate} {l:List bU} {dr:List Int} (h:OB L c rw rw.length 0 n gs l dr):Vf rw l:=⟨⟨_,h.tH⟩,h.wr,h.aN⟩
structure QM (n:Nat) (L:Int) (g0 g1 m:Nat) (c:Int) (l:Nat) (rw:List Int) (x:SL):Prop where
 le:x.i<=n
 ok:k6 L x.gs
 lo:g0<=x.gs.length
 hi:x.gs.length<=g1
 out:OB L (c+(x.i:Int)) rw m 0 (l+1*x.i) x.gs x.out x.dr
theorem apN:eU ⟨[],[],[],[]⟩:=⟨by decide,by simp,λi g h=>by simp at h,by simp,Ep,Ep,λw _=>xC,rfl,by simp⟩
noncomputable def cBd (n m:Nat):Ctx:=fy n m [(157,Tryz.f157),(158,Tryz.f158),(159,Tryz.f159),(162,Tryz.f162),(161,Tryz.f161),(163,Tryz.f163)] [(160,K7),(51,AU)] [157,158,159,162,161,163]
theorem HS (n m:Nat):CB PP (cBd n m):=fF n m ⟨fo Tryz.func157,fo Tryz.func158,fo Tryz.func159,fo Tryz.func162,fo Tryz.func161,fo Tryz.func163,trivial⟩ ⟨UN,Cp,trivial⟩
theorem aoA:eM PP 73 aq3:=by
 refine iQ (HS 2 2) (fo Tryz.func73) (λa=>⟨Hj 2 a,trivial⟩) (λa y=>⟨(λx=>(gU x).1),(λx=>(eO x).1),(λx=>(gU x).1),(λx=>(cP x).1),trivial,trivial⟩) ?_
 rintro p hp
 have hp:rH p:=hp
 obtain ⟨R,hR⟩:∃R,R=p.aN.map (·.w):=⟨_,rfl⟩
 have BD:R.length=p.aN.length:=by rw [hR,ph]
 have r6:p.aN.length<=3:=hp.aN.1
 have km:p.bf.length<=1:=hp.bf.1
 have tA:p.ec.length<=2:=hp.ec.1
 have I8:∀(i:Nat) (r:rX),p.ec[i]?=some r->1<=r.w/\r.w<=2/\WT (oh p true) 3 r.w r.data:=λi r h=>by have:=hp.ec.2 r (cb h);exact ⟨this.1,this.2.1,this.2.2.2⟩
 have hmw:∀(i:Nat) (r:Mem),p.bf[i]?=some r->1<=r.w/\r.w<=2/\WT (oh p true) 3 1 r.en/\(∃v,okW v/\WT (oh p true) 3 v r.ad)/\WT (oh p true) 3 r.w r.da:=λi r h=>by
  obtain ⟨a,b,_,_,c,⟨v,d⟩,e⟩:=hp.bf.2 r (cb h)
  exact ⟨a,b,c,⟨v,d.wide (ad5 hp true),d⟩,e⟩
 refine ⟨?_⟩
 cbv
 refine bV.rel aqS p (by exact bQ) ⟨hp⟩ λins LU=>?_
 have LU:Vo (p.aN.map (·.w)) ins:=LU.out
 rw [<-hR] at LU
 have hi:=LU.len
 cbv
 refine bV.rel apJ ⟨p,ins⟩ (by exact bQ) ⟨hp,hi⟩ λd hd=>?_
 have hd:EY ins.length p d:=hd.out
 cbv
 refine bV.io aoz ⟨p,ins,d⟩ [9,9] rfl (by exact bQ) (by exact ao) ⟨⟨hp,hi,hd⟩⟩ λy hy=>?_
 have hy:UO ins.length p d y:=hy.out
 obtain ⟨L,hL⟩:∃L:Int,(ins.length:Int)=L:=⟨_,rfl⟩
 have hd:EY ((ins.length:Nat):Int) p d:=hd
 rw [hL] at hd hy
 have zX:0<=L/\L<=100:=by omega
 have ow:=PZ hp hi (b:=true) (I:=L) (gs:=d.gs) (data:=d.data) (λ_=>hd.data)
 obtain ⟨st,cI⟩:∃st,st=oh p true:=⟨_,rfl⟩
 rw [<-cI] at I8 hmw ow
 obtain ⟨data,ug⟩:∃data,d.data=data:=⟨_,rfl⟩
 obtain ⟨jg,Fh⟩:∃v,d.jg=v:=⟨_,rfl⟩
 obtain ⟨ec,K0⟩:∃v,d.ec=v:=⟨_,rfl⟩
 have hdf:d.gs.length<=6000:=hd.dK
 have HH:cJ L d.gs jg:=by rw [<-Fh];exact hd.jg
 have MK:fK L d.gs ec:=by rw [<-K0];exact hd.pn
 have Dj:ec.length=p.ec.length:=by rw [<-K0];exact hd.pl
 have FH:∀d'∈data,fK L d.gs d':=by rw [<-ug];exact hd.data.ok
 rw [ug] at ow
 obtain ⟨G,hG⟩:∃G,d.gs=G:=⟨_,rfl⟩
 rw [hG] at HH MK FH hdf
 obtain ⟨xe,aia,dr1⟩:=y
 have auX:k6 L xe:=hy.ok
 have aBg:G.length<=xe.length:=by rw [<-hG];exact hy.lo
 have aBh:xe.length<=G.length+3400:=by rw [<-hG];exact hy.hi
 have auY:OB L (2000+32*((0:Nat):Int)) R R.length 0 (30+4*0) xe aia dr1:=by
  have h:=hy.out
  rw [<-hR,<-BD] at h
  exact h
 clear hd hy hp
 cbv
 have hL:((ins.length:Nat):Int)=L:=hL
 refine Sat.cd (HS 2 2) 7 7 [(.c 6 2,4),(.c 6 3,5)] (λx:SL=>[(7,.i .i64 λ_=>(x.i:Int))]) (λx=>[(6,.fix 282 [.i .i64 (λ_=>(ins.length:Int)),.sl 5 dE (λ_=>x.gs),.own 4,.own 5]),(4,.dyn 133 3 dk λ_=>x.out),(5,.dyn 3 1 bK λ_=>x.dr)])
  (λx=>Ir L xe.length 1100 4 R.length (λi=>2000+32*(i:Int)) p.ec.length 30 R ⟨x.i,x.gs,x.out,x.dr⟩) (λx=>p.ec.length - x.i) ⟨0,xe,aia,dr1⟩ (by exact ao) (by exact ao) ⟨cL _,auX,cR _,cR _,auY⟩ ?_
 rintro ⟨i,gs,out,dr⟩ ⟨Gk,cv,fa,gF,nN⟩
 simp only at Gk cv fa gF nN
 have h0:=n0 i
 have h1:=cj (i:=i) (by omega)
 cbv
 refine ⟨λh=>?_,λh=>?_⟩
 ·have bq:i < p.ec.length:=bG
  have a7:p.ec.length - (i+1) < p.ec.length - i:=by omega
  refine (bB bq).elim λr hr=>?_
  have hw:=I8 i r hr
  refine (bB (l:=ec) (i:=i) (by omega)).elim λdue Iq=>?_
  have agh:cJ L gs due:=(MK due (cb Iq)).mono (by omega)
  have ou:cJ L gs jg:=HH.mono (by omega)
  have uu:eC L gs:=⟨cv,by omega,by omega⟩
  obtain ⟨z,tM⟩:∃zz,zz=andM L gs jg due:=⟨_,rfl⟩
  have hz:dV L gs 1 z:=by rw [tM];exact Hx uu ou agh
  have iT:(andM L gs jg due).gs=z.gs:=by rw [tM]
  have iJ:(andM L gs jg due).n=z.n:=by rw [tM]
  have FJ:=hz.lo
  have Xm:=hz.hi
  have QN:=hz.ok
  have RC:=hz.n
  have lC:2000+32*(i:Int)<=iy ⟨6,i,0⟩:=by simp [iy]
  have oS:iy ⟨6,i,0⟩ < 2000+32*(i:Int)+16+((0:Nat):Int):=by simp [iy];omega
  have Bj:=nN.add (w:=⟨6,i,0⟩) (by simp) ⟨⟨by simp,by simp,by simp,by simp,by simp⟩,by simp⟩ lC oS FJ RC
  have hL:((ins.length:Nat):Int)=L:=hL
  cbv
  refine ⟨due,⟨h0,by rw [K0];exact Iq⟩,?_⟩
  cbv
  refine ⟨⟨L,gs,jg,due⟩,⟨by exact bQ,⟨uu,ou,agh⟩,trivial⟩,?_⟩
  cbv
  have gu:out.length<=1000000:=by have:=nN.len;omega
  have fV:dr.length<=1000000:=by rw [nN.dl];exact gu
  have hL:((ins.length:Nat):Int)=L:=hL
  refine bV.io EN ⟨L,gs,out,dr,⟨6,i,0⟩,z.gs,z.n⟩ [4,5] rfl (by exact bQ) (by exact ao) ⟨⟨gu,fV⟩⟩ λ_ _=>?_
  cbv
  refine ⟨r,⟨h0,hr⟩,?_⟩
  cbv
  have hL:((ins.length:Nat):Int)=L:=hL
  refine bV.rel (EM 2 3) ⟨p,ins,data,z.gs,r.data,st,r.w⟩ (by have BB:=hw.2.2;have dJ:=ug;have bm:=hL.symm;exact cQ) ⟨ow,(by show Room ins.length z.gs (KB 3);rw [hL];exact ⟨QN,by omega,by show _+1040<=_;omega⟩),λd hd=>(by show fK ins.length z.gs d;rw [hL];exact (FH d hd).mono (by omega)),hw.2.2⟩ λv hv=>?_
  have hv:lP L z.gs 1040 (r.w).toNat v:=hL ▸ hv.out
  have QO:=hv.lo
  have auZ:=hv.hi
  have asw:=hv.len
  have Xn:=hv.ok
  have yA:=hv.n
  have tq:OB L (2000+32*(i:Int)+16+((0:Nat):Int)) R R.length 0 (30+4*i+1+1*0) v.gs (out++[⟨6,i,0⟩]) (dr++[z.n]):=Bj.sig QO
  cbv
  have hL:((ins.length:Nat):Int)=L:=hL
  refine Sat.cd (HS 2 2) 11 10 [(.c 6 2,8),(.c 6 3,9)] (λx:SL=>[(10,.i .i64 λ_=>(x.i:Int))]) (λx=>[(6,.fix 282 [.i .i64 (λ_=>(ins.length:Int)),.sl 5 dE (λ_=>x.gs),.own 8,.own 9]),(8,.dyn 133 3 dk λ_=>x.out),(9,.dyn 3 1 bK λ_=>x.dr)])
   (λx=>Ir L v.gs.length 1 1 R.length (λk=>2000+32*(i:Int)+16+(k:Int)) v.l.length (30+4*i+1) R ⟨x.i,x.gs,x.out,x.dr⟩) (λx=>v.l.length - x.i) ⟨0,v.gs,out++[⟨6,i,0⟩],dr++[z.n]⟩ (by exact ao) (by exact ao) ⟨cL _,Xn,cR _,cR _,tq⟩ ?_
  rintro ⟨k,cF,dG,pJ⟩ ⟨yF,yc,C8,FI,LV⟩
  simp only at yF yc C8 FI LV
  have gS:=n0 k
  have eX:=cj (i:=k) (by omega)
  have jV:v.l.length<=2:=by have:=hw.2.1;omega
  cbv
  refine ⟨λh=>?_,λh=>?_⟩
  ·have db:k < v.l.length:=bG
   have lz:v.l.length - (k+1) < v.l.length - k:=by omega
   refine (bB db).elim λx hx=>?_
   have xd:cJ L cF x:=(yA x (cb hx)).mono C8
   have aib:cJ L cF z.n:=RC.mono (by omega)
   have agi:eC L cF:=⟨yc,by omega,by omega⟩
   obtain ⟨u,Mx⟩:∃zz,zz=andM L cF z.n x:=⟨_,rfl⟩
   have hu:dV L cF 1 u:=by rw [Mx];exact Hx agi aib xd
   have hu1:(andM L cF z.n x).gs=u.gs:=by rw [Mx]
   have uK:(andM L cF z.n x).n=u.n:=by rw [Mx]
   have au0:=hu.lo
   have aBi:=hu.hi
   have au1:=hu.ok
   have nt:=hu.n
   have lC:2000+32*(i:Int)+16+(k:Int)<=iy ⟨7,i,k⟩:=by simp [iy]
   have oS:iy ⟨7,i,k⟩ < 2000+32*(i:Int)+16+((k+1:Nat):Int):=by simp [iy];omega
   have FK:=LV.add (w:=⟨7,i,k⟩) (by simp) ⟨⟨by simp,by simp,by simp,by simp,by simp;omega⟩,by simp⟩ lC oS au0 nt
   have bA:Ir L v.gs.length 1 1 R.length (λk=>2000+32*(i:Int)+16+(k:Int)) v.l.length (30+4*i+1) R ⟨k+1,u.gs,dG++[⟨7,i,k⟩],pJ++[u.n]⟩:=⟨db,au1,by show v.gs.length<=u.gs.length;omega,by show u.gs.length<=v.gs.length+1*(k+1);omega,FK⟩
   cbv
   refine ⟨x,⟨gS,hx⟩,?_⟩
   cbv
   refine ⟨⟨L,cF,z.n,x⟩,⟨by exact bQ,⟨agi,aib,xd⟩,trivial⟩,?_⟩
   cbv
   have gu:dG.length<=1000000:=by have:=LV.len;omega
   have fV:pJ.length<=1000000:=by rw [LV.dl];exact gu
   have hL:((ins.length:Nat):Int)=L:=hL
   refine bV.io EN ⟨L,cF,dG,pJ,⟨7,i,k⟩,u.gs,u.n⟩ [8,9] rfl (by exact bQ) (by exact ao) ⟨⟨gu,fV⟩⟩ λ_ _=>?_
   cbv
   exact ⟨⟨k+1,u.gs,dG++[⟨7,i,k⟩],pJ++[u.n]⟩,by exact ao,by exact ao,⟨⟨bA,lz⟩⟩⟩
  ·have uv:k=v.l.length:=ua h.out yF
   have bA:Ir L xe.length 1100 4 R.length (λi=>2000+32*(i:Int)) p.ec.length 30 R ⟨i+1,cF,dG,pJ⟩:=⟨bq,yc,by show xe.length<=cF.length;omega,by show cF.length<=xe.length+1100*(i+1);omega,LV.up (by exact aU) (by show 30+4*i+1+1*k<=30+4*(i+1);omega) (cR _)⟩
   cbv
   exact ⟨⟨i+1,cF,dG,pJ⟩,by exact ao,by exact ao,⟨⟨bA,a7⟩⟩⟩
 ·have bS:i=p.ec.length:=ua h.out Gk
  have Bj:OB L (3000+64*((0:Nat):Int)) R R.length 0 (60+8*0) gs out dr:=nN.up (by rw [bS];exact aU) (by rw [bS];omega) (cR _)
  have FI:gs.length<=xe.length+2200:=by rw [bS] at gF;omega
  obtain ⟨cF,aic⟩:∃g,g=gs:=⟨_,rfl⟩
  have C8:xe.length<=cF.length:=by rw [aic];exact fa
  have ah5:cF.length<=xe.length+2200:=by rw [aic];exact FI
  clear nN h0 h1
  cbv
  have hL:((ins.length:Nat):Int)=L:=hL
  refine Sat.cd (HS 2 2) 7 7 [(.c 6 2,4),(.c 6 3,5)] (λx:SL=>[(11,.i .i64 λ_=>(x.i:Int))]) (λx=>[(6,.fix 282 [.i .i64 (λ_=>(ins.length:Int)),.sl 5 dE (λ_=>x.gs),.own 4,.own 5]),(4,.dyn 133 3 dk λ_=>x.out),(5,.dyn 3 1 bK λ_=>x.dr)])
   (λx=>Ir L gs.length 4400 8 R.length (λi=>3000+64*(i:Int)) p.bf.length 60 R ⟨x.i,x.gs,x.out,x.dr⟩) (λx=>p.bf.length - x.i) ⟨0,gs,out,dr⟩ (by exact ao) (by exact ao) ⟨cL _,cv,cR _,cR _,Bj⟩ ?_
  rintro ⟨i,vI,out,dr⟩ ⟨Gk,Xo,au2,au3,nN⟩
  simp only at Gk Xo au2 au3 nN
  have h0:=n0 i
  have h1:=cj (i:=i) (by omega)
  cbv
  refine ⟨λh=>?_,λh=>?_⟩
  ·have bq:i < p.bf.length:=bG
   have a7:p.bf.length - (i+1) < p.bf.length - i:=by omega
   have iD:i=0:=by omega
   refine (bB bq).elim λr hr=>?_
   have hw:=hmw i r hr
   refine hw.2.2.2.1.elim λav Dv=>?_
   have hgl:vI.length<=8200+4400:=by omega
   cbv
   refine ⟨r,⟨h0,hr⟩,?_⟩
   cbv
   have hL:((ins.length:Nat):Int)=L:=hL
   refine bV.rel (EM 2 3) ⟨p,ins,data,vI,r.en,st,(1:Int)⟩ (by have BB:=hw.2.2.1;have dJ:=ug;have bm:=hL.symm;exact cQ) ⟨ow,(by show Room ins.length vI (KB 3);rw [hL];exact ⟨Xo,by omega,by show _+1040<=_;omega⟩),λd hd=>(by show fK ins.length vI d;rw [hL];exact (FH d hd).mono (by omega)),hw.2.2.1⟩ λe he=>?_
   have he:lP L vI 1040 ((1:Int)).toNat e:=hL ▸ he.out
   have au4:=he.lo
   have aBj:=he.hi
   have aAQ:=he.len
   have au5:=he.ok
   have au6:=he.n
   refine (bB (l:=e.l) (i:=0) (by omega)).elim λen hen=>?_
   have aid:cJ L e.gs en:=au6 en (cb hen)
   have ou:cJ L e.gs jg:=HH.mono (by omega)
   have uu:eC L e.gs:=⟨au5,by omega,by omega⟩
   obtain ⟨z,tM⟩:∃zz,zz=andM L e.gs jg en:=⟨_,rfl⟩
   have hz:dV L e.gs 1 z:=by rw [tM];exact Hx uu ou aid
   have iT:(andM L e.gs jg en).gs=z.gs:=by rw [tM]
   have iJ:(andM L e.gs jg en).n=z.n:=by rw [tM]
   have FJ:=hz.lo
   have Xm:=hz.hi
   have QN:=hz.ok
   have RC:=hz.n
   have lC:3000+64*(i:Int)<=iy ⟨8,i,0⟩:=by simp [iy]
   have oS:iy ⟨8,i,0⟩ < 3000+64*(i:Int)+16+((0:Nat):Int):=by simp [iy];omega
   have Bj:=(nN.sig au4).add (w:=⟨8,i,0⟩) (by simp) ⟨⟨by simp,by simp,by simp,by simp,by simp⟩,by simp⟩ lC oS FJ RC
   have hL:((ins.length:Nat):Int)=L:=hL
   cbv
   refine ⟨en,⟨jR _,hen⟩,?_⟩
   cbv
   refine ⟨⟨L,e.gs,jg,en⟩,⟨by exact bQ,⟨uu,ou,aid⟩,trivial⟩,?_⟩
   cbv
   have gu:out.length<=1000000:=by have:=nN.len;omega
   have fV:dr.length<=1000000:=by rw [nN.dl];exact gu
   have hL:((ins.length:Nat):Int)=L:=hL
   refine bV.io EN ⟨L,vI,out,dr,⟨8,i,0⟩,z.gs,z.n⟩ [4,5] rfl (by exact bQ) (by exact ao) ⟨⟨gu,fV⟩⟩ λ_ _=>?_
   cbv
   refine ⟨r,⟨h0,hr⟩,?_⟩
   cbv
   have hL:((ins.length:Nat):Int)=L:=hL
   refine bV.rel (EM 2 3) ⟨p,ins,data,z.gs,r.ad,st,av⟩ (by have BB:=Dv.2;have dJ:=ug;have bm:=hL.symm;exact cQ) ⟨ow,(by show Room ins.length z.gs (KB 3);rw [hL];exact ⟨QN,by omega,by show _+1040<=_;omega⟩),λd hd=>(by show fK ins.length z.gs d;rw [hL];exact (FH d hd).mono (by omega)),Dv.2⟩ λa ha=>?_
   have ha:lP L z.gs 1040 (av).toNat a:=hL ▸ ha.out
   have aie:=ha.lo
   have aBk:=ha.hi
   have asx:=ha.len
   have au7:=ha.ok
   have han:=ha.n
   have aBl:av<=8:=Dv.1.2
   cbv
   refine ⟨r,⟨h0,hr⟩,?_⟩
   cbv
   refine bV.rel ad4 ⟨a.l,r.words⟩ (by exact bQ) ⟨by show a.l.length<=1000;rw [asx];omega⟩ λad BK=>?_
   have BK:Kr a.l ad:=BK.out
   have LQ:∀v∈ad,cJ L a.gs v:=λv hv=>by
    rcases BK.mem v hv with rfl|h
    ·exact .zero zX.1
    ·exact han v h
   have auC:=BK.len
   have tq:OB L (3000+64*(i:Int)+16+((0:Nat):Int)) R R.length 0 (60+8*i+1+1*0) z.gs (out++[⟨8,i,0⟩]) (dr++[z.n]):=Bj
   cbv
   have hL:((ins.length:Nat):Int)=L:=hL
   refine Sat.cd (HS 2 2) 11 15 [(.c 6 2,8),(.c 6 3,9)] (λx:SL=>[(15,.i .i64 λ_=>(x.i:Int))]) (λx=>[(6,.fix 282 [.i .i64 (λ_=>(ins.length:Int)),.sl 5 dE (λ_=>x.gs),.own 8,.own 9]),(8,.dyn 133 3 dk λ_=>x.out),(9,.dyn 3 1 bK λ_=>x.dr)])
    (λx=>QM 3 L z.gs.length a.gs.length R.length (3000+64*(i:Int)+16) (60+8*i+1) R ⟨x.i,x.gs,x.out,x.dr⟩) (λx=>3 - x.i) ⟨0,z.gs,out++[⟨8,i,0⟩],dr++[z.n]⟩ (by exact ao) (by exact ao) ⟨cL _,QN,cR _,aie,tq⟩ ?_
   rintro ⟨k,BL,Is,I9⟩ ⟨nU,Xp,au8,Xq,FK⟩
   simp only at nU Xp au8 Xq FK
   have gS:=n0 k
   have eX:=cj (i:=k) (by omega)
   cbv
   refine ⟨λh=>?_,λh=>?_⟩
   ·have db:k < 3:=by have h':aS (k:Int) 3=true:=h.out;simp only [aS,decide_eq_true_eq] at h';exact aU
    have lz:3 - (k+1) < 3 - k:=by omega
    refine (bB (l:=ad) (i:=k) (by omega)).elim λx hx=>?_
    have xd:cJ L a.gs x:=LQ x (cb hx)
    have lC:3000+64*(i:Int)+16+(k:Int)<=iy ⟨9,i,k⟩:=by simp [iy]
    have oS:iy ⟨9,i,k⟩ < 3000+64*(i:Int)+16+((k+1:Nat):Int):=by simp [iy];omega
    have Xr:=FK.add (w:=⟨9,i,k⟩) (by simp) ⟨⟨by simp,by simp,by simp,by simp,by simp;omega⟩,by simp⟩ lC oS Xq xd
    have bA:QM 3 L z.gs.length a.gs.length R.length (3000+64*(i:Int)+16) (60+8*i+1) R ⟨k+1,a.gs,Is++[⟨9,i,k⟩],I9++[x]⟩:=⟨db,au7,aie,cR _,Xr⟩
    cbv
    refine ⟨x,⟨gS,hx⟩,?_⟩
    cbv
    have gu:Is.length<=1000000:=by have:=FK.len;omega
    have fV:I9.length<=1000000:=by rw [FK.dl];exact gu
    have hL:((ins.length:Nat):Int)=L:=hL
    refine bV.io EN ⟨L,BL,Is,I9,⟨9,i,k⟩,a.gs,x⟩ [8,9] rfl (by exact bQ) (by exact ao) ⟨⟨gu,fV⟩⟩ λ_ _=>?_
    cbv
    exact ⟨⟨k+1,a.gs,Is++[⟨9,i,k⟩],I9++[x]⟩,by exact ao,by exact ao,⟨⟨bA,lz⟩⟩⟩
   ·have au9:k=3:=by have h':aS (k:Int) 3=false:=h.out;simp only [aS,decide_eq_false_iff_not] at h';exact aU
    have Xr:OB L (3000+64*(i:Int)+32+((0:Nat):Int)) R R.length 0 (60+8*i+4+1*0) BL Is I9:=FK.up (by rw [au9];exact aU) (by omega) (cR _)
    cbv
    refine ⟨r,⟨h0,hr⟩,?_⟩
    cbv
    have hL:((ins.length:Nat):Int)=L:=hL
    refine bV.rel (EM 2 3) ⟨p,ins,data,BL,r.da,st,r.w⟩ (by have BB:=hw.2.2.2.2;have dJ:=ug;have bm:=hL.symm;exact cQ) ⟨ow,(by show Room ins.length BL (KB 3);rw [hL];exact ⟨Xp,by omega,by show _+1040<=_;omega⟩),λd hd=>(by show fK ins.length BL d;rw [hL];exact (FH d hd).mono (by omega)),hw.2.2.2.2⟩ λv hv=>?_
    have hv:lP L BL 1040 (r.w).toNat v:=hL ▸ hv.out
    have QO:=hv.lo
    have auZ:=hv.hi
    have asw:=hv.len
    have Xn:=hv.ok
    have yA:=hv.n
    cbv
    have hL:((ins.length:Nat):Int)=L:=hL
    refine Sat.cd (HS 2 2) 12 17 [(.c 6 2,8),(.c 6 3,9)] (λx:SL=>[(17,.i .i64 λ_=>(x.i:Int))]) (λx=>[(6,.fix 282 [.i .i64 (λ_=>(ins.length:Int)),.sl 5 dE (λ_=>x.gs),.own 8,.own 9]),(8,.dyn 133 3 dk λ_=>x.out),(9,.dyn 3 1 bK λ_=>x.dr)])
     (λx=>QM v.l.length L BL.length v.gs.length R.length (3000+64*(i:Int)+32) (60+8*i+4) R ⟨x.i,x.gs,x.out,x.dr⟩) (λx=>v.l.length - x.i) ⟨0,BL,Is,I9⟩ (by exact ao) (by exact ao) ⟨cL _,Xp,cR _,QO,Xr⟩ ?_
    rintro ⟨k,MM,Iu,Ja⟩ ⟨yF,aif,ava,aih,LW⟩
    simp only at yF aif ava aih LW
    have gS:=n0 k
    have eX:=cj (i:=k) (by omega)
    have jV:v.l.length<=2:=by have:=hw.2.1;omega
    cbv
    refine ⟨λh=>?_,λh=>?_⟩
    ·have db:k < v.l.length:=bG
     have lz:v.l.length - (k+1) < v.l.length - k:=by omega
     refine (bB db).elim λx hx=>?_
     have xd:cJ L v.gs x:=yA x (cb hx)
     have lC:3000+64*(i:Int)+32+(k:Int)<=iy ⟨10,i,k⟩:=by simp [iy]
     have oS:iy ⟨10,i,k⟩ < 3000+64*(i:Int)+32+((k+1:Nat):Int):=by simp [iy];omega
     have avb:=LW.add (w:=⟨10,i,k⟩) (by simp) ⟨⟨by simp,by simp,by simp,by simp,by simp;omega⟩,by simp⟩ lC oS aih xd
     have bA:QM v.l.length L BL.length v.gs.length R.length (3000+64*(i:Int)+32) (60+8*i+4) R ⟨k+1,v.gs,Iu++[⟨10,i,k⟩],Ja++[x]⟩:=⟨db,Xn,QO,cR _,avb⟩
     cbv
     refine ⟨x,⟨gS,hx⟩,?_⟩
     cbv
     have gu:Iu.length<=1000000:=by have:=LW.len;omega
     have fV:Ja.length<=1000000:=by rw [LW.dl];exact gu
     have hL:((ins.length:Nat):Int)=L:=hL
     refine bV.io EN ⟨L,MM,Iu,Ja,⟨10,i,k⟩,v.gs,x⟩ [8,9] rfl (by exact bQ) (by exact ao) ⟨⟨gu,fV⟩⟩ λ_ _=>?_
     cbv
     exact ⟨⟨k+1,v.gs,Iu++[⟨10,i,k⟩],Ja++[x]⟩,by exact ao,by exact ao,⟨⟨bA,lz⟩⟩⟩
    ·have uv:k=v.l.length:=ua h.out yF
     have bA:Ir L gs.length 4400 8 R.length (λi=>3000+64*(i:Int)) p.bf.length 60 R ⟨i+1,MM,Iu,Ja⟩:=⟨bq,aif,by show gs.length<=MM.length;omega,by show MM.length<=gs.length+4400*(i+1);omega,LW.up (by exact aU) (by show 60+8*i+4+1*k<=60+8*(i+1);omega) (cR _)⟩
     cbv
     exact ⟨⟨i+1,MM,Iu,Ja⟩,by exact ao,by exact ao,⟨⟨bA,a7⟩⟩⟩
  ·have Xq:vI.length<=20000:=by omega
   have aBm:ins.length<=100:=hi
   have bW:Vf R out:=nN.outs
   have fV:=nN.dl
   have gG:=nN.nd
   have avc:dr.length<=1000:=by have:=nN.len;rw [fV];omega
   cbv
   refine ⟨⟨ins,vI,out,dr⟩,⟨.inl ⟨by exact aL,rfl⟩,by show 2+ins.length+vI.length<=1000000;omega⟩,?_⟩
   cbv
   refine ⟨λh=>?_,λh=>?_⟩
   ·cbv
    exact .mk' ⟨⟨[],[],[],[]⟩,2⟩ ⟨by exact aL⟩ ⟨apN,by decide⟩
   ·have hN:2+ins.length+vI.length<=600:=by
     have h':aS 600 (fT ⟨ins,vI,out,dr⟩)=false:=h.out
     unfold fT at h'
     simp only [aS,decide_eq_false_iff_not] at h'
     exact aU
    have hL:((ins.length:Nat):Int)=L:=hL
    have j2:eU ⟨ins,vI,out,dr⟩:=aoo LU.ok bW (by rw [hL];exact Xo) fV (λd hd=>by rw [hL];exact gG d hd) hN
    cbv
    exact .mk' ⟨⟨ins,vI,out,dr⟩,0⟩ ⟨by exact aL⟩ ⟨j2,avc⟩
end Go.Proofs.Pk
