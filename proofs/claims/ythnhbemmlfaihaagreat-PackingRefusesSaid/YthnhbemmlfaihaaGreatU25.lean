import Derived.Test.YthnhbemmlfaihaaGreatU7
import Derived.Test.YthnhbemmlfaihaaGreatU23
import Derived.Test.YthnhbemmlfaihaaGreatU24
set_option linter.unusedVariables false
set_option linter.unusedSimpArgs false
set_option maxRecDepth 10000
set_option maxHeartbeats 64000000
namespace Go.Proofs.Pk
open Go Go.Vc
structure OB (L c:Int) (rw:List Int) (i k:Int) (n:Nat) (gs:List Gate) (l:List bU) (dr:List Int):Prop where
 tz:sK c l
 wr:∀w∈l,mB w 1 10/\(w.kind=1\/5<=w.kind)
 aM:rH rw i k l
 len:l.length<=n
 dl:dr.length=l.length
 nd:fL L gs dr
theorem OB.nil (L:Int) (rw:List Int) (gs:List Gate):OB L 0 rw 0 0 0 gs [] []:=⟨sK.nil _,by simp,rH.nil rw,cR _,rfl,.nil _ _⟩
theorem OB.up {L c d:Int} {rw:List Int} {i k:Int} {n n':Nat} {gs cw:List Gate} {l:List bU} {dr:List Int} (h:OB L c rw i k n gs l dr) (hc:c<=d) (hn:n<=n') (hg:gs.length<=cw.length):OB L d rw i k n' cw l dr:=⟨h.tz.up hc,h.wr,h.aM,by have:=h.len;omega,h.dl,h.nd.mono hg⟩
theorem OB.aZ {L:Int} {rw:List Int} {i k n:Nat} {gs cw:List Gate} {l:List bU} {dr:List Int} (h:OB L (16*i+k) rw i k n gs l dr) (hi:i<=31) (hk:k<=7) (hg:gs.length<=cw.length) {v:Int} (hv:cI L cw v):OB L (16*i+(k+1:Nat)) rw i ((k+1:Nat):Int) (n+1) cw (l++[⟨1,i,k⟩]) (dr++[v]):=by
 refine ⟨h.tz.add (by simp [iu]) (by simp [iu];omega),OR h.wr ⟨⟨by simp,by simp,by simp,by simp,by simp;omega⟩,by simp⟩,?_,by have:=h.len;simp;omega,by simp [h.dl],(h.nd.mono hg).add hv⟩
 have:=h.aM.bit (by omega) (by omega)
 simpa using this
theorem OB.next {L:Int} {rw:List Int} {i k n n':Nat} {gs:List Gate} {l:List bU} {dr:List Int} (h:OB L (16*i+k) rw i k n gs l dr) (hw:rw[i]?=some (k:Int)) (hk:k<=8) (hn:n<=n'):OB L (16*(i+1:Nat)) rw ((i+1:Nat):Int) 0 n' gs l dr :=
 ⟨h.tz.up (by omega),h.wr,h.aM.next hw,by have:=h.len;omega,h.dl,h.nd⟩
theorem OB.add {L c d:Int} {rw:List Int} {i k:Int} {n:Nat} {gs cw:List Gate} {l:List bU} {dr:List Int} (h:OB L c rw i k n gs l dr) {w:bU} (hw:w.kind≠1) (hr:mB w 1 10/\(w.kind=1\/5<=w.kind)) (hc:c<=iu w) (hd:iu w < d) (hg:gs.length<=cw.length) {v:Int} (hv:cI L cw v):OB L d rw i k (n+1) cw (l++[w]) (dr++[v]) :=
 ⟨h.tz.add hc hd,OR h.wr hr,h.aM.other hw,by have:=h.len;simp;omega,by simp [h.dl],(h.nd.mono hg).add hv⟩
structure SI where
 p:rR
 ins:List bU
 d:DU
structure SO where
 gs:List Gate
 out:List bU
 ay:List Int
structure UD (L:Int) (p:rR) (d:DU) (y:SO):Prop where
 ok:kT L y.gs
 lo:d.gs.length<=y.gs.length
 hi:y.gs.length<=d.gs.length+3400
 out:OB L 2000 (p.aM.map (·.w)) p.aM.length 0 30 y.gs y.out y.ay
@[reducible] noncomputable def aqI:na where
 α:=SI
 args x:=[.agg (za 2 x.p++[.sl 3 dm (λ_=>x.ins),.sl 1 jc (λ_=>x.d.data)]),.agg [.i .i64 (λ_=>x.ins.length),.sl 5 dD (λ_=>x.d.gs),.sl 1 bM (λ_=>x.d.a8),.sl 1 bM (λ_=>x.d.dZ),.sl 1 jc (λ_=>x.d.data),.i .i64 (λ_=>x.d.jg)]]
 io x:=[.dead,.dead]
 pre x:=rG x.p/\x.ins.length<=100/\EB x.ins.length x.p x.d
 β:=SO
 post x y:=UD x.ins.length x.p x.d y
 mv:=[0,1]
 res x y:=.agg [.i .i64 (λ_=>x.ins.length),.sl 5 dD (λ_=>y.gs),.own 0,.own 1]
 kx x y:=[.dyn 133 3 dm (λ_=>y.out),.dyn 3 1 bM (λ_=>y.ay)]
structure SL where
 i:Nat
 gs:List Gate
 out:List bU
 dr:List Int
structure ahX (L:Int) (g0 n:Nat) (rw:List Int) (x:SL):Prop where
 i:x.i<=n
 ok:kT L x.gs
 lo:g0<=x.gs.length
 hi:x.gs.length<=g0+1050*x.i
 out:OB L (16*x.i) rw x.i 0 (3*x.i) x.gs x.out x.dr
structure ahY (L:Int) (g0 i n:Nat) (rw:List Int) (x:SL):Prop where
 le:x.i<=n
 ok:kT L x.gs
 lo:g0<=x.gs.length
 hi:x.gs.length<=g0+2*x.i
 out:OB L (16*i+x.i) rw i x.i (3*i+x.i) x.gs x.out x.dr
structure ahZ (L:Int) (g0 m n:Nat) (rw:List Int) (x:SL):Prop where
 le:x.i<=n
 ok:kT L x.gs
 lo:g0<=x.gs.length
 hi:x.gs.length<=g0+x.i
 out:OB L (1000+x.i) rw m 0 (9+x.i) x.gs x.out x.dr
noncomputable def cSt (n m:Nat):Ctx:=fB n m [(162,Tryz.f162),(161,Tryz.f161)] [(222,KL),(225,af6),(160,KP)] [162,161]
theorem P6 (n m:Nat):CB PP (cSt n m):=fG n m ⟨fo Tryz.func162,fo Tryz.func161,trivial⟩ ⟨OQ,aps,UC,trivial⟩
theorem aoi:iM PP 159 aqI:=by
 refine mM (P6 2 2) (fo Tryz.func159) (λa y=>rfl) (λa=>⟨rfl,rfl⟩) (by show ([0,1]:List Nat).Nodup;decide) ?_
 rintro ⟨p,ins,⟨sL,a8,dZ,data,jg⟩⟩ hx
 obtain ⟨hp,hi,hd⟩:rG p/\ins.length<=100/\EB ins.length p ⟨sL,a8,dZ,data,jg⟩:=hx
 obtain ⟨L,hL⟩:∃L:Int,(ins.length:Int)=L:=⟨_,rfl⟩
 rw [hL] at hd
 have Dh:0<=L/\L<=100:=by omega
 have rX:p.aM.length<=3:=hp.aM.1
 have w7:p.a8.length<=2:=hp.a8.1
 have w6:∀(i:Nat) (r:tv),p.aM[i]?=some r->1<=r.w/\r.w<=3/\WT (n8 p true) 3 r.w r.next:=λi r h=>hp.aM.2 r (cb h)
 have oo:=P5 hp hi (b:=true) (I:=L) (gs:=sL) (data:=data) (λ_=>hd.data)
 obtain ⟨st,cJ⟩:∃st,st=n8 p true:=⟨_,rfl⟩
 rw [<-cJ] at w6 oo
 have XY:sL.length<=6000:=hd.dK
 have auC:kT L sL:=hd.ok
 have Hp:cI L sL jg:=hd.jg
 have IN:a8.length=p.a8.length:=hd.tl
 have pB:fL L sL a8:=hd.tn
 have Fj:∀d∈data,fL L sL d:=hd.data.ok
 obtain ⟨R,hR⟩:∃R,R=p.aM.map (·.w):=⟨_,rfl⟩
 clear hd hp
 refine ⟨?_⟩
 cbv
 refine Sat.iK 5 2 133 3 Ha gS rfl rfl ?_
 refine Sat.iK 5 3 3 1 oC cQ rfl rfl ?_
 refine Sat.cf (P6 2 2) 8 6 [(.c 5 2,6),(.c 5 3,7)] (λx:SL=>[(6,.i .i64 λ_=>(x.i:Int))]) (λx=>[(5,.fix 282 [.i .i64 (λ_=>(ins.length:Int)),.sl 5 dD (λ_=>x.gs),.own 6,.own 7]),(6,.dyn 133 3 dm λ_=>x.out),(7,.dyn 3 1 bM λ_=>x.dr)])
  (λx=>ahX L sL.length p.aM.length R x) (λx=>p.aM.length - x.i) ⟨0,sL,[],[]⟩ (by exact ao) (by exact ao) ⟨cN _,auC,cR _,cR _,.nil _ _ _⟩ ?_
 rintro ⟨i,gs,out,dr⟩ ⟨F3,cg,fe,gH,nL⟩
 simp only at F3 cg fe gH nL
 have h0:=n0 i
 have h1:=cq (i:=i) (by omega)
 cbv
 refine ⟨λh=>?_,λh=>?_⟩
 ·have bt:i < p.aM.length:=bI
  have bh:p.aM.length - (i+1) < p.aM.length - i:=by omega
  refine (bD bt).elim λr hr=>?_
  have hw:=w6 i r hr
  have YQ:R[i]?=some r.w:=by rw [hR];exact ahR hr
  have fS:Room L gs (KB 3):=⟨cg,by omega,by show _+1040<=_;omega⟩
  cbv
  refine ⟨r,⟨h0,hr⟩,?_⟩
  cbv
  have hL:((ins.length:Nat):Int)=L:=hL
  refine bV.rel (Er 2 3) ⟨p,ins,data,gs,r.next,st,r.w⟩ (by have Bh:=hw.2.2;exact dx) ⟨oo,(by show Room ins.length gs (KB 3);rw [hL];exact fS),λd hd=>(by show fL ins.length gs d;rw [hL];exact (Fj d hd).mono fe),hw.2.2⟩ λy hy=>?_
  have hy:lO L gs 1040 r.w.toNat y:=hL ▸ hy.out
  have HX:=hy.lo
  have Xa:=hy.hi
  have VM:=hy.len
  have Xe:=hy.ok
  have hyn:=hy.n
  have A3:OB L (16*i+(0:Nat)) R i ((0:Nat):Int) (3*i+0) y.gs out dr:=by
   have:=nL.up (j5 _) (cR _) HX
   simpa using this
  clear nL
  cbv
  refine Sat.cf (P6 2 2) 9 8 [(.c 5 2,6),(.c 5 3,7)] (λx:SL=>[(8,.i .i64 λ_=>(x.i:Int))]) (λx=>[(5,.fix 282 [.i .i64 (λ_=>(ins.length:Int)),.sl 5 dD (λ_=>x.gs),.own 6,.own 7]),(6,.dyn 133 3 dm λ_=>x.out),(7,.dyn 3 1 bM λ_=>x.dr)])
   (λx=>ahY L y.gs.length i y.l.length R x) (λx=>y.l.length - x.i) ⟨0,y.gs,out,dr⟩ (by exact ao) (by exact ao) ⟨cN _,Xe,cR _,cR _,A3⟩ ?_
  rintro ⟨k,cD,dF,pG⟩ ⟨yu,x3,CU,Fk,tc⟩
  simp only at yu x3 CU Fk tc
  have gA:=n0 k
  have eT:=cq (i:=k) (by omega)
  have yl:y.l.length<=3:=by have:=hw.2.1;omega
  cbv
  refine ⟨λh=>?_,λh=>?_⟩
  ·have dq:k < y.l.length:=bI
   have ll:y.l.length - (k+1) < y.l.length - k:=by omega
   have hk7:k<=7:=by have:=hw.2.1;omega
   have auD:i<=31:=by omega
   have ug:eD L cD:=⟨x3,by omega,by omega⟩
   have AG:cD.length+10<=1000000000:=by omega
   have ES:cI L cD jg:=Hp.mono (by omega)
   refine (bD dq).elim λx hx=>?_
   have w9:cI L cD x:=(hyn x (cb hx)).mono CU
   have hL:((ins.length:Nat):Int)=L:=hL
   refine (JL ins cD hL hi ⟨1,i,k⟩).elim λwv qq=>?_
   have gv:dF.length<=1000000:=by have:=tc.len;omega
   have fV:pG.length<=1000000:=by rw [tc.dl];exact gv
   cbv
   refine ⟨x,⟨gA,hx⟩,?_⟩
   cbv
   refine ⟨⟨ins,⟨1,i,k⟩⟩,⟨by exact aK,by show ins.length<=_;omega⟩,?_⟩
   cbv
   obtain ⟨z,tE⟩:∃z,z=xZ L cD jg x wv:=⟨_,rfl⟩
   have hz:dU L cD 2 z:=by rw [tE];exact apr ug AG ES w9 qq.2
   have iS:(xZ L cD jg x wv).gs=z.gs:=by rw [tE]
   have iH:(xZ L cD jg x wv).n=z.n:=by rw [tE]
   have aBv:=qq.1
   refine ⟨⟨L,cD,jg,x,wv⟩,⟨by exact aK,⟨ug,AG⟩,ES,w9,qq.2⟩,?_⟩
   have Fm:=hz.lo
   have Xj:=hz.hi
   have bB:ahY L y.gs.length i y.l.length R ⟨k+1,z.gs,dF++[⟨1,i,k⟩],pG++[z.n]⟩:=⟨dq,hz.ok,by show y.gs.length<=z.gs.length;omega,by show z.gs.length<=y.gs.length+2*(k+1);omega,tc.aZ auD hk7 Fm hz.n⟩
   cbv
   refine bV.io Es ⟨L,cD,dF,pG,⟨1,i,k⟩,z.gs,z.n⟩ [6,7] rfl (by exact bQ) (by exact ao) ⟨⟨gv,fV⟩⟩ λ_ _=>?_
   cbv
   exact ⟨⟨k+1,z.gs,dF++[⟨1,i,k⟩],pG++[z.n]⟩,by have bg:=eT;exact bJ,by have bg:=hL.symm;exact bJ,⟨⟨bB,ll⟩⟩⟩
  ·have uh:k=y.l.length:=tR h.out yu
   have Dc:(k:Int)=r.w:=by rw [uh,VM];have:=hw.1;omega
   have hk8:k<=8:=by have:=hw.2.1;omega
   have bB:ahX L sL.length p.aM.length R ⟨i+1,cD,dF,pG⟩:=⟨bt,x3,by show sL.length<=cD.length;omega,by show cD.length<=sL.length+1050*(i+1);omega,by
    refine tc.next (by rw [Dc];exact YQ) hk8 ?_
    show 3*i+k<=3*(i+1)
    omega⟩
   cbv
   exact ⟨⟨i+1,cD,dF,pG⟩,by have bg:=h1;exact bJ,by exact ao,⟨⟨bB,bh⟩⟩⟩
 ·have b9:i=p.aM.length:=tR h.out F3
  have Bj:R.length=p.aM.length:=by rw [hR,qJ]
  have A3:OB L (1000+(0:Nat)) R p.aM.length 0 (9+0) gs out dr:=by
   have h2:=nL
   rw [b9] at h2
   exact h2.up (by exact aT) (by exact aT) (cR _)
  have gH:gs.length<=sL.length+3150:=by omega
  clear nL
  cbv
  refine Sat.cf (P6 2 2) 8 6 [(.c 5 2,6),(.c 5 3,7)] (λx:SL=>[(10,.i .i64 λ_=>(x.i:Int))]) (λx=>[(5,.fix 282 [.i .i64 (λ_=>(ins.length:Int)),.sl 5 dD (λ_=>x.gs),.own 6,.own 7]),(6,.dyn 133 3 dm λ_=>x.out),(7,.dyn 3 1 bM λ_=>x.dr)])
   (λx=>ahZ L gs.length p.aM.length p.a8.length R x) (λx=>p.a8.length - x.i) ⟨0,gs,out,dr⟩ (by exact ao) (by exact ao) ⟨cN _,cg,cR _,cR _,A3⟩ ?_
  rintro ⟨k,cD,dF,pG⟩ ⟨yu,x3,CU,Fk,tc⟩
  simp only at yu x3 CU Fk tc
  have gA:=n0 k
  have eT:=cq (i:=k) (by omega)
  cbv
  refine ⟨λh=>?_,λh=>?_⟩
  ·have dq:k < p.a8.length:=bI
   have ll:p.a8.length - (k+1) < p.a8.length - k:=by omega
   have ug:eD L cD:=⟨x3,by omega,by omega⟩
   have ES:cI L cD jg:=Hp.mono (by omega)
   refine (bD (l:=a8) (i:=k) (by omega)).elim λx hx=>?_
   have w9:cI L cD x:=(pB x (cb hx)).mono (by omega)
   have hL:((ins.length:Nat):Int)=L:=hL
   have gv:dF.length<=1000000:=by have:=tc.len;omega
   have fV:pG.length<=1000000:=by rw [tc.dl];exact gv
   obtain ⟨z,tE⟩:∃z,z=andM L cD jg x:=⟨_,rfl⟩
   have hz:dU L cD 1 z:=by rw [tE];exact Hf ug ES w9
   have iS:(andM L cD jg x).gs=z.gs:=by rw [tE]
   have iH:(andM L cD jg x).n=z.n:=by rw [tE]
   have Fm:=hz.lo
   have Xj:=hz.hi
   have bB:ahZ L gs.length p.aM.length p.a8.length R ⟨k+1,z.gs,dF++[⟨5,k,0⟩],pG++[z.n]⟩:=⟨dq,hz.ok,by show gs.length<=z.gs.length;omega,by show z.gs.length<=gs.length+(k+1);omega,tc.add (by simp) ⟨⟨by simp,by simp,by simp,by simp,by simp⟩,by simp⟩ (by simp [iu]) (by simp [iu];exact aT) Fm hz.n⟩
   cbv
   refine ⟨x,⟨gA,hx⟩,?_⟩
   cbv
   refine ⟨⟨L,cD,jg,x⟩,⟨by exact bQ,⟨ug,ES,w9⟩,trivial⟩,?_⟩
   cbv
   refine bV.io Es ⟨L,cD,dF,pG,⟨5,k,0⟩,z.gs,z.n⟩ [6,7] rfl (by exact bQ) (by exact ao) ⟨⟨gv,fV⟩⟩ λ_ _=>?_
   cbv
   exact ⟨⟨k+1,z.gs,dF++[⟨5,k,0⟩],pG++[z.n]⟩,by exact ao,by exact ao,⟨⟨bB,ll⟩⟩⟩
  ·have uh:k=p.a8.length:=tR h.out yu
   have bX:UD ins.length p ⟨sL,a8,dZ,data,jg⟩ ⟨cD,dF,pG⟩:=by
    have hL:((ins.length:Nat):Int)=L:=hL
    rw [hL]
    refine ⟨x3,by show sL.length<=cD.length;omega,by show cD.length<=sL.length+3400;omega,?_⟩
    rw [<-hR]
    exact tc.up (by exact aT) (by exact aT) (cR _)
   cbv
   refine ⟨⟨cD,dF,pG⟩,[],[(.c 4 2,0),(.c 4 3,1)],?_,by exact ao,⟨bX⟩⟩
   cbv
   exact ⟨by exact aK,trivial⟩
end Go.Proofs.Pk
