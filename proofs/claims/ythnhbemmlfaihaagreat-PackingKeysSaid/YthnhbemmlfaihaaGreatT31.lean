import Derived.Test.YthnhbemmlfaihaaGreatT12
import Derived.Test.YthnhbemmlfaihaaGreatT29
import Derived.Test.YthnhbemmlfaihaaGreatT30
set_option linter.unusedVariables false
set_option linter.unusedSimpArgs false
set_option maxRecDepth 10000
set_option maxHeartbeats 64000000
namespace Go.Proofs.Pk
open Go Go.Vc
structure OB (L c:Int) (rw:List Int) (i k:Int) (n:Nat) (gs:List Gate) (l:List bU) (dr:List Int):Prop where
 tH:sR c l
 wr:∀w∈l,mD w 1 10/\(w.kind=1\/5<=w.kind)
 aN:rI rw i k l
 len:l.length<=n
 dl:dr.length=l.length
 nd:fK L gs dr
theorem OB.nil (L:Int) (rw:List Int) (gs:List Gate):OB L 0 rw 0 0 0 gs [] []:=⟨sR.nil _,by simp,rI.nil rw,cR _,rfl,.nil _ _⟩
theorem OB.up {L c d:Int} {rw:List Int} {i k:Int} {n n':Nat} {gs cw:List Gate} {l:List bU} {dr:List Int} (h:OB L c rw i k n gs l dr) (hc:c<=d) (hn:n<=n') (hg:gs.length<=cw.length):OB L d rw i k n' cw l dr:=⟨h.tH.up hc,h.wr,h.aN,by have:=h.len;omega,h.dl,h.nd.mono hg⟩
theorem OB.bh {L:Int} {rw:List Int} {i k n:Nat} {gs cw:List Gate} {l:List bU} {dr:List Int} (h:OB L (16*i+k) rw i k n gs l dr) (hi:i<=31) (hk:k<=7) (hg:gs.length<=cw.length) {v:Int} (hv:cJ L cw v):OB L (16*i+(k+1:Nat)) rw i ((k+1:Nat):Int) (n+1) cw (l++[⟨1,i,k⟩]) (dr++[v]):=by
 refine ⟨h.tH.add (by simp [iy]) (by simp [iy];omega),OR h.wr ⟨⟨by simp,by simp,by simp,by simp,by simp;omega⟩,by simp⟩,?_,by have:=h.len;simp;omega,by simp [h.dl],(h.nd.mono hg).add hv⟩
 have:=h.aN.bit (by omega) (by omega)
 simpa using this
theorem OB.next {L:Int} {rw:List Int} {i k n n':Nat} {gs:List Gate} {l:List bU} {dr:List Int} (h:OB L (16*i+k) rw i k n gs l dr) (hw:rw[i]?=some (k:Int)) (hk:k<=8) (hn:n<=n'):OB L (16*(i+1:Nat)) rw ((i+1:Nat):Int) 0 n' gs l dr :=
 ⟨h.tH.up (by omega),h.wr,h.aN.next hw,by have:=h.len;omega,h.dl,h.nd⟩
theorem OB.add {L c d:Int} {rw:List Int} {i k:Int} {n:Nat} {gs cw:List Gate} {l:List bU} {dr:List Int} (h:OB L c rw i k n gs l dr) {w:bU} (hw:w.kind≠1) (hr:mD w 1 10/\(w.kind=1\/5<=w.kind)) (hc:c<=iy w) (hd:iy w < d) (hg:gs.length<=cw.length) {v:Int} (hv:cJ L cw v):OB L d rw i k (n+1) cw (l++[w]) (dr++[v]) :=
 ⟨h.tH.add hc hd,OR h.wr hr,h.aN.other hw,by have:=h.len;simp;omega,by simp [h.dl],(h.nd.mono hg).add hv⟩
structure SI where
 p:rT
 ins:List bU
 d:DU
structure SO where
 gs:List Gate
 out:List bU
 ay:List Int
structure UO (L:Int) (p:rT) (d:DU) (y:SO):Prop where
 ok:k6 L y.gs
 lo:d.gs.length<=y.gs.length
 hi:y.gs.length<=d.gs.length+3400
 out:OB L 2000 (p.aN.map (·.w)) p.aN.length 0 30 y.gs y.out y.ay
@[reducible] noncomputable def aq2:na where
 α:=SI
 args x:=[.agg (zp 2 x.p++[.sl 3 dk (λ_=>x.ins),.sl 1 jd (λ_=>x.d.data)]),.agg [.i .i64 (λ_=>x.ins.length),.sl 5 dE (λ_=>x.d.gs),.sl 1 bK (λ_=>x.d.aZ),.sl 1 bK (λ_=>x.d.ec),.sl 1 jd (λ_=>x.d.data),.i .i64 (λ_=>x.d.jg)]]
 io x:=[.dead,.dead]
 pre x:=rH x.p/\x.ins.length<=100/\EY x.ins.length x.p x.d
 β:=SO
 post x y:=UO x.ins.length x.p x.d y
 mv:=[0,1]
 res x y:=.agg [.i .i64 (λ_=>x.ins.length),.sl 5 dE (λ_=>y.gs),.own 0,.own 1]
 ko x y:=[.dyn 133 3 dk (λ_=>y.out),.dyn 3 1 bK (λ_=>y.ay)]
structure SL where
 i:Nat
 gs:List Gate
 out:List bU
 dr:List Int
structure ah7 (L:Int) (g0 n:Nat) (rw:List Int) (x:SL):Prop where
 i:x.i<=n
 ok:k6 L x.gs
 lo:g0<=x.gs.length
 hi:x.gs.length<=g0+1050*x.i
 out:OB L (16*x.i) rw x.i 0 (3*x.i) x.gs x.out x.dr
structure ah8 (L:Int) (g0 i n:Nat) (rw:List Int) (x:SL):Prop where
 le:x.i<=n
 ok:k6 L x.gs
 lo:g0<=x.gs.length
 hi:x.gs.length<=g0+2*x.i
 out:OB L (16*i+x.i) rw i x.i (3*i+x.i) x.gs x.out x.dr
structure ah9 (L:Int) (g0 m n:Nat) (rw:List Int) (x:SL):Prop where
 le:x.i<=n
 ok:k6 L x.gs
 lo:g0<=x.gs.length
 hi:x.gs.length<=g0+x.i
 out:OB L (1000+x.i) rw m 0 (9+x.i) x.gs x.out x.dr
noncomputable def cSt (n m:Nat):Ctx:=fy n m [(162,Tryz.f162),(161,Tryz.f161)] [(222,K4),(225,agf),(160,K7)] [162,161]
theorem P0 (n m:Nat):CB PP (cSt n m):=fF n m ⟨fo Tryz.func162,fo Tryz.func161,trivial⟩ ⟨OQ,apM,UN,trivial⟩
theorem aoz:iK PP 159 aq2:=by
 refine mP (P0 2 2) (fo Tryz.func159) (λa y=>rfl) (λa=>⟨rfl,rfl⟩) (by show ([0,1]:List Nat).Nodup;decide) ?_
 rintro ⟨p,ins,⟨sT,aZ,ec,data,jg⟩⟩ hx
 obtain ⟨hp,hi,hd⟩:rH p/\ins.length<=100/\EY ins.length p ⟨sT,aZ,ec,data,jg⟩:=hx
 obtain ⟨L,hL⟩:∃L:Int,(ins.length:Int)=L:=⟨_,rfl⟩
 rw [hL] at hd
 have zX:0<=L/\L<=100:=by omega
 have r6:p.aN.length<=3:=hp.aN.1
 have xb:p.aZ.length<=2:=hp.aZ.1
 have xa:∀(i:Nat) (r:tE),p.aN[i]?=some r->1<=r.w/\r.w<=3/\WT (oh p true) 3 r.w r.next:=λi r h=>hp.aN.2 r (cb h)
 have ow:=PZ hp hi (b:=true) (I:=L) (gs:=sT) (data:=data) (λ_=>hd.data)
 obtain ⟨st,cI⟩:∃st,st=oh p true:=⟨_,rfl⟩
 rw [<-cI] at xa ow
 have Ya:sT.length<=6000:=hd.dK
 have auV:k6 L sT:=hd.ok
 have HH:cJ L sT jg:=hd.jg
 have I7:aZ.length=p.aZ.length:=hd.tl
 have qZ:fK L sT aZ:=hd.tn
 have FH:∀d∈data,fK L sT d:=hd.data.ok
 obtain ⟨R,hR⟩:∃R,R=p.aN.map (·.w):=⟨_,rfl⟩
 clear hd hp
 refine ⟨?_⟩
 cbv
 refine Sat.iH 5 2 133 3 Hs gU rfl rfl ?_
 refine Sat.iH 5 3 3 1 n8 cP rfl rfl ?_
 refine Sat.cd (P0 2 2) 8 6 [(.c 5 2,6),(.c 5 3,7)] (λx:SL=>[(6,.i .i64 λ_=>(x.i:Int))]) (λx=>[(5,.fix 282 [.i .i64 (λ_=>(ins.length:Int)),.sl 5 dE (λ_=>x.gs),.own 6,.own 7]),(6,.dyn 133 3 dk λ_=>x.out),(7,.dyn 3 1 bK λ_=>x.dr)])
  (λx=>ah7 L sT.length p.aN.length R x) (λx=>p.aN.length - x.i) ⟨0,sT,[],[]⟩ (by exact ao) (by exact ao) ⟨cL _,auV,cR _,cR _,.nil _ _ _⟩ ?_
 rintro ⟨i,gs,out,dr⟩ ⟨Gk,cv,fa,gF,nN⟩
 simp only at Gk cv fa gF nN
 have h0:=n0 i
 have h1:=cj (i:=i) (by omega)
 cbv
 refine ⟨λh=>?_,λh=>?_⟩
 ·have bq:i < p.aN.length:=bG
  have a7:p.aN.length - (i+1) < p.aN.length - i:=by omega
  refine (bB bq).elim λr hr=>?_
  have hw:=xa i r hr
  have MJ:R[i]?=some r.w:=by rw [hR];exact ah1 hr
  have gl:Room L gs (KB 3):=⟨cv,by omega,by show _+1040<=_;omega⟩
  cbv
  refine ⟨r,⟨h0,hr⟩,?_⟩
  cbv
  have hL:((ins.length:Nat):Int)=L:=hL
  refine bV.rel (EM 2 3) ⟨p,ins,data,gs,r.next,st,r.w⟩ (by have BB:=hw.2.2;exact dy) ⟨ow,(by show Room ins.length gs (KB 3);rw [hL];exact gl),λd hd=>(by show fK ins.length gs d;rw [hL];exact (FH d hd).mono fa),hw.2.2⟩ λy hy=>?_
  have hy:lP L gs 1040 r.w.toNat y:=hL ▸ hy.out
  have Im:=hy.lo
  have Xd:=hy.hi
  have VX:=hy.len
  have Xh:=hy.ok
  have hyn:=hy.n
  have Bj:OB L (16*i+(0:Nat)) R i ((0:Nat):Int) (3*i+0) y.gs out dr:=by
   have:=nN.up (jR _) (cR _) Im
   simpa using this
  clear nN
  cbv
  refine Sat.cd (P0 2 2) 9 8 [(.c 5 2,6),(.c 5 3,7)] (λx:SL=>[(8,.i .i64 λ_=>(x.i:Int))]) (λx=>[(5,.fix 282 [.i .i64 (λ_=>(ins.length:Int)),.sl 5 dE (λ_=>x.gs),.own 6,.own 7]),(6,.dyn 133 3 dk λ_=>x.out),(7,.dyn 3 1 bK λ_=>x.dr)])
   (λx=>ah8 L y.gs.length i y.l.length R x) (λx=>y.l.length - x.i) ⟨0,y.gs,out,dr⟩ (by exact ao) (by exact ao) ⟨cL _,Xh,cR _,cR _,Bj⟩ ?_
  rintro ⟨k,cF,dG,pJ⟩ ⟨yF,yc,C8,FI,tq⟩
  simp only at yF yc C8 FI tq
  have gS:=n0 k
  have eX:=cj (i:=k) (by omega)
  have yv:y.l.length<=3:=by have:=hw.2.1;omega
  cbv
  refine ⟨λh=>?_,λh=>?_⟩
  ·have db:k < y.l.length:=bG
   have lz:y.l.length - (k+1) < y.l.length - k:=by omega
   have hk7:k<=7:=by have:=hw.2.1;omega
   have auW:i<=31:=by omega
   have uu:eC L cF:=⟨yc,by omega,by omega⟩
   have AV:cF.length+10<=1000000000:=by omega
   have Fh:cJ L cF jg:=HH.mono (by omega)
   refine (bB db).elim λx hx=>?_
   have xd:cJ L cF x:=(hyn x (cb hx)).mono C8
   have hL:((ins.length:Nat):Int)=L:=hL
   refine (JX ins cF hL hi ⟨1,i,k⟩).elim λwv qx=>?_
   have gu:dG.length<=1000000:=by have:=tq.len;omega
   have fV:pJ.length<=1000000:=by rw [tq.dl];exact gu
   cbv
   refine ⟨x,⟨gS,hx⟩,?_⟩
   cbv
   refine ⟨⟨ins,⟨1,i,k⟩⟩,⟨by exact aL,by show ins.length<=_;omega⟩,?_⟩
   cbv
   obtain ⟨z,tM⟩:∃z,z=yb L cF jg x wv:=⟨_,rfl⟩
   have hz:dV L cF 2 z:=by rw [tM];exact apL uu AV Fh xd qx.2
   have iT:(yb L cF jg x wv).gs=z.gs:=by rw [tM]
   have iJ:(yb L cF jg x wv).n=z.n:=by rw [tM]
   have aBf:=qx.1
   refine ⟨⟨L,cF,jg,x,wv⟩,⟨by exact aL,⟨uu,AV⟩,Fh,xd,qx.2⟩,?_⟩
   have FJ:=hz.lo
   have Xm:=hz.hi
   have bA:ah8 L y.gs.length i y.l.length R ⟨k+1,z.gs,dG++[⟨1,i,k⟩],pJ++[z.n]⟩:=⟨db,hz.ok,by show y.gs.length<=z.gs.length;omega,by show z.gs.length<=y.gs.length+2*(k+1);omega,tq.bh auW hk7 FJ hz.n⟩
   cbv
   refine bV.io EN ⟨L,cF,dG,pJ,⟨1,i,k⟩,z.gs,z.n⟩ [6,7] rfl (by exact bQ) (by exact ao) ⟨⟨gu,fV⟩⟩ λ_ _=>?_
   cbv
   exact ⟨⟨k+1,z.gs,dG++[⟨1,i,k⟩],pJ++[z.n]⟩,by have bm:=eX;exact bI,by have bm:=hL.symm;exact bI,⟨⟨bA,lz⟩⟩⟩
  ·have uv:k=y.l.length:=ua h.out yF
   have Ds:(k:Int)=r.w:=by rw [uv,VX];have:=hw.1;omega
   have hk8:k<=8:=by have:=hw.2.1;omega
   have bA:ah7 L sT.length p.aN.length R ⟨i+1,cF,dG,pJ⟩:=⟨bq,yc,by show sT.length<=cF.length;omega,by show cF.length<=sT.length+1050*(i+1);omega,by
    refine tq.next (by rw [Ds];exact MJ) hk8 ?_
    show 3*i+k<=3*(i+1)
    omega⟩
   cbv
   exact ⟨⟨i+1,cF,dG,pJ⟩,by have bm:=h1;exact bI,by exact ao,⟨⟨bA,a7⟩⟩⟩
 ·have bS:i=p.aN.length:=ua h.out Gk
  have BD:R.length=p.aN.length:=by rw [hR,ph]
  have Bj:OB L (1000+(0:Nat)) R p.aN.length 0 (9+0) gs out dr:=by
   have h2:=nN
   rw [bS] at h2
   exact h2.up (by exact aU) (by exact aU) (cR _)
  have gF:gs.length<=sT.length+3150:=by omega
  clear nN
  cbv
  refine Sat.cd (P0 2 2) 8 6 [(.c 5 2,6),(.c 5 3,7)] (λx:SL=>[(10,.i .i64 λ_=>(x.i:Int))]) (λx=>[(5,.fix 282 [.i .i64 (λ_=>(ins.length:Int)),.sl 5 dE (λ_=>x.gs),.own 6,.own 7]),(6,.dyn 133 3 dk λ_=>x.out),(7,.dyn 3 1 bK λ_=>x.dr)])
   (λx=>ah9 L gs.length p.aN.length p.aZ.length R x) (λx=>p.aZ.length - x.i) ⟨0,gs,out,dr⟩ (by exact ao) (by exact ao) ⟨cL _,cv,cR _,cR _,Bj⟩ ?_
  rintro ⟨k,cF,dG,pJ⟩ ⟨yF,yc,C8,FI,tq⟩
  simp only at yF yc C8 FI tq
  have gS:=n0 k
  have eX:=cj (i:=k) (by omega)
  cbv
  refine ⟨λh=>?_,λh=>?_⟩
  ·have db:k < p.aZ.length:=bG
   have lz:p.aZ.length - (k+1) < p.aZ.length - k:=by omega
   have uu:eC L cF:=⟨yc,by omega,by omega⟩
   have Fh:cJ L cF jg:=HH.mono (by omega)
   refine (bB (l:=aZ) (i:=k) (by omega)).elim λx hx=>?_
   have xd:cJ L cF x:=(qZ x (cb hx)).mono (by omega)
   have hL:((ins.length:Nat):Int)=L:=hL
   have gu:dG.length<=1000000:=by have:=tq.len;omega
   have fV:pJ.length<=1000000:=by rw [tq.dl];exact gu
   obtain ⟨z,tM⟩:∃z,z=andM L cF jg x:=⟨_,rfl⟩
   have hz:dV L cF 1 z:=by rw [tM];exact Hx uu Fh xd
   have iT:(andM L cF jg x).gs=z.gs:=by rw [tM]
   have iJ:(andM L cF jg x).n=z.n:=by rw [tM]
   have FJ:=hz.lo
   have Xm:=hz.hi
   have bA:ah9 L gs.length p.aN.length p.aZ.length R ⟨k+1,z.gs,dG++[⟨5,k,0⟩],pJ++[z.n]⟩:=⟨db,hz.ok,by show gs.length<=z.gs.length;omega,by show z.gs.length<=gs.length+(k+1);omega,tq.add (by simp) ⟨⟨by simp,by simp,by simp,by simp,by simp⟩,by simp⟩ (by simp [iy]) (by simp [iy];exact aU) FJ hz.n⟩
   cbv
   refine ⟨x,⟨gS,hx⟩,?_⟩
   cbv
   refine ⟨⟨L,cF,jg,x⟩,⟨by exact bQ,⟨uu,Fh,xd⟩,trivial⟩,?_⟩
   cbv
   refine bV.io EN ⟨L,cF,dG,pJ,⟨5,k,0⟩,z.gs,z.n⟩ [6,7] rfl (by exact bQ) (by exact ao) ⟨⟨gu,fV⟩⟩ λ_ _=>?_
   cbv
   exact ⟨⟨k+1,z.gs,dG++[⟨5,k,0⟩],pJ++[z.n]⟩,by exact ao,by exact ao,⟨⟨bA,lz⟩⟩⟩
  ·have uv:k=p.aZ.length:=ua h.out yF
   have bW:UO ins.length p ⟨sT,aZ,ec,data,jg⟩ ⟨cF,dG,pJ⟩:=by
    have hL:((ins.length:Nat):Int)=L:=hL
    rw [hL]
    refine ⟨yc,by show sT.length<=cF.length;omega,by show cF.length<=sT.length+3400;omega,?_⟩
    rw [<-hR]
    exact tq.up (by exact aU) (by exact aU) (cR _)
   cbv
   refine ⟨⟨cF,dG,pJ⟩,[],[(.c 4 2,0),(.c 4 3,1)],?_,by exact ao,⟨bW⟩⟩
   cbv
   exact ⟨by exact aL,trivial⟩
end Go.Proofs.Pk
