import Derived.Test.YthnhbemmlfaihaaGreatU7
import Derived.Test.YthnhbemmlfaihaaGreatU22
set_option linter.unusedVariables false
set_option linter.unusedSimpArgs false
set_option maxRecDepth 10000
set_option maxHeartbeats 64000000
namespace Go.Proofs.Pk
open Go Go.Vc
theorem getM {A B:Type} {f:A->B} {l:List A} {i:Nat} {w:B} (h:(l.map f)[i]?=some w):∃r,l[i]?=some r/\f r=w:=by
 rw [m7] at h
 cases hl:l[i]? with
 | none=>rw [hl] at h;cases h
 | some r=>rw [hl] at h;exact ⟨r,rfl,by simpa using h⟩
theorem adR {p:rR} (h:rG p) (b:Bool):WQ (n8 p b) where
 aM:=λw hw=>by
  obtain ⟨r,hr,rfl⟩:=lX.1 hw
  have:=h.aM.2 r hr
  exact ⟨this.1,by omega⟩
 a8:=λw hw=>by
  obtain ⟨r,hr,rfl⟩:=lX.1 hw
  have:=h.a8.2 r hr
  exact ⟨this.1,by omega⟩
 bf:=λm hm=>by
  obtain ⟨r,hr,rfl⟩:=lX.1 hm
  have:=h.bf.2 r hr
  exact ⟨this.1,by show r.w<=8;omega⟩
theorem nN.up1 {sc:Sc} {n:Nat}:∀{ws:List Int} {es:List Expr},nN sc n ws es->∀(j:Nat) (e:Expr),es[j]?=some e->∃w,WT sc n w e:=λh j e he=>by
 obtain ⟨w,_,h⟩:=h.get j e he
 exact ⟨w,h⟩
theorem PN {sc:Sc}:∀(n:Nat) {w:Int} {e:Expr},WT sc (n+1) w e->Le (cA n e) (cA (n+1) e)
 | 0,w,e,h=>by
  obtain ⟨ws,dB⟩:=h.args
  refine Le.dg ?_ λx=>⟨trivial,trivial,trivial,trivial,trivial,trivial,Cw 0 x,trivial⟩
  show e.args=[]
  cases he:e.args with
  | nil=>rfl
  | cons x l =>
   obtain ⟨w,hw⟩:=dB.up1 0 x (by rw [he];rfl)
   cases hw
 | n+1,w,e,h=>by
  obtain ⟨ws,dB⟩:=h.args
  refine Le.XU rfl (λx=>⟨trivial,trivial,trivial,trivial,trivial,trivial,Cw (n+1) x,trivial⟩) λj x y hx hy=>?_
  have hx:e.args[j]?=some x:=hx
  have hy:e.args[j]?=some y:=hy
  rw [hx] at hy
  cases hy
  obtain ⟨w,hw⟩:=dB.up1 j x hx
  exact .cons (.refl _) (.cons (.refl _) (.cons (.refl _) (.cons (.refl _) (.cons (.refl _) (.cons (.refl _) (.cons (PN n hw) .nil))))))
structure xI (ins:Int) (gs:List Gate) (tl:List Take) (i:Nat) (data:List (List Int)):Prop where
 len:data.length=i
 w:∀(j:Nat) (t:Take) (d:List Int),tl[j]?=some t->data[j]?=some d->d.length=t.w.toNat
 ok:∀d∈data,fL ins gs d
theorem xI.nil (ins:Int) (gs:List Gate) (tl:List Take):xI ins gs tl 0 []:=⟨rfl,λj t d _ h=>by simp at h,λd h=>by simp at h⟩
theorem xI.mono {ins:Int} {gs cw:List Gate} {tl:List Take} {i:Nat} {data:List (List Int)} (h:xI ins gs tl i data) (hl:gs.length<=cw.length):xI ins cw tl i data:=⟨h.len,h.w,λd hd=>(h.ok d hd).mono hl⟩
theorem xI.add {ins:Int} {gs:List Gate} {tl:List Take} {i:Nat} {data:List (List Int)} (h:xI ins gs tl i data) {t:Take} (ht:tl[i]?=some t) {d:List Int} (hd:d.length=t.w.toNat) (hn:fL ins gs d):xI ins gs tl (i+1) (data++[d]):=by
 refine ⟨by simp [h.len],λj u e hu he=>?_,λe he=>?_⟩
 ·by_cases hj:j < data.length
  ·rw [nV hj] at he
   exact h.w j u e hu he
  ·rw [uS (by omega)] at he
   have iN:j - data.length=0:=by
    have:=(bW.1 he).1
    simp at this;omega
   rw [iN] at he
   simp at he
   have nO:j=i:=by have:=h.len;omega
   rw [nO,ht] at hu
   cases hu
   rw [<-he];exact hd
 ·rcases eP.1 he with he|he
  ·exact h.ok e he
  ·simp at he;rw [he];exact hn
theorem P5 {p:rR} (h:rG p) {ins:List bU} (hi:ins.length<=100) {b:Bool} {I:Int} {gs:List Gate} {data:List (List Int)} (hd:b=true->xI I gs p.a8 p.a8.length data):ahI (n8 p b) p ins data where
 ok:=adR h b
 ins:=hi
 aM:=λi w hw=>getM hw
 bf:=λi w v hw=>by
  obtain ⟨r,hr,he⟩:=getM hw
  have hl:=(bW.1 hr).1
  have:=h.bf.1
  cases he
  exact ⟨by omega,r,hr,rfl,rfl⟩
 data:=λhb i w hw=>by
  obtain ⟨r,hr,he⟩:=getM hw
  have hl:=(bW.1 hr).1
  have hD:=hd hb
  have hlen:=hD.len
  obtain ⟨d,tq⟩:=bD (l:=data) (i:=i) (by omega)
  exact ⟨d,tq,by rw [hD.w i r d hr tq,he]⟩
structure DU where
 gs:List Gate
 a8:List Int
 dZ:List Int
 data:List (List Int)
 jg:Int
structure EB (ins:Int) (p:rR) (y:DU):Prop where
 ok:kT ins y.gs
 dK:y.gs.length<=6000
 tl:y.a8.length=p.a8.length
 tn:fL ins y.gs y.a8
 pl:y.dZ.length=p.dZ.length
 pn:fL ins y.gs y.dZ
 data:xI ins y.gs p.a8 p.a8.length y.data
 jg:cI ins y.gs y.jg
structure PI where
 p:rR
 ins:List bU
@[reducible] noncomputable def ar8:fK where
 α:=PI
 args x:=[.agg (za 2 x.p),.sl 3 dm (λ_=>x.ins)]
 pre x:=rG x.p/\x.ins.length<=100
 β:=DU
 post x y:=EB x.ins.length x.p y
 res x y:=.agg [.i .i64 (λ_=>x.ins.length),.sl 5 dD (λ_=>y.gs),.sl 1 bM (λ_=>y.a8),.sl 1 bM (λ_=>y.dZ),.sl 1 jc (λ_=>y.data),.i .i64 (λ_=>y.jg)]
structure D1 where
 i:Nat
 gs:List Gate
 a8:List Int
 data:List (List Int)
structure ahS (ins:Int) (tl:List Take) (x:D1):Prop where
 i:x.i<=tl.length
 ok:kT ins x.gs
 dK:x.gs.length<=1100*x.i
 aBu:x.a8.length=x.i
 tn:fL ins x.gs x.a8
 data:xI ins x.gs tl x.i x.data
structure D3 where
 i:Nat
 gs:List Gate
 jg:Int
structure Xd (ins:Int) (gs:List Gate) (n:Nat) (x:D3):Prop where
 i:x.i<=n
 ok:kT ins x.gs
 lo:gs.length<=x.gs.length
 hi:x.gs.length<=gs.length+3*x.i
 jg:cI ins x.gs x.jg
noncomputable def cDu (n m:Nat):Ctx:=fB n m [(162,Tryz.f162),(160,Tryz.f160),(223,Tryz.f223),(224,Tryz.f224)] [(222,KL)] [162,160,223,224] [] [15]
theorem VL (n m:Nat):CB PP (cDu n m):=fG n m ⟨fo Tryz.func162,fo Tryz.func160,fo Tryz.func223,fo Tryz.func224,trivial⟩ ⟨OQ,trivial⟩
noncomputable def aus (n m:Nat):Ctx:=fB n m [(162,Tryz.f162),(160,Tryz.f160),(223,Tryz.f223),(224,Tryz.f224)] [(222,KL)] [162,160,223,224]
theorem Ve (n m:Nat):CB PP (aus n m):=fG n m ⟨fo Tryz.func162,fo Tryz.func160,fo Tryz.func223,fo Tryz.func224,trivial⟩ ⟨OQ,trivial⟩
theorem apo:eG PP 158 ar8:=by
 refine iL (VL 2 2) (fo Tryz.func158) (λa=>⟨G4 2 a.p,(λx=>(gS x).1),trivial⟩) (λa y=>⟨trivial,(λx=>(eO x).1),(λx=>(cQ x).1),(λx=>(cQ x).1),(λx=>(pW x).1),trivial,trivial⟩) ?_
 rintro ⟨p,ins⟩ hx
 obtain ⟨hp,hi⟩:rG p/\ins.length<=100:=hx
 obtain ⟨L,hL⟩:∃L:Int,(ins.length:Int)=L:=⟨_,rfl⟩
 have Dh:0<=L/\L<=100:=by omega
 have w7:p.a8.length<=2:=hp.a8.1
 have tm:p.dZ.length<=2:=hp.dZ.1
 have FW:∀(i:Nat) (r:Take),p.a8[i]?=some r->1<=r.w/\r.w<=2/\WT (n8 p false) 3 1 r.cond:=λi r h=>hp.a8.2 r (cb h)
 have IP:∀(i:Nat) (r:rV),p.dZ[i]?=some r->WT (n8 p true) 3 1 r.cond:=λi r h=>(hp.dZ.2 r (cb h)).2.2.1
 have oo:=P5 hp hi (b:=false) (I:=L) (gs:=[]) (data:=[]) (λh=>by cases h)
 have Lx:=λgs data=>P5 hp hi (b:=true) (I:=L) (gs:=gs) (data:=data)
 obtain ⟨sf,hsf⟩:∃sf,sf=n8 p false:=⟨_,rfl⟩
 obtain ⟨st,cJ⟩:∃st,st=n8 p true:=⟨_,rfl⟩
 rw [<-hsf] at FW oo
 rw [<-cJ] at IP Lx
 refine ⟨?_⟩
 cbv
 refine Sat.iK 2 2 3 1 oC cQ rfl rfl ?_
 refine Sat.iK 2 4 35 1 Uv pW rfl rfl ?_
 refine Sat.cf (VL 2 2) 5 6 [(.c 2 2,3),(.c 2 4,4)] (λx:D1=>[(6,.i .i64 λ_=>(x.i:Int))]) (λx=>[(2,.fix 277 [.i .i64 (λ_=>(ins.length:Int)),.sl 5 dD (λ_=>x.gs),.own 3,.dg,.own 4,.ic .i64 1]),(3,.dyn 3 1 bM λ_=>x.a8),(4,.dyn 35 1 jc λ_=>x.data)])
  (λx=>ahS L p.a8 x) (λx=>p.a8.length - x.i) ⟨0,[],[],[]⟩ (by exact ao) (by exact ao) ⟨cN _,.nil _,cR _,rfl,.nil _ _,.nil _ _ _⟩ ?_
 rintro ⟨i,gs,yt,data⟩ ⟨mO,cg,oP,Dg,pB,tY⟩
 simp only at mO cg oP Dg pB tY
 have h0:=n0 i
 have h1:=cq (i:=i) (by omega)
 cbv
 refine ⟨λh=>?_,λh=>?_⟩
 ·have bt:i < p.a8.length:=bI
  have bh:p.a8.length - (i+1) < p.a8.length - i:=by omega
  refine (bD bt).elim λr hr=>?_
  have hw:=FW i r hr
  have fS:Room L gs (KB 3):=⟨cg,by omega,by show _+1040<=_;omega⟩
  cbv
  refine ⟨r,⟨h0,hr⟩,?_⟩
  cbv
  have hL:((ins.length:Nat):Int)=L:=hL
  refine bV.rel (Er 2 3) ⟨p,ins,[],gs,r.cond,sf,1⟩ (by have Bh:=hw.2.2;exact dx) ⟨oo,(by show Room ins.length gs (KB 3);rw [hL];exact fS),λd hd=>(by cases hd),hw.2.2⟩ λy hy=>?_
  have hy:lO L gs 1040 1 y:=hL ▸ hy.out
  have HX:=hy.lo
  have Xa:=hy.hi
  have VM:=hy.len
  refine (bD (l:=y.l) (i:=0) (by omega)).elim λd hd=>?_
  have YO:cI L y.gs d:=hy.n d (cb hd)
  have Xe:=hy.ok
  have Vf:=tY.mono HX
  have QL:fL L y.gs yt:=pB.mono HX
  cbv
  refine ⟨d,⟨j5 _,hd⟩,?_⟩
  cbv
  refine ⟨[d],⟨by exact aK,by show (yt.length+1)*8<=_;omega,by show yt.length+1<=_;omega⟩,?_⟩
  cbv
  refine Sat.cf (VL 2 2) 9 8 [(.t 8,8)] (λx:LG=>[(8,.own 8),(9,.i .i64 λ_=>(x.i:Int))]) (λx=>[(2,.fix 277 [.i .i64 (λ_=>(ins.length:Int)),.sl 5 dD (λ_=>x.gs),.own 7,.dg,.own 4,.ic .i64 1]),(8,.dyn 3 1 bM λ_=>x.l)])
   (λx=>mF L y.gs 1 r.w.toNat x) (λx=>r.w.toNat - x.i) ⟨0,y.gs,[]⟩ (by exact ao) (by exact ao) (mF.nil Xe) ?_
  rintro ⟨k,cD,l⟩ hJ
  have hJ:mF L y.gs 1 r.w.toNat ⟨k,cD,l⟩:=hJ
  have hJi:k<=r.w.toNat:=hJ.i
  have Fi:y.gs.length<=cD.length:=hJ.lo
  have Xf:cD.length<=y.gs.length+1*k:=hJ.hi
  have YR:l.length=k:=hJ.len
  have ug:eD L cD:=⟨hJ.ok,by omega,by omega⟩
  have gA:=n0 k
  have eT:=cq (i:=k) (by omega)
  have Ly:=YO.mono Fi
  have hL:((ins.length:Nat):Int)=L:=hL
  refine (JL ins cD hL hi ⟨2,i,k⟩).elim λwv qq=>?_
  have YF:=hw.1
  have vy:=hw.2.1
  cbv
  refine ⟨r,⟨h0,hr⟩,?_⟩
  cbv
  refine ⟨λh=>?_,λh=>?_⟩
  ·have dq:(k:Int) < r.w:=bI
   have ll:r.w.toNat - (k+1) < r.w.toNat - k:=by omega
   have aut:k < r.w.toNat:=by omega
   cbv
   refine ⟨d,⟨j5 _,hd⟩,?_⟩
   cbv
   refine ⟨⟨ins,⟨2,i,k⟩⟩,⟨by exact aK,by show ins.length<=_;omega⟩,?_⟩
   cbv
   refine bV.rel Cj ⟨L,cD,d,wv⟩ (by have bg:=qq.1.symm;exact cP) ⟨ug,Ly,qq.2,trivial⟩ λz hz=>?_
   have hz:dU L cD 1 z:=hz.out
   have bB:=hJ.add aut hz
   cbv
   refine ⟨[z.n],⟨by exact aK,by show (l.length+1)*8<=_;omega,by show l.length+1<=_;omega⟩,?_⟩
   cbv
   exact ⟨⟨k+1,z.gs,l++[z.n]⟩,by have bg:=eT;exact bJ,by have bg:=hL.symm;exact bJ,⟨⟨bB,ll⟩⟩⟩
  ·have dq:¬(k:Int) < r.w:=bI
   have Dc:k=r.w.toNat:=by omega
   have bB:ahS L p.a8 ⟨i+1,cD,yt++[d],data++[l]⟩:=⟨bt,hJ.ok,by show cD.length<=1100*(i+1);omega,by show (yt++[d]).length=i+1;simp [Dg],(QL.mono Fi).add Ly,(Vf.mono Fi).add hr (by rw [YR,Dc]) hJ.n⟩
   cbv
   refine Sat.freeze 8 rfl rfl ?_
   refine Sat.wU (Ve 2 2) ?_
   cbv
   refine ⟨[l],⟨by exact aK,by show (data.length+1)*24<=_;rw [tY.len];omega,by show data.length+1<=_;rw [tY.len];omega⟩,?_⟩
   cbv
   exact ⟨⟨i+1,cD,yt++[d],data++[l]⟩,by have bg:=h1;exact bJ,by exact ao,⟨⟨bB,bh⟩⟩⟩
 ·have b9:i=p.a8.length:=tR h.out mO
  have hL:((ins.length:Nat):Int)=L:=hL
  have Lx:=Lx gs data λ_=>b9 ▸ tY
  have ahT:=tY.ok
  have aA3:gs.length<=2200:=by omega
  clear h0 h1
  cbv
  refine Sat.freeze 4 rfl rfl ?_
  refine Sat.iK 2 3 3 1 oC cQ rfl rfl ?_
  refine Sat.cf (Ve 2 2) 6 6 [(.c 2 3,5)] (λx:LG=>[(11,.i .i64 λ_=>(x.i:Int))]) (λx=>[(2,.fix 277 [.i .i64 (λ_=>(ins.length:Int)),.sl 5 dD (λ_=>x.gs),.own 3,.own 5,.sl 1 jc (λ_=>data),.ic .i64 1]),(5,.dyn 3 1 bM λ_=>x.l)])
   (λx=>mF L gs 1040 p.dZ.length x) (λx=>p.dZ.length - x.i) ⟨0,gs,[]⟩ (by exact ao) (by exact ao) (mF.nil cg) ?_
  rintro ⟨i,cD,l⟩ hJ
  have hJ:mF L gs 1040 p.dZ.length ⟨i,cD,l⟩:=hJ
  have hJi:i<=p.dZ.length:=hJ.i
  have Fi:gs.length<=cD.length:=hJ.lo
  have Xf:cD.length<=gs.length+1040*i:=hJ.hi
  have YR:l.length=i:=hJ.len
  have ahU:kT L cD:=hJ.ok
  have h0:=n0 i
  have h1:=cq (i:=i) (by omega)
  have Ly:∀d∈data,fL L cD d:=λd hd=>(ahT d hd).mono Fi
  cbv
  refine ⟨λh=>?_,λh=>?_⟩
  ·have bt:i < p.dZ.length:=bI
   have bh:p.dZ.length - (i+1) < p.dZ.length - i:=by omega
   refine (bD bt).elim λr hr=>?_
   have hw:=IP i r hr
   have fS:Room L cD (KB 3):=⟨ahU,by omega,by show _+1040<=_;omega⟩
   cbv
   refine ⟨r,⟨h0,hr⟩,?_⟩
   cbv
   have hL:((ins.length:Nat):Int)=L:=hL
   refine bV.rel (Er 2 3) ⟨p,ins,data,cD,r.cond,st,1⟩ (by have Bh:=hw;exact dx) ⟨Lx,(by show Room ins.length cD (KB 3);rw [hL];exact fS),λd hd=>(by show fL ins.length cD d;rw [hL];exact Ly d hd),hw⟩ λy hy=>?_
   have hy:lO L cD 1040 1 y:=hL ▸ hy.out
   have VM:=hy.len
   refine (bD (l:=y.l) (i:=0) (by omega)).elim λd hd=>?_
   have bB:=hJ.add (y:=⟨y.gs,d⟩) bt ⟨hy.ok,hy.lo,hy.hi,hy.n d (cb hd)⟩
   cbv
   refine ⟨d,⟨j5 _,hd⟩,?_⟩
   cbv
   refine ⟨[d],⟨by exact aK,by show (l.length+1)*8<=_;omega,by show l.length+1<=_;omega⟩,?_⟩
   cbv
   exact ⟨⟨i+1,y.gs,l++[d]⟩,by have bg:=h1;exact bJ,by exact ao,⟨⟨bB,bh⟩⟩⟩
  ·have uh:i=p.dZ.length:=tR h.out hJi
   have hL:((ins.length:Nat):Int)=L:=hL
   have Xf:cD.length<=gs.length+1040*i:=Xf
   have aA4:cD.length<=4280:=by omega
   have ar9:yt.length=p.a8.length:=by rw [Dg,b9]
   have asa:l.length=p.dZ.length:=by rw [YR,uh]
   have QL:fL L cD yt:=pB.mono Fi
   have Mz:fL L cD l:=hJ.n
   have Vf:=tY.mono Fi
   clear h0 h1 Lx IP FW oo Ly ahT
   cbv
   refine Sat.cf (Ve 2 2) 6 6 [] (λx:D3=>[(13,.i .i64 λ_=>(x.i:Int))]) (λx=>[(2,.fix 277 [.i .i64 (λ_=>(ins.length:Int)),.sl 5 dD (λ_=>x.gs),.own 3,.own 5,.sl 1 jc (λ_=>data),.i .i64 (λ_=>x.jg)])])
    (λx=>Xd L cD (p.a8.length+p.dZ.length) x) (λx=>p.a8.length+p.dZ.length - x.i) ⟨0,cD,1⟩ (by exact ao) (by exact ao) ⟨cN _,ahU,cR _,cR _,.one Dh.1⟩ ?_
   rintro ⟨i,w8,fi⟩ ⟨My,Xg,HZ,ahV,zM⟩
   simp only at My Xg HZ ahV zM
   have h0:=n0 i
   have h1:=cq (i:=i) (by omega)
   have af3:eD L w8:=⟨Xg,by omega,by omega⟩
   have PS:IntKind.i64.wrap ((p.a8.length:Int)+p.dZ.length)=((p.a8.length+p.dZ.length:Nat):Int):=by rw [cu (by omega) (by omega)];omega
   cbv
   refine ⟨λh=>?_,λh=>?_⟩
   ·have bt:i < p.a8.length+p.dZ.length:=by
     have h':aU i (IntKind.i64.wrap ((p.a8.length:Int)+p.dZ.length))=true:=h.out
     rw [PS] at h'
     simp [aU] at h'
     omega
    have bh:p.a8.length+p.dZ.length - (i+1) < p.a8.length+p.dZ.length - i:=by omega
    cbv
    refine ⟨λh=>?_,λh=>?_⟩
    ·have hit:i < p.a8.length:=bI
     have ahW:i < yt.length:=by omega
     refine (bD ahW).elim λdue hd=>?_
     have H4:cI L w8 due:=(QL due (cb hd)).mono HZ
     refine (JL ins w8 hL hi ⟨3,i,0⟩).elim λwv qq=>?_
     cbv
     refine ⟨⟨h0,ahW⟩,?_⟩
     cbv
     refine ⟨due,⟨hd,rfl⟩,?_⟩
     cbv
     refine bV.rel yW ⟨L,w8,due⟩ (by exact cP) ⟨af3,H4⟩ λz1 iS=>?_
     have iS:dU L w8 1 z1:=iS.out
     have a1:=iS.lo
     have a2:=iS.hi
     have QK:=qq.2.mono a1
     have VN:eD L z1.gs:=⟨iS.ok,by omega,by omega⟩
     cbv
     refine ⟨⟨ins,⟨3,i,0⟩⟩,⟨by exact aK,by show ins.length<=_;omega⟩,?_⟩
     cbv
     refine bV.rel Hx ⟨L,z1.gs,z1.n,wv⟩ (by have bg:=qq.1.symm;exact cP) ⟨VN,iS.n,QK,trivial⟩ λz2 iH=>?_
     have iH:dU L z1.gs 1 z2:=iH.out
     have a3:=iH.lo
     have a4:=iH.hi
     have VO:eD L z2.gs:=⟨iH.ok,by omega,by omega⟩
     have Xh:=zM.mono (vZ a1 a3)
     cbv
     refine bV.rel Cj ⟨L,z2.gs,fi,z2.n⟩ (by exact cP) ⟨VO,Xh,iH.n,trivial⟩ λz3 uD=>?_
     have uD:dU L z2.gs 1 z3:=uD.out
     have a5:=uD.lo
     have a6:=uD.hi
     have bB:Xd L cD (p.a8.length+p.dZ.length) ⟨i+1,z3.gs,z3.n⟩:=⟨bt,uD.ok,by show cD.length<=z3.gs.length;omega,by show z3.gs.length<=cD.length+3*(i+1);omega,uD.n⟩
     cbv
     exact ⟨⟨i+1,z3.gs,z3.n⟩,by have bg:=h1;exact bJ,by have bg:=hL.symm;exact bJ,⟨⟨bB,bh⟩⟩⟩
    ·have hit:¬i < p.a8.length:=bI
     refine (show ∃j:Nat,j=i - p.a8.length from ⟨_,rfl⟩).elim λj hj=>?_
     have mi:IntKind.i64.wrap ((i:Int) - p.a8.length)=(j:Int):=by rw [cu (by omega) (by omega)];omega
     have iN:0<=IntKind.i64.wrap ((i:Int) - p.a8.length):=by rw [mi];omega
     have er:(IntKind.i64.wrap ((i:Int) - p.a8.length)).toNat < l.length:=by rw [mi];omega
     refine (bD er).elim λdue hd=>?_
     have H4:cI L w8 due:=(Mz due (cb hd)).mono HZ
     refine (JL ins w8 hL hi ⟨4,IntKind.i64.wrap ((i:Int) - p.a8.length),0⟩).elim λwv qq=>?_
     cbv
     refine ⟨⟨iN,er⟩,?_⟩
     cbv
     refine ⟨due,⟨hd,rfl⟩,?_⟩
     cbv
     refine bV.rel yW ⟨L,w8,due⟩ (by exact cP) ⟨af3,H4⟩ λz1 iS=>?_
     have iS:dU L w8 1 z1:=iS.out
     have a1:=iS.lo
     have a2:=iS.hi
     have QK:=qq.2.mono a1
     have VN:eD L z1.gs:=⟨iS.ok,by omega,by omega⟩
     cbv
     refine ⟨⟨ins,⟨4,IntKind.i64.wrap ((i:Int) - p.a8.length),0⟩⟩,⟨by exact aK,by show ins.length<=_;omega⟩,?_⟩
     cbv
     refine bV.rel Hx ⟨L,z1.gs,z1.n,wv⟩ (by have bg:=qq.1.symm;exact cP) ⟨VN,iS.n,QK,trivial⟩ λz2 iH=>?_
     have iH:dU L z1.gs 1 z2:=iH.out
     have a3:=iH.lo
     have a4:=iH.hi
     have VO:eD L z2.gs:=⟨iH.ok,by omega,by omega⟩
     have Xh:=zM.mono (vZ a1 a3)
     cbv
     refine bV.rel Cj ⟨L,z2.gs,fi,z2.n⟩ (by exact cP) ⟨VO,Xh,iH.n,trivial⟩ λz3 uD=>?_
     have uD:dU L z2.gs 1 z3:=uD.out
     have a5:=uD.lo
     have a6:=uD.hi
     have bB:Xd L cD (p.a8.length+p.dZ.length) ⟨i+1,z3.gs,z3.n⟩:=⟨bt,uD.ok,by show cD.length<=z3.gs.length;omega,by show z3.gs.length<=cD.length+3*(i+1);omega,uD.n⟩
     cbv
     exact ⟨⟨i+1,z3.gs,z3.n⟩,by have bg:=h1;exact bJ,by have bg:=hL.symm;exact bJ,⟨⟨bB,bh⟩⟩⟩
   ·have QM:i=p.a8.length+p.dZ.length:=by
     have h':aU i (IntKind.i64.wrap ((p.a8.length:Int)+p.dZ.length))=false:=h.out
     rw [PS] at h'
     simp [aU] at h'
     omega
    have bX:EB L p ⟨w8,yt,l,data,fi⟩:=⟨Xg,by show w8.length<=6000;omega,ar9,QL.mono HZ,asa,Mz.mono HZ,(b9 ▸ Vf).mono HZ,zM⟩
    cbv
    refine .mk' ⟨w8,yt,l,data,fi⟩ ⟨by exact cP⟩ ?_
    have hL:((ins.length:Nat):Int)=L:=hL
    show EB ins.length p _
    rw [hL]
    exact bX
end Go.Proofs.Pk
