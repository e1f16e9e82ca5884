import Derived.Test.YthnhbemmlfaihaaGreatT19
import Derived.Test.YthnhbemmlfaihaaGreatT21
import Derived.Test.YthnhbemmlfaihaaGreatT29
set_option linter.unusedVariables false
set_option linter.unusedSimpArgs false
set_option maxRecDepth 10000
set_option maxHeartbeats 64000000
namespace Go.Proofs.Pk
open Go Go.Vc
theorem getM {A B:Type} {f:A->B} {l:List A} {i:Nat} {w:B} (h:(l.map f)[i]?=some w):∃r,l[i]?=some r/\f r=w:=by
 rw [mM] at h
 cases hl:l[i]? with
 | none=>rw [hl] at h;cases h
 | some r=>rw [hl] at h;exact ⟨r,rfl,by simpa using h⟩
theorem acY {p:ry} (h:qY p) (b:Bool):VW (nS p b) where
 aN:=λw hw=>by
  obtain ⟨r,hr,rfl⟩:=j3.1 hw
  have:=h.aN.2 r hr
  exact ⟨this.1,by omega⟩
 aZ:=λw hw=>by
  obtain ⟨r,hr,rfl⟩:=j3.1 hw
  have:=h.aZ.2 r hr
  exact ⟨this.1,by omega⟩
 bd:=λm hm=>by
  obtain ⟨r,hr,rfl⟩:=j3.1 hm
  have:=h.bd.2 r hr
  exact ⟨this.1,by show r.w<=8;omega⟩
theorem nB.up1 {sc:Sc} {n:Nat}:∀{ws:List Int} {es:List Expr},nB sc n ws es->∀(j:Nat) (e:Expr),es[j]?=some e->∃w,WT sc n w e:=λh j e he=>by
 obtain ⟨w,_,h⟩:=h.get j e he
 exact ⟨w,h⟩
theorem OZ {sc:Sc}:∀(n:Nat) {w:Int} {e:Expr},WT sc (n+1) w e->Le (cA n e) (cA (n+1) e)
 | 0,w,e,h=>by
  obtain ⟨ws,dx⟩:=h.args
  refine Le.di ?_ λx=>⟨trivial,trivial,trivial,trivial,trivial,trivial,Ce 0 x,trivial⟩
  show e.args=[]
  cases he:e.args with
  | nil=>rfl
  | cons x l =>
   obtain ⟨w,hw⟩:=dx.up1 0 x (by rw [he];rfl)
   cases hw
 | n+1,w,e,h=>by
  obtain ⟨ws,dx⟩:=h.args
  refine Le.Xd rfl (λx=>⟨trivial,trivial,trivial,trivial,trivial,trivial,Ce (n+1) x,trivial⟩) λj x y hx hy=>?_
  have hx:e.args[j]?=some x:=hx
  have hy:e.args[j]?=some y:=hy
  rw [hx] at hy
  cases hy
  obtain ⟨w,hw⟩:=dx.up1 j x hx
  exact .cons (.refl _) (.cons (.refl _) (.cons (.refl _) (.cons (.refl _) (.cons (.refl _) (.cons (.refl _) (.cons (OZ n hw) .nil))))))
structure xl (ins:Int) (gs:List Gate) (tl:List Take) (i:Nat) (data:List (List Int)):Prop where
 len:data.length=i
 w:∀(j:Nat) (t:Take) (d:List Int),tl[j]?=some t->data[j]?=some d->d.length=t.w.toNat
 ok:∀d∈data,fE ins gs d
theorem xl.nil (ins:Int) (gs:List Gate) (tl:List Take):xl ins gs tl 0 []:=⟨rfl,λj t d _ h=>by simp at h,λd h=>by simp at h⟩
theorem xl.mono {ins:Int} {gs cu:List Gate} {tl:List Take} {i:Nat} {data:List (List Int)} (h:xl ins gs tl i data) (hl:gs.length<=cu.length):xl ins cu tl i data:=⟨h.len,h.w,λd hd=>(h.ok d hd).mono hl⟩
theorem xl.add {ins:Int} {gs:List Gate} {tl:List Take} {i:Nat} {data:List (List Int)} (h:xl ins gs tl i data) {t:Take} (ht:tl[i]?=some t) {d:List Int} (hd:d.length=t.w.toNat) (hn:fE ins gs d):xl ins gs tl (i+1) (data++[d]):=by
 refine ⟨by simp [h.len],λj u e hu he=>?_,λe he=>?_⟩
 ·by_cases hj:j < data.length
  ·rw [nJ hj] at he
   exact h.w j u e hu he
  ·rw [uA (by omega)] at he
   have iG:j - data.length=0:=by
    have:=(bX.1 he).1
    simp at this;omega
   rw [iG] at he
   simp at he
   have nC:j=i:=by have:=h.len;omega
   rw [nC,ht] at hu
   cases hu
   rw [<-he];exact hd
 ·rcases List.mem_append.1 he with he|he
  ·exact h.ok e he
  ·simp at he;rw [he];exact hn
theorem Pa {p:ry} (h:qY p) {ins:List bT} (hi:ins.length<=100) {b:Bool} {I:Int} {gs:List Gate} {data:List (List Int)} (hd:b=true->xl I gs p.aZ p.aZ.length data):agN (nS p b) p ins data where
 ok:=acY h b
 ins:=hi
 aN:=λi w hw=>getM hw
 bd:=λi w v hw=>by
  obtain ⟨r,hr,he⟩:=getM hw
  have hl:=(bX.1 hr).1
  have:=h.bd.1
  cases he
  exact ⟨by omega,r,hr,rfl,rfl⟩
 data:=λhb i w hw=>by
  obtain ⟨r,hr,he⟩:=getM hw
  have hl:=(bX.1 hr).1
  have hD:=hd hb
  have hlen:=hD.len
  obtain ⟨d,sY⟩:=bz (l:=data) (i:=i) (by omega)
  exact ⟨d,sY,by rw [hD.w i r d hr sY,he]⟩
structure DU where
 gs:List Gate
 aZ:List Int
 dX:List Int
 data:List (List Int)
 iY:Int
structure En (ins:Int) (p:ry) (y:DU):Prop where
 ok:kK ins y.gs
 dH:y.gs.length<=6000
 tl:y.aZ.length=p.aZ.length
 tn:fE ins y.gs y.aZ
 pl:y.dX.length=p.dX.length
 pn:fE ins y.gs y.dX
 data:xl ins y.gs p.aZ p.aZ.length y.data
 iY:cH ins y.gs y.iY
structure PI where
 p:ry
 ins:List bT
@[reducible] noncomputable def aq4:fJ where
 α:=PI
 args x:=[.agg (yQ 2 x.p),.sl 3 dc (λ_=>x.ins)]
 pre x:=qY x.p/\x.ins.length<=100
 β:=DU
 post x y:=En x.ins.length x.p y
 res x y:=.agg [.i .i64 (λ_=>x.ins.length),.sl 5 dB (λ_=>y.gs),.sl 1 bJ (λ_=>y.aZ),.sl 1 bJ (λ_=>y.dX),.sl 1 iV (λ_=>y.data),.i .i64 (λ_=>y.iY)]
structure D1 where
 i:Nat
 gs:List Gate
 aZ:List Int
 data:List (List Int)
structure agX (ins:Int) (tl:List Take) (x:D1):Prop where
 i:x.i<=tl.length
 ok:kK ins x.gs
 dH:x.gs.length<=1100*x.i
 azR:x.aZ.length=x.i
 tn:fE ins x.gs x.aZ
 data:xl ins x.gs tl x.i x.data
structure D3 where
 i:Nat
 gs:List Gate
 iY:Int
structure Wi (ins:Int) (gs:List Gate) (n:Nat) (x:D3):Prop where
 i:x.i<=n
 ok:kK ins x.gs
 lo:gs.length<=x.gs.length
 hi:x.gs.length<=gs.length+3*x.i
 iY:cH ins x.gs x.iY
noncomputable def cDu (n m:Nat):Ctx:=fl n m [(162,Tryz.f162),(160,Tryz.f160),(223,Tryz.f223),(224,Tryz.f224)] [(222,Ki)] [162,160,223,224] [] [15]
theorem U5 (n m:Nat):CB PP (cDu n m):=fy n m ⟨fo Tryz.func162,fo Tryz.func160,fo Tryz.func223,fo Tryz.func224,trivial⟩ ⟨N2,trivial⟩
noncomputable def atn (n m:Nat):Ctx:=fl n m [(162,Tryz.f162),(160,Tryz.f160),(223,Tryz.f223),(224,Tryz.f224)] [(222,Ki)] [162,160,223,224]
theorem Uv (n m:Nat):CB PP (atn n m):=fy n m ⟨fo Tryz.func162,fo Tryz.func160,fo Tryz.func223,fo Tryz.func224,trivial⟩ ⟨N2,trivial⟩
theorem aou:eI PP 158 aq4:=by
 refine iI (U5 2 2) (fo Tryz.func158) (λa=>⟨Gz 2 a.p,(λx=>(gL x).1),trivial⟩) (λa y=>⟨trivial,(λx=>(eK x).1),(λx=>(cM x).1),(λx=>(cM x).1),(λx=>(pK x).1),trivial,trivial⟩) ?_
 rintro ⟨p,ins⟩ hx
 obtain ⟨hp,hi⟩:qY p/\ins.length<=100:=hx
 obtain ⟨L,hL⟩:∃L:Int,(ins.length:Int)=L:=⟨_,rfl⟩
 have zo:0<=L/\L<=100:=by omega
 have wE:p.aZ.length<=2:=hp.aZ.1
 have sW:p.dX.length<=2:=hp.dX.1
 have FD:∀(i:Nat) (r:Take),p.aZ[i]?=some r->1<=r.w/\r.w<=2/\WT (nS p false) 3 1 r.cond:=λi r h=>hp.aZ.2 r (b_ h)
 have Io:∀(i:Nat) (r:rC),p.dX[i]?=some r->WT (nS p true) 3 1 r.cond:=λi r h=>(hp.dX.2 r (b_ h)).2.2.1
 have nZ:=Pa hp hi (b:=false) (I:=L) (gs:=[]) (data:=[]) (λh=>by cases h)
 have K5:=λgs data=>Pa hp hi (b:=true) (I:=L) (gs:=gs) (data:=data)
 obtain ⟨sf,hsf⟩:∃sf,sf=nS p false:=⟨_,rfl⟩
 obtain ⟨st,cG⟩:∃st,st=nS p true:=⟨_,rfl⟩
 rw [<-hsf] at FD nZ
 rw [<-cG] at Io K5
 refine ⟨?_⟩
 cbv
 refine Sat.iz 2 2 3 1 nN cM rfl rfl ?_
 refine Sat.iz 2 4 35 1 TP pK rfl rfl ?_
 refine Sat.ca (U5 2 2) 5 6 [(.c 2 2,3),(.c 2 4,4)] (λx:D1=>[(6,.i .i64 λ_=>(x.i:Int))]) (λx=>[(2,.fix 277 [.i .i64 (λ_=>(ins.length:Int)),.sl 5 dB (λ_=>x.gs),.own 3,.di,.own 4,.ic .i64 1]),(3,.dyn 3 1 bJ λ_=>x.aZ),(4,.dyn 35 1 iV λ_=>x.data)])
  (λx=>agX L p.aZ x) (λx=>p.aZ.length - x.i) ⟨0,[],[],[]⟩ (by exact ao) (by exact ao) ⟨cJ _,.nil _,cP _,rfl,.nil _ _,.nil _ _ _⟩ ?_
 rintro ⟨i,gs,x_,data⟩ ⟨mC,cq,oA,CZ,qF,tD⟩
 simp only at mC cq oA CZ qF tD
 have h0:=n0 i
 have h1:=cd (i:=i) (by omega)
 cbv
 refine ⟨λh=>?_,λh=>?_⟩
 ·have bp:i < p.aZ.length:=bE
  have a7:p.aZ.length - (i+1) < p.aZ.length - i:=by omega
  refine (bz bp).elim λr hr=>?_
  have hw:=FD i r hr
  have gu:Room L gs (KB 3):=⟨cq,by omega,by show _+1040<=_;omega⟩
  cbv
  refine ⟨r,⟨h0,hr⟩,?_⟩
  cbv
  have hL:((ins.length:Nat):Int)=L:=hL
  refine bU.rel (Ec 2 3) ⟨p,ins,[],gs,r.cond,sf,1⟩ (by have A6:=hw.2.2;exact dv) ⟨nZ,(by show Room ins.length gs (KB 3);rw [hL];exact gu),λd hd=>(by cases hd),hw.2.2⟩ λy hy=>?_
  have hy:lC L gs 1040 1 y:=hL ▸ hy.out
  have HB:=hy.lo
  have Wf:=hy.hi
  have U6:=hy.len
  refine (bz (l:=y.l) (i:=0) (by omega)).elim λd hd=>?_
  have X1:cH L y.gs d:=hy.n d (b_ hd)
  have Wj:=hy.ok
  have Uw:=tD.mono HB
  have PX:fE L y.gs x_:=qF.mono HB
  cbv
  refine ⟨d,⟨jI _,hd⟩,?_⟩
  cbv
  refine ⟨[d],⟨by exact aJ,by show (x_.length+1)*8<=_;omega,by show x_.length+1<=_;omega⟩,?_⟩
  cbv
  refine Sat.ca (U5 2 2) 9 8 [(.t 8,8)] (λx:LG=>[(8,.own 8),(9,.i .i64 λ_=>(x.i:Int))]) (λx=>[(2,.fix 277 [.i .i64 (λ_=>(ins.length:Int)),.sl 5 dB (λ_=>x.gs),.own 7,.di,.own 4,.ic .i64 1]),(8,.dyn 3 1 bJ λ_=>x.l)])
   (λx=>mh L y.gs 1 r.w.toNat x) (λx=>r.w.toNat - x.i) ⟨0,y.gs,[]⟩ (by exact ao) (by exact ao) (mh.nil Wj) ?_
  rintro ⟨k,cC,l⟩ hJ
  have hJ:mh L y.gs 1 r.w.toNat ⟨k,cC,l⟩:=hJ
  have hJi:k<=r.w.toNat:=hJ.i
  have E4:y.gs.length<=cC.length:=hJ.lo
  have Wk:cC.length<=y.gs.length+1*k:=hJ.hi
  have X3:l.length=k:=hJ.len
  have tL:eu L cC:=⟨hJ.ok,by omega,by omega⟩
  have gK:=n0 k
  have eT:=cd (i:=k) (by omega)
  have K6:=X1.mono E4
  have hL:((ins.length:Nat):Int)=L:=hL
  refine (Jl ins cC hL hi ⟨2,i,k⟩).elim λwv p7=>?_
  have XT:=hw.1
  have s7:=hw.2.1
  cbv
  refine ⟨r,⟨h0,hr⟩,?_⟩
  cbv
  refine ⟨λh=>?_,λh=>?_⟩
  ·have cW:(k:Int) < r.w:=bE
   have k6:r.w.toNat - (k+1) < r.w.toNat - k:=by omega
   have ato:k < r.w.toNat:=by omega
   cbv
   refine ⟨d,⟨jI _,hd⟩,?_⟩
   cbv
   refine ⟨⟨ins,⟨2,i,k⟩⟩,⟨by exact aJ,by show ins.length<=_;omega⟩,?_⟩
   cbv
   refine bU.rel B4 ⟨L,cC,d,wv⟩ (by have bj:=p7.1.symm;exact cN) ⟨tL,K6,p7.2,trivial⟩ λz hz=>?_
   have hz:dR L cC 1 z:=hz.out
   have bw:=hJ.add ato hz
   cbv
   refine ⟨[z.n],⟨by exact aJ,by show (l.length+1)*8<=_;omega,by show l.length+1<=_;omega⟩,?_⟩
   cbv
   exact ⟨⟨k+1,z.gs,l++[z.n]⟩,by have bj:=eT;exact bH,by have bj:=hL.symm;exact bH,⟨⟨bw,k6⟩⟩⟩
  ·have cW:¬(k:Int) < r.w:=bE
   have CV:k=r.w.toNat:=by omega
   have bw:agX L p.aZ ⟨i+1,cC,x_++[d],data++[l]⟩:=⟨bp,hJ.ok,by show cC.length<=1100*(i+1);omega,by show (x_++[d]).length=i+1;simp [CZ],(PX.mono E4).add K6,(Uw.mono E4).add hr (by rw [X3,CV]) hJ.n⟩
   cbv
   refine Sat.freeze 8 rfl rfl ?_
   refine Sat.tZ (Uv 2 2) ?_
   cbv
   refine ⟨[l],⟨by exact aJ,by show (data.length+1)*24<=_;rw [tD.len];omega,by show data.length+1<=_;rw [tD.len];omega⟩,?_⟩
   cbv
   exact ⟨⟨i+1,cC,x_++[d],data++[l]⟩,by have bj:=h1;exact bH,by exact ao,⟨⟨bw,a7⟩⟩⟩
 ·have bR:i=p.aZ.length:=tx h.out mC
  have hL:((ins.length:Nat):Int)=L:=hL
  have K5:=K5 gs data λ_=>bR ▸ tD
  have agY:=tD.ok
  have azr:gs.length<=2200:=by omega
  clear h0 h1
  cbv
  refine Sat.freeze 4 rfl rfl ?_
  refine Sat.iz 2 3 3 1 nN cM rfl rfl ?_
  refine Sat.ca (Uv 2 2) 6 6 [(.c 2 3,5)] (λx:LG=>[(11,.i .i64 λ_=>(x.i:Int))]) (λx=>[(2,.fix 277 [.i .i64 (λ_=>(ins.length:Int)),.sl 5 dB (λ_=>x.gs),.own 3,.own 5,.sl 1 iV (λ_=>data),.ic .i64 1]),(5,.dyn 3 1 bJ λ_=>x.l)])
   (λx=>mh L gs 1040 p.dX.length x) (λx=>p.dX.length - x.i) ⟨0,gs,[]⟩ (by exact ao) (by exact ao) (mh.nil cq) ?_
  rintro ⟨i,cC,l⟩ hJ
  have hJ:mh L gs 1040 p.dX.length ⟨i,cC,l⟩:=hJ
  have hJi:i<=p.dX.length:=hJ.i
  have E4:gs.length<=cC.length:=hJ.lo
  have Wk:cC.length<=gs.length+1040*i:=hJ.hi
  have X3:l.length=i:=hJ.len
  have agZ:kK L cC:=hJ.ok
  have h0:=n0 i
  have h1:=cd (i:=i) (by omega)
  have K6:∀d∈data,fE L cC d:=λd hd=>(agY d hd).mono E4
  cbv
  refine ⟨λh=>?_,λh=>?_⟩
  ·have bp:i < p.dX.length:=bE
   have a7:p.dX.length - (i+1) < p.dX.length - i:=by omega
   refine (bz bp).elim λr hr=>?_
   have hw:=Io i r hr
   have gu:Room L cC (KB 3):=⟨agZ,by omega,by show _+1040<=_;omega⟩
   cbv
   refine ⟨r,⟨h0,hr⟩,?_⟩
   cbv
   have hL:((ins.length:Nat):Int)=L:=hL
   refine bU.rel (Ec 2 3) ⟨p,ins,data,cC,r.cond,st,1⟩ (by have A6:=hw;exact dv) ⟨K5,(by show Room ins.length cC (KB 3);rw [hL];exact gu),λd hd=>(by show fE ins.length cC d;rw [hL];exact K6 d hd),hw⟩ λy hy=>?_
   have hy:lC L cC 1040 1 y:=hL ▸ hy.out
   have U6:=hy.len
   refine (bz (l:=y.l) (i:=0) (by omega)).elim λd hd=>?_
   have bw:=hJ.add (y:=⟨y.gs,d⟩) bp ⟨hy.ok,hy.lo,hy.hi,hy.n d (b_ hd)⟩
   cbv
   refine ⟨d,⟨jI _,hd⟩,?_⟩
   cbv
   refine ⟨[d],⟨by exact aJ,by show (l.length+1)*8<=_;omega,by show l.length+1<=_;omega⟩,?_⟩
   cbv
   exact ⟨⟨i+1,y.gs,l++[d]⟩,by have bj:=h1;exact bH,by exact ao,⟨⟨bw,a7⟩⟩⟩
  ·have tM:i=p.dX.length:=tx h.out hJi
   have hL:((ins.length:Nat):Int)=L:=hL
   have Wk:cC.length<=gs.length+1040*i:=Wk
   have azs:cC.length<=4280:=by omega
   have aq5:x_.length=p.aZ.length:=by rw [CZ,bR]
   have aq6:l.length=p.dX.length:=by rw [X3,tM]
   have PX:fE L cC x_:=qF.mono E4
   have L6:fE L cC l:=hJ.n
   have Uw:=tD.mono E4
   clear h0 h1 K5 Io FD nZ K6 agY
   cbv
   refine Sat.ca (Uv 2 2) 6 6 [] (λx:D3=>[(13,.i .i64 λ_=>(x.i:Int))]) (λx=>[(2,.fix 277 [.i .i64 (λ_=>(ins.length:Int)),.sl 5 dB (λ_=>x.gs),.own 3,.own 5,.sl 1 iV (λ_=>data),.i .i64 (λ_=>x.iY)])])
    (λx=>Wi L cC (p.aZ.length+p.dX.length) x) (λx=>p.aZ.length+p.dX.length - x.i) ⟨0,cC,1⟩ (by exact ao) (by exact ao) ⟨cJ _,agZ,cP _,cP _,.one zo.1⟩ ?_
   rintro ⟨i,wF,fi⟩ ⟨L4,Wl,HD,ag0,zw⟩
   simp only at L4 Wl HD ag0 zw
   have h0:=n0 i
   have h1:=cd (i:=i) (by omega)
   have ae9:eu L wF:=⟨Wl,by omega,by omega⟩
   have O2:IntKind.i64.wrap ((p.aZ.length:Int)+p.dX.length)=((p.aZ.length+p.dX.length:Nat):Int):=by rw [cz (by omega) (by omega)];omega
   cbv
   refine ⟨λh=>?_,λh=>?_⟩
   ·have bp:i < p.aZ.length+p.dX.length:=by
     have h':aS i (IntKind.i64.wrap ((p.aZ.length:Int)+p.dX.length))=true:=h.out
     rw [O2] at h'
     simp [aS] at h'
     omega
    have a7:p.aZ.length+p.dX.length - (i+1) < p.aZ.length+p.dX.length - i:=by omega
    cbv
    refine ⟨λh=>?_,λh=>?_⟩
    ·have hit:i < p.aZ.length:=bE
     have ag1:i < x_.length:=by omega
     refine (bz ag1).elim λdue hd=>?_
     have HE:cH L wF due:=(PX due (b_ hd)).mono HD
     refine (Jl ins wF hL hi ⟨3,i,0⟩).elim λwv p7=>?_
     cbv
     refine ⟨⟨h0,ag1⟩,?_⟩
     cbv
     refine ⟨due,⟨hd,rfl⟩,?_⟩
     cbv
     refine bU.rel yH ⟨L,wF,due⟩ (by exact cN) ⟨ae9,HE⟩ λz1 iL=>?_
     have iL:dR L wF 1 z1:=iL.out
     have a1:=iL.lo
     have a2:=iL.hi
     have PW:=p7.2.mono a1
     have U7:eu L z1.gs:=⟨iL.ok,by omega,by omega⟩
     cbv
     refine ⟨⟨ins,⟨3,i,0⟩⟩,⟨by exact aJ,by show ins.length<=_;omega⟩,?_⟩
     cbv
     refine bU.rel G_ ⟨L,z1.gs,z1.n,wv⟩ (by have bj:=p7.1.symm;exact cN) ⟨U7,iL.n,PW,trivial⟩ λz2 iB=>?_
     have iB:dR L z1.gs 1 z2:=iB.out
     have a3:=iB.lo
     have a4:=iB.hi
     have U8:eu L z2.gs:=⟨iB.ok,by omega,by omega⟩
     have Wm:=zw.mono (vD a1 a3)
     cbv
     refine bU.rel B4 ⟨L,z2.gs,fi,z2.n⟩ (by exact cN) ⟨U8,Wm,iB.n,trivial⟩ λz3 ud=>?_
     have ud:dR L z2.gs 1 z3:=ud.out
     have a5:=ud.lo
     have a6:=ud.hi
     have bw:Wi L cC (p.aZ.length+p.dX.length) ⟨i+1,z3.gs,z3.n⟩:=⟨bp,ud.ok,by show cC.length<=z3.gs.length;omega,by show z3.gs.length<=cC.length+3*(i+1);omega,ud.n⟩
     cbv
     exact ⟨⟨i+1,z3.gs,z3.n⟩,by have bj:=h1;exact bH,by have bj:=hL.symm;exact bH,⟨⟨bw,a7⟩⟩⟩
    ·have hit:¬i < p.aZ.length:=bE
     refine (show ∃j:Nat,j=i - p.aZ.length from ⟨_,rfl⟩).elim λj hj=>?_
     have lX:IntKind.i64.wrap ((i:Int) - p.aZ.length)=(j:Int):=by rw [cz (by omega) (by omega)];omega
     have iG:0<=IntKind.i64.wrap ((i:Int) - p.aZ.length):=by rw [lX];omega
     have eA:(IntKind.i64.wrap ((i:Int) - p.aZ.length)).toNat < l.length:=by rw [lX];omega
     refine (bz eA).elim λdue hd=>?_
     have HE:cH L wF due:=(L6 due (b_ hd)).mono HD
     refine (Jl ins wF hL hi ⟨4,IntKind.i64.wrap ((i:Int) - p.aZ.length),0⟩).elim λwv p7=>?_
     cbv
     refine ⟨⟨iG,eA⟩,?_⟩
     cbv
     refine ⟨due,⟨hd,rfl⟩,?_⟩
     cbv
     refine bU.rel yH ⟨L,wF,due⟩ (by exact cN) ⟨ae9,HE⟩ λz1 iL=>?_
     have iL:dR L wF 1 z1:=iL.out
     have a1:=iL.lo
     have a2:=iL.hi
     have PW:=p7.2.mono a1
     have U7:eu L z1.gs:=⟨iL.ok,by omega,by omega⟩
     cbv
     refine ⟨⟨ins,⟨4,IntKind.i64.wrap ((i:Int) - p.aZ.length),0⟩⟩,⟨by exact aJ,by show ins.length<=_;omega⟩,?_⟩
     cbv
     refine bU.rel G_ ⟨L,z1.gs,z1.n,wv⟩ (by have bj:=p7.1.symm;exact cN) ⟨U7,iL.n,PW,trivial⟩ λz2 iB=>?_
     have iB:dR L z1.gs 1 z2:=iB.out
     have a3:=iB.lo
     have a4:=iB.hi
     have U8:eu L z2.gs:=⟨iB.ok,by omega,by omega⟩
     have Wm:=zw.mono (vD a1 a3)
     cbv
     refine bU.rel B4 ⟨L,z2.gs,fi,z2.n⟩ (by exact cN) ⟨U8,Wm,iB.n,trivial⟩ λz3 ud=>?_
     have ud:dR L z2.gs 1 z3:=ud.out
     have a5:=ud.lo
     have a6:=ud.hi
     have bw:Wi L cC (p.aZ.length+p.dX.length) ⟨i+1,z3.gs,z3.n⟩:=⟨bp,ud.ok,by show cC.length<=z3.gs.length;omega,by show z3.gs.length<=cC.length+3*(i+1);omega,ud.n⟩
     cbv
     exact ⟨⟨i+1,z3.gs,z3.n⟩,by have bj:=h1;exact bH,by have bj:=hL.symm;exact bH,⟨⟨bw,a7⟩⟩⟩
   ·have PY:i=p.aZ.length+p.dX.length:=by
     have h':aS i (IntKind.i64.wrap ((p.aZ.length:Int)+p.dX.length))=false:=h.out
     rw [O2] at h'
     simp [aS] at h'
     omega
    have bV:En L p ⟨wF,x_,l,data,fi⟩:=⟨Wl,by show wF.length<=6000;omega,aq5,PX.mono HD,aq6,L6.mono HD,(bR ▸ Uw).mono HD,zw⟩
    cbv
    refine .mk' ⟨wF,x_,l,data,fi⟩ ⟨by exact cN⟩ ?_
    have hL:((ins.length:Nat):Int)=L:=hL
    show En ins.length p _
    rw [hL]
    exact bV
structure OW where
 ins:Int
 gs:List Gate
 out:List bT
 ay:List Int
 w:bT
 cC:List Gate
 n:Int
@[reducible] noncomputable def aq7:mP where
 α:=OW
 args x:=[.agg [.i .i64 (λ_=>x.ins),.sl 5 dB (λ_=>x.gs),.own 0,.own 1],.agg (dc x.w),.agg [.i .i64 (λ_=>x.ins),.sl 5 dB (λ_=>x.cC),.i .i64 (λ_=>x.n)]]
 io x:=[.dyn 133 3 dc (λ_=>x.out),.dyn 3 1 bJ (λ_=>x.ay)]
 pre x:=x.out.length<=1000000/\x.ay.length<=1000000
 β:=Unit
 post x y:=True
 mv:=[0,1]
 res x y:=.agg [.i .i64 (λ_=>x.ins),.sl 5 dB (λ_=>x.cC),.own 0,.own 1]
 j8 x y:=[.dyn 133 3 dc (λ_=>x.out++[x.w]),.dyn 3 1 bJ (λ_=>x.ay++[x.n])]
noncomputable def atp (n m:Nat):Ctx:=fl n m [] []
theorem apE (n m:Nat):CB PP (atp n m):=fy n m trivial trivial
theorem Ed:iC PP 161 aq7:=by
 refine mA (apE 2 2) (fo Tryz.func161) (λa y=>rfl) (λa=>⟨rfl,rfl⟩) (by show ([0,1]:List Nat).Nodup;decide) ?_
 rintro ⟨I,gs,out,ay,w,cC,n⟩ hx
 obtain ⟨h1,h2⟩:out.length<=1000000/\ay.length<=1000000:=hx
 refine ⟨?_⟩
 cbv
 refine ⟨[w],⟨by exact aJ,by show (out.length+1)*24<=_;omega,by show out.length+1<=_;omega⟩,?_⟩
 cbv
 refine ⟨[n],⟨by exact aJ,by show (ay.length+1)*8<=_;omega,by show ay.length+1<=_;omega⟩,?_⟩
 cbv
 refine ⟨(),[],[(.c 5 2,0),(.c 5 3,1)],?_,by exact ao,⟨trivial⟩⟩
 cbv
 exact ⟨by exact aJ,trivial⟩
def kX (ins:Int) (gs:List Gate) (g:Gate):pU:=match gs.findIdx? (λx=>decide (x=g)) with
 | some i=>⟨gs,2+ins+i⟩
 | none=>⟨gs++[g],2+ins+gs.length⟩
theorem NN {ins:Int} {gs:List Gate} {g:Gate} (hb:eu ins gs) (hg:tA (2+ins+gs.length) g):dR ins gs 1 (kX ins gs g):=by
 have hi:=hb.ins
 unfold kX
 split
 ·rename_i i h
  have hl:=(DM.1 h).1
  exact ⟨hb.ok,cP _,By _,by show 0<=2+ins+(i:Int);omega,by show 2+ins+(i:Int) < 2+ins+gs.length;omega⟩
 ·exact ⟨hb.ok.add hg,by simp,by simp,by show 0<=2+ins+(gs.length:Int);omega,by show 2+ins+(gs.length:Int) < 2+ins+(gs++[g]).length;rw [fZ];simp only [nK];omega⟩
@[reducible] noncomputable def Eo:Vc.Spec where
 α:=BG
 args x:=[.agg [.i .i64 (λ_=>x.ins),.sl 5 dB (λ_=>x.gs)],.agg (dB x.g)]
 pre x:=eu x.ins x.gs/\tA (2+x.ins+x.gs.length) x.g
 res x:=.agg [.i .i64 (λ_=>x.ins),.sl 5 dB (λ_=>(kX x.ins x.gs x.g).gs),.i .i64 (λ_=>(kX x.ins x.gs x.g).n)]
theorem GD:cS (PP ()) 227 Eo:=by
 refine dP (iJ 0 0) (fo Tryz.func227) (λa=>⟨⟨trivial,(λx=>(eK x).1),trivial⟩,(eK a.g).1,trivial⟩) (λa=>⟨trivial,(λx=>(eK x).1),trivial,trivial⟩) ?_
 rintro ⟨ins,gs,g⟩ hx
 obtain ⟨⟨cq,hi,hl⟩,hg⟩:eu ins gs/\tA (2+ins+gs.length) g:=hx
 refine ⟨?_⟩
 cbv
 refine Sat.ca (iJ 0 0) 3 5 [] (λi:Nat=>[(5,.i .i64 λ_=>(i:Int))]) (λ_=>[]) (λi=>i<=gs.length/\∀j,j < i->gs[j]?≠some g) (λi=>gs.length - i) 0 (by exact ao) (by exact ao) ⟨by omega,λj hj=>by omega⟩ ?_
 rintro i ⟨mC,et⟩
 cbv
 refine ⟨λh=>?_,λh=>?_⟩
 ·(have h:=h.out;simp (disch:=exact aU) only [hS] at h)
  have aR:i < gs.length:=by exact aU
  have a7:gs.length - (i+1) < gs.length - i:=by omega
  obtain ⟨x,hx⟩:=bz aR
  have h1:=cd (i:=i) (by omega)
  have h0:=n0 i
  have hr:IntKind.i64.wrap (IntKind.i64.wrap (2+ins)+(i:Int))=2+ins+i:=by simp (disch:=exact aU) only [cz]
  cbv
  refine ⟨x,⟨h0,hx⟩,?_⟩
  cbv
  refine ⟨λh=>?_,λh=>?_⟩
  ·have h:=h.out
   have e:x=g:=by simp [aV] at h;cases x;cases g;simp at h ⊢;omega
   have hw:kX ins gs g=⟨gs,2+ins+i⟩:=by
    unfold kX
    have:gs.findIdx? (λx=>decide (x=g))=some i:=by
     rw [DM]
     refine ⟨aR,by rw [eh aR] at hx;simp at hx;simp [hx,e],λj hj=>?_⟩
     have:=et j hj
     rw [eh (by omega)] at this
     simpa using this
    rw [this]
   have e1:gs=(kX ins gs g).gs:=by rw [hw]
   have e2:IntKind.i64.wrap (IntKind.i64.wrap (2+ins)+(i:Int))=(kX ins gs g).n:=by rw [hw,hr]
   cbv
   exact ⟨by have dG:=e1;have bj:=e2;exact dv⟩
  ·have h:=h.out
   have e:x≠g:=by rintro rfl;simp [aV] at h
   cbv
   exact ⟨i+1,by have bj:=h1;exact bH,by exact ao,⟨⟨aR,λj hj=>by
    by_cases nC:j=i
    ·subst nC;rw [hx];simpa using e
    ·exact et j (by omega)⟩,a7⟩⟩
 ·(have h:=h.out;simp (disch:=exact aU) only [hS] at h)
  have bR:i=gs.length:=by exact aU
  have hr:IntKind.i64.wrap (IntKind.i64.wrap (1+ins)+((([]++gs)++[g]).length:Int))=2+ins+gs.length:=by simp only [kQ,fZ,nK];simp (disch:=exact aU) only [cz];exact aU
  have hw:kX ins gs g=⟨gs++[g],2+ins+gs.length⟩:=by
   unfold kX
   have:gs.findIdx? (λx=>decide (x=g))=none:=by
    rw [Jq]
    intro x hx
    obtain ⟨j,hj,e⟩:=z8.1 hx
    have:=et j (by omega)
    rw [eh hj,e] at this
    simpa using this
   rw [this]
  have e1:([]++gs)++[g]=(kX ins gs g).gs:=by rw [hw];rfl
  have e2:IntKind.i64.wrap (IntKind.i64.wrap (1+ins)+((([]++gs)++[g]).length:Int))=(kX ins gs g).n:=by rw [hw,hr]
  cbv
  refine ⟨gs,⟨by exact aJ,by show (0+gs.length)*40<=_;omega,by show 0+gs.length<=_;omega⟩,?_⟩
  cbv
  refine ⟨[g],⟨by exact aJ,by show (([]++gs:List Gate).length+1)*40<=_;rw [kQ];omega,by show ([]++gs:List Gate).length+1<=_;rw [kQ];omega⟩,?_⟩
  cbv
  exact ⟨by have dG:=e1;have bj:=e2;exact dv⟩
def xF (ins:Int) (gs:List Gate) (x y:Int):Bool:=aV (lO ins gs x) y||aV (lO ins gs y) x
@[reducible] noncomputable def Kl:Vc.Spec where
 α:=BN × Int
 args x:=[.agg [.i .i64 (λ_=>x.1.ins),.sl 5 dB (λ_=>x.1.gs)],.i .i64 (λ_=>x.1.n),.i .i64 (λ_=>x.2)]
 pre x:=eu x.1.ins x.1.gs/\cH x.1.ins x.1.gs x.1.n/\cH x.1.ins x.1.gs x.2
 res x:=.b (λ_=>xF x.1.ins x.1.gs x.1.n x.2)
theorem N4:cS (PP ()) 226 Kl:=by
 refine dP (aeU 0 0) (fo Tryz.func226) (λa=>⟨⟨trivial,(λx=>(eK x).1),trivial⟩,trivial,trivial,trivial⟩) (λa=>trivial) ?_
 rintro ⟨⟨ins,gs,n⟩,m⟩ hx
 obtain ⟨hb,hn,hm⟩:eu ins gs/\cH ins gs n/\cH ins gs m:=hx
 refine ⟨?_⟩
 cbv
 refine ⟨⟨ins,gs,n⟩,⟨by exact aJ,hb,hn⟩,?_⟩
 cbv
 refine ⟨λh=>?_,λh=>?_⟩
 ·have h1:aV (lO ins gs n) m=true:=h.out
  have h2:true=xF ins gs n m:=by unfold xF;rw [h1];rfl
  cbv
  exact ⟨by have Ia:=h2;exact dv⟩
 ·have h1:aV (lO ins gs n) m=false:=h.out
  have h2:aV (lO ins gs m) n=xF ins gs n m:=by unfold xF;rw [h1];rfl
  cbv
  refine ⟨⟨ins,gs,m⟩,⟨by exact aJ,hb,hm⟩,?_⟩
  cbv
  exact ⟨by have jN:=h2;exact dv⟩
def notM (ins:Int) (gs:List Gate) (n:Int):pU:=if n < 2 then ⟨gs,1 - n⟩ else if 0<=lO ins gs n then ⟨gs,lO ins gs n⟩ else kX ins gs ⟨1,n,0,0,0⟩
theorem acZ {ins:Int} {gs:List Gate} {n:Int} (hb:eu ins gs) (hn:cH ins gs n):dR ins gs 1 (notM ins gs n):=by
 have hi:=hb.ins.1
 have rz:=hn.1
 unfold notM
 split
 ·exact .same hb.ok ⟨by omega,by omega⟩
 ·split
  ·rename_i h
   rcases aaN hb.ok n with h1|h1
   ·omega
   ·exact .same hb.ok h1
  ·exact NN hb (sD (by decide) hi hn (.zero hi) (.zero hi))
@[reducible] noncomputable def ae_:Vc.Spec where
 α:=BN
 args x:=[.agg [.i .i64 (λ_=>x.ins),.sl 5 dB (λ_=>x.gs)],.i .i64 (λ_=>x.n)]
 pre x:=eu x.ins x.gs/\cH x.ins x.gs x.n
 res x:=.agg [.i .i64 (λ_=>x.ins),.sl 5 dB (λ_=>(notM x.ins x.gs x.n).gs),.i .i64 (λ_=>(notM x.ins x.gs x.n).n)]
noncomputable def atq (n m:Nat):Ctx:=fl n m [] [(253,Ox),(227,Eo)]
theorem apF (n m:Nat):CB PP (atq n m):=fy n m trivial ⟨Ti,GD,trivial⟩
theorem aov:cS (PP ()) 223 ae_:=by
 refine dP (apF 0 0) (fo Tryz.func223) (λa=>⟨⟨trivial,(λx=>(eK x).1),trivial⟩,trivial,trivial⟩) (λa=>⟨trivial,(λx=>(eK x).1),trivial,trivial⟩) ?_
 rintro ⟨ins,gs,n⟩ hx
 obtain ⟨hb,hn⟩:eu ins gs/\cH ins gs n:=hx
 have hi:=hb.ins.1
 have rz:=hn.1
 refine ⟨?_⟩
 cbv
 refine ⟨λh=>?_,λh=>?_⟩
 ·(have h:=h.out;simp (disch:=exact aU) only [hS] at h)
  have hr:IntKind.i64.wrap (1 - n)=1 - n:=by simp (disch:=exact aU) only [cz]
  have hw:notM ins gs n=⟨gs,1 - n⟩:=by unfold notM;rw [if_pos h]
  have e1:gs=(notM ins gs n).gs:=by rw [hw]
  have e2:IntKind.i64.wrap (1 - n)=(notM ins gs n).n:=by rw [hw,hr]
  cbv
  exact ⟨by have dG:=e1;have bj:=e2;exact dv⟩
 ·(have h:=h.out;simp (disch:=exact aU) only [hS] at h)
  cbv
  refine ⟨⟨ins,gs,n⟩,⟨by exact aJ,hb,hn⟩,?_⟩
  cbv
  refine ⟨λh2=>?_,λh2=>?_⟩
  ·have h2:0<=lO ins gs n:=by have:=h2.out;simp only [cR,decide_eq_true_eq] at this;exact this
   have hw:notM ins gs n=⟨gs,lO ins gs n⟩:=by unfold notM;rw [if_neg h,if_pos h2]
   have e1:gs=(notM ins gs n).gs:=by rw [hw]
   have e2:lO ins gs n=(notM ins gs n).n:=by rw [hw]
   cbv
   refine ⟨⟨ins,gs,n⟩,⟨by exact aJ,hb,hn⟩,?_⟩
   cbv
   exact ⟨by have dG:=e1;have bj:=e2;exact dv⟩
  ·have h2:¬0<=lO ins gs n:=by have:=h2.out;simp only [cR,decide_eq_false_iff_not] at this;exact this
   have hw:notM ins gs n=kX ins gs ⟨1,n,0,0,0⟩:=by unfold notM;rw [if_neg h,if_neg h2]
   have e1:(kX ins gs ⟨1,n,0,0,0⟩).gs=(notM ins gs n).gs:=by rw [hw]
   have e2:(kX ins gs ⟨1,n,0,0,0⟩).n=(notM ins gs n).n:=by rw [hw]
   cbv
   refine ⟨⟨ins,gs,⟨1,n,0,0,0⟩⟩,⟨by exact aJ,hb,sD (by decide) hi hn (.zero hi) (.zero hi)⟩,?_⟩
   cbv
   exact ⟨by have dG:=e1;have bj:=e2;exact dv⟩
def kE (ins:Int) (gs:List Gate) (x y:Int):pU:=if aV x 0=true then ⟨gs,0⟩ else if xF ins gs x y=true then ⟨gs,0⟩ else if aV x 1=true then ⟨gs,y⟩ else if aV x y=true then ⟨gs,y⟩ else kX ins gs ⟨2,x,y,0,0⟩
def andM (ins:Int) (gs:List Gate) (x y:Int):pU:=if aS y x=true then kE ins gs y x else kE ins gs x y
theorem abT {ins:Int} {gs:List Gate} {x y:Int} (hb:eu ins gs) (hx:cH ins gs x) (hy:cH ins gs y):dR ins gs 1 (kE ins gs x y):=by
 have hi:=hb.ins.1
 unfold kE
 repeat' split
 all_goals first|exact .same hb.ok (.zero hi)|exact .same hb.ok (.one hi)|exact .same hb.ok hy|exact NN hb (sD (by decide) hi hx hy (.zero hi))
theorem GS {ins:Int} {gs:List Gate} {x y:Int} (hb:eu ins gs) (hx:cH ins gs x) (hy:cH ins gs y):dR ins gs 1 (andM ins gs x y):=by
 unfold andM
 split
 ·exact abT hb hy hx
 ·exact abT hb hx hy
@[reducible] noncomputable def CA (m:Int->List Gate->Int->Int->pU) (p:x4->Prop):Vc.Spec where
 α:=x4
 args x:=[.agg [.i .i64 (λ_=>x.ins),.sl 5 dB (λ_=>x.gs)],.i .i64 (λ_=>x.x),.i .i64 (λ_=>x.y)]
 pre x:=(eu x.ins x.gs/\cH x.ins x.gs x.x/\cH x.ins x.gs x.y)/\p x
 res x:=.agg [.i .i64 (λ_=>x.ins),.sl 5 dB (λ_=>(m x.ins x.gs x.x x.y).gs),.i .i64 (λ_=>(m x.ins x.gs x.x x.y).n)]
@[reducible] noncomputable def adW:Vc.Spec:=CA kE λx=>aS x.y x.x=false
noncomputable def atr (n m:Nat):Ctx:=fl n m [(160,Tryz.f160)] [(226,Kl),(227,Eo)] [160]
theorem apG (n m:Nat):CB PP (atr n m):=fy n m ⟨fo Tryz.func160,trivial⟩ ⟨N4,GD,trivial⟩
theorem abU:cS (PP ()) 160 adW:=by
 refine dP (apG 0 0) (fo Tryz.func160) (λa=>⟨⟨trivial,(λx=>(eK x).1),trivial⟩,trivial,trivial,trivial⟩) (λa=>⟨trivial,(λx=>(eK x).1),trivial,trivial⟩) ?_
 rintro ⟨ins,gs,x,y⟩ hx
 obtain ⟨⟨hb,hn,hm⟩,hp⟩:(eu ins gs/\cH ins gs x/\cH ins gs y)/\aS y x=false:=hx
 have hi:=hb.ins.1
 refine ⟨?_⟩
 cbv
 refine ⟨λh=>?_,λh=>?_⟩
 ·have h':aS y x=true:=h.out
  rw [hp] at h';cases h'
 ·cbv
  refine ⟨λh1=>?_,λh1=>?_⟩
  ·have h1:aV x 0=true:=h1.out
   have hw:kE ins gs x y=⟨gs,0⟩:=by unfold kE;simp only [h1,if_true]
   have e1:gs=(kE ins gs x y).gs:=by rw [hw]
   have e2:0=(kE ins gs x y).n:=by rw [hw]
   cbv
   exact ⟨by have dG:=e1;have bj:=e2;have nY:=e2;exact dv⟩
  ·have h1:aV x 0=false:=h1.out
   cbv
   refine ⟨⟨⟨ins,gs,x⟩,y⟩,⟨by exact aJ,hb,hn,hm⟩,?_⟩
   cbv
   refine ⟨λh2=>?_,λh2=>?_⟩
   ·have h2:xF ins gs x y=true:=h2.out
    have hw:kE ins gs x y=⟨gs,0⟩:=by unfold kE;simp only [h1,h2,if_true,jr,if_false]
    have e1:gs=(kE ins gs x y).gs:=by rw [hw]
    have e2:0=(kE ins gs x y).n:=by rw [hw]
    cbv
    exact ⟨by have dG:=e1;have bj:=e2;have nY:=e2;exact dv⟩
   ·have h2:xF ins gs x y=false:=h2.out
    cbv
    refine ⟨λh3=>?_,λh3=>?_⟩
    ·have h3:aV x 1=true:=h3.out
     have hw:kE ins gs x y=⟨gs,y⟩:=by unfold kE;simp only [h1,h2,h3,if_true,jr,if_false]
     have e1:gs=(kE ins gs x y).gs:=by rw [hw]
     have e2:y=(kE ins gs x y).n:=by rw [hw]
     cbv
     exact ⟨by have dG:=e1;have bj:=e2;have nY:=e2;exact dv⟩
    ·have h3:aV x 1=false:=h3.out
     cbv
     refine ⟨λh4=>?_,λh4=>?_⟩
     ·have h4:aV x y=true:=h4.out
      have hw:kE ins gs x y=⟨gs,y⟩:=by unfold kE;simp only [h1,h2,h3,h4,if_true,jr,if_false]
      have e1:gs=(kE ins gs x y).gs:=by rw [hw]
      have e2:y=(kE ins gs x y).n:=by rw [hw]
      cbv
      exact ⟨by have dG:=e1;have bj:=e2;have nY:=e2;exact dv⟩
     ·have h4:aV x y=false:=h4.out
      have hw:kE ins gs x y=kX ins gs ⟨2,x,y,0,0⟩:=by unfold kE;simp only [h1,h2,h3,h4,if_true,jr,if_false]
      have e1:(kX ins gs ⟨2,x,y,0,0⟩).gs=(kE ins gs x y).gs:=by rw [hw]
      have e2:(kX ins gs ⟨2,x,y,0,0⟩).n=(kE ins gs x y).n:=by rw [hw]
      cbv
      refine ⟨⟨ins,gs,⟨2,x,y,0,0⟩⟩,⟨by exact aJ,hb,sD (by decide) hi hn hm (.zero hi)⟩,?_⟩
      cbv
      exact ⟨by have dG:=e1;have bj:=e2;have nY:=e2;exact dv⟩
@[reducible] noncomputable def apH:Vc.Spec:=CA andM λx=>aS x.y x.x=true
noncomputable def ats (n m:Nat):Ctx:=fl n m [] [(226,Kl),(227,Eo),(160,adW)]
theorem apI (n m:Nat):CB PP (ats n m):=fy n m trivial ⟨N4,GD,abU,trivial⟩
theorem NO:cS (PP ()) 160 apH:=by
 refine dP (apI 0 0) (fo Tryz.func160) (λa=>⟨⟨trivial,(λx=>(eK x).1),trivial⟩,trivial,trivial,trivial⟩) (λa=>⟨trivial,(λx=>(eK x).1),trivial,trivial⟩) ?_
 rintro ⟨ins,gs,x,y⟩ hx
 obtain ⟨⟨hb,hn,hm⟩,hp⟩:(eu ins gs/\cH ins gs x/\cH ins gs y)/\aS y x=true:=hx
 have hq:aS x y=false:=by simp [aS] at hp ⊢;omega
 have hw:andM ins gs x y=kE ins gs y x:=by unfold andM;simp only [hp,if_true]
 have e1:(kE ins gs y x).gs=(andM ins gs x y).gs:=by rw [hw]
 have e2:(kE ins gs y x).n=(andM ins gs x y).n:=by rw [hw]
 refine ⟨?_⟩
 cbv
 refine ⟨λh=>?_,λh=>?_⟩
 ·cbv
  refine ⟨⟨ins,gs,y,x⟩,⟨by exact aJ,⟨hb,hm,hn⟩,hq⟩,?_⟩
  cbv
  exact ⟨by have dG:=e1;have bj:=e2;exact dv⟩
 ·have h':aS y x=false:=h.out
  rw [hp] at h';cases h'
@[reducible] noncomputable def Km:Vc.Spec:=CA andM λ_=>True
theorem TW:cS (PP ()) 160 Km where
 fn:=NO.fn
 lf:=NO.lf
 fresh:=λh=>by cases h
 lr:=NO.lr
 run:=λa ha=>by
  cases h:aS a.y a.x with
  | true=>exact NO.run a ⟨ha.1,h⟩
  | false =>
   have hw:andM a.ins a.gs a.x a.y=kE a.ins a.gs a.x a.y:=by unfold andM;simp only [h,jr,if_false]
   have:=abU.run a ⟨ha.1,h⟩
   simp only [Km,CA,hw]
   exact this
def xG (ins:Int) (gs:List Gate) (x y:Int):pU:=if aV x 0=true then ⟨gs,y⟩ else if aV x y=true then ⟨gs,y⟩ else kX ins gs ⟨3,x,y,0,0⟩
def ik (ins:Int) (gs:List Gate) (x y:Int):pU:=if aV x 1=true then ⟨gs,1⟩ else if aS 0 x=true then (if xF ins gs x y=true then ⟨gs,1⟩ else xG ins gs x y) else xG ins gs x y
def orM (ins:Int) (gs:List Gate) (x y:Int):pU:=if aS y x=true then ik ins gs y x else ik ins gs x y
theorem ac0 {ins:Int} {gs:List Gate} {x y:Int} (hb:eu ins gs) (hx:cH ins gs x) (hy:cH ins gs y):dR ins gs 1 (ik ins gs x y):=by
 have hi:=hb.ins.1
 unfold ik xG
 repeat' split
 all_goals first|exact .same hb.ok (.zero hi)|exact .same hb.ok (.one hi)|exact .same hb.ok hy|exact NN hb (sD (by decide) hi hx hy (.zero hi))
theorem adX {ins:Int} {gs:List Gate} {x y:Int} (hb:eu ins gs) (hx:cH ins gs x) (hy:cH ins gs y):dR ins gs 1 (orM ins gs x y):=by
 unfold orM
 split
 ·exact ac0 hb hy hx
 ·exact ac0 hb hx hy
@[reducible] noncomputable def afa:Vc.Spec:=CA ik λx=>aS x.y x.x=false
noncomputable def att (n m:Nat):Ctx:=fl n m [(224,Tryz.f224)] [(226,Kl),(227,Eo)] [224]
theorem apJ (n m:Nat):CB PP (att n m):=fy n m ⟨fo Tryz.func224,trivial⟩ ⟨N4,GD,trivial⟩
theorem ac1:cS (PP ()) 224 afa:=by
 refine dP (apJ 0 0) (fo Tryz.func224) (λa=>⟨⟨trivial,(λx=>(eK x).1),trivial⟩,trivial,trivial,trivial⟩) (λa=>⟨trivial,(λx=>(eK x).1),trivial,trivial⟩) ?_
 rintro ⟨ins,gs,x,y⟩ hx
 obtain ⟨⟨hb,hn,hm⟩,hp⟩:(eu ins gs/\cH ins gs x/\cH ins gs y)/\aS y x=false:=hx
 have hi:=hb.ins.1
 refine ⟨?_⟩
 cbv
 refine ⟨λh=>?_,λh=>?_⟩
 ·have h':aS y x=true:=h.out
  rw [hp] at h';cases h'
 ·cbv
  refine ⟨λh1=>?_,λh1=>?_⟩
  ·have h1:aV x 1=true:=h1.out
   have hw:ik ins gs x y=⟨gs,1⟩:=by unfold ik xG;simp only [h1,if_true,jr,if_false]
   have e1:gs=(ik ins gs x y).gs:=by rw [hw]
   have e2:1=(ik ins gs x y).n:=by rw [hw]
   cbv
   exact ⟨by have dG:=e1;have bj:=e2;have nY:=e2;exact dv⟩
  ·have h1:aV x 1=false:=h1.out
   cbv
   refine ⟨λh2=>?_,λh2=>?_⟩
   ·have h2:aS 0 x=true:=h2.out
    cbv
    refine ⟨⟨⟨ins,gs,x⟩,y⟩,⟨by exact aJ,hb,hn,hm⟩,?_⟩
    cbv
    refine ⟨λh3=>?_,λh3=>?_⟩
    ·have h3:xF ins gs x y=true:=h3.out
     have hw:ik ins gs x y=⟨gs,1⟩:=by unfold ik xG;simp only [h1,h2,h3,if_true,jr,if_false]
     have e1:gs=(ik ins gs x y).gs:=by rw [hw]
     have e2:1=(ik ins gs x y).n:=by rw [hw]
     cbv
     exact ⟨by have dG:=e1;have bj:=e2;have nY:=e2;exact dv⟩
    ·have h3:xF ins gs x y=false:=h3.out
     cbv
     refine ⟨λh4=>?_,λh4=>?_⟩
     ·have h4:aV x 0=true:=h4.out
      have hw:ik ins gs x y=⟨gs,y⟩:=by unfold ik xG;simp only [h1,h2,h3,h4,if_true,jr,if_false]
      have e1:gs=(ik ins gs x y).gs:=by rw [hw]
      have e2:y=(ik ins gs x y).n:=by rw [hw]
      cbv
      exact ⟨by have dG:=e1;have bj:=e2;have nY:=e2;exact dv⟩
     ·have h4:aV x 0=false:=h4.out
      cbv
      refine ⟨λh5=>?_,λh5=>?_⟩
      ·have h5:aV x y=true:=h5.out
       have hw:ik ins gs x y=⟨gs,y⟩:=by unfold ik xG;simp only [h1,h2,h3,h4,h5,if_true,jr,if_false]
       have e1:gs=(ik ins gs x y).gs:=by rw [hw]
       have e2:y=(ik ins gs x y).n:=by rw [hw]
       cbv
       exact ⟨by have dG:=e1;have bj:=e2;have nY:=e2;exact dv⟩
      ·have h5:aV x y=false:=h5.out
       have hw:ik ins gs x y=kX ins gs ⟨3,x,y,0,0⟩:=by unfold ik xG;simp only [h1,h2,h3,h4,h5,if_true,jr,if_false]
       have e1:(kX ins gs ⟨3,x,y,0,0⟩).gs=(ik ins gs x y).gs:=by rw [hw]
       have e2:(kX ins gs ⟨3,x,y,0,0⟩).n=(ik ins gs x y).n:=by rw [hw]
       cbv
       refine ⟨⟨ins,gs,⟨3,x,y,0,0⟩⟩,⟨by exact aJ,hb,sD (by decide) hi hn hm (.zero hi)⟩,?_⟩
       cbv
       exact ⟨by have dG:=e1;have bj:=e2;have nY:=e2;exact dv⟩
   ·have h2:aS 0 x=false:=h2.out
    cbv
    refine ⟨λh4=>?_,λh4=>?_⟩
    ·have h4:aV x 0=true:=h4.out
     have hw:ik ins gs x y=⟨gs,y⟩:=by unfold ik xG;simp only [h1,h2,h4,if_true,jr,if_false]
     have e1:gs=(ik ins gs x y).gs:=by rw [hw]
     have e2:y=(ik ins gs x y).n:=by rw [hw]
     cbv
     exact ⟨by have dG:=e1;have bj:=e2;have nY:=e2;exact dv⟩
    ·have h4:aV x 0=false:=h4.out
     cbv
     refine ⟨λh5=>?_,λh5=>?_⟩
     ·have h5:aV x y=true:=h5.out
      have hw:ik ins gs x y=⟨gs,y⟩:=by unfold ik xG;simp only [h1,h2,h4,h5,if_true,jr,if_false]
      have e1:gs=(ik ins gs x y).gs:=by rw [hw]
      have e2:y=(ik ins gs x y).n:=by rw [hw]
      cbv
      exact ⟨by have dG:=e1;have bj:=e2;have nY:=e2;exact dv⟩
     ·have h5:aV x y=false:=h5.out
      have hw:ik ins gs x y=kX ins gs ⟨3,x,y,0,0⟩:=by unfold ik xG;simp only [h1,h2,h4,h5,if_true,jr,if_false]
      have e1:(kX ins gs ⟨3,x,y,0,0⟩).gs=(ik ins gs x y).gs:=by rw [hw]
      have e2:(kX ins gs ⟨3,x,y,0,0⟩).n=(ik ins gs x y).n:=by rw [hw]
      cbv
      refine ⟨⟨ins,gs,⟨3,x,y,0,0⟩⟩,⟨by exact aJ,hb,sD (by decide) hi hn hm (.zero hi)⟩,?_⟩
      cbv
      exact ⟨by have dG:=e1;have bj:=e2;have nY:=e2;exact dv⟩
@[reducible] noncomputable def aq8:Vc.Spec:=CA orM λx=>aS x.y x.x=true
noncomputable def atu (n m:Nat):Ctx:=fl n m [] [(226,Kl),(227,Eo),(224,afa)]
theorem apK (n m:Nat):CB PP (atu n m):=fy n m trivial ⟨N4,GD,ac1,trivial⟩
theorem N5:cS (PP ()) 224 aq8:=by
 refine dP (apK 0 0) (fo Tryz.func224) (λa=>⟨⟨trivial,(λx=>(eK x).1),trivial⟩,trivial,trivial,trivial⟩) (λa=>⟨trivial,(λx=>(eK x).1),trivial,trivial⟩) ?_
 rintro ⟨ins,gs,x,y⟩ hx
 obtain ⟨⟨hb,hn,hm⟩,hp⟩:(eu ins gs/\cH ins gs x/\cH ins gs y)/\aS y x=true:=hx
 have hq:aS x y=false:=by simp [aS] at hp ⊢;omega
 have hw:orM ins gs x y=ik ins gs y x:=by unfold orM;simp only [hp,if_true]
 have e1:(ik ins gs y x).gs=(orM ins gs x y).gs:=by rw [hw]
 have e2:(ik ins gs y x).n=(orM ins gs x y).n:=by rw [hw]
 refine ⟨?_⟩
 cbv
 refine ⟨λh=>?_,λh=>?_⟩
 ·cbv
  refine ⟨⟨ins,gs,y,x⟩,⟨by exact aJ,⟨hb,hm,hn⟩,hq⟩,?_⟩
  cbv
  exact ⟨by have dG:=e1;have bj:=e2;exact dv⟩
 ·have h':aS y x=false:=h.out
  rw [hp] at h';cases h'
@[reducible] noncomputable def Wn:Vc.Spec:=CA orM λ_=>True
theorem apL:cS (PP ()) 224 Wn where
 fn:=N5.fn
 lf:=N5.lf
 fresh:=λh=>by cases h
 lr:=N5.lr
 run:=λa ha=>by
  cases h:aS a.y a.x with
  | true=>exact N5.run a ⟨ha.1,h⟩
  | false =>
   have hw:orM a.ins a.gs a.x a.y=ik a.ins a.gs a.x a.y:=by unfold orM;simp only [h,jr,if_false]
   have:=ac1.run a ⟨ha.1,h⟩
   simp only [Wn,CA,hw]
   exact this
end Go.Proofs.Pk
