import Derived.Test.YthnhbemmlfaihaaGreatT12
import Derived.Test.YthnhbemmlfaihaaGreatT28
set_option linter.unusedVariables false
set_option linter.unusedSimpArgs false
set_option maxRecDepth 10000
set_option maxHeartbeats 64000000
namespace Go.Proofs.Pk
open Go Go.Vc
theorem getM {A B:Type} {f:A->B} {l:List A} {i:Nat} {w:B} (h:(l.map f)[i]?=some w):∃r,l[i]?=some r/\f r=w:=by
 rw [m7] at h
 cases hl:l[i]? with
 | none=>rw [hl] at h;cases h
 | some r=>rw [hl] at h;exact ⟨r,rfl,by simpa using h⟩
theorem ad5 {p:rT} (h:rH p) (b:Bool):WU (oh p b) where
 aN:=λw hw=>by
  obtain ⟨r,hr,rfl⟩:=kf.1 hw
  have:=h.aN.2 r hr
  exact ⟨this.1,by omega⟩
 aZ:=λw hw=>by
  obtain ⟨r,hr,rfl⟩:=kf.1 hw
  have:=h.aZ.2 r hr
  exact ⟨this.1,by omega⟩
 bf:=λm hm=>by
  obtain ⟨r,hr,rfl⟩:=kf.1 hm
  have:=h.bf.2 r hr
  exact ⟨this.1,by show r.w<=8;omega⟩
theorem nR.up1 {sc:Sc} {n:Nat}:∀{ws:List Int} {es:List Expr},nR sc n ws es->∀(j:Nat) (e:Expr),es[j]?=some e->∃w,WT sc n w e:=λh j e he=>by
 obtain ⟨w,_,h⟩:=h.get j e he
 exact ⟨w,h⟩
theorem PL {sc:Sc}:∀(n:Nat) {w:Int} {e:Expr},WT sc (n+1) w e->Le (cA n e) (cA (n+1) e)
 | 0,w,e,h=>by
  obtain ⟨ws,dA⟩:=h.args
  refine Le.dp ?_ λx=>⟨trivial,trivial,trivial,trivial,trivial,trivial,CL 0 x,trivial⟩
  show e.args=[]
  cases he:e.args with
  | nil=>rfl
  | cons x l =>
   obtain ⟨w,hw⟩:=dA.up1 0 x (by rw [he];rfl)
   cases hw
 | n+1,w,e,h=>by
  obtain ⟨ws,dA⟩:=h.args
  refine Le.X7 rfl (λx=>⟨trivial,trivial,trivial,trivial,trivial,trivial,CL (n+1) x,trivial⟩) λj x y hx hy=>?_
  have hx:e.args[j]?=some x:=hx
  have hy:e.args[j]?=some y:=hy
  rw [hx] at hy
  cases hy
  obtain ⟨w,hw⟩:=dA.up1 j x hx
  exact .cons (.refl _) (.cons (.refl _) (.cons (.refl _) (.cons (.refl _) (.cons (.refl _) (.cons (.refl _) (.cons (PL n hw) .nil))))))
structure xP (ins:Int) (gs:List Gate) (tl:List Take) (i:Nat) (data:List (List Int)):Prop where
 len:data.length=i
 w:∀(j:Nat) (t:Take) (d:List Int),tl[j]?=some t->data[j]?=some d->d.length=t.w.toNat
 ok:∀d∈data,fK ins gs d
theorem xP.nil (ins:Int) (gs:List Gate) (tl:List Take):xP ins gs tl 0 []:=⟨rfl,λj t d _ h=>by simp at h,λd h=>by simp at h⟩
theorem xP.mono {ins:Int} {gs cw:List Gate} {tl:List Take} {i:Nat} {data:List (List Int)} (h:xP ins gs tl i data) (hl:gs.length<=cw.length):xP ins cw tl i data:=⟨h.len,h.w,λd hd=>(h.ok d hd).mono hl⟩
theorem xP.add {ins:Int} {gs:List Gate} {tl:List Take} {i:Nat} {data:List (List Int)} (h:xP ins gs tl i data) {t:Take} (ht:tl[i]?=some t) {d:List Int} (hd:d.length=t.w.toNat) (hn:fK ins gs d):xP ins gs tl (i+1) (data++[d]):=by
 refine ⟨by simp [h.len],λj u e hu he=>?_,λe he=>?_⟩
 ·by_cases hj:j < data.length
  ·rw [nY hj] at he
   exact h.w j u e hu he
  ·rw [u4 (by omega)] at he
   have iO:j - data.length=0:=by
    have:=(bY.1 he).1
    simp at this;omega
   rw [iO] at he
   simp at he
   have nS:j=i:=by have:=h.len;omega
   rw [nS,ht] at hu
   cases hu
   rw [<-he];exact hd
 ·rcases List.mem_append.1 he with he|he
  ·exact h.ok e he
  ·simp at he;rw [he];exact hn
theorem PZ {p:rT} (h:rH p) {ins:List bU} (hi:ins.length<=100) {b:Bool} {I:Int} {gs:List Gate} {data:List (List Int)} (hd:b=true->xP I gs p.aZ p.aZ.length data):ahS (oh p b) p ins data where
 ok:=ad5 h b
 ins:=hi
 aN:=λi w hw=>getM hw
 bf:=λi w v hw=>by
  obtain ⟨r,hr,he⟩:=getM hw
  have hl:=(bY.1 hr).1
  have:=h.bf.1
  cases he
  exact ⟨by omega,r,hr,rfl,rfl⟩
 data:=λhb i w hw=>by
  obtain ⟨r,hr,he⟩:=getM hw
  have hl:=(bY.1 hr).1
  have hD:=hd hb
  have hlen:=hD.len
  obtain ⟨d,tC⟩:=bB (l:=data) (i:=i) (by omega)
  exact ⟨d,tC,by rw [hD.w i r d hr tC,he]⟩
structure DU where
 gs:List Gate
 aZ:List Int
 ec:List Int
 data:List (List Int)
 jg:Int
structure EY (ins:Int) (p:rT) (y:DU):Prop where
 ok:k6 ins y.gs
 dK:y.gs.length<=6000
 tl:y.aZ.length=p.aZ.length
 tn:fK ins y.gs y.aZ
 pl:y.ec.length=p.ec.length
 pn:fK ins y.gs y.ec
 data:xP ins y.gs p.aZ p.aZ.length y.data
 jg:cJ ins y.gs y.jg
structure PI where
 p:rT
 ins:List bU
@[reducible] noncomputable def asr:fO where
 α:=PI
 args x:=[.agg (zp 2 x.p),.sl 3 dk (λ_=>x.ins)]
 pre x:=rH x.p/\x.ins.length<=100
 β:=DU
 post x y:=EY x.ins.length x.p y
 res x y:=.agg [.i .i64 (λ_=>x.ins.length),.sl 5 dE (λ_=>y.gs),.sl 1 bK (λ_=>y.aZ),.sl 1 bK (λ_=>y.ec),.sl 1 jd (λ_=>y.data),.i .i64 (λ_=>y.jg)]
structure D1 where
 i:Nat
 gs:List Gate
 aZ:List Int
 data:List (List Int)
structure ah2 (ins:Int) (tl:List Take) (x:D1):Prop where
 i:x.i<=tl.length
 ok:k6 ins x.gs
 dK:x.gs.length<=1100*x.i
 aBe:x.aZ.length=x.i
 tn:fK ins x.gs x.aZ
 data:xP ins x.gs tl x.i x.data
structure D3 where
 i:Nat
 gs:List Gate
 jg:Int
structure Xg (ins:Int) (gs:List Gate) (n:Nat) (x:D3):Prop where
 i:x.i<=n
 ok:k6 ins x.gs
 lo:gs.length<=x.gs.length
 hi:x.gs.length<=gs.length+3*x.i
 jg:cJ ins x.gs x.jg
noncomputable def cDu (n m:Nat):Ctx:=fy n m [(162,Tryz.f162),(160,Tryz.f160),(223,Tryz.f223),(224,Tryz.f224)] [(222,K4)] [162,160,223,224] [] [15]
theorem VW (n m:Nat):CB PP (cDu n m):=fF n m ⟨fo Tryz.func162,fo Tryz.func160,fo Tryz.func223,fo Tryz.func224,trivial⟩ ⟨OQ,trivial⟩
noncomputable def auM (n m:Nat):Ctx:=fy n m [(162,Tryz.f162),(160,Tryz.f160),(223,Tryz.f223),(224,Tryz.f224)] [(222,K4)] [162,160,223,224]
theorem Vp (n m:Nat):CB PP (auM n m):=fF n m ⟨fo Tryz.func162,fo Tryz.func160,fo Tryz.func223,fo Tryz.func224,trivial⟩ ⟨OQ,trivial⟩
theorem apJ:eM PP 158 asr:=by
 refine iQ (VW 2 2) (fo Tryz.func158) (λa=>⟨Hj 2 a.p,(λx=>(gU x).1),trivial⟩) (λa y=>⟨trivial,(λx=>(eO x).1),(λx=>(cP x).1),(λx=>(cP x).1),(λx=>(qa x).1),trivial,trivial⟩) ?_
 rintro ⟨p,ins⟩ hx
 obtain ⟨hp,hi⟩:rH p/\ins.length<=100:=hx
 obtain ⟨L,hL⟩:∃L:Int,(ins.length:Int)=L:=⟨_,rfl⟩
 have zX:0<=L/\L<=100:=by omega
 have xb:p.aZ.length<=2:=hp.aZ.1
 have tA:p.ec.length<=2:=hp.ec.1
 have Ge:∀(i:Nat) (r:Take),p.aZ[i]?=some r->1<=r.w/\r.w<=2/\WT (oh p false) 3 1 r.cond:=λi r h=>hp.aZ.2 r (cb h)
 have I8:∀(i:Nat) (r:rX),p.ec[i]?=some r->WT (oh p true) 3 1 r.cond:=λi r h=>(hp.ec.2 r (cb h)).2.2.1
 have ow:=PZ hp hi (b:=false) (I:=L) (gs:=[]) (data:=[]) (λh=>by cases h)
 have LR:=λgs data=>PZ hp hi (b:=true) (I:=L) (gs:=gs) (data:=data)
 obtain ⟨sf,hsf⟩:∃sf,sf=oh p false:=⟨_,rfl⟩
 obtain ⟨st,cI⟩:∃st,st=oh p true:=⟨_,rfl⟩
 rw [<-hsf] at Ge ow
 rw [<-cI] at I8 LR
 refine ⟨?_⟩
 cbv
 refine Sat.iH 2 2 3 1 n8 cP rfl rfl ?_
 refine Sat.iH 2 4 35 1 UF qa rfl rfl ?_
 refine Sat.cd (VW 2 2) 5 6 [(.c 2 2,3),(.c 2 4,4)] (λx:D1=>[(6,.i .i64 λ_=>(x.i:Int))]) (λx=>[(2,.fix 277 [.i .i64 (λ_=>(ins.length:Int)),.sl 5 dE (λ_=>x.gs),.own 3,.dp,.own 4,.ic .i64 1]),(3,.dyn 3 1 bK λ_=>x.aZ),(4,.dyn 35 1 jd λ_=>x.data)])
  (λx=>ah2 L p.aZ x) (λx=>p.aZ.length - x.i) ⟨0,[],[],[]⟩ (by exact ao) (by exact ao) ⟨cL _,.nil _,cR _,rfl,.nil _ _,.nil _ _ _⟩ ?_
 rintro ⟨i,gs,yE,data⟩ ⟨mR,cv,oP,Dw,qZ,ug⟩
 simp only at mR cv oP Dw qZ ug
 have h0:=n0 i
 have h1:=cj (i:=i) (by omega)
 cbv
 refine ⟨λh=>?_,λh=>?_⟩
 ·have bq:i < p.aZ.length:=bG
  have a7:p.aZ.length - (i+1) < p.aZ.length - i:=by omega
  refine (bB bq).elim λr hr=>?_
  have hw:=Ge i r hr
  have gl:Room L gs (KB 3):=⟨cv,by omega,by show _+1040<=_;omega⟩
  cbv
  refine ⟨r,⟨h0,hr⟩,?_⟩
  cbv
  have hL:((ins.length:Nat):Int)=L:=hL
  refine bV.rel (EM 2 3) ⟨p,ins,[],gs,r.cond,sf,1⟩ (by have BB:=hw.2.2;exact dy) ⟨ow,(by show Room ins.length gs (KB 3);rw [hL];exact gl),λd hd=>(by cases hd),hw.2.2⟩ λy hy=>?_
  have hy:lP L gs 1040 1 y:=hL ▸ hy.out
  have Im:=hy.lo
  have Xd:=hy.hi
  have VX:=hy.len
  refine (bB (l:=y.l) (i:=0) (by omega)).elim λd hd=>?_
  have YW:cJ L y.gs d:=hy.n d (cb hd)
  have Xh:=hy.ok
  have Vq:=ug.mono Im
  have QK:fK L y.gs yE:=qZ.mono Im
  cbv
  refine ⟨d,⟨jR _,hd⟩,?_⟩
  cbv
  refine ⟨[d],⟨by exact aL,by show (yE.length+1)*8<=_;omega,by show yE.length+1<=_;omega⟩,?_⟩
  cbv
  refine Sat.cd (VW 2 2) 9 8 [(.t 8,8)] (λx:LG=>[(8,.own 8),(9,.i .i64 λ_=>(x.i:Int))]) (λx=>[(2,.fix 277 [.i .i64 (λ_=>(ins.length:Int)),.sl 5 dE (λ_=>x.gs),.own 7,.dp,.own 4,.ic .i64 1]),(8,.dyn 3 1 bK λ_=>x.l)])
   (λx=>mI L y.gs 1 r.w.toNat x) (λx=>r.w.toNat - x.i) ⟨0,y.gs,[]⟩ (by exact ao) (by exact ao) (mI.nil Xh) ?_
  rintro ⟨k,cF,l⟩ hJ
  have hJ:mI L y.gs 1 r.w.toNat ⟨k,cF,l⟩:=hJ
  have hJi:k<=r.w.toNat:=hJ.i
  have FG:y.gs.length<=cF.length:=hJ.lo
  have Xi:cF.length<=y.gs.length+1*k:=hJ.hi
  have YY:l.length=k:=hJ.len
  have uu:eC L cF:=⟨hJ.ok,by omega,by omega⟩
  have gS:=n0 k
  have eX:=cj (i:=k) (by omega)
  have LS:=YW.mono FG
  have hL:((ins.length:Nat):Int)=L:=hL
  refine (JX ins cF hL hi ⟨2,i,k⟩).elim λwv qx=>?_
  have YO:=hw.1
  have tI:=hw.2.1
  cbv
  refine ⟨r,⟨h0,hr⟩,?_⟩
  cbv
  refine ⟨λh=>?_,λh=>?_⟩
  ·have db:(k:Int) < r.w:=bG
   have lz:r.w.toNat - (k+1) < r.w.toNat - k:=by omega
   have auN:k < r.w.toNat:=by omega
   cbv
   refine ⟨d,⟨jR _,hd⟩,?_⟩
   cbv
   refine ⟨⟨ins,⟨2,i,k⟩⟩,⟨by exact aL,by show ins.length<=_;omega⟩,?_⟩
   cbv
   refine bV.rel Cz ⟨L,cF,d,wv⟩ (by have bm:=qx.1.symm;exact cQ) ⟨uu,LS,qx.2,trivial⟩ λz hz=>?_
   have hz:dV L cF 1 z:=hz.out
   have bA:=hJ.add auN hz
   cbv
   refine ⟨[z.n],⟨by exact aL,by show (l.length+1)*8<=_;omega,by show l.length+1<=_;omega⟩,?_⟩
   cbv
   exact ⟨⟨k+1,z.gs,l++[z.n]⟩,by have bm:=eX;exact bI,by have bm:=hL.symm;exact bI,⟨⟨bA,lz⟩⟩⟩
  ·have db:¬(k:Int) < r.w:=bG
   have Ds:k=r.w.toNat:=by omega
   have bA:ah2 L p.aZ ⟨i+1,cF,yE++[d],data++[l]⟩:=⟨bq,hJ.ok,by show cF.length<=1100*(i+1);omega,by show (yE++[d]).length=i+1;simp [Dw],(QK.mono FG).add LS,(Vq.mono FG).add hr (by rw [YY,Ds]) hJ.n⟩
   cbv
   refine Sat.freeze 8 rfl rfl ?_
   refine Sat.uH (Vp 2 2) ?_
   cbv
   refine ⟨[l],⟨by exact aL,by show (data.length+1)*24<=_;rw [ug.len];omega,by show data.length+1<=_;rw [ug.len];omega⟩,?_⟩
   cbv
   exact ⟨⟨i+1,cF,yE++[d],data++[l]⟩,by have bm:=h1;exact bI,by exact ao,⟨⟨bA,a7⟩⟩⟩
 ·have bS:i=p.aZ.length:=ua h.out mR
  have hL:((ins.length:Nat):Int)=L:=hL
  have LR:=LR gs data λ_=>bS ▸ ug
  have ah3:=ug.ok
  have aAO:gs.length<=2200:=by omega
  clear h0 h1
  cbv
  refine Sat.freeze 4 rfl rfl ?_
  refine Sat.iH 2 3 3 1 n8 cP rfl rfl ?_
  refine Sat.cd (Vp 2 2) 6 6 [(.c 2 3,5)] (λx:LG=>[(11,.i .i64 λ_=>(x.i:Int))]) (λx=>[(2,.fix 277 [.i .i64 (λ_=>(ins.length:Int)),.sl 5 dE (λ_=>x.gs),.own 3,.own 5,.sl 1 jd (λ_=>data),.ic .i64 1]),(5,.dyn 3 1 bK λ_=>x.l)])
   (λx=>mI L gs 1040 p.ec.length x) (λx=>p.ec.length - x.i) ⟨0,gs,[]⟩ (by exact ao) (by exact ao) (mI.nil cv) ?_
  rintro ⟨i,cF,l⟩ hJ
  have hJ:mI L gs 1040 p.ec.length ⟨i,cF,l⟩:=hJ
  have hJi:i<=p.ec.length:=hJ.i
  have FG:gs.length<=cF.length:=hJ.lo
  have Xi:cF.length<=gs.length+1040*i:=hJ.hi
  have YY:l.length=i:=hJ.len
  have ah4:k6 L cF:=hJ.ok
  have h0:=n0 i
  have h1:=cj (i:=i) (by omega)
  have LS:∀d∈data,fK L cF d:=λd hd=>(ah3 d hd).mono FG
  cbv
  refine ⟨λh=>?_,λh=>?_⟩
  ·have bq:i < p.ec.length:=bG
   have a7:p.ec.length - (i+1) < p.ec.length - i:=by omega
   refine (bB bq).elim λr hr=>?_
   have hw:=I8 i r hr
   have gl:Room L cF (KB 3):=⟨ah4,by omega,by show _+1040<=_;omega⟩
   cbv
   refine ⟨r,⟨h0,hr⟩,?_⟩
   cbv
   have hL:((ins.length:Nat):Int)=L:=hL
   refine bV.rel (EM 2 3) ⟨p,ins,data,cF,r.cond,st,1⟩ (by have BB:=hw;exact dy) ⟨LR,(by show Room ins.length cF (KB 3);rw [hL];exact gl),λd hd=>(by show fK ins.length cF d;rw [hL];exact LS d hd),hw⟩ λy hy=>?_
   have hy:lP L cF 1040 1 y:=hL ▸ hy.out
   have VX:=hy.len
   refine (bB (l:=y.l) (i:=0) (by omega)).elim λd hd=>?_
   have bA:=hJ.add (y:=⟨y.gs,d⟩) bq ⟨hy.ok,hy.lo,hy.hi,hy.n d (cb hd)⟩
   cbv
   refine ⟨d,⟨jR _,hd⟩,?_⟩
   cbv
   refine ⟨[d],⟨by exact aL,by show (l.length+1)*8<=_;omega,by show l.length+1<=_;omega⟩,?_⟩
   cbv
   exact ⟨⟨i+1,y.gs,l++[d]⟩,by have bm:=h1;exact bI,by exact ao,⟨⟨bA,a7⟩⟩⟩
  ·have uv:i=p.ec.length:=ua h.out hJi
   have hL:((ins.length:Nat):Int)=L:=hL
   have Xi:cF.length<=gs.length+1040*i:=Xi
   have aAP:cF.length<=4280:=by omega
   have ass:yE.length=p.aZ.length:=by rw [Dw,bS]
   have ast:l.length=p.ec.length:=by rw [YY,uv]
   have QK:fK L cF yE:=qZ.mono FG
   have MK:fK L cF l:=hJ.n
   have Vq:=ug.mono FG
   clear h0 h1 LR I8 Ge ow LS ah3
   cbv
   refine Sat.cd (Vp 2 2) 6 6 [] (λx:D3=>[(13,.i .i64 λ_=>(x.i:Int))]) (λx=>[(2,.fix 277 [.i .i64 (λ_=>(ins.length:Int)),.sl 5 dE (λ_=>x.gs),.own 3,.own 5,.sl 1 jd (λ_=>data),.i .i64 (λ_=>x.jg)])])
    (λx=>Xg L cF (p.aZ.length+p.ec.length) x) (λx=>p.aZ.length+p.ec.length - x.i) ⟨0,cF,1⟩ (by exact ao) (by exact ao) ⟨cL _,ah4,cR _,cR _,.one zX.1⟩ ?_
   rintro ⟨i,xc,fi⟩ ⟨MI,Xj,Ip,ah5,z9⟩
   simp only at MI Xj Ip ah5 z9
   have h0:=n0 i
   have h1:=cj (i:=i) (by omega)
   have agc:eC L xc:=⟨Xj,by omega,by omega⟩
   have PO:IntKind.i64.wrap ((p.aZ.length:Int)+p.ec.length)=((p.aZ.length+p.ec.length:Nat):Int):=by rw [cD (by omega) (by omega)];omega
   cbv
   refine ⟨λh=>?_,λh=>?_⟩
   ·have bq:i < p.aZ.length+p.ec.length:=by
     have h':aS i (IntKind.i64.wrap ((p.aZ.length:Int)+p.ec.length))=true:=h.out
     rw [PO] at h'
     simp [aS] at h'
     omega
    have a7:p.aZ.length+p.ec.length - (i+1) < p.aZ.length+p.ec.length - i:=by omega
    cbv
    refine ⟨λh=>?_,λh=>?_⟩
    ·have hit:i < p.aZ.length:=bG
     have ah6:i < yE.length:=by omega
     refine (bB ah6).elim λdue hd=>?_
     have Iq:cJ L xc due:=(QK due (cb hd)).mono Ip
     refine (JX ins xc hL hi ⟨3,i,0⟩).elim λwv qx=>?_
     cbv
     refine ⟨⟨h0,ah6⟩,?_⟩
     cbv
     refine ⟨due,⟨hd,rfl⟩,?_⟩
     cbv
     refine bV.rel zf ⟨L,xc,due⟩ (by exact cQ) ⟨agc,Iq⟩ λz1 iT=>?_
     have iT:dV L xc 1 z1:=iT.out
     have a1:=iT.lo
     have a2:=iT.hi
     have QJ:=qx.2.mono a1
     have VY:eC L z1.gs:=⟨iT.ok,by omega,by omega⟩
     cbv
     refine ⟨⟨ins,⟨3,i,0⟩⟩,⟨by exact aL,by show ins.length<=_;omega⟩,?_⟩
     cbv
     refine bV.rel HO ⟨L,z1.gs,z1.n,wv⟩ (by have bm:=qx.1.symm;exact cQ) ⟨VY,iT.n,QJ,trivial⟩ λz2 iJ=>?_
     have iJ:dV L z1.gs 1 z2:=iJ.out
     have a3:=iJ.lo
     have a4:=iJ.hi
     have VZ:eC L z2.gs:=⟨iJ.ok,by omega,by omega⟩
     have Xk:=z9.mono (v9 a1 a3)
     cbv
     refine bV.rel Cz ⟨L,z2.gs,fi,z2.n⟩ (by exact cQ) ⟨VZ,Xk,iJ.n,trivial⟩ λz3 uL=>?_
     have uL:dV L z2.gs 1 z3:=uL.out
     have a5:=uL.lo
     have a6:=uL.hi
     have bA:Xg L cF (p.aZ.length+p.ec.length) ⟨i+1,z3.gs,z3.n⟩:=⟨bq,uL.ok,by show cF.length<=z3.gs.length;omega,by show z3.gs.length<=cF.length+3*(i+1);omega,uL.n⟩
     cbv
     exact ⟨⟨i+1,z3.gs,z3.n⟩,by have bm:=h1;exact bI,by have bm:=hL.symm;exact bI,⟨⟨bA,a7⟩⟩⟩
    ·have hit:¬i < p.aZ.length:=bG
     refine (show ∃j:Nat,j=i - p.aZ.length from ⟨_,rfl⟩).elim λj hj=>?_
     have mr:IntKind.i64.wrap ((i:Int) - p.aZ.length)=(j:Int):=by rw [cD (by omega) (by omega)];omega
     have iO:0<=IntKind.i64.wrap ((i:Int) - p.aZ.length):=by rw [mr];omega
     have eE:(IntKind.i64.wrap ((i:Int) - p.aZ.length)).toNat < l.length:=by rw [mr];omega
     refine (bB eE).elim λdue hd=>?_
     have Iq:cJ L xc due:=(MK due (cb hd)).mono Ip
     refine (JX ins xc hL hi ⟨4,IntKind.i64.wrap ((i:Int) - p.aZ.length),0⟩).elim λwv qx=>?_
     cbv
     refine ⟨⟨iO,eE⟩,?_⟩
     cbv
     refine ⟨due,⟨hd,rfl⟩,?_⟩
     cbv
     refine bV.rel zf ⟨L,xc,due⟩ (by exact cQ) ⟨agc,Iq⟩ λz1 iT=>?_
     have iT:dV L xc 1 z1:=iT.out
     have a1:=iT.lo
     have a2:=iT.hi
     have QJ:=qx.2.mono a1
     have VY:eC L z1.gs:=⟨iT.ok,by omega,by omega⟩
     cbv
     refine ⟨⟨ins,⟨4,IntKind.i64.wrap ((i:Int) - p.aZ.length),0⟩⟩,⟨by exact aL,by show ins.length<=_;omega⟩,?_⟩
     cbv
     refine bV.rel HO ⟨L,z1.gs,z1.n,wv⟩ (by have bm:=qx.1.symm;exact cQ) ⟨VY,iT.n,QJ,trivial⟩ λz2 iJ=>?_
     have iJ:dV L z1.gs 1 z2:=iJ.out
     have a3:=iJ.lo
     have a4:=iJ.hi
     have VZ:eC L z2.gs:=⟨iJ.ok,by omega,by omega⟩
     have Xk:=z9.mono (v9 a1 a3)
     cbv
     refine bV.rel Cz ⟨L,z2.gs,fi,z2.n⟩ (by exact cQ) ⟨VZ,Xk,iJ.n,trivial⟩ λz3 uL=>?_
     have uL:dV L z2.gs 1 z3:=uL.out
     have a5:=uL.lo
     have a6:=uL.hi
     have bA:Xg L cF (p.aZ.length+p.ec.length) ⟨i+1,z3.gs,z3.n⟩:=⟨bq,uL.ok,by show cF.length<=z3.gs.length;omega,by show z3.gs.length<=cF.length+3*(i+1);omega,uL.n⟩
     cbv
     exact ⟨⟨i+1,z3.gs,z3.n⟩,by have bm:=h1;exact bI,by have bm:=hL.symm;exact bI,⟨⟨bA,a7⟩⟩⟩
   ·have QL:i=p.aZ.length+p.ec.length:=by
     have h':aS i (IntKind.i64.wrap ((p.aZ.length:Int)+p.ec.length))=false:=h.out
     rw [PO] at h'
     simp [aS] at h'
     omega
    have bW:EY L p ⟨xc,yE,l,data,fi⟩:=⟨Xj,by show xc.length<=6000;omega,ass,QK.mono Ip,ast,MK.mono Ip,(bS ▸ Vq).mono Ip,z9⟩
    cbv
    refine .mk' ⟨xc,yE,l,data,fi⟩ ⟨by exact cQ⟩ ?_
    have hL:((ins.length:Nat):Int)=L:=hL
    show EY ins.length p _
    rw [hL]
    exact bW
end Go.Proofs.Pk
