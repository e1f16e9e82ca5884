import Derived.Test.YthnhbemmlfaihaaGreatO13
import Derived.Test.YthnhbemmlfaihaaGreatO16
set_option linter.unusedVariables false
set_option linter.unusedSimpArgs false
set_option maxRecDepth 10000
set_option maxHeartbeats 64000000
namespace Go.Proofs.Pk
open Go Go.Vc
theorem SC {L:List (List Int)} {v:Nat} (hn:L.Nodup) (hv:v<=600) (h:∀l∈L,l.length<=4/\(l=[(v:Int)]\/∀x∈l,0<=x/\x < (v:Int))):L.length<=133090713856 :=
 K9 hn λl hl=>⟨(h l hl).1,λx hx=>by
  rcases (h l hl).2 with e|e
  ·subst e;simp at hx;omega
  ·have:=e x hx;omega⟩
theorem uW.gl {I:Nat} {gs:List Gate} {v:Nat} {C:List (List Int)} (h:uW I gs v C) (hv:v<=600):C.length<=133090713856 :=
 K9 (uH.nodup h.eT.pf) λl hl=>⟨h.eT.len l hl,λx hx=>by have:=h.eT.lim l hl x hx;omega⟩
theorem uW.lim {I:Nat} {gs:List Gate} {v:Nat} {C:List (List Int)} (h:uW I gs v C) {m:Int} (hv:(v:Int) < m):∀l∈C,∀x∈l,0<=x/\x < m:=λl hl x hx=>by have:=h.eT.lim l hl x hx;omega
structure acx (I:Nat) (gs:List Gate) (N:Nat) (x:EG):Prop where
 lo:2<=x.v
 hi:x.v<=N
 len:x.R.length=x.v
 ok:w6 I gs x.R
structure aad (I:Nat) (gs:List Gate) (y:List (List (List Int))):Prop where
 len:y.length=2+I+gs.length
 ok:w6 I gs y
@[reducible] noncomputable def apj:jT where
 α:=NK
 args x:=[.agg (jX x.n),.i .i64 (λ_=>x.k)]
 pre x:=cb x.n.ins.length x.n.aY/\x.k=4
 β:=List (List (List Int))
 post x y:=aad x.n.ins.length x.n.aY y
 res x y:=.sl 1 yo (λ_=>y)
theorem YD {n:Net} {v:Nat} (hv:2<=v) (hN:v < 2+n.ins.length+n.aY.length) (h:mW n v=false):∃(i:Nat) (g:Gate),v=2+n.ins.length+i/\n.aY[i]?=some g/\g.op≠7:=by
 unfold mW at h
 by_cases h1:v < 2+n.ins.length
 ·exfalso
  have h3:(v:Int) < 2+(n.ins.length:Int):=by omega
  have h2:(2:Int)<=(v:Int):=by omega
  simp [h2,h3] at h
 ·obtain ⟨g,hg⟩:=bK (l:=n.aY) (i:=v - 2 - n.ins.length) (by omega)
  have e:((v:Int) - 2 - n.ins.length).toNat=v - 2 - n.ins.length:=by omega
  have h3:¬(v:Int) < 2+(n.ins.length:Int):=by omega
  have h2:(2:Int)<=(v:Int):=by omega
  rw [e,hg] at h
  simp [h2,h3] at h
  exact ⟨_,g,by omega,hg,h⟩
theorem ah7 {n:Net} {v:Nat} (h:mW n v=true):∀S:List Int,fl n.ins.length n.aY (·∈S) v->(v:Int)∈S:=by
 intro S hq
 unfold mW at h
 simp only [cG,decide_eq_true_eq,oq] at h
 obtain ⟨h2,h⟩:=h
 by_cases h3:(v:Int) < 2+(n.ins.length:Int)
 ·exact fl.input h2 h3 hq
 ·rcases h with h|h
  ·exact absurd h h3
  ·obtain ⟨i,hi⟩:∃i:Nat,(v:Int)=2+(n.ins.length:Int)+i:=⟨((v:Int) - 2 - n.ins.length).toNat,by omega⟩
   have e:((v:Int) - 2 - n.ins.length).toNat=i:=by omega
   rw [e] at h
   cases hg:n.aY[i]? with
   | none=>rw [hg] at h;cases h
   | some g =>
    rw [hg] at h
    have h7:g.op=7:=by simpa using h
    rw [hi] at hq ⊢
    exact WS λhn=>(fl.inv hg hq hn).1 h7
noncomputable def apk (n m:Nat):Ctx:=iD n m [(51,Tryz.f51),(54,Tryz.f54),(123,Tryz.f123),(124,Tryz.f124),(125,Tryz.f125)] [(122,RJ)] [54,123,124,125] [] [] [113] [35,36]
theorem EM (n m:Nat):CB PP (apk n m):=iH n m ⟨fo Tryz.func51,fo Tryz.func54,fo Tryz.func123,fo Tryz.func124,fo Tryz.func125,trivial⟩ ⟨Zv,trivial⟩
theorem alI:kQ PP 52 apj:=by
 refine qZ (EM 0 0) (fo Tryz.func52) (λa=>⟨mr a.n,trivial,trivial⟩) (λa y=>(λx=>(PZ x).1)) ?_
 rintro ⟨⟨ins,gs,outs,dr⟩,kk⟩ hx
 obtain ⟨hn,mE⟩:cb ins.length gs/\kk=4:=hx
 have uI:2+ins.length+gs.length<=600:=hn.j6
 obtain ⟨N,hN⟩:∃N,N=2+ins.length+gs.length:=⟨_,rfl⟩
 refine ⟨?_⟩
 cbv
 refine ⟨[[[]],[[]]],⟨by exact bW,rfl⟩,?_⟩
 cbv
 refine Sat.cU (EM 0 0) 6 5 [(.t 5,5)] (λx:EG=>[(5,.own 5),(6,.i .i64 λ_=>(x.v:Int))]) (λx=>[(5,.dyn 36 1 yo λ_=>x.R)])
  (λx=>acx ins.length gs N x) (λx=>N - x.v) ⟨2,[[[]],[[]]]⟩ (by exact a8) (by exact aM) ⟨fb _,by show 2<=N;omega,rfl,alG _ _⟩ ?_
 rintro ⟨v,R⟩ hE
 have fL:2<=v:=hE.lo
 have j5:v<=N:=hE.hi
 have hlen:R.length=v:=hE.len
 have iY:w6 ins.length gs R:=hE.ok
 clear hE
 have RK:v<=600:=by omega
 have eM:=n0 v
 have mL:=cX (i:=v) (by omega)
 have kO:IntKind.i64.wrap (IntKind.i64.wrap (2+(ins.length:Int))+gs.length)=N:=by rw [cW (n:=2+(ins.length:Int)) (by omega) (by omega),cW (by omega) (by omega)];omega
 have r1:(R.length+1)*24<=140737488355328:=by omega
 have r2:R.length+1<=9223372036854775807:=by omega
 cbv
 refine ⟨λh=>?_,λh=>?_⟩
 ·have p9:v < N:=by have:=h.out;simp only [dv,decide_eq_true_eq] at this;rw [kO] at this;exact bT
  have CX:N - (v+1) < N - v:=by omega
  have rY:0<=(v:Int)/\(v:Int) < 2+(ins.length:Int)+gs.length:=by omega
  have oH:v < 2+ins.length+gs.length:=by omega
  have acz:∀y,uW ins.length gs R.length y->acx ins.length gs N ⟨v+1,R++[y]⟩:=λy hy=>⟨by show 2<=v+1;omega,p9,by show (R++[y]).length=v+1;simp [hlen],iY.snoc hy⟩
  clear h
  cbv
  refine ⟨⟨⟨ins,gs,outs,dr⟩,(v:Int)⟩,⟨by exact bW,hn,rY⟩,?_⟩
  cbv
  refine ⟨λh=>?_,λh=>?_⟩
  ·have cC:mW ⟨ins,gs,outs,dr⟩ v=false:=by have:=h.out;simpa using this
   refine (YD (n:=⟨ins,gs,outs,dr⟩) fL oH cC).elim λgi iB=>?_
   refine iB.elim λg iB=>?_
   have pk:v=2+ins.length+gi:=iB.1
   have hg:gs[gi]?=some g:=iB.2.1
   have NR:=iB.2.2
   have jw:∀o∈ca g,0<=o/\o < (R.length:Int):=λo ho=>by have:=hn.ops hg o ho;omega
   have RL:jk ins.length gs v=ca g:=by rw [pk,show ((2+ins.length+gi:Nat):Int)=2+(ins.length:Int)+gi by omega];exact KG hg
   have hG:=akv iY hg NR (by omega) jw
   have fj:=(s7 g).2
   have hM:∀i,jJ (kC ins.length gs ((ca g).take i)) R.length (pZ R ((ca g).take i)):=λi=>aac iY λo ho=>jw o (qk ho)
   have hMn:∀i,(pZ R ((ca g).take i)).length<=133090713856:=λi=>SC (v:=v) (uH.nodup (hM i).pf) RK λl hl=>⟨(hM i).len l hl,.inr λx hx=>by have:=(hM i).lim l hl x hx;omega⟩
   have NS:∀i,∀l∈pZ R ((ca g).take i),l.length<=4/\∀x∈l,0<=x/\x < (v:Int):=λi l hl=>⟨(hM i).len l hl,λx hx=>by have:=(hM i).lim l hl x hx;omega⟩
   have hMi:∀i,∀l∈pZ R ((ca g).take i),dU l:=λi=>(hM i).inc
   obtain ⟨os,F6⟩:∃os,os=ca g:=⟨_,rfl⟩
   rw [<-F6] at jw RL hG fj hM hMn NS hMi
   clear h
   cbv
   refine fh.rel ED ⟨⟨ins,gs,outs,dr⟩,(v:Int)⟩ (by exact bW) ⟨hn,rY⟩ λops Mt=>?_
   have Mt:ops=jk ins.length gs v:=Mt.out
   have RM:ops=os:=Mt.trans RL
   clear Mt RL
   subst RM
   cbv
   refine Sat.cU (EM 0 0) 6 8 [] (λx:Nat × List (List Int)=>[(8,.sl 1 eB λ_=>x.2),(9,.sl 1 bC λ_=>ops),(10,.i .i64 λ_=>(x.1:Int))]) (λ_=>[])
    (λx=>x.1<=ops.length/\x.2=pZ R (ops.take x.1)) (λx=>ops.length - x.1) (0,[[]]) (by exact aM) (by exact aM) ⟨cg _,rfl⟩ ?_
   rintro ⟨i,mg⟩ ⟨hi,tD⟩
   have hi:i<=ops.length:=hi
   have tD:mg=pZ R (ops.take i):=tD
   have cZ:=n0 i
   have ei:=cX (i:=i) (by omega)
   have azh:mg.length<=133090713856:=by rw [tD];exact hMn i
   have MZ:∀l∈mg,l.length<=4/\∀x∈l,0<=x/\x < (v:Int):=by rw [tD];exact NS i
   have apl:∀l∈mg,dU l:=by rw [tD];exact hMi i
   cbv
   refine ⟨λh=>?_,λh=>?_⟩
   ·have bQ:i < ops.length:=aL
    have CY:ops.length - (i+1) < ops.length - i:=by omega
    obtain ⟨op,eQ⟩:=bK bQ
    have SD:=jw op (cf eQ)
    have SE:op.toNat < R.length:=by exact bT
    obtain ⟨L,hL⟩:=bK SE
    have NT:=iY _ L hL
    have wv:=NT.gl (by omega)
    have hLv:∀l∈L,∀x∈l,0<=x/\x < (v:Int):=NT.lim (by omega)
    have anH:pZ R (ops.take (i+1))=nQ mg L:=by
     rw [pJ eQ,ah5,<-tD]
     have:R.getD op.toNat []=L:=by rw [List.getD_eq_getElem?_getD,hL];rfl
     rw [this]
    have hNx:∀a b,(mK mg L a b).length<=133090713856/\∀l∈mK mg L a b,l.length<=1000:=λa b=>by
     have:=alH (A:=mg) (L:=L) (m:=(v:Int)) (λl hl=>(MZ l hl).2) hLv (a:=a) (b:=b)
     exact ⟨SC this.1 RK λl hl=>⟨(this.2 l hl).1,.inr (this.2 l hl).2⟩,λl hl=>by have:=(this.2 l hl).1;omega⟩
    clear h
    cbv
    refine Sat.cU (EM 0 0) 6 11 [] (λx:Nat × List (List Int)=>[(11,.sl 1 eB λ_=>x.2),(12,.i .i64 λ_=>(x.1:Int))]) (λ_=>[])
     (λx=>x.1<=mg.length/\x.2=mK mg L x.1 0) (λx=>mg.length - x.1) (0,[]) (by exact aM) (by exact aM) ⟨cg _,(anE mg L).symm⟩ ?_
    rintro ⟨a,nx⟩ ⟨ha,wx⟩
    have ha:a<=mg.length:=ha
    have wx:nx=mK mg L a 0:=wx
    have AS:=n0 a
    have A5:=cX (i:=a) (by omega)
    cbv
    refine ⟨λh=>?_,λh=>?_⟩
    ·have nU:a < mg.length:=aL
     have apm:mg.length - (a+1) < mg.length - a:=by omega
     obtain ⟨ma,Jq⟩:=bK nU
     have apn:=MZ ma (cf Jq)
     have apo:=apl ma (cf Jq)
     clear h
     cbv
     refine Sat.cU (EM 0 0) 6 13 [] (λx:Nat × List (List Int)=>[(11,.sl 1 eB λ_=>x.2),(13,.i .i64 λ_=>(x.1:Int))]) (λ_=>[])
      (λx=>x.1<=L.length/\x.2=mK mg L a x.1) (λx=>L.length - x.1) (0,nx) (by exact aM) (by exact aM) ⟨cg _,wx⟩ ?_
     rintro ⟨b,xC⟩ ⟨hb,ID⟩
     have hb:b<=L.length:=hb
     have ID:xC=mK mg L a b:=ID
     have so:=n0 b
     have ig:=cX (i:=b) (by omega)
     have acA:=hNx a b
     rw [<-ID] at acA
     cbv
     refine ⟨op,⟨cZ,eQ⟩,?_⟩
     cbv
     refine ⟨⟨SD.1,SE⟩,?_⟩
     cbv
     refine ⟨L,⟨hL,rfl⟩,?_⟩
     cbv
     refine ⟨λh=>?_,λh=>?_⟩
     ·have iP:b < L.length:=aL
      have acB:L.length - (b+1) < L.length - b:=by omega
      obtain ⟨lb,uY⟩:=bK iP
      have acC:=cf uY
      have azi:=NT.eT.len lb acC
      have apq:=NT.eT.inc lb acC
      have azj:=apn.1
      have u1:ma.length<=1000000:=by omega
      have u2:lb.length<=1000000:=by omega
      have RN:mK mg L a (b+1)=Fq xC (gE ma lb):=by rw [ID];exact anF Jq uY
      have q1:xC.length<=1000000000000:=by omega
      clear h
      cbv
      refine ⟨ma,⟨AS,Jq⟩,?_⟩
      cbv
      refine ⟨op,⟨cZ,eQ⟩,?_⟩
      cbv
      refine ⟨⟨SD.1,SE⟩,?_⟩
      cbv
      refine ⟨L,⟨hL,rfl⟩,?_⟩
      cbv
      refine ⟨lb,⟨so,uY⟩,?_⟩
      cbv
      refine fh.rel aab ⟨ma,lb⟩ (by exact bW) ⟨u1,u2,apo,apq⟩ λu hu=>?_
      have hu:u=gE ma lb:=hu.out
      rw [<-hu] at RN
      clear hu
      cbv
      refine ⟨λh=>?_,λh=>?_⟩
      ·have T8:u.length<=4:=by have:=h.out;simp only [fU,decide_eq_true_eq] at this;rw [mE] at this;exact bT
       have nC:ia xC u=mK mg L a (b+1):=by rw [RN];unfold Fq;rw [if_pos T8]
       have u3:u.length<=1000:=by omega
       clear h
       cbv
       refine fh.rel Zt ⟨xC,u⟩ (by exact bW) ⟨q1,acA.2,u3⟩ λr hr=>?_
       have hr:r=ia xC u:=hr.out
       have wb:=hr.trans nC
       cbv
       exact ⟨(b+1,r),by have bD:=ig;exact a8,by exact aM,⟨⟨iP,wb⟩,acB⟩⟩
      ·have T8:¬u.length<=4:=by have:=h.out;simp only [fU,decide_eq_false_iff_not] at this;rw [mE] at this;exact bT
       have nC:xC=mK mg L a (b+1):=by rw [RN];unfold Fq;rw [if_neg T8]
       clear h
       cbv
       exact ⟨(b+1,xC),by have bD:=ig;exact a8,by exact aM,⟨⟨iP,nC⟩,acB⟩⟩
     ·have iP:¬b < L.length:=aL
      have nC:xC=mK mg L (a+1) 0:=by rw [<-anG Jq,ID,show b=L.length by omega]
      clear h
      cbv
      exact ⟨(a+1,xC),by have bD:=A5;exact a8,by exact aM,⟨⟨nU,nC⟩,apm⟩⟩
    ·have nU:¬a < mg.length:=aL
     have nC:nx=pZ R (ops.take (i+1)):=by rw [anH,<-akt,wx,show a=mg.length by omega]
     clear h
     cbv
     exact ⟨(i+1,nx),by have bD:=ei;exact a8,by exact aM,⟨⟨bQ,nC⟩,CY⟩⟩
   ·have bQ:¬i < ops.length:=aL
    have apr:mg=pZ R ops:=by rw [tD,iL (by omega)]
    rw [<-apr] at hG
    have hLs:=aku MZ
    clear h
    cbv
    refine Sat.cU (EM 0 0) 6 7 [] (λx:Nat × List (List Int)=>[(7,.sl 1 eB λ_=>x.2),(8,.sl 1 eB λ_=>mg),(15,.i .i64 λ_=>(x.1:Int))]) (λ_=>[])
     (λx=>x.1<=mg.length/\x.2=vS v mg x.1) (λx=>mg.length - x.1) (0,[[(v:Int)]]) (by exact aM) (by exact aM) ⟨cg _,rfl⟩ ?_
    rintro ⟨j,l⟩ ⟨hj,hl⟩
    have hj:j<=mg.length:=hj
    have hl:l=vS v mg j:=hl
    have gV:=n0 j
    have jm:=cX (i:=j) (by omega)
    have sB:=hLs j
    rw [<-hl] at sB
    have mJ:l.length<=1000000000000:=by have:=SC sB.1 RK sB.2;omega
    have FL:∀y∈l,y.length<=1000:=λy hy=>by have:=(sB.2 y hy).1;omega
    have hl6:∀y∈l,y.length<=1000000:=λy hy=>by have:=(sB.2 y hy).1;omega
    cbv
    refine ⟨λh=>?_,λh=>?_⟩
    ·have dG:j < mg.length:=aL
     have SF:mg.length - (j+1) < mg.length - j:=by omega
     obtain ⟨mj,xD⟩:=bK dG
     have azk:=(MZ mj (cf xD)).1
     have aps:mj.length<=1000:=by omega
     have nC:ia l mj=vS v mg (j+1):=by rw [ah6 xD,hl]
     clear h
     cbv
     refine ⟨mj,⟨gV,xD⟩,?_⟩
     cbv
     refine fh.rel Zt ⟨l,mj⟩ (by exact bW) ⟨mJ,FL,aps⟩ λr hr=>?_
     have hr:r=ia l mj:=hr.out
     have wb:=hr.trans nC
     cbv
     exact ⟨(j+1,r),by have bD:=jm;exact a8,by exact aM,⟨⟨dG,wb⟩,SF⟩⟩
    ·have dG:¬j < mg.length:=aL
     have hE:l=vS R.length mg mg.length:=by rw [hl,hlen,show j=mg.length by omega]
     rw [<-hE] at hG
     clear h
     cbv
     refine fh.rel Zu l (by exact bW) ⟨mJ,hl6⟩ λy hy=>?_
     have hy:y=lW l:=hy.out
     rw [<-hy] at hG
     have hT:=acz y hG
     cbv
     refine ⟨[y],⟨by exact bW,rfl⟩,?_⟩
     cbv
     refine ⟨[y],⟨by exact bW,r1,r2⟩,?_⟩
     cbv
     exact ⟨⟨v+1,R++[y]⟩,by have bD:=mL;exact a8,by exact aM,⟨hT,CX⟩⟩
  ·have cC:mW ⟨ins,gs,outs,dr⟩ v=true:=by have:=h.out;simpa using this
   have hA:=aks fL (ah7 cC)
   have hA:uW ins.length gs v [[(v:Int)]]:=hA
   rw [<-hlen] at hA
   have z1:[[(v:Int)]].length<=1000000000000:=by show 1<=1000000000000;decide
   have z2:∀y∈[[(v:Int)]],y.length<=1000000:=λy hy=>by simp only [gD] at hy;subst hy;show 1<=1000000;decide
   have z3:lW [[(v:Int)]]=[[(R.length:Int)]]:=by rw [hlen];rfl
   clear h
   cbv
   refine fh.rel Zu [[(v:Int)]] (by exact bW) ⟨z1,z2⟩ λy hy=>?_
   have hy:y=lW [[(v:Int)]]:=hy.out
   have nq:=hy.trans z3
   have hT:=acz y (by rw [nq];exact hA)
   cbv
   refine ⟨[y],⟨by exact bW,rfl⟩,?_⟩
   cbv
   refine ⟨[y],⟨by exact bW,r1,r2⟩,?_⟩
   cbv
   exact ⟨⟨v+1,R++[y]⟩,by have bD:=mL;exact a8,by exact aM,⟨hT,CX⟩⟩
 ·have p9:v=N:=by have:=h.out;simp only [dv,decide_eq_false_iff_not] at this;rw [kO] at this;exact bT
  have anI:R.length=2+ins.length+gs.length:=by omega
  clear h
  cbv
  exact .mk' R ⟨by exact bW⟩ ⟨anI,iY⟩
end Go.Proofs.Pk
