import Derived.Test.YthnhbemmlfaihaaGreatO13
import Derived.Test.YthnhbemmlfaihaaGreatO15
import Derived.Test.YthnhbemmlfaihaaGreatO17
import Derived.Test.YthnhbemmlfaihaaGreatO18
set_option linter.unusedVariables false
set_option linter.unusedSimpArgs false
set_option maxRecDepth 10000
set_option maxHeartbeats 64000000
namespace Go.Proofs.Pk
open Go Go.Vc
structure z7 (I:Nat) (gs:List Gate) (c:Cut) (y:acD):Prop where
 ok:y.e=0/\eK I gs c.root c.l=some y.l\/y.e=250/\eK I gs c.root c.l=none
@[reducible] noncomputable def anJ:jT where
 α:=NC
 args x:=[.agg (jX x.n),.agg [.i .i64 (λ_=>x.c.root),.sl 1 bC (λ_=>x.c.l)]]
 pre x:=cb x.n.ins.length x.n.aY/\x.c.l.length<=1000000
 β:=acD
 post x y:=z7 x.n.ins.length x.n.aY x.c y
 res x y:=.agg [.sl 1 bC (λ_=>y.l),.i .i64 (λ_=>y.e)]
theorem akw {l:List Int} {n:Int} (h:oE l n=false):n∉l:=λhm=>by rw [Ex.2 hm] at h;cases h
theorem aht {n:Net} {k:Nat} (h2:2<=k) (hN:k < 2+n.ins.length+n.aY.length) (h:mW n k=false):∃g,fy n.ins.length n.aY k=some g/\g.op≠7/\jk n.ins.length n.aY k=ca g:=by
 obtain ⟨i,g,e,hg,h7⟩:=YD h2 hN h
 refine ⟨g,lB.2 ⟨i,e,hg⟩,h7,?_⟩
 rw [e,show ((2+n.ins.length+i:Nat):Int)=2+(n.ins.length:Int)+i by omega]
 exact KG hg
theorem aje {I:Nat} {gs:List Gate} {S:List Int} {k:Nat} (h:(k:Int)∈S):nZ I gs S k=[]:=by
 unfold nZ
 rw [if_pos (by simpa using h)]
theorem alJ {I:Nat} {gs:List Gate} {S:List Int} {k:Nat} (h:k < 2):nZ I gs S k=[]:=by
 unfold nZ fy
 rw [if_pos (show k < 2+I by omega)]
 split<;>rfl
theorem alK {b:Bool} (h:(!b)=false):b=true:=by simpa using h
noncomputable def cCx (n m:Nat):Ctx:=iD n m [(54,Tryz.f54)] [(51,q7),(260,QJ),(245,MX),(122,RJ)] [54]
theorem Mu (n m:Nat):CB PP (cCx n m):=iH n m ⟨fo Tryz.func54,trivial⟩ ⟨rS,Xs,Q6,Zv,trivial⟩
theorem Zw:kQ PP 238 anJ:=by
 refine qZ (Mu 0 0) (fo Tryz.func238) (λa=>⟨mr a.n,⟨trivial,(λx=>(cP x).1),trivial⟩,trivial⟩) (λa y=>⟨(λx=>(cP x).1),trivial,trivial⟩) ?_
 rintro ⟨⟨ins,gs,outs,dr⟩,⟨root,l⟩⟩ hx
 obtain ⟨hn,hl⟩:cb ins.length gs/\l.length<=1000000:=hx
 have uI:2+ins.length+gs.length<=600:=hn.j6
 have xB:eK ins.length gs root l=none->z7 ins.length gs ⟨root,l⟩ ⟨[],250⟩:=λh=>⟨.inr ⟨rfl,h⟩⟩
 obtain ⟨N,hN⟩:∃N,N=fg ⟨ins,gs,outs,dr⟩:=⟨_,rfl⟩
 have Jr:N=2+(ins.length:Int)+gs.length:=hN
 have apu:l.length<=1000000000000:=by omega
 have Ja:2+ins.length+gs.length<=1000000:=by omega
 refine ⟨?_⟩
 cbv
 refine ⟨λh=>?_,λh=>?_⟩
 ·have wb:root < 2:=aL
  have hb:=xB (Qo λh=>by have:=h.lo;omega)
  clear h
  cbv
  exact .mk' ⟨[],250⟩ ⟨by exact bW⟩ hb
 ·have wb:¬root < 2:=aL
  clear h
  cbv
  refine ⟨⟨ins,gs,outs,dr⟩,⟨by exact bW,Ja⟩,?_⟩
  cbv
  refine ⟨λh=>?_,λh=>?_⟩
  ·have Js:fg ⟨ins,gs,outs,dr⟩<=root:=Iz h.out
   have hb:=xB (Qo λh=>by have:=h.hi;rw [<-hN] at Js;exact bT)
   clear h
   cbv
   exact .mk' ⟨[],250⟩ ⟨by exact bW⟩ hb
  ·have Js:¬fg ⟨ins,gs,outs,dr⟩<=root:=Ej.2 (Fo h.out)
   have Js:root < N:=by rw [<-hN] at Js;exact bT
   have acE:root < 2+(ins.length:Int)+gs.length:=by exact bT
   clear h
   cbv
   refine ⟨⟨root,l⟩,⟨by exact bW,hl⟩,?_⟩
   cbv
   refine ⟨λh=>?_,λh=>?_⟩
   ·have cv:zZ ⟨root,l⟩=false:=by have:=h.out;simpa using this
    have hb:=xB (Qo λh=>by rw [(Xt (by omega) acE).2 h] at cv;cases cv)
    clear h
    cbv
    exact .mk' ⟨[],250⟩ ⟨by exact bW⟩ hb
   ·have mX:zZ ⟨root,l⟩=true:=by have:=h.out;simpa using this
    have hL:=(Xt (by omega) acE).1 mX
    obtain ⟨rt,Dp⟩:∃rt:Nat,(rt:Int)=root:=⟨root.toNat,by omega⟩
    have kO:IntKind.i64.wrap (root+1)=((rt+1:Nat):Int):=by rw [cW (by exact bT) (by exact bT)];omega
    have axz:rt<=600:=by exact bT
    have vT:(List.replicate (IntKind.i64.wrap (root+1)).toNat false).length=rt+1:=by rw [vr,kO];rfl
    have aae:0<=root/\root.toNat < (List.replicate (IntKind.i64.wrap (root+1)).toNat false).length:=by rw [vT];omega
    have apv:root.toNat=rt:=by omega
    obtain ⟨b0,so⟩:=bK aae.2
    have m1:0<=IntKind.i64.wrap (root+1):=by rw [kO];omega
    have m2:(1:Int)*IntKind.i64.wrap (root+1)<=281474976710656:=by rw [kO];omega
    have m3:IntKind.i64.wrap (root+1)<=9223372036854775807:=by rw [kO];omega
    have cC:iv ins.length gs l rt (rt+1) ((List.replicate (IntKind.i64.wrap (root+1)).toNat false).set root.toNat true) []:=by rw [kO,apv];exact iv.start
    have gR:root=((rt+1:Nat):Int) - 1:=by omega
    rw [<-Dp] at hL
    have apw:∀nd d,iv ins.length gs l rt 0 nd d->eK ins.length gs root l=some d.reverse:=λnd d h=>by rw [<-Dp];exact h.fin hn hL
    have apx:∀u nd d,iv ins.length gs l rt (u+1) nd d->(u:Int)∈l->nd[u]?=some false->z7 ins.length gs ⟨root,l⟩ ⟨[],250⟩:=λu nd d h h1 h2=>xB (by rw [<-Dp];exact h.apd hn h1 h2)
    have apy:∀u nd d,iv ins.length gs l rt (u+1) nd d->nd[u]?=some true->(u:Int)∉l->mW ⟨ins,gs,outs,dr⟩ u=true->z7 ins.length gs ⟨root,l⟩ ⟨[],250⟩:=λu nd d h h1 h2 h3=>xB (by rw [<-Dp];exact h.ape hn h1 (ahq (n:=⟨ins,gs,outs,dr⟩) h3 h2))
    clear xB h
    cbv
    refine ⟨⟨m1,iU _,m2,m3⟩,?_⟩
    cbv
    refine ⟨⟨aae⟩,?_⟩
    cbv
    refine ⟨(b0,true),⟨so,rfl,by exact bW⟩,?_⟩
    cbv
    refine Sat.cU (Mu 0 0) 5 5 [(.t 6,4)] (λx:DG=>[(5,.own 3),(6,.own 4),(7,.i .i64 λ_=>(x.k:Int) - 1)]) (λx=>[(3,.dyn 4 1 lX λ_=>x.nd),(4,.dyn 3 1 bC λ_=>x.d)])
     (λx=>iv ins.length gs l rt x.k x.nd x.d/\x.d.length+x.k<=rt+1) (λx=>x.k) ⟨rt+1,(List.replicate (IntKind.i64.wrap (root+1)).toNat false).set root.toNat true,[]⟩ (by have bD:=gR;exact a8) (by exact aM) ⟨cC,by simp⟩ ?_
    rintro ⟨k,nd,d⟩ ⟨hC,hlen⟩
    have hC:iv ins.length gs l rt k nd d:=hC
    have hlen:d.length+k<=rt+1:=hlen
    have hk:=hC.kl
    have fM:=hC.len
    cbv
    refine ⟨λh=>?_,λh=>?_⟩
    ·have ie:0<=(k:Int) - 1:=Iz h.out
     clear h
     refine (⟨k - 1,by omega⟩:∃u,k=u+1).elim λu hu=>?_
     have Jt:(k:Int) - 1=(u:Int):=by omega
     have eM:0<=(k:Int) - 1/\((k:Int) - 1).toNat < nd.length:=by omega
     have T9:((k:Int) - 1).toNat=u:=by omega
     obtain ⟨b1,ig⟩:=bK eM.2
     have vU:nd[u]?=some b1:=by rw [<-T9];exact ig
     have rY:0<=(k:Int) - 1/\(k:Int) - 1 < fg ⟨ins,gs,outs,dr⟩:=⟨eM.1,by rw [<-hN];exact bT⟩
     have NU:IntKind.i64.wrap ((k:Int) - 1 - 1)=(u:Int) - 1:=by rw [cW (by omega) (by omega)];omega
     have bX:u < k:=by omega
     have Ua:d.length+u<=rt+1:=by omega
     have y7:iv ins.length gs l rt (u+1) nd d:=by rw [<-hu];exact hC
     have Ju:((u:Int)∈l->nd[u]?=some true)->(nd[u]?=some true->nZ ins.length gs l u=[]/\pR ins.length gs l u=true/\((u:Int)∈l\/u < 2))->iv ins.length gs l rt u nd d:=λa b=>y7.down a b
     have anK:=apx u nd d y7
     have anL:=apy u nd d y7
     have d1:(d.length+1)*8<=140737488355328:=by omega
     have d2:d.length+1<=9223372036854775807:=by omega
     have hu6:u < 2+ins.length+gs.length:=by exact bT
     have hIn:oE l ((k:Int) - 1)=true->(u:Int)∈l:=λh=>by rw [<-Jt];exact Ex.1 h
     have hNo:oE l ((k:Int) - 1)=false->(u:Int)∉l:=λh=>by rw [<-Jt];exact akw h
     have anM:mW ⟨ins,gs,outs,dr⟩ ((k:Int) - 1)=true->nd[u]?=some true->(u:Int)∉l->z7 ins.length gs ⟨root,l⟩ ⟨[],250⟩:=λh a b=>by rw [Jt] at h;exact anL a b h
     have hSG:mW ⟨ins,gs,outs,dr⟩ ((k:Int) - 1)=false->2<=u->∃g,fy ins.length gs u=some g/\g.op≠7/\jk ins.length gs ((k:Int) - 1)=ca g:=λh h2=>by rw [Jt] at h ⊢;exact aht (n:=⟨ins,gs,outs,dr⟩) h2 hu6 h
     have alL:∀g e7,fy ins.length gs u=some g->g.op≠7->(u:Int)∉l->2<=u->iv ins.length gs l rt (u+1) e7 d->e7[u]?=some true->(∀x∈ca g,e7[x.toNat]?=some true)->iv ins.length gs l rt u e7 (d++[(k:Int) - 1]):=λg e7 a1 a2 a3 a4 h1 h2 h3=>by rw [Jt];exact h1.gate h2 a3 a4 a1 a2 h3
     cbv
     refine ⟨⟨l,(k:Int) - 1⟩,⟨by exact bW,apu⟩,?_⟩
     cbv
     refine ⟨λh=>?_,λh=>?_⟩
     ·have cv:oE l ((k:Int) - 1)=true:=h.out
      have dw:(u:Int)∈l:=hIn cv
      clear h
      cbv
      refine ⟨⟨eM⟩,?_⟩
      cbv
      refine ⟨b1,⟨ig,rfl⟩,?_⟩
      cbv
      refine ⟨λh=>?_,λh=>?_⟩
      ·have hb:b1=false:=by have h':(!b1)=true:=h.out;simpa using h'
       have qC:=anK dw (by rw [vU,hb])
       clear h
       cbv
       exact .mk' ⟨[],250⟩ ⟨by exact bW⟩ qC
      ·have hb:b1=true:=alK h.out
       have hd:=Ju (λ_=>by rw [vU,hb]) λ_=>⟨aje dw,vp.2 (.inl dw),.inl dw⟩
       clear h
       cbv
       refine ⟨⟨eM⟩,?_⟩
       cbv
       refine ⟨b1,⟨ig,rfl⟩,?_⟩
       cbv
       refine ⟨λh=>?_,λh=>?_⟩
       ·clear h
        cbv
        refine ⟨λh=>?_,λh=>?_⟩
        ·have h':(!oE l ((k:Int) - 1))=true:=h.out
         cases (show False by rw [cv] at h';cases h')
        clear h
        cbv
        refine ⟨⟨eM⟩,?_⟩
        cbv
        refine ⟨b1,⟨ig,rfl⟩,?_⟩
        cbv
        refine ⟨λh=>?_,λh=>?_⟩
        ·have h':(!b1)=true:=h.out
         cases (show False by rw [hb] at h';cases h')
        clear h
        cbv
        refine ⟨λh=>?_,λh=>?_⟩
        rotate_left
        ·have h':oE l ((k:Int) - 1)=false:=h.out
         cases (show False by rw [cv] at h';cases h')
        clear h
        cbv
        exact ⟨⟨u,nd,d⟩,by have bD:=NU;exact a8,by exact aM,⟨⟨hd,Ua⟩,bX⟩⟩
       ·have h':b1=false:=h.out
        cases (show False by rw [hb] at h';cases h')
     ·have cv:oE l ((k:Int) - 1)=false:=h.out
      have dw:(u:Int)∉l:=hNo cv
      clear h
      cbv
      refine ⟨⟨eM⟩,?_⟩
      cbv
      refine ⟨b1,⟨ig,rfl⟩,?_⟩
      cbv
      refine ⟨λh=>?_,λh=>?_⟩
      ·have hb:b1=true:=h.out
       have lI:nd[u]?=some true:=by rw [vU,hb]
       clear h
       cbv
       refine ⟨λh=>?_,λh=>?_⟩
       rotate_left
       ·have h':(!oE l ((k:Int) - 1))=false:=h.out
        cases (show False by rw [cv] at h';cases h')
       clear h
       cbv
       refine ⟨⟨⟨ins,gs,outs,dr⟩,(k:Int) - 1⟩,⟨by exact bW,hn,rY⟩,?_⟩
       cbv
       refine ⟨λh=>?_,λh=>?_⟩
       ·have cC:mW ⟨ins,gs,outs,dr⟩ ((k:Int) - 1)=true:=h.out
        have qC:=anM cC lI dw
        clear h
        cbv
        exact .mk' ⟨[],250⟩ ⟨by exact bW⟩ qC
       ·have cC:mW ⟨ins,gs,outs,dr⟩ ((k:Int) - 1)=false:=h.out
        clear h
        cbv
        refine ⟨⟨eM⟩,?_⟩
        cbv
        refine ⟨b1,⟨ig,rfl⟩,?_⟩
        cbv
        refine ⟨λh=>?_,λh=>?_⟩
        ·have h':(!b1)=true:=h.out
         cases (show False by rw [hb] at h';cases h')
        clear h
        cbv
        refine ⟨λh=>?_,λh=>?_⟩
        ·have h':oE l ((k:Int) - 1)=true:=h.out
         cases (show False by rw [cv] at h';cases h')
        clear h
        cbv
        refine ⟨λh=>?_,λh=>?_⟩
        ·have hu2:(k:Int) - 1 < 2:=acr h.out
         have F7:u < 2:=by omega
         have hd:=Ju (λh=>absurd h dw) λ_=>⟨alJ F7,vp.2 (.inr (.inl F7)),.inr F7⟩
         clear h
         cbv
         exact ⟨⟨u,nd,d⟩,by have bD:=NU;exact a8,by exact aM,⟨⟨hd,Ua⟩,bX⟩⟩
        ·have hu2:2<=(k:Int) - 1:=Ss h.out
         have F7:2<=u:=by omega
         refine (hSG cC F7).elim λg hg=>?_
         have uU:fy ins.length gs u=some g:=hg.1
         have NR:=hg.2.1
         have y3:jk ins.length gs ((k:Int) - 1)=ca g:=hg.2.2
         have apz:=(s7 g).2
         have acF:∀x∈ca g,x∈nZ ins.length gs l u:=λx hx=>qp.2 ⟨dw,g,uU,NR,hx⟩
         have SG:∀x∈ca g,0<=x/\x < (u:Int):=λx hx=>Ci hn (acF x hx)
         have abt:∀e7,iv ins.length gs l rt (u+1) e7 d->e7[u]?=some true->(∀x∈ca g,e7[x.toNat]?=some true)->iv ins.length gs l rt u e7 (d++[(k:Int) - 1]):=λe7=>alL g e7 uU NR dw F7
         have abu:∀e7 x,x∈ca g->iv ins.length gs l rt (u+1) e7 d->iv ins.length gs l rt (u+1) (e7.set x.toNat true) d:=λe7 x hx h1=>h1.mark (.step (y7.snd u lI) (acF x hx)) (by have:=SG x hx;omega)
         obtain ⟨os,F6⟩:∃os,os=ca g:=⟨_,rfl⟩
         rw [<-F6] at y3 apz SG abt abu
         clear h
         cbv
         refine ⟨[(k:Int) - 1],⟨by exact bW,d1,d2⟩,?_⟩
         cbv
         refine fh.rel ED ⟨⟨ins,gs,outs,dr⟩,(k:Int) - 1⟩ (by exact bW) ⟨hn,rY⟩ λops jw=>?_
         have jw:ops=jk ins.length gs ((k:Int) - 1):=jw.out
         have RM:ops=os:=jw.trans y3
         clear jw y3
         subst RM
         cbv
         refine Sat.cU (Mu 0 0) 7 10 [] (λx:Nat × List Bool=>[(10,.i .i64 λ_=>(x.1:Int))]) (λx=>[(3,.dyn 4 1 lX λ_=>x.2)])
          (λx=>x.1<=ops.length/\iv ins.length gs l rt (u+1) x.2 d/\x.2[u]?=some true/\∀i y,i < x.1->ops[i]?=some y->x.2[y.toNat]?=some true) (λx=>ops.length - x.1) (0,nd) (by exact aM) (by exact aM) ⟨cg _,y7,lI,λi y hi=>by omega⟩ ?_
         rintro ⟨i,e7⟩ ⟨hi,qa,M1,eG⟩
         have hi:i<=ops.length:=hi
         have qa:iv ins.length gs l rt (u+1) e7 d:=qa
         have M1:e7[u]?=some true:=M1
         have eG:∀i' y,i' < i->ops[i']?=some y->e7[y.toNat]?=some true:=eG
         have azl:=qa.len
         have cZ:=n0 i
         have ei:=cX (i:=i) (by omega)
         cbv
         refine ⟨λh=>?_,λh=>?_⟩
         ·have bQ:i < ops.length:=aL
          have CY:ops.length - (i+1) < ops.length - i:=by omega
          obtain ⟨op,eQ⟩:=bK bQ
          have acG:=cf eQ
          have SD:=SG op acG
          have M3:0<=op/\op.toNat < e7.length:=by exact bT
          obtain ⟨b2,nD⟩:=bK M3.2
          have xq:∀z:Nat,e7[z]?=some true->(e7.set op.toNat true)[z]?=some true:=λz hz=>by
           rw [gL]
           split
           ·rename_i e;subst e;rw [if_pos M3.2]
           ·exact hz
          have bV:i+1<=ops.length/\iv ins.length gs l rt (u+1) (e7.set op.toNat true) d/\(e7.set op.toNat true)[u]?=some true/\∀i' y,i' < i+1->ops[i']?=some y->(e7.set op.toNat true)[y.toNat]?=some true:=⟨bQ,abu e7 op acG qa,xq u M1,λi' y j4 hy=>by
           rcases pG i' i with q|q
           ·exact xq _ (eG i' y q hy)
           ·have e:i'=i:=by omega
            subst e
            rw [eQ] at hy;cases hy
            rw [gL,if_pos rfl,if_pos M3.2]⟩
          clear h
          cbv
          refine ⟨op,⟨cZ,eQ⟩,?_⟩
          cbv
          refine ⟨⟨M3⟩,?_⟩
          cbv
          refine ⟨(b2,true),⟨nD,rfl,by exact bW⟩,?_⟩
          cbv
          exact ⟨(i+1,e7.set op.toNat true),by have bD:=ei;exact a8,by exact aM,⟨bV,CY⟩⟩
         ·have bQ:¬i < ops.length:=aL
          have hg:=abt e7 qa M1 λx hx=>by
           obtain ⟨i',j4⟩:=lN hx
           exact eG i' x (by have:=(a7.1 j4).1;omega) j4
          have hlg:(d++[(k:Int) - 1]).length+u<=rt+1:=by rw [List.length_append,sZ];omega
          clear h
          cbv
          exact ⟨⟨u,e7,d++[(k:Int) - 1]⟩,by have bD:=NU;exact a8,by exact aM,⟨⟨hg,hlg⟩,bX⟩⟩
      ·have hb:b1=false:=h.out
       have hd:=Ju (λh=>absurd h dw) λh=>by rw [vU,hb] at h;cases h
       clear h
       cbv
       refine ⟨⟨eM⟩,?_⟩
       cbv
       refine ⟨b1,⟨ig,rfl⟩,?_⟩
       cbv
       refine ⟨λh=>?_,λh=>?_⟩
       rotate_left
       ·have h':(!b1)=false:=h.out
        cases (show False by rw [hb] at h';cases h')
       clear h
       cbv
       exact ⟨⟨u,nd,d⟩,by have bD:=NU;exact a8,by exact aM,⟨⟨hd,Ua⟩,bX⟩⟩
    ·have ie:¬0<=(k:Int) - 1:=Ej.2 (Fo h.out)
     have gR:k=0:=by omega
     subst gR
     have iJ:=apw nd d hC
     have ax9:d.length<=601:=by omega
     have n7:IntKind.i64.wrap ((d.length:Int) - 1)=(d.length:Int) - 1:=by rw [cW (by omega) (by omega)]
     clear h
     cbv
     refine Sat.cU (Mu 0 0) 6 11 [(.t 11,5)] (λx:Nat × List Int=>[(11,.own 5),(12,.i .i64 λ_=>(x.1:Int) - 1)]) (λx=>[(5,.dyn 3 1 bC λ_=>x.2)])
      (λx=>x.1<=d.length/\x.2=(d.drop x.1).reverse) (λx=>x.1) (d.length,[]) (by have bD:=n7;exact a8) (by exact aM) ⟨fb _,by simp⟩ ?_
     rintro ⟨j,o⟩ ⟨hj,ho⟩
     have hj:j<=d.length:=hj
     have ho:o=(d.drop j).reverse:=ho
     have fj:o.length<=601:=by rw [ho];simp;omega
     have e1:(o.length+1)*8<=140737488355328:=by omega
     have e2:o.length+1<=9223372036854775807:=by omega
     cbv
     refine ⟨λh=>?_,λh=>?_⟩
     ·have jm:0<=(j:Int) - 1:=Iz h.out
      obtain ⟨z,hz⟩:=bK (l:=d) (i:=j - 1) (by omega)
      have Dh:IntKind.i64.wrap ((j:Int) - 1 - 1)=((j - 1:Nat):Int) - 1:=by rw [cW (by omega) (by omega)];omega
      have hjn:((j:Int) - 1).toNat=j - 1:=by omega
      have hjx:0<=(j:Int) - 1/\((j:Int) - 1).toNat < d.length:=by omega
      have hjz:d[((j:Int) - 1).toNat]?=some z:=by rw [hjn];exact hz
      have hJ:(j - 1<=d.length/\o++[z]=(d.drop (j - 1)).reverse)/\j - 1 < j:=⟨⟨by omega,by rw [z6 hz,List.reverse_cons,ho,show j - 1+1=j by omega]⟩,by omega⟩
      clear h
      cbv
      refine ⟨⟨hjx⟩,?_⟩
      cbv
      refine ⟨z,⟨hjz,rfl⟩,?_⟩
      cbv
      refine ⟨[z],⟨by exact bW,e1,e2⟩,?_⟩
      cbv
      exact ⟨(j - 1,o++[z]),by have bD:=Dh;exact a8,by exact aM,⟨hJ⟩⟩
     ·have jm:¬0<=(j:Int) - 1:=Ej.2 (Fo h.out)
      have gV:j=0:=by omega
      subst gV
      have du:z7 ins.length gs ⟨root,l⟩ ⟨o,0⟩:=⟨.inl ⟨rfl,by rw [ho];exact iJ⟩⟩
      clear h
      cbv
      exact .mk' ⟨o,0⟩ ⟨by exact bW⟩ du
end Go.Proofs.Pk
