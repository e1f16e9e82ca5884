import Derived.Test.YthnhbemmlfaihaaGreatQ11
import Derived.Test.YthnhbemmlfaihaaGreatQ22
import Derived.Test.YthnhbemmlfaihaaGreatQ23
import Derived.Test.YthnhbemmlfaihaaGreatQ27
import Derived.Test.YthnhbemmlfaihaaGreatQ28
set_option linter.unusedVariables false
set_option linter.unusedSimpArgs false
set_option maxRecDepth 10000
set_option maxHeartbeats 64000000
namespace Go.Proofs.Pk
open Go Go.Vc
structure afi where
 l:List Int
 e:Int
structure NC where
 n:Net
 c:Cut
structure DG where
 k:Nat
 nd:List Bool
 d:List Int
structure A4 (I:Nat) (gs:List Gate) (c:Cut) (y:afi):Prop where
 ok:y.e=0/\eC I gs c.root c.l=some y.l\/y.e=250/\eC I gs c.root c.l=none
@[reducible] noncomputable def aqJ:jT where
 α:=NC
 args x:=[.agg (jr x.n),.agg [.i .i64 (λ_=>x.c.root),.sl 1 bP (λ_=>x.c.l)]]
 pre x:=ca x.n.ins.length x.n.aT/\x.c.l.length<=1000000
 β:=afi
 post x y:=A4 x.n.ins.length x.n.aT x.c y
 res x y:=.agg [.sl 1 bP (λ_=>y.l),.i .i64 (λ_=>y.e)]
theorem anc {l:List Int} {n:Int} (h:rS l n=false):n∉l:=λhm=>by rw [F7.2 hm] at h;cases h
theorem ajZ {n:Net} {k:Nat} (h2:2<=k) (hN:k < 2+n.ins.length+n.aT.length) (h:qp n k=false):∃g,fI n.ins.length n.aT k=some g/\g.op≠7/\iy n.ins.length n.aT k=cC g:=by
 obtain ⟨i,g,e,hg,h7⟩:=alZ h2 hN h
 refine ⟨g,lL.2 ⟨i,e,hg⟩,h7,?_⟩
 rw [e,show ((2+n.ins.length+i:Nat):Int)=2+(n.ins.length:Int)+i by omega]
 exact Q8 hg
theorem al0 {I:Nat} {gs:List Gate} {S:List Int} {k:Nat} (h:(k:Int)∈S):oe I gs S k=[]:=by
 unfold oe
 rw [if_pos (by simpa using h)]
theorem aoO {I:Nat} {gs:List Gate} {S:List Int} {k:Nat} (h:k < 2):oe I gs S k=[]:=by
 unfold oe fI
 rw [if_pos (show k < 2+I by omega)]
 split<;>rfl
theorem aoP {b:Bool} (h:(!b)=false):b=true:=by simpa using h
noncomputable def cCx (n m:Nat):Ctx:=ie n m [(54,Tryz.f54)] [(51,qq),(260,S7),(245,Pc),(122,T7)] [54]
theorem Ow (n m:Nat):CB PP (cCx n m):=ik n m ⟨fo Tryz.func54,trivial⟩ ⟨qP,ZD,Tw,abJ,trivial⟩
theorem abK:k7 PP 238 aqJ:=by
 refine qS (Ow 0 0) (fo Tryz.func238) (λa=>⟨mu a.n,⟨trivial,(λx=>(df x).1),trivial⟩,trivial⟩) (λa y=>⟨(λx=>(df x).1),trivial,trivial⟩) ?_
 rintro ⟨⟨ins,gs,outs,dr⟩,⟨root,l⟩⟩ hx
 obtain ⟨hn,hl⟩:ca ins.length gs/\l.length<=1000000:=hx
 have vB:2+ins.length+gs.length<=600:=hn.k8
 have yB:eC ins.length gs root l=none->A4 ins.length gs ⟨root,l⟩ ⟨[],250⟩:=λh=>⟨.inr ⟨rfl,h⟩⟩
 obtain ⟨N,hN⟩:∃N,N=gv ⟨ins,gs,outs,dr⟩:=⟨_,rfl⟩
 have K9:N=2+(ins.length:Int)+gs.length:=hN
 have atp:l.length<=1000000000000:=by omega
 have KK:2+ins.length+gs.length<=1000000:=by omega
 refine ⟨?_⟩
 cbv
 refine ⟨λh=>?_,λh=>?_⟩
 ·have Ez:root < 2:=aH
  have hb:=yB (SE λh=>by have:=h.lo;omega)
  clear h
  cbv
  exact .mk' ⟨[],250⟩ ⟨by exact cj⟩ hb
 ·have Ez:¬root < 2:=aH
  clear h
  cbv
  refine ⟨⟨ins,gs,outs,dr⟩,⟨by exact cj,KK⟩,?_⟩
  cbv
  refine ⟨λh=>?_,λh=>?_⟩
  ·have Lq:gv ⟨ins,gs,outs,dr⟩<=root:=Ee h.out
   have hb:=yB (SE λh=>by have:=h.hi;rw [<-hN] at Lq;exact cx)
   clear h
   cbv
   exact .mk' ⟨[],250⟩ ⟨by exact cj⟩ hb
  ·have Lq:¬gv ⟨ins,gs,outs,dr⟩<=root:=C1.2 (Ef h.out)
   have Lq:root < N:=by rw [<-hN] at Lq;exact cx
   have afj:root < 2+(ins.length:Int)+gs.length:=by exact cx
   clear h
   cbv
   refine ⟨⟨root,l⟩,⟨by exact cj,hl⟩,?_⟩
   cbv
   refine ⟨λh=>?_,λh=>?_⟩
   ·have cw:A0 ⟨root,l⟩=false:=by have:=h.out;simpa using this
    have hb:=yB (SE λh=>by rw [(ZE (by omega) afj).2 h] at cw;cases cw)
    clear h
    cbv
    exact .mk' ⟨[],250⟩ ⟨by exact cj⟩ hb
   ·have nM:A0 ⟨root,l⟩=true:=by have:=h.out;simpa using this
    have hL:=(ZE (by omega) afj).1 nM
    obtain ⟨rt,EP⟩:∃rt:Nat,(rt:Int)=root:=⟨root.toNat,by omega⟩
    have mK:IntKind.i64.wrap (root+1)=((rt+1:Nat):Int):=by rw [dt (by exact cx) (by exact cx)];omega
    have aA2:rt<=600:=by exact cx
    have wT:(List.replicate (IntKind.i64.wrap (root+1)).toNat false).length=rt+1:=by rw [tT,mK];rfl
    have acR:0<=root/\root.toNat < (List.replicate (IntKind.i64.wrap (root+1)).toNat false).length:=by rw [wT];omega
    have atq:root.toNat=rt:=by omega
    obtain ⟨b0,s9⟩:=bO acR.2
    have m1:0<=IntKind.i64.wrap (root+1):=by rw [mK];omega
    have m2:(1:Int)*IntKind.i64.wrap (root+1)<=281474976710656:=by rw [mK];omega
    have m3:IntKind.i64.wrap (root+1)<=9223372036854775807:=by rw [mK];omega
    have cH:iG ins.length gs l rt (rt+1) ((List.replicate (IntKind.i64.wrap (root+1)).toNat false).set root.toNat true) []:=by rw [mK,atq];exact iG.start
    have kL:root=((rt+1:Nat):Int) - 1:=by omega
    rw [<-EP] at hL
    have atr:∀nd d,iG ins.length gs l rt 0 nd d->eC ins.length gs root l=some d.reverse:=λnd d h=>by rw [<-EP];exact h.fin hn hL
    have ats:∀u nd d,iG ins.length gs l rt (u+1) nd d->(u:Int)∈l->nd[u]?=some false->A4 ins.length gs ⟨root,l⟩ ⟨[],250⟩:=λu nd d h h1 h2=>yB (by rw [<-EP];exact h.atj hn h1 h2)
    have att:∀u nd d,iG ins.length gs l rt (u+1) nd d->nd[u]?=some true->(u:Int)∉l->qp ⟨ins,gs,outs,dr⟩ u=true->A4 ins.length gs ⟨root,l⟩ ⟨[],250⟩:=λu nd d h h1 h2 h3=>yB (by rw [<-EP];exact h.atk hn h1 (ajY (n:=⟨ins,gs,outs,dr⟩) h3 h2))
    clear yB h
    cbv
    refine ⟨⟨m1,mr _,m2,m3⟩,?_⟩
    cbv
    refine ⟨⟨acR⟩,?_⟩
    cbv
    refine ⟨(b0,true),⟨s9,rfl,by exact cj⟩,?_⟩
    cbv
    refine Sat.dq (Ow 0 0) 5 5 [(.t 6,4)] (λx:DG=>[(5,.own 3),(6,.own 4),(7,.i .i64 λ_=>(x.k:Int) - 1)]) (λx=>[(3,.dyn 4 1 fB λ_=>x.nd),(4,.dyn 3 1 bP λ_=>x.d)])
     (λx=>iG ins.length gs l rt x.k x.nd x.d/\x.d.length+x.k<=rt+1) (λx=>x.k) ⟨rt+1,(List.replicate (IntKind.i64.wrap (root+1)).toNat false).set root.toNat true,[]⟩ (by have bH:=kL;exact bh) (by exact aM) ⟨cH,by simp⟩ ?_
    rintro ⟨k,nd,d⟩ ⟨hC,hlen⟩
    have hC:iG ins.length gs l rt k nd d:=hC
    have hlen:d.length+k<=rt+1:=hlen
    have hk:=hC.kl
    have gC:=hC.len
    cbv
    refine ⟨λh=>?_,λh=>?_⟩
    ·have jd:0<=(k:Int) - 1:=Ee h.out
     clear h
     refine (⟨k - 1,by omega⟩:∃u,k=u+1).elim λu hu=>?_
     have Lr:(k:Int) - 1=(u:Int):=by omega
     have ib:0<=(k:Int) - 1/\((k:Int) - 1).toNat < nd.length:=by omega
     have WI:((k:Int) - 1).toNat=u:=by omega
     obtain ⟨b1,iX⟩:=bO ib.2
     have wU:nd[u]?=some b1:=by rw [<-WI];exact iX
     have zm:0<=(k:Int) - 1/\(k:Int) - 1 < gv ⟨ins,gs,outs,dr⟩:=⟨ib.1,by rw [<-hN];exact cx⟩
     have P5:IntKind.i64.wrap ((k:Int) - 1 - 1)=(u:Int) - 1:=by rw [dt (by omega) (by omega)];omega
     have bZ:u < k:=by omega
     have WJ:d.length+u<=rt+1:=by omega
     have EI:iG ins.length gs l rt (u+1) nd d:=by rw [<-hu];exact hC
     have Lm:((u:Int)∈l->nd[u]?=some true)->(nd[u]?=some true->oe ins.length gs l u=[]/\qw ins.length gs l u=true/\((u:Int)∈l\/u < 2))->iG ins.length gs l rt u nd d:=λa b=>EI.down a b
     have aqK:=ats u nd d EI
     have aqL:=att u nd d EI
     have d1:(d.length+1)*8<=140737488355328:=by omega
     have d2:d.length+1<=9223372036854775807:=by omega
     have hu6:u < 2+ins.length+gs.length:=by exact cx
     have hIn:rS l ((k:Int) - 1)=true->(u:Int)∈l:=λh=>by rw [<-Lr];exact F7.1 h
     have hNo:rS l ((k:Int) - 1)=false->(u:Int)∉l:=λh=>by rw [<-Lr];exact anc h
     have aqM:qp ⟨ins,gs,outs,dr⟩ ((k:Int) - 1)=true->nd[u]?=some true->(u:Int)∉l->A4 ins.length gs ⟨root,l⟩ ⟨[],250⟩:=λh a b=>by rw [Lr] at h;exact aqL a b h
     have hSG:qp ⟨ins,gs,outs,dr⟩ ((k:Int) - 1)=false->2<=u->∃g,fI ins.length gs u=some g/\g.op≠7/\iy ins.length gs ((k:Int) - 1)=cC g:=λh h2=>by rw [Lr] at h ⊢;exact ajZ (n:=⟨ins,gs,outs,dr⟩) h2 hu6 h
     have aoQ:∀g fj,fI ins.length gs u=some g->g.op≠7->(u:Int)∉l->2<=u->iG ins.length gs l rt (u+1) fj d->fj[u]?=some true->(∀x∈cC g,fj[x.toNat]?=some true)->iG ins.length gs l rt u fj (d++[(k:Int) - 1]):=λg fj a1 a2 a3 a4 h1 h2 h3=>by rw [Lr];exact h1.gate h2 a3 a4 a1 a2 h3
     cbv
     refine ⟨⟨l,(k:Int) - 1⟩,⟨by exact cj,atp⟩,?_⟩
     cbv
     refine ⟨λh=>?_,λh=>?_⟩
     ·have cw:rS l ((k:Int) - 1)=true:=h.out
      have dz:(u:Int)∈l:=hIn cw
      clear h
      cbv
      refine ⟨⟨ib⟩,?_⟩
      cbv
      refine ⟨b1,⟨iX,rfl⟩,?_⟩
      cbv
      refine ⟨λh=>?_,λh=>?_⟩
      ·have hb:b1=false:=by have h':(!b1)=true:=h.out;simpa using h'
       have pM:=aqK dz (by rw [wU,hb])
       clear h
       cbv
       exact .mk' ⟨[],250⟩ ⟨by exact cj⟩ pM
      ·have hb:b1=true:=aoP h.out
       have hd:=Lm (λ_=>by rw [wU,hb]) λ_=>⟨al0 dz,uZ.2 (.inl dz),.inl dz⟩
       clear h
       cbv
       refine ⟨⟨ib⟩,?_⟩
       cbv
       refine ⟨b1,⟨iX,rfl⟩,?_⟩
       cbv
       refine ⟨λh=>?_,λh=>?_⟩
       ·clear h
        cbv
        refine ⟨λh=>?_,λh=>?_⟩
        ·have h':(!rS l ((k:Int) - 1))=true:=h.out
         cases (show False by rw [cw] at h';cases h')
        clear h
        cbv
        refine ⟨⟨ib⟩,?_⟩
        cbv
        refine ⟨b1,⟨iX,rfl⟩,?_⟩
        cbv
        refine ⟨λh=>?_,λh=>?_⟩
        ·have h':(!b1)=true:=h.out
         cases (show False by rw [hb] at h';cases h')
        clear h
        cbv
        refine ⟨λh=>?_,λh=>?_⟩
        rotate_left
        ·have h':rS l ((k:Int) - 1)=false:=h.out
         cases (show False by rw [cw] at h';cases h')
        clear h
        cbv
        exact ⟨⟨u,nd,d⟩,by have bH:=P5;exact bh,by exact aM,⟨⟨hd,WJ⟩,bZ⟩⟩
       ·have h':b1=false:=h.out
        cases (show False by rw [hb] at h';cases h')
     ·have cw:rS l ((k:Int) - 1)=false:=h.out
      have dz:(u:Int)∉l:=hNo cw
      clear h
      cbv
      refine ⟨⟨ib⟩,?_⟩
      cbv
      refine ⟨b1,⟨iX,rfl⟩,?_⟩
      cbv
      refine ⟨λh=>?_,λh=>?_⟩
      ·have hb:b1=true:=h.out
       have mh:nd[u]?=some true:=by rw [wU,hb]
       clear h
       cbv
       refine ⟨λh=>?_,λh=>?_⟩
       rotate_left
       ·have h':(!rS l ((k:Int) - 1))=false:=h.out
        cases (show False by rw [cw] at h';cases h')
       clear h
       cbv
       refine ⟨⟨⟨ins,gs,outs,dr⟩,(k:Int) - 1⟩,⟨by exact cj,hn,zm⟩,?_⟩
       cbv
       refine ⟨λh=>?_,λh=>?_⟩
       ·have cH:qp ⟨ins,gs,outs,dr⟩ ((k:Int) - 1)=true:=h.out
        have pM:=aqM cH mh dz
        clear h
        cbv
        exact .mk' ⟨[],250⟩ ⟨by exact cj⟩ pM
       ·have cH:qp ⟨ins,gs,outs,dr⟩ ((k:Int) - 1)=false:=h.out
        clear h
        cbv
        refine ⟨⟨ib⟩,?_⟩
        cbv
        refine ⟨b1,⟨iX,rfl⟩,?_⟩
        cbv
        refine ⟨λh=>?_,λh=>?_⟩
        ·have h':(!b1)=true:=h.out
         cases (show False by rw [hb] at h';cases h')
        clear h
        cbv
        refine ⟨λh=>?_,λh=>?_⟩
        ·have h':rS l ((k:Int) - 1)=true:=h.out
         cases (show False by rw [cw] at h';cases h')
        clear h
        cbv
        refine ⟨λh=>?_,λh=>?_⟩
        ·have hu2:(k:Int) - 1 < 2:=OT h.out
         have HY:u < 2:=by omega
         have hd:=Lm (λh=>absurd h dz) λ_=>⟨aoO HY,uZ.2 (.inr (.inl HY)),.inr HY⟩
         clear h
         cbv
         exact ⟨⟨u,nd,d⟩,by have bH:=P5;exact bh,by exact aM,⟨⟨hd,WJ⟩,bZ⟩⟩
        ·have hu2:2<=(k:Int) - 1:=Ka h.out
         have HY:2<=u:=by omega
         refine (hSG cH HY).elim λg hg=>?_
         have rq:fI ins.length gs u=some g:=hg.1
         have hg7:=hg.2.1
         have zN:iy ins.length gs ((k:Int) - 1)=cC g:=hg.2.2
         have atu:=(xF g).2
         have afk:∀x∈cC g,x∈oe ins.length gs l u:=λx hx=>qk.2 ⟨dz,g,rq,hg7,hx⟩
         have Vd:∀x∈cC g,0<=x/\x < (u:Int):=λx hx=>Bb hn (afk x hx)
         have ad8:∀fj,iG ins.length gs l rt (u+1) fj d->fj[u]?=some true->(∀x∈cC g,fj[x.toNat]?=some true)->iG ins.length gs l rt u fj (d++[(k:Int) - 1]):=λfj=>aoQ g fj rq hg7 dz HY
         have ad9:∀fj x,x∈cC g->iG ins.length gs l rt (u+1) fj d->iG ins.length gs l rt (u+1) (fj.set x.toNat true) d:=λfj x hx h1=>h1.mark (.step (EI.snd u mh) (afk x hx)) (by have:=Vd x hx;omega)
         obtain ⟨os,hos⟩:∃os,os=cC g:=⟨_,rfl⟩
         rw [<-hos] at zN atu Vd ad8 ad9
         clear h
         cbv
         refine ⟨[(k:Int) - 1],⟨by exact cj,d1,d2⟩,?_⟩
         cbv
         refine gw.rel Np ⟨⟨ins,gs,outs,dr⟩,(k:Int) - 1⟩ (by exact cj) ⟨hn,zm⟩ λops kG=>?_
         have kG:ops=iy ins.length gs ((k:Int) - 1):=kG.out
         have aqN:ops=os:=kG.trans zN
         clear kG zN
         subst aqN
         cbv
         refine Sat.dq (Ow 0 0) 7 10 [] (λx:Nat × List Bool=>[(10,.i .i64 λ_=>(x.1:Int))]) (λx=>[(3,.dyn 4 1 fB λ_=>x.2)])
          (λx=>x.1<=ops.length/\iG ins.length gs l rt (u+1) x.2 d/\x.2[u]?=some true/\∀i y,i < x.1->ops[i]?=some y->x.2[y.toNat]?=some true) (λx=>ops.length - x.1) (0,nd) (by exact aM) (by exact aM) ⟨cg _,EI,mh,λi y hi=>by omega⟩ ?_
         rintro ⟨i,fj⟩ ⟨hi,qH,Pg,eZ⟩
         have hi:i<=ops.length:=hi
         have qH:iG ins.length gs l rt (u+1) fj d:=qH
         have Pg:fj[u]?=some true:=Pg
         have eZ:∀i' y,i' < i->ops[i']?=some y->fj[y.toNat]?=some true:=eZ
         have aCM:=qH.len
         have dV:=n0 i
         have e7:=dC (i:=i) (by omega)
         cbv
         refine ⟨λh=>?_,λh=>?_⟩
         ·have bM:i < ops.length:=aH
          have atv:ops.length - (i+1) < ops.length - i:=by omega
          obtain ⟨op,fC⟩:=bO bM
          have afl:=cB fC
          have aCN:=Vd op afl
          have Ph:0<=op/\op.toNat < fj.length:=by exact cx
          obtain ⟨b2,mi⟩:=bO Ph.2
          have yf:∀z:Nat,fj[z]?=some true->(fj.set op.toNat true)[z]?=some true:=λz hz=>by
           rw [gY]
           split
           ·rename_i e;subst e;rw [if_pos Ph.2]
           ·exact hz
          have bS:i+1<=ops.length/\iG ins.length gs l rt (u+1) (fj.set op.toNat true) d/\(fj.set op.toNat true)[u]?=some true/\∀i' y,i' < i+1->ops[i']?=some y->(fj.set op.toNat true)[y.toNat]?=some true:=⟨bM,ad9 fj op afl qH,yf u Pg,λi' y jD hy=>by
           rcases ov i' i with q|q
           ·exact yf _ (eZ i' y q hy)
           ·have e:i'=i:=by omega
            subst e
            rw [fC] at hy;cases hy
            rw [gY,if_pos rfl,if_pos Ph.2]⟩
          clear h
          cbv
          refine ⟨op,⟨dV,fC⟩,?_⟩
          cbv
          refine ⟨⟨Ph⟩,?_⟩
          cbv
          refine ⟨(b2,true),⟨mi,rfl,by exact cj⟩,?_⟩
          cbv
          exact ⟨(i+1,fj.set op.toNat true),by have bH:=e7;exact bh,by exact aM,⟨bS,atv⟩⟩
         ·have bM:¬i < ops.length:=aH
          have hg:=ad8 fj qH Pg λx hx=>by
           obtain ⟨i',jD⟩:=nG hx
           exact eZ i' x (by have:=(bt.1 jD).1;omega) jD
          have hlg:(d++[(k:Int) - 1]).length+u<=rt+1:=by rw [List.length_append,xC];omega
          clear h
          cbv
          exact ⟨⟨u,fj,d++[(k:Int) - 1]⟩,by have bH:=P5;exact bh,by exact aM,⟨⟨hg,hlg⟩,bZ⟩⟩
      ·have hb:b1=false:=h.out
       have hd:=Lm (λh=>absurd h dz) λh=>by rw [wU,hb] at h;cases h
       clear h
       cbv
       refine ⟨⟨ib⟩,?_⟩
       cbv
       refine ⟨b1,⟨iX,rfl⟩,?_⟩
       cbv
       refine ⟨λh=>?_,λh=>?_⟩
       rotate_left
       ·have h':(!b1)=false:=h.out
        cases (show False by rw [hb] at h';cases h')
       clear h
       cbv
       exact ⟨⟨u,nd,d⟩,by have bH:=P5;exact bh,by exact aM,⟨⟨hd,WJ⟩,bZ⟩⟩
    ·have jd:¬0<=(k:Int) - 1:=C1.2 (Ef h.out)
     have kL:k=0:=by omega
     subst kL
     have jA:=atr nd d hC
     have aBz:d.length<=601:=by omega
     have pc:IntKind.i64.wrap ((d.length:Int) - 1)=(d.length:Int) - 1:=by rw [dt (by omega) (by omega)]
     clear h
     cbv
     refine Sat.dq (Ow 0 0) 6 11 [(.t 11,5)] (λx:Nat × List Int=>[(11,.own 5),(12,.i .i64 λ_=>(x.1:Int) - 1)]) (λx=>[(5,.dyn 3 1 bP λ_=>x.2)])
      (λx=>x.1<=d.length/\x.2=(d.drop x.1).reverse) (λx=>x.1) (d.length,[]) (by have bH:=pc;exact bh) (by exact aM) ⟨fq _,by simp⟩ ?_
     rintro ⟨j,o⟩ ⟨hj,ho⟩
     have hj:j<=d.length:=hj
     have ho:o=(d.drop j).reverse:=ho
     have fu:o.length<=601:=by rw [ho];simp;omega
     have e1:(o.length+1)*8<=140737488355328:=by omega
     have e2:o.length+1<=9223372036854775807:=by omega
     cbv
     refine ⟨λh=>?_,λh=>?_⟩
     ·have j3:0<=(j:Int) - 1:=Ee h.out
      obtain ⟨z,hz⟩:=bO (l:=d) (i:=j - 1) (by omega)
      have ED:IntKind.i64.wrap ((j:Int) - 1 - 1)=((j - 1:Nat):Int) - 1:=by rw [dt (by omega) (by omega)];omega
      have hjn:((j:Int) - 1).toNat=j - 1:=by omega
      have hjx:0<=(j:Int) - 1/\((j:Int) - 1).toNat < d.length:=by omega
      have hjz:d[((j:Int) - 1).toNat]?=some z:=by rw [hjn];exact hz
      have hJ:(j - 1<=d.length/\o++[z]=(d.drop (j - 1)).reverse)/\j - 1 < j:=⟨⟨by omega,by rw [A3 hz,List.reverse_cons,ho,show j - 1+1=j by omega]⟩,by omega⟩
      clear h
      cbv
      refine ⟨⟨hjx⟩,?_⟩
      cbv
      refine ⟨z,⟨hjz,rfl⟩,?_⟩
      cbv
      refine ⟨[z],⟨by exact cj,e1,e2⟩,?_⟩
      cbv
      exact ⟨(j - 1,o++[z]),by have bH:=ED;exact bh,by exact aM,⟨hJ⟩⟩
     ·have j3:¬0<=(j:Int) - 1:=C1.2 (Ef h.out)
      have iM:j=0:=by omega
      subst iM
      have cb:A4 ins.length gs ⟨root,l⟩ ⟨o,0⟩:=⟨.inl ⟨rfl,by rw [ho];exact jA⟩⟩
      clear h
      cbv
      exact .mk' ⟨o,0⟩ ⟨by exact cj⟩ cb
def jg (z:Int) (i:Nat):Bool:=(BitVec.ofInt 64 z).getLsbD i
theorem aj0 (n:Int):BitVec.ofInt 64 (IntKind.i64.wrap n)=BitVec.ofInt 64 n:=by
 rw [IntKind.wrap_i64]
 apply BitVec.eq_of_toNat_eq
 rw [Rr,Rr]
 omega
theorem R7 (x:BitVec 64):BitVec.ofInt 64 (IntKind.i64.wrap (x.toNat:Int))=x:=by
 rw [aj0,IN,BitVec.ofNat_toNat,BitVec.setWidth_eq]
theorem A5 (a b:Int) (i:Nat):jg (pL a b) i=(jg a i&&jg b i):=by
 show (BitVec.ofInt 64 (IntKind.i64.wrap ((BitVec.ofInt 64 a &&& BitVec.ofInt 64 b).toNat:Int))).getLsbD i=_
 rw [R7,BitVec.getLsbD_and];rfl
theorem NX (a b:Int) (i:Nat):jg (B6 a b) i=(jg a i||jg b i):=by
 show (BitVec.ofInt 64 (IntKind.i64.wrap ((BitVec.ofInt 64 a ||| BitVec.ofInt 64 b).toNat:Int))).getLsbD i=_
 rw [R7,BitVec.getLsbD_or];rfl
theorem S8 (a b:Int) (i:Nat):jg (Ei a b) i=(jg a i ^^ jg b i):=by
 show (BitVec.ofInt 64 (IntKind.i64.wrap ((BitVec.ofInt 64 a ^^^ BitVec.ofInt 64 b).toNat:Int))).getLsbD i=_
 rw [R7,BitVec.getLsbD_xor];rfl
theorem Nq:∀i,i < 16->jg (-1) i=true:=by decide
theorem aaL (i:Nat):jg 0 i=false:=by unfold jg;simp
theorem abL:∀j,j < 4->∀i,i < 16->jg (wA j) i=i.testBit j:=by decide
theorem aaM:∀k,k < 5->∀i,i < 16->jg (2^(2^k) - 1) i=decide (i < 2^k):=by decide
theorem abM {n i:Nat} (hi:i < 64):jg (n:Int) i=n.testBit i:=by
 unfold jg
 rw [IN,BitVec.getLsbD_ofNat]
 simp [hi]
theorem aaN {op a b c:Int} (h:1<=op/\op<=6) {i:Nat} (hi:i < 16):jg (combineM op a b c) i=oz op (jg a i) (jg b i) (jg c i):=by
 unfold combineM oz
 by_cases h1:op=1
 ·rw [if_pos h1,if_pos h1,S8,Nq i hi];simp
 rw [if_neg h1,if_neg h1]
 by_cases h2:op=2
 ·rw [if_pos h2,if_pos h2,A5]
 rw [if_neg h2,if_neg h2]
 by_cases h3:op=3
 ·rw [if_pos h3,if_pos h3,NX]
 rw [if_neg h3,if_neg h3]
 by_cases h4:op=4
 ·rw [if_pos h4,if_pos h4,S8]
 rw [if_neg h4,if_neg h4]
 by_cases h5:op=5
 ·rw [if_pos h5,if_pos h5,NX,A5,A5,S8,Nq i hi];simp
 rw [if_neg h5,if_neg h5,NX,NX,A5,A5,A5]
structure tx (c:Int) (i T:Nat):Prop where
 lt:T < 2^i
 bits:∀j,j < i->T.testBit j=jg c j
theorem tx.zero (c:Int):tx c 0 0:=⟨by decide,λj h=>absurd h (qf _)⟩
theorem tx.one {c:Int} {i T:Nat} (h:tx c i T) (hb:jg c i=true):tx c (i+1) (T ||| 2^i):=by
 refine ⟨Rw (CY h.lt (C7 (by decide) (wo _))) (C7 (by decide) (wo _)),λj hj=>?_⟩
 rw [Nat.testBit_or,Nat.testBit_two_pow]
 by_cases e:i=j
 ·subst e;rw [hb];simp
 ·rw [h.bits j (by omega)];simp [e]
theorem tx.off {c:Int} {i T:Nat} (h:tx c i T) (hb:jg c i=false):tx c (i+1) T:=by
 refine ⟨CY h.lt (C7 (by decide) (wo _)),λj hj=>?_⟩
 by_cases e:j=i
 ·subst e;rw [hb];exact Rj h.lt
 ·exact h.bits j (by omega)
theorem tx.fin {I:Nat} {gs:List Gate} {root:Int} {S:List Int} {i T:Nat} (h:tx (fX I gs S root.toNat) i T) (hS:S.length<=4) (hi:i=2^S.length):(T:Int)=xM I gs root S:=by
 subst hi
 have hP:2^S.length<=16:=by
  have:S.length=0\/S.length=1\/S.length=2\/S.length=3\/S.length=4:=by omega
  rcases this with e|e|e|e|e<;>rw [e]<;>decide
 have hm:(0:Int)<=2^(2^S.length) - 1/\(2:Int)^(2^S.length) - 1<=1000000:=by
  have:S.length=0\/S.length=1\/S.length=2\/S.length=3\/S.length=4:=by omega
  rcases this with e|e|e|e|e<;>rw [e]<;>decide
 have ht:=Nb (fX I gs S root.toNat) _ hm.1 hm.2
 have hb:=A5 (fX I gs S root.toNat) (2^(2^S.length) - 1)
 unfold xM
 change 0<=pL (fX I gs S root.toNat) (2^(2^S.length) - 1)/\pL (fX I gs S root.toNat) (2^(2^S.length) - 1)<=2^(2^S.length) - 1 at ht
 generalize pL (fX I gs S root.toNat) (2^(2^S.length) - 1)=t at ht hb
 obtain ⟨t0,ht0⟩:∃t0:Nat,t=t0:=⟨t.toNat,by omega⟩
 subst ht0
 have aP:t0 < 2^(2^S.length):=by
  have h1:=ht.2
  have h2:((2^(2^S.length):Nat):Int)=(2:Int)^(2^S.length):=by push_cast;rfl
  omega
 have e:T=t0:=Nat.eq_of_testBit_eq λj=>by
  by_cases hj:j < 2^S.length
  ·rw [h.bits j hj,<-abM (n:=t0) (by omega),hb j,aaM _ (by omega) j (by omega)]
   simp [hj]
  ·have h2:2^(2^S.length)<=2^j:=MH (by decide) (by omega)
   rw [Rj (FJ h.lt h2),Rj (FJ aP h2)]
 rw [e]
structure VM (N i:Nat) (m:Int->Option Int) (v:List Bool):Prop where
 len:v.length=N
 at_:∀u c,0<=u->m u=some c->v[u.toNat]?=some (jg c i)
def Ls:Int->Option Int:=λu=>if u=0 then some 0 else if u=1 then some (-1) else none
theorem VM.start {N i:Nat} (hN:2<=N) (hi:i < 16):VM N i Ls ((List.replicate N false).set 1 true):=by
 refine ⟨by simp,λu c h0 h=>?_⟩
 unfold Ls at h
 split at h
 ·rename_i e;subst e;cases h;rw [aaL]
  rw [gY,if_neg (by decide),sI,if_pos (by show 0 < N;omega)]
 ·split at h
  ·rename_i e;subst e;cases h;rw [Nq i hi]
   show ((List.replicate N false).set 1 true)[1]?=_
   rw [gY,if_pos rfl,if_pos (by simp;omega)]
  ·cases h
theorem aqO (S:List Int):xf S 0 Ls:=⟨cg _,rfl,rfl,λi x h=>absurd h (qf _)⟩
theorem VM.set {N i:Nat} {m:Int->Option Int} {v:List Bool} (h:VM N i m v) {x c:Int} {b:Bool} (h0:0<=x) (hx:x.toNat < N) (hb:b=jg c i):VM N i (wQ m x c) (v.set x.toNat b):=by
 subst hb
 refine ⟨by rw [ou];exact h.len,λu d hu hm=>?_⟩
 by_cases e:u=x
 ·subst e;rw [S4] at hm;cases hm
  rw [gY,if_pos rfl,if_pos (by rw [h.len];exact hx)]
 ·rw [Dq e] at hm
  rw [gY,if_neg (by omega)]
  exact h.at_ u d hu hm
theorem YM {op:Int} {A B C A' B' C':Bool} (hA:A=A') (hB:2<=jz op->B=B') (hC:3<=jz op->C=C'):oz op A B C=oz op A' B' C':=by
 subst hA
 unfold jz at hB hC
 unfold oz
 by_cases h1:op=1
 ·rw [if_pos h1,if_pos h1]
 ·rw [if_neg h1,if_neg h1]
  rw [if_neg h1] at hB hC
  by_cases h2:op=2\/op=3\/op=4
  ·rw [if_pos h2] at hB
   rw [hB (fq _)]
   rcases h2 with h|h|h<;>subst h<;>simp
  ·rw [if_neg h2] at hB hC
   rw [hB (by omega),hC (by omega)]
theorem VM.gate {N i:Nat} {I:Nat} {gs:List Gate} (G:ca I gs) {S l:List Int} {root:Int} (hc:eC I gs root S=some l) {j:Nat} {m:Int->Option Int} (h:qG I gs S l j m) {v:List Bool} (hv:VM N i m v) (hi:i < 16)
  {x:Int} (hx:l[j]?=some x) {g:Gate} (hg:fI I gs x.toNat=some g) (h7:g.op≠7) {ba bb bc:Bool} (ha:v[g.a.toNat]?=some ba) (hb:v[g.b.toNat]?=some bb) (KU:v[g.c.toNat]?=some bc):oz g.op ba bb bc=jg (fX I gs S x.toNat) i:=by
 obtain ⟨q,hq,hgq⟩:=lL.1 hg
 have k:=G.aT q g hgq
 have iK:=((AK G hc).2 x).1 (cB hx)
 have hS:((x.toNat:Nat):Int)∉S:=by rw [Int.toNat_of_nonneg (by omega)];exact iK.2.2
 rw [R0 G hS hg,aaN (by have:=k.op;omega) hi]
 have key:∀o∈cC g,∀b,v[o.toNat]?=some b->b=jg (fX I gs S o.toNat) i:=λo ho b hb=>by
  have h1:=h.op G hc hx hg h7 ho
  have h0:=(G.ops hgq o ho).1
  have:=hv.at_ o _ h0 h1
  rw [hb] at this;exact wq this
 exact YM (key _ (T0 g) _ ha) (λh=>key _ (T2 h) _ hb) (λh=>key _ (T3 h) _ KU)
theorem VM.root {N i:Nat} {I:Nat} {gs:List Gate} (G:ca I gs) {S l:List Int} {root:Int} (hc:eC I gs root S=some l) {j:Nat} {m:Int->Option Int} (h:qG I gs S l j m) (hj:l.length<=j) {v:List Bool} (hv:VM N i m v):v[root.toNat]?=some (jg (fX I gs S root.toNat) i):=by
 have hL:=As hc
 have h0:0<=root:=by have:=hL.lo;omega
 rcases Zw G hc with h1|h1
 ·exact hv.at_ _ _ h0 (h.leaf _ h1)
 ·exact hv.at_ _ _ h0 (h.nd _ (by rw [iQ hj];exact h1))
theorem ane:∀i:Nat,i < 16->∀k:Nat,k < 4->eW (fN .and .i64 ((i:Int).fdiv (2^(min (IntKind.u64.wrap (k:Int)).toNat IntKind.i64.bits))) 1) 1=i.testBit k:=by decide
structure Tab where
 t:Int
 e:Int
theorem afm {a b:Nat} (ha:a < 65536) (hb:b < 65536):fN .or .i64 (a:Int) (b:Int)=((a ||| b:Nat):Int):=by
 have h:a ||| b < 65536:=Rw (n:=16) ha hb
 unfold fN
 simp only
 have e:(BitVec.ofInt IntKind.i64.bits (a:Int) ||| BitVec.ofInt IntKind.i64.bits (b:Int)).toNat=a ||| b:=by
  rw [BitVec.toNat_or,IN,IN,Ru,Ru]
  show a % 2^64 ||| b % 2^64=a ||| b
  rw [MP (show a < 2^64 by omega),MP (show b < 2^64 by omega)]
 rw [e,dt (by omega) (by omega)]
theorem afn {i:Nat} (h:i < 16):0<=IntKind.u64.wrap (i:Int)/\IntKind.i64.wrap (1*2^(min (IntKind.u64.wrap (i:Int)).toNat IntKind.i64.bits))=((2^i:Nat):Int):=by
 have:i=0\/i=1\/i=2\/i=3\/i=4\/i=5\/i=6\/i=7\/i=8\/i=9\/i=10\/i=11\/i=12\/i=13\/i=14\/i=15:=by omega
 rcases this with e|e|e|e|e|e|e|e|e|e|e|e|e|e|e|e<;>subst e<;>exact ⟨by decide,rfl⟩
structure TG where
 i:Nat
 t:Int
@[reducible] noncomputable def atw:jT where
 α:=NC
 args x:=[.agg (jr x.n),.agg [.i .i64 (λ_=>x.c.root),.sl 1 bP (λ_=>x.c.l)]]
 pre x:=ca x.n.ins.length x.n.aT/\x.c.l.length<=1000000
 β:=Int
 post x y:=y=0↔(eC x.n.ins.length x.n.aT x.c.root x.c.l).isSome=true
 res x y:=.i .i64 (λ_=>y)
noncomputable def cCk (n m:Nat):Ctx:=ie n m [(238,Tryz.f238)] [] [238]
theorem aqP (n m:Nat):CB PP (cCk n m):=ik n m ⟨fo Tryz.func238,trivial⟩ trivial
theorem aoR:k7 PP 185 atw:=by
 refine qS (aqP 0 0) (fo Tryz.func185) (λa=>⟨mu a.n,⟨trivial,(λx=>(df x).1),trivial⟩,trivial⟩) (λa y=>trivial) ?_
 rintro ⟨n,⟨root,l⟩⟩ hx
 have hx:ca n.ins.length n.aT/\l.length<=1000000:=hx
 refine ⟨?_⟩
 cbv
 refine gw.rel abK ⟨n,⟨root,l⟩⟩ (by exact cj) ⟨hx⟩ λy hy=>?_
 have hy:A4 n.ins.length n.aT ⟨root,l⟩ y:=hy.out
 have hk:y.e=0↔(eC n.ins.length n.aT root l).isSome=true:=by
  rcases hy.ok with ⟨a,b⟩|⟨a,b⟩
  ·simp only at b;rw [a,b];simp
  ·simp only at b;rw [a,b];simp
 cbv
 exact .mk' y.e ⟨by exact cj⟩ hk
@[reducible] noncomputable def atx:jT where
 α:=NC
 args x:=[.agg (jr x.n),.agg [.i .i64 (λ_=>x.c.root),.sl 1 bP (λ_=>x.c.l)]]
 pre x:=ca x.n.ins.length x.n.aT/\x.c.l.length<=1000000
 β:=Tab
 post x y:=nU x.n.ins.length x.n.aT x.c.root x.c.l=(y.t,y.e)
 res x y:=.agg [.i .i64 (λ_=>y.t),.i .i64 (λ_=>y.e)]
noncomputable def cTx (n m:Nat):Ctx:=ie n m [(238,Tryz.f238)] [(51,qq),(239,TC)] [238]
theorem Ox (n m:Nat):CB PP (cTx n m):=ik n m ⟨fo Tryz.func238,trivial⟩ ⟨qP,aaI,trivial⟩
theorem aoS:k7 PP 184 atx:=by
 refine qS (Ox 0 0) (fo Tryz.func184) (λa=>⟨mu a.n,⟨trivial,(λx=>(df x).1),trivial⟩,trivial⟩) (λa y=>⟨trivial,trivial,trivial⟩) ?_
 rintro ⟨⟨ins,gs,outs,dr⟩,⟨root,l⟩⟩ hx
 obtain ⟨hn,hl⟩:ca ins.length gs/\l.length<=1000000:=hx
 have vB:2+ins.length+gs.length<=600:=hn.k8
 have KK:2+ins.length+gs.length<=1000000:=by omega
 have su:=hl
 refine ⟨?_⟩
 cbv
 refine gw.rel abK ⟨⟨ins,gs,outs,dr⟩,⟨root,l⟩⟩ (by exact cj) ⟨hn,su⟩ λy=>?_
 refine y.casesOn λyl ye hy=>?_
 have hy:A4 ins.length gs ⟨root,l⟩ ⟨yl,ye⟩:=hy.out
 cbv
 refine ⟨λh=>?_,λh=>?_⟩
 ·have he:¬ye=0:=aH
  have cb:nU ins.length gs root l=(0,ye):=by
   rcases hy.ok with ⟨a,b⟩|⟨a,b⟩
   ·exact absurd a he
   ·simp only at a b;unfold nU;rw [b,a]
  clear h
  cbv
  exact .mk' ⟨0,ye⟩ ⟨by exact cj⟩ cb
 ·have he:ye=0:=aH
  have DM:eC ins.length gs root l=some yl:=by
   rcases hy.ok with ⟨a,b⟩|⟨a,b⟩
   ·exact b
   ·simp only at a;omega
  have hL:=As DM
  have tw:=hL.len
  have kE:=hL.inc.nodup
  have zT:=hL.mem
  have Ez:=hL.lo
  have Lq:=hL.hi
  have aCO:=aaC hn DM
  have gk:=(AK hn DM).2
  have hgate:∀x∈yl,∃g,fI ins.length gs x.toNat=some g/\g.op≠7:=λx hx=>Zx hn DM hx
  have pS:gv ⟨ins,gs,outs,dr⟩=((2+ins.length+gs.length:Nat):Int):=by unfold gv;simp only;omega
  obtain ⟨N,hN⟩:∃N,N=2+ins.length+gs.length:=⟨_,rfl⟩
  rw [<-hN] at pS
  have aCP:root < N:=by omega
  have hw:IntKind.i64.wrap (1*2^(min (IntKind.u64.wrap (l.length:Int)).toNat IntKind.i64.bits))=((2^l.length:Nat):Int):=by
   have:l.length=0\/l.length=1\/l.length=2\/l.length=3\/l.length=4:=by omega
   rcases this with e|e|e|e|e<;>rw [e]<;>rfl
  have aty:2^l.length<=16:=by
   have:l.length=0\/l.length=1\/l.length=2\/l.length=3\/l.length=4:=by omega
   rcases this with e|e|e|e|e<;>rw [e]<;>decide
  have WK:0<=IntKind.u64.wrap (l.length:Int):=by
   have:l.length=0\/l.length=1\/l.length=2\/l.length=3\/l.length=4:=by omega
   rcases this with e|e|e|e|e<;>rw [e]<;>decide
  obtain ⟨P,hP⟩:∃P,P=2^l.length:=⟨_,rfl⟩
  rw [<-hP] at hw aty
  have atz:∀T:Nat,tx (fX ins.length gs l root.toNat) P T->nU ins.length gs root l=((T:Int),0):=λT h=>by
   unfold nU
   rw [DM,h.fin tw hP]
  have hGV:∀(i:Nat),i < 16->∀j m v,qG ins.length gs l yl j m->VM N i m v->∀x,yl[j]?=some x->∀g,fI ins.length gs x.toNat=some g->g.op≠7->∀ba bb bc,v[g.a.toNat]?=some ba->v[g.b.toNat]?=some bb->v[g.c.toNat]?=some bc->oz g.op ba bb bc=jg (fX ins.length gs l x.toNat) i:=λi hi j m v h hv x hx g hg h7 ba bb bc ha hb hc=>VM.gate hn DM h hv hi hx hg h7 ha hb hc
  have hRt:∀(i j:Nat) m v,qG ins.length gs l yl j m->yl.length<=j->VM N i m v->v[root.toNat]?=some (jg (fX ins.length gs l root.toNat) i):=λi j m v h hj hv=>VM.root hn DM h hj hv
  clear h
  cbv
  refine Sat.dq (Ox 0 0) 5 7 [] (λx:Nat × Nat=>[(7,.i .i64 λ_=>(x.1:Int))]) (λx=>[(4,.fix 326 [.i .i64 (λ_=>(x.2:Int)),.ic .i64 0])])
   (λx=>x.1<=P/\tx (fX ins.length gs l root.toNat) x.1 x.2) (λx=>P - x.1) (0,0) (by exact aM) (by exact aM) ⟨cg _,tx.zero _⟩ ?_
  rintro ⟨i,t⟩ ⟨hi,ht⟩
  have hi:i<=P:=hi
  have ht:tx (fX ins.length gs l root.toNat) i t:=ht
  have dV:=n0 i
  have e7:=dC (i:=i) (by omega)
  have wT:(List.replicate (gv ⟨ins,gs,outs,dr⟩).toNat false)=List.replicate N false:=by rw [pS];rfl
  have K9:2<=N/\N<=600:=by omega
  have h1N:(0:Int)<=1/\(1:Int).toNat < (List.replicate (gv ⟨ins,gs,outs,dr⟩).toNat false).length:=by rw [wT,tT];exact ⟨by decide,by show 1 < N;omega⟩
  obtain ⟨b0,s9⟩:=bO h1N.2
  have n1:0<=gv ⟨ins,gs,outs,dr⟩:=by rw [pS];exact cx
  have n2:(1:Int)*gv ⟨ins,gs,outs,dr⟩<=281474976710656:=by rw [pS];exact cx
  have n3:gv ⟨ins,gs,outs,dr⟩<=9223372036854775807:=by rw [pS];exact cx
  cbv
  refine ⟨⟨WK⟩,?_⟩
  cbv
  refine ⟨λh=>?_,λh=>?_⟩
  ·have P6:i < P:=by have h':dw (i:Int) (IntKind.i64.wrap (1*2^(min (IntKind.u64.wrap (l.length:Int)).toNat IntKind.i64.bits)))=true:=h.out;rw [hw] at h';simp only [dw,decide_eq_true_eq] at h';exact cx
   have bZ:P - (i+1) < P - i:=by omega
   have Pj:i < 16:=by omega
   have WD:VM N i Ls ((List.replicate (gv ⟨ins,gs,outs,dr⟩).toNat false).set (1:Int).toNat true):=by rw [wT];exact VM.start K9.1 Pj
   clear h
   cbv
   refine ⟨⟨ins,gs,outs,dr⟩,⟨by exact cj,KK⟩,?_⟩
   cbv
   refine ⟨⟨n1,mr _,n2,n3⟩,?_⟩
   cbv
   refine ⟨⟨h1N⟩,?_⟩
   cbv
   refine ⟨(b0,true),⟨s9,rfl,by exact cj⟩,?_⟩
   cbv
   refine Sat.dq (Ox 0 0) 6 9 [] (λx:Nat × List Bool=>[(9,.i .i64 λ_=>(x.1:Int))]) (λx=>[(5,.dyn 4 1 fB λ_=>x.2)])
    (λx=>x.1<=l.length/\∃m,xf l x.1 m/\VM N i m x.2) (λx=>l.length - x.1) (0,(List.replicate (gv ⟨ins,gs,outs,dr⟩).toNat false).set (1:Int).toNat true) (by exact aM) (by exact aM) ⟨cg _,Ls,aqO l,WD⟩ ?_
   rintro ⟨k,v⟩ ⟨hk,hm⟩
   have hk:k<=l.length:=hk
   refine hm.elim λm hm=>?_
   have hT1:xf l k m:=hm.1
   have hV:VM N i m v:=hm.2
   have il:=hV.len
   have kL:=n0 k
   have jd:=dC (i:=k) (by omega)
   cbv
   refine ⟨λh=>?_,λh=>?_⟩
   ·have dG:k < l.length:=aH
    have Kp:l.length - (k+1) < l.length - k:=by omega
    refine (bO dG).elim λx hx=>?_
    have pb:=cB hx
    have hxx:=zT x pb
    have jc:0<=x/\x.toNat < v.length:=by exact cx
    have WL:x.toNat < N:=by omega
    refine (bO jc.2).elim λb hb=>?_
    have hku:=(afn (i:=k) (by omega)).1
    have tq:=ane i Pj k (by omega)
    have Cq:=abL k (by omega) i Pj
    refine (⟨_,rfl⟩:∃bb,bb=i.testBit k).elim λbb Lt=>?_
    rw [<-Lt] at tq Cq
    have bS:k+1<=l.length/\∃m',xf l (k+1) m'/\VM N i m' (v.set x.toNat bb):=⟨dG,_,hT1.step kE (λy hy=>(zT y hy).1) hx,hV.set jc.1 WL Cq.symm⟩
    clear h
    cbv
    refine ⟨x,⟨kL,hx⟩,?_⟩
    cbv
    refine ⟨⟨hku⟩,?_⟩
    cbv
    refine ⟨⟨jc⟩,?_⟩
    cbv
    refine ⟨(b,bb),⟨hb,rfl,.cons (.b tq) .nil⟩,?_⟩
    cbv
    exact ⟨(k+1,v.set x.toNat bb),by have bH:=jd;exact bh,by exact aM,⟨bS,Kp⟩⟩
   ·have dG:¬k < l.length:=aH
    have hT2:qG ins.length gs l yl 0 m:=hT1.fin (show l.length<=k by omega) kE (λy hy=>(zT y hy).1) yl
    clear h
    cbv
    refine Sat.dq (Ox 0 0) 6 9 [] (λx:Nat × List Bool=>[(10,.i .i64 λ_=>(x.1:Int))]) (λx=>[(5,.dyn 4 1 fB λ_=>x.2)])
     (λx=>x.1<=yl.length/\∃m,qG ins.length gs l yl x.1 m/\VM N i m x.2) (λx=>yl.length - x.1) (0,v) (by exact aM) (by exact aM) ⟨cg _,m,hT2,hV⟩ ?_
    rintro ⟨j,v2⟩ ⟨hj,nr⟩
    have hj:j<=yl.length:=hj
    refine nr.elim λm2 nr=>?_
    have hB:qG ins.length gs l yl j m2:=nr.1
    have P7:VM N i m2 v2:=nr.2
    have aCQ:=P7.len
    have iM:=n0 j
    have j3:=dC (i:=j) (by omega)
    cbv
    refine ⟨λh=>?_,λh=>?_⟩
    ·have eo:j < yl.length:=aH
     have atA:yl.length - (j+1) < yl.length - j:=by omega
     refine (bO eo).elim λx hx=>?_
     have pb:=cB hx
     have xe:=(gk x).1 pb
     refine (hgate x pb).elim λg hg=>?_
     refine (lL.1 hg.1).elim λgi jX=>?_
     have hgx:x=2+(ins.length:Int)+gi:=by exact cx
     have jt:gs[gi]?=some g:=jX.2
     have hgl:=(bt.1 jt).1
     have G:=hn.aT gi g jt
     have ha:=G.a
     have hb:=G.b
     have hc:=G.c
     have fY:(0<=IntKind.i64.wrap (IntKind.i64.wrap (x - 2) - (ins.length:Int)))/\gs[(IntKind.i64.wrap (IntKind.i64.wrap (x - 2) - (ins.length:Int))).toNat]?=some g:=by
      rw [dt (n:=x - 2) (by exact cx) (by exact cx),dt (by exact cx) (by exact cx)];exact ⟨by exact cx,by rw [show (x - 2 - (ins.length:Int)).toNat=gi by exact cx];exact jt⟩
     have Lu:0<=g.a/\g.a.toNat < v2.length:=by exact cx
     have Lv:0<=g.b/\g.b.toNat < v2.length:=by exact cx
     have qD:0<=g.c/\g.c.toNat < v2.length:=by exact cx
     have jc:0<=x/\x.toNat < v2.length:=by exact cx
     have WL:x.toNat < N:=by omega
     refine (bO Lu.2).elim λba Lw=>?_
     refine (bO Lv.2).elim λbb tq=>?_
     refine (bO qD.2).elim λbc Cq=>?_
     refine (bO jc.2).elim λbx vK=>?_
     refine (⟨_,rfl⟩:∃r,r=oz g.op ba bb bc).elim λr hr=>?_
     have Ez:=hr.trans (hGV i Pj j m2 v2 hB P7 x hx g hg.1 hg.2 ba bb bc Lw tq Cq)
     have bS:j+1<=yl.length/\∃m',qG ins.length gs l yl (j+1) m'/\VM N i m' (v2.set x.toNat r):=⟨eo,_,hB.step hx xe.1 xe.2.2,P7.set jc.1 WL Ez⟩
     clear h
     cbv
     refine ⟨x,⟨iM,hx⟩,?_⟩
     cbv
     refine ⟨g,⟨fY⟩,?_⟩
     cbv
     refine ⟨x,⟨iM,hx⟩,?_⟩
     cbv
     refine ⟨⟨Lu⟩,?_⟩
     cbv
     refine ⟨ba,⟨Lw,rfl⟩,?_⟩
     cbv
     refine ⟨⟨Lv⟩,?_⟩
     cbv
     refine ⟨bb,⟨tq,rfl⟩,?_⟩
     cbv
     refine ⟨⟨qD⟩,?_⟩
     cbv
     refine ⟨bc,⟨Cq,rfl⟩,?_⟩
     cbv
     refine ⟨⟨g,ba,bb,bc⟩,⟨by exact cj,trivial⟩,?_⟩
     cbv
     refine ⟨⟨jc⟩,?_⟩
     cbv
     refine ⟨(bx,r),⟨vK,rfl,.cons (.b hr.symm) .nil⟩,?_⟩
     cbv
     exact ⟨(j+1,v2.set x.toNat r),by have bH:=j3;exact bh,by exact aM,⟨bS,atA⟩⟩
    ·have eo:¬j < yl.length:=aH
     have BM:0<=root/\root.toNat < v2.length:=by exact cx
     have hbr:=hRt i j m2 v2 hB (show yl.length<=j by omega) P7
     refine (⟨_,rfl⟩:∃br,jg (fX ins.length gs l root.toNat) i=br).elim λbr Lt=>?_
     rw [Lt] at hbr
     have wY:=afn (i:=i) (by omega)
     have h16:2^i < 65536:=FJ (C7 (by decide) (show i < 16 by omega)) (by decide)
     have K7:t < 65536:=CY ht.lt h16
     have hor:fN .or .i64 (t:Int) (IntKind.i64.wrap (1*2^(min (IntKind.u64.wrap (i:Int)).toNat IntKind.i64.bits)))=((t ||| 2^i:Nat):Int):=by
      rw [wY.2,<-afm K7 h16]
     clear h
     cbv
     refine ⟨⟨BM⟩,?_⟩
     cbv
     refine ⟨br,⟨hbr,rfl⟩,?_⟩
     cbv
     refine ⟨λh=>?_,λh=>?_⟩
     ·have iX:br=true:=h.out
      have bS:=ht.one (Lt.trans iX)
      clear h
      cbv
      refine ⟨⟨wY.1⟩,?_⟩
      cbv
      exact ⟨(i+1,t ||| 2^i),by have bH:=e7;exact bh,by have bH:=hor;exact bh,⟨⟨P6,bS⟩,bZ⟩⟩
     ·have iX:br=false:=h.out
      have bS:=ht.off (Lt.trans iX)
      clear h
      cbv
      exact ⟨(i+1,t),by have bH:=e7;exact bh,by exact aM,⟨⟨P6,bS⟩,bZ⟩⟩
  ·have P6:i=P:=by have h':dw (i:Int) (IntKind.i64.wrap (1*2^(min (IntKind.u64.wrap (l.length:Int)).toNat IntKind.i64.bits)))=false:=h.out;rw [hw] at h';simp only [dw,decide_eq_false_iff_not] at h';exact cx
   have hT:=atz t (by rw [<-P6];exact ht)
   clear h
   cbv
   exact .mk' ⟨(t:Int),0⟩ ⟨by exact cj⟩ hT
structure atB (I:Nat) (gs:List Gate) (R:List Int) (x:Cell) (r:Int) (l:List Int) (i:Nat) (g:Gate):Prop where
 er:r=2+(I:Int)+i
 eg:gs[i]?=some g
 lf:∀y∈l,0<=y/\y < r/\∃s,eP I R y=some s
 ins:x.ins=l.map λy=>(eP I R y).getD 0
 kind:(g.op=7/\l=cC g)\/(g.op≠7/\l.length<=4/\nh I gs (cC g) (·∈l))
structure Lays (I:Nat) (gs:List Gate) (bj:List Int) (m:ej) (c:k9):Prop where
 n:m.n=I
 rl:c.root.length=m.cells.length
 ll:c.leaves.length=m.cells.length
 inc:dM c.root
 lo:∀r∈c.root,2+(I:Int)<=r
 cell:∀(j:Nat) (x:Cell) (r:Int) (l:List Int),m.cells[j]?=some x->c.root[j]?=some r->c.leaves[j]?=some l->∃i g,atB I gs c.root x r l i g
 OX:∀d∈bj,∃s,eP I c.root d=some s
 EJ:m.bj=bj.map λv=>(eP I c.root v).getD 0
theorem Lays.ins {I:Nat} {gs:List Gate} {bj:List Int} {m:ej} {c:k9} (h:Lays I gs bj m c) {j:Nat} {x:Cell} {r:Int} {l:List Int} (hx:m.cells[j]?=some x) (hr:c.root[j]?=some r) (hl:c.leaves[j]?=some l) :
  ∀s∈x.ins,0<=s/\s < 2+(I:Int)+j:=by
 obtain ⟨i,g,F⟩:=h.cell j x r l hx hr hl
 intro s hs
 rw [F.ins] at hs
 obtain ⟨y,hy,rfl⟩:=jS.1 hs
 obtain ⟨_,y1,t,ht⟩:=F.lf y hy
 rw [ht]
 exact NR h.inc h.lo hr y1 ht
noncomputable def kR (n:Net) (v:Int):Bool:=decide (2+(n.ins.length:Int)<=v)&&match n.aT[(v - 2 - n.ins.length).toNat]? with|some g=>g.op == 7|none=>false
structure aea where
 n:Net
 root:List Int
 leaves:List (List Int)
 v:Int
def vD (x:aea):Int:=if x.v < 2+x.n.ins.length then x.v else match x.root.findIdx? (λz=>decide (z=x.v)) with
 | some i=>2+x.n.ins.length+i
 | none=>-1
@[reducible] noncomputable def Kq:Vc.Spec where
 α:=aea
 args x:=[.agg (jr x.n),.agg [.sl 1 bP (λ_=>x.root),.sl 1 e8 (λ_=>x.leaves)],.i .i64 (λ_=>x.v)]
 pre x:=x.n.ins.length<=1000/\x.root.length<=1000000/\0<=x.v
 res x:=.i .i64 (λ_=>vD x)
theorem NY:cR (PP ()) 118 Kq:=by
 refine et (rQ 0 0) (fo Tryz.func118) (λa=>⟨mu a.n,⟨(λx=>(df x).1),(λx=>(nJ x).1),trivial⟩,trivial,trivial⟩) (λa=>trivial) ?_
 rintro ⟨⟨ins,gs,outs,dr⟩,root,leaves,v⟩ hx
 obtain ⟨hi,hr,ib⟩:ins.length<=1000/\root.length<=1000000/\0<=v:=hx
 have hw:IntKind.i64.wrap (2+(ins.length:Int))=2+(ins.length:Int):=by rw [dt (by omega) (by omega)]
 refine ⟨?_⟩
 cbv
 refine ⟨λh=>?_,λh=>?_⟩
 ·have hv:v < 2+(ins.length:Int):=by have h':dw v (IntKind.i64.wrap (2+(ins.length:Int)))=true:=h.out;rw [hw] at h';simp only [dw,decide_eq_true_eq] at h';exact h'
  have e:vD ⟨⟨ins,gs,outs,dr⟩,root,leaves,v⟩=v:=by unfold vD;rw [if_pos hv]
  cbv
  exact ⟨.i e.symm⟩
 ·have hv:¬v < 2+(ins.length:Int):=by have h':dw v (IntKind.i64.wrap (2+(ins.length:Int)))=false:=h.out;rw [hw] at h';simp only [dw,decide_eq_false_iff_not] at h';exact h'
  cbv
  refine Sat.dq (rQ 0 0) 2 7 [] (λi:Nat=>[(7,.i .i64 λ_=>(i:Int))]) (λ_=>[]) (λi=>i<=root.length/\∀j,j < i->root[j]?≠some v) (λi=>root.length - i) 0 (by exact aM) (by exact aM) ⟨by simp,λj hj=>by omega⟩ ?_
  rintro i ⟨bM,dg⟩
  have h0:=n0 i
  have h1:=dC (i:=i) (by omega)
  cbv
  refine ⟨λh=>?_,λh=>?_⟩
  ·(have h:=h.out;simp (disch:=exact cx) only [hS] at h)
   have aP:i < root.length:=by exact cx
   have bZ:root.length - (i+1) < root.length - i:=by omega
   obtain ⟨x,hx⟩:=bO aP
   have pc:IntKind.i64.wrap (IntKind.i64.wrap (2+(ins.length:Int))+(i:Int))=2+(ins.length:Int)+i:=by rw [hw,dt (by exact cx) (by exact cx)]
   cbv
   refine ⟨x,⟨h0,hx⟩,?_⟩
   cbv
   refine ⟨λh=>?_,λh=>?_⟩
   ·have jc:x=v:=aH
    have e:IntKind.i64.wrap (IntKind.i64.wrap (2+(ins.length:Int))+(i:Int))=vD ⟨⟨ins,gs,outs,dr⟩,root,leaves,v⟩:=by
     rw [pc]
     unfold vD
     rw [if_neg hv]
     have:root.findIdx? (λz=>decide (z=v))=some i:=by
      rw [FW]
      refine ⟨aP,by rw [eI aP] at hx;simp at hx;simp [hx,jc],λj hj=>?_⟩
      have:=dg j hj
      rw [eI (by omega)] at this
      simpa using this
     simp only
     rw [this]
    cbv
    exact ⟨.i e⟩
   ·have bW:x≠v:=aH
    cbv
    exact ⟨i+1,by have bH:=h1;exact bh,by exact aM,⟨⟨aP,λj hj=>by
     by_cases oh:j=i
     ·subst oh;rw [hx];simpa using bW
     ·exact dg j (by omega)⟩,bZ⟩⟩
  ·have cG:i=root.length:=by have h':dw (i:Int) (root.length:Int)=false:=h.out;simp only [dw,decide_eq_false_iff_not] at h';exact cx
   have e:vD ⟨⟨ins,gs,outs,dr⟩,root,leaves,v⟩=-1:=by
    unfold vD
    rw [if_neg hv]
    have:root.findIdx? (λz=>decide (z=v))=none:=by
     rw [AM]
     intro x hx
     obtain ⟨j,hj⟩:=nG hx
     have eo:=(bt.1 hj).1
     have:=dg j (by have:j < root.length:=eo;omega)
     rw [hj] at this
     simpa using this
    simp only
    rw [this]
   cbv
   exact ⟨.ic e.symm⟩
structure qs (n:Net) (v:Nat) (l:List Int):Prop where
 len:l.length<=4
 mem:∀x∈l,0<=x/\x < (v:Int)
 read:kR n v=true->l.length=3
theorem NZ {i n:Nat} (h:dw (i:Int) (n:Int)=false) (hi:i<=n):i=n:=by
 have h':¬(i:Int) < n:=by simpa [dw] using h
 omega
structure Jm (n:Net) (lv:List (List Int)):Prop where
 len:lv.length=2+n.ins.length+n.aT.length
 ok:∀(u:Nat) (l:List Int),2+n.ins.length<=u->lv[u]?=some l->qs n u l
def Mk (nd:List Bool) (x:Int):Prop:=nd[x.toNat]?=some true
theorem Mk.set {nd:List Bool} {x:Int} (h:Mk nd x) (y:Nat):Mk (nd.set y true) x:=by
 unfold Mk at *
 rw [gY]
 have hl:=(bt.1 h).1
 split
 ·rename_i e;subst e;simp [hl]
 ·exact h
theorem Mk.new {nd:List Bool} {x:Int} (h:x.toNat < nd.length):Mk (nd.set x.toNat true) x:=by
 unfold Mk
 rw [gY];simp [h]
structure zZ (N i:Nat) (ds:List Int) (nd:List Bool):Prop where
 le:i<=ds.length
 len:nd.length=N
 dr:∀(j:Nat) (d:Int),j < i->ds[j]?=some d->Mk nd d
theorem zZ.nil (N:Nat) (dr:List Int):zZ N 0 dr (List.replicate N false):=⟨cg _,tT,λj d h=>by omega⟩
theorem zZ.add {N i:Nat} {dr:List Int} {nd:List Bool} (h:zZ N i dr nd) {d:Int} (hd:dr[i]?=some d) (h0:0<=d) (h1:d < N):zZ N (i+1) dr (nd.set d.toNat true):=by
 refine ⟨(bt.1 hd).1,by simp [h.len],λj e hj he=>?_⟩
 by_cases oh:j=i
 ·subst oh;rw [hd] at he;cases he
  exact Mk.new (by rw [h.len];omega)
 ·exact (h.dr j e (by omega) he).set _
structure qI (n:Net) (lv:List (List Int)) (k:Nat) (nd:List Bool):Prop where
 len:nd.length=2+n.ins.length+n.aT.length
 dr:∀d∈n.bj,Mk nd d
 cl:∀(u:Nat) (l:List Int),k<=u->2+n.ins.length<=u->nd[u]?=some true->lv[u]?=some l->∀x∈l,Mk nd x
theorem qI.of {n:Net} {lv:List (List Int)} {i:Nat} {nd:List Bool} (h:zZ (2+n.ins.length+n.aT.length) i n.bj nd) (hi:i=n.bj.length):qI n lv (2+n.ins.length+n.aT.length) nd :=
 ⟨h.len,λd hd=>by obtain ⟨j,hj,e⟩:=FE.1 hd;exact h.dr j d (by omega) (by rw [eI hj,e]),λu l hu _ hn _ x _=>by have:=(bt.1 hn).1;rw [h.len] at this;omega⟩
structure Cr (n:Net) (lv:List (List Int)) (k j:Nat) (l:List Int) (nd:List Bool):Prop where
 c:qI n lv (k+1) nd
 le:j<=l.length
 mks:∀(i:Nat) (x:Int),i < j->l[i]?=some x->Mk nd x
theorem qI.start {n:Net} {lv:List (List Int)} {k:Nat} {nd:List Bool} (h:qI n lv (k+1) nd) (l:List Int):Cr n lv k 0 l nd:=⟨h,cg _,λi x h=>by omega⟩
theorem Cr.add {n:Net} {lv:List (List Int)} {k j:Nat} {l:List Int} {nd:List Bool} (h:Cr n lv k j l nd) (hv:qs n k l) {x:Int} (hx:l[j]?=some x) (hk:k < nd.length):Cr n lv k (j+1) l (nd.set x.toNat true):=by
 have hm:=hv.mem x (cB hx)
 refine ⟨⟨by simp [h.c.len],λd hd=>(h.c.dr d hd).set _,λu l' hu h2 hn hl y hy=>?_⟩,(bt.1 hx).1,λi y hi hy=>?_⟩
 ·refine (h.c.cl u l' hu h2 ?_ hl y hy).set _
  rw [gY] at hn
  split at hn
  ·omega
  ·exact hn
 ·by_cases oh:i=j
  ·subst oh;rw [hx] at hy;cases hy
   exact Mk.new (by omega)
  ·exact (h.mks i y (by omega) hy).set _
theorem Cr.out {n:Net} {lv:List (List Int)} {k j:Nat} {l:List Int} {nd:List Bool} (h:Cr n lv k j l nd) (hl:lv[k]?=some l) (hd:nd[k]?=some false\/j=l.length):qI n lv k nd:=by
 refine ⟨h.c.len,h.c.dr,λu l' hu h2 hn iL y hy=>?_⟩
 by_cases huk:u=k
 ·subst huk
  rw [hl] at iL;cases iL
  rcases hd with hd|hd
  ·rw [hd] at hn;cases hn
  ·obtain ⟨i,hi,e⟩:=FE.1 hy
   exact h.mks i y (by omega) (by rw [eI hi,e])
 ·exact h.c.cl u l' (by omega) h2 hn iL y hy
structure BF where
 v:Nat
 cells:List Cell
 root:List Int
 rl:List (List Int)
structure zy (n:Net) (nd:List Bool) (x:BF):Prop where
 lo:2+n.ins.length<=x.v
 hi:x.v<=2+n.ins.length+n.aT.length
 cl:x.cells.length=x.root.length
 e6:x.root.length+(2+n.ins.length)<=x.v
 rl:x.rl.length=x.root.length
 mem:∀u:Nat,2+n.ins.length<=u->u < x.v->nd[u]?=some true->(u:Int)∈x.root
 cells:∀(i:Nat) (c:Cell),x.cells[i]?=some c->Tu (2+n.ins.length+i) c
theorem zy.nil (n:Net) (nd:List Bool):zy n nd ⟨2+n.ins.length,[],[],[]⟩:=⟨fq _,by show 2+n.ins.length<=_;omega,rfl,by simp,rfl,λu h1 h2=>by have:u < 2+n.ins.length:=h2;omega,λi c h=>by simp at h⟩
theorem zy.skip {n:Net} {nd:List Bool} {v:Nat} {cells:List Cell} {root:List Int} {rl:List (List Int)} (h:zy n nd ⟨v,cells,root,rl⟩) (hv:v < 2+n.ins.length+n.aT.length) (hd:nd[v]?=some false):zy n nd ⟨v+1,cells,root,rl⟩ :=
 ⟨by have:=h.lo;show 2+n.ins.length<=v+1;exact CU this,hv,h.cl,by have:=h.e6;simp only at this ⊢;omega,h.rl,λu h1 h2 hu=>by
  have h2:u < v+1:=h2
  by_cases e:u=v
  ·subst e;rw [hd] at hu;cases hu
  ·exact h.mem u h1 (show u < v by omega) hu,h.cells⟩
theorem zy.add {n:Net} {nd:List Bool} {v:Nat} {cells:List Cell} {root:List Int} {rl:List (List Int)} (h:zy n nd ⟨v,cells,root,rl⟩) (hv:v < 2+n.ins.length+n.aT.length) {c:Cell} (hc:Tu (2+n.ins.length+root.length) c) (l:List Int):zy n nd ⟨v+1,cells++[c],root++[(v:Int)],rl++[l]⟩:=by
 have jC:cells.length=root.length:=h.cl
 refine ⟨by have:=h.lo;show 2+n.ins.length<=v+1;exact CU this,hv,by simp [jC],by have:=h.e6;simp at this ⊢;omega,by have:=h.rl;simpa using this,λu h1 h2 hu=>?_,λi d hd=>?_⟩
 ·have h2:u < v+1:=h2
  by_cases e:u=v
  ·subst e;simp
  ·exact wj _ (h.mem u h1 (show u < v by omega) hu)
 ·have hd:(cells++[c])[i]?=some d:=hd
  rw [xE] at hd
  split at hd
  ·exact h.cells i d hd
  ·rename_i aP
   have hi:i - cells.length=0:=by
    have:=(bt.1 hd).1
    simp at this;omega
   rw [hi] at hd
   simp at hd
   subst hd
   have:i=root.length:=by
    have:i - cells.length=0:=hi
    omega
   rw [this];exact hc
structure Ha (n:Net) (R j:Nat) (l:List Int):Prop where
 len:l.length=j
 ok:∀s∈l,0<=s/\s < 2+(n.ins.length:Int)+R
theorem Ha.nil (n:Net) (R:Nat):Ha n R 0 []:=⟨rfl,by simp⟩
theorem Ha.add {n:Net} {R j:Nat} {l:List Int} (h:Ha n R j l) {s:Int} (hs:0<=s/\s < 2+(n.ins.length:Int)+R):Ha n R (j+1) (l++[s]):=by
 refine ⟨by simp [h.len],λx hx=>?_⟩
 rcases dR.1 hx with hx|hx
 ·exact h.ok x hx
 ·simp at hx;subst hx;exact hs
theorem adX.of {n:Net} {nd:List Bool} {st:BF} (hn:adW n) (h:zy n nd st) {dr:List Int} (hd:Ha n st.root.length n.bj.length dr):adX n ⟨n.ins.length,st.cells,dr⟩:=by
 have h1:=h.e6
 have h2:=h.hi
 have h3:=h.cl
 exact ⟨rfl,by simp only;omega,h.cells,by rw [<-hn.UX];exact hd.len,λd hm=>by have:=hd.ok d hm;simp only;omega⟩
def js (nd:List Bool) (I v:Nat):List Int:=((List.range v).filter λu=>nd.getD u false&&decide (2+I<=u)).map λu:Nat=>(u:Int)
theorem Db {nd:List Bool} {I v:Nat} {x:Int}:x∈js nd I v↔∃u:Nat,x=(u:Int)/\u < v/\nd[u]?=some true/\2+I<=u:=by
 unfold js
 simp only [jS,mW,mX,cQ,decide_eq_true_eq,FV]
 constructor
 ·rintro ⟨u,⟨a,b,c⟩,rfl⟩;exact ⟨u,rfl,a,b,c⟩
 ·rintro ⟨u,rfl,a,b,c⟩;exact ⟨u,⟨a,b,c⟩,rfl⟩
theorem SF (nd:List Bool) (I v:Nat):dM (js nd I v):=by
 unfold js dM
 rw [rJ]
 exact (C6.filter _).imp λh=>by omega
theorem YN (nd:List Bool) (I:Nat):js nd I (2+I)=[]:=by
 refine FX.2 λx hx=>?_
 obtain ⟨u,_,h1,_,h2⟩:=Db.1 hx
 omega
theorem akL {nd:List Bool} {I v:Nat} (h:nd[v]?=some false):js nd I (v+1)=js nd I v:=by
 unfold js
 rw [Ay,yR]
 have hp:(nd.getD v false&&decide (2+I<=v))=false:=by rw [List.getD_eq_getElem?_getD,h];rfl
 rw [Rh (by rw [hp];exact Rv),List.filter_nil,Ax]
theorem al1 {nd:List Bool} {I v:Nat} (h:nd[v]?=some true) (hv:2+I<=v):js nd I (v+1)=js nd I v++[(v:Int)]:=by
 unfold js
 rw [Ay,yR]
 have hp:(nd.getD v false&&decide (2+I<=v))=true:=by rw [List.getD_eq_getElem?_getD,h];simp [hv]
 rw [MF (by rw [hp]),List.filter_nil,qe]
 rfl
theorem aaO (nd:List Bool) (I:Nat) {v:Nat}:∀{k:Nat},∃r,js nd I (v+k)=js nd I v++r
 | 0=>⟨[],by simp⟩
 | k+1=>by
  obtain ⟨r,hr⟩:=aaO nd I (v:=v) (k:=k)
  have:∃t,js nd I (v+k+1)=js nd I (v+k)++t:=by
   unfold js
   rw [Ay,yR,qe]
   exact ⟨_,rfl⟩
  obtain ⟨t,ht⟩:=this
  exact ⟨r++t,by rw [show v+(k+1)=v+k+1 by omega,ht,hr,List.append_assoc]⟩
theorem aaP (nd:List Bool) (I:Nat):∀k:Nat,(js nd I (2+I+k)).length<=k
 | 0=>by rw [rK,YN];exact fq _
 | k+1=>by
  have ih:=aaP nd I k
  unfold js at *
  rw [show 2+I+(k+1)=2+I+k+1 by omega,Ay,yR,qe,List.length_append]
  have:(List.map (λu:Nat=>(u:Int)) (List.filter (λu=>nd.getD u false&&decide (2+I<=u)) [2+I+k])).length<=1:=by
   rw [iR]
   exact oR (FD _ _) (fq _)
  omega
theorem aoT {n:Net} {nd:List Bool} {v k:Nat} {rl:List (List Int)} {x:Int} (h0:0<=x) (hx:x < v) (hm:2+(n.ins.length:Int)<=x->Mk nd x):vD ⟨n,js nd n.ins.length v,rl,x⟩=(eP n.ins.length (js nd n.ins.length (v+k)) x).getD 0:=by
 unfold vD eP
 simp only
 by_cases hl:x < 2+(n.ins.length:Int)
 ·rw [if_pos hl,if_pos ⟨h0,hl⟩];rfl
 ·rw [if_neg hl,if_neg (λh=>hl h.2)]
  obtain ⟨r,hr⟩:=aaO nd n.ins.length (v:=v) (k:=k)
  have gk:x∈js nd n.ins.length v:=Db.2 ⟨x.toNat,by omega,by omega,hm (by omega),by omega⟩
  rw [hr,List.findIdx?_append]
  cases hf:(js nd n.ins.length v).findIdx? (λz=>decide (z=x)) with
  | none =>
   exfalso
   rw [AM] at hf
   have:=hf x gk
   simp at this
  | some i=>rfl
def oA (lv:List (List Int)) (r:Int):List Int:=lv.getD r.toNat []
def vR (I:Nat) (gs:List Gate) (r:Int) (l:List Int):Int × Int:=match fI I gs r.toNat with
 | some g=>if g.op=7 then (0,g.n) else ((nU I gs r l).1,-1)
 | none=>(0,-1)
def xV (I:Nat) (gs:List Gate) (R:List Int) (lv:List (List Int)) (r:Int):Cell:=⟨(oA lv r).map λx=>(eP I R x).getD 0,(vR I gs r (oA lv r)).1,(vR I gs r (oA lv r)).2⟩
def Sound (n:Net) (lv:List (List Int)) (nd:List Bool):Prop:=∀v:Nat,nd[v]?=some true->n9 (λu=>if u < 2+n.ins.length then [] else lv.getD u []) (λu=>∃d∈n.bj,d.toNat=u) v
theorem Sound.nil (n:Net) (lv:List (List Int)) (N:Nat):Sound n lv (List.replicate N false):=λv h=>by rw [sI] at h;split at h<;>cases h
theorem Sound.put {n:Net} {lv:List (List Int)} {nd:List Bool} (h:Sound n lv nd) {x:Nat} (hx:n9 (λu=>if u < 2+n.ins.length then [] else lv.getD u []) (λu=>∃d∈n.bj,d.toNat=u) x):Sound n lv (nd.set x true):=λv hv=>by
 rw [gY] at hv
 split at hv
 ·rename_i e;subst e;exact hx
 ·exact h v hv
theorem Sound.EJ {n:Net} {lv:List (List Int)} {nd:List Bool} (h:Sound n lv nd) {d:Int} (hd:d∈n.bj):Sound n lv (nd.set d.toNat true):=h.put (.base ⟨d,hd,rfl⟩)
theorem Sound.leaf {n:Net} {lv:List (List Int)} {nd:List Bool} (h:Sound n lv nd) {v:Nat} (hv:nd[v]?=some true) (h2:2+n.ins.length<=v) {l:List Int} (hl:lv[v]?=some l) {x:Int} (hx:x∈l):Sound n lv (nd.set x.toNat true) :=
 h.put (.step (h v hv) (by rw [if_neg (by omega),List.getD_eq_getElem?_getD,hl];exact hx))
structure DA (n:Net) (lv:List (List Int)) (m:ej) (R:List Int) (V:List (List Int)):Prop where
 ex:∃nd:List Bool,qI n lv (2+n.ins.length) nd/\Sound n lv nd/\R=js nd n.ins.length (2+n.ins.length+n.aT.length)/\V=R.map (oA lv) /\
  m=⟨n.ins.length,R.map (xV n.ins.length n.aT R lv),n.bj.map λx=>(eP n.ins.length R x).getD 0⟩
def Good (I:Nat) (gs:List Gate) (lv:List (List Int)):Prop:=∀(i:Nat) (g:Gate) (l:List Int),gs[i]?=some g->lv[2+I+i]?=some l->(∀x∈l,0<=x/\x < 2+(I:Int)+i)/\((g.op=7/\l=cC g)\/(g.op≠7/\(eC I gs (2+(I:Int)+i) l).isSome=true))
theorem akM {I:Nat} {gs:List Gate} {lv:List (List Int)} (hg:Good I gs lv) {i:Nat} {g:Gate} {l:List Int} (h1:gs[i]?=some g) (h2:lv[2+I+i]?=some l) {R:List Int} (hs:∀x∈l,∃s,eP I R x=some s) :
  cellOf I gs (2+(I:Int)+i) l (eP I R)=(xV I gs R lv (2+(I:Int)+i),0):=by
 have hr:(2+(I:Int)+i).toNat=2+I+i:=by omega
 have rq:fI I gs (2+(I:Int)+i).toNat=some g:=by rw [hr];exact lL.2 ⟨i,rfl,h1⟩
 have cO:oA lv (2+(I:Int)+i)=l:=by unfold oA;rw [hr,List.getD_eq_getElem?_getD,h2];rfl
 unfold cellOf xV vR
 rw [IF hs,cO]
 simp only [if_true,rq]
 obtain ⟨hm,hk⟩:=hg i g l h1 h2
 rcases hk with ⟨h7,e⟩|⟨h7,hc⟩
 ·rw [if_pos h7,if_pos h7,if_pos e]
 ·rw [if_neg h7,if_neg h7]
  have bW:l≠[2+(I:Int)+i]:=λe=>by
   have:=(hm (2+(I:Int)+i) (by rw [e];simp)).2
   omega
  rw [if_neg bW]
  have:(nU I gs (2+(I:Int)+i) l).2=0:=by
   unfold nU
   cases hq:eC I gs (2+(I:Int)+i) l with
   | none=>rw [hq] at hc;cases hc
   | some k=>rfl
  rw [if_pos this]
theorem ZG {n:Net} {lv:List (List Int)} {m:ej} {R:List Int} {V:List (List Int)} (G:ca n.ins.length n.aT) (hd:∀d∈n.bj,0<=d/\d < 2+(n.ins.length:Int)+n.aT.length) (cO:lv.length=2+n.ins.length+n.aT.length) (hg:Good n.ins.length n.aT lv) (h:DA n lv m R V) :
  mA n.ins.length n.aT n.bj m ⟨R,V⟩=true:=by
 obtain ⟨nd,hc,_,hR,rfl,rfl⟩:=h.ex
 have Eh:∀r∈R,2+(n.ins.length:Int)<=r/\r < 2+(n.ins.length:Int)+n.aT.length:=λr hr=>by
  rw [hR] at hr
  obtain ⟨u,rfl,h1,_,h2⟩:=Db.1 hr
  omega
 have kE:dM R:=by rw [hR];exact SF _ _ _
 have lX:∀x:Int,2+(n.ins.length:Int)<=x->x < 2+(n.ins.length:Int)+n.aT.length->Mk nd x->x∈R:=λx h1 h2 hm=>by rw [hR];exact Db.2 ⟨x.toNat,by omega,by omega,hm,by omega⟩
 have wB:ow n.ins.length n.aT (eP n.ins.length R) (R.map λr=>(cellOf n.ins.length n.aT r (oA lv r) (eP n.ins.length R)).1) R (R.map (oA lv))=true/\∀r∈R,(cellOf n.ins.length n.aT r (oA lv r) (eP n.ins.length R)).1=xV n.ins.length n.aT R lv r:=by
  have key:∀r∈R,cellOf n.ins.length n.aT r (oA lv r) (eP n.ins.length R)=(xV n.ins.length n.aT R lv r,0):=λr hr=>by
   have hb:=Eh r hr
   obtain ⟨i,hi⟩:∃i:Nat,r=2+(n.ins.length:Int)+i:=⟨(r - 2 - n.ins.length).toNat,by omega⟩
   obtain ⟨g,jX⟩:=bO (l:=n.aT) (i:=i) (by omega)
   obtain ⟨l,hl⟩:=bO (l:=lv) (i:=2+n.ins.length+i) (by omega)
   have HS:r.toNat=2+n.ins.length+i:=by omega
   have EH:oA lv r=l:=by unfold oA;rw [HS,List.getD_eq_getElem?_getD,hl];rfl
   rw [hR] at hr
   obtain ⟨u,e,_,hu,_⟩:=Db.1 hr
   have hu':u=2+n.ins.length+i:=by omega
   subst hu'
   rw [EH,hi]
   refine akM hg jX hl λx hx=>I9 ?_
   have hxb:=(hg i g l jX hl).1 x hx
   by_cases h2:x < 2+(n.ins.length:Int)
   ·exact .inl ⟨hxb.1,h2⟩
   ·exact .inr (lX x (by omega) (by omega) (hc.cl _ l (by omega) (by omega) hu hl x hx))
  exact ⟨Q5 λr hr=>by rw [key r hr],λr hr=>by rw [key r hr]⟩
 have DU:R.map (xV n.ins.length n.aT R lv)=R.map λr=>(cellOf n.ins.length n.aT r (oA lv r) (eP n.ins.length R)).1:=qM λr hr=>(wB.2 r hr).symm
 unfold mA
 simp only [cQ,decide_eq_true_eq,iR]
 refine ⟨⟨⟨⟨trivial,trivial⟩,trivial⟩,trivial⟩,Q3 kE λr hr=>by have:=Eh r hr;omega,by rw [DU];exact wB.1,Q4 λd lZ=>I9 ?_⟩
 have:=hd d lZ
 by_cases iK:d < 2+(n.ins.length:Int)
 ·exact .inl ⟨this.1,iK⟩
 ·exact .inr (lX d (by omega) this.2 (hc.dr d lZ))
@[reducible] noncomputable def Ep:Vc.Spec where
 α:=NV
 args x:=[.agg (jr x.n),.i .i64 (λ_=>x.v)]
 pre x:=ca x.n.ins.length x.n.aT/\0<=x.v/\x.v < gv x.n
 res x:=.b (λ_=>kR x.n x.v)
theorem Gl:cR (PP ()) 107 Ep:=by
 refine et (rQ 0 0) (fo Tryz.func107) (λa=>⟨mu a.n,trivial,trivial⟩) (λa=>trivial) ?_
 rintro ⟨⟨ins,gs,outs,dr⟩,v⟩ hx
 obtain ⟨hn,h0,h1⟩:ca ins.length gs/\0<=v/\v < 2+(ins.length:Int)+gs.length:=hx
 have vB:2+ins.length+gs.length<=600:=hn.k8
 have hw:IntKind.i64.wrap (2+(ins.length:Int))=2+(ins.length:Int):=by rw [dt (by omega) (by omega)]
 refine ⟨?_⟩
 cbv
 refine ⟨λh=>?_,λh=>?_⟩
 ·have hv:2+(ins.length:Int)<=v:=by have h':gI (IntKind.i64.wrap (2+(ins.length:Int))) v=true:=h.out;rw [hw] at h';simp only [gI,decide_eq_true_eq] at h';exact h'
  obtain ⟨g,hg⟩:=bO (l:=gs) (i:=(v - 2 - ins.length).toNat) (by exact cx)
  have fY:(0<=IntKind.i64.wrap (IntKind.i64.wrap (v - 2) - (ins.length:Int)))/\gs[(IntKind.i64.wrap (IntKind.i64.wrap (v - 2) - (ins.length:Int))).toNat]?=some g:=by
   rw [dt (n:=v - 2) (by exact cx) (by exact cx),dt (by exact cx) (by exact cx)];exact ⟨by exact cx,hg⟩
  have e:kR ⟨ins,gs,outs,dr⟩ v=eW g.op 7:=by
   unfold kR eW
   simp only
   rw [hg]
   simp [hv]
  clear h
  cbv
  refine ⟨g,⟨fY⟩,?_⟩
  cbv
  exact ⟨.b e.symm⟩
 ·have hv:¬2+(ins.length:Int)<=v:=by have h':gI (IntKind.i64.wrap (2+(ins.length:Int))) v=false:=h.out;rw [hw] at h';simp only [gI,decide_eq_false_iff_not] at h';exact h'
  have e:kR ⟨ins,gs,outs,dr⟩ v=false:=by unfold kR;simp [hv]
  clear h
  cbv
  exact ⟨.bc e.symm⟩
structure wV (ops:List Int) (i:Nat) (o:List Int):Prop where
 le:i<=ops.length
 inc:dM o
 mem:∀z,z∈o↔z∈ops.take i/\2<=z
 len:o.length<=i
theorem wV.nil (ops:List Int):wV ops 0 []:=⟨cg _,.nil,by simp,cg _⟩
theorem wV.put {ops o:List Int} {i:Nat} (h:wV ops i o) {x:Int} (hx:ops[i]?=some x) (h2:2<=x):wV ops (i+1) (iS o [x]):=by
 refine ⟨(bt.1 hx).1,CR _ _,λz=>?_,?_⟩
 ·rw [yN,h.mem z,sN hx,dR,j9]
  constructor
  ·rintro (⟨a,b⟩|rfl)
   ·exact ⟨.inl a,b⟩
   ·exact ⟨.inr rfl,h2⟩
  ·rintro ⟨a|a,b⟩
   ·exact .inl ⟨a,b⟩
   ·exact .inr a
 ·have:=Q7 (a:=o) (b:=[x])
  have:=h.len
  simp at *;omega
theorem wV.off {ops o:List Int} {i:Nat} (h:wV ops i o) {x:Int} (hx:ops[i]?=some x) (h2:¬2<=x):wV ops (i+1) o:=by
 refine ⟨(bt.1 hx).1,h.inc,λz=>?_,CU h.len⟩
 rw [h.mem z,sN hx,dR,j9]
 constructor
 ·rintro ⟨a,b⟩;exact ⟨.inl a,b⟩
 ·rintro ⟨a|rfl,b⟩
  ·exact ⟨a,b⟩
  ·exact absurd b h2
structure Br (ops o:List Int):Prop where
 inc:dM o
 mem:∀z,z∈o↔z∈ops/\2<=z
 len:o.length<=3
@[reducible] noncomputable def atD:jT where
 α:=NV
 args x:=[.agg (jr x.n),.i .i64 (λ_=>x.v)]
 pre x:=ca x.n.ins.length x.n.aT/\0<=x.v/\x.v < gv x.n
 β:=List Int
 post x y:=Br (iy x.n.ins.length x.n.aT x.v) y
 res x y:=.sl 1 bP (λ_=>y)
theorem R8 (I:Nat) (gs:List Gate) (v:Int):(iy I gs v).length<=3:=by
 unfold iy
 split
 ·exact (xF _).2
 ·exact cg _
noncomputable def atE (n m:Nat):Ctx:=ie n m [(54,Tryz.f54),(123,Tryz.f123)] [] [54,123] [] [] [] [35]
theorem acS (n m:Nat):CB PP (atE n m):=ik n m ⟨fo Tryz.func54,fo Tryz.func123,trivial⟩ trivial
theorem aoU:k7 PP 114 atD:=by
 refine qS (acS 0 0) (fo Tryz.func114) (λa=>⟨mu a.n,trivial,trivial⟩) (λa y=>(λx=>(df x).1)) ?_
 rintro ⟨n,v⟩ hx
 have hx:ca n.ins.length n.aT/\0<=v/\v < gv n:=hx
 refine ⟨?_⟩
 cbv
 refine gw.rel Np ⟨n,v⟩ (by exact cj) ⟨hx⟩ λops kG=>?_
 have kG:ops=iy n.ins.length n.aT v:=kG.out
 have fu:ops.length<=3:=by rw [kG];exact R8 _ _ _
 have aCR:dM ([]:List Int):=.nil
 cbv
 refine Sat.dq (acS 0 0) 1 5 [] (λx:Nat × List Int=>[(5,.sl 1 bP λ_=>x.2),(6,.sl 1 bP λ_=>ops),(7,.i .i64 λ_=>(x.1:Int))]) (λ_=>[])
  (λx=>wV ops x.1 x.2) (λx=>ops.length - x.1) (0,[]) (by exact aM) (by exact aM) (wV.nil ops) ?_
 rintro ⟨i,o⟩ hN
 have hN:wV ops i o:=hN
 have hi:=hN.le
 have hl:=hN.len
 have h0:=n0 i
 have h1:=dC (i:=i) (by omega)
 cbv
 refine ⟨λh=>?_,λh=>?_⟩
 ·have bM:i < ops.length:=aH
  have bZ:ops.length - (i+1) < ops.length - i:=by omega
  refine (bO bM).elim λx hx=>?_
  have u1:o.length<=1000000:=by omega
  have u2:[x].length<=1000000:=by show 1<=1000000;decide
  have u3:dM [x]:=by simp
  have u4:=hN.inc
  clear h
  cbv
  refine ⟨x,⟨h0,hx⟩,?_⟩
  cbv
  refine ⟨λh=>?_,λh=>?_⟩
  ·have iK:2<=x:=Ee h.out
   have hp:=hN.put hx iK
   clear h
   cbv
   refine ⟨x,⟨h0,hx⟩,?_⟩
   cbv
   refine gw.rel acQ ⟨o,[x]⟩ (by exact cj) ⟨u1,u2,u4,u3⟩ λu hu=>?_
   have hu:u=iS o [x]:=hu.out
   rw [<-hu] at hp
   cbv
   exact ⟨(i+1,u),by have bH:=h1;exact bh,by exact aM,⟨hp,bZ⟩⟩
  ·have iK:¬2<=x:=C1.2 (Ef h.out)
   have hp:=hN.off hx iK
   clear h
   cbv
   exact ⟨(i+1,o),by have bH:=h1;exact bh,by exact aM,⟨hp,bZ⟩⟩
 ·have bM:¬i < ops.length:=aH
  have cb:Br (iy n.ins.length n.aT v) o:=⟨hN.inc,λz=>by rw [hN.mem z,iQ (by omega),kG],by omega⟩
  clear h
  cbv
  exact .mk' o ⟨by exact cj⟩ cb
theorem anf {I:Nat} {gs:List Gate} (G:ca I gs) {i:Nat} {g:Gate} (hg:gs[i]?=some g) (h7:g.op≠7) {o:List Int} (h:Br (cC g) o):(eC I gs (2+(I:Int)+i) o).isSome=true/\∀x∈o,0<=x/\x < 2+(I:Int)+i:=by
 have hl:=(bt.1 hg).1
 have hm:∀x∈o,0<=x/\x < 2+(I:Int)+i:=λx hx=>G.ops hg x ((h.mem x).1 hx).1
 refine ⟨(CS G).2 ⟨⟨by omega,by omega,by have:=h.len;omega,λx hx=>⟨((h.mem x).1 hx).2,by have:=hm x hx;omega⟩,h.inc⟩,.gate hg h7 λx hx=>?_,λx hx=>?_⟩,hm⟩
 ·by_cases h2:2<=x
  ·exact .mem ((h.mem x).2 ⟨hx,h2⟩)
  ·exact .const (G.ops hg x hx).1 (by omega)
 ·have hr:(2+(I:Int)+i).toNat=2+I+i:=by omega
  refine .step (u:=(2+(I:Int)+i).toNat) (.base rfl) (qk.2 ⟨λrh=>?_,g,by rw [hr];exact lL.2 ⟨i,rfl,hg⟩,h7,((h.mem x).1 hx).1⟩)
  have:=(hm _ rh).2
  omega
structure afo where
 n:Net
 root:Int
 b:List Int
structure Gm (r:Int) (L:List Int):Prop where
 len:L.length<=4
 mem:L=[r]\/∀x∈L,0<=x/\x < r
theorem Gm.le {r:Int} {L:List Int} (h:Gm r L) (h0:0<=r):∀x∈L,0<=x/\x<=r:=λx hx=>by
 rcases h.mem with e|e
 ·subst e;simp at hx;omega
 ·have:=e x hx;omega
theorem Gm.cut {r:Int} {L:List Int} (h:Gm r L) {i:Nat} (hi:i < L.length):∀x∈(L.take i++L.drop (i+1)),0<=x/\x < r:=λx hx=>by
 rcases h.mem with e|e
 ·subst e
  have:i=0:=by simpa using hi
  subst this
  simp at hx
 ·refine e x ?_
  rcases dR.1 hx with hx|hx
  ·exact tU hx
  ·exact tV hx
structure PiU (r:Int) (n k:Nat) (u:List Int):Prop where
 le:k<=n
 len:u.length<=3+k
 mem:∀x∈u,0<=x/\x < r
structure rU (I:Nat) (gs:List Gate) (r:Int) (L:List Int):Prop where
 ok:L=[r]\/(∀x∈L,0<=x/\x < r)/\(eC I gs r L).isSome=true
theorem rU.pick {I:Nat} {gs:List Gate} {r:Int} {L:List Int} (h:rU I gs r L):Gm r L:=by
 rcases h.ok with e|⟨a,b⟩
 ·subst e;exact ⟨by show 1<=4;decide,.inl rfl⟩
 ·cases hc:eC I gs r L with
  | none=>rw [hc] at b;cases b
  | some l=>exact ⟨(As hc).len,.inr a⟩
theorem aaQ {I:Nat} {gs:List Gate} (G:ca I gs) {v:Int} (h0:0<=v) {x:Int} (hx:x∈iy I gs v):0<=x/\x < v:=by
 unfold iy at hx
 split at hx
 ·rename_i g hg
  obtain ⟨i,e,hi⟩:=lL.1 hg
  have:=G.ops hi x hx
  omega
 ·cases hx
end Go.Proofs.Pk
