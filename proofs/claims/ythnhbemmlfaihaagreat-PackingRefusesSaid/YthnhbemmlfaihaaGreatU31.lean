import Derived.Test.YthnhbemmlfaihaaGreatU7
import Derived.Test.YthnhbemmlfaihaaGreatU28
import Derived.Test.YthnhbemmlfaihaaGreatU30
set_option linter.unusedVariables false
set_option linter.unusedSimpArgs false
set_option maxRecDepth 10000
set_option maxHeartbeats 64000000
namespace Go.Proofs.Pk
open Go Go.Vc
structure Fw (p:bC):Prop where
 sh:Shape p
 rk:∃r,k9 p r
 ins:p.ins.length<=1000000
@[reducible] noncomputable def Qg:Vc.Spec where
 α:=bC
 args x:=[.agg (fH x)]
 pre x:=Fw x
 res x:=.sl 1 mE (λ_=>pq x)
 fr:=true
structure I4 (p:bC) (i:Nat) (sig:List Int):Prop where
 le:i<=p.ins.length
 sl:sig.length=p.ins.length+2*p.blocks.length
 pz:∀s:Nat,s < i->sig[s]?=some (KQ p s)
theorem I4.add {p:bC} {i:Nat} {sig:List Int} (h:I4 p i sig) {w:bU} (hw:p.ins[i]?=some w):I4 p (i+1) (sig.set i (iP [2,w.kind,w.i,w.bit])):=by
 have aR:=(bW.1 hw).1
 refine ⟨aR,by simp [h.sl],λs hs=>?_⟩
 by_cases e:s=i
 ·subst e
  have jm:=h.sl
  rw [ja]
  simp only [if_true]
  rw [if_pos (by omega)]
  unfold KQ
  rw [ox,iE,hw]
  rfl
 ·rw [fb (λh=>e h.symm)];exact h.pz s (by omega)
structure zT (p:bC) (i:Nat) (sig out:List Int):Prop where
 le:i<=p.blocks.length
 sl:sig.length=p.ins.length+2*p.blocks.length
 ol:out.length=p.blocks.length
 pz:∀s:Nat,s < p.ins.length->sig[s]?=some (KQ p s)
 aZ:∀(b:Nat) (x:Block),b < i->p.blocks[b]?=some x->0<=x.aZ->sig[p.ins.length+2*b]?=some (iP [3,x.aZ])/\sig[p.ins.length+2*b+1]?=some (iP [1,x.aZ])/\out[b]?=some (iP [1,x.aZ])
theorem zT.skip {p:bC} {i:Nat} {sig out:List Int} (h:zT p i sig out) {x:Block} (hx:p.blocks[i]?=some x) (hr:x.aZ < 0):zT p (i+1) sig out :=
 ⟨(
  bW.1 hx).1,h.sl,h.ol,h.pz,λb y hb hy h0=>by
  by_cases e:b=i
  ·subst e;rw [hx] at hy;cases hy;omega
  ·exact h.aZ b y (by omega) hy h0⟩
theorem zT.add {p:bC} {i:Nat} {sig out:List Int} (h:zT p i sig out) {x:Block} (hx:p.blocks[i]?=some x) (hr:0<=x.aZ):zT p (i+1) ((sig.set (p.ins.length+2*i) (iP [3,x.aZ])).set (p.ins.length+2*i+1) (iP [1,x.aZ])) (out.set i (iP [1,x.aZ])):=by
 have aR:=(bW.1 hx).1
 have jm:=h.sl
 have gv:=h.ol
 refine ⟨aR,by simp [jm],by simp [gv],λs hs=>?_,λb y hb hy h0=>?_⟩
 ·rw [fb (by omega),fb (by omega)];exact h.pz s hs
 ·by_cases e:b=i
  ·subst e;rw [hx] at hy;cases hy
   refine ⟨?_,?_,?_⟩
   ·rw [fb (by omega),ja];simp;omega
   ·rw [ja];simp;omega
   ·rw [ja];simp;omega
  ·rw [fb (by omega),fb (by omega),fb (by omega),fb (by omega),fb (by omega)]
   exact h.aZ b y (by omega) hy h0
noncomputable def cKy (n m:Nat):Ctx:=eu n m [(98,Tryz.f98),(88,Tryz.f88)] [(99,UI),(95,Cx)] [88]
theorem We (n m:Nat):CB PP (cKy n m):=ez n m ⟨fo Tryz.func98,fo Tryz.func88,trivial⟩ ⟨abI,Et,trivial⟩
theorem UQ:cZ (PP ()) 26 Qg:=by
 refine Ph (We 0 0) (fo Tryz.func26) (λa=>⟨kD a,trivial⟩) (λa=>(λx=>(OP x).1)) ?_
 rintro ⟨ins,blocks,outs,ay⟩ hx
 have hx:Fw ⟨ins,blocks,outs,ay⟩:=hx
 have eg:=hx.sh
 have iO:ins.length<=1000000:=hx.ins
 obtain ⟨rk,jK⟩:=hx.rk
 have oP:blocks.length<=600:=eg.dK
 have dB:IntKind.i64.wrap ((ins.length:Int)+IntKind.i64.wrap (2*(blocks.length:Int)))=((ins.length+2*blocks.length:Nat):Int):=by rw [cu (n:=2*(blocks.length:Int)) (by omega) (by omega),cu (by omega) (by omega)];omega
 have e9:0<=IntKind.i64.wrap ((ins.length:Int)+IntKind.i64.wrap (2*(blocks.length:Int)))/\8*IntKind.i64.wrap ((ins.length:Int)+IntKind.i64.wrap (2*(blocks.length:Int)))<=281474976710656/\IntKind.i64.wrap ((ins.length:Int)+IntKind.i64.wrap (2*(blocks.length:Int)))<=9223372036854775807:=by rw [dB];omega
 have XH:0<=(blocks.length:Int)/\8*(blocks.length:Int)<=281474976710656/\(blocks.length:Int)<=9223372036854775807:=by omega
 obtain ⟨s0,F9⟩:∃s0,List.replicate (IntKind.i64.wrap ((ins.length:Int)+IntKind.i64.wrap (2*(blocks.length:Int)))).toNat (0:Int)=s0:=⟨_,rfl⟩
 have I5:I4 ⟨ins,blocks,outs,ay⟩ 0 s0:=⟨cN _,by rw [<-F9,dB,sP];rfl,λs h=>by omega⟩
 refine ⟨?_⟩
 cbv
 refine ⟨⟨e9.1,j5 _,e9.2.1,e9.2.2⟩,?_⟩
 cbv
 refine Sat.cf (We 0 0) 5 5 [(.c 4 0,3)] (λx:Nat × List Int=>[(16,.sl 3 dm (λ_=>ins)),(17,.i .i64 (λ_=>(ins.length:Int))),(18,.i .i64 (λ_=>(x.1:Int)))]) (λx=>[(3,.dyn 74 1 mE (λ_=>x.2))])
  (λx=>I4 ⟨ins,blocks,outs,ay⟩ x.1 x.2) (λx=>ins.length - x.1) (0,s0) (by exact ao) (by have et:=F9;exact bJ) I5 ?_
 rintro ⟨i,sig⟩ hJ
 have hJ:I4 ⟨ins,blocks,outs,ay⟩ i sig:=hJ
 have hi:i<=ins.length:=hJ.le
 have jm:sig.length=ins.length+2*blocks.length:=hJ.sl
 have h0:=n0 i
 have h1:=cq (i:=i) (by omega)
 cbv
 refine ⟨λh=>?_,λh=>?_⟩
 ·have bt:i < ins.length:=bI
  have bh:ins.length - (i+1) < ins.length - i:=by omega
  refine (bD bt).elim λw hw=>?_
  refine (⟨_,rfl⟩:∃K,iP [2,w.kind,w.i,w.bit]=K).elim λK hK=>?_
  have bB:=hJ.add (w:=w) hw
  rw [hK] at bB
  have uC:0<=(i:Int)/\(i:Int).toNat < sig.length:=⟨h0,by omega⟩
  refine (bD uC.2).elim λu hu=>?_
  refine (⟨_,rfl⟩:∃s2,sig.set i K=s2).elim λs2 tB=>?_
  rw [tB] at bB
  have avb:sig.set ((i:Int)).toNat K=s2:=tB
  cbv
  refine ⟨w,⟨h0,hw⟩,?_⟩
  cbv
  refine ⟨[2,w.kind,w.i,w.bit],⟨.inl ⟨by exact bQ,rfl⟩,by show 4 < 4611686018427387904;decide⟩,?_⟩
  cbv
  refine ⟨⟨uC⟩,?_⟩
  cbv
  refine ⟨(u,K),⟨hu,rfl,by have bg:=hK;exact dx⟩,?_⟩
  cbv
  exact ⟨(i+1,s2),by exact ao,by have et:=avb;exact bJ,⟨⟨bB,bh⟩⟩⟩
 ·have b9:i=ins.length:=by
   have h':aU i ins.length=false:=h.out
   have h2:¬(i:Int) < ins.length:=by simpa [aU] using h'
   omega
  obtain ⟨o0,ho0⟩:∃o0,List.replicate ((blocks.length:Int)).toNat (0:Int)=o0:=⟨_,rfl⟩
  have MI:zT ⟨ins,blocks,outs,ay⟩ 0 sig o0:=⟨cN _,jm,by rw [<-ho0,sP,ox],λs hs=>hJ.pz s (by rw [b9];exact hs),λb x hb=>by omega⟩
  clear hJ hi h0 h1
  cbv
  refine ⟨⟨XH.1,j5 _,XH.2.1,XH.2.2⟩,?_⟩
  cbv
  refine Sat.cf (We 0 0) 7 5 [(.c 4 0,3),(.c 6 0,5)] (λx:Nat × List Int × List Int=>[(7,.ptr 6 0),(40,.sl 5 ph (λ_=>blocks)),(41,.i .i64 (λ_=>(blocks.length:Int))),(42,.i .i64 (λ_=>(x.1:Int)))]) (λx=>[(3,.dyn 74 1 mE (λ_=>x.2.1)),(5,.dyn 74 1 mE (λ_=>x.2.2))])
   (λx=>zT ⟨ins,blocks,outs,ay⟩ x.1 x.2.1 x.2.2) (λx=>blocks.length - x.1) (0,sig,o0) (by exact ao) (by have et:=ho0;exact bJ) MI ?_
  rintro ⟨i,sig,out⟩ hJ
  have hJ:zT ⟨ins,blocks,outs,ay⟩ i sig out:=hJ
  have hi:i<=blocks.length:=hJ.le
  have jm:sig.length=ins.length+2*blocks.length:=hJ.sl
  have gv:out.length=blocks.length:=hJ.ol
  have h0:=n0 i
  have h1:=cq (i:=i) (by omega)
  cbv
  refine ⟨λh=>?_,λh=>?_⟩
  ·have bt:i < blocks.length:=bI
   have bh:blocks.length - (i+1) < blocks.length - i:=by omega
   refine (bD bt).elim λx hx=>?_
   cbv
   refine ⟨x,⟨h0,hx⟩,?_⟩
   cbv
   refine ⟨λh=>?_,λh=>?_⟩
   ·have hr:0<=x.aZ:=bI
    refine (⟨_,rfl⟩:∃K,iP [1,x.aZ]=K).elim λK hK=>?_
    refine (⟨_,rfl⟩:∃M,iP [3,x.aZ]=M).elim λM hM=>?_
    have bB:=hJ.add hx hr
    rw [hK,hM] at bB
    have xc:0<=(i:Int)/\(i:Int).toNat < out.length:=⟨h0,by omega⟩
    refine (bD xc.2).elim λu hu=>?_
    have Ih:(i:Int)<=1000000:=by omega
    have yw:0<=(ins.length:Int)+2*(i:Int)/\((ins.length:Int)+2*(i:Int)).toNat < sig.length:=by omega
    refine (bD yw.2).elim λu2 yr=>?_
    have vy:IntKind.i64.wrap ((ins.length:Int)+2*(i:Int)+1)=((ins.length+2*i+1:Nat):Int):=by rw [cu (by omega) (by omega)];omega
    have aiw:0<=IntKind.i64.wrap ((ins.length:Int)+2*(i:Int)+1)/\(IntKind.i64.wrap ((ins.length:Int)+2*(i:Int)+1)).toNat < (sig.set ((ins.length:Int)+2*(i:Int)).toNat M).length:=by rw [vy,km];omega
    refine (bD aiw.2).elim λu3 YM=>?_
    have Xs:0<=(i:Int)/\(i:Int).toNat < (out.set (i:Int).toNat K).length:=by rw [km];exact xc
    have Bz:(out.set (i:Int).toNat K)[(i:Int).toNat]?=some K:=by rw [ja];simp;omega
    refine (⟨_,rfl⟩:∃o2,out.set (i:Int).toNat K=o2).elim λo2 j9=>?_
    refine (⟨_,rfl⟩:∃s2,(sig.set ((ins.length:Int)+2*(i:Int)).toNat M).set (IntKind.i64.wrap ((ins.length:Int)+2*(i:Int)+1)).toNat K=s2).elim λs2 tB=>?_
    have e1:((ins.length:Int)+2*(i:Int)).toNat=ins.length+2*i:=by omega
    have bB:zT ⟨ins,blocks,outs,ay⟩ (i+1) s2 o2:=by
     rw [<-tB,<-j9,vy,e1];exact bB
    cbv
    refine ⟨[1,x.aZ],⟨.inl ⟨by exact bQ,rfl⟩,by show 2 < 4611686018427387904;decide⟩,?_⟩
    cbv
    refine ⟨⟨xc⟩,?_⟩
    cbv
    refine ⟨(u,K),⟨hu,rfl,by have bg:=hK;exact dx⟩,?_⟩
    cbv
    refine ⟨⟨⟨ins,blocks,outs,ay⟩,i⟩,⟨by exact bQ,iO,h0,Ih⟩,?_⟩
    cbv
    refine ⟨⟨⟨ins,blocks,outs,ay⟩,i⟩,⟨by exact bQ,iO,h0,Ih⟩,?_⟩
    cbv
    refine ⟨[3,x.aZ],⟨.inl ⟨by exact bQ,rfl⟩,by show 2 < 4611686018427387904;decide⟩,?_⟩
    cbv
    refine ⟨⟨Xs⟩,K,⟨Bz,rfl⟩,?_⟩
    cbv
    refine ⟨⟨yw⟩,?_⟩
    cbv
    refine ⟨(u2,M),⟨yr,rfl,by have bg:=hM;exact dx⟩,?_⟩
    cbv
    refine ⟨⟨aiw⟩,?_⟩
    cbv
    refine ⟨(u3,K),⟨YM,rfl,by exact aK⟩,?_⟩
    cbv
    exact ⟨(i+1,s2,o2),by exact ao,by have et:=tB;have kH:=j9;exact bJ,⟨⟨bB,bh⟩⟩⟩
   ·have hr:x.aZ < 0:=bI
    have bB:=hJ.skip hx hr
    cbv
    exact ⟨(i+1,sig,out),by exact ao,by exact ao,⟨⟨bB,bh⟩⟩⟩
  ·have b9:i=blocks.length:=by
    have h':aU i blocks.length=false:=h.out
    have h2:¬(i:Int) < blocks.length:=by simpa [aU] using h'
    omega
   have MF:xJ ⟨ins,blocks,outs,ay⟩:=⟨oP,iO,λx hx s hs=>⟨(eg.used x hx s hs).lo,(eg.used x hx s hs).hi⟩,λx hx=>by have:=(eg.formed x hx).k;omega⟩
   have rY:mG ⟨ins,blocks,outs,ay⟩ [] sig out:=⟨jm,gv,hJ.pz,λb x hx h0=>hJ.aZ b x (by rw [b9];exact (bW.1 hx).1) hx h0,λb x _ _ h=>by cases h⟩
   have fh:Wc ⟨⟨ins,blocks,outs,ay⟩,sig,out,rk⟩:=⟨MF,eg,jK,rY⟩
   cbv
   refine bV.jU aoA (λa y=>trivial) ⟨⟨ins,blocks,outs,ay⟩,sig,out,rk⟩ [0,4,3,6,5,1] rfl (by exact bQ) (by exact ao) ⟨fh⟩ λy hy=>?_
   have hy:y.out=pq ⟨ins,blocks,outs,ay⟩:=hy.out
   cbv
   refine ⟨?_⟩
   cbv
   exact ⟨by exact aK,λx=>rfl⟩
structure agB where
 p:bC
 db:List Bool
 s:jF
structure Wf (x:agB):Prop where
 ky:Fw x.p
 il:x.db.length=x.p.ins.length
@[reducible] noncomputable def Wg:Vc.Spec where
 α:=agB
 args x:=[.agg (fH x.p),.sl 1 jb (λ_=>x.db),.agg (CZ x.s)]
 pre x:=Wf x
 res x:=.sl 1 jb (λ_=>zd x.p x.db x.s)
structure xh (p:bC) (db:List Bool) (s:jF) (i:Nat) (out:List Bool):Prop where
 le:i<=p.blocks.length
 ol:out.length=p.ins.length+2*p.blocks.length
 pz:∀k:Nat,k < p.ins.length->out[k]?=some (db.getD k false)
 aZ:∀(b:Nat) (x:Block),b < i->p.blocks[b]?=some x->out[p.ins.length+2*b+1]?=some (zp s x.aZ)
 rest:∀(b:Nat) (x:Block),i<=b->p.blocks[b]?=some x->out[p.ins.length+2*b+1]?=some false
 new:∀(b:Nat) (x:Block),p.blocks[b]?=some x->out[p.ins.length+2*b]?=some false
theorem xh.skip {p:bC} {db:List Bool} {s:jF} {i:Nat} {out:List Bool} (h:xh p db s i out) {x:Block} (hx:p.blocks[i]?=some x) (hr:zp s x.aZ=false):xh p db s (i+1) out :=
 ⟨(
  bW.1 hx).1,h.ol,h.pz,λb y hb hy=>by
  by_cases e:b=i
  ·subst e;rw [hx] at hy;cases hy;rw [hr];exact h.rest b x (cR _) hx
  ·exact h.aZ b y (by omega) hy,λb y hb hy=>h.rest b y (by omega) hy,h.new⟩
theorem xh.add {p:bC} {db:List Bool} {s:jF} {i:Nat} {out:List Bool} (h:xh p db s i out) {x:Block} (hx:p.blocks[i]?=some x) {v:Bool} (hv:v=zp s x.aZ):xh p db s (i+1) (out.set (p.ins.length+2*i+1) v):=by
 have aR:=(bW.1 hx).1
 have gv:=h.ol
 refine ⟨aR,by simp [gv],λk hk=>?_,λb y hb hy=>?_,λb y hb hy=>?_,λb y hy=>?_⟩
 ·rw [fb (by omega)];exact h.pz k hk
 ·by_cases e:b=i
  ·subst e;rw [hx] at hy;cases hy
   rw [ja];simp [hv];omega
  ·rw [fb (by omega)];exact h.aZ b y (by omega) hy
 ·rw [fb (by omega)];exact h.rest b y (by omega) hy
 ·rw [fb (by omega)];exact h.new b y hy
theorem xh.start (p:bC) (db:List Bool) (s:jF) (hl:db.length=p.ins.length):xh p db s 0 (db.take (p.ins.length+2*p.blocks.length)++(List.replicate (p.ins.length+2*p.blocks.length) false).drop db.length):=by
 have ht:db.take (p.ins.length+2*p.blocks.length)=db:=GY (by omega)
 rw [ht,List.drop_replicate]
 have ae8:∀k:Nat,p.ins.length<=k->k < p.ins.length+2*p.blocks.length->(db++List.replicate (p.ins.length+2*p.blocks.length - db.length) false)[k]?=some false:=λk h1 h2=>by
  rw [uS (by omega),GX,if_pos (by omega)]
 refine ⟨cN _,by simp;omega,λk hk=>?_,λb y hb=>by omega,λb y _ hy=>?_,λb y hy=>?_⟩
 ·rw [nV (by omega),iE,eo (by omega)];rfl
 ·have:=(bW.1 hy).1
  exact ae8 _ (by omega) (by omega)
 ·have:=(bW.1 hy).1
  exact ae8 _ (by omega) (by omega)
noncomputable def avc (n m:Nat):Ctx:=eu n m [(98,Tryz.f98),(88,Tryz.f88)] [(95,Cx)] [88]
theorem ae9 (n m:Nat):CB PP (avc n m):=ez n m ⟨fo Tryz.func98,fo Tryz.func88,trivial⟩ ⟨Et,trivial⟩
theorem ad8:cZ (PP ()) 151 Wg:=by
 refine dT (ae9 0 0) (fo Tryz.func151) (λa=>⟨kD a.p,(λx=>(tP x).1),Ke a.s,trivial⟩) (λa=>(λx=>(tP x).1)) ?_
 rintro ⟨⟨ins,blocks,outs,ay⟩,db,⟨aM,bf⟩⟩ hx
 have hx:Wf ⟨⟨ins,blocks,outs,ay⟩,db,⟨aM,bf⟩⟩:=hx
 have rh:Fw ⟨ins,blocks,outs,ay⟩:=hx.ky
 have bt:db.length=ins.length:=hx.il
 have eg:=rh.sh
 have iO:ins.length<=1000000:=rh.ins
 obtain ⟨rk,jK⟩:=rh.rk
 have oP:blocks.length<=600:=eg.dK
 have dB:IntKind.i64.wrap ((ins.length:Int)+IntKind.i64.wrap (2*(blocks.length:Int)))=((ins.length+2*blocks.length:Nat):Int):=by rw [cu (n:=2*(blocks.length:Int)) (by omega) (by omega),cu (by omega) (by omega)];omega
 have e9:0<=IntKind.i64.wrap ((ins.length:Int)+IntKind.i64.wrap (2*(blocks.length:Int)))/\1*IntKind.i64.wrap ((ins.length:Int)+IntKind.i64.wrap (2*(blocks.length:Int)))<=281474976710656/\IntKind.i64.wrap ((ins.length:Int)+IntKind.i64.wrap (2*(blocks.length:Int)))<=9223372036854775807:=by rw [dB];omega
 obtain ⟨s0,F9⟩:∃s0,db.take (List.replicate (IntKind.i64.wrap ((ins.length:Int)+IntKind.i64.wrap (2*(blocks.length:Int)))).toNat false).length++(List.replicate (IntKind.i64.wrap ((ins.length:Int)+IntKind.i64.wrap (2*(blocks.length:Int)))).toNat false).drop db.length=s0:=⟨_,rfl⟩
 have tG:xh ⟨ins,blocks,outs,ay⟩ db ⟨aM,bf⟩ 0 s0:=by
  rw [<-F9,dB,sP,ox]
  exact xh.start ⟨ins,blocks,outs,ay⟩ db ⟨aM,bf⟩ bt
 refine ⟨?_⟩
 cbv
 refine ⟨⟨e9.1,j5 _,e9.2.1,e9.2.2⟩,?_⟩
 cbv
 refine ⟨db,⟨.sl rfl⟩,?_⟩
 cbv
 refine Sat.cf (ae9 0 0) 6 9 [] (λx:Nat × List Bool=>[(20,.sl 5 ph (λ_=>blocks)),(21,.i .i64 (λ_=>(blocks.length:Int))),(22,.i .i64 (λ_=>(x.1:Int)))]) (λx=>[(4,.dyn 4 1 jb (λ_=>x.2))])
  (λx=>xh ⟨ins,blocks,outs,ay⟩ db ⟨aM,bf⟩ x.1 x.2) (λx=>blocks.length - x.1) (0,s0) (by exact ao) (by have et:=F9;exact bJ) tG ?_
 rintro ⟨i,out⟩ hJ
 have hJ:xh ⟨ins,blocks,outs,ay⟩ db ⟨aM,bf⟩ i out:=hJ
 have hi:i<=blocks.length:=hJ.le
 have gv:out.length=ins.length+2*blocks.length:=hJ.ol
 have h0:=n0 i
 have h1:=cq (i:=i) (by omega)
 cbv
 refine ⟨λh=>?_,λh=>?_⟩
 ·have bt:i < blocks.length:=bI
  have bh:blocks.length - (i+1) < blocks.length - i:=by omega
  refine (bD bt).elim λx hx=>?_
  have hxr:x.aZ<=255:=(eg.formed x (cb hx)).aZ.2
  have Ih:(i:Int)<=1000000:=by omega
  have vy:IntKind.i64.wrap ((ins.length:Int)+2*(i:Int)+1)=((ins.length+2*i+1:Nat):Int):=by rw [cu (by omega) (by omega)];omega
  have yw:0<=IntKind.i64.wrap ((ins.length:Int)+2*(i:Int)+1)/\(IntKind.i64.wrap ((ins.length:Int)+2*(i:Int)+1)).toNat < out.length:=by rw [vy];omega
  have pB:(IntKind.i64.wrap ((ins.length:Int)+2*(i:Int)+1)).toNat=ins.length+2*i+1:=by rw [vy];omega
  refine (bD yw.2).elim λu hu=>?_
  have hq:0<=x.aZ->IntKind.i64.wrap (x.aZ.tdiv 8)=x.aZ / 8:=λh=>by rw [Ak h];exact cu (by omega) (by omega)
  have F8:0<=x.aZ->x.aZ.tmod 8=x.aZ % 8:=λh=>qI h
  have IB:∀v,0<=x.aZ->x.aZ / 8 < (aM.length:Int)->aM[(x.aZ / 8).toNat]?=some v->zp ⟨aM,bf⟩ x.aZ=Ft v (x.aZ % 8):=λv h0 h1 h2=>by
   unfold zp
   simp only
   rw [iE,h2]
   simp [h0,h1]
  have Ga:x.aZ < 0\/¬x.aZ / 8 < (aM.length:Int)->zp ⟨aM,bf⟩ x.aZ=false:=λh=>by
   unfold zp
   simp only
   rcases h with h|h
   ·have:¬0<=x.aZ:=by omega
    simp [this]
   ·simp [h]
  cbv
  refine ⟨x,⟨h0,hx⟩,?_⟩
  cbv
  refine ⟨λh=>?_,λh=>?_⟩
  ·have hr:0<=x.aZ:=bI
   have hq:=hq hr
   have F8:=F8 hr
   cbv
   refine ⟨⟨by decide⟩,λh=>?_,λh=>?_⟩
   ·have aR:x.aZ / 8 < (aM.length:Int):=by have h':aU (IntKind.i64.wrap (x.aZ.tdiv 8)) (aM.length:Int)=true:=h.out;rw [hq] at h';simpa [aU] using h'
    have wC:(x.aZ / 8).toNat < aM.length:=by omega
    refine (bD wC).elim λv hv=>?_
    have Mm:0<=IntKind.i64.wrap (x.aZ.tdiv 8)/\aM[(IntKind.i64.wrap (x.aZ.tdiv 8)).toNat]?=some v:=by rw [hq];exact ⟨by omega,hv⟩
    have XF:0<=x.aZ.tmod 8:=by rw [F8];omega
    obtain ⟨r,vo⟩:∃r,aV (jd .and .i64 (v.fdiv (2^(min (x.aZ.tmod 8).toNat IntKind.i64.bits))) 1) 1=r:=⟨_,rfl⟩
    have hrr:r=zp ⟨aM,bf⟩ x.aZ:=by rw [IB v hr aR hv,<-vo,F8];rfl
    have bB:=hJ.add hx hrr
    obtain ⟨o2,j9⟩:∃o,out.set (IntKind.i64.wrap ((ins.length:Int)+2*(i:Int)+1)).toNat r=o:=⟨_,rfl⟩
    rw [show (⟨ins,blocks,outs,ay⟩:bC).ins.length+2*i+1=(IntKind.i64.wrap ((ins.length:Int)+2*(i:Int)+1)).toNat from pB.symm,j9] at bB
    cbv
    refine ⟨⟨⟨ins,blocks,outs,ay⟩,(i:Int)⟩,⟨by exact bQ,iO,h0,Ih⟩,?_⟩
    cbv
    refine ⟨⟨by decide⟩,v,⟨Mm⟩,?_⟩
    cbv
    refine ⟨⟨by decide⟩,⟨XF⟩,⟨yw⟩,?_⟩
    cbv
    refine ⟨(u,r),⟨hu,rfl,by have jJ:=vo;exact dx⟩,?_⟩
    cbv
    exact ⟨(i+1,o2),by exact ao,by have et:=j9;exact bJ,⟨⟨bB,bh⟩⟩⟩
   ·have avd:¬x.aZ / 8 < (aM.length:Int):=by have h':aU (IntKind.i64.wrap (x.aZ.tdiv 8)) (aM.length:Int)=false:=h.out;rw [hq] at h';simpa [aU] using h'
    have bB:=hJ.skip hx (Ga (.inr avd))
    cbv
    exact ⟨(i+1,out),by exact ao,by exact ao,⟨⟨bB,bh⟩⟩⟩
  ·have hr:x.aZ < 0:=bI
   have bB:=hJ.skip hx (Ga (.inl hr))
   cbv
   exact ⟨(i+1,out),by exact ao,by exact ao,⟨⟨bB,bh⟩⟩⟩
 ·have b9:i=blocks.length:=by
   have h':aU i blocks.length=false:=h.out
   have h2:¬(i:Int) < blocks.length:=by simpa [aU] using h'
   omega
  have MF:xJ ⟨ins,blocks,outs,ay⟩:=⟨oP,iO,λx hx s hs=>⟨(eg.used x hx s hs).lo,(eg.used x hx s hs).hi⟩,λx hx=>by have:=(eg.formed x hx).k;omega⟩
  have rY:mT ⟨ins,blocks,outs,ay⟩ db ⟨aM,bf⟩ [] out:=⟨gv,hJ.pz,λb x hx=>hJ.aZ b x (by rw [b9];exact (bW.1 hx).1) hx,λb x _ h=>(by cases h),λb x hx _=>hJ.new b x hx⟩
  have fh:Wd ⟨⟨ins,blocks,outs,ay⟩,out,rk,db,⟨aM,bf⟩⟩:=⟨MF,eg,jK,rY⟩
  cbv
  refine bV.jU aoB (λa y=>trivial) ⟨⟨ins,blocks,outs,ay⟩,out,rk,db,⟨aM,bf⟩⟩ [0,5,4,2,1] rfl (by exact bQ) (by exact ao) ⟨fh⟩ λy hy=>?_
  have hy:y=zd ⟨ins,blocks,outs,ay⟩ db ⟨aM,bf⟩:=hy.out
  cbv
  exact ⟨by have dJ:=hy;exact dx⟩
@[reducible] noncomputable def agC:Vc.Spec where
 α:=jF
 args s:=[.agg (CZ s),.agg (CZ s)]
 pre s:=s.aM.length<=1000000/\s.bf.length<=1000000/\∀m∈s.bf,m.length<=1000000
 res s:=.b (λ_=>true)
noncomputable def cSs (n m:Nat):Ctx:=eu n m [] [(180,VP)]
theorem agD (n m:Nat):CB PP (cSs n m):=ez n m trivial ⟨adW,trivial⟩
theorem apL:cZ (PP ()) 90 agC:=by
 refine dT (agD 0 0) (fo Tryz.func90) (λa=>⟨Ke a,Ke a,trivial⟩) (λa=>trivial) ?_
 rintro ⟨aM,bf⟩ hx
 obtain ⟨FV,hm6,Dt⟩:aM.length<=1000000/\bf.length<=1000000/\∀m∈bf,m.length<=1000000:=hx
 have hpr:(⟨aM,aM⟩:nK Int).a.length<=1000000000000/\(⟨aM,aM⟩:nK Int).b.length<=1000000000000:=⟨by show aM.length<=_;omega,by show aM.length<=_;omega⟩
 have x8:(!jL aM aM)=true->False:=λh=>by rw [sY.2 rfl] at h;cases h
 have Bb:(!aV (bf.length:Int) (bf.length:Int))=true->False:=λh=>by simp [aV] at h
 refine ⟨?_⟩
 cbv
 refine ⟨⟨aM,aM⟩,⟨by exact bQ,hpr⟩,?_⟩
 cbv
 refine ⟨λh=>?_,λh=>?_⟩
 ·have hF:=x8 h.out
  cases hF
 clear h
 cbv
 refine ⟨λh=>?_,λh=>?_⟩
 ·have hF:=Bb h.out
  cases hF
 clear h
 cbv
 refine Sat.cf (agD 0 0) 2 5 [] (λi:Nat=>[(5,.i .i64 (λ_=>(i:Int)))]) (λi=>[]) (λi=>i<=bf.length) (λi=>bf.length - i) 0 (by exact ao) (by exact ao) (cN _) ?_
 intro i hi
 have hi:i<=bf.length:=hi
 have h0:=n0 i
 have h1:=cq (i:=i) (by omega)
 cbv
 refine ⟨λh=>?_,λh=>?_⟩
 ·have bt:i < bf.length:=bI
  have bh:bf.length - (i+1) < bf.length - i:=by omega
  refine (bD bt).elim λm hm=>?_
  have e9:=Dt m (cb hm)
  have hpm:(⟨m,m⟩:nK Int).a.length<=1000000000000/\(⟨m,m⟩:nK Int).b.length<=1000000000000:=⟨by show m.length<=_;omega,by show m.length<=_;omega⟩
  have zK:(!jL m m)=true->False:=λh=>by rw [sY.2 rfl] at h;cases h
  cbv
  refine ⟨m,⟨h0,hm⟩,?_⟩
  cbv
  refine ⟨m,⟨h0,hm⟩,?_⟩
  cbv
  refine ⟨⟨m,m⟩,⟨by exact bQ,hpm⟩,?_⟩
  cbv
  refine ⟨λh=>?_,λh=>?_⟩
  ·have hF:=zK h.out
   cases hF
  clear h
  cbv
  exact ⟨i+1,by exact ao,by exact ao,⟨⟨bt,bh⟩⟩⟩
 ·cbv
  exact ⟨by exact aK⟩
def LP (f:Ps):List SV:=[.b (λ_=>f.asi),.sl 1 bM (λ_=>f.s.aM),.sl 1 jc (λ_=>f.s.bf),.sl 1 jb (λ_=>f.td),.sl 2 EP (λ_=>f.dZ)]
theorem O0 (f:Ps):du (LP f):=⟨trivial,λx=>(cQ x).1,λx=>(pW x).1,λx=>(tP x).1,λx=>(Oy x).1,trivial⟩
structure XI (f:Ps):Prop where
 aM:f.s.aM.length<=1000000
 bf:f.s.bf.length<=1000000
 Rx:∀m∈f.s.bf,m.length<=1000000
 td:f.td.length<=1000000
 dZ:f.dZ=[]
@[reducible] noncomputable def agE:Vc.Spec where
 α:=Ps
 args f:=[.agg (LP f),.agg (LP f)]
 pre f:=XI f
 res f:=.b (λ_=>true)
noncomputable def cSf (n m:Nat):Ctx:=eu n m [] [(90,agC)]
theorem Wh (n m:Nat):CB PP (cSf n m):=ez n m trivial ⟨apL,trivial⟩
theorem apM:cZ (PP ()) 21 agE:=by
 refine dT (Wh 0 0) (fo Tryz.func21) (λa=>⟨O0 a,O0 a,trivial⟩) (λa=>trivial) ?_
 rintro ⟨fi,⟨aM,bf⟩,td,dZ⟩ hx
 have hx:XI ⟨fi,⟨aM,bf⟩,td,dZ⟩:=hx
 have hss:(⟨aM,bf⟩:jF).aM.length<=1000000/\(⟨aM,bf⟩:jF).bf.length<=1000000/\∀m∈(⟨aM,bf⟩:jF).bf,m.length<=1000000:=⟨hx.aM,hx.bf,hx.Rx⟩
 have oT:td.length<=1000000:=hx.td
 have FX:dZ=[]:=hx.dZ
 subst FX
 have zM:(!(fi == fi))=true->False:=λh=>by simp at h
 have C4:(!aV (td.length:Int) (td.length:Int))=true->False:=λh=>by simp [aV] at h
 have C3:(!aV (([]:List Head).length:Int) (([]:List Head).length:Int))=true->False:=λh=>by simp [aV] at h
 refine ⟨?_⟩
 cbv
 refine ⟨λh=>?_,λh=>?_⟩
 ·have hF:=zM h.out
  cases hF
 clear h
 cbv
 refine ⟨⟨aM,bf⟩,⟨by exact bQ,hss⟩,?_⟩
 cbv
 refine ⟨λh=>?_,λh=>?_⟩
 ·have hF:False:=by have h:=h.out;simp at h
  cases hF
 clear h
 cbv
 refine ⟨λh=>?_,λh=>?_⟩
 ·have hF:=C4 h.out
  cases hF
 clear h
 cbv
 refine ⟨λh=>?_,λh=>?_⟩
 ·have hF:=C3 h.out
  cases hF
 clear h
 cbv
 refine Sat.cf (Wh 0 0) 2 5 [] (λi:Nat=>[(5,.i .i64 (λ_=>(i:Int)))]) (λi=>[]) (λi=>i<=td.length) (λi=>td.length - i) 0 (by exact ao) (by exact ao) (cN _) ?_
 intro i hi
 have hi:i<=td.length:=hi
 have h0:=n0 i
 have h1:=cq (i:=i) (by omega)
 cbv
 refine ⟨λh=>?_,λh=>?_⟩
 ·have bt:i < td.length:=bI
  have bh:td.length - (i+1) < td.length - i:=by omega
  refine (bD bt).elim λm hm=>?_
  have uu:(!(m == m))=true->False:=λh=>by simp at h
  cbv
  refine ⟨m,⟨h0,hm⟩,?_⟩
  cbv
  refine ⟨m,⟨h0,hm⟩,?_⟩
  cbv
  refine ⟨λh=>?_,λh=>?_⟩
  ·have hF:=uu h.out
   cases hF
  clear h
  cbv
  exact ⟨i+1,by exact ao,by exact ao,⟨⟨bt,bh⟩⟩⟩
 clear h h0 h1 hi
 cbv
 refine Sat.G9 (Wh 0 0) 0 ?_
 cbv
 refine ⟨λh=>?_,λh=>?_⟩
 ·have hF:False:=by have h:=h.out;simp [aU] at h
  cases hF
 ·cbv
  exact ⟨by exact aK⟩
structure ave where
 s:jF
 agF:List Head
 agG:List Bool
@[reducible] noncomputable def Wi:Vc.Spec where
 α:=ave
 args x:=[.agg [.sl 3 dm (λ_=>[]),.dg,.dg,.dg],.agg (CZ x.s),.sl 2 EP (λ_=>x.agF),.sl 1 jb (λ_=>x.agG)]
 pre x:=True
 res x:=.sl 1 jb (λ_=>[])
noncomputable def cIp (n m:Nat):Ctx:=eu n m [] []
theorem agH (n m:Nat):CB PP (cIp n m):=ez n m trivial trivial
theorem ad9:cZ (PP ()) 62 Wi:=by
 refine dT (agH 0 0) (fo Tryz.func62) (λa=>⟨⟨(λx=>(gS x).1),trivial,trivial,trivial,trivial⟩,Ke a.s,(λx=>(Oy x).1),(λx=>(tP x).1),trivial⟩) (λa=>(λx=>(tP x).1)) ?_
 rintro ⟨⟨aM,bf⟩,agF,agG⟩ hx
 clear hx
 refine ⟨?_⟩
 cbv
 refine ⟨⟨by decide⟩,?_⟩
 cbv
 refine Sat.G9 (agH 0 0) 0 ?_
 cbv
 refine ⟨λh=>?_,λh=>?_⟩
 ·have hF:False:=by have h:=h.out;simp [aU] at h
  cases hF
 ·cbv
  exact ⟨by exact aK⟩
structure aix where
 outs:List bU
 dr:List Int
 aM:List Int
 vals:List Bool
 z:List Int
structure XJ (x:aix):Prop where
 dK:x.outs.length<=1000000
 XK:x.aM.length<=1000000
 len:x.vals.length=x.outs.length
 no:∀v∈x.vals,v=false
 z:x.z=List.replicate x.aM.length 0
@[reducible] noncomputable def Wj:Vc.Spec where
 α:=aix
 args x:=[.agg [.dg,.dg,.sl 3 dm (λ_=>x.outs),.sl 1 bM (λ_=>x.dr)],.agg [.sl 1 bM (λ_=>x.aM),.sl 1 jc (λ_=>[])],.sl 1 jb (λ_=>x.vals),.agg [.i .i64 (λ_=>0),.i .i64 (λ_=>0)]]
 pre x:=XJ x
 res x:=.agg (LP ⟨false,⟨x.z,[]⟩,[],[]⟩)
noncomputable def cEf (n m:Nat):Ctx:=eu n m [] []
theorem HG (n m:Nat):CB PP (cEf n m):=ez n m trivial trivial
theorem aea:cZ (PP ()) 63 Wj:=by
 refine dT (HG 0 0) (fo Tryz.func63) (λa=>⟨⟨trivial,trivial,(λx=>(gS x).1),(λx=>(cQ x).1),trivial⟩,⟨(λx=>(cQ x).1),(λx=>(pW x).1),trivial⟩,(λx=>(tP x).1),⟨trivial,trivial,trivial⟩,trivial⟩) (λa=>O0 _) ?_
 rintro ⟨outs,dr,aM,vals,Zr⟩ hx
 have hx:XJ ⟨outs,dr,aM,vals,Zr⟩:=hx
 have ME:outs.length<=1000000:=hx.dK
 have FV:aM.length<=1000000:=hx.XK
 have mH:vals.length=outs.length:=hx.len
 have eA:∀v∈vals,v=false:=hx.no
 have Zc:Zr=List.replicate aM.length 0:=hx.z
 refine ⟨?_⟩
 cbv
 refine Sat.cf (HG 0 0) 6 11 [] (λi:Nat=>[(24,.sl 3 dm (λ_=>outs)),(25,.i .i64 (λ_=>(outs.length:Int))),(26,.i .i64 (λ_=>(i:Int)))]) (λi=>[]) (λi=>i<=outs.length) (λi=>outs.length - i) 0 (by exact ao) (by exact ao) (cN _) ?_
 intro i hi
 have hi:i<=outs.length:=hi
 have h0:=n0 i
 have h1:=cq (i:=i) (by omega)
 cbv
 refine ⟨λh=>?_,λh=>?_⟩
 ·have bt:i < outs.length:=bI
  have bh:outs.length - (i+1) < outs.length - i:=by omega
  refine (bD bt).elim λw hw=>?_
  refine (bD (l:=vals) (i:=i) (by omega)).elim λv hv=>?_
  have Y5:=eA v (cb hv)
  cbv
  refine ⟨w,⟨h0,hw⟩,?_⟩
  cbv
  refine ⟨v,⟨h0,hv⟩,?_⟩
  cbv
  refine ⟨λh=>?_,λh=>?_⟩
  ·have hF:False:=by have h:=h.out;rw [Y5] at h;cases h
   cases hF
  clear h
  cbv
  exact ⟨i+1,by exact ao,by exact ao,⟨⟨bt,bh⟩⟩⟩
 clear h h0 h1 hi
 obtain ⟨Z,hZ⟩:∃Z:Nat->List Int,∀i,Z i=List.replicate i 0:=⟨_,λ_=>rfl⟩
 have hZ0:[]=Z 0:=by rw [hZ];rfl
 cbv
 refine Sat.iK 6 1 3 1 oC cQ rfl rfl ?_
 cbv
 refine Sat.cf (HG 0 0) 8 14 [(.c 6 1,7)] (λi:Nat=>[(56,.sl 1 bM (λ_=>aM)),(57,.i .i64 (λ_=>(aM.length:Int))),(58,.i .i64 (λ_=>(i:Int)))]) (λi=>[(7,.dyn 3 1 bM (λ_=>Z i))]) (λi=>i<=aM.length) (λi=>aM.length - i) 0 (by exact ao) (by have et:=hZ0;exact bJ) (cN _) ?_
 intro j hj
 have hj:j<=aM.length:=hj
 have h0:=n0 j
 have h1:=cq (i:=j) (by omega)
 cbv
 refine ⟨λh=>?_,λh=>?_⟩
 ·have er:j < aM.length:=bI
  have bh:aM.length - (j+1) < aM.length - j:=by omega
  have hZs:Z j++[0]=Z (j+1):=by rw [hZ,hZ,List.replicate_succ']
  have hZl:(Z j).length=j:=by rw [hZ,sP]
  have eb:((Z j).length+1)*8<=140737488355328:=by omega
  have nj:(Z j).length+1<=9223372036854775807:=by omega
  cbv
  refine ⟨some none,⟨rfl⟩,?_⟩
  cbv
  refine ⟨[0],⟨by exact bQ,eb,nj⟩,?_⟩
  cbv
  exact ⟨j+1,by exact ao,by have et:=hZs;exact bJ,⟨⟨er,bh⟩⟩⟩
 have b9:j=aM.length:=by
  have h':aU j aM.length=false:=h.out
  have h2:¬(j:Int) < aM.length:=by simpa [aU] using h'
  omega
 have hZe:Z j=Zr:=by rw [hZ,b9,Zc]
 clear h h0 h1 hj
 cbv
 refine Sat.G9 (HG 0 0) 0 ?_
 cbv
 refine ⟨λh=>?_,λh=>?_⟩
 ·have hF:False:=by have h:=h.out;simp [aU] at h
  cases hF
 clear h
 cbv
 refine Sat.G9 (HG 0 0) 0 ?_
 cbv
 refine ⟨λh=>?_,λh=>?_⟩
 ·have hF:False:=by have h:=h.out;simp [aU] at h
  cases hF
 clear h
 cbv
 refine Sat.G9 (HG 0 0) 0 ?_
 cbv
 refine ⟨λh=>?_,λh=>?_⟩
 ·have hF:False:=by have h:=h.out;simp [aU] at h
  cases hF
 clear h
 cbv
 exact ⟨by have dJ:=hZe;exact dx⟩
structure aiy where
 p:bC
 aM:List Int
 z:List Int
structure XL (x:aiy):Prop where
 ky:Fw x.p
 ins:x.p.ins=[]
 outs:x.p.outs=[]
 XK:x.aM.length<=1000000
 no:∀(b:Nat) (y:Block),x.p.blocks[b]?=some y->0<=y.aZ->(zd x.p [] ⟨x.aM,[]⟩)[2*b]?=some false
 z:x.z=List.replicate x.aM.length 0
@[reducible] noncomputable def afa:Vc.Spec where
 α:=aiy
 args x:=[.agg (fH x.p),.agg (CZ ⟨x.aM,[]⟩),.sl 2 EP (λ_=>[]),.sl 1 jb (λ_=>[])]
 pre x:=XL x
 res x:=.agg (LP ⟨false,⟨x.z,[]⟩,[],[]⟩)
noncomputable def cS0 (n m:Nat):Ctx:=eu n m [] [(62,Wi),(151,Wg),(95,Cx),(63,Wj)] [] [] [17]
theorem Wk (n m:Nat):CB PP (cS0 n m):=ez n m trivial ⟨ad9,ad8,Et,aea,trivial⟩
noncomputable def cS1 (n m:Nat):Ctx:=eu n m [] [(62,Wi),(151,Wg),(95,Cx),(63,Wj)]
theorem asI (n m:Nat):CB PP (cS1 n m):=ez n m trivial ⟨ad9,ad8,Et,aea,trivial⟩
theorem aoC:cZ (PP ()) 67 afa:=by
 refine dT (Wk 0 0) (fo Tryz.func67) (λa=>⟨kD a.p,Ke _,(λx=>(Oy x).1),(λx=>(tP x).1),trivial⟩) (λa=>O0 _) ?_
 rintro ⟨⟨ins,blocks,outs,ay⟩,aM,Zr⟩ hx
 have hx:XL ⟨⟨ins,blocks,outs,ay⟩,aM,Zr⟩:=hx
 have Zc:Zr=List.replicate aM.length 0:=hx.z
 have dM:ins=[]:=hx.ins
 have Bz:outs=[]:=hx.outs
 subst dM
 subst Bz
 have rh:=hx.ky
 simp only at rh
 have oP:blocks.length<=600:=rh.sh.dK
 have FV:aM.length<=1000000:=hx.XK
 have eA:∀(b:Nat) (y:Block),blocks[b]?=some y->0<=y.aZ->(zd ⟨[],blocks,[],ay⟩ [] ⟨aM,[]⟩)[2*b]?=some false:=hx.no
 have Bt:∀x∈blocks,x.aZ<=255:=λx h=>(rh.sh.formed x h).aZ.2
 clear hx
 have Iy:Wf ⟨⟨[],blocks,[],ay⟩,[],⟨aM,[]⟩⟩:=⟨rh,rfl⟩
 obtain ⟨E,hE⟩:∃E,zd ⟨[],blocks,[],ay⟩ [] ⟨aM,[]⟩=E:=⟨_,rfl⟩
 rw [hE] at eA
 refine ⟨?_⟩
 cbv
 refine ⟨⟨⟨aM,[]⟩,[],[]⟩,⟨by exact bQ,trivial⟩,?_⟩
 cbv
 refine ⟨⟨⟨[],blocks,[],ay⟩,[],⟨aM,[]⟩⟩,⟨by exact bQ,Iy⟩,?_⟩
 cbv
 refine Sat.Cv 12 133 3 Ha gS rfl ?_
 cbv
 refine Sat.Cv 13 4 1 Uu tP rfl ?_
 cbv
 refine Sat.cf (Wk 0 0) 6 12 [(.t 12,4),(.t 13,5)] (λx:Nat × List bU × List Bool=>[(11,.sl 1 jb (λ_=>E)),(12,.own 4),(13,.own 5),(33,.sl 5 ph (λ_=>blocks)),(34,.i .i64 (λ_=>(blocks.length:Int))),(35,.i .i64 (λ_=>(x.1:Int)))])
  (λx=>[(4,.dyn 133 3 dm (λ_=>x.2.1)),(5,.dyn 4 1 jb (λ_=>x.2.2))]) (λx=>x.1<=blocks.length/\x.2.2.length=x.2.1.length/\x.2.1.length<=x.1/\∀v∈x.2.2,v=false) (λx=>blocks.length - x.1) (0,[],[]) (by have dJ:=hE;exact bJ) (by exact ao) ⟨cN _,rfl,cR _,by simp⟩ ?_
 rintro ⟨i,O,V⟩ ⟨hi,I2,hOl,MM⟩
 have hi:i<=blocks.length:=hi
 have I2:V.length=O.length:=I2
 have hOl:O.length<=i:=hOl
 have MM:∀v∈V,v=false:=MM
 have h0:=n0 i
 have h1:=cq (i:=i) (by omega)
 cbv
 refine ⟨λh=>?_,λh=>?_⟩
 ·have bt:i < blocks.length:=bI
  have bh:blocks.length - (i+1) < blocks.length - i:=by omega
  refine (bD bt).elim λx hx=>?_
  have Ih:(i:Int)<=1000000:=by omega
  have YH:([]:List bU).length<=1000000:=by simp
  have eb:(O.length+1)*24<=140737488355328:=by omega
  have nj:O.length+1<=9223372036854775807:=by omega
  have hsy:(V.length+1)*1<=140737488355328:=by omega
  have avf:V.length+1<=9223372036854775807:=by omega
  have gu:0<=((([]:List bU).length:Nat):Int)+2*(i:Int)/\0<=x.aZ->E[((((([]:List bU).length:Nat):Int)+2*(i:Int))).toNat]?=some false:=λh=>by
   have:=eA i x hx h.2
   rw [show ((((([]:List bU).length:Nat):Int)+2*(i:Int))).toNat=2*i by simp;omega]
   exact this
  have aiz:0<=((([]:List bU).length:Nat):Int)+2*(i:Int):=by simp;omega
  obtain ⟨wi,Bl⟩:∃w,IntKind.i64.wrap (x.aZ.tdiv 8)=w:=⟨_,rfl⟩
  obtain ⟨wb,IU⟩:∃w,x.aZ.tmod 8=w:=⟨_,rfl⟩
  have bB:i+1<=blocks.length/\(V++[false]).length=(O++[(⟨1,wi,wb⟩:bU)]).length/\(O++[(⟨1,wi,wb⟩:bU)]).length<=i+1/\∀v∈V++[false],v=false:=⟨bt,by simp [I2],by simp;omega,λv hv=>by
   rcases eP.1 hv with h|h
   ·exact MM v h
   ·simpa using h⟩
  have hold:i+1<=blocks.length/\V.length=O.length/\O.length<=i+1/\∀v∈V,v=false:=⟨bt,I2,by omega,MM⟩
  cbv
  refine ⟨x,⟨h0,hx⟩,?_⟩
  cbv
  refine ⟨λh=>?_,λh=>?_⟩
  ·have hr:0<=x.aZ:=bI
   have hE2:=gu ⟨aiz,hr⟩
   cbv
   refine ⟨⟨by decide⟩,⟨by decide⟩,?_⟩
   cbv
   refine ⟨[⟨1,wi,wb⟩],⟨by exact bQ,eb,nj⟩,?_⟩
   cbv
   refine ⟨⟨⟨[],blocks,[],ay⟩,(i:Int)⟩,⟨by exact bQ,YH,h0,Ih⟩,?_⟩
   cbv
   refine ⟨false,⟨aiz,hE2⟩,?_⟩
   cbv
   refine ⟨[false],⟨by exact bQ,hsy,avf⟩,?_⟩
   cbv
   exact ⟨(i+1,O++[⟨1,wi,wb⟩],V++[false]),by exact ao,by exact ao,⟨⟨bB,bh⟩⟩⟩
  ·cbv
   exact ⟨(i+1,O,V),by exact ao,by exact ao,⟨⟨hold,bh⟩⟩⟩
 have hef:∀dr,XJ ⟨O,dr,aM,V,Zr⟩:=λdr=>⟨by show O.length<=1000000;omega,FV,I2,MM,Zc⟩
 obtain ⟨DZ,hDZ⟩:∃D,List.replicate ((O.length:Int)).toNat (0:Int)=D:=⟨_,rfl⟩
 have e9:0<=(O.length:Int)/\8*(O.length:Int)<=281474976710656/\(O.length:Int)<=9223372036854775807:=by omega
 clear h h0 h1
 cbv
 refine Sat.G9 (Wk 0 0) 0 ?_
 cbv
 refine ⟨λh=>?_,λh=>?_⟩
 ·have hF:False:=by have h:=h.out;simp [aU] at h
  cases hF
 clear h
 cbv
 refine ⟨⟨e9.1,j5 _,e9.2.1,e9.2.2⟩,?_⟩
 cbv
 refine Sat.freeze 4 rfl rfl ?_
 cbv
 refine Sat.freeze 5 rfl rfl ?_
 cbv
 refine Sat.freeze 6 rfl rfl ?_
 refine Sat.wU (asI 0 0) ?_
 cbv
 refine ⟨⟨O,DZ,aM,V,Zr⟩,⟨by have dJ:=hDZ;exact cP,hef DZ⟩,?_⟩
 cbv
 exact ⟨by exact aK⟩
def xk (l:List bU):List Int->Option Unit:=λj=>if j∈l.map gG then some () else none
theorem aoD {l:List bU} (h:l.Nodup):(l.map gG).Nodup/\∀n,n∈l.map gG↔(xk l n).isSome=true:=by
 refine ⟨?_,λn=>?_⟩
 ·rw [JN,yJ]
  exact (JN.1 h).imp λcO e=>cO (an5 e)
 ·unfold xk
  split<;>simp_all
theorem aoE {l:List bU} {i:Nat} {x:bU} (h:l[i]?=some x):(λj=>if j=gG x then some () else xk (l.take i) j)=xk (l.take (i+1)):=by
 funext j
 unfold xk
 rw [Eu h,List.map_append,mw,List.map_nil]
 by_cases e:j=gG x
 ·simp [e]
 ·simp [e]
theorem amS {l m:List (List Int)} (hn:l.Nodup) (hs:∀x∈l,x∈m):l.length<=m.length:=by
 induction l generalizing m with
 | nil=>simp
 | cons a r ih =>
  have nq:=sd.1 hn
  have ha:=hs a (by simp)
  have h1:=ih (m:=m.erase a) nq.2 λx hx=>by
   have cO:x≠a:=by rintro rfl;exact nq.1 hx
   exact (List.mem_erase_of_ne cO).2 (hs x (by simp [hx]))
  rw [List.length_erase_of_mem ha] at h1
  have h2:0 < m.length:=List.length_pos_of_mem ha
  simp only [Ar]
  omega
theorem acY {l:List bU} {n:List Int} {t:Unit} (h:xk l n=some t):∃x∈l,n=gG x:=by
 unfold xk at h
 split at h
 ·rename_i hm
  obtain ⟨x,hx,e⟩:=lX.1 hm
  exact ⟨x,hx,e.symm⟩
 ·cases h
theorem afb {l:List bU} {x:bU} (h:x∈l):xk l (gG x)=some ():=by
 unfold xk;rw [if_pos (GF h)]
structure Seen (l:List bU) (s:List (List Int)):Prop where
 sub:∀k∈s,k∈l.map gG
 nd:s.Nodup
theorem Seen.more {l:List bU} {s:List (List Int)} (h:Seen l s) {x:bU} (hx:x∈l) (hn:gG x∉s):Seen l (s++[gG x])/\l.length - (s++[gG x]).length < l.length - s.length:=by
 have h1:Seen l (s++[gG x]):=⟨λk hk=>by
  rcases eP.1 hk with hk|hk
  ·exact h.sub k hk
  ·rw [Ed.1 hk];exact GF hx,N3.2 ⟨h.nd,by simp,λa ha b hb e=>by simp at hb;subst hb;subst e;exact hn ha⟩⟩
 have h2:=amS h1.nd h1.sub
 rw [ib,qJ,rA] at h2
 exact ⟨h1,by rw [ib,rA];omega⟩
theorem aiA:∃f:List bU->List Int->Option Unit,f=xk:=⟨_,rfl⟩
noncomputable def pI:List bU->List Int->Option Unit:=Classical.choose aiA
theorem EF:pI=xk:=BZ aiA
theorem acZ {l:List bU} {i:Nat} {x:bU} (h:l[i]?=some x):(λj=>if j=gG x then some () else pI (l.take i) j)=pI (l.take (i+1)):=by rw [EF];exact aoE h
theorem aeb:(λ_=>none)=pI []:=by rw [EF];funext j;simp [xk]
theorem ac0 {l:List bU} (h:l.Nodup):(l.map gG).Nodup/\∀n,n∈l.map gG↔(pI l n).isSome=true:=by rw [EF];exact aoD h
structure um where
 n:Net
 m:gD
structure XM (y:um):Prop where
 Bv:eX y.n
 outs:y.n.outs.length<=100000
 ay:y.m.ay.length<=100000
@[reducible] noncomputable def TP:Vc.Spec where
 α:=um
 args y:=[.agg [.sl 3 dm (λ_=>y.n.ins),.sl 5 dD (λ_=>y.n.gM),.sl 3 dm (λ_=>y.n.outs),.sl 1 bM (λ_=>y.n.ay)],.agg [.i .i64 (λ_=>y.m.n),.sl 3 rL (λ_=>y.m.cells),.sl 1 bM (λ_=>y.m.ay)]]
 pre y:=XM y
 res y:=.b (λ_=>aV (y.n.ins.length:Int) y.m.n&&aV (y.n.outs.length:Int) (y.m.ay.length:Int))
def C0:Unit->List SV:=λ_=>[.bc true]
noncomputable def cPb (n m:Nat):Ctx:=eu n m [] [] [] [] [12]
theorem Wl (n m:Nat):CB PP (cPb n m):=ez n m trivial trivial
noncomputable def avg (n m:Nat):Ctx:=eu n m [] []
theorem Vo (n m:Nat):CB PP (avg n m):=ez n m trivial trivial
theorem amq:cZ (PP ()) 164 TP:=by
 refine dT (Wl 0 0) (fo Tryz.func164) (λa=>⟨⟨(λx=>(gS x).1),(λx=>(eO x).1),(λx=>(gS x).1),(λx=>(cQ x).1),trivial⟩,⟨trivial,(λx=>(Aw x).1),(λx=>(cQ x).1),trivial⟩,trivial⟩) (λa=>trivial) ?_
 rintro ⟨⟨ins,gs,outs,dr⟩,⟨mn,mc,md⟩⟩ hx
 have hx:XM ⟨⟨ins,gs,outs,dr⟩,⟨mn,mc,md⟩⟩:=hx
 have j6:=hx.Bv
 have wH:2+ins.length+gs.length<=600:=j6.pF
 have ME:outs.length<=100000:=hx.outs
 have F4:md.length<=100000:=hx.ay
 obtain ⟨R,hR⟩:∃R,(aV (ins.length:Int) mn&&aV (outs.length:Int) (md.length:Int))=R:=⟨_,rfl⟩
 have mS:TP.res ⟨⟨ins,gs,outs,dr⟩,⟨mn,mc,md⟩⟩=.b (λ_=>R):=by rw [<-hR]
 rw [mS]
 have avh:aV ((ins.map gG).length:Int) (ins.length:Int)=true:=by rw [qJ];simp [aV]
 have avi:aV ((outs.map gG).length:Int) (outs.length:Int)=true:=by rw [qJ];simp [aV]
 refine ⟨?_⟩
 cbv
 have iS:(λ_=>none)=pI (ins.take 0):=aeb
 have iH:(λ_=>none)=pI (outs.take 0):=aeb
 refine Sat.cf (Wl 0 0) 4 7 [] (λi:Nat=>[(16,.sl 3 dm (λ_=>ins)),(17,.i .i64 (λ_=>(ins.length:Int))),(18,.i .i64 (λ_=>(i:Int)))]) (λi=>[(2,.map kW C0 (λ_=>pI (ins.take i)))]) (λi=>i<=ins.length) (λi=>ins.length - i) 0 (by exact ao) (by have ij:=iS;exact bJ) (cN _) ?_
 intro i hi
 have hi:i<=ins.length:=hi
 have h0:=n0 i
 have h1:=cq (i:=i) (by omega)
 cbv
 refine ⟨λh=>?_,λh=>?_⟩
 ·have bt:i < ins.length:=bI
  have bh:ins.length - (i+1) < ins.length - i:=by omega
  refine (bD bt).elim λx qj=>?_
  have cJ:=acZ qj
  cbv
  refine ⟨x,⟨h0,qj⟩,?_⟩
  cbv
  refine ⟨(),⟨by exact bQ⟩,?_⟩
  cbv
  exact ⟨i+1,by exact ao,by have ij:=cJ;exact bJ,⟨⟨bt,bh⟩⟩⟩
 have b9:i=ins.length:=by
  have h':aU i ins.length=false:=h.out
  have h2:¬(i:Int) < ins.length:=by simpa [aU] using h'
  omega
 have dM:pI (ins.take i)=pI ins:=by rw [b9,lK]
 clear h h0 h1
 cbv
 refine Sat.cf (Wl 0 0) 4 7 [] (λj:Nat=>[(26,.sl 3 dm (λ_=>outs)),(27,.i .i64 (λ_=>(outs.length:Int))),(28,.i .i64 (λ_=>(j:Int)))]) (λj=>[(2,.map kW C0 (λ_=>pI ins)),(3,.map kW C0 (λ_=>pI (outs.take j)))]) (λj=>j<=outs.length) (λj=>outs.length - j) 0 (by exact ao) (by have ij:=dM;have zI:=iH;exact bJ) (cN _) ?_
 intro j hj
 have hj:j<=outs.length:=hj
 have h0:=n0 j
 have h1:=cq (i:=j) (by omega)
 cbv
 refine ⟨λh=>?_,λh=>?_⟩
 ·have bt:j < outs.length:=bI
  have bh:outs.length - (j+1) < outs.length - j:=by omega
  refine (bD bt).elim λx qj=>?_
  have cJ:=acZ qj
  cbv
  refine ⟨x,⟨h0,qj⟩,?_⟩
  cbv
  refine ⟨(),⟨by exact bQ⟩,?_⟩
  cbv
  exact ⟨j+1,by exact ao,by have ij:=cJ;exact bJ,⟨⟨bt,bh⟩⟩⟩
 have uh:j=outs.length:=by
  have h':aU j outs.length=false:=h.out
  have h2:¬(j:Int) < outs.length:=by simpa [aU] using h'
  omega
 have bX:pI (outs.take j)=pI outs:=by rw [uh,lK]
 clear h h0 h1
 cbv
 refine Sat.freeze 2 rfl rfl ?_
 refine Sat.freeze 3 rfl rfl ?_
 refine Sat.wU (Vo 0 0) ?_
 cbv
 refine Sat.cf (Vo 0 0) 5 5 [] (λl:List (List Int)=>[(5,.mp kW C0 (λ_=>pI ins)),(6,.mp kW C0 (λ_=>pI outs)),(36,.ptr 4 0)]) (λl=>[(4,.iter kW C0 (λ_=>pI ins) (λ_=>l) none)]) (λl=>Seen ins l) (λl=>ins.length - l.length) [] (by have Yr:=bX;have et:=bX;exact bJ) (by exact ao) ⟨by simp,GM⟩ ?_
 intro l hl
 have hl:Seen ins l:=hl
 cbv
 refine ⟨λh=>?_,λn t h=>?_⟩
 rotate_left
 ·obtain ⟨g1,g2⟩:=h.out
  rw [EF] at g1
  obtain ⟨x,gU,od⟩:=acY g1
  clear g1
  subst od
  have ra:=j6.ins x gU
  have jo:x.kind=1->pI outs (gG x)=some ():=λh=>by rw [EF];exact afb ((j6.aM x h).1 gU)
  obtain ⟨kq,jH⟩:=hl.more gU g2
  have avj:¬31 < x.i:=by have:=ra.2;omega
  clear g2 ra
  cbv
  refine ⟨λh=>?_,λh=>?_⟩
  ·have hk:x.kind=1:=bI
   cbv
   refine ⟨some (some ()),⟨jo hk⟩,?_⟩
   cbv
   refine ⟨λh=>?_,λh=>?_⟩
   ·have hF:False:=by
     have h':aU 31 x.i=true:=h.out
     simp only [aU,decide_eq_true_eq] at h';omega
    cases hF
   ·cbv
    exact ⟨l++[gG x],by exact ao,by exact bJ,⟨⟨kq,jH⟩⟩⟩
  ·cbv
   exact ⟨l++[gG x],by exact ao,by exact bJ,⟨⟨kq,jH⟩⟩⟩
 clear h hl
 cbv
 refine Sat.cf (Vo 0 0) 6 7 [] (λl:List (List Int)=>[(56,.ptr 5 0)]) (λl=>[(5,.iter kW C0 (λ_=>pI outs) (λ_=>l) none)]) (λl=>Seen outs l) (λl=>outs.length - l.length) [] (by exact ao) (by exact ao) ⟨by simp,GM⟩ ?_
 intro l hl
 have hl:Seen outs l:=hl
 cbv
 refine ⟨λh=>?_,λn t h=>?_⟩
 rotate_left
 ·obtain ⟨g1,g2⟩:=h.out
  rw [EF] at g1
  obtain ⟨x,gU,od⟩:=acY g1
  clear g1
  subst od
  have jo:x.kind=1->pI ins (gG x)=some ():=λh=>by rw [EF];exact afb ((j6.aM x h).2 gU)
  obtain ⟨kq,jH⟩:=hl.more gU g2
  clear g2
  cbv
  refine ⟨λh=>?_,λh=>?_⟩
  ·have hk:x.kind=1:=bI
   cbv
   refine ⟨some (some ()),⟨jo hk⟩,?_⟩
   cbv
   exact ⟨l++[gG x],by exact ao,by exact bJ,⟨⟨kq,jH⟩⟩⟩
  ·cbv
   exact ⟨l++[gG x],by exact ao,by exact bJ,⟨⟨kq,jH⟩⟩⟩
 clear h hl
 cbv
 refine ⟨λh=>?_,λh=>?_⟩
 rotate_left
 ·have e:false=R:=by rw [<-hR,show aV (ins.length:Int) mn=false from h.out];rfl
  cbv
  exact ⟨by exact aK⟩
 have hA:aV (ins.length:Int) mn=true:=h.out
 rw [hA,JF] at hR
 clear h
 cbv
 refine ⟨λh=>?_,λh=>?_⟩
 rotate_left
 ·have e:false=R:=by rw [<-hR];exact h.out.symm
  cbv
  exact ⟨by exact aK⟩
 have hB:aV (outs.length:Int) (md.length:Int)=true:=h.out
 have e:true=R:=by rw [<-hR,hB]
 clear h
 cbv
 refine ⟨ins.map gG,⟨ac0 j6.ind⟩,?_⟩
 cbv
 refine ⟨λh=>?_,λh=>?_⟩
 rotate_left
 ·have hF:False:=by have h':aV ((ins.map gG).length:Int) (ins.length:Int)=false:=h.out;rw [avh] at h';cases h'
  cases hF
 clear h
 cbv
 refine ⟨outs.map gG,⟨ac0 j6.Lh⟩,?_⟩
 cbv
 have e2:aV ((outs.map gG).length:Int) (outs.length:Int)=R:=by rw [avi];exact e
 exact ⟨by exact aK⟩
end Go.Proofs.Pk
