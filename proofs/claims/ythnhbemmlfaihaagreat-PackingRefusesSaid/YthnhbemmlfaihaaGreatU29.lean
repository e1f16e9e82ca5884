import Derived.Test.YthnhbemmlfaihaaGreatU7
import Derived.Test.YthnhbemmlfaihaaGreatU28
set_option linter.unusedVariables false
set_option linter.unusedSimpArgs false
set_option maxRecDepth 10000
set_option maxHeartbeats 64000000
namespace Go.Proofs.Pk
open Go Go.Vc
structure PBl where
 p:bC
 b:Int
@[reducible] noncomputable def Cx:Vc.Spec where
 α:=PBl
 args x:=[.agg (fH x.p),.i .i64 (λ_=>x.b)]
 pre x:=x.p.ins.length<=1000000/\0<=x.b/\x.b<=1000000
 res x:=.i .i64 (λ_=>(x.p.ins.length:Int)+2*x.b)
noncomputable def cTb (n m:Nat):Ctx:=eu n m [] []
theorem ast (n m:Nat):CB PP (cTb n m):=ez n m trivial trivial
theorem Et:cZ (PP ()) 95 Cx:=by
 refine dT (ast 0 0) (fo Tryz.func95) (λa=>⟨kD a.p,trivial,trivial⟩) (λa=>trivial) ?_
 rintro ⟨⟨ins,blocks,outs,ay⟩,b⟩ hx
 obtain ⟨hi,h0,h1⟩:ins.length<=1000000/\0<=b/\b<=1000000:=hx
 have hw:IntKind.i64.wrap ((ins.length:Int)+IntKind.i64.wrap (2*b))=(ins.length:Int)+2*b:=by rw [cu (n:=2*b) (by omega) (by omega),cu (by omega) (by omega)]
 refine ⟨?_⟩
 cbv
 exact ⟨by exact aK⟩
noncomputable def Ds (sig:List Int) (x:Block):Int:=iP (4 :: x.table :: x.bR :: x.ins.map λs=>IntKind.i64.wrap (sig.getD s.toNat 0))
structure Xr where
 p:bC
 sig:List Int
 out:List Int
 b:Int
structure KU where
 sig:List Int
 out:List Int
structure KV (x:Xr) (y:KU):Prop where
 ok:∃z,x.p.blocks[x.b.toNat]?=some z/\(0<=z.aZ->y.sig=x.sig/\y.out=x.out)/\(z.aZ < 0->y.sig=x.sig.set (x.p.ins.length+2*x.b.toNat) (Ds x.sig z)/\y.out=x.out.set x.b.toNat (Ds x.sig z))
structure VU (x:Xr):Prop where
 dK:x.p.blocks.length<=600
 ins:x.p.ins.length<=1000000
 lo:0<=x.b
 hi:x.b < x.p.blocks.length
 sl:x.sig.length=x.p.ins.length+2*x.p.blocks.length
 ol:x.out.length=x.p.blocks.length
 used:∀z∈x.p.blocks,∀s∈z.ins,0<=s/\s < x.p.sigs
 k:∀z∈x.p.blocks,z.ins.length<=1000000
@[reducible] noncomputable def apw:na where
 α:=Xr
 args x:=[.i .i64 (λ_=>x.b),.ptr 0 0,.ptr 1 0,.ptr 3 0,.ptr 5 0]
 io x:=[.fix 57 (fH x.p),.fix 72 [.own 2],.dyn 74 1 mE (λ_=>x.sig),.fix 72 [.own 4],.dyn 74 1 mE (λ_=>x.out),.fix 179 (fH x.p)]
 pre x:=VU x
 β:=KU
 post x y:=KV x y
 mv:=[]
 res x y:=.dG []
 kx x y:=[.fix 57 (fH x.p),.fix 72 [.own 2],.dyn 74 1 mE (λ_=>y.sig),.fix 72 [.own 4],.dyn 74 1 mE (λ_=>y.out),.fix 179 (fH x.p)]
noncomputable def cVk (n m:Nat):Ctx:=eu n m [] [(99,UI),(95,Cx)] [] [] [] [35]
theorem age (n m:Nat):CB PP (cVk n m):=ez n m trivial ⟨abI,Et,trivial⟩
theorem anu:iM PP 100 apw:=by
 refine mM (age 0 0) (fo Tryz.func100) (λa y=>rfl) (λa=>⟨rfl,rfl⟩) .nil ?_
 rintro ⟨⟨ins,blocks,outs,ay⟩,sig,out,b⟩ hx
 have hx:VU ⟨⟨ins,blocks,outs,ay⟩,sig,out,b⟩:=hx
 have oP:blocks.length<=600:=hx.dK
 have iO:ins.length<=1000000:=hx.ins
 have ef:0<=b:=hx.lo
 have dP:b < blocks.length:=hx.hi
 have jm:sig.length=ins.length+2*blocks.length:=hx.sl
 have gv:out.length=blocks.length:=hx.ol
 obtain ⟨x,oY⟩:=bD (l:=blocks) (i:=b.toNat) (by omega)
 have yv:∀s∈x.ins,0<=s/\s < (ins.length:Int)+2*blocks.length:=hx.used x (cb oY)
 have mq:=hx.k x (cb oY)
 refine ⟨?_⟩
 cbv
 refine ⟨x,⟨ef,oY⟩,?_⟩
 cbv
 refine ⟨λh=>?_,λh=>?_⟩
 ·have hr:0<=x.aZ:=bI
  have bX:KV ⟨⟨ins,blocks,outs,ay⟩,sig,out,b⟩ ⟨sig,out⟩:=⟨x,oY,λ_=>⟨rfl,rfl⟩,λh=>by omega⟩
  cbv
  exact ⟨⟨sig,out⟩,[],[],⟨by exact aK,trivial⟩,by exact ao,⟨bX⟩⟩
 ·have hr:x.aZ < 0:=bI
  cbv
  refine ⟨[4,x.table,x.bR],⟨by exact aK,rfl⟩,?_⟩
  cbv
  obtain ⟨f,hf⟩:∃f:Int->Int,f=λs=>IntKind.i64.wrap (sig.getD s.toNat 0):=⟨_,rfl⟩
  refine Sat.cf (age 0 0) 8 7 [(.t 7,7)] (λy:Nat × List Int=>[(7,.own 7),(24,.sl 1 bM (λ_=>x.ins)),(25,.i .i64 (λ_=>(x.ins.length:Int))),(26,.i .i64 (λ_=>(y.1:Int)))]) (λy=>[(7,.dyn 3 1 bM (λ_=>y.2))])
   (λy=>y.1<=x.ins.length/\y.2=[4,x.table,x.bR]++(x.ins.take y.1).map f) (λy=>x.ins.length - y.1) (0,[4,x.table,x.bR]) (by exact ao) (by exact ao) ⟨cN _,by simp⟩ ?_
  rintro ⟨j,l⟩ ⟨hj,hl⟩
  have hj:j<=x.ins.length:=hj
  have hl:l=[4,x.table,x.bR]++(x.ins.take j).map f:=hl
  have oh:l.length=3+j:=by rw [hl];simp;omega
  have iN:=n0 j
  have vz:=cq (i:=j) (by omega)
  cbv
  refine ⟨λh=>?_,λh=>?_⟩
  ·have er:j < x.ins.length:=bI
   have bh:x.ins.length - (j+1) < x.ins.length - j:=by omega
   refine (bD er).elim λs hs=>?_
   have qs:=yv s (cb hs)
   have qs:0<=s/\s < (ins.length:Int)+2*(blocks.length:Int):=qs
   have uC:0<=s/\s.toNat < sig.length:=by omega
   refine (bD uC.2).elim λv hv=>?_
   have YU:IntKind.i64.wrap v=f s:=by rw [hf];simp only [iE,hv,pe]
   have bB:j+1<=x.ins.length/\l++[f s]=[4,x.table,x.bR]++(x.ins.take (j+1)).map f:=⟨er,by rw [hl,DT,hs];simp⟩
   cbv
   refine ⟨s,⟨iN,hs⟩,?_⟩
   cbv
   refine ⟨⟨uC⟩,v,⟨hv,rfl⟩,?_⟩
   cbv
   refine ⟨[f s],⟨by exact bQ,rfl⟩,?_⟩
   cbv
   refine ⟨[f s],⟨by exact bQ,by show (l.length+1)*8<=_;omega,by show l.length+1<=_;omega⟩,?_⟩
   cbv
   exact ⟨(j+1,l++[f s]),by exact ao,by exact ao,⟨⟨bB,bh⟩⟩⟩
  ·have oe:j=x.ins.length:=by
    have h':aU j x.ins.length=false:=h.out
    have h2:¬(j:Int) < x.ins.length:=by simpa [aU] using h'
    omega
   have YV:iP l=Ds sig x:=by rw [hl,oe,lK,hf];rfl
   obtain ⟨K,hK⟩:∃K,iP l=K:=⟨_,rfl⟩
   have hKd:K=Ds sig x:=by rw [<-hK,YV]
   have dP:b < (blocks.length:Int):=dP
   have xc:0<=b/\b.toNat < out.length:=by omega
   refine (bD xc.2).elim λu hu=>?_
   refine (⟨_,rfl⟩:∃o2,out.set b.toNat K=o2).elim λo2 j9=>?_
   have Xs:0<=b/\b.toNat < (out.set b.toNat K).length:=by rw [km];exact xc
   have Bz:(out.set b.toNat K)[b.toNat]?=some K:=by rw [ja];simp [xc.2]
   have yw:0<=(ins.length:Int)+2*b/\((ins.length:Int)+2*b).toNat < sig.length:=by omega
   refine (bD yw.2).elim λu2 yr=>?_
   refine (⟨_,rfl⟩:∃s2,sig.set ((ins.length:Int)+2*b).toNat K=s2).elim λs2 tB=>?_
   have bX:KV ⟨⟨ins,blocks,outs,ay⟩,sig,out,b⟩ ⟨s2,o2⟩:=⟨x,oY,λh=>by omega,λ_=>⟨by
    have e:((ins.length:Int)+2*b).toNat=ins.length+2*b.toNat:=by omega
    show s2=sig.set (ins.length+2*b.toNat) (Ds sig x)
    rw [<-tB,e,hKd],by show o2=out.set b.toNat (Ds sig x);rw [<-j9,hKd]⟩⟩
   have QT:b<=1000000:=by omega
   have hlen:l.length < 4611686018427387904:=by omega
   cbv
   refine ⟨l,⟨.inl ⟨by exact bQ,rfl⟩,hlen⟩,?_⟩
   cbv
   refine ⟨⟨xc⟩,?_⟩
   cbv
   refine ⟨(u,K),⟨hu,rfl,by have bg:=hK;exact dx⟩,?_⟩
   cbv
   refine ⟨⟨⟨ins,blocks,outs,ay⟩,b⟩,⟨by exact bQ,iO,ef,QT⟩,?_⟩
   cbv
   refine ⟨⟨Xs⟩,K,⟨Bz,rfl⟩,?_⟩
   cbv
   refine ⟨⟨yw⟩,(u2,K),⟨yr,rfl,by exact aK⟩,?_⟩
   cbv
   exact ⟨⟨s2,o2⟩,[],[],⟨by exact aK,trivial⟩,by have et:=tB;have kH:=j9;exact bJ,⟨bX⟩⟩
noncomputable def cEl (n m:Nat):Ctx:=eu n m [] []
theorem Qb (n m:Nat):CB PP (cEl n m):=ez n m trivial trivial
@[reducible] noncomputable def VV:Vc.Spec where
 α:=nK bU
 args x:=[.sl 3 dm (λ_=>x.a),.sl 3 dm (λ_=>x.b)]
 pre x:=x.a.length<=1000000/\x.b.length<=1000000
 res x:=.b (λ_=>jL x.a x.b)
theorem apx:cZ (PP ()) 92 VV:=by
 refine dT (Qb 0 0) (fo Tryz.func92) (λa=>⟨(λx=>(gS x).1),(λx=>(gS x).1),trivial⟩) (λa=>trivial) ?_
 rintro ⟨a,b⟩ hx
 obtain ⟨ha,hb⟩:a.length<=1000000/\b.length<=1000000:=hx
 obtain ⟨R,hR⟩:∃R,jL a b=R:=⟨_,rfl⟩
 have mS:VV.res ⟨a,b⟩=.b (λ_=>R):=by rw [<-hR]
 rw [mS]
 refine ⟨?_⟩
 cbv
 refine ⟨λh=>?_,λh=>?_⟩
 ·have cO:¬a.length=b.length:=by have h':(!aV (a.length:Int) (b.length:Int))=true:=h.out;simp only [aV,pU,beq_eq_false_iff_ne,ne_eq] at h';intro e;exact h' (by rw [e])
  have e:false=R:=by rw [<-hR];exact (ED λe=>cO (by rw [e])).symm
  cbv
  exact ⟨by exact aK⟩
 ·have hl:a.length=b.length:=by have h':(!aV (a.length:Int) (b.length:Int))=false:=h.out;simp only [aV,Ee,beq_iff_eq] at h';exact aT
  cbv
  refine Sat.cf (Qb 0 0) 0 5 [] (λi:Nat=>[(12,.i .i64 (λ_=>(a.length:Int))),(13,.i .i64 (λ_=>(i:Int)))]) (λi=>[]) (λi=>i<=a.length/\∀(j:Nat) (x y:bU),j < i->a[j]?=some x->b[j]?=some y->x=y) (λi=>a.length - i) 0 (by exact ao) (by exact ao) ⟨cN _,λj x y h=>by omega⟩ ?_
  rintro i ⟨hi,hj⟩
  have h0:=n0 i
  have h1:=cq (i:=i) (by omega)
  cbv
  refine ⟨λh=>?_,λh=>?_⟩
  ·have bt:i < a.length:=bI
   have bh:a.length - (i+1) < a.length - i:=by omega
   refine (bD bt).elim λx hx=>?_
   refine (bD (l:=b) (i:=i) (by omega)).elim λy hy=>?_
   cbv
   refine ⟨x,⟨h0,hx⟩,?_⟩
   cbv
   refine ⟨y,⟨h0,hy⟩,?_⟩
   cbv
   refine ⟨λh=>?_,λh=>?_⟩
   ·have h:=h.out
    have cO:x≠y:=by rintro rfl;simp [aV] at h
    have e:false=R:=by rw [<-hR];exact (Kt hx hy cO).symm
    cbv
    exact ⟨by exact aK⟩
   ·have h:=h.out
    have he:x=y:=by simp [aV] at h;cases x;cases y;simp at h ⊢;omega
    have bB:i+1<=a.length/\∀(j:Nat) (x y:bU),j < i+1->a[j]?=some x->b[j]?=some y->x=y:=⟨bt,λj u v er hu hv=>by
     by_cases e:j=i
     ·subst e;rw [hx] at hu;rw [hy] at hv;cases hu;cases hv;exact he
     ·exact hj j u v (by omega) hu hv⟩
    cbv
    exact ⟨i+1,by exact ao,by exact ao,⟨⟨bB,bh⟩⟩⟩
  ·have b9:i=a.length:=by
    have h':aU i a.length=false:=h.out
    have h2:¬(i:Int) < a.length:=by simpa [aU] using h'
    omega
   have e:true=R:=by rw [<-hR];exact (Kd hl λj x y hx hy=>hj j x y (by have:=(bW.1 hx).1;omega) hx hy).symm
   cbv
   exact ⟨by exact aK⟩
@[reducible] noncomputable def VW:Vc.Spec where
 α:=nK Int
 args x:=[.sl 1 bM (λ_=>x.a),.sl 1 bM (λ_=>x.b)]
 pre x:=x.a.length<=1000000/\x.b.length<=1000000
 res x:=.b (λ_=>jL x.a x.b)
theorem apy:cZ (PP ()) 96 VW:=by
 refine dT (Qb 0 0) (fo Tryz.func96) (λa=>⟨(λx=>(cQ x).1),(λx=>(cQ x).1),trivial⟩) (λa=>trivial) ?_
 rintro ⟨a,b⟩ hx
 obtain ⟨ha,hb⟩:a.length<=1000000/\b.length<=1000000:=hx
 obtain ⟨R,hR⟩:∃R,jL a b=R:=⟨_,rfl⟩
 have mS:VW.res ⟨a,b⟩=.b (λ_=>R):=by rw [<-hR]
 rw [mS]
 refine ⟨?_⟩
 cbv
 refine ⟨λh=>?_,λh=>?_⟩
 ·have cO:¬a.length=b.length:=by have h':(!aV (a.length:Int) (b.length:Int))=true:=h.out;simp only [aV,pU,beq_eq_false_iff_ne,ne_eq] at h';intro e;exact h' (by rw [e])
  have e:false=R:=by rw [<-hR];exact (ED λe=>cO (by rw [e])).symm
  cbv
  exact ⟨by exact aK⟩
 ·have hl:a.length=b.length:=by have h':(!aV (a.length:Int) (b.length:Int))=false:=h.out;simp only [aV,Ee,beq_iff_eq] at h';exact aT
  cbv
  refine Sat.cf (Qb 0 0) 0 5 [] (λi:Nat=>[(12,.i .i64 (λ_=>(a.length:Int))),(13,.i .i64 (λ_=>(i:Int)))]) (λi=>[]) (λi=>i<=a.length/\∀(j:Nat) (x y:Int),j < i->a[j]?=some x->b[j]?=some y->x=y) (λi=>a.length - i) 0 (by exact ao) (by exact ao) ⟨cN _,λj x y h=>by omega⟩ ?_
  rintro i ⟨hi,hj⟩
  have h0:=n0 i
  have h1:=cq (i:=i) (by omega)
  cbv
  refine ⟨λh=>?_,λh=>?_⟩
  ·have bt:i < a.length:=bI
   have bh:a.length - (i+1) < a.length - i:=by omega
   refine (bD bt).elim λx hx=>?_
   refine (bD (l:=b) (i:=i) (by omega)).elim λy hy=>?_
   cbv
   refine ⟨x,⟨h0,hx⟩,?_⟩
   cbv
   refine ⟨y,⟨h0,hy⟩,?_⟩
   cbv
   refine ⟨λh=>?_,λh=>?_⟩
   ·have h:=h.out
    have cO:x≠y:=by simpa [aV] using h
    have e:false=R:=by rw [<-hR];exact (Kt hx hy cO).symm
    cbv
    exact ⟨by exact aK⟩
   ·have h:=h.out
    have he:x=y:=by simpa [aV] using h
    have bB:i+1<=a.length/\∀(j:Nat) (x y:Int),j < i+1->a[j]?=some x->b[j]?=some y->x=y:=⟨bt,λj u v er hu hv=>by
     by_cases e:j=i
     ·subst e;rw [hx] at hu;rw [hy] at hv;cases hu;cases hv;exact he
     ·exact hj j u v (by omega) hu hv⟩
    cbv
    exact ⟨i+1,by exact ao,by exact ao,⟨⟨bB,bh⟩⟩⟩
  ·have b9:i=a.length:=by
    have h':aU i a.length=false:=h.out
    have h2:¬(i:Int) < a.length:=by simpa [aU] using h'
    omega
   have e:true=R:=by rw [<-hR];exact (Kd hl λj x y hx hy=>hj j x y (by have:=(bW.1 hx).1;omega) hx hy).symm
   cbv
   exact ⟨by exact aK⟩
noncomputable def cRa (n m:Nat):Ctx:=eu n m [] []
theorem VX (n m:Nat):CB PP (cRa n m):=ez n m trivial trivial
theorem anv:cZ (PP ()) 75 Pw:=by
 refine dT (VX 0 0) (fo Tryz.func75) (λa=>⟨(gS a.w).1,trivial,trivial,trivial⟩) (λa=>trivial) ?_
 rintro ⟨w,lo,hi⟩ hx
 have e8:cV w.bit 7=aU w.bit 8:=by unfold cV aU;congr 1;exact propext ⟨λh=>by omega,λh=>by omega⟩
 refine ⟨?_⟩
 cbv
 repeat' (first|(refine .b ?_;done)|(refine ⟨λh=>?_,λh=>?_⟩<;>(have h:=h.out;cbv))|fail)
 all_goals first|refine .bc ?_|refine .b ?_|refine ⟨.bc ?_⟩|refine ⟨.b ?_⟩
 all_goals simp_all [uE]
noncomputable def n9 (p:bC) (s:Int):Int:=if s < p.ins.length then -1 else (cS p.ins.length s:Int)
noncomputable def rM (p:bC) (s:Int):Bool:=decide ((p.ins.length:Int)<=s/\gk p.ins.length s)
structure Ie (p:bC) (s:Int):Prop where
 ins:p.ins.length<=1000000
 lo:0<=s
 hi:s<=10000000
theorem acT {n:Nat} {s:Int} (hn:n<=1000000) (h0:0<=s) (h1:s<=10000000):IntKind.i64.wrap (s - (n:Int))=s - (n:Int)/\((n:Int)<=s->IntKind.i64.wrap ((IntKind.i64.wrap (s - (n:Int))).tdiv 2)=(cS n s:Int)/\(IntKind.i64.wrap (s - (n:Int))).tmod 2=(s - (n:Int)) % 2):=by
 have gh:IntKind.i64.wrap (s - (n:Int))=s - (n:Int):=cu (by omega) (by omega)
 refine ⟨gh,λb9=>⟨?_,?_⟩⟩
 ·have q9:(s - (n:Int)) / 2=(cS n s:Int):=by unfold cS;omega
  rw [gh,Ak (by omega),q9]
  exact cu (by unfold cS;omega) (by unfold cS;omega)
 ·rw [gh,qI (by omega)]
@[reducible] noncomputable def OY:Vc.Spec where
 α:=YT
 args x:=[.agg (fH x.p),.i .i64 (λ_=>x.s)]
 pre x:=Ie x.p x.s
 res x:=.i .i64 (λ_=>n9 x.p x.s)
theorem TN:cZ (PP ()) 174 OY:=by
 refine dT (VX 0 0) (fo Tryz.func174) (λa=>⟨kD a.p,trivial,trivial⟩) (λa=>trivial) ?_
 rintro ⟨⟨ins,blocks,outs,ay⟩,s⟩ hx
 have hx:Ie ⟨ins,blocks,outs,ay⟩ s:=hx
 have hf:=acT (n:=ins.length) hx.ins hx.lo hx.hi
 refine ⟨?_⟩
 cbv
 refine ⟨λh=>?_,λh=>?_⟩
 ·have aR:s < (ins.length:Int):=bI
  have e:-1=n9 ⟨ins,blocks,outs,ay⟩ s:=by unfold n9;rw [if_pos aR]
  cbv
  exact ⟨by exact aK⟩
 ·have b9:(ins.length:Int)<=s:=bI
  have e:IntKind.i64.wrap ((IntKind.i64.wrap (s - (ins.length:Int))).tdiv 2)=n9 ⟨ins,blocks,outs,ay⟩ s:=by rw [(hf.2 b9).1];unfold n9;rw [if_neg (by simp only;omega)]
  cbv
  exact ⟨⟨by decide⟩,⟨by exact aK⟩⟩
@[reducible] noncomputable def Vj:Vc.Spec where
 α:=YT
 args x:=[.agg (fH x.p),.i .i64 (λ_=>x.s)]
 pre x:=Ie x.p x.s
 res x:=.b (λ_=>rM x.p x.s)
theorem acU:cZ (PP ()) 173 Vj:=by
 refine dT (VX 0 0) (fo Tryz.func173) (λa=>⟨kD a.p,trivial,trivial⟩) (λa=>trivial) ?_
 rintro ⟨⟨ins,blocks,outs,ay⟩,s⟩ hx
 have hx:Ie ⟨ins,blocks,outs,ay⟩ s:=hx
 have hf:=acT (n:=ins.length) hx.ins hx.lo hx.hi
 refine ⟨?_⟩
 cbv
 refine ⟨λh=>?_,λh=>?_⟩
 ·have b9:(ins.length:Int)<=s:=bI
  have e:aV ((IntKind.i64.wrap (s - (ins.length:Int))).tmod 2) 1=rM ⟨ins,blocks,outs,ay⟩ s:=by
   rw [(hf.2 b9).2];unfold rM gk aV;by_cases h:(s - (ins.length:Int)) % 2=1<;>simp [b9,h]
  cbv
  exact ⟨⟨by decide⟩,⟨by exact aK⟩⟩
 ·have aR:¬(ins.length:Int)<=s:=bI
  have e:false=rM ⟨ins,blocks,outs,ay⟩ s:=by unfold rM;simp;intro h;exact absurd h aR
  cbv
  exact ⟨by exact aK⟩
noncomputable def cRb (n m:Nat):Ctx:=eu n m [(102,Tryz.f102)] [(174,OY),(173,Vj)]
theorem asu (n m:Nat):CB PP (cRb n m):=ez n m ⟨fo Tryz.func102,trivial⟩ ⟨TN,acU,trivial⟩
theorem amN:cZ (PP ()) 76 OU:=by
 refine dT (asu 0 0) (fo Tryz.func76) (λa=>⟨kD a.p,trivial,trivial⟩) (λa=>trivial) ?_
 rintro ⟨⟨ins,blocks,outs,ay⟩,s⟩ hx
 obtain ⟨hb,hi⟩:yS ⟨ins,blocks,outs,ay⟩:=hx
 have hb:blocks.length<=1000000:=hb
 have hi:ins.length<=1000000:=hi
 have IU:IntKind.i64.wrap (2*(blocks.length:Int))=2*(blocks.length:Int):=cu (by omega) (by omega)
 have dB:IntKind.i64.wrap ((ins.length:Int)+IntKind.i64.wrap (2*(blocks.length:Int)))=(ins.length:Int)+2*(blocks.length:Int):=by rw [IU];exact cu (by omega) (by omega)
 have F:¬k8 ⟨ins,blocks,outs,ay⟩ s->false=oA ⟨ins,blocks,outs,ay⟩ s:=λh=>by simp [oA,h]
 have T:k8 ⟨ins,blocks,outs,ay⟩ s->true=oA ⟨ins,blocks,outs,ay⟩ s:=λh=>by simp [oA,h]
 refine ⟨?_⟩
 cbv
 refine ⟨λh=>?_,λh=>?_⟩
 ·have h0:s < 0:=bI
  have e:=F λh=>by have:=h.lo;omega
  cbv
  exact ⟨by exact aK⟩
 ·have h0:0<=s:=bI
  cbv
  refine ⟨λh=>?_,λh=>?_⟩
  ·have h1:(ins.length:Int)+2*(blocks.length:Int)<=s:=by
    have h':cV (IntKind.i64.wrap ((ins.length:Int)+IntKind.i64.wrap (2*(blocks.length:Int)))) s=true:=h.out
    rw [dB] at h'
    simpa [cV] using h'
   have e:=F λh=>by have:=h.hi;unfold bC.sigs at this;simp only at this;omega
   cbv
   exact ⟨by exact aK⟩
  ·have h1:s < (ins.length:Int)+2*(blocks.length:Int):=by
    have h':cV (IntKind.i64.wrap ((ins.length:Int)+IntKind.i64.wrap (2*(blocks.length:Int)))) s=false:=h.out
    rw [dB] at h'
    simpa [cV] using h'
   have gH:s < bC.sigs ⟨ins,blocks,outs,ay⟩:=by unfold bC.sigs;simp only;omega
   have IV:Ie ⟨ins,blocks,outs,ay⟩ s:=⟨hi,h0,by omega⟩
   cbv
   refine ⟨⟨⟨ins,blocks,outs,ay⟩,s⟩,⟨by exact bQ,IV⟩,?_⟩
   cbv
   refine ⟨λh=>?_,λh=>?_⟩
   ·have mR:rM ⟨ins,blocks,outs,ay⟩ s=false:=by have h':(!rM ⟨ins,blocks,outs,ay⟩ s)=true:=h.out;simpa using h'
    have e:=T ⟨h0,gH,λh1 h2=>by unfold rM at mR;simp only [decide_eq_false_iff_not] at mR;exact absurd ⟨h1,h2⟩ mR⟩
    cbv
    exact ⟨by exact aK⟩
   ·have hf:rM ⟨ins,blocks,outs,ay⟩ s=true:=by have h':(!rM ⟨ins,blocks,outs,ay⟩ s)=false:=h.out;simpa using h'
    have RM:(ins.length:Int)<=s/\gk ins.length s:=by unfold rM at hf;simpa using hf
    have h1:s < (ins.length:Int)+2*(blocks.length:Int):=h1
    have fV:cS ins.length s < blocks.length:=by have:=RM.1;unfold cS;omega
    refine (bD fV).elim λx hx=>?_
    have FU:n9 ⟨ins,blocks,outs,ay⟩ s=(cS ins.length s:Int):=by unfold n9;rw [if_neg (by simp only;have:=RM.1;omega)]
    have gu:0<=n9 ⟨ins,blocks,outs,ay⟩ s/\blocks[(n9 ⟨ins,blocks,outs,ay⟩ s).toNat]?=some x:=by rw [FU];exact ⟨by omega,by simpa using hx⟩
    have e:cV 0 x.aZ=oA ⟨ins,blocks,outs,ay⟩ s:=by
     by_cases hr:0<=x.aZ
     ·rw [<-T ⟨h0,gH,λ_ _=>⟨x,hx,hr⟩⟩];simp [cV,hr]
     ·rw [<-F λh=>by obtain ⟨y,hy,FH⟩:=h.flip RM.1 RM.2;simp only at hy;rw [hx] at hy;cases hy;exact hr FH];simp [cV,hr]
    cbv
    refine ⟨⟨⟨ins,blocks,outs,ay⟩,s⟩,⟨by exact bQ,IV⟩,?_⟩
    cbv
    refine ⟨x,⟨gu⟩,?_⟩
    cbv
    exact ⟨by exact aK⟩
@[reducible] noncomputable def TO:Vc.Spec:=OU
theorem aaA:cZ (PP ()) 76 TO:=amN
structure Ig (p:bC) (b:Int):Prop where
 sh:Shape p
 ins:p.ins.length<=1000000
 lo:0<=b
 hi:b < p.blocks.length
theorem Ig.small {p:bC} {b:Int} (h:Ig p b):yS p:=⟨by have:=h.sh.dK;omega,h.ins⟩
@[reducible] noncomputable def agf:Vc.Spec where
 α:=PBl
 args x:=[.agg (fH x.p),.i .i64 (λ_=>x.b)]
 pre x:=Ig x.p x.b
 res x:=.b (λ_=>true)
theorem pw2 {k:Nat} (hk:k<=4):(min (IntKind.u64.wrap (1*2^(min (IntKind.u64.wrap (k:Int)).toNat IntKind.u64.bits))).toNat IntKind.i64.bits)=2^k:=by
 have:k=0\/k=1\/k=2\/k=3\/k=4:=by omega
 rcases this with e|e|e|e|e<;>subst e<;>rfl
theorem Ug {t:Int} {k:Nat} (hk:k<=4) (h0:0<=t) (h1:t < 2^(2^k)):t.fdiv (2^(min (IntKind.u64.wrap (1*2^(min (IntKind.u64.wrap (k:Int)).toNat IntKind.u64.bits))).toNat IntKind.i64.bits))=0:=by
 rw [pw2 hk,Int.fdiv_eq_ediv_of_nonneg _ (Int.le_of_lt (Int.lt_of_le_of_lt h0 h1))]
 exact Int.ediv_eq_zero_of_lt h0 h1
theorem Px {k:Nat} (hk:k<=4):0<=IntKind.u64.wrap (k:Int)/\0<=IntKind.u64.wrap (1*2^(min (IntKind.u64.wrap (k:Int)).toNat IntKind.u64.bits)):=by
 have:k=0\/k=1\/k=2\/k=3\/k=4:=by omega
 rcases this with e|e|e|e|e<;>rw [e]<;>decide
noncomputable def YW (p:bC) (b:Int) (x:Block):Vc.St :=
 ⟨[.agg [.sl 3 dm (λ_=>p.ins),.sl 5 ph (λ_=>p.blocks),.sl 3 dm (λ_=>p.outs),.sl 1 bM (λ_=>p.ay)],.i .i64 (λ_=>b),.ptr 0 0,.any,.bc false,.ptr 1 0,.i .i64 (λ_=>(x.ins.length:Int)),.ic .i64 0]++xS 99,
  [.fix 57 [.sl 3 dm (λ_=>p.ins),.sl 5 ph (λ_=>p.blocks),.sl 3 dm (λ_=>p.outs),.sl 1 bM (λ_=>p.ay)],
   .fix 76 [.sl 1 bM (λ_=>x.ins),.i .i64 (λ_=>x.table),.i .i64 (λ_=>x.bR),.i .i64 (λ_=>x.aZ),.i .u64 (λ_=>x.key)]]⟩
noncomputable def cGo (n m:Nat):Ctx:=eu n m [] [(76,TO)]
theorem VY (n m:Nat):CB PP (cGo n m):=ez n m trivial ⟨aaA,trivial⟩
theorem apz:cZ (PP ()) 77 agf:=by
 refine dT (VY 0 0) (fo Tryz.func77) (λa=>⟨kD a.p,trivial,trivial⟩) (λa=>trivial) ?_
 rintro ⟨⟨ins,blocks,outs,ay⟩,b⟩ hx
 have hx:Ig ⟨ins,blocks,outs,ay⟩ b:=hx
 have eg:=hx.sh
 have nQ:=hx.small
 have ef:0<=b:=hx.lo
 have dP:b < blocks.length:=hx.hi
 have oP:blocks.length<=600:=eg.dK
 obtain ⟨x,oY⟩:=bD (l:=blocks) (i:=b.toNat) (by omega)
 have iI:=cb oY
 have hf:=eg.formed x iI
 have ur:∀s∈x.ins,k8 ⟨ins,blocks,outs,ay⟩ s:=eg.used x iI
 have hk:=hf.k
 have LI:=hf.bR
 have ui:=hf.aZ
 have asv:=hf.read
 have au0:∀i:Nat,(i:Int) < b->∀y,blocks[i]?=some y->0<=x.aZ->y.aZ≠x.aZ:=λi hi y hy h0 e=>by
  have:=eg.aM b.toNat i x y oY hy h0 e.symm
  omega
 have eb:=λ(_:Unit)=>Ug hk hf.table.1 hf.table.2
 clear eb
 refine ⟨?_⟩
 cbv
 refine ⟨x,⟨ef,oY⟩,?_⟩
 cbv
 refine ⟨λh=>?_,λ_=>?_⟩
 ·have hF:False:=by
   have h':aU 4 (x.ins.length:Int)=true:=h.out
   simp only [aU,decide_eq_true_eq] at h';exact aT
  cases hF
 cbv
 refine ⟨λh=>?_,λ_=>?_⟩
 ·have hF:False:=by
   have h':aU x.bR (-1)=true:=h.out
   simp only [aU,decide_eq_true_eq] at h';omega
  cases hF
 cbv
 refine ⟨λh=>?_,λ_=>?_⟩
 ·have hF:False:=by
   have h':aU 63 x.bR=true:=h.out
   simp only [aU,decide_eq_true_eq] at h';omega
  cases hF
 cbv
 refine ⟨λh=>?_,λ_=>?_⟩
 ·have hF:False:=by
   have h':aU x.aZ (-1)=true:=h.out
   simp only [aU,decide_eq_true_eq] at h';omega
  cases hF
 cbv
 refine ⟨λh=>?_,λ_=>?_⟩
 ·have hF:False:=by
   have h':aU 255 x.aZ=true:=h.out
   simp only [aU,decide_eq_true_eq] at h';omega
  cases hF
 cbv
 apply B8 (λc k=>Sat [] false PP c (YW ⟨ins,blocks,outs,ay⟩ b x) k)
 ·intro tail
  refine ⟨λh=>?_,λh=>?_⟩
  ·have hr:0<=x.bR:=bI
   have mP:=asv hr
   cbv
   refine ⟨λh=>?_,λ_=>?_⟩
   ·have hF:False:=by
     have h':cV 0 x.aZ=true:=h.out
     simp only [cV,decide_eq_true_eq] at h';have:=mP.1;omega
    cases hF
   cbv
   refine ⟨λ_=>?_,λh=>?_⟩
   rotate_left
   ·have hF:False:=by
     have h':cV 0 x.bR=false:=h.out
     simp only [cV,decide_eq_false_iff_not] at h';omega
    cases hF
   cbv
   refine ⟨λh=>?_,λ_=>?_⟩
   ·have hF:False:=by
     have h':aU 3 (x.ins.length:Int)=true:=h.out
     simp only [aU,decide_eq_true_eq] at h';have:=mP.2.1;exact aT
    cases hF
   cbv
   refine ⟨λh=>?_,λ_=>?_⟩
   ·have hF:False:=by
     have h':(!aV x.table 0)=true:=h.out
     rw [mP.2.2] at h';cases h'
    cases hF
   cbv
   refine ⟨λh=>?_,λ_=>?_⟩
   ·have hF:False:=by
     have h':aU x.table 0=true:=h.out
     have:=hf.table.1;simp only [aU,decide_eq_true_eq] at h';omega
    cases hF
   cbv
   refine ⟨⟨(Px hk).1⟩,?_⟩
   cbv
   refine ⟨⟨(Px hk).2⟩,?_⟩
   cbv
   refine ⟨λh=>?_,λ_=>?_⟩
   ·have hF:False:=by
     have h':(!aV (x.table.fdiv (2^(min (IntKind.u64.wrap (1*2^(min (IntKind.u64.wrap (x.ins.length:Int)).toNat IntKind.u64.bits))).toNat IntKind.i64.bits))) 0)=true:=h.out
     rw [Ug hk hf.table.1 hf.table.2] at h'
     cases h'
    cases hF
   cbv
   exact kM 2 (YW ⟨ins,blocks,outs,ay⟩ b x) (by exact ao) (by exact ao) tail
  ·have hr:¬0<=x.bR:=bI
   cbv
   refine ⟨λh=>?_,λ_=>?_⟩
   ·have hF:False:=by
     have h':cV 0 x.bR=true:=h.out
     simp only [cV,decide_eq_true_eq] at h';omega
    cases hF
   cbv
   refine ⟨λh=>?_,λ_=>?_⟩
   ·have hF:False:=by
     have h':aU x.table 0=true:=h.out
     have:=hf.table.1;simp only [aU,decide_eq_true_eq] at h';omega
    cases hF
   cbv
   refine ⟨⟨(Px hk).1⟩,?_⟩
   cbv
   refine ⟨⟨(Px hk).2⟩,?_⟩
   cbv
   refine ⟨λh=>?_,λ_=>?_⟩
   ·have hF:False:=by
     have h':(!aV (x.table.fdiv (2^(min (IntKind.u64.wrap (1*2^(min (IntKind.u64.wrap (x.ins.length:Int)).toNat IntKind.u64.bits))).toNat IntKind.i64.bits))) 0)=true:=h.out
     rw [Ug hk hf.table.1 hf.table.2] at h'
     cases h'
    cases hF
   cbv
   exact kM 2 (YW ⟨ins,blocks,outs,ay⟩ b x) (by exact ao) (by exact ao) tail
 ·refine Sat.cf (VY 0 0) 2 7 [] (λi:Nat=>[(7,.i .i64 (λ_=>(i:Int)))]) (λi=>[]) (λi=>i<=x.ins.length) (λi=>x.ins.length - i) 0 (by exact ao) (by exact ao) (cN _) ?_
  rintro i hi
  have h0:=n0 i
  have h1:=cq (i:=i) (by omega)
  cbv
  refine ⟨λh=>?_,λh=>?_⟩
  ·have bt:i < x.ins.length:=bI
   have bh:i+1<=x.ins.length/\x.ins.length - (i+1) < x.ins.length - i:=by omega
   refine (bD bt).elim λs hs=>?_
   have qs:oA ⟨ins,blocks,outs,ay⟩ s=true:=SK.2 (ur s (cb hs))
   cbv
   refine ⟨s,⟨h0,hs⟩,?_⟩
   cbv
   refine ⟨⟨⟨ins,blocks,outs,ay⟩,s⟩,⟨by exact bQ,nQ⟩,?_⟩
   cbv
   refine ⟨λh=>?_,λ_=>?_⟩
   ·have h':(!oA ⟨ins,blocks,outs,ay⟩ s)=true:=h.out
    rw [qs] at h'
    cases h'
   ·cbv
    exact ⟨i+1,by exact ao,by exact ao,⟨bh⟩⟩
  ·cbv
   refine Sat.cf (VY 0 0) 2 7 [] (λi:Nat=>[(8,.i .i64 (λ_=>(i:Int)))]) (λi=>[]) (λi=>(i:Int)<=b) (λi=>b.toNat - i) 0 (by exact ao) (by exact ao) (by show (0:Int)<=b;omega) ?_
   rintro i hi
   have hi:(i:Int)<=b:=hi
   have aBD:b < (blocks.length:Int):=dP
   have h0:=n0 i
   have h1:=cq (i:=i) (by omega)
   cbv
   refine ⟨λh=>?_,λh=>?_⟩
   ·have hib:(i:Int) < b:=bI
    have aBE:b < (blocks.length:Int):=dP
    have bh:((i+1:Nat):Int)<=b/\b.toNat - (i+1) < b.toNat - i:=by omega
    refine (bD (l:=blocks) (i:=i) (by omega)).elim λy hy=>?_
    have yx:=au0 i hib y hy
    cbv
    refine ⟨λh=>?_,λh=>?_⟩
    ·have Mj:0<=x.aZ:=bI
     cbv
     refine ⟨y,⟨h0,hy⟩,?_⟩
     cbv
     refine ⟨λh=>?_,λ_=>?_⟩
     ·have hF:False:=by
       have h':aV y.aZ x.aZ=true:=h.out
       exact yx Mj (by simpa [aV] using h')
      cases hF
     ·cbv
      exact ⟨i+1,by exact ao,by exact ao,⟨bh⟩⟩
    ·cbv
     exact ⟨i+1,by exact ao,by exact ao,⟨bh⟩⟩
   ·cbv
    exact ⟨by exact aK⟩
noncomputable def VZ (p:bC) (done:List Bool) (s:Int):Bool:=cV 0 (n9 p s)&&(!rM p s&&!(done.getD (n9 p s).toNat false))
noncomputable def AI (p:bC) (x:Block) (done:List Bool):Bool:=!x.ins.any (VZ p done)
def kP (done:List Bool):Nat:=done.countP id
theorem ad4 {done:List Bool} {b:Nat} (h:done[b]?=some false):kP (done.set b true)=kP done+1:=by
 unfold kP
 induction done generalizing b with
 | nil=>simp at h
 | cons x l ih =>
  cases b with
  | zero=>simp at h;subst h;simp [DW]
  | succ b =>
   have:=ih (b:=b) (by simpa using h)
   simp only [GG,DW]
   omega
theorem UK (done:List Bool):kP done<=done.length:=List.countP_le_length
def vg (d0 d:List Bool):Prop:=d.length=d0.length/\∀i:Nat,d0[i]?=some true->d[i]?=some true
theorem vg.refl (d:List Bool):vg d d:=⟨rfl,λ_ h=>h⟩
theorem vg.set {d0 d:List Bool} (h:vg d0 d) (b:Nat):vg d0 (d.set b true):=by
 refine ⟨by simp [h.1],λi hi=>?_⟩
 have:=h.2 i hi
 rw [ja]
 split
 ·rename_i e;subst e;simp [(bW.1 this).1]
 ·exact this
theorem aqT {d0 d:List Bool} (h:vg d0 d) {b:Nat} (h0:d0[b]?=some false) (h1:d[b]?=some true):kP d0+1<=kP d:=by
 have key:∀(a c:List Bool),vg a c->kP a<=kP c:=by
  intro a
  induction a with
  | nil=>intro c hc;have:=hc.1;simp at this;subst this;exact cR _
  | cons x l ih =>
   intro c hc
   cases c with
   | nil=>have:=hc.1;simp at this
   | cons y m =>
    have h1:=ih m ⟨by have:=hc.1;simpa using this,λi hi=>by have:=hc.2 (i+1) (by simpa using hi);simpa using this⟩
    have h2:=hc.2 0
    unfold kP at *
    simp only [DW]
    cases x<;>cases y<;>simp_all<;>omega
 have hu:vg (d0.set b true) d:=⟨by simp [h.1],λi hi=>by
  by_cases e:i=b
  ·subst e;exact h1
  ·rw [fb (λh=>e h.symm)] at hi;exact h.2 i hi⟩
 have:=key _ _ hu
 rw [ad4 h0] at this
 exact this
theorem least {r:Nat->Nat} {done:List Bool} (h:kP done < done.length):∃b:Nat,done[b]?=some false/\∀c:Nat,done[c]?=some false->r b<=r c:=by
 have hex:∃b:Nat,done[b]?=some false:=by
  apply Classical.byContradiction
  intro hn
  have gF:∀x∈done,id x=true:=λx hx=>by
   obtain ⟨i,hi,e⟩:=Ao.1 hx
   cases oR:x with
   | true=>rfl
   | false=>exact absurd ⟨i,by rw [eo hi,e,oR]⟩ hn
  have:=List.countP_eq_length.2 gF
  unfold kP at h
  omega
 have hwf:∀n,(∃b:Nat,done[b]?=some false/\r b<=n)->∃b:Nat,done[b]?=some false/\∀c:Nat,done[c]?=some false->r b<=r c:=by
  intro n
  induction n with
  | zero =>
   rintro ⟨b,hb,h0⟩
   exact ⟨b,hb,λc _=>by omega⟩
  | succ n ih =>
   rintro ⟨b,hb,h0⟩
   by_cases hc:∃c:Nat,done[c]?=some false/\r c<=n
   ·exact ih hc
   ·refine ⟨b,hb,λc hcf=>?_⟩
    have:¬r c<=n:=λh=>hc ⟨c,hcf,h⟩
    omega
 obtain ⟨b,hb⟩:=hex
 exact hwf (r b) ⟨b,hb,cR _⟩
theorem amp {p:bC} {r:Nat->Nat} (hr:k9 p r) {d0 d:List Bool} (hl:d0.length=p.blocks.length) (hu:vg d0 d) {b:Nat} (au1:∀c:Nat,d0[c]?=some false->r b<=r c) {x:Block} (hx:p.blocks[b]?=some x) (hs:∀s∈x.ins,0<=s/\s < p.sigs):AI p x d=true:=by
 unfold AI
 rw [pU,Tf]
 intro s nQ
 have h1:=hs s nQ
 unfold bC.sigs at h1
 unfold VZ
 intro hw
 simp only [eh,pU,cV,decide_eq_true_eq] at hw
 obtain ⟨ef,hf,hd⟩:=hw
 unfold n9 at ef hd
 split at ef
 ·omega
 ·rename_i b9
  rw [if_neg b9,ox] at hd
  have mR:¬gk p.ins.length s:=by
   unfold rM at hf
   simp only [decide_eq_false_iff_not] at hf
   exact λh=>hf ⟨by omega,h⟩
  have aR:=hr b x hx s nQ (by omega) mR
  have dP:cS p.ins.length s < d0.length:=by rw [hl];unfold cS;omega
  have MD:d0[cS p.ins.length s]?=some d0[cS p.ins.length s]:=eo dP
  cases hv:d0[cS p.ins.length s] with
  | true =>
   have:=hu.2 _ (by rw [MD,hv])
   rw [iE,this] at hd
   cases hd
  | false =>
   have:=au1 _ (by rw [MD,hv])
   omega
structure V0 where
 p:bC
 b:Int
 done:List Bool
structure V2 (x:V0):Prop where
 g:Ig x.p x.b
 dl:x.done.length=x.p.blocks.length
noncomputable def Cl (x:V0):Bool:=match x.p.blocks[x.b.toNat]? with
 | some z=>AI x.p z x.done
 | none=>true
@[reducible] noncomputable def aeY:Vc.Spec where
 α:=V0
 args x:=[.agg (fH x.p),.i .i64 (λ_=>x.b),.sl 1 jb (λ_=>x.done)]
 pre x:=V2 x
 res x:=.b (λ_=>Cl x)
noncomputable def cRy (n m:Nat):Ctx:=eu n m [] [(174,OY),(173,Vj)]
theorem agh (n m:Nat):CB PP (cRy n m):=ez n m trivial ⟨TN,acU,trivial⟩
theorem aoq:cZ (PP ()) 175 aeY:=by
 refine dT (agh 0 0) (fo Tryz.func175) (λa=>⟨kD a.p,trivial,(λx=>(tP x).1),trivial⟩) (λa=>trivial) ?_
 rintro ⟨⟨ins,blocks,outs,ay⟩,b,done⟩ hx
 have hx:V2 ⟨⟨ins,blocks,outs,ay⟩,b,done⟩:=hx
 have hg:=hx.g
 have eg:=hg.sh
 have iO:ins.length<=1000000:=hg.ins
 have ef:0<=b:=hg.lo
 have dP:b < blocks.length:=hg.hi
 have fV:done.length=blocks.length:=hx.dl
 have oP:blocks.length<=600:=eg.dK
 obtain ⟨x,oY⟩:=bD (l:=blocks) (i:=b.toNat) (by omega)
 have iI:=cb oY
 have hk:x.ins.length<=4:=(eg.formed x iI).k
 have ur:∀s∈x.ins,k8 ⟨ins,blocks,outs,ay⟩ s:=eg.used x iI
 have RN:Cl ⟨⟨ins,blocks,outs,ay⟩,b,done⟩=AI ⟨ins,blocks,outs,ay⟩ x done:=by unfold Cl;simp only;rw [oY]
 obtain ⟨f,hf⟩:∃f,f=VZ ⟨ins,blocks,outs,ay⟩ done:=⟨_,rfl⟩
 have hrf:Cl ⟨⟨ins,blocks,outs,ay⟩,b,done⟩=!x.ins.any f:=by rw [RN,hf];rfl
 clear hx hg
 refine ⟨?_⟩
 cbv
 refine Sat.cf (agh 0 0) 1 7 [] (λi:Nat=>[(7,.i .i64 (λ_=>(i:Int)))]) (λi=>[]) (λi=>i<=x.ins.length/\(x.ins.take i).any f=false) (λi=>x.ins.length - i) 0 (by exact ao) (by exact ao) ⟨cN _,by simp⟩ ?_
 rintro i ⟨hi,ht⟩
 have h0:=n0 i
 have h1:=cq (i:=i) (by omega)
 cbv
 refine ⟨x,⟨ef,oY⟩,?_⟩
 cbv
 refine ⟨λh=>?_,λh=>?_⟩
 ·have bt:i < x.ins.length:=bI
  have bh:x.ins.length - (i+1) < x.ins.length - i:=by omega
  refine (bD bt).elim λs hs=>?_
  have hu:=ur s (cb hs)
  have au2:=hu.lo
  have aBF:s < (ins.length:Int)+2*(blocks.length:Int):=hu.hi
  have IV:Ie ⟨ins,blocks,outs,ay⟩ s:=⟨iO,au2,by omega⟩
  have zP:f s=(cV 0 (n9 ⟨ins,blocks,outs,ay⟩ s)&&(!rM ⟨ins,blocks,outs,ay⟩ s&&!(done.getD (n9 ⟨ins,blocks,outs,ay⟩ s).toNat false))):=by rw [hf];rfl
  have V4:f s=false->i+1<=x.ins.length/\(x.ins.take (i+1)).any f=false:=λh=>⟨bt,by rw [OF hs,ht,h];rfl⟩
  have CA:0<=n9 ⟨ins,blocks,outs,ay⟩ s->(n9 ⟨ins,blocks,outs,ay⟩ s).toNat < done.length:=λh=>by
   unfold n9 at h ⊢
   split at h
   ·omega
   ·rename_i b9;rw [if_neg b9,fV];simp only at b9 ⊢;unfold cS;omega
  obtain ⟨B,hB⟩:∃B,n9 ⟨ins,blocks,outs,ay⟩ s=B:=⟨_,rfl⟩
  obtain ⟨Fl,YX⟩:∃Fl,rM ⟨ins,blocks,outs,ay⟩ s=Fl:=⟨_,rfl⟩
  rw [hB,YX] at zP
  rw [hB] at CA
  cbv
  refine ⟨x,⟨ef,oY⟩,?_⟩
  cbv
  refine ⟨s,⟨h0,hs⟩,?_⟩
  cbv
  refine ⟨⟨⟨ins,blocks,outs,ay⟩,s⟩,⟨by exact bQ,IV⟩,?_⟩
  cbv
  refine ⟨λh=>?_,λh=>?_⟩
  ·have uB:cV 0 B=true:=by have h':cV 0 (n9 ⟨ins,blocks,outs,ay⟩ s)=true:=h.out;rw [hB] at h';exact h'
   have IX:0<=B:=by simpa [cV] using uB
   cbv
   refine ⟨⟨⟨ins,blocks,outs,ay⟩,s⟩,⟨by exact bQ,IV⟩,?_⟩
   cbv
   refine ⟨λh=>?_,λh=>?_⟩
   ·have vv:Fl=false:=by have h':(!rM ⟨ins,blocks,outs,ay⟩ s)=true:=h.out;rw [YX] at h';simpa using h'
    refine (bD (CA IX)).elim λv hv=>?_
    have gu:0<=n9 ⟨ins,blocks,outs,ay⟩ s/\done[(n9 ⟨ins,blocks,outs,ay⟩ s).toNat]?=some v:=by rw [hB];exact ⟨IX,hv⟩
    have YU:f s=!v:=by rw [zP,uB,vv,iE,hv];rfl
    cbv
    refine ⟨⟨⟨ins,blocks,outs,ay⟩,s⟩,⟨by exact bQ,IV⟩,?_⟩
    cbv
    refine ⟨v,⟨gu⟩,?_⟩
    cbv
    refine ⟨λh=>?_,λh=>?_⟩
    ·have x9:f s=true:=by rw [YU];exact h.out
     have e:false=Cl ⟨⟨ins,blocks,outs,ay⟩,b,done⟩:=by rw [hrf,Pu hs x9];rfl
     cbv
     exact ⟨by exact aK⟩
    ·have x9:f s=false:=by rw [YU];exact h.out
     have bB:=V4 x9
     cbv
     exact ⟨i+1,by exact ao,by exact ao,⟨⟨bB,bh⟩⟩⟩
   ·have vv:Fl=true:=by have h':(!rM ⟨ins,blocks,outs,ay⟩ s)=false:=h.out;rw [YX] at h';simpa using h'
    have bB:=V4 (by rw [zP,vv];simp)
    cbv
    exact ⟨i+1,by exact ao,by exact ao,⟨⟨bB,bh⟩⟩⟩
  ·have uB:cV 0 B=false:=by have h':cV 0 (n9 ⟨ins,blocks,outs,ay⟩ s)=false:=h.out;rw [hB] at h';exact h'
   have bB:=V4 (by rw [zP,uB];rfl)
   cbv
   exact ⟨i+1,by exact ao,by exact ao,⟨⟨bB,bh⟩⟩⟩
 ·have b9:i=x.ins.length:=by
   have h':aU i x.ins.length=false:=h.out
   have h2:¬(i:Int) < x.ins.length:=by simpa [aU] using h'
   omega
  have e:true=Cl ⟨⟨ins,blocks,outs,ay⟩,b,done⟩:=by rw [hrf];rw [b9,lK] at ht;rw [ht];rfl
  cbv
  exact ⟨by exact aK⟩
structure QU where
 i:Nat
 out:List Int
 done:List Bool
structure zQ (p:bC) (x:QU):Prop where
 le:x.i<=p.blocks.length
 dl:x.done.length=p.blocks.length
 ol:x.out.length=kP x.done
 lo:x.i<=kP x.done
 lt:kP x.done < p.blocks.length\/p.blocks.length=0
structure YY (p:bC) (d0:List Bool) (b0:Nat) (x:QU):Prop where
 le:x.i<=p.blocks.length
 up:vg d0 x.done
 ol:x.out.length=kP x.done
 b:b0 < x.i->x.done[b0]?=some true
structure aib (p:bC):Prop where
 sh:Shape p
 rk:∃r,k9 p r
 ins:p.ins.length<=1000000
noncomputable def KW (p:bC) (s:List Int × List Bool) (b:Nat):List Int × List Bool:=match p.blocks[b]? with
 | some x=>match s.2[b]? with
  | some false=>if AI p x s.2=true then (s.1++[(b:Int)],s.2.set b true) else s
  | _=>s
 | none=>s
noncomputable def tW (p:bC) (b:Nat) (s:List Int × List Bool):List Int × List Bool:=(List.range b).foldl (KW p) s
theorem aaB (p:bC) (b:Nat) (s:List Int × List Bool):tW p (b+1) s=KW p (tW p b s) b:=by
 unfold tW;rw [Tl,N5];rfl
noncomputable def yZ (p:bC):Nat->List Int × List Bool->List Int
 | 0,s=>s.1
 | k+1,s=>if (tW p p.blocks.length s).1.length=p.blocks.length then (tW p p.blocks.length s).1 else yZ p k (tW p p.blocks.length s)
noncomputable def Hq (p:bC):List Int:=yZ p p.blocks.length ([],List.replicate p.blocks.length false)
theorem YZ {p:bC} {rk:Nat->Nat} (jK:k9 p rk) (hs:∀x∈p.blocks,∀s∈x.ins,0<=s/\s < p.sigs) {i:Nat} {out:List Int} {done:List Bool} (hJ:zQ p ⟨i,out,done⟩) {b0:Nat} (ef:done[b0]?=some false/\∀c:Nat,done[c]?=some false->rk b0<=rk c):∀b,b<=p.blocks.length->YY p done b0 ⟨b,(tW p b (out,done)).1,(tW p b (out,done)).2⟩
 | 0,_=>⟨cN _,.refl _,hJ.ol,λh=>by simp only at h;omega⟩
 | b+1,dP=>by
  have hK:=YZ jK hs hJ ef b (by omega)
  rw [aaB]
  obtain ⟨⟨dF,d⟩,Y1⟩:∃s,tW p b (out,done)=s:=⟨_,rfl⟩
  rw [Y1] at hK ⊢
  have qY:vg done d:=hK.up
  have LJ:dF.length=kP d:=hK.ol
  have hbd:b0 < b->d[b0]?=some true:=hK.b
  have fV:done.length=p.blocks.length:=hJ.dl
  have hx:p.blocks[b]?=some p.blocks[b]:=eo dP
  have Ht:(b=b0->d[b0]?=some true)->YY p done b0 ⟨b+1,dF,d⟩:=λh=>⟨dP,qY,LJ,λaR=>by
   simp only at aR
   by_cases e:b=b0
   ·exact h e
   ·exact hbd (by omega)⟩
  unfold KW
  rw [hx]
  simp only
  split
  ·rename_i hv
   split
   ·refine ⟨dP,qY.set b,by simp only;rw [ad4 hv];simp [LJ],λaR=>?_⟩
    simp only at aR ⊢
    by_cases e:b=b0
    ·subst e;rw [ja];simp;have:=qY.1;omega
    ·rw [fb e];exact hbd (by omega)
   ·rename_i Y2
    exact Ht λe=>by
     subst e
     exact absurd (amp jK fV qY ef.2 hx (hs _ (GJ dP))) Y2
  ·rename_i hv
   refine Ht λe=>?_
   subst e
   have aR:b < d.length:=by have:=qY.1;omega
   have MD:d[b]?=some d[b]:=eo aR
   cases wY:d[b] with
   | true=>rw [MD,wY]
   | false=>exact absurd (by rw [MD,wY]) (hv ·)
theorem acV {p:bC} {rk:Nat->Nat} (jK:k9 p rk) (hs:∀x∈p.blocks,∀s∈x.ins,0<=s/\s < p.sigs) {i:Nat} {out:List Int} {done:List Bool} (hJ:zQ p ⟨i,out,done⟩) (hi:i < p.blocks.length) :
  (tW p p.blocks.length (out,done)).1.length=p.blocks.length\/zQ p ⟨i+1,(tW p p.blocks.length (out,done)).1,(tW p p.blocks.length (out,done)).2⟩:=by
 have fe:i<=kP done:=hJ.lo
 have fV:done.length=p.blocks.length:=hJ.dl
 have aR:kP done < p.blocks.length\/p.blocks.length=0:=hJ.lt
 obtain ⟨b0,ef⟩:=least (r:=rk) (done:=done) (by omega)
 have hK:=YZ jK hs hJ ef _ (cR _)
 obtain ⟨⟨dF,d⟩,Y1⟩:∃s,tW p p.blocks.length (out,done)=s:=⟨_,rfl⟩
 rw [Y1] at hK ⊢
 have qY:vg done d:=hK.up
 have LJ:dF.length=kP d:=hK.ol
 have au3:b0 < p.blocks.length:=by have:=(bW.1 ef.1).1;omega
 have qc:=aqT qY ef.1 (hK.b au3)
 have Rh:=UK d
 have Lv:d.length=p.blocks.length:=by rw [qY.1];exact fV
 by_cases e:dF.length=p.blocks.length
 ·exact .inl e
 ·exact .inr ⟨hi,Lv,LJ,by show i+1<=kP d;omega,.inl (by show kP d < p.blocks.length;omega)⟩
theorem abK (p:bC):zQ p ⟨0,[],List.replicate p.blocks.length false⟩:=by
 have mI:kP (List.replicate p.blocks.length false)=0:=by
  unfold kP
  rw [List.countP_eq_zero]
  intro a ha
  rw [(Eb.1 ha).2]
  decide
 exact ⟨cN _,sP,by rw [mI];rfl,cN _,by rw [mI];omega⟩
theorem aaS {p:bC} {rk:Nat->Nat} (jK:k9 p rk) (hs:∀x∈p.blocks,∀s∈x.ins,0<=s/\s < p.sigs):∀(k i:Nat) (s:List Int × List Bool),i+k=p.blocks.length->zQ p ⟨i,s.1,s.2⟩->(yZ p k s).length=p.blocks.length
 | 0,i,s,hi,hJ=>by
  have h1:s.1.length=kP s.2:=hJ.ol
  have h2:i<=kP s.2:=hJ.lo
  have h3:s.2.length=p.blocks.length:=hJ.dl
  have:=UK s.2
  show s.1.length=_
  omega
 | k+1,i,s,hi,hJ=>by
  unfold yZ
  split
  ·assumption
  ·rename_i cO
   rcases acV jK hs hJ (by omega) with h|h
   ·exact absurd h cO
   ·exact aaS jK hs k (i+1) _ (by omega) h
theorem amO {p:bC} (eg:Shape p) (hr:∃r,k9 p r):(Hq p).length=p.blocks.length:=by
 obtain ⟨r,hr⟩:=hr
 exact aaS hr (λx hx s hs=>⟨(eg.used x hx s hs).lo,(eg.used x hx s hs).hi⟩) _ 0 _ (by omega) (abK p)
@[reducible] noncomputable def aeZ:Vc.Spec where
 α:=bC
 args x:=[.agg (fH x)]
 pre x:=aib x
 res x:=.sl 1 bM (λ_=>Hq x)
noncomputable def cOd (n m:Nat):Ctx:=eu n m [] [(175,aeY)]
theorem V5 (n m:Nat):CB PP (cOd n m):=ez n m trivial ⟨aoq,trivial⟩
theorem aor:cZ (PP ()) 78 aeZ:=by
 refine dT (V5 0 0) (fo Tryz.func78) (λa=>⟨kD a,trivial⟩) (λa=>(λx=>(cQ x).1)) ?_
 rintro ⟨ins,blocks,outs,ay⟩ hx
 have hx:aib ⟨ins,blocks,outs,ay⟩:=hx
 have eg:=hx.sh
 have iO:ins.length<=1000000:=hx.ins
 obtain ⟨rk,jK⟩:=hx.rk
 have oP:blocks.length<=600:=eg.dK
 have ur:∀x∈blocks,∀s∈x.ins,0<=s/\s < bC.sigs ⟨ins,blocks,outs,ay⟩:=λx hx s hs=>⟨(eg.used x hx s hs).lo,(eg.used x hx s hs).hi⟩
 have e9:0<=(blocks.length:Int)/\1*(blocks.length:Int)<=281474976710656/\(blocks.length:Int)<=9223372036854775807:=by omega
 obtain ⟨d0,pA⟩:∃l,List.replicate ((blocks.length:Int)).toNat false=l:=⟨_,rfl⟩
 have aic:List.replicate blocks.length false=d0:=by rw [<-pA,ox]
 have tG:zQ ⟨ins,blocks,outs,ay⟩ ⟨0,[],d0⟩:=by rw [<-aic];exact abK ⟨ins,blocks,outs,ay⟩
 obtain ⟨R,hR⟩:∃R,Hq ⟨ins,blocks,outs,ay⟩=R:=⟨_,rfl⟩
 have vv:yZ ⟨ins,blocks,outs,ay⟩ (blocks.length - 0) ([],d0)=R:=by rw [<-aic];exact hR
 clear hx
 refine ⟨?_⟩
 cbv
 refine ⟨⟨e9.1,j5 _,e9.2.1,e9.2.2⟩,?_⟩
 cbv
 refine Sat.cf (V5 0 0) 3 3 [(.t 3,1),(.t 4,2)] (λx:QU=>[(3,.own 1),(4,.own 2),(5,.i .i64 (λ_=>(x.i:Int)))]) (λx=>[(1,.dyn 3 1 bM (λ_=>x.out)),(2,.dyn 4 1 jb (λ_=>x.done))])
  (λx=>zQ ⟨ins,blocks,outs,ay⟩ x/\yZ ⟨ins,blocks,outs,ay⟩ (blocks.length - x.i) (x.out,x.done)=R) (λx=>blocks.length - x.i) ⟨0,[],d0⟩ (by exact ao) (by have et:=pA;exact bJ) ⟨tG,vv⟩ ?_
 rintro ⟨i,out,done⟩ ⟨hJ,hF⟩
 have hJ:zQ ⟨ins,blocks,outs,ay⟩ ⟨i,out,done⟩:=hJ
 have hF:yZ ⟨ins,blocks,outs,ay⟩ (blocks.length - i) (out,done)=R:=hF
 have hi:i<=blocks.length:=hJ.le
 have fV:done.length=blocks.length:=hJ.dl
 have gv:out.length=kP done:=hJ.ol
 have fe:i<=kP done:=hJ.lo
 have aR:kP done < blocks.length\/blocks.length=0:=hJ.lt
 have h0:=n0 i
 have h1:=cq (i:=i) (by omega)
 cbv
 refine ⟨λh=>?_,λh=>?_⟩
 ·have bt:i < blocks.length:=bI
  have bh:blocks.length - (i+1) < blocks.length - i:=by omega
  refine (least (r:=rk) (done:=done) (by omega)).elim λb0 ef=>?_
  have Y3:=YZ jK ur hJ ef
  have tA:=acV jK ur hJ bt
  refine (⟨blocks.length - (i+1),by omega⟩:∃k,blocks.length - i=k+1).elim λk hk=>?_
  have lP:blocks.length - (i+1)=k:=by omega
  rw [hk] at hF
  unfold yZ at hF
  obtain ⟨Q,hQ⟩:∃Q:Nat->List Int × List Bool,Q=λb=>tW ⟨ins,blocks,outs,ay⟩ b (out,done):=⟨_,rfl⟩
  have RO:Q 0=(out,done):=by rw [hQ];rfl
  have hQs:∀b,Q (b+1)=KW ⟨ins,blocks,outs,ay⟩ (Q b) b:=λb=>by rw [hQ];exact aaB _ _ _
  have Y3:∀b,b<=blocks.length->YY ⟨ins,blocks,outs,ay⟩ done b0 ⟨b,(Q b).1,(Q b).2⟩:=λb hb=>by rw [hQ];exact Y3 b hb
  have tA:(Q blocks.length).1.length=blocks.length\/zQ ⟨ins,blocks,outs,ay⟩ ⟨i+1,(Q blocks.length).1,(Q blocks.length).2⟩:=by rw [hQ];exact tA
  have hF:(if (Q blocks.length).1.length=blocks.length then (Q blocks.length).1 else yZ ⟨ins,blocks,outs,ay⟩ k (Q blocks.length))=R:=by rw [hQ];exact hF
  clear hQ
  cbv
  refine Sat.cf (V5 0 0) 3 3 [(.t 3,1),(.t 4,2)] (λx:QU=>[(3,.own 1),(4,.own 2),(5,.i .i64 (λ_=>(i:Int))),(6,.i .i64 (λ_=>(x.i:Int)))]) (λx=>[(1,.dyn 3 1 bM (λ_=>x.out)),(2,.dyn 4 1 jb (λ_=>x.done))])
   (λx=>x.i<=blocks.length/\Q x.i=(x.out,x.done)) (λx=>blocks.length - x.i) ⟨0,out,done⟩ (by exact ao) (by exact ao) ⟨cN _,RO⟩ ?_
  rintro ⟨b,dF,d⟩ ⟨hb,hq⟩
  have hb:b<=blocks.length:=hb
  have hq:Q b=(dF,d):=hq
  have hK:=Y3 b hb
  rw [hq] at hK
  have qY:vg done d:=hK.up
  have LJ:dF.length=kP d:=hK.ol
  have Lv:d.length=blocks.length:=by rw [qY.1];exact fV
  have gA:=n0 b
  have eT:=cq (i:=b) (by omega)
  have Rh:=UK d
  have Y4:=hQs b
  rw [hq] at Y4
  cbv
  refine ⟨λh=>?_,λh=>?_⟩
  ·have dP:b < blocks.length:=bI
   have ll:blocks.length - (b+1) < blocks.length - b:=by omega
   have jk:0<=(b:Int)/\(b:Int).toNat < d.length:=⟨gA,by omega⟩
   refine (bD jk.2).elim λv hv=>?_
   have x9:d[b]?=some v:=hv
   refine (bD dP).elim λx hx=>?_
   have fh:V2 ⟨⟨ins,blocks,outs,ay⟩,b,d⟩:=⟨⟨eg,iO,gA,by show (b:Int) < blocks.length;omega⟩,Lv⟩
   have RN:Cl ⟨⟨ins,blocks,outs,ay⟩,b,d⟩=AI ⟨ins,blocks,outs,ay⟩ x d:=by
    unfold Cl
    simp only [ox]
    rw [hx]
   have zR:Q (b+1)=if v=true then (dF,d) else if AI ⟨ins,blocks,outs,ay⟩ x d=true then (dF++[(b:Int)],d.set b true) else (dF,d):=by
    rw [Y4]
    unfold KW
    simp only
    rw [hx]
    simp only
    rw [x9]
    cases v<;>rfl
   clear Y4 hQs
   cbv
   refine ⟨⟨jk⟩,v,⟨hv,rfl⟩,?_⟩
   cbv
   refine ⟨λh=>?_,λh=>?_⟩
   ·have Y5:v=false:=by have h':(!v)=true:=h.out;simpa using h'
    subst Y5
    cbv
    refine ⟨⟨⟨ins,blocks,outs,ay⟩,b,d⟩,⟨.inl ⟨by exact bQ,rfl⟩,fh⟩,?_⟩
    cbv
    refine ⟨λh=>?_,λh=>?_⟩
    ·have hr:AI ⟨ins,blocks,outs,ay⟩ x d=true:=by rw [<-RN];exact h.out
     refine (⟨_,rfl⟩:∃d2,d.set (b:Int).toNat true=d2).elim λd2 IY=>?_
     have zg:d.set b true=d2:=IY
     have bB:b+1<=blocks.length/\Q (b+1)=(dF++[(b:Int)],d2):=⟨dP,by rw [zR,if_neg (by decide),if_pos hr,zg]⟩
     cbv
     refine ⟨⟨jk⟩,?_⟩
     cbv
     refine ⟨(false,true),⟨hv,rfl,by exact aK⟩,?_⟩
     cbv
     refine ⟨[(b:Int)],⟨by exact bQ,by show (dF.length+1)*8<=_;omega,by show dF.length+1<=_;omega⟩,?_⟩
     cbv
     exact ⟨⟨b+1,dF++[(b:Int)],d2⟩,by exact ao,by have et:=IY;exact bJ,⟨⟨bB,ll⟩⟩⟩
    ·have Y2:AI ⟨ins,blocks,outs,ay⟩ x d=false:=by rw [<-RN];exact h.out
     have bB:b+1<=blocks.length/\Q (b+1)=(dF,d):=⟨dP,by rw [zR,if_neg (by decide),Y2];rfl⟩
     cbv
     exact ⟨⟨b+1,dF,d⟩,by exact ao,by exact ao,⟨⟨bB,ll⟩⟩⟩
   ·have hvt:v=true:=by have h':(!v)=false:=h.out;simpa using h'
    subst hvt
    have bB:b+1<=blocks.length/\Q (b+1)=(dF,d):=⟨dP,by rw [zR,if_pos rfl]⟩
    cbv
    exact ⟨⟨b+1,dF,d⟩,by exact ao,by exact ao,⟨⟨bB,ll⟩⟩⟩
  ·have b9:b=blocks.length:=by
    have h':aU b blocks.length=false:=h.out
    have h2:¬(b:Int) < blocks.length:=by simpa [aU] using h'
    omega
   rw [b9] at hq
   rw [hq] at hF tA
   cbv
   refine ⟨λh=>?_,λh=>?_⟩
   ·have hlen:dF.length=blocks.length:=by have h':aV (dF.length:Int) (blocks.length:Int)=true:=h.out;simp only [aV,beq_iff_eq] at h';exact aT
    have e:dF=Hq ⟨ins,blocks,outs,ay⟩:=by
     rw [hR,<-hF]
     exact (if_pos hlen).symm
    cbv
    exact ⟨by exact aK⟩
   ·have hlen:¬dF.length=blocks.length:=by have h':aV (dF.length:Int) (blocks.length:Int)=false:=h.out;simp only [aV,beq_eq_false_iff_ne,ne_eq] at h';intro e;exact h' (by rw [e])
    have bB:zQ ⟨ins,blocks,outs,ay⟩ ⟨i+1,dF,d⟩/\yZ ⟨ins,blocks,outs,ay⟩ (blocks.length - (i+1)) (dF,d)=R:=⟨tA.resolve_left hlen,by rw [lP,<-hF];exact (if_neg hlen).symm⟩
    cbv
    exact ⟨⟨i+1,dF,d⟩,by exact ao,by exact ao,⟨⟨bB,bh⟩⟩⟩
 ·have b9:i=blocks.length:=by
   have h':aU i blocks.length=false:=h.out
   have h2:¬(i:Int) < blocks.length:=by simpa [aU] using h'
   omega
  have e:out=Hq ⟨ins,blocks,outs,ay⟩:=by rw [hR,<-hF,b9,Ts];rfl
  cbv
  exact ⟨by exact aK⟩
structure uk (p:bC):Prop where
 small:yS p
 outs:p.outs.length<=1000000
 ay:p.ay.length<=1000000
 k:∀x∈p.blocks,x.ins.length<=1000000
def Cy (p:bC):Prop:=Shape p/\∃r,k9 p r
structure ae0 (p:bC) (y:Bool):Prop where
 iff:y=true↔Cy p
@[reducible] noncomputable def aqU:fK where
 α:=bC
 args x:=[.agg (fH x)]
 pre x:=uk x
 β:=Bool
 post x y:=ae0 x y
 res x y:=.b (λ_=>y)
structure F6 (p:bC) (i:Nat) (m:Int->Option Unit):Prop where
 le:i<=p.blocks.length
 aZ:∀j,(m j).isSome=true↔∃k x,k < i/\p.blocks[k]?=some x/\x.aZ=j
 ok:∀(k:Nat) (x:Block),k < i->p.blocks[k]?=some x->yV x/\∀s∈x.ins,k8 p s
 L7:∀(k l:Nat) (x y:Block),k < i->l < i->p.blocks[k]?=some x->p.blocks[l]?=some y->0<=x.aZ->x.aZ=y.aZ->k=l
theorem F6.nil (p:bC):F6 p 0 λ_=>none:=⟨cN _,λj=>⟨λh=>by simp at h,λ⟨k,x,h,_⟩=>by omega⟩,λk x h=>by omega,λk l x y h=>by omega⟩
theorem F6.add {p:bC} {i:Nat} {m:Int->Option Unit} (h:F6 p i m) {x:Block} (hx:p.blocks[i]?=some x) (hf:yV x) (hu:∀s∈x.ins,k8 p s) (hd:0<=x.aZ->(m x.aZ).isSome=false) {m':Int->Option Unit} (hm:∀j,(m' j).isSome=true↔j=x.aZ\/(m j).isSome=true):F6 p (i+1) m':=by
 refine ⟨(bW.1 hx).1,λj=>?_,λk y hk hy=>?_,λk l y z hk hl hy hz h0 he=>?_⟩
 ·rw [hm j,h.aZ j]
  constructor
  ·rintro (e|⟨k,y,hk,hy,e⟩)
   ·exact ⟨i,x,by omega,hx,e.symm⟩
   ·exact ⟨k,y,by omega,hy,e⟩
  ·rintro ⟨k,y,hk,hy,e⟩
   by_cases FT:k=i
   ·subst FT;rw [hx] at hy;cases hy;exact .inl e.symm
   ·exact .inr ⟨k,y,by omega,hy,e⟩
 ·by_cases FT:k=i
  ·subst FT;rw [hx] at hy;cases hy;exact ⟨hf,hu⟩
  ·exact h.ok k y (by omega) hy
 ·have key:∀(k:Nat) (y:Block),k < i->p.blocks[k]?=some y->0<=x.aZ->y.aZ≠x.aZ:=λk y hk hy h0 e=>by
   have:=(h.aZ x.aZ).2 ⟨k,y,hk,hy,e⟩
   rw [hd h0] at this;cases this
  by_cases FT:k=i
  ·subst FT;rw [hx] at hy;cases hy
   by_cases Rp:l=k
   ·exact Rp.symm
   ·exact absurd he.symm (key l z (by omega) hz h0)
  ·by_cases Rp:l=i
   ·subst Rp;rw [hx] at hz;cases hz
    exact absurd he (key k y (by omega) hy (by omega))
   ·exact h.L7 k l y z (by omega) (by omega) hy hz h0 he
@[reducible] noncomputable def UL:Vc.Spec where
 α:=Bool × List bU
 args x:=match x.1 with
  | true=>(Pv 84 2 4).args x.2
  | false=>(Pv 86 5 10).args x.2
 pre x:=x.2.length<=1000000
 res x:=match x.1 with
  | true=>.b (λ_=>tg 2 4 x.2)
  | false=>.b (λ_=>tg 5 10 x.2)
theorem abL:cZ (PP ()) 83 UL where
 fn:=OV.fn
 fresh:=λh=>by cases h
 lf:=λa=>by
  obtain ⟨b,l⟩:=a
  cases b
  ·exact UH.lf l
  ·exact OV.lf l
 lr:=λa=>by
  obtain ⟨b,l⟩:=a
  cases b
  ·exact UH.lr l
  ·exact OV.lr l
 run:=λa ha=>by
  obtain ⟨b,l⟩:=a
  cases b
  ·exact UH.run l ha
  ·exact OV.run l ha
noncomputable def cVa (n m:Nat):Ctx:=eu n m [(88,Tryz.f88)] [(82,Vi),(87,UJ),(83,UL)] [88] [] [3]
theorem asw (n m:Nat):CB PP (cVa n m):=ez n m ⟨fo Tryz.func88,trivial⟩ ⟨acR,abJ,abL,trivial⟩
noncomputable def cVb (n m:Nat):Ctx:=eu n m [(88,Tryz.f88)] [(82,Vi),(87,UJ),(83,UL)] [88]
theorem agi (n m:Nat):CB PP (cVb n m):=ez n m ⟨fo Tryz.func88,trivial⟩ ⟨acR,abJ,abL,trivial⟩
theorem aos:eG PP 20 aqU:=by
 refine iL (asw 0 0) (fo Tryz.func20) (λa=>⟨kD a,trivial⟩) (λa y=>trivial) ?_
 rintro ⟨ins,blocks,outs,ay⟩ hx
 have hp:uk ⟨ins,blocks,outs,ay⟩:=hx
 have nQ:=hp.small
 have hb6:blocks.length<=1000000:=nQ.dK
 have iO:ins.length<=1000000:=nQ.ins
 have ME:outs.length<=1000000:=hp.outs
 have F4:ay.length<=1000000:=hp.ay
 have Dt:∀x∈blocks,x.ins.length<=1000000:=hp.k
 have F:¬Cy ⟨ins,blocks,outs,ay⟩->ae0 ⟨ins,blocks,outs,ay⟩ false:=λh=>⟨⟨λe=>(by cases e),λe=>absurd e h⟩⟩
 refine ⟨?_⟩
 cbv
 refine Sat.freeze 1 rfl rfl ?_
 refine Sat.wU (agi 0 0) ?_
 cbv
 refine ⟨λh=>?_,λh=>?_⟩
 ·have hb:¬blocks.length<=600:=by have h':aU 600 (blocks.length:Int)=true:=h.out;simp only [aU,decide_eq_true_eq] at h';exact aT
  have bX:=F λh=>hb h.1.dK
  cbv
  exact .mk' false ⟨by exact aK⟩ bX
 ·have hb:blocks.length<=600:=by have h':aU 600 (blocks.length:Int)=false:=h.out;simp only [aU,decide_eq_false_iff_not] at h';exact aT
  cbv
  refine ⟨λh=>?_,λh=>?_⟩
  ·have hd:¬ay.length=outs.length:=by have h':(!aV (ay.length:Int) (outs.length:Int))=true:=h.out;simp only [aV,pU,beq_eq_false_iff_ne,ne_eq] at h';exact aT
   have bX:=F λh=>hd h.1.p8
   cbv
   exact .mk' false ⟨by exact aK⟩ bX
  ·have hd:ay.length=outs.length:=by have h':(!aV (ay.length:Int) (outs.length:Int))=false:=h.out;simp only [aV,Ee,beq_iff_eq] at h';exact aT
   cbv
   refine ⟨⟨⟨ins,blocks,outs,ay⟩,ay⟩,⟨.inl ⟨by exact bQ,rfl⟩,nQ,F4⟩,?_⟩
   cbv
   refine ⟨λh=>?_,λh=>?_⟩
   ·have hu:Az ⟨ins,blocks,outs,ay⟩ ay=true:=h.out
    have bX:=F λh=>by have:=NM.2 h.1.ay;simp only at this;rw [hu] at this;cases this
    cbv
    exact .mk' false ⟨by exact aK⟩ bX
   ·have hu:Az ⟨ins,blocks,outs,ay⟩ ay=false:=h.out
    have nw:∀s∈ay,k8 ⟨ins,blocks,outs,ay⟩ s:=NM.1 hu
    cbv
    refine ⟨(true,ins),⟨.inl ⟨by exact bQ,rfl⟩,iO⟩,?_⟩
    cbv
    refine ⟨λh=>?_,λh=>?_⟩
    ·have hw:tg 2 4 ins=true:=h.out
     have bX:=F λh=>by have:=OH.2 h.1.ins;simp only at this;rw [hw] at this;cases this
     cbv
     exact .mk' false ⟨by exact aK⟩ bX
    ·have hw:tg 2 4 ins=false:=h.out
     have dM:∀w∈ins,mB w 2 4:=OH.1 hw
     cbv
     refine ⟨(false,outs),⟨.inl ⟨by exact bQ,rfl⟩,ME⟩,?_⟩
     cbv
     refine ⟨λh=>?_,λh=>?_⟩
     ·have hw:tg 5 10 outs=true:=h.out
      have bX:=F λh=>by have:=OH.2 h.1.outs;simp only at this;rw [hw] at this;cases this
      cbv
      exact .mk' false ⟨by exact aK⟩ bX
     ·have hw:tg 5 10 outs=false:=h.out
      have Bz:∀w∈outs,mB w 5 10:=OH.1 hw
      cbv
      refine Sat.cf (agi 0 0) 3 6 [] (λx:Nat × (Int->Option Unit)=>[(40,.sl 5 ph (λ_=>blocks)),(41,.i .i64 (λ_=>(blocks.length:Int))),(42,.i .i64 λ_=>(x.1:Int))]) (λx=>[(2,.map (.int .i64) (λ_:Unit=>[.bc true]) (λ_=>x.2))])
       (λx=>F6 ⟨ins,blocks,outs,ay⟩ x.1 x.2) (λx=>blocks.length - x.1) (0,λ_=>none) (by exact ao) (by exact ao) (.nil _) ?_
      rintro ⟨i,m⟩ hJ
      have hJ:F6 ⟨ins,blocks,outs,ay⟩ i m:=hJ
      have hi:i<=blocks.length:=hJ.le
      have h0:=n0 i
      have h1:=cq (i:=i) (by omega)
      cbv
      refine ⟨λh=>?_,λh=>?_⟩
      ·have bt:i < blocks.length:=bI
       have bh:blocks.length - (i+1) < blocks.length - i:=by omega
       refine (bD bt).elim λx hx=>?_
       have iI:=cb hx
       have mq:=Dt x iI
       cbv
       refine ⟨x,⟨h0,hx⟩,?_⟩
       cbv
       refine ⟨x,⟨by exact bQ,mq⟩,?_⟩
       cbv
       refine ⟨λh=>?_,λh=>?_⟩
       ·have hf:xF x=false:=by have h':(!xF x)=true:=h.out;simpa using h'
        have bX:=F λh=>by have:=aaz.2 (h.1.formed x iI);rw [hf] at this;cases this
        cbv
        exact .mk' false ⟨by exact aK⟩ bX
       ·have hf:yV x:=aaz.1 (by have h':(!xF x)=false:=h.out;simpa using h')
        cbv
        refine ⟨⟨⟨ins,blocks,outs,ay⟩,x.ins⟩,⟨.inl ⟨by exact bQ,rfl⟩,nQ,mq⟩,?_⟩
        cbv
        refine ⟨λh=>?_,λh=>?_⟩
        ·have hu:Az ⟨ins,blocks,outs,ay⟩ x.ins=true:=h.out
         have bX:=F λh=>by have:=NM.2 (h.1.used x iI);rw [hu] at this;cases this
         cbv
         exact .mk' false ⟨by exact aK⟩ bX
        ·have hu:∀s∈x.ins,k8 ⟨ins,blocks,outs,ay⟩ s:=NM.1 h.out
         have QV:∀m':Int->Option Unit,m'=(λj=>if j=x.aZ then some () else m j)->∀j,(m' j).isSome=true↔j=x.aZ\/(m j).isSome=true:=λm' iC j=>by
          rw [iC]
          by_cases e:j=x.aZ
          ·simp [e]
          ·simp [e]
         refine (⟨_,rfl⟩:∃m',m'=(λj=>if j=x.aZ then some () else m j)).elim λm' iC=>?_
         have QV:=QV m' iC
         cbv
         refine ⟨λh=>?_,λh=>?_⟩
         ·have Mj:0<=x.aZ:=bI
          cbv
          refine ⟨none,⟨rfl,λ_=>rfl⟩,?_⟩
          cbv
          refine ⟨λh=>?_,λh=>?_⟩
          ·have hs:(m x.aZ).isSome=true:=h.out
           have bX:=F λh=>by
            obtain ⟨k,y,hk,hy,e⟩:=(hJ.aZ x.aZ).1 hs
            have:=h.1.aM k i y x hy hx (by omega) e
            omega
           cbv
           exact .mk' false ⟨by exact aK⟩ bX
          ·have hs:(m x.aZ).isSome=false:=h.out
           have bB:=hJ.add hx hf hu (λ_=>hs) QV
           cbv
           refine ⟨(),⟨by exact aK⟩,?_⟩
           cbv
           exact ⟨(i+1,m'),by exact ao,by have ij:=iC.symm;exact bJ,⟨⟨bB,bh⟩⟩⟩
         ·have Mj:¬0<=x.aZ:=bI
          have bB:=hJ.add hx hf hu (λh=>absurd h Mj) QV
          cbv
          refine ⟨(),⟨by exact aK⟩,?_⟩
          cbv
          exact ⟨(i+1,m'),by exact ao,by have ij:=iC.symm;exact bJ,⟨⟨bB,bh⟩⟩⟩
      ·have b9:i=blocks.length:=by
        have h':aU i blocks.length=false:=h.out
        have h2:¬(i:Int) < blocks.length:=by simpa [aU] using h'
        omega
       have cg:∀x∈blocks,yV x/\∀s∈x.ins,k8 ⟨ins,blocks,outs,ay⟩ s:=λx hx=>by
        obtain ⟨k,hk,e⟩:=Ao.1 hx
        exact hJ.ok k x (by omega) (by show blocks[k]?=some x;rw [eo hk,e])
       have eg:Shape ⟨ins,blocks,outs,ay⟩:=⟨hb,hd,nw,dM,Bz,λx hx=>(cg x hx).1,λx hx=>(cg x hx).2,λk l x y hx hy=>hJ.L7 k l x y (by rw [b9];exact (bW.1 hx).1) (by rw [b9];exact (bW.1 hy).1) hx hy⟩
       have MF:xJ ⟨ins,blocks,outs,ay⟩:=⟨hb,iO,λx hx s hs=>⟨((cg x hx).2 s hs).lo,((cg x hx).2 s hs).hi⟩,Dt⟩
       cbv
       refine bV.rel aop ⟨ins,blocks,outs,ay⟩ (by exact aK) ⟨MF⟩ λy hy=>?_
       have hy:OX ⟨ins,blocks,outs,ay⟩ y:=hy.out
       cbv
       exact .mk' y ⟨by exact aK⟩ ⟨⟨λh=>⟨eg,hy.up h⟩,λh=>hy.down h.2⟩⟩
structure Xt (p:bC):Prop where
 v:uk p
 ok:Cy p
@[reducible] noncomputable def UM:Vc.Spec where
 α:=bC
 args x:=[.agg (fH x)]
 pre x:=Xt x
 res x:=.b (λ_=>true)
@[reducible] noncomputable def acW:Vc.Spec:=Pw
theorem amP:cZ (PP ()) 75 acW:=anv
noncomputable def cVr (n m:Nat):Ctx:=eu n m [] [(76,TO),(77,agf),(75,acW),(78,aeZ)]
theorem Qc (n m:Nat):CB PP (cVr n m):=ez n m trivial ⟨aaA,apz,amP,aor,trivial⟩
theorem abM:cZ (PP ()) 17 UM:=by
 refine dT (Qc 0 0) (fo Tryz.func17) (λa=>⟨kD a,trivial⟩) (λa=>trivial) ?_
 rintro ⟨ins,blocks,outs,ay⟩ hx
 have hx:Xt ⟨ins,blocks,outs,ay⟩:=hx
 have hp:=hx.v
 obtain ⟨eg,jK⟩:=hx.ok
 have nQ:=hp.small
 have iO:ins.length<=1000000:=nQ.ins
 have ME:outs.length<=1000000:=hp.outs
 have oP:blocks.length<=600:=eg.dK
 have fV:ay.length=outs.length:=eg.p8
 have nw:∀s∈ay,k8 ⟨ins,blocks,outs,ay⟩ s:=eg.ay
 have dM:∀w∈ins,mB w 2 4:=eg.ins
 have Bz:∀w∈outs,mB w 5 10:=eg.outs
 clear hx hp
 refine ⟨?_⟩
 cbv
 refine ⟨λh=>?_,λ_=>?_⟩
 ·have hF:False:=by
   have h':aU 600 (blocks.length:Int)=true:=h.out
   simp only [aU,decide_eq_true_eq] at h'
   exact aT
  cases hF
 cbv
 refine ⟨λh=>?_,λ_=>?_⟩
 ·have hF:False:=by
   have h':(!aV (ay.length:Int) (outs.length:Int))=true:=h.out
   rw [fV] at h'
   simp [aV] at h'
  cases hF
 cbv
 refine Sat.cf (Qc 0 0) 1 3 [] (λi:Nat=>[(3,.i .i64 (λ_=>(i:Int)))]) (λi=>[]) (λi=>i<=ins.length) (λi=>ins.length - i) 0 (by exact ao) (by exact ao) (cN _) ?_
 rintro i hi
 have h0:=n0 i
 have h1:=cq (i:=i) (by omega)
 cbv
 refine ⟨λh=>?_,λh=>?_⟩
 ·have bt:i < ins.length:=bI
  have bh:i+1<=ins.length/\ins.length - (i+1) < ins.length - i:=by omega
  refine (bD bt).elim λw hw=>?_
  have Dq:=dM w (cb hw)
  cbv
  refine ⟨w,⟨h0,hw⟩,?_⟩
  cbv
  refine ⟨⟨w,2,4⟩,⟨by exact bQ,trivial⟩,?_⟩
  cbv
  refine ⟨λh=>?_,λ_=>?_⟩
  ·have hF:False:=by
    have h':(!uE 2 4 w)=true:=h.out
    rw [UF.2 Dq] at h'
    cases h'
   cases hF
  cbv
  exact ⟨i+1,by exact ao,by exact ao,⟨bh⟩⟩
 ·clear h0 h1 hi
  cbv
  refine Sat.cf (Qc 0 0) 1 3 [] (λi:Nat=>[(4,.i .i64 (λ_=>(i:Int)))]) (λi=>[]) (λi=>i<=outs.length) (λi=>outs.length - i) 0 (by exact ao) (by exact ao) (cN _) ?_
  rintro i hi
  have h0:=n0 i
  have h1:=cq (i:=i) (by omega)
  cbv
  refine ⟨λh=>?_,λh=>?_⟩
  ·have bt:i < outs.length:=bI
   have bh:i+1<=outs.length/\outs.length - (i+1) < outs.length - i:=by omega
   refine (bD bt).elim λw hw=>?_
   have Dq:=Bz w (cb hw)
   refine (bD (l:=ay) (i:=i) (by omega)).elim λs hs=>?_
   have ur:=nw s (cb hs)
   cbv
   refine ⟨w,⟨h0,hw⟩,?_⟩
   cbv
   refine ⟨⟨w,5,10⟩,⟨by exact bQ,trivial⟩,?_⟩
   cbv
   refine ⟨λh=>?_,λ_=>?_⟩
   ·have hF:False:=by
     have h':(!uE 5 10 w)=true:=h.out
     rw [UF.2 Dq] at h'
     cases h'
    cases hF
   cbv
   refine ⟨s,⟨h0,hs⟩,?_⟩
   cbv
   refine ⟨⟨⟨ins,blocks,outs,ay⟩,s⟩,⟨by exact bQ,nQ⟩,?_⟩
   cbv
   refine ⟨λh=>?_,λ_=>?_⟩
   ·have hF:False:=by
     have h':(!oA ⟨ins,blocks,outs,ay⟩ s)=true:=h.out
     rw [SK.2 ur] at h'
     cases h'
    cases hF
   cbv
   exact ⟨i+1,by exact ao,by exact ao,⟨bh⟩⟩
  ·clear h0 h1 hi
   cbv
   refine Sat.cf (Qc 0 0) 1 3 [] (λi:Nat=>[(5,.i .i64 (λ_=>(i:Int)))]) (λi=>[]) (λi=>i<=blocks.length) (λi=>blocks.length - i) 0 (by exact ao) (by exact ao) (cN _) ?_
   rintro i hi
   have h0:=n0 i
   have h1:=cq (i:=i) (by omega)
   cbv
   refine ⟨λh=>?_,λh=>?_⟩
   ·have bt:i < blocks.length:=bI
    have bh:i+1<=blocks.length/\blocks.length - (i+1) < blocks.length - i:=by omega
    have fh:Ig ⟨ins,blocks,outs,ay⟩ i:=⟨eg,iO,h0,by show (i:Int) < blocks.length;omega⟩
    cbv
    refine ⟨⟨⟨ins,blocks,outs,ay⟩,i⟩,⟨by exact bQ,fh⟩,?_⟩
    cbv
    refine ⟨λh=>?_,λ_=>?_⟩
    ·have hF:False:=by
      have h':(!true)=true:=h.out
      cases h'
     cases hF
    cbv
    exact ⟨i+1,by exact ao,by exact ao,⟨bh⟩⟩
   ·cbv
    refine ⟨⟨ins,blocks,outs,ay⟩,⟨by exact bQ,⟨eg,jK,iO⟩⟩,?_⟩
    have e:aV ((Hq ⟨ins,blocks,outs,ay⟩).length:Int) (blocks.length:Int)=true:=by rw [amO eg jK];simp [aV]
    cbv
    exact ⟨by exact aK⟩
structure PR where
 n:Net
 w:List Int->Option Int
 k:PK
@[reducible] def kW:KD:=.ints [.i64,.i64,.i64]
@[reducible] def kF:KD:=.int .i64
def Y6 (x:PR):List SV:=[.sl 3 dm (λ_=>x.n.ins),.sl 5 dD (λ_=>x.n.gM),.sl 3 dm (λ_=>x.n.outs),.sl 1 bM (λ_=>x.n.ay),.mp kW bM (λ_=>x.w),.sl 4 u4 (λ_=>x.k.parts),.sl 2 my (λ_=>x.k.cells),.b (λ_=>x.k.n0),.b (λ_=>x.k.n1),.mp kF bM (λ_=>x.k.bL)]
theorem aqV (x:PR):du (Y6 x):=⟨λx=>(gS x).1,λx=>(eO x).1,λx=>(gS x).1,λx=>(cQ x).1,λx=>(cQ x).1,λx=>(Oz x).1,λx=>(yH x).1,trivial,trivial,λx=>(cQ x).1,trivial⟩
structure Xu where
 x:PR
 sig:Int
structure HE (y:Xu):Prop where
 Bv:eX y.x.n
 w:y.x.w=v9 y.x.n.ins
 lo:0<=y.sig
 hi:y.sig < 2+y.x.n.ins.length+y.x.k.cells.length
 dK:y.x.k.cells.length<=1000000
@[reducible] noncomputable def KX:Vc.Spec where
 α:=Xu
 args y:=[.dE (Y6 y.x) 0,.i .i64 (λ_=>y.sig)]
 pre y:=HE y
 res y:=.agg [.i .i64 (λ_=>(gP y.x.n.ins y.x.k.cells y.sig).kind),.i .i64 (λ_=>(gP y.x.n.ins y.x.k.cells y.sig).n)]
noncomputable def cFm (n m:Nat):Ctx:=eu n m [] []
theorem asx (n m:Nat):CB PP (cFm n m):=ez n m trivial trivial
theorem UN:cZ (PP ()) 167 KX:=by
 refine dT (asx 0 0) (fo Tryz.func167) (λa=>⟨aqV a.x,trivial,trivial⟩) (λa=>⟨trivial,trivial,trivial⟩) ?_
 rintro ⟨⟨⟨ins,gs,outs,dr⟩,w,⟨parts,cells,fI,fJ,bL⟩⟩,sig⟩ hx
 have hx:HE ⟨⟨⟨ins,gs,outs,dr⟩,w,⟨parts,cells,fI,fJ,bL⟩⟩,sig⟩:=hx
 have hn:=hx.Bv
 have hw:w=v9 ins:=hx.w
 have h0:0<=sig:=hx.lo
 have gH:sig < 2+(ins.length:Int)+cells.length:=hx.hi
 have hc6:cells.length<=1000000:=hx.dK
 have wH:2+ins.length+gs.length<=600:=hn.pF
 have Bl:∀w∈ins,mB w 1 4/\w.i<=31:=hn.ins
 have dB:IntKind.i64.wrap (sig - 2)=sig - 2:=cu (by omega) (by omega)
 obtain ⟨S,hS⟩:∃S,gP ins cells sig=S:=⟨_,rfl⟩
 have Y7:S.kind=(gP ins cells sig).kind:=by rw [hS]
 have Iz:S.n=(gP ins cells sig).n:=by rw [hS]
 unfold gP at hS
 refine ⟨?_⟩
 cbv
 refine ⟨λh=>?_,λh=>?_⟩
 ·have aR:sig < 2:=by have h':aU (IntKind.i64.wrap (sig - 2)) 0=true:=h.out;rw [dB] at h';simp only [aU,decide_eq_true_eq] at h';omega
  rw [if_pos aR] at hS
  subst hS
  cbv
  exact ⟨by exact aK⟩
 ·have b9:¬sig < 2:=by have h':aU (IntKind.i64.wrap (sig - 2)) 0=false:=h.out;rw [dB] at h';simp only [aU,decide_eq_false_iff_not] at h';omega
  rw [if_neg b9] at hS
  cbv
  refine ⟨λh=>?_,λh=>?_⟩
  ·have wP:¬sig - 2 < (ins.length:Int):=by have h':cV (ins.length:Int) (IntKind.i64.wrap (sig - 2))=true:=h.out;rw [dB] at h';simp only [cV,decide_eq_true_eq] at h';exact aT
   rw [if_neg wP] at hS
   have gH:sig < 2+(ins.length:Int)+cells.length:=gH
   have vy:IntKind.i64.wrap (IntKind.i64.wrap (sig - 2) - (ins.length:Int))=sig - 2 - ins.length:=by rw [dB];exact cu (by omega) (by omega)
   refine (bD (l:=cells) (i:=(sig - 2 - ins.length).toNat) (by omega)).elim λc hc=>?_
   have gu:0<=IntKind.i64.wrap (IntKind.i64.wrap (sig - 2) - (ins.length:Int))/\cells[(IntKind.i64.wrap (IntKind.i64.wrap (sig - 2) - (ins.length:Int))).toNat]?=some c:=by rw [vy];exact ⟨by omega,hc⟩
   have hSc:c=S:=by rw [<-hS,iE,hc];rfl
   subst hSc
   cbv
   refine ⟨c,⟨gu⟩,?_⟩
   cbv
   exact ⟨by exact aK⟩
  ·have wP:sig - 2 < (ins.length:Int):=by have h':cV (ins.length:Int) (IntKind.i64.wrap (sig - 2))=false:=h.out;rw [dB] at h';simp only [cV,decide_eq_false_iff_not] at h';exact aT
   rw [if_pos wP] at hS
   refine (bD (l:=ins) (i:=(sig - 2).toNat) (by omega)).elim λx hx=>?_
   have gu:0<=IntKind.i64.wrap (sig - 2)/\ins[(IntKind.i64.wrap (sig - 2)).toNat]?=some x:=by rw [dB];exact ⟨by omega,hx⟩
   have ra:=Bl x (cb hx)
   have hgx:ins.getD (sig - 2).toNat ⟨0,0,0⟩=x:=by rw [iE,hx];rfl
   rw [hgx] at hS
   simp only at hS
   cbv
   refine ⟨x,⟨gu⟩,?_⟩
   cbv
   refine ⟨λh=>?_,λh=>?_⟩
   ·have hk:x.kind=1:=bI
    rw [if_pos hk] at hS
    have hcw:IntKind.i64.wrap (IntKind.i64.wrap (8*x.i)+x.bit)=lN x:=by
     obtain ⟨⟨_,_,ha,hb,hc⟩,hd⟩:=ra
     rw [cu (n:=8*x.i) (by omega) (by omega),cu (by omega) (by omega)];rfl
    subst hS
    cbv
    exact ⟨by ((repeat' first|exact dR.nil|exact Le.refl _|refine dR.cons ?_ ?_|exact Le.ic rfl|exact Le.bc rfl|exact Le.i rfl|exact Le.b rfl|exact Le.sl rfl|exact Le.mp rfl|exact Le.iz rfl|exact Le.si rfl|refine Le.dg rfl (λ_=>?_)|refine Le.eK rfl (λ_ _=>rfl) (λ_=>?_) ?_|refine Le.agg ?_|refine Le.dG ?_|refine Le.fn ?_ ?_|refine Le.dE ?_|exact trivial|refine And.intro ?_ ?_|refine λ_=>?_|exact Le.any _))<;>first|exact .ic Y7|(refine .i (hcw.trans ?_);exact Iz)⟩
   ·have hk:¬x.kind=1:=bI
    rw [if_neg hk] at hS
    subst hS
    rcases hm:w (gG x) with _|v
    ·have hz:(v9 ins (gG x)).getD 0=0:=by rw [<-hw,hm];rfl
     cbv
     refine ⟨some none,⟨hm⟩,?_⟩
     cbv
     exact ⟨by have om:=Y7;have IE:=hz.symm.trans Iz;exact dx⟩
    ·have hz:(v9 ins (gG x)).getD 0=v:=by rw [<-hw,hm];rfl
     cbv
     refine ⟨some (some v),⟨hm⟩,?_⟩
     cbv
     exact ⟨by have om:=Y7;have bg:=hz.symm.trans Iz;exact dx⟩
@[reducible] noncomputable def A4 (x:PR):List Slot :=
 [.fix 298 [.sl 3 dm (λ_=>x.n.ins),.sl 5 dD (λ_=>x.n.gM),.sl 3 dm (λ_=>x.n.outs),.sl 1 bM (λ_=>x.n.ay),.fc 1,.own 2,.own 3,.b (λ_=>x.k.n0),.b (λ_=>x.k.n1),.fc 4],
  .map kW bM (λ_=>x.w),.dyn 307 4 u4 (λ_=>x.k.parts),.dyn 302 2 my (λ_=>x.k.cells),.map kF bM (λ_=>x.k.bL)]
structure au4 where
 x:PR
 p:Part
@[reducible] noncomputable def asy:na where
 α:=au4
 args y:=[.ptr 0 0,.agg (u4 y.p)]
 io y:=A4 y.x
 pre y:=y.x.k.parts.length<=1000000
 β:=Unit
 post x y:=True
 mv:=[2]
 res y _:=.agg [.i .i64 (λ_=>2),.i .i64 (λ_=>(y.x.k.parts.length:Int))]
 kx y _:=A4 ⟨y.x.n,y.x.w,y.x.k.add y.p⟩
noncomputable def cAp (n m:Nat):Ctx:=eu n m [] []
theorem asz (n m:Nat):CB PP (cAp n m):=ez n m trivial trivial
theorem Cd:iM PP 168 asy:=by
 refine mM (asz 0 0) (fo Tryz.func168) (λa y=>rfl) (λa=>⟨rfl,rfl⟩) (by show ([2]:List Nat).Nodup;decide) ?_
 rintro ⟨⟨⟨ins,gs,outs,dr⟩,w,⟨parts,cells,fI,fJ,bL⟩⟩,⟨MG,pt,pr,pg⟩⟩ hx
 have IZ:parts.length<=1000000:=hx
 have eb:(parts.length+1)*48<=140737488355328:=by omega
 have nj:parts.length+1<=9223372036854775807:=by omega
 have qa:IntKind.i64.wrap (((parts++[(⟨MG,pt,pr,pg⟩:Part)]).length:Int) - 1)=(parts.length:Int):=by
  rw [ib,rA]
  rw [cu (by omega) (by omega)];omega
 refine ⟨?_⟩
 cbv
 refine ⟨λh=>?_,λh=>?_⟩
 ·have hg:0<=pg:=bI
  obtain ⟨v,hv⟩:∃v:Int,(parts.length:Int)=v:=⟨_,rfl⟩
  have zC:(λj=>if j=pg then some v else bL j)=(PK.add ⟨parts,cells,fI,fJ,bL⟩ ⟨MG,pt,pr,pg⟩).bL:=by unfold PK.add gn;simp only;rw [if_pos hg,hv]
  cbv
  refine ⟨v,⟨by have bg:=hv;exact cP⟩,?_⟩
  cbv
  refine ⟨[⟨MG,pt,pr,pg⟩],⟨by exact bQ,eb,nj⟩,?_⟩
  cbv
  refine ⟨(),[],[(.c 0 5,2)],?_,by have ij:=zC;exact bJ,⟨trivial⟩⟩
  cbv
  exact ⟨by have bg:=qa;exact dx,trivial⟩
 ·have hg:¬0<=pg:=bI
  have zC:bL=(PK.add ⟨parts,cells,fI,fJ,bL⟩ ⟨MG,pt,pr,pg⟩).bL:=by unfold PK.add;simp only;rw [if_neg hg]
  cbv
  refine ⟨[⟨MG,pt,pr,pg⟩],⟨by exact bQ,eb,nj⟩,?_⟩
  cbv
  refine ⟨(),[],[(.c 0 5,2)],?_,by have ij:=zC;exact bJ,⟨trivial⟩⟩
  cbv
  exact ⟨by have bg:=qa;exact dx,trivial⟩
theorem amQ {l:List Part} {i:Nat} {x:Part} (h:l[i]?=some x) (code:Int):AE l i code=l.set i { x with aZ:=code }:=by
 unfold AE
 refine oy λj=>?_
 rw [S8,ja]
 split
 ·rename_i e;subst e;rw [h];simp [(bW.1 h).1]
 ·simp
structure aid where
 x:PR
 s:Source
 code:Int
structure V6 (y:aid):Prop where
 dK:y.x.k.parts.length<=1000000
 s:y.s.kind=2->0<=y.s.n/\y.s.n < y.x.k.parts.length
@[reducible] noncomputable def agj:na where
 α:=aid
 args y:=[.ptr 0 0,.agg (my y.s),.i .i64 (λ_=>y.code)]
 io y:=A4 y.x
 pre y:=V6 y
 β:=Unit
 post x y:=True
 mv:=[2]
 res y _:=.dG []
 kx y _:=A4 ⟨y.x.n,y.x.w,j4 y.x.k y.s y.code⟩
noncomputable def cRp (n m:Nat):Ctx:=eu n m [(168,Tryz.f168)] [] [168]
theorem asA (n m:Nat):CB PP (cRp n m):=ez n m ⟨fo Tryz.func168,trivial⟩ trivial
theorem apA:iM PP 166 agj:=by
 refine mM (asA 0 0) (fo Tryz.func166) (λa y=>rfl) (λa=>⟨rfl,rfl⟩) (by show ([2]:List Nat).Nodup;decide) ?_
 rintro ⟨⟨⟨ins,gs,outs,dr⟩,w,⟨parts,cells,fI,fJ,bL⟩⟩,⟨sk,sn⟩,code⟩ hx
 have hx:V6 ⟨⟨⟨ins,gs,outs,dr⟩,w,⟨parts,cells,fI,fJ,bL⟩⟩,⟨sk,sn⟩,code⟩:=hx
 have IZ:parts.length<=1000000:=hx.dK
 have tB:sk=2->0<=sn/\sn < parts.length:=hx.s
 obtain ⟨K,hK⟩:∃K,j4 ⟨parts,cells,fI,fJ,bL⟩ ⟨sk,sn⟩ code=K:=⟨_,rfl⟩
 have hKr:(agj.kx ⟨⟨⟨ins,gs,outs,dr⟩,w,⟨parts,cells,fI,fJ,bL⟩⟩,⟨sk,sn⟩,code⟩ ())=A4 ⟨⟨ins,gs,outs,dr⟩,w,K⟩:=by rw [<-hK]
 have e1:K.parts=(j4 ⟨parts,cells,fI,fJ,bL⟩ ⟨sk,sn⟩ code).parts:=by rw [hK]
 have e2:K.bL=(j4 ⟨parts,cells,fI,fJ,bL⟩ ⟨sk,sn⟩ code).bL:=by rw [hK]
 have e3:K.cells=(j4 ⟨parts,cells,fI,fJ,bL⟩ ⟨sk,sn⟩ code).cells:=by rw [hK]
 have e4:K.n0=(j4 ⟨parts,cells,fI,fJ,bL⟩ ⟨sk,sn⟩ code).n0:=by rw [hK]
 have e5:K.n1=(j4 ⟨parts,cells,fI,fJ,bL⟩ ⟨sk,sn⟩ code).n1:=by rw [hK]
 unfold j4 at hK
 simp only at hK
 clear hx hKr
 refine ⟨?_⟩
 cbv
 refine ⟨λh=>?_,λh=>?_⟩
 ·have h3:sk=3:=bI
  rw [if_pos h3] at hK
  subst hK
  cbv
  refine bV.io Cd ⟨⟨⟨ins,gs,outs,dr⟩,w,⟨parts,cells,fI,fJ,bL⟩⟩,⟨[],sn,-1,code⟩⟩ [0,1,2,3,4] rfl (by exact bQ) (by exact ao) ⟨IZ⟩ λ_ _=>?_
  cbv
  refine ⟨(),[],[(.c 0 5,2)],?_,by have ij:=e2;have kR:=e1;have lB:=e3;have et:=e1;have kH:=e3;have oU:=e4;have Bg:=e5;have jJ:=e4;have mN:=e5;exact bJ,⟨trivial⟩⟩
  cbv
  exact ⟨by exact aK,trivial⟩
 ·have h3:¬sk=3:=bI
  rw [if_neg h3] at hK
  cbv
  refine ⟨λh=>?_,λh=>?_⟩
  ·have h2:sk=2:=bI
   have hsn:0<=sn/\sn < (parts.length:Int):=tB h2
   have uC:0<=sn/\sn.toNat < parts.length:=by omega
   refine (bD uC.2).elim λq hq=>?_
   have hgq:parts.getD sn.toNat ⟨[],0,0,0⟩=q:=by rw [iE,hq];rfl
   rw [hgq] at hK
   cbv
   refine ⟨⟨uC⟩,q,⟨hq,rfl⟩,?_⟩
   cbv
   refine ⟨λh=>?_,λh=>?_⟩
   ·have hr:q.bR < 0:=bI
    cbv
    refine ⟨⟨uC⟩,q,⟨hq,rfl⟩,?_⟩
    cbv
    refine ⟨λh=>?_,λh=>?_⟩
    ·have hg:q.aZ < 0:=bI
     rw [if_pos ⟨h2,hr,hg⟩,amQ hq] at hK
     have mK:(λj=>if j=code then some sn else bL j)=(j4 ⟨parts,cells,fI,fJ,bL⟩ ⟨sk,sn⟩ code).bL:=by rw [<-e2,<-hK];rfl
     have tr:parts.set sn.toNat { q with aZ:=code }=(j4 ⟨parts,cells,fI,fJ,bL⟩ ⟨sk,sn⟩ code).parts:=by rw [<-e1,<-hK]
     have e3':cells=(j4 ⟨parts,cells,fI,fJ,bL⟩ ⟨sk,sn⟩ code).cells:=by rw [<-e3,<-hK]
     have e4':fI=(j4 ⟨parts,cells,fI,fJ,bL⟩ ⟨sk,sn⟩ code).n0:=by rw [<-e4,<-hK]
     have e5':fJ=(j4 ⟨parts,cells,fI,fJ,bL⟩ ⟨sk,sn⟩ code).n1:=by rw [<-e5,<-hK]
     obtain ⟨q2,rT⟩:∃q2,({ q with aZ:=code }:Part)=q2:=⟨_,rfl⟩
     rw [rT] at tr
     have lz:q.ins=q2.ins:=by rw [<-rT]
     have oS:q.table=q2.table:=by rw [<-rT]
     have Bp:q.bR=q2.bR:=by rw [<-rT]
     have Rw:code=q2.aZ:=by rw [<-rT]
     cbv
     refine ⟨⟨uC⟩,(q,q2),⟨hq,rfl,by have dJ:=lz;have bg:=oS;have lQ:=Bp;have zH:=Rw;exact cP⟩,?_⟩
     cbv
     refine ⟨sn,⟨by exact bQ⟩,?_⟩
     cbv
     refine ⟨(),[],[(.c 0 5,2)],?_,by have ij:=mK;have kR:=tr;have lB:=e3';have et:=tr;have kH:=e3';have oU:=e4';have Bg:=e5';have jJ:=e4';have mN:=e5';exact bJ,⟨trivial⟩⟩
     cbv
     exact ⟨by exact aK,trivial⟩
    ·have hg:¬q.aZ < 0:=bI
     rw [if_neg (λh=>hg h.2.2)] at hK
     subst hK
     cbv
     refine bV.io Cd ⟨⟨⟨ins,gs,outs,dr⟩,w,⟨parts,cells,fI,fJ,bL⟩⟩,⟨[⟨sk,sn⟩],2,-1,code⟩⟩ [0,1,2,3,4] rfl (by exact bQ) (by exact ao) ⟨IZ⟩ λ_ _=>?_
     cbv
     refine ⟨(),[],[(.c 0 5,2)],?_,by have ij:=e2;have kR:=e1;have lB:=e3;have et:=e1;have kH:=e3;have oU:=e4;have Bg:=e5;have jJ:=e4;have mN:=e5;exact bJ,⟨trivial⟩⟩
     cbv
     exact ⟨by exact aK,trivial⟩
   ·have hr:¬q.bR < 0:=bI
    rw [if_neg (λh=>hr h.2.1)] at hK
    subst hK
    cbv
    refine bV.io Cd ⟨⟨⟨ins,gs,outs,dr⟩,w,⟨parts,cells,fI,fJ,bL⟩⟩,⟨[⟨sk,sn⟩],2,-1,code⟩⟩ [0,1,2,3,4] rfl (by exact bQ) (by exact ao) ⟨IZ⟩ λ_ _=>?_
    cbv
    refine ⟨(),[],[(.c 0 5,2)],?_,by have ij:=e2;have kR:=e1;have lB:=e3;have et:=e1;have kH:=e3;have oU:=e4;have Bg:=e5;have jJ:=e4;have mN:=e5;exact bJ,⟨trivial⟩⟩
    cbv
    exact ⟨by exact aK,trivial⟩
  ·have h2:¬sk=2:=bI
   rw [if_neg (λh=>h2 h.1)] at hK
   subst hK
   cbv
   refine bV.io Cd ⟨⟨⟨ins,gs,outs,dr⟩,w,⟨parts,cells,fI,fJ,bL⟩⟩,⟨[⟨sk,sn⟩],2,-1,code⟩⟩ [0,1,2,3,4] rfl (by exact bQ) (by exact ao) ⟨IZ⟩ λ_ _=>?_
   cbv
   refine ⟨(),[],[(.c 0 5,2)],?_,by have ij:=e2;have kR:=e1;have lB:=e3;have et:=e1;have kH:=e3;have oU:=e4;have Bg:=e5;have jJ:=e4;have mN:=e5;exact bJ,⟨trivial⟩⟩
   cbv
   exact ⟨by exact aK,trivial⟩
structure SS where
 a:List Source
 b:List Source
@[reducible] noncomputable def Xv:Vc.Spec where
 α:=SS
 args x:=[.sl 2 my (λ_=>x.a),.sl 2 my (λ_=>x.b)]
 pre x:=x.a.length<=1000000/\x.b.length<=1000000
 res x:=.b (λ_=>x.a == x.b)
theorem apB {a b:List Source} (hl:a.length=b.length) (h:∀j,j < a.length->a[j]?=b[j]?):(a == b)=true:=by
 rw [beq_iff_eq]
 refine oy λj=>?_
 by_cases hj:j < a.length
 ·exact h j hj
 ·rw [nW (by omega),nW (by omega)]
theorem asB {a b:List Source} {j:Nat} (h:a[j]?≠b[j]?):(a == b)=false:=by
 rw [beq_eq_false_iff_ne]
 rintro rfl
 exact h rfl
noncomputable def cEs (n m:Nat):Ctx:=eu n m [] []
theorem agk (n m:Nat):CB PP (cEs n m):=ez n m trivial trivial
theorem aqW:cZ (PP ()) 236 Xv:=by
 refine dT (agk 0 0) (fo Tryz.func236) (λa=>⟨(λx=>(yH x).1),(λx=>(yH x).1),trivial⟩) (λa=>trivial) ?_
 rintro ⟨a,b⟩ hx
 obtain ⟨ha,hb⟩:a.length<=1000000/\b.length<=1000000:=hx
 obtain ⟨R,hR⟩:∃R,(a == b)=R:=⟨_,rfl⟩
 have mS:Xv.res ⟨a,b⟩=.b (λ_=>R):=by rw [<-hR]
 rw [mS]
 refine ⟨?_⟩
 cbv
 refine ⟨λh=>?_,λh=>?_⟩
 ·have cO:¬a.length=b.length:=by have h':(!aV (a.length:Int) (b.length:Int))=true:=h.out;simp only [aV,pU,beq_eq_false_iff_ne,ne_eq] at h';intro e;exact h' (by rw [e])
  have e:false=R:=by rw [<-hR];symm;rw [beq_eq_false_iff_ne];rintro rfl;exact cO rfl
  cbv
  exact ⟨by exact aK⟩
 ·have hl:a.length=b.length:=by have h':(!aV (a.length:Int) (b.length:Int))=false:=h.out;simp only [aV,Ee,beq_iff_eq] at h';exact aT
  cbv
  refine Sat.cf (agk 0 0) 0 5 [] (λi:Nat=>[(12,.i .i64 (λ_=>(a.length:Int))),(13,.i .i64 (λ_=>(i:Int)))]) (λi=>[]) (λi=>i<=a.length/\∀j,j < i->a[j]?=b[j]?) (λi=>a.length - i) 0 (by exact ao) (by exact ao) ⟨cN _,λj h=>by omega⟩ ?_
  rintro i ⟨hi,hj⟩
  have h0:=n0 i
  have h1:=cq (i:=i) (by omega)
  cbv
  refine ⟨λh=>?_,λh=>?_⟩
  ·have bt:i < a.length:=bI
   have bh:a.length - (i+1) < a.length - i:=by omega
   refine (bD bt).elim λx hx=>?_
   refine (bD (l:=b) (i:=i) (by omega)).elim λy hy=>?_
   cbv
   refine ⟨x,⟨h0,hx⟩,?_⟩
   cbv
   refine ⟨y,⟨h0,hy⟩,?_⟩
   cbv
   refine ⟨λh=>?_,λh=>?_⟩
   ·have h:=h.out
    have cO:x≠y:=by rintro rfl;simp [aV] at h
    have e:false=R:=by rw [<-hR];symm;exact asB (by rw [hx,hy];simpa using cO)
    cbv
    exact ⟨by exact aK⟩
   ·have h:=h.out
    have he:x=y:=by simp [aV] at h;cases x;cases y;simp at h ⊢;omega
    have bB:i+1<=a.length/\∀j,j < i+1->a[j]?=b[j]?:=⟨bt,λj er=>by
     by_cases e:j=i
     ·subst e;rw [hx,hy,he]
     ·exact hj j (by omega)⟩
    cbv
    exact ⟨i+1,by exact ao,by exact ao,⟨⟨bB,bh⟩⟩⟩
  ·have b9:i=a.length:=by
    have h':aU i a.length=false:=h.out
    have h2:¬(i:Int) < a.length:=by simpa [aU] using h'
    omega
   have e:true=R:=by rw [<-hR];symm;exact apB hl (by rw [<-b9];exact hj)
   cbv
   exact ⟨by exact aK⟩
structure aie where
 l:List Part
 c:Cell
 s:List Source
def x6 (c:Cell) (s:List Source) (l:List Part):Int:=match l.findIdx? (WO c s) with
 | some i=>(i:Int)
 | none=>-1
structure Xw (y:aie):Prop where
 l:y.l.length<=1000000
 s:y.s.length<=1000000
 k:∀x∈y.l,x.ins.length<=1000000
@[reducible] noncomputable def QW:Vc.Spec where
 α:=aie
 args y:=[.sl 4 u4 (λ_=>y.l),.fn (.func 235) [] [.dE (rL y.c) 0,.dE [.sl 2 my (λ_=>y.s)] 0]]
 pre y:=Xw y
 res y:=.i .i64 (λ_=>x6 y.c y.s y.l)
noncomputable def cIx (n m:Nat):Ctx:=eu n m [(235,Tryz.f235)] [(236,Xv)]
theorem agl (n m:Nat):CB PP (cIx n m):=ez n m ⟨fo Tryz.func235,trivial⟩ ⟨aqW,trivial⟩
theorem ae1:cZ (PP ()) 234 QW:=by
 refine dT (agl 0 0) (fo Tryz.func234) (λa=>⟨(λx=>(Oz x).1),⟨trivial,(Aw a.c).1,⟨(λx=>(yH x).1),trivial⟩,trivial⟩,trivial⟩) (λa=>trivial) ?_
 rintro ⟨l,c,s⟩ hx
 have hx:Xw ⟨l,c,s⟩:=hx
 have hl:l.length<=1000000:=hx.l
 have hs6:s.length<=1000000:=hx.s
 have Dt:∀x∈l,x.ins.length<=1000000:=hx.k
 obtain ⟨f,hf⟩:∃f,f=WO c s:=⟨_,rfl⟩
 have hfe:∀x,f x=(x.table == c.table&&x.bR == c.bR&&x.ins == s):=λx=>by rw [hf];rfl
 obtain ⟨R,hR⟩:∃R,x6 c s l=R:=⟨_,rfl⟩
 have mS:QW.res ⟨l,c,s⟩=.i .i64 (λ_=>R):=by rw [<-hR]
 have zt:∀i,i < l.length->(∀j,j < i->∀x,l[j]?=some x->f x=false)->(∀x,l[i]?=some x->f x=true)->(i:Int)=R:=λi hi h1 h2=>by
  rw [<-hR];unfold x6;rw [<-hf]
  have:l.findIdx? f=some i:=by
   rw [D7]
   exact ⟨hi,h2 _ (eo hi),λj hj=>by rw [h1 j hj _ (eo (by omega))];decide⟩
  rw [this]
 have eA:(∀j,j < l.length->∀x,l[j]?=some x->f x=false)->-1=R:=λh=>by
  rw [<-hR];unfold x6;rw [<-hf]
  have:l.findIdx? f=none:=by
   rw [JQ]
   intro x hx
   obtain ⟨j,hj,e⟩:=Ao.1 hx
   exact h j hj x (by rw [eo hj,e])
  rw [this]
 rw [mS]
 clear mS
 refine ⟨?_⟩
 cbv
 refine Sat.cf (agl 0 0) 0 4 [] (λi:Nat=>[(7,.i .i64 (λ_=>(l.length:Int))),(8,.i .i64 (λ_=>(i:Int)))]) (λi=>[]) (λi=>i<=l.length/\∀j,j < i->∀x,l[j]?=some x->f x=false) (λi=>l.length - i) 0 (by exact ao) (by exact ao) ⟨cN _,λj h=>by omega⟩ ?_
 rintro i ⟨hi,hj⟩
 have h0:=n0 i
 have h1:=cq (i:=i) (by omega)
 cbv
 refine ⟨λh=>?_,λh=>?_⟩
 ·have bt:i < l.length:=bI
  have bh:l.length - (i+1) < l.length - i:=by omega
  refine (bD bt).elim λx hx=>?_
  have mq:=Dt x (cb hx)
  have ot:=hfe x
  have hF:f x=false->i+1<=l.length/\∀j,j < i+1->∀x,l[j]?=some x->f x=false:=λXx=>⟨bt,λj er z hz=>by
   by_cases e:j=i
   ·subst e;rw [hx] at hz;cases hz;exact Xx
   ·exact hj j (by omega) z hz⟩
  have hT:f x=true->(i:Int)=R:=λXx=>zt i bt hj λz hz=>by rw [hx] at hz;cases hz;exact Xx
  clear zt eA
  cbv
  refine ⟨x,⟨h0,hx⟩,?_⟩
  refine ⟨λh=>?_,λh=>?_⟩
  ·have ux:(x.table == c.table)=true:=h.out
   cbv
   refine ⟨λh=>?_,λh=>?_⟩
   ·have C5:(x.bR == c.bR)=true:=h.out
    cbv
    refine ⟨⟨x.ins,s⟩,⟨by exact bQ,mq,hs6⟩,?_⟩
    cbv
    refine ⟨λh=>?_,λh=>?_⟩
    ·have p9:(x.ins == s)=true:=h.out
     have e:=hT (by rw [ot,ux,C5,p9];rfl)
     cbv
     exact ⟨by exact aK⟩
    ·have p9:(x.ins == s)=false:=h.out
     have bB:=hF (by rw [ot,ux,C5,p9];rfl)
     cbv
     exact ⟨i+1,by exact ao,by exact ao,⟨⟨bB,bh⟩⟩⟩
   ·have C5:(x.bR == c.bR)=false:=h.out
    have bB:=hF (by rw [ot,ux,C5];rfl)
    cbv
    exact ⟨i+1,by exact ao,by exact ao,⟨⟨bB,bh⟩⟩⟩
  ·have ux:(x.table == c.table)=false:=h.out
   have bB:=hF (by rw [ot,ux];rfl)
   cbv
   exact ⟨i+1,by exact ao,by exact ao,⟨⟨bB,bh⟩⟩⟩
 ·have b9:i=l.length:=by
   have h':aU i l.length=false:=h.out
   have h2:¬(i:Int) < l.length:=by simpa [aU] using h'
   omega
  have e:=eA (by rw [<-b9];exact hj)
  cbv
  exact ⟨by exact aK⟩
end Go.Proofs.Pk
