import Derived.Test.YthnhbemmlfaihaaGreatT19
import Derived.Test.YthnhbemmlfaihaaGreatT34
import Derived.Test.YthnhbemmlfaihaaGreatT37
set_option linter.unusedVariables false
set_option linter.unusedSimpArgs false
set_option maxRecDepth 10000
set_option maxHeartbeats 64000000
namespace Go.Proofs.Pk
open Go Go.Vc
structure mi (p:bq) (st sig out:List Int):Prop where
 sl:sig.length=p.ins.length+2*p.blocks.length
 ol:out.length=p.blocks.length
 o7:∀s:Nat,s < p.ins.length->sig[s]?=some (Kn p s)
 bf:∀(b:Nat) (x:Block),p.blocks[b]?=some x->0<=x.bf->sig[p.ins.length+2*b]?=some (ie [3,x.bf])/\sig[p.ins.length+2*b+1]?=some (ie [1,x.bf])/\out[b]?=some (ie [1,x.bf])
 done:∀(b:Nat) (x:Block),p.blocks[b]?=some x->x.bf < 0->St st 2 b->sig[p.ins.length+2*b]?=some (r9 p b)/\out[b]?=some (r9 p b)
theorem mi.ahv {p:bq} {st gA sig out:List Int} (h:mi p st sig out) (hs:∀c,St gA 2 c->St st 2 c):mi p gA sig out:=⟨h.sl,h.ol,h.o7,h.bf,λb x hx hr hb=>h.done b x hx hr (hs b hb)⟩
theorem mi.at {p:bq} {st sig out:List Int} (h:mi p st sig out) {s:Int} (hu:kj p s) (hd:(p.ins.length:Int)<=s->¬fj p.ins.length s->St st 2 (cK p.ins.length s)):sig.getD s.toNat 0=y7 p (r9 p) s:=by
 have h0:=hu.lo
 have h1:=hu.hi
 unfold bq.sigs at h1
 unfold y7
 rw [gW]
 split
 ·rename_i aR
  rw [h.o7 s.toNat (by omega),Int.toNat_of_nonneg h0];rfl
 ·rename_i bR
  split
  ·rename_i hf
   obtain ⟨x,hx,hr⟩:=hu.flip (by omega) hf
   have e:s.toNat=p.ins.length+2*cK p.ins.length s+1:=by unfold fj at hf;unfold cK;omega
   rw [e,(h.bf _ x hx hr).2.1]
   unfold Hg
   rw [hx];simp [hr]
  ·rename_i hf
   have dW:cK p.ins.length s < p.blocks.length:=by unfold cK;omega
   have e:s.toNat=p.ins.length+2*cK p.ins.length s:=by unfold fj at hf;unfold cK;omega
   have hx:p.blocks[cK p.ins.length s]?=some (p.blocks[cK p.ins.length s]):=eh dW
   unfold E_
   rw [hx,e]
   simp only
   split
   ·rename_i hr;rw [(h.bf _ _ hx hr).1];rfl
   ·rename_i hr;rw [(h.done _ _ hx (by omega) (hd (by omega) hf)).1];rfl
theorem mi.key {p:bq} {st sig out:List Int} (h:mi p st sig out) {r:Nat->Nat} (hr:jy p r) {b:Nat} {x:Block} (hx:p.blocks[b]?=some x) (hg:x.bf < 0) (hu:∀s∈x.ins,kj p s) (hd:∀s∈x.ins,(p.ins.length:Int)<=s->¬fj p.ins.length s->St st 2 (cK p.ins.length s)):Da sig x=r9 p b:=by
 have hs:=Tn (To hr) b
 show _=r9 p b
 unfold r9
 rw [hs]
 show _=v8 p (r9 p) b
 unfold v8
 rw [hx]
 simp only
 rw [if_neg (by omega)]
 unfold K_ Da
 congr 4
 exact xa λs hs=>by rw [h.at (hu s hs) (hd s hs)]
theorem mi.visit {p:bq} {st sig out:List Int} (h:mi p st sig out) {r:Nat->Nat} (hr:jy p r) {b:Nat} {x:Block} (hx:p.blocks[b]?=some x) (hb:St st 1 b) (hu:∀s∈x.ins,kj p s) (hd:∀s∈x.ins,(p.ins.length:Int)<=s->¬fj p.ins.length s->St st 2 (cK p.ins.length s)) {y:Kp} (hy:Kq ⟨p,sig,out,b⟩ y):mi p (st.set b 2) y.sig y.out:=by
 obtain ⟨z,hz,h1,h2⟩:=hy.ok
 have hz:p.blocks[b]?=some z:=by simpa using hz
 rw [hx] at hz;cases hz
 have aR:=(bX.1 hx).1
 by_cases hg:0<=x.bf
 ·obtain ⟨e1,e2⟩:=h1 hg
  rw [e1,e2]
  refine ⟨h.sl,h.ol,h.o7,h.bf,λc w hw u4 hc=>?_⟩
  by_cases gn:c=b
  ·subst gn;rw [hx] at hw;cases hw;omega
  ·exact h.done c w hw u4 ((St.q9 gn).1 hc)
 ·obtain ⟨e1,e2⟩:=h2 (by omega)
  rw [h.key hr hx (by omega) hu hd] at e1 e2
  have e1:y.sig=sig.set (p.ins.length+2*b) (r9 p b):=by simpa using e1
  have e2:y.out=out.set b (r9 p b):=by simpa using e2
  rw [e1,e2]
  refine ⟨by simp [h.sl],by simp [h.ol],λs hs=>?_,λc w hw u4=>?_,λc w hw u4 hc=>?_⟩
  ·rw [eU (by omega)];exact h.o7 s hs
  ·have gn:c≠b:=by rintro rfl;rw [hx] at hw;cases hw;omega
   rw [eU (by omega),eU (by omega),eU (by omega)]
   exact h.bf c w hw u4
  ·by_cases gn:c=b
   ·subst gn
    rw [iT,iT]
    simp [h.sl,h.ol,aR]
   ·rw [eU (by omega),eU (by omega)]
    exact h.done c w hw u4 ((St.q9 gn).1 hc)
structure WK where
 p:bq
 st:List Int
 b:Int
 sig:List Int
 out:List Int
 r:Nat->Nat
structure afz where
 res:Bool
 st:List Int
 sig:List Int
 out:List Int
structure Pl (n:Nat) (x:WK):Prop where
 w:xm x.p
 sh:Shape x.p
 rk:jy x.p x.r
 st:wI x.p x.st
 lo:0<=x.b
 hi:x.b < x.p.blocks.length
 z:lz x.st<=n
 on:∀c,St x.st 1 c->x.r x.b.toNat < x.r c
 key:mi x.p x.st x.sig x.out
structure J5 (x:WK) (y:afz):Prop where
 res:y.res=true
 out:oY x.p x.st x.b.toNat true y.st
 key:mi x.p y.st y.sig y.out
@[reducible] noncomputable def ahw (p:bq) (st sig out:List Int):List Slot :=
 [.fix 35 [.own 1],.dyn 3 1 bJ (λ_=>st),.fix 179 (fq p),.fix 180 [.fn (.func 179) [] [.ptr 0 0,.ptr 2 0,.ptr 3 0,.ptr 4 0]],.fix 187 [.fn (.func 100) [] [.ptr 5 0,.ptr 6 0,.ptr 8 0,.ptr 10 0]],
  .fix 57 (fq p),.fix 72 [.own 7],.dyn 74 1 mf (λ_=>sig),.fix 72 [.own 9],.dyn 74 1 mf (λ_=>out),.fix 179 (fq p)]
@[reducible] noncomputable def T8 (n:Nat):mP where
 α:=WK
 args x:=[.i .i64 (λ_=>x.b),.ptr 0 0,.ptr 2 0,.ptr 3 0,.ptr 4 0]
 io x:=ahw x.p x.st x.sig x.out
 pre x:=Pl n x
 β:=afz
 post x y:=J5 x y
 mv:=[]
 res x y:=.b (λ_=>y.res)
 j8 x y:=ahw x.p y.st y.sig y.out
structure EkL where
 j:Nat
 st:List Int
 sig:List Int
 out:List Int
noncomputable def cEk (n m:Nat):Ctx:=eB n m [(94,Tryz.f94),(179,Tryz.f179),(100,Tryz.f100)] [] [179,100]
theorem afA (n m:Nat):CB PP (cEk n m):=eD n m ⟨fo Tryz.func94,fo Tryz.func179,fo Tryz.func100,trivial⟩ trivial
theorem ZT (n:Nat) (ih:∀m,m+1=n->iC PP 179 (T8 m)):iC PP 179 (T8 n):=by
 refine mA (afA 0 0) (fo Tryz.func179) (λa y=>rfl) (λa=>⟨rfl,rfl⟩) .nil ?_
 rintro ⟨⟨ins,blocks,outs,ay⟩,st,b,sig,out,rk⟩ hx
 have hx:Pl n ⟨⟨ins,blocks,outs,ay⟩,st,b,sig,out,rk⟩:=hx
 have hp:=hx.w
 have ef:=hx.sh
 have ju:=hx.rk
 have cG:=hx.st
 have eb:0<=b:=hx.lo
 have dW:b < blocks.length:=hx.hi
 have hz:lz st<=n:=hx.z
 have Me:∀c,St st 1 c->rk b.toNat < rk c:=hx.on
 have rG:=hx.key
 simp only at hp ef ju cG rG
 clear hx
 have ahf:st.length=blocks.length:=cG.len
 have jb:0<=b/\b.toNat < st.length:=by omega
 obtain ⟨v,hv⟩:=bz jb.2
 refine ⟨?_⟩
 cbv
 refine ⟨⟨jb⟩,v,⟨hv,rfl⟩,?_⟩
 cbv
 refine ⟨λh=>?_,λh=>?_⟩
 ·have pX:v=1:=bE
  exact absurd (Me b.toNat (by rw [<-pX];exact hv)) (Nq _)
 ·have pX:v≠1:=bE
  cbv
  refine ⟨λh=>?_,λh=>?_⟩
  ·have jM:v=2:=bE
   have bV:J5 ⟨⟨ins,blocks,outs,ay⟩,st,b,sig,out,rk⟩ ⟨true,st,sig,out⟩:=⟨rfl,.Ck cG (by rw [<-jM];exact hv),rG⟩
   cbv
   exact ⟨⟨true,st,sig,out⟩,[],[],⟨by exact aJ,trivial⟩,by exact ao,⟨bV⟩⟩
  ·have jM:v≠2:=bE
   have h_:St st 0 b.toNat:=by
    have:=cG.val _ _ hv
    have e:v=0:=by omega
    rw [<-e];exact hv
   have QN:=SW h_
   refine (⟨n - 1,by omega⟩:∃m,m+1=n).elim λm hm=>?_
   have ih:=ih m hm
   refine (bz (l:=blocks) (i:=b.toNat) (by omega)).elim λx hx=>?_
   have gP:=b_ hx
   have yc:∀s∈x.ins,0<=s/\s < (ins.length:Int)+2*blocks.length:=hp.used x gP
   have o8:∀s∈x.ins,kj ⟨ins,blocks,outs,ay⟩ s:=ef.used x gP
   have lY:=hp.k x gP
   have oA:blocks.length<=600:=hp.dH
   have P6:ins.length<=1000000:=hp.ins
   have tc:=oJ.start cG h_ x
   have Fe:mi ⟨ins,blocks,outs,ay⟩ (st.set b.toNat 1) sig out:=rG.ahv λc hc=>by
    by_cases gn:c=b.toNat
    ·rw [gn] at hc;have:=(St.Ar h_.lt).1 hc;omega
    ·exact (St.q9 gn).1 hc
   cbv
   refine ⟨⟨jb⟩,?_⟩
   cbv
   refine ⟨(v,1),⟨hv,rfl,by exact aJ⟩,?_⟩
   cbv
   refine ⟨x,⟨eb,hx⟩,?_⟩
   cbv
   refine Sat.ca (afA 0 0) 11 7 [] (λy:EkL=>[(28,.sl 1 bJ (λ_=>x.ins)),(29,.i .i64 (λ_=>(x.ins.length:Int))),(30,.i .i64 λ_=>(y.j:Int))]) (λy=>[(1,.dyn 3 1 bJ λ_=>y.st),(7,.dyn 74 1 mf λ_=>y.sig),(9,.dyn 74 1 mf λ_=>y.out)])
    (λy=>oJ ⟨ins,blocks,outs,ay⟩ st b.toNat x y.j y.st/\mi ⟨ins,blocks,outs,ay⟩ y.st y.sig y.out) (λy=>x.ins.length - y.j) ⟨0,st.set b.toNat 1,sig,out⟩ (by exact ao) (by exact ao) ⟨tc,Fe⟩ ?_
   rintro ⟨j,gR,sT,dD⟩ ⟨hJ,hK⟩
   have hJ:oJ ⟨ins,blocks,outs,ay⟩ st b.toNat x j gR:=hJ
   have hK:mi ⟨ins,blocks,outs,ay⟩ gR sT dD:=hK
   have eA:=hJ.le
   have iG:=n0 j
   have u9:=cd (i:=j) (by omega)
   cbv
   refine ⟨λh=>?_,λh=>?_⟩
   ·have uQ:j < x.ins.length:=bE
    have a7:x.ins.length - (j+1) < x.ins.length - j:=by omega
    refine (bz uQ).elim λs hs=>?_
    have p8:=yc s (b_ hs)
    cbv
    refine ⟨s,⟨iG,hs⟩,?_⟩
    cbv
    refine ⟨λh=>?_,λh=>?_⟩
    ·have aR:s < (ins.length:Int):=bE
     have bw:=hJ.skip hs (λh=>by have:=h.1;simp only at this;omega)
     cbv
     exact ⟨⟨j+1,gR,sT,dD⟩,by exact ao,by exact ao,⟨⟨⟨bw,hK⟩,a7⟩⟩⟩
    ·have bR:(ins.length:Int)<=s:=bE
     have p8:0<=s/\s < (ins.length:Int)+2*(blocks.length:Int):=p8
     refine (⟨_,rfl⟩:∃d:Nat,cK ins.length s=d).elim λd hd=>?_
     have fB:IntKind.i64.wrap (s - (ins.length:Int))=s - (ins.length:Int):=cz (by omega) (by omega)
     have qI:(s - (ins.length:Int)) / 2=(d:Int):=by rw [<-hd];unfold cK;omega
     have hc:IntKind.i64.wrap ((IntKind.i64.wrap (s - (ins.length:Int))).tdiv 2)=(d:Int):=by
      rw [fB,zX (by omega),qI];exact cz (by omega) (by omega)
     have hm:(IntKind.i64.wrap (s - (ins.length:Int))).tmod 2=(s - (ins.length:Int)) % 2:=by
      rw [fB,w8 (by omega)]
     have fO:d < blocks.length:=by omega
     cbv
     refine ⟨⟨by decide⟩,⟨by decide⟩,λh=>?_,λh=>?_⟩
     ·cbv
      refine ⟨λh=>?_,λh=>?_⟩
      ·have lF:¬fj ins.length s:=by
        have h':(!aV ((IntKind.i64.wrap (s - (ins.length:Int))).tmod 2) 1)=true:=h.out
        rw [hm] at h'
        unfold fj
        simpa [aV] using h'
       have mD:rk d < rk b.toNat:=by
        have:=ju b.toNat x hx s (b_ hs) bR lF
        rw [show cK ins.length s=d from hd] at this
        exact this
       have e9:Pl m ⟨⟨ins,blocks,outs,ay⟩,gR,d,sT,dD,rk⟩:=⟨hp,ef,ju,hJ.w,by show 0<=(d:Int);omega,by show (d:Int) < blocks.length;omega,by have:=hJ.z;show lz gR<=m;omega,λc hc=>by
        show rk d < rk c
        rcases (hJ.one c).1 hc with h|h
        ·have:=Me c h;omega
        ·rw [h];exact mD,hK⟩
       cbv
       refine bU.jD ih (λa y=>trivial) ⟨⟨ins,blocks,outs,ay⟩,gR,d,sT,dD,rk⟩ [0,1,2,3,4,5,6,7,8,9,10] rfl (by exact bP) (by exact ao) ⟨e9⟩ λy hy=>?_
       have hy:J5 ⟨⟨ins,blocks,outs,ay⟩,gR,d,sT,dD,rk⟩ y:=hy.out
       obtain ⟨res,la,CG,qy⟩:=y
       have hr:res=true:=hy.res
       have zi:oY ⟨ins,blocks,outs,ay⟩ gR d true la:=hy.out
       have wN:mi ⟨ins,blocks,outs,ay⟩ la CG qy:=hy.key
       subst hr
       cbv
       refine ⟨λh=>?_,λh=>?_⟩
       ·have h':(!true)=true:=h.out
        cases h'
       ·have bw:=hJ.go hs h_ (by rw [show cK ins.length s=d from hd];exact zi)
        cbv
        exact ⟨⟨j+1,la,CG,qy⟩,by exact ao,by exact ao,⟨⟨⟨bw,wN⟩,a7⟩⟩⟩
      ·have lF:fj ins.length s:=by
        have h':(!aV ((IntKind.i64.wrap (s - (ins.length:Int))).tmod 2) 1)=false:=h.out
        rw [hm] at h'
        unfold fj
        simpa [aV] using h'
       have bw:=hJ.skip hs (λh=>h.2 lF)
       cbv
       exact ⟨⟨j+1,gR,sT,dD⟩,by exact ao,by exact ao,⟨⟨⟨bw,hK⟩,a7⟩⟩⟩
     ·exfalso
      have h':cR 0 (IntKind.i64.wrap ((IntKind.i64.wrap (s - (ins.length:Int))).tdiv 2))=false:=h.out
      rw [hc] at h'
      simp only [cR,decide_eq_false_iff_not] at h'
      exact aU
   ·have nV:j=x.ins.length:=by
     have h':aS j x.ins.length=false:=h.out
     have h2:¬(j:Int) < x.ins.length:=by simpa [aS] using h'
     omega
    have bV:=hJ.out hx h_ nV
    have yW:St gR 1 b.toNat:=(hJ.one b.toNat).2 (.inr rfl)
    refine (⟨_,rfl⟩:∃l,gR.set b.toNat 2=l).elim λla h3=>?_
    have WL:∀y:Kp,Kq ⟨⟨ins,blocks,outs,ay⟩,sT,dD,b⟩ y->mi ⟨ins,blocks,outs,ay⟩ la y.sig y.out:=λy hy=>by
     rw [<-h3]
     refine hK.visit ju hx yW o8 (λs hs h1 h2=>?_) (by rw [show ((b.toNat:Nat):Int)=b by omega];exact hy)
     obtain ⟨i,hi,e⟩:=z8.1 hs
     exact hJ.ins i s (by omega) (by rw [eh hi,e]) h1 h2
    have Yl:Vb ⟨⟨ins,blocks,outs,ay⟩,sT,dD,b⟩:=⟨oA,P6,eb,dW,hK.sl,hK.ol,hp.used,hp.k⟩
    rw [h3] at bV
    have CF:0<=b/\b.toNat < gR.length:=by have:=hJ.w.len;simp only at this;omega
    refine (bz CF.2).elim λu hu=>?_
    cbv
    refine ⟨⟨CF⟩,?_⟩
    cbv
    refine ⟨(u,2),⟨hu,rfl,by exact aJ⟩,?_⟩
    cbv
    refine bU.jD amy (λa y=>trivial) ⟨⟨ins,blocks,outs,ay⟩,sT,dD,b⟩ [5,6,7,8,9,10] rfl (by exact bP) (by exact ao) ⟨Yl⟩ λy hy=>?_
    have wN:=WL y hy.out
    obtain ⟨CG,qy⟩:=y
    have Hk:J5 ⟨⟨ins,blocks,outs,ay⟩,st,b,sig,out,rk⟩ ⟨true,la,CG,qy⟩:=⟨rfl,bV,wN⟩
    cbv
    exact ⟨⟨true,la,CG,qy⟩,[],[],⟨by exact aJ,trivial⟩,by have dM:=h3;exact bH,⟨Hk⟩⟩
theorem aa4:∀n,iC PP 179 (T8 n)
 | 0=>ZT 0 λm h=>by omega
 | n+1=>ZT (n+1) λm h=>by
  cases SF h
  exact aa4 n
def CH (s:js):List SV:=[.sl 1 bJ (λ_=>s.aN),.sl 1 iV (λ_=>s.bd)]
theorem JP (s:js):dm (CH s):=⟨λx=>(cM x).1,λx=>(pK x).1,trivial⟩
def Qc (out:List Bool) (s:Int):Bool:=out.getD s.toNat false
def zC (out:List Bool) (s:js) (x:Block):Bool:=if x.bZ < 0 then yS x.table (x.ins.map (Qc out)) else EF s x.bZ (x.ins.map (Qc out))
structure WM where
 p:bq
 out:List Bool
 b:Int
 s:js
structure Ff (x:WM) (y:List Bool):Prop where
 ok:∃z,x.p.blocks[x.b.toNat]?=some z/\y=x.out.set (x.p.ins.length+2*x.b.toNat) (zC x.out x.s z)
structure Vr (x:WM):Prop where
 dH:x.p.blocks.length<=600
 ins:x.p.ins.length<=1000000
 lo:0<=x.b
 hi:x.b < x.p.blocks.length
 ol:x.out.length=x.p.ins.length+2*x.p.blocks.length
 used:∀z∈x.p.blocks,∀s∈z.ins,0<=s/\s < x.p.sigs
 k:∀z∈x.p.blocks,z.ins.length<=4
 bZ:∀z∈x.p.blocks,z.bZ<=63
 new:x.out[x.p.ins.length+2*x.b.toNat]?=some false
@[reducible] noncomputable def Qd (p:bq) (out:List Bool) (s:js):List Slot :=
 [.fix 57 (fq p),.fix 41 [.own 2],.dyn 4 1 iU (λ_=>out),.fix 179 (fq p),.fix 38 (CH s)]
@[reducible] noncomputable def aoO:mP where
 α:=WM
 args x:=[.i .i64 (λ_=>x.b),.ptr 0 0,.ptr 1 0,.ptr 3 0,.ptr 4 0]
 io x:=Qd x.p x.out x.s
 pre x:=Vr x
 β:=List Bool
 post x y:=Ff x y
 mv:=[]
 res x y:=.dE []
 j8 x y:=Qd x.p y x.s
noncomputable def cVe (n m:Nat):Ctx:=eB n m [] [(120,Vq),(95,Cf),(219,aee)]
theorem afB (n m:Nat):CB PP (cVe n m):=eD n m trivial ⟨aoN,Ef,anF,trivial⟩
theorem amE:iC PP 218 aoO:=by
 refine mA (afB 0 0) (fo Tryz.func218) (λa y=>rfl) (λa=>⟨rfl,rfl⟩) .nil ?_
 rintro ⟨⟨ins,blocks,outs,ay⟩,out,b,⟨aN,bd⟩⟩ hx
 have hx:Vr ⟨⟨ins,blocks,outs,ay⟩,out,b,⟨aN,bd⟩⟩:=hx
 have oA:blocks.length<=600:=hx.dH
 have gQ:ins.length<=1000000:=hx.ins
 have eb:0<=b:=hx.lo
 have dW:b < blocks.length:=hx.hi
 have gd:out.length=ins.length+2*blocks.length:=hx.ol
 obtain ⟨x,oK⟩:=bz (l:=blocks) (i:=b.toNat) (by omega)
 have gP:=b_ oK
 have yc:∀s∈x.ins,0<=s/\s < (ins.length:Int)+2*blocks.length:=hx.used x gP
 have lY:x.ins.length<=4:=hx.k x gP
 have hxr:x.bZ<=63:=hx.bZ x gP
 have bw:out[ins.length+2*b.toNat]?=some false:=hx.new
 clear hx
 obtain ⟨V,hV⟩:∃V,(x.ins.map λs=>out.getD s.toNat false)=V:=⟨_,rfl⟩
 have IA:V.length=x.ins.length:=by rw [<-hV,oT]
 have gn:WJ ⟨x.ins,out⟩:=⟨by show x.ins.length<=1000000;omega,λs hs=>by have:=yc s hs;show 0<=s/\s.toNat < out.length;omega⟩
 have X7:V.length<=1000000:=by omega
 have Hk:∀v,v=zC out ⟨aN,bd⟩ x->Ff ⟨⟨ins,blocks,outs,ay⟩,out,b,⟨aN,bd⟩⟩ (out.set (ins.length+2*b.toNat) v):=λv hv=>⟨x,oK,by rw [hv]⟩
 have qF:((ins.length:Int)+2*b).toNat=ins.length+2*b.toNat:=by omega
 have yd:0<=(ins.length:Int)+2*b/\((ins.length:Int)+2*b).toNat < out.length:=by omega
 have htu:out[((ins.length:Int)+2*b).toNat]?=some false:=by rw [qF];exact bw
 have P7:b<=1000000:=by omega
 have fO:x.bZ < 0->zC out ⟨aN,bd⟩ x=yS x.table V:=λh=>by
  unfold zC;rw [if_pos h];show yS x.table (x.ins.map λs=>out.getD s.toNat false)=_;rw [hV]
 have oI:¬x.bZ < 0->zC out ⟨aN,bd⟩ x=EF ⟨aN,bd⟩ x.bZ V:=λh=>by
  unfold zC;rw [if_neg h];show EF _ x.bZ (x.ins.map λs=>out.getD s.toNat false)=_;rw [hV]
 have vP:zC out ⟨aN,bd⟩ x=false->Ff ⟨⟨ins,blocks,outs,ay⟩,out,b,⟨aN,bd⟩⟩ out:=λh=>⟨x,oK,by
  rw [h]
  show out=out.set (ins.length+2*b.toNat) false
  refine nL λi=>?_
  rw [iT]
  split
  ·rename_i e;subst e;rw [bw];have:=(bX.1 bw).1;rw [if_pos this]
  ·rfl⟩
 obtain ⟨U,hU⟩:∃U:Nat->Int,∀i,U i=xJ V i:=⟨_,λ_=>rfl⟩
 have Yk:0=U 0:=by rw [hU];rfl
 refine ⟨?_⟩
 cbv
 refine ⟨x,⟨eb,oK⟩,?_⟩
 cbv
 refine ⟨⟨x.ins,out⟩,⟨.inl ⟨by exact bP,rfl⟩,gn⟩,?_⟩
 cbv
 refine ⟨λh=>?_,λh=>?_⟩
 ·have hr:x.bZ < 0:=bE
  obtain ⟨v,hv⟩:∃v,yS x.table V=v:=⟨_,rfl⟩
  obtain ⟨o2,jV⟩:∃o,out.set ((ins.length:Int)+2*b).toNat v=o:=⟨_,rfl⟩
  have sW:Ff ⟨⟨ins,blocks,outs,ay⟩,out,b,⟨aN,bd⟩⟩ o2:=by rw [<-jV,qF];exact Hk v (by rw [fO hr,hv])
  cbv
  refine ⟨⟨⟨ins,blocks,outs,ay⟩,b⟩,⟨by exact bP,gQ,eb,P7⟩,?_⟩
  cbv
  refine ⟨⟨x.table,V⟩,⟨by have dG:=hV;exact cN,X7⟩,?_⟩
  cbv
  refine ⟨⟨yd⟩,?_⟩
  cbv
  refine ⟨(false,v),⟨htu,rfl,by have jN:=hv;exact dv⟩,?_⟩
  cbv
  exact ⟨o2,[],[],⟨by exact aJ,trivial⟩,by have dM:=jV;exact bH,⟨sW⟩⟩
 have hr:¬x.bZ < 0:=bE
 clear h
 cbv
 refine Sat.ca (afB 0 0) 6 8 [] (λi:Nat=>[(7,.sl 1 iU (λ_=>V)),(8,.i .i64 (λ_=>U i)),(33,.sl 1 iU (λ_=>V)),(34,.i .i64 (λ_=>(V.length:Int))),(35,.i .i64 (λ_=>(i:Int)))]) (λi=>[]) (λi=>i<=V.length) (λi=>V.length - i) 0 (by ((try cbv)<;>(repeat' (first|with_reducible exact trivial|with_reducible refine And.intro ?_ ?_))<;>(try first|exact cY.refl _|exact cY.dyn rfl|exact cY.map rfl|exact cY.iter rfl rfl (.inl rfl)|exact cY.iter rfl rfl (.inr rfl)|refine cY.fix ?_|refine cY.dyn ?_)<;>((repeat' first|exact dT.nil|exact Le.refl _|refine dT.cons ?_ ?_|exact Le.ic rfl|exact Le.bc rfl|exact Le.i rfl|exact Le.b rfl|exact Le.sl rfl|exact Le.mp rfl|exact Le.im rfl|exact Le.rO rfl|refine Le.di rfl (λ_=>?_)|refine Le.eH rfl (λ_ _=>rfl) (λ_=>?_) ?_|refine Le.agg ?_|refine Le.dE ?_|refine Le.fn ?_ ?_|refine Le.dC ?_|exact trivial|refine And.intro ?_ ?_|refine λ_=>?_|exact Le.any _)))<;>first|exact Le.ic Yk|exact .sl hV|(refine .i ?_;rw [<-hV])) (by exact ao) (cJ _) ?_
 intro i hi
 have hi:i<=V.length:=hi
 have h0:=n0 i
 have h1:=cd (i:=i) (by omega)
 cbv
 refine ⟨λh=>?_,λh=>?_⟩
 ·have bp:i < V.length:=bE
  have a7:V.length - (i+1) < V.length - i:=by omega
  refine (bz bp).elim λc hc=>?_
  cbv
  refine ⟨c,⟨h0,hc⟩,?_⟩
  cbv
  refine ⟨λh=>?_,λh=>?_⟩
  ·have wA:c=true:=h.out
   have cG:lB .or .i64 (U i) (IntKind.i64.wrap (1*2^(min ((i:Int)).toNat IntKind.i64.bits)))=U (i+1):=by rw [hU,hU];exact ab7 (by rw [hc,wA])
   cbv
   refine ⟨⟨h0⟩,?_⟩
   cbv
   exact ⟨i+1,by have bj:=cG;have lE:=h1;exact bH,by exact ao,⟨⟨bp,a7⟩⟩⟩
  ·have wA:c=false:=h.out
   have cG:U i=U (i+1):=by rw [hU,hU];exact ada (by rw [hc,wA])
   cbv
   exact ⟨i+1,by have bj:=cG;have lE:=h1;exact bH,by exact ao,⟨⟨bp,a7⟩⟩⟩
 have bR:i=V.length:=by
  have h':aS i V.length=false:=h.out
  have h2:¬(i:Int) < V.length:=by simpa [aS] using h'
  omega
 obtain ⟨u,hu⟩:∃u:Nat,U i=(u:Int):=by
  obtain ⟨n,hn,_⟩:=Tu V i (by omega)
  exact ⟨n,by rw [hU,hn]⟩
 have Xo:HI V=(u:Int):=by unfold HI;rw [<-bR,<-hU,hu]
 have hq:IntKind.i64.wrap (x.bZ.tdiv 8)=x.bZ / 8:=by rw [zX (by omega)];exact cz (by omega) (by omega)
 have FO:x.bZ.tmod 8=x.bZ % 8:=w8 (by omega)
 have oH:0<=IntKind.i64.wrap (x.bZ.tdiv 8):=by rw [hq];omega
 have hqt:(IntKind.i64.wrap (x.bZ.tdiv 8)).toNat=(x.bZ / 8).toNat:=by rw [hq]
 have xQ:0<=x.bZ / 8:=by omega
 have pW:0<=U i:=by rw [hu];exact Gf _
 have hut:(U i).toNat=u:=by rw [hu,oS]
 have ahx:(HI V).toNat=u:=by rw [Xo,oS]
 have WN:0<=x.bZ.tmod 8:=by rw [FO];omega
 clear h h0 h1 hi
 cbv
 refine ⟨⟨by decide⟩,?_⟩
 cbv
 refine ⟨λh=>?_,λh=>?_⟩
 rotate_left
 ·have Fm:bd[(x.bZ / 8).toNat]?=none:=by
   have h':aS (IntKind.i64.wrap (x.bZ.tdiv 8)) (bd.length:Int)=false:=h.out
   rw [hq] at h'
   refine l6 ?_
   have:¬x.bZ / 8 < (bd.length:Int):=by simpa [aS] using h'
   omega
  have sW:=vP (by rw [oI hr];unfold EF;rw [Fm])
  cbv
  exact ⟨out,[],[],⟨by exact aJ,trivial⟩,by exact ao,⟨sW⟩⟩
 have AX:(x.bZ / 8).toNat < bd.length:=by
  have h':aS (IntKind.i64.wrap (x.bZ.tdiv 8)) (bd.length:Int)=true:=h.out
  rw [hq] at h'
  have:x.bZ / 8 < (bd.length:Int):=by simpa [aS] using h'
  omega
 obtain ⟨m,hm⟩:=bz AX
 have hmi:0<=IntKind.i64.wrap (x.bZ.tdiv 8)/\bd[(IntKind.i64.wrap (x.bZ.tdiv 8)).toNat]?=some m:=⟨oH,by rw [hqt];exact hm⟩
 clear h
 cbv
 refine ⟨m,⟨hmi⟩,?_⟩
 cbv
 refine ⟨λh=>?_,λh=>?_⟩
 rotate_left
 ·have Fm:m[(HI V).toNat]?=none:=by
   have h':aS (U i) (m.length:Int)=false:=h.out
   rw [ahx]
   refine l6 ?_
   have h2:¬U i < (m.length:Int):=by simpa [aS] using h'
   rw [hu] at h2
   omega
  have sW:=vP (by rw [oI hr];unfold EF;simp only;rw [hm];simp only;rw [Fm])
  cbv
  exact ⟨out,[],[],⟨by exact aJ,trivial⟩,by exact ao,⟨sW⟩⟩
 have CM:u < m.length:=by
  have h':aS (U i) (m.length:Int)=true:=h.out
  have h2:U i < (m.length:Int):=by simpa [aS] using h'
  rw [hu] at h2
  omega
 obtain ⟨w,hw⟩:=bz CM
 have wz:0<=U i/\m[(U i).toNat]?=some w:=⟨pW,by rw [hut];exact hw⟩
 obtain ⟨v,hv⟩:∃v,aV (lB .and .i64 (w.fdiv (2^(min (x.bZ.tmod 8).toNat IntKind.i64.bits))) 1) 1=v:=⟨_,rfl⟩
 obtain ⟨o2,jV⟩:∃o,out.set ((ins.length:Int)+2*b).toNat v=o:=⟨_,rfl⟩
 have sW:Ff ⟨⟨ins,blocks,outs,ay⟩,out,b,⟨aN,bd⟩⟩ o2:=by
  rw [<-jV,qF]
  refine Hk v ?_
  rw [oI hr]
  unfold EF
  simp only
  rw [hm]
  simp only
  rw [ahx,hw]
  show v=Fa w (x.bZ % 8)
  rw [<-hv,FO]
  rfl
 clear h
 cbv
 refine ⟨⟨⟨ins,blocks,outs,ay⟩,b⟩,⟨by exact bP,gQ,eb,P7⟩,?_⟩
 cbv
 refine ⟨m,⟨hmi⟩,?_⟩
 cbv
 refine ⟨w,⟨wz⟩,?_⟩
 cbv
 refine ⟨⟨by decide⟩,⟨WN⟩,⟨yd⟩,?_⟩
 cbv
 refine ⟨(false,v),⟨htu,rfl,by have jN:=hv;exact dv⟩,?_⟩
 cbv
 exact ⟨o2,[],[],⟨by exact aJ,trivial⟩,by have dM:=jV;exact bH,⟨sW⟩⟩
theorem mi.all {p:bq} {st sig out:List Int} (h:mi p st sig out) (ha:∀c,c < p.blocks.length->St st 2 c):out=kY p:=by
 refine nL λb=>?_
 unfold kY
 rw [mM]
 by_cases hb:b < p.blocks.length
 ·have hx:p.blocks[b]?=some p.blocks[b]:=eh hb
  rw [Gc hb]
  simp only [yv]
  unfold CD
  rw [hx]
  simp only
  split
  ·rename_i hr;exact (h.bf b _ hx hr).2.2
  ·rename_i hr;exact (h.done b _ hx (by omega) (ha b hb)).2
 ·rw [l6 (by rw [h.ol];omega),l6 (by simpa using hb)];rfl
structure ahy where
 p:bq
 sig:List Int
 out:List Int
 r:Nat->Nat
structure Vs (x:ahy):Prop where
 w:xm x.p
 sh:Shape x.p
 rk:jy x.p x.r
 key:mi x.p [] x.sig x.out
@[reducible] noncomputable def ap3:mP where
 α:=ahy
 args x:=[.agg (fq x.p),.fn (.func 100) [] [.ptr 0 0,.ptr 1 0,.ptr 3 0,.ptr 5 0]]
 io x:=[.fix 57 (fq x.p),.fix 72 [.own 2],.dyn 74 1 mf (λ_=>x.sig),.fix 72 [.own 4],.dyn 74 1 mf (λ_=>x.out),.fix 179 (fq x.p)]
 pre x:=Vs x
 β:=Kp
 post x y:=y.out=kY x.p
 mv:=[]
 res x y:=.b (λ_=>true)
 j8 x y:=[.fix 57 (fq x.p),.fix 72 [.own 2],.dyn 74 1 mf (λ_=>y.sig),.fix 72 [.own 4],.dyn 74 1 mf (λ_=>y.out),.fix 179 (fq x.p)]
structure WkL where
 b:Nat
 st:List Int
 sig:List Int
 out:List Int
theorem anG:iC PP 88 ap3:=by
 refine mA (Pf 0 0) (fo Tryz.func88) (λa y=>rfl) (λa=>⟨rfl,rfl⟩) .nil ?_
 rintro ⟨⟨ins,blocks,outs,ay⟩,sig,out,rk⟩ hx
 have hx:Vs ⟨⟨ins,blocks,outs,ay⟩,sig,out,rk⟩:=hx
 have hp:=hx.w
 have ef:=hx.sh
 have ju:=hx.rk
 have rG:=hx.key
 simp only at hp ef ju rG
 clear hx
 have oA:blocks.length<=600:=hp.dH
 have eE:0<=(blocks.length:Int)/\8*(blocks.length:Int)<=281474976710656/\(blocks.length:Int)<=9223372036854775807:=by omega
 refine ⟨?_⟩
 cbv
 refine ⟨⟨eE.1,jI _,eE.2.1,eE.2.2⟩,?_⟩
 cbv
 have sN:List.replicate ((blocks.length:Int)).toNat (0:Int)=List.replicate blocks.length 0:=by rw [oS]
 obtain ⟨zx,y9⟩:∃l,List.replicate ((blocks.length:Int)).toNat (0:Int)=l:=⟨_,rfl⟩
 have tc:uf ⟨ins,blocks,outs,ay⟩ 0 zx:=by rw [<-y9,sN];exact .start ⟨ins,blocks,outs,ay⟩
 have Fe:mi ⟨ins,blocks,outs,ay⟩ zx sig out:=rG.ahv λc hc=>by
  rw [<-y9,sN] at hc
  have hm:=b_ (show (List.replicate blocks.length (0:Int))[c]?=some 2 from hc)
  have:=(DQ.1 hm).2
  omega
 refine Sat.ca (Pf 0 0) 11 7 [(.c 9 0,8)] (λx:WkL=>[(17,.i .i64 (λ_=>(blocks.length:Int))),(18,.i .i64 λ_=>(x.b:Int))]) (λx=>[(8,.dyn 3 1 bJ λ_=>x.st),(2,.dyn 74 1 mf (λ_=>x.sig)),(4,.dyn 74 1 mf (λ_=>x.out))])
  (λx=>uf ⟨ins,blocks,outs,ay⟩ x.b x.st/\mi ⟨ins,blocks,outs,ay⟩ x.st x.sig x.out) (λx=>blocks.length - x.b) ⟨0,zx,sig,out⟩ (by exact ao) (by have dM:=y9;exact bH) ⟨tc,Fe⟩ ?_
 rintro ⟨b,st,sT,dD⟩ ⟨hJ,hK⟩
 have hJ:uf ⟨ins,blocks,outs,ay⟩ b st:=hJ
 have hK:mi ⟨ins,blocks,outs,ay⟩ st sT dD:=hK
 have dW:b<=blocks.length:=hJ.le
 have h0:=n0 b
 have h1:=cd (i:=b) (by omega)
 cbv
 refine ⟨λh=>?_,λh=>?_⟩
 ·have aR:b < blocks.length:=bE
  have a7:blocks.length - (b+1) < blocks.length - b:=by omega
  have e9:Pl (lz st) ⟨⟨ins,blocks,outs,ay⟩,st,b,sT,dD,rk⟩:=⟨hp,ef,ju,hJ.w,h0,by show (b:Int) < blocks.length;omega,cP _,λc hc=>absurd hc (hJ.one c),hK⟩
  cbv
  refine bU.jD (aa4 (lz st)) (λa y=>trivial) ⟨⟨ins,blocks,outs,ay⟩,st,b,sT,dD,rk⟩ [9,8,6,10,7,0,1,2,3,4,5] rfl (by exact bP) (by exact ao) ⟨e9⟩ λy hy=>?_
  have hy:J5 ⟨⟨ins,blocks,outs,ay⟩,st,b,sT,dD,rk⟩ y:=hy.out
  obtain ⟨res,la,CG,qy⟩:=y
  have hr:res=true:=hy.res
  have zi:oY ⟨ins,blocks,outs,ay⟩ st b true la:=hy.out
  have wN:mi ⟨ins,blocks,outs,ay⟩ la CG qy:=hy.key
  subst hr
  cbv
  refine ⟨λh=>?_,λh=>?_⟩
  ·have h':(!true)=true:=h.out
   cases h'
  ·have bw:=hJ.next aR zi
   cbv
   exact ⟨⟨b+1,la,CG,qy⟩,by exact ao,by exact ao,⟨⟨⟨bw,wN⟩,a7⟩⟩⟩
 ·have bR:b=blocks.length:=by
   have h':aS b blocks.length=false:=h.out
   have h2:¬(b:Int) < blocks.length:=by simpa [aS] using h'
   omega
  have bV:dD=kY ⟨ins,blocks,outs,ay⟩:=hK.all λc hc=>hJ.two c (by rw [bR];exact hc)
  cbv
  exact ⟨⟨sT,dD⟩,[],[],⟨by exact aJ,trivial⟩,by exact ao,⟨bV⟩⟩
end Go.Proofs.Pk
