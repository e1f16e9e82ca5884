import Derived.Test.YthnhbemmlfaihaaGreatT19
import Derived.Test.YthnhbemmlfaihaaGreatT38
set_option linter.unusedVariables false
set_option linter.unusedSimpArgs false
set_option maxRecDepth 10000
set_option maxHeartbeats 64000000
namespace Go.Proofs.Pk
open Go Go.Vc
structure mE (p:bq) (cX:List Bool) (s:js) (st:List Int) (out:List Bool):Prop where
 ol:out.length=p.ins.length+2*p.blocks.length
 o7:∀i:Nat,i < p.ins.length->out[i]?=some (cX.getD i false)
 bf:∀(b:Nat) (x:Block),p.blocks[b]?=some x->out[p.ins.length+2*b+1]?=some (y8 s x.bf)
 done:∀(b:Nat) (x:Block),p.blocks[b]?=some x->St st 2 b->out[p.ins.length+2*b]?=some (CE p cX s b)
 new:∀(b:Nat) (x:Block),p.blocks[b]?=some x->¬St st 2 b->out[p.ins.length+2*b]?=some false
theorem mE.same {p:bq} {cX:List Bool} {s:js} {st gA:List Int} {out:List Bool} (h:mE p cX s st out) (hs:∀c,St gA 2 c↔St st 2 c):mE p cX s gA out:=⟨h.ol,h.o7,h.bf,λb x hx hb=>h.done b x hx ((hs b).1 hb),λb x hx hb=>h.new b x hx λh=>hb ((hs b).2 h)⟩
theorem mE.at {p:bq} {cX:List Bool} {s:js} {st:List Int} {out:List Bool} (h:mE p cX s st out) {g:Int} (hu:kj p g) (hd:(p.ins.length:Int)<=g->¬fj p.ins.length g->St st 2 (cK p.ins.length g)):Qc out g=xK p cX s (CE p cX s) g:=by
 have h0:=hu.lo
 have h1:=hu.hi
 unfold bq.sigs at h1
 unfold xK Qc
 rw [gW]
 split
 ·rename_i aR
  rw [h.o7 g.toNat (by omega)];rfl
 ·rename_i bR
  have dW:cK p.ins.length g < p.blocks.length:=by unfold cK;omega
  have hx:p.blocks[cK p.ins.length g]?=some (p.blocks[cK p.ins.length g]):=eh dW
  split
  ·rename_i hf
   have e:g.toNat=p.ins.length+2*cK p.ins.length g+1:=by unfold fj at hf;unfold cK;omega
   rw [e,h.bf _ _ hx]
   unfold Va
   rw [hx];rfl
  ·rename_i hf
   have e:g.toNat=p.ins.length+2*cK p.ins.length g:=by unfold fj at hf;unfold cK;omega
   rw [e,h.done _ _ hx (hd (by omega) hf)];rfl
theorem mE.val {p:bq} {cX:List Bool} {s:js} {st:List Int} {out:List Bool} (h:mE p cX s st out) {r:Nat->Nat} (hr:jy p r) {b:Nat} {x:Block} (hx:p.blocks[b]?=some x) (hu:∀g∈x.ins,kj p g) (hd:∀g∈x.ins,(p.ins.length:Int)<=g->¬fj p.ins.length g->St st 2 (cK p.ins.length g)):zC out s x=CE p cX s b:=by
 have hs:=ab0 hr cX s b
 rw [hs]
 unfold HJ
 rw [hx]
 simp only
 unfold Wv zC
 rw [map_eq λg hg=>h.at (hu g hg) (hd g hg)]
theorem mE.visit {p:bq} {cX:List Bool} {s:js} {st:List Int} {out:List Bool} (h:mE p cX s st out) {r:Nat->Nat} (hr:jy p r) {b:Nat} {x:Block} (hx:p.blocks[b]?=some x) (hb:St st 1 b) (hu:∀g∈x.ins,kj p g) (hd:∀g∈x.ins,(p.ins.length:Int)<=g->¬fj p.ins.length g->St st 2 (cK p.ins.length g)) {y:List Bool} (hy:Ff ⟨p,out,b,s⟩ y):mE p cX s (st.set b 2) y:=by
 obtain ⟨z,hz,h1⟩:=hy.ok
 have hz:p.blocks[b]?=some z:=by simpa using hz
 rw [hx] at hz;cases hz
 have aR:=(bX.1 hx).1
 have h1:y=out.set (p.ins.length+2*b) (zC out s x):=by simpa using h1
 rw [h.val hr hx hu hd] at h1
 rw [h1]
 have gd:=h.ol
 refine ⟨by simp [h.ol],λi hi=>?_,λc w hw=>?_,λc w hw hc=>?_,λc w hw hc=>?_⟩
 ·rw [eU (by omega)];exact h.o7 i hi
 ·rw [eU (by omega)];exact h.bf c w hw
 ·by_cases gn:c=b
  ·subst gn
   rw [iT]
   simp [gd,aR]
  ·rw [eU (by omega)]
   exact h.done c w hw ((St.q9 gn).1 hc)
 ·by_cases gn:c=b
  ·subst gn
   exact absurd ((St.Ar hb.lt).2 rfl) hc
  ·rw [eU (by omega)]
   exact h.new c w hw λh=>hc ((St.q9 gn).2 h)
structure WO where
 p:bq
 st:List Int
 b:Int
 out:List Bool
 r:Nat->Nat
 cX:List Bool
 s:js
structure afC where
 res:Bool
 st:List Int
 out:List Bool
structure Pm (n:Nat) (x:WO):Prop where
 w:xm x.p
 sh:Shape x.p
 rk:jy x.p x.r
 st:wI x.p x.st
 lo:0<=x.b
 hi:x.b < x.p.blocks.length
 z:lz x.st<=n
 on:∀c,St x.st 1 c->x.r x.b.toNat < x.r c
 key:mE x.p x.cX x.s x.st x.out
structure J6 (x:WO) (y:afC):Prop where
 res:y.res=true
 out:oY x.p x.st x.b.toNat true y.st
 key:mE x.p x.cX x.s y.st y.out
@[reducible] noncomputable def ahz (p:bq) (st:List Int) (out:List Bool) (s:js):List Slot :=
 [.fix 35 [.own 1],.dyn 3 1 bJ (λ_=>st),.fix 179 (fq p),.fix 180 [.fn (.func 179) [] [.ptr 0 0,.ptr 2 0,.ptr 3 0,.ptr 4 0]],.fix 187 [.fn (.func 218) [] [.ptr 5 0,.ptr 6 0,.ptr 8 0,.ptr 9 0]],
  .fix 57 (fq p),.fix 41 [.own 7],.dyn 4 1 iU (λ_=>out),.fix 179 (fq p),.fix 38 (CH s)]
@[reducible] noncomputable def T9 (n:Nat):mP where
 α:=WO
 args x:=[.i .i64 (λ_=>x.b),.ptr 0 0,.ptr 2 0,.ptr 3 0,.ptr 4 0]
 io x:=ahz x.p x.st x.out x.s
 pre x:=Pm n x
 β:=afC
 post x y:=J6 x y
 mv:=[]
 res x y:=.b (λ_=>y.res)
 j8 x y:=ahz x.p y.st y.out x.s
structure EeL where
 j:Nat
 st:List Int
 out:List Bool
noncomputable def cEe (n m:Nat):Ctx:=eB n m [(94,Tryz.f94),(179,Tryz.f179),(218,Tryz.f218)] [] [179,218]
theorem afD (n m:Nat):CB PP (cEe n m):=eD n m ⟨fo Tryz.func94,fo Tryz.func179,fo Tryz.func218,trivial⟩ trivial
theorem ZU (n:Nat) (ih:∀m,m+1=n->iC PP 179 (T9 m)):iC PP 179 (T9 n):=by
 refine mA (afD 0 0) (fo Tryz.func179) (λa y=>rfl) (λa=>⟨rfl,rfl⟩) .nil ?_
 rintro ⟨⟨ins,blocks,outs,ay⟩,st,b,out,rk,cX,ps⟩ hx
 have hx:Pm n ⟨⟨ins,blocks,outs,ay⟩,st,b,out,rk,cX,ps⟩:=hx
 have hp:=hx.w
 have ef:=hx.sh
 have ju:=hx.rk
 have cG:=hx.st
 have eb:0<=b:=hx.lo
 have dW:b < blocks.length:=hx.hi
 have hz:lz st<=n:=hx.z
 have Me:∀c,St st 1 c->rk b.toNat < rk c:=hx.on
 have rG:=hx.key
 simp only at hp ef ju cG rG
 clear hx
 have ahf:st.length=blocks.length:=cG.len
 have jb:0<=b/\b.toNat < st.length:=by omega
 obtain ⟨v,hv⟩:=bz jb.2
 refine ⟨?_⟩
 cbv
 refine ⟨⟨jb⟩,v,⟨hv,rfl⟩,?_⟩
 cbv
 refine ⟨λh=>?_,λh=>?_⟩
 ·have pX:v=1:=bE
  exact absurd (Me b.toNat (by rw [<-pX];exact hv)) (Nq _)
 ·have pX:v≠1:=bE
  cbv
  refine ⟨λh=>?_,λh=>?_⟩
  ·have jM:v=2:=bE
   have bV:J6 ⟨⟨ins,blocks,outs,ay⟩,st,b,out,rk,cX,ps⟩ ⟨true,st,out⟩:=⟨rfl,.Ck cG (by rw [<-jM];exact hv),rG⟩
   cbv
   exact ⟨⟨true,st,out⟩,[],[],⟨by exact aJ,trivial⟩,by exact ao,⟨bV⟩⟩
  ·have jM:v≠2:=bE
   have h_:St st 0 b.toNat:=by
    have:=cG.val _ _ hv
    have e:v=0:=by omega
    rw [<-e];exact hv
   have QN:=SW h_
   refine (⟨n - 1,by omega⟩:∃m,m+1=n).elim λm hm=>?_
   have ih:=ih m hm
   refine (bz (l:=blocks) (i:=b.toNat) (by omega)).elim λx hx=>?_
   have gP:=b_ hx
   have yc:∀s∈x.ins,0<=s/\s < (ins.length:Int)+2*blocks.length:=hp.used x gP
   have o8:∀s∈x.ins,kj ⟨ins,blocks,outs,ay⟩ s:=ef.used x gP
   have lY:=hp.k x gP
   have oA:blocks.length<=600:=hp.dH
   have P6:ins.length<=1000000:=hp.ins
   have tc:=oJ.start cG h_ x
   have Fe:mE ⟨ins,blocks,outs,ay⟩ cX ps (st.set b.toNat 1) out:=rG.same λc=>by
    by_cases gn:c=b.toNat
    ·rw [gn]
     exact ⟨λhc=>by have:=(St.Ar h_.lt).1 hc;omega,λhc=>by have:=hc.uniq h_;omega⟩
    ·exact St.q9 gn
   cbv
   refine ⟨⟨jb⟩,?_⟩
   cbv
   refine ⟨(v,1),⟨hv,rfl,by exact aJ⟩,?_⟩
   cbv
   refine ⟨x,⟨eb,hx⟩,?_⟩
   cbv
   refine Sat.ca (afD 0 0) 10 7 [] (λy:EeL=>[(28,.sl 1 bJ (λ_=>x.ins)),(29,.i .i64 (λ_=>(x.ins.length:Int))),(30,.i .i64 λ_=>(y.j:Int))]) (λy=>[(1,.dyn 3 1 bJ λ_=>y.st),(7,.dyn 4 1 iU λ_=>y.out)])
    (λy=>oJ ⟨ins,blocks,outs,ay⟩ st b.toNat x y.j y.st/\mE ⟨ins,blocks,outs,ay⟩ cX ps y.st y.out) (λy=>x.ins.length - y.j) ⟨0,st.set b.toNat 1,out⟩ (by exact ao) (by exact ao) ⟨tc,Fe⟩ ?_
   rintro ⟨j,gR,dD⟩ ⟨hJ,hK⟩
   have hJ:oJ ⟨ins,blocks,outs,ay⟩ st b.toNat x j gR:=hJ
   have hK:mE ⟨ins,blocks,outs,ay⟩ cX ps gR dD:=hK
   have eA:=hJ.le
   have iG:=n0 j
   have u9:=cd (i:=j) (by omega)
   cbv
   refine ⟨λh=>?_,λh=>?_⟩
   ·have uQ:j < x.ins.length:=bE
    have a7:x.ins.length - (j+1) < x.ins.length - j:=by omega
    refine (bz uQ).elim λs hs=>?_
    have p8:=yc s (b_ hs)
    cbv
    refine ⟨s,⟨iG,hs⟩,?_⟩
    cbv
    refine ⟨λh=>?_,λh=>?_⟩
    ·have aR:s < (ins.length:Int):=bE
     have bw:=hJ.skip hs (λh=>by have:=h.1;simp only at this;omega)
     cbv
     exact ⟨⟨j+1,gR,dD⟩,by exact ao,by exact ao,⟨⟨⟨bw,hK⟩,a7⟩⟩⟩
    ·have bR:(ins.length:Int)<=s:=bE
     have p8:0<=s/\s < (ins.length:Int)+2*(blocks.length:Int):=p8
     refine (⟨_,rfl⟩:∃d:Nat,cK ins.length s=d).elim λd hd=>?_
     have fB:IntKind.i64.wrap (s - (ins.length:Int))=s - (ins.length:Int):=cz (by omega) (by omega)
     have qI:(s - (ins.length:Int)) / 2=(d:Int):=by rw [<-hd];unfold cK;omega
     have hc:IntKind.i64.wrap ((IntKind.i64.wrap (s - (ins.length:Int))).tdiv 2)=(d:Int):=by
      rw [fB,zX (by omega),qI];exact cz (by omega) (by omega)
     have hm:(IntKind.i64.wrap (s - (ins.length:Int))).tmod 2=(s - (ins.length:Int)) % 2:=by
      rw [fB,w8 (by omega)]
     have fO:d < blocks.length:=by omega
     cbv
     refine ⟨⟨by decide⟩,⟨by decide⟩,λh=>?_,λh=>?_⟩
     ·cbv
      refine ⟨λh=>?_,λh=>?_⟩
      ·have lF:¬fj ins.length s:=by
        have h':(!aV ((IntKind.i64.wrap (s - (ins.length:Int))).tmod 2) 1)=true:=h.out
        rw [hm] at h'
        unfold fj
        simpa [aV] using h'
       have mD:rk d < rk b.toNat:=by
        have:=ju b.toNat x hx s (b_ hs) bR lF
        rw [show cK ins.length s=d from hd] at this
        exact this
       have e9:Pm m ⟨⟨ins,blocks,outs,ay⟩,gR,d,dD,rk,cX,ps⟩:=⟨hp,ef,ju,hJ.w,by show 0<=(d:Int);omega,by show (d:Int) < blocks.length;omega,by have:=hJ.z;show lz gR<=m;omega,λc hc=>by
        show rk d < rk c
        rcases (hJ.one c).1 hc with h|h
        ·have:=Me c h;omega
        ·rw [h];exact mD,hK⟩
       cbv
       refine bU.jD ih (λa y=>trivial) ⟨⟨ins,blocks,outs,ay⟩,gR,d,dD,rk,cX,ps⟩ [0,1,2,3,4,5,6,7,8,9] rfl (by exact bP) (by exact ao) ⟨e9⟩ λy hy=>?_
       have hy:J6 ⟨⟨ins,blocks,outs,ay⟩,gR,d,dD,rk,cX,ps⟩ y:=hy.out
       obtain ⟨res,la,qy⟩:=y
       have hr:res=true:=hy.res
       have zi:oY ⟨ins,blocks,outs,ay⟩ gR d true la:=hy.out
       have wN:mE ⟨ins,blocks,outs,ay⟩ cX ps la qy:=hy.key
       subst hr
       cbv
       refine ⟨λh=>?_,λh=>?_⟩
       ·have h':(!true)=true:=h.out
        cases h'
       ·have bw:=hJ.go hs h_ (by rw [show cK ins.length s=d from hd];exact zi)
        cbv
        exact ⟨⟨j+1,la,qy⟩,by exact ao,by exact ao,⟨⟨⟨bw,wN⟩,a7⟩⟩⟩
      ·have lF:fj ins.length s:=by
        have h':(!aV ((IntKind.i64.wrap (s - (ins.length:Int))).tmod 2) 1)=false:=h.out
        rw [hm] at h'
        unfold fj
        simpa [aV] using h'
       have bw:=hJ.skip hs (λh=>h.2 lF)
       cbv
       exact ⟨⟨j+1,gR,dD⟩,by exact ao,by exact ao,⟨⟨⟨bw,hK⟩,a7⟩⟩⟩
     ·exfalso
      have h':cR 0 (IntKind.i64.wrap ((IntKind.i64.wrap (s - (ins.length:Int))).tdiv 2))=false:=h.out
      rw [hc] at h'
      simp only [cR,decide_eq_false_iff_not] at h'
      exact aU
   ·have nV:j=x.ins.length:=by
     have h':aS j x.ins.length=false:=h.out
     have h2:¬(j:Int) < x.ins.length:=by simpa [aS] using h'
     omega
    have bV:=hJ.out hx h_ nV
    have yW:St gR 1 b.toNat:=(hJ.one b.toNat).2 (.inr rfl)
    refine (⟨_,rfl⟩:∃l,gR.set b.toNat 2=l).elim λla h3=>?_
    have WL:∀y:List Bool,Ff ⟨⟨ins,blocks,outs,ay⟩,dD,b,ps⟩ y->mE ⟨ins,blocks,outs,ay⟩ cX ps la y:=λy hy=>by
     rw [<-h3]
     refine hK.visit ju hx yW o8 (λs hs h1 h2=>?_) (by rw [show ((b.toNat:Nat):Int)=b by omega];exact hy)
     obtain ⟨i,hi,e⟩:=z8.1 hs
     exact hJ.ins i s (by omega) (by rw [eh hi,e]) h1 h2
    have Yl:Vr ⟨⟨ins,blocks,outs,ay⟩,dD,b,ps⟩:=⟨oA,P6,eb,dW,hK.ol,hp.used,λz hz=>(ef.formed z hz).k,λz hz=>(ef.formed z hz).bZ.2,hK.new b.toNat x hx λh=>by have:=h.uniq yW;omega⟩
    rw [h3] at bV
    have CF:0<=b/\b.toNat < gR.length:=by have:=hJ.w.len;simp only at this;omega
    refine (bz CF.2).elim λu hu=>?_
    cbv
    refine ⟨⟨CF⟩,?_⟩
    cbv
    refine ⟨(u,2),⟨hu,rfl,by exact aJ⟩,?_⟩
    cbv
    refine bU.jD amE (λa y=>trivial) ⟨⟨ins,blocks,outs,ay⟩,dD,b,ps⟩ [5,6,7,8,9] rfl (by exact bP) (by exact ao) ⟨Yl⟩ λqy hy=>?_
    have wN:=WL qy hy.out
    have Hk:J6 ⟨⟨ins,blocks,outs,ay⟩,st,b,out,rk,cX,ps⟩ ⟨true,la,qy⟩:=⟨rfl,bV,wN⟩
    cbv
    exact ⟨⟨true,la,qy⟩,[],[],⟨by exact aJ,trivial⟩,by have dM:=h3;exact bH,⟨Hk⟩⟩
theorem aa5:∀n,iC PP 179 (T9 n)
 | 0=>ZU 0 λm h=>by omega
 | n+1=>ZU (n+1) λm h=>by
  cases SF h
  exact aa5 n
theorem mE.all {p:bq} {cX:List Bool} {s:js} {st:List Int} {out:List Bool} (h:mE p cX s st out) (ha:∀c,c < p.blocks.length->St st 2 c):out=yT p cX s:=by
 refine nL λi=>?_
 unfold yT
 rw [mM]
 by_cases hi:i < p.ins.length+2*p.blocks.length
 ·rw [Gc hi]
  simp only [yv]
  unfold xK
  by_cases hw:i < p.ins.length
  ·rw [if_pos (by omega),h.o7 i hw,oS]
  ·rw [if_neg (by omega)]
   have dW:cK p.ins.length (i:Int) < p.blocks.length:=by unfold cK;omega
   have hx:p.blocks[cK p.ins.length (i:Int)]?=some (p.blocks[cK p.ins.length (i:Int)]):=eh dW
   by_cases hf:fj p.ins.length (i:Int)
   ·rw [if_pos hf]
    have e:i=p.ins.length+2*cK p.ins.length (i:Int)+1:=by unfold fj at hf;unfold cK;omega
    conv=>lhs;rw [e]
    rw [h.bf _ _ hx]
    unfold Va
    rw [hx]
   ·rw [if_neg hf]
    have e:i=p.ins.length+2*cK p.ins.length (i:Int):=by unfold fj at hf;unfold cK;omega
    conv=>lhs;rw [e]
    rw [h.done _ _ hx (ha _ dW)]
 ·rw [l6 (by rw [h.ol];omega),l6 (by simpa using hi)];rfl
structure ahA where
 p:bq
 out:List Bool
 r:Nat->Nat
 cX:List Bool
 s:js
structure Vt (x:ahA):Prop where
 w:xm x.p
 sh:Shape x.p
 rk:jy x.p x.r
 key:mE x.p x.cX x.s [] x.out
@[reducible] noncomputable def ap4:mP where
 α:=ahA
 args x:=[.agg (fq x.p),.fn (.func 218) [] [.ptr 0 0,.ptr 1 0,.ptr 3 0,.ptr 4 0]]
 io x:=Qd x.p x.out x.s
 pre x:=Vt x
 β:=List Bool
 post x y:=y=yT x.p x.cX x.s
 mv:=[]
 res x y:=.b (λ_=>true)
 j8 x y:=Qd x.p y x.s
structure WeL where
 b:Nat
 st:List Int
 out:List Bool
noncomputable def cWe (n m:Nat):Ctx:=eB n m [(179,Tryz.f179)] [] [179]
theorem afE (n m:Nat):CB PP (cWe n m):=eD n m ⟨fo Tryz.func179,trivial⟩ trivial
theorem anH:iC PP 88 ap4:=by
 refine mA (afE 0 0) (fo Tryz.func88) (λa y=>rfl) (λa=>⟨rfl,rfl⟩) .nil ?_
 rintro ⟨⟨ins,blocks,outs,ay⟩,out,rk,cX,ps⟩ hx
 have hx:Vt ⟨⟨ins,blocks,outs,ay⟩,out,rk,cX,ps⟩:=hx
 have hp:=hx.w
 have ef:=hx.sh
 have ju:=hx.rk
 have rG:=hx.key
 simp only at hp ef ju rG
 clear hx
 have oA:blocks.length<=600:=hp.dH
 have eE:0<=(blocks.length:Int)/\8*(blocks.length:Int)<=281474976710656/\(blocks.length:Int)<=9223372036854775807:=by omega
 refine ⟨?_⟩
 cbv
 refine ⟨⟨eE.1,jI _,eE.2.1,eE.2.2⟩,?_⟩
 cbv
 have sN:List.replicate ((blocks.length:Int)).toNat (0:Int)=List.replicate blocks.length 0:=by rw [oS]
 obtain ⟨zx,y9⟩:∃l,List.replicate ((blocks.length:Int)).toNat (0:Int)=l:=⟨_,rfl⟩
 have tc:uf ⟨ins,blocks,outs,ay⟩ 0 zx:=by rw [<-y9,sN];exact .start ⟨ins,blocks,outs,ay⟩
 have Fe:mE ⟨ins,blocks,outs,ay⟩ cX ps zx out:=rG.same λc=>⟨λhc=>by
  rw [<-y9,sN] at hc
  have hm:=b_ (show (List.replicate blocks.length (0:Int))[c]?=some 2 from hc)
  have:=(DQ.1 hm).2
  omega,λhc=>by cases hc⟩
 refine Sat.ca (afE 0 0) 10 7 [(.c 8 0,7)] (λx:WeL=>[(17,.i .i64 (λ_=>(blocks.length:Int))),(18,.i .i64 λ_=>(x.b:Int))]) (λx=>[(7,.dyn 3 1 bJ λ_=>x.st),(2,.dyn 4 1 iU (λ_=>x.out))])
  (λx=>uf ⟨ins,blocks,outs,ay⟩ x.b x.st/\mE ⟨ins,blocks,outs,ay⟩ cX ps x.st x.out) (λx=>blocks.length - x.b) ⟨0,zx,out⟩ (by exact ao) (by have dM:=y9;exact bH) ⟨tc,Fe⟩ ?_
 rintro ⟨b,st,dD⟩ ⟨hJ,hK⟩
 have hJ:uf ⟨ins,blocks,outs,ay⟩ b st:=hJ
 have hK:mE ⟨ins,blocks,outs,ay⟩ cX ps st dD:=hK
 have dW:b<=blocks.length:=hJ.le
 have h0:=n0 b
 have h1:=cd (i:=b) (by omega)
 cbv
 refine ⟨λh=>?_,λh=>?_⟩
 ·have aR:b < blocks.length:=bE
  have a7:blocks.length - (b+1) < blocks.length - b:=by omega
  have e9:Pm (lz st) ⟨⟨ins,blocks,outs,ay⟩,st,b,dD,rk,cX,ps⟩:=⟨hp,ef,ju,hJ.w,h0,by show (b:Int) < blocks.length;omega,cP _,λc hc=>absurd hc (hJ.one c),hK⟩
  cbv
  refine bU.jD (aa5 (lz st)) (λa y=>trivial) ⟨⟨ins,blocks,outs,ay⟩,st,b,dD,rk,cX,ps⟩ [8,7,5,9,6,0,1,2,3,4] rfl (by exact bP) (by exact ao) ⟨e9⟩ λy hy=>?_
  have hy:J6 ⟨⟨ins,blocks,outs,ay⟩,st,b,dD,rk,cX,ps⟩ y:=hy.out
  obtain ⟨res,la,qy⟩:=y
  have hr:res=true:=hy.res
  have zi:oY ⟨ins,blocks,outs,ay⟩ st b true la:=hy.out
  have wN:mE ⟨ins,blocks,outs,ay⟩ cX ps la qy:=hy.key
  subst hr
  cbv
  refine ⟨λh=>?_,λh=>?_⟩
  ·have h':(!true)=true:=h.out
   cases h'
  ·have bw:=hJ.next aR zi
   cbv
   exact ⟨⟨b+1,la,qy⟩,by exact ao,by exact ao,⟨⟨⟨bw,wN⟩,a7⟩⟩⟩
 ·have bR:b=blocks.length:=by
   have h':aS b blocks.length=false:=h.out
   have h2:¬(b:Int) < blocks.length:=by simpa [aS] using h'
   omega
  have bV:dD=yT ⟨ins,blocks,outs,ay⟩ cX ps:=hK.all λc hc=>hJ.two c (by rw [bR];exact hc)
  cbv
  exact ⟨dD,[],[],⟨by exact aJ,trivial⟩,by exact ao,⟨bV⟩⟩
structure CI (p:bq):Prop where
 sh:Shape p
 rk:∃r,jy p r
 ins:p.ins.length<=1000000
@[reducible] noncomputable def Pn:Vc.Spec where
 α:=bq
 args x:=[.agg (fq x)]
 pre x:=CI x
 res x:=.sl 1 mf (λ_=>kY x)
 fr:=true
structure IB (p:bq) (i:Nat) (sig:List Int):Prop where
 le:i<=p.ins.length
 sl:sig.length=p.ins.length+2*p.blocks.length
 o7:∀s:Nat,s < i->sig[s]?=some (Kn p s)
theorem IB.add {p:bq} {i:Nat} {sig:List Int} (h:IB p i sig) {w:bT} (hw:p.ins[i]?=some w):IB p (i+1) (sig.set i (ie [2,w.kind,w.i,w.bit])):=by
 have aR:=(bX.1 hw).1
 refine ⟨aR,by simp [h.sl],λs hs=>?_⟩
 by_cases e:s=i
 ·subst e
  have jc:=h.sl
  rw [iT]
  simp only [if_true]
  rw [if_pos (by omega)]
  unfold Kn
  rw [oS,gW,hw]
  rfl
 ·rw [eU (λh=>e h.symm)];exact h.o7 s (by omega)
structure zD (p:bq) (i:Nat) (sig out:List Int):Prop where
 le:i<=p.blocks.length
 sl:sig.length=p.ins.length+2*p.blocks.length
 ol:out.length=p.blocks.length
 o7:∀s:Nat,s < p.ins.length->sig[s]?=some (Kn p s)
 bf:∀(b:Nat) (x:Block),b < i->p.blocks[b]?=some x->0<=x.bf->sig[p.ins.length+2*b]?=some (ie [3,x.bf])/\sig[p.ins.length+2*b+1]?=some (ie [1,x.bf])/\out[b]?=some (ie [1,x.bf])
theorem zD.skip {p:bq} {i:Nat} {sig out:List Int} (h:zD p i sig out) {x:Block} (hx:p.blocks[i]?=some x) (hr:x.bf < 0):zD p (i+1) sig out :=
 ⟨(
  bX.1 hx).1,h.sl,h.ol,h.o7,λb y hb hy h0=>by
  by_cases e:b=i
  ·subst e;rw [hx] at hy;cases hy;omega
  ·exact h.bf b y (by omega) hy h0⟩
theorem zD.add {p:bq} {i:Nat} {sig out:List Int} (h:zD p i sig out) {x:Block} (hx:p.blocks[i]?=some x) (hr:0<=x.bf):zD p (i+1) ((sig.set (p.ins.length+2*i) (ie [3,x.bf])).set (p.ins.length+2*i+1) (ie [1,x.bf])) (out.set i (ie [1,x.bf])):=by
 have aR:=(bX.1 hx).1
 have jc:=h.sl
 have gd:=h.ol
 refine ⟨aR,by simp [jc],by simp [gd],λs hs=>?_,λb y hb hy h0=>?_⟩
 ·rw [eU (by omega),eU (by omega)];exact h.o7 s hs
 ·by_cases e:b=i
  ·subst e;rw [hx] at hy;cases hy
   refine ⟨?_,?_,?_⟩
   ·rw [eU (by omega),iT];simp;omega
   ·rw [iT];simp;omega
   ·rw [iT];simp;omega
  ·rw [eU (by omega),eU (by omega),eU (by omega),eU (by omega),eU (by omega)]
   exact h.bf b y (by omega) hy h0
noncomputable def cKy (n m:Nat):Ctx:=eB n m [(98,Tryz.f98),(88,Tryz.f88)] [(99,T3),(95,Cf)] [88]
theorem Vu (n m:Nat):CB PP (cKy n m):=eD n m ⟨fo Tryz.func98,fo Tryz.func88,trivial⟩ ⟨aa0,Ef,trivial⟩
theorem T_:cS (PP ()) 26 Pn:=by
 refine Ov (Vu 0 0) (fo Tryz.func26) (λa=>⟨km a,trivial⟩) (λa=>(λx=>(N1 x).1)) ?_
 rintro ⟨ins,blocks,outs,ay⟩ hx
 have hx:CI ⟨ins,blocks,outs,ay⟩:=hx
 have ef:=hx.sh
 have gQ:ins.length<=1000000:=hx.ins
 obtain ⟨rk,ju⟩:=hx.rk
 have oA:blocks.length<=600:=ef.dH
 have dx:IntKind.i64.wrap ((ins.length:Int)+IntKind.i64.wrap (2*(blocks.length:Int)))=((ins.length+2*blocks.length:Nat):Int):=by rw [cz (n:=2*(blocks.length:Int)) (by omega) (by omega),cz (by omega) (by omega)];omega
 have eE:0<=IntKind.i64.wrap ((ins.length:Int)+IntKind.i64.wrap (2*(blocks.length:Int)))/\8*IntKind.i64.wrap ((ins.length:Int)+IntKind.i64.wrap (2*(blocks.length:Int)))<=281474976710656/\IntKind.i64.wrap ((ins.length:Int)+IntKind.i64.wrap (2*(blocks.length:Int)))<=9223372036854775807:=by rw [dx];omega
 have WQ:0<=(blocks.length:Int)/\8*(blocks.length:Int)<=281474976710656/\(blocks.length:Int)<=9223372036854775807:=by omega
 obtain ⟨s0,FQ⟩:∃s0,List.replicate (IntKind.i64.wrap ((ins.length:Int)+IntKind.i64.wrap (2*(blocks.length:Int)))).toNat (0:Int)=s0:=⟨_,rfl⟩
 have Q6:IB ⟨ins,blocks,outs,ay⟩ 0 s0:=⟨cJ _,by rw [<-FQ,dx,rK];rfl,λs h=>by omega⟩
 refine ⟨?_⟩
 cbv
 refine ⟨⟨eE.1,jI _,eE.2.1,eE.2.2⟩,?_⟩
 cbv
 refine Sat.ca (Vu 0 0) 5 5 [(.c 4 0,3)] (λx:Nat × List Int=>[(16,.sl 3 dc (λ_=>ins)),(17,.i .i64 (λ_=>(ins.length:Int))),(18,.i .i64 (λ_=>(x.1:Int)))]) (λx=>[(3,.dyn 74 1 mf (λ_=>x.2))])
  (λx=>IB ⟨ins,blocks,outs,ay⟩ x.1 x.2) (λx=>ins.length - x.1) (0,s0) (by exact ao) (by have dM:=FQ;exact bH) Q6 ?_
 rintro ⟨i,sig⟩ hJ
 have hJ:IB ⟨ins,blocks,outs,ay⟩ i sig:=hJ
 have hi:i<=ins.length:=hJ.le
 have jc:sig.length=ins.length+2*blocks.length:=hJ.sl
 have h0:=n0 i
 have h1:=cd (i:=i) (by omega)
 cbv
 refine ⟨λh=>?_,λh=>?_⟩
 ·have bp:i < ins.length:=bE
  have a7:ins.length - (i+1) < ins.length - i:=by omega
  refine (bz bp).elim λw hw=>?_
  refine (⟨_,rfl⟩:∃K,ie [2,w.kind,w.i,w.bit]=K).elim λK hK=>?_
  have bw:=hJ.add (w:=w) hw
  rw [hK] at bw
  have ua:0<=(i:Int)/\(i:Int).toNat < sig.length:=⟨h0,by omega⟩
  refine (bz ua.2).elim λu hu=>?_
  refine (⟨_,rfl⟩:∃s2,sig.set i K=s2).elim λs2 s9=>?_
  rw [s9] at bw
  have aua:sig.set ((i:Int)).toNat K=s2:=s9
  cbv
  refine ⟨w,⟨h0,hw⟩,?_⟩
  cbv
  refine ⟨[2,w.kind,w.i,w.bit],⟨.inl ⟨by exact bP,rfl⟩,by show 4 < 4611686018427387904;decide⟩,?_⟩
  cbv
  refine ⟨⟨ua⟩,?_⟩
  cbv
  refine ⟨(u,K),⟨hu,rfl,by have bj:=hK;exact dv⟩,?_⟩
  cbv
  exact ⟨(i+1,s2),by exact ao,by have dM:=aua;exact bH,⟨⟨bw,a7⟩⟩⟩
 ·have bR:i=ins.length:=by
   have h':aS i ins.length=false:=h.out
   have h2:¬(i:Int) < ins.length:=by simpa [aS] using h'
   omega
  obtain ⟨o0,ho0⟩:∃o0,List.replicate ((blocks.length:Int)).toNat (0:Int)=o0:=⟨_,rfl⟩
  have Mc:zD ⟨ins,blocks,outs,ay⟩ 0 sig o0:=⟨cJ _,jc,by rw [<-ho0,rK,oS],λs hs=>hJ.o7 s (by rw [bR];exact hs),λb x hb=>by omega⟩
  clear hJ hi h0 h1
  cbv
  refine ⟨⟨WQ.1,jI _,WQ.2.1,WQ.2.2⟩,?_⟩
  cbv
  refine Sat.ca (Vu 0 0) 7 5 [(.c 4 0,3),(.c 6 0,5)] (λx:Nat × List Int × List Int=>[(7,.ptr 6 0),(40,.sl 5 oe (λ_=>blocks)),(41,.i .i64 (λ_=>(blocks.length:Int))),(42,.i .i64 (λ_=>(x.1:Int)))]) (λx=>[(3,.dyn 74 1 mf (λ_=>x.2.1)),(5,.dyn 74 1 mf (λ_=>x.2.2))])
   (λx=>zD ⟨ins,blocks,outs,ay⟩ x.1 x.2.1 x.2.2) (λx=>blocks.length - x.1) (0,sig,o0) (by exact ao) (by have dM:=ho0;exact bH) Mc ?_
  rintro ⟨i,sig,out⟩ hJ
  have hJ:zD ⟨ins,blocks,outs,ay⟩ i sig out:=hJ
  have hi:i<=blocks.length:=hJ.le
  have jc:sig.length=ins.length+2*blocks.length:=hJ.sl
  have gd:out.length=blocks.length:=hJ.ol
  have h0:=n0 i
  have h1:=cd (i:=i) (by omega)
  cbv
  refine ⟨λh=>?_,λh=>?_⟩
  ·have bp:i < blocks.length:=bE
   have a7:blocks.length - (i+1) < blocks.length - i:=by omega
   refine (bz bp).elim λx hx=>?_
   cbv
   refine ⟨x,⟨h0,hx⟩,?_⟩
   cbv
   refine ⟨λh=>?_,λh=>?_⟩
   ·have hr:0<=x.bf:=bE
    refine (⟨_,rfl⟩:∃K,ie [1,x.bf]=K).elim λK hK=>?_
    refine (⟨_,rfl⟩:∃M,ie [3,x.bf]=M).elim λM hM=>?_
    have bw:=hJ.add hx hr
    rw [hK,hM] at bw
    have wJ:0<=(i:Int)/\(i:Int).toNat < out.length:=⟨h0,by omega⟩
    refine (bz wJ.2).elim λu hu=>?_
    have HM:(i:Int)<=1000000:=by omega
    have yd:0<=(ins.length:Int)+2*(i:Int)/\((ins.length:Int)+2*(i:Int)).toNat < sig.length:=by omega
    refine (bz yd.2).elim λu2 uc=>?_
    have s7:IntKind.i64.wrap ((ins.length:Int)+2*(i:Int)+1)=((ins.length+2*i+1:Nat):Int):=by rw [cz (by omega) (by omega)];omega
    have ahB:0<=IntKind.i64.wrap ((ins.length:Int)+2*(i:Int)+1)/\(IntKind.i64.wrap ((ins.length:Int)+2*(i:Int)+1)).toNat < (sig.set ((ins.length:Int)+2*(i:Int)).toNat M).length:=by rw [s7,kB];omega
    refine (bz ahB.2).elim λu3 XZ=>?_
    have Wy:0<=(i:Int)/\(i:Int).toNat < (out.set (i:Int).toNat K).length:=by rw [kB];exact wJ
    have Bj:(out.set (i:Int).toNat K)[(i:Int).toNat]?=some K:=by rw [iT];simp;omega
    refine (⟨_,rfl⟩:∃o2,out.set (i:Int).toNat K=o2).elim λo2 jV=>?_
    refine (⟨_,rfl⟩:∃s2,(sig.set ((ins.length:Int)+2*(i:Int)).toNat M).set (IntKind.i64.wrap ((ins.length:Int)+2*(i:Int)+1)).toNat K=s2).elim λs2 s9=>?_
    have e1:((ins.length:Int)+2*(i:Int)).toNat=ins.length+2*i:=by omega
    have bw:zD ⟨ins,blocks,outs,ay⟩ (i+1) s2 o2:=by
     rw [<-s9,<-jV,s7,e1];exact bw
    cbv
    refine ⟨[1,x.bf],⟨.inl ⟨by exact bP,rfl⟩,by show 2 < 4611686018427387904;decide⟩,?_⟩
    cbv
    refine ⟨⟨wJ⟩,?_⟩
    cbv
    refine ⟨(u,K),⟨hu,rfl,by have bj:=hK;exact dv⟩,?_⟩
    cbv
    refine ⟨⟨⟨ins,blocks,outs,ay⟩,i⟩,⟨by exact bP,gQ,h0,HM⟩,?_⟩
    cbv
    refine ⟨⟨⟨ins,blocks,outs,ay⟩,i⟩,⟨by exact bP,gQ,h0,HM⟩,?_⟩
    cbv
    refine ⟨[3,x.bf],⟨.inl ⟨by exact bP,rfl⟩,by show 2 < 4611686018427387904;decide⟩,?_⟩
    cbv
    refine ⟨⟨Wy⟩,K,⟨Bj,rfl⟩,?_⟩
    cbv
    refine ⟨⟨yd⟩,?_⟩
    cbv
    refine ⟨(u2,M),⟨uc,rfl,by have bj:=hM;exact dv⟩,?_⟩
    cbv
    refine ⟨⟨ahB⟩,?_⟩
    cbv
    refine ⟨(u3,K),⟨XZ,rfl,by exact aJ⟩,?_⟩
    cbv
    exact ⟨(i+1,s2,o2),by exact ao,by have dM:=s9;have kq:=jV;exact bH,⟨⟨bw,a7⟩⟩⟩
   ·have hr:x.bf < 0:=bE
    have bw:=hJ.skip hx hr
    cbv
    exact ⟨(i+1,sig,out),by exact ao,by exact ao,⟨⟨bw,a7⟩⟩⟩
  ·have bR:i=blocks.length:=by
    have h':aS i blocks.length=false:=h.out
    have h2:¬(i:Int) < blocks.length:=by simpa [aS] using h'
    omega
   have FM:xm ⟨ins,blocks,outs,ay⟩:=⟨oA,gQ,λx hx s hs=>⟨(ef.used x hx s hs).lo,(ef.used x hx s hs).hi⟩,λx hx=>by have:=(ef.formed x hx).k;omega⟩
   have rG:mi ⟨ins,blocks,outs,ay⟩ [] sig out:=⟨jc,gd,hJ.o7,λb x hx h0=>hJ.bf b x (by rw [bR];exact (bX.1 hx).1) hx h0,λb x _ _ h=>by cases h⟩
   have e9:Vs ⟨⟨ins,blocks,outs,ay⟩,sig,out,rk⟩:=⟨FM,ef,ju,rG⟩
   cbv
   refine bU.jD anG (λa y=>trivial) ⟨⟨ins,blocks,outs,ay⟩,sig,out,rk⟩ [0,4,3,6,5,1] rfl (by exact bP) (by exact ao) ⟨e9⟩ λy hy=>?_
   have hy:y.out=kY ⟨ins,blocks,outs,ay⟩:=hy.out
   cbv
   refine ⟨?_⟩
   cbv
   exact ⟨by exact aJ,λx=>rfl⟩
structure afF where
 p:bq
 cX:List Bool
 s:js
structure Vv (x:afF):Prop where
 ky:CI x.p
 il:x.cX.length=x.p.ins.length
@[reducible] noncomputable def Vw:Vc.Spec where
 α:=afF
 args x:=[.agg (fq x.p),.sl 1 iU (λ_=>x.cX),.agg (CH x.s)]
 pre x:=Vv x
 res x:=.sl 1 iU (λ_=>yT x.p x.cX x.s)
structure wO (p:bq) (cX:List Bool) (s:js) (i:Nat) (out:List Bool):Prop where
 le:i<=p.blocks.length
 ol:out.length=p.ins.length+2*p.blocks.length
 o7:∀k:Nat,k < p.ins.length->out[k]?=some (cX.getD k false)
 bf:∀(b:Nat) (x:Block),b < i->p.blocks[b]?=some x->out[p.ins.length+2*b+1]?=some (y8 s x.bf)
 rest:∀(b:Nat) (x:Block),i<=b->p.blocks[b]?=some x->out[p.ins.length+2*b+1]?=some false
 new:∀(b:Nat) (x:Block),p.blocks[b]?=some x->out[p.ins.length+2*b]?=some false
theorem wO.skip {p:bq} {cX:List Bool} {s:js} {i:Nat} {out:List Bool} (h:wO p cX s i out) {x:Block} (hx:p.blocks[i]?=some x) (hr:y8 s x.bf=false):wO p cX s (i+1) out :=
 ⟨(
  bX.1 hx).1,h.ol,h.o7,λb y hb hy=>by
  by_cases e:b=i
  ·subst e;rw [hx] at hy;cases hy;rw [hr];exact h.rest b x (cP _) hx
  ·exact h.bf b y (by omega) hy,λb y hb hy=>h.rest b y (by omega) hy,h.new⟩
theorem wO.add {p:bq} {cX:List Bool} {s:js} {i:Nat} {out:List Bool} (h:wO p cX s i out) {x:Block} (hx:p.blocks[i]?=some x) {v:Bool} (hv:v=y8 s x.bf):wO p cX s (i+1) (out.set (p.ins.length+2*i+1) v):=by
 have aR:=(bX.1 hx).1
 have gd:=h.ol
 refine ⟨aR,by simp [gd],λk hk=>?_,λb y hb hy=>?_,λb y hb hy=>?_,λb y hy=>?_⟩
 ·rw [eU (by omega)];exact h.o7 k hk
 ·by_cases e:b=i
  ·subst e;rw [hx] at hy;cases hy
   rw [iT];simp [hv];omega
  ·rw [eU (by omega)];exact h.bf b y (by omega) hy
 ·rw [eU (by omega)];exact h.rest b y (by omega) hy
 ·rw [eU (by omega)];exact h.new b y hy
theorem wO.start (p:bq) (cX:List Bool) (s:js) (hl:cX.length=p.ins.length):wO p cX s 0 (cX.take (p.ins.length+2*p.blocks.length)++(List.replicate (p.ins.length+2*p.blocks.length) false).drop cX.length):=by
 have ht:cX.take (p.ins.length+2*p.blocks.length)=cX:=DN (by omega)
 rw [ht,List.drop_replicate]
 have aef:∀k:Nat,p.ins.length<=k->k < p.ins.length+2*p.blocks.length->(cX++List.replicate (p.ins.length+2*p.blocks.length - cX.length) false)[k]?=some false:=λk h1 h2=>by
  rw [uA (by omega),Gs,if_pos (by omega)]
 refine ⟨cJ _,by simp;omega,λk hk=>?_,λb y hb=>by omega,λb y _ hy=>?_,λb y hy=>?_⟩
 ·rw [nJ (by omega),gW,eh (by omega)];rfl
 ·have:=(bX.1 hy).1
  exact aef _ (by omega) (by omega)
 ·have:=(bX.1 hy).1
  exact aef _ (by omega) (by omega)
noncomputable def aub (n m:Nat):Ctx:=eB n m [(98,Tryz.f98),(88,Tryz.f88)] [(95,Cf)] [88]
theorem aeg (n m:Nat):CB PP (aub n m):=eD n m ⟨fo Tryz.func98,fo Tryz.func88,trivial⟩ ⟨Ef,trivial⟩
theorem adb:cS (PP ()) 151 Vw:=by
 refine dP (aeg 0 0) (fo Tryz.func151) (λa=>⟨km a.p,(λx=>(tu x).1),JP a.s,trivial⟩) (λa=>(λx=>(tu x).1)) ?_
 rintro ⟨⟨ins,blocks,outs,ay⟩,cX,⟨aN,bd⟩⟩ hx
 have hx:Vv ⟨⟨ins,blocks,outs,ay⟩,cX,⟨aN,bd⟩⟩:=hx
 have pq:CI ⟨ins,blocks,outs,ay⟩:=hx.ky
 have bp:cX.length=ins.length:=hx.il
 have ef:=pq.sh
 have gQ:ins.length<=1000000:=pq.ins
 obtain ⟨rk,ju⟩:=pq.rk
 have oA:blocks.length<=600:=ef.dH
 have dx:IntKind.i64.wrap ((ins.length:Int)+IntKind.i64.wrap (2*(blocks.length:Int)))=((ins.length+2*blocks.length:Nat):Int):=by rw [cz (n:=2*(blocks.length:Int)) (by omega) (by omega),cz (by omega) (by omega)];omega
 have eE:0<=IntKind.i64.wrap ((ins.length:Int)+IntKind.i64.wrap (2*(blocks.length:Int)))/\1*IntKind.i64.wrap ((ins.length:Int)+IntKind.i64.wrap (2*(blocks.length:Int)))<=281474976710656/\IntKind.i64.wrap ((ins.length:Int)+IntKind.i64.wrap (2*(blocks.length:Int)))<=9223372036854775807:=by rw [dx];omega
 obtain ⟨s0,FQ⟩:∃s0,cX.take (List.replicate (IntKind.i64.wrap ((ins.length:Int)+IntKind.i64.wrap (2*(blocks.length:Int)))).toNat false).length++(List.replicate (IntKind.i64.wrap ((ins.length:Int)+IntKind.i64.wrap (2*(blocks.length:Int)))).toNat false).drop cX.length=s0:=⟨_,rfl⟩
 have tc:wO ⟨ins,blocks,outs,ay⟩ cX ⟨aN,bd⟩ 0 s0:=by
  rw [<-FQ,dx,rK,oS]
  exact wO.start ⟨ins,blocks,outs,ay⟩ cX ⟨aN,bd⟩ bp
 refine ⟨?_⟩
 cbv
 refine ⟨⟨eE.1,jI _,eE.2.1,eE.2.2⟩,?_⟩
 cbv
 refine ⟨cX,⟨.sl rfl⟩,?_⟩
 cbv
 refine Sat.ca (aeg 0 0) 6 9 [] (λx:Nat × List Bool=>[(20,.sl 5 oe (λ_=>blocks)),(21,.i .i64 (λ_=>(blocks.length:Int))),(22,.i .i64 (λ_=>(x.1:Int)))]) (λx=>[(4,.dyn 4 1 iU (λ_=>x.2))])
  (λx=>wO ⟨ins,blocks,outs,ay⟩ cX ⟨aN,bd⟩ x.1 x.2) (λx=>blocks.length - x.1) (0,s0) (by exact ao) (by have dM:=FQ;exact bH) tc ?_
 rintro ⟨i,out⟩ hJ
 have hJ:wO ⟨ins,blocks,outs,ay⟩ cX ⟨aN,bd⟩ i out:=hJ
 have hi:i<=blocks.length:=hJ.le
 have gd:out.length=ins.length+2*blocks.length:=hJ.ol
 have h0:=n0 i
 have h1:=cd (i:=i) (by omega)
 cbv
 refine ⟨λh=>?_,λh=>?_⟩
 ·have bp:i < blocks.length:=bE
  have a7:blocks.length - (i+1) < blocks.length - i:=by omega
  refine (bz bp).elim λx hx=>?_
  have hxr:x.bf<=255:=(ef.formed x (b_ hx)).bf.2
  have HM:(i:Int)<=1000000:=by omega
  have s7:IntKind.i64.wrap ((ins.length:Int)+2*(i:Int)+1)=((ins.length+2*i+1:Nat):Int):=by rw [cz (by omega) (by omega)];omega
  have yd:0<=IntKind.i64.wrap ((ins.length:Int)+2*(i:Int)+1)/\(IntKind.i64.wrap ((ins.length:Int)+2*(i:Int)+1)).toNat < out.length:=by rw [s7];omega
  have qF:(IntKind.i64.wrap ((ins.length:Int)+2*(i:Int)+1)).toNat=ins.length+2*i+1:=by rw [s7];omega
  refine (bz yd.2).elim λu hu=>?_
  have hq:0<=x.bf->IntKind.i64.wrap (x.bf.tdiv 8)=x.bf / 8:=λh=>by rw [zX h];exact cz (by omega) (by omega)
  have FO:0<=x.bf->x.bf.tmod 8=x.bf % 8:=λh=>w8 h
  have H7:∀v,0<=x.bf->x.bf / 8 < (aN.length:Int)->aN[(x.bf / 8).toNat]?=some v->y8 ⟨aN,bd⟩ x.bf=Fa v (x.bf % 8):=λv h0 h1 h2=>by
   unfold y8
   simp only
   rw [gW,h2]
   simp [h0,h1]
  have Mf:x.bf < 0\/¬x.bf / 8 < (aN.length:Int)->y8 ⟨aN,bd⟩ x.bf=false:=λh=>by
   unfold y8
   simp only
   rcases h with h|h
   ·have:¬0<=x.bf:=by omega
    simp [this]
   ·simp [h]
  cbv
  refine ⟨x,⟨h0,hx⟩,?_⟩
  cbv
  refine ⟨λh=>?_,λh=>?_⟩
  ·have hr:0<=x.bf:=bE
   have hq:=hq hr
   have FO:=FO hr
   cbv
   refine ⟨⟨by decide⟩,λh=>?_,λh=>?_⟩
   ·have aR:x.bf / 8 < (aN.length:Int):=by have h':aS (IntKind.i64.wrap (x.bf.tdiv 8)) (aN.length:Int)=true:=h.out;rw [hq] at h';simpa [aS] using h'
    have vV:(x.bf / 8).toNat < aN.length:=by omega
    refine (bz vV).elim λv hv=>?_
    have C4:0<=IntKind.i64.wrap (x.bf.tdiv 8)/\aN[(IntKind.i64.wrap (x.bf.tdiv 8)).toNat]?=some v:=by rw [hq];exact ⟨by omega,hv⟩
    have WN:0<=x.bf.tmod 8:=by rw [FO];omega
    obtain ⟨r,se⟩:∃r,aV (lB .and .i64 (v.fdiv (2^(min (x.bf.tmod 8).toNat IntKind.i64.bits))) 1) 1=r:=⟨_,rfl⟩
    have hrr:r=y8 ⟨aN,bd⟩ x.bf:=by rw [H7 v hr aR hv,<-se,FO];rfl
    have bw:=hJ.add hx hrr
    obtain ⟨o2,jV⟩:∃o,out.set (IntKind.i64.wrap ((ins.length:Int)+2*(i:Int)+1)).toNat r=o:=⟨_,rfl⟩
    rw [show (⟨ins,blocks,outs,ay⟩:bq).ins.length+2*i+1=(IntKind.i64.wrap ((ins.length:Int)+2*(i:Int)+1)).toNat from qF.symm,jV] at bw
    cbv
    refine ⟨⟨⟨ins,blocks,outs,ay⟩,(i:Int)⟩,⟨by exact bP,gQ,h0,HM⟩,?_⟩
    cbv
    refine ⟨⟨by decide⟩,v,⟨C4⟩,?_⟩
    cbv
    refine ⟨⟨by decide⟩,⟨WN⟩,⟨yd⟩,?_⟩
    cbv
    refine ⟨(u,r),⟨hu,rfl,by have jN:=se;exact dv⟩,?_⟩
    cbv
    exact ⟨(i+1,o2),by exact ao,by have dM:=jV;exact bH,⟨⟨bw,a7⟩⟩⟩
   ·have auc:¬x.bf / 8 < (aN.length:Int):=by have h':aS (IntKind.i64.wrap (x.bf.tdiv 8)) (aN.length:Int)=false:=h.out;rw [hq] at h';simpa [aS] using h'
    have bw:=hJ.skip hx (Mf (.inr auc))
    cbv
    exact ⟨(i+1,out),by exact ao,by exact ao,⟨⟨bw,a7⟩⟩⟩
  ·have hr:x.bf < 0:=bE
   have bw:=hJ.skip hx (Mf (.inl hr))
   cbv
   exact ⟨(i+1,out),by exact ao,by exact ao,⟨⟨bw,a7⟩⟩⟩
 ·have bR:i=blocks.length:=by
   have h':aS i blocks.length=false:=h.out
   have h2:¬(i:Int) < blocks.length:=by simpa [aS] using h'
   omega
  have FM:xm ⟨ins,blocks,outs,ay⟩:=⟨oA,gQ,λx hx s hs=>⟨(ef.used x hx s hs).lo,(ef.used x hx s hs).hi⟩,λx hx=>by have:=(ef.formed x hx).k;omega⟩
  have rG:mE ⟨ins,blocks,outs,ay⟩ cX ⟨aN,bd⟩ [] out:=⟨gd,hJ.o7,λb x hx=>hJ.bf b x (by rw [bR];exact (bX.1 hx).1) hx,λb x _ h=>(by cases h),λb x hx _=>hJ.new b x hx⟩
  have e9:Vt ⟨⟨ins,blocks,outs,ay⟩,out,rk,cX,⟨aN,bd⟩⟩:=⟨FM,ef,ju,rG⟩
  cbv
  refine bU.jD anH (λa y=>trivial) ⟨⟨ins,blocks,outs,ay⟩,out,rk,cX,⟨aN,bd⟩⟩ [0,5,4,2,1] rfl (by exact bP) (by exact ao) ⟨e9⟩ λy hy=>?_
  have hy:y=yT ⟨ins,blocks,outs,ay⟩ cX ⟨aN,bd⟩:=hy.out
  cbv
  exact ⟨by have dG:=hy;exact dv⟩
end Go.Proofs.Pk
