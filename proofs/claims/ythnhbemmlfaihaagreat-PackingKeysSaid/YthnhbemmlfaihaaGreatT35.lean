import Derived.Test.YthnhbemmlfaihaaGreatT12
import Derived.Test.YthnhbemmlfaihaaGreatT14
import Derived.Test.YthnhbemmlfaihaaGreatT34
set_option linter.unusedVariables false
set_option linter.unusedSimpArgs false
set_option maxRecDepth 10000
set_option maxHeartbeats 64000000
namespace Go.Proofs.Pk
open Go Go.Vc
def fB (p:bt):List SV:=[.sl 3 dk (λ_=>p.ins),.sl 5 oD (λ_=>p.blocks),.sl 3 dk (λ_=>p.outs),.sl 1 bK (λ_=>p.ay)]
theorem kE (p:bt):du (fB p):=⟨λx=>(gU x).1,λx=>(JV x).1,λx=>(gU x).1,λx=>(cP x).1,trivial⟩
structure xQ (p:bt):Prop where
 dK:p.blocks.length<=600
 ins:p.ins.length<=1000000
 used:∀x∈p.blocks,∀s∈x.ins,0<=s/\s < p.sigs
 k:∀x∈p.blocks,x.ins.length<=1000000
structure avh where
 p:bt
 st:List Int
 b:Int
structure aq9 where
 res:Bool
 st:List Int
@[reducible] noncomputable def UQ (n:Nat):na where
 α:=avh
 args x:=[.i .i64 (λ_=>x.b),.ptr 0 0,.ptr 2 0,.ptr 3 0,.ptr 4 0]
 io x:=[.fix 35 [.own 1],.dyn 3 1 bK (λ_=>x.st),.fix 179 (fB x.p),.fix 180 [.fn (.func 179) [] [.ptr 0 0,.ptr 2 0,.ptr 3 0,.ptr 4 0]],.fix 187 [.fn (.func 89) [] []]]
 pre x:=xQ x.p/\xf x.p x.st/\0<=x.b/\x.b < x.p.blocks.length/\lN x.st<=n
 β:=aq9
 post x y:=py x.p x.st x.b.toNat y.res y.st
 mv:=[]
 res x y:=.b (λ_=>y.res)
 ko x y:=[.fix 35 [.own 1],.dyn 3 1 bK (λ_=>y.st),.fix 179 (fB x.p),.fix 180 [.fn (.func 179) [] [.ptr 0 0,.ptr 2 0,.ptr 3 0,.ptr 4 0]],.fix 187 [.fn (.func 89) [] []]]
noncomputable def avi (n m:Nat):Ctx:=eF n m [(94,Tryz.f94),(89,Tryz.f89),(179,Tryz.f179)] [] [179]
theorem ae7 (n m:Nat):CB PP (avi n m):=eH n m ⟨fo Tryz.func94,fo Tryz.func89,fo Tryz.func179,trivial⟩ trivial
theorem aaN (n:Nat) (ih:∀m,m+1=n->iK PP 179 (UQ m)):iK PP 179 (UQ n):=by
 refine mP (ae7 0 0) (fo Tryz.func179) (λa y=>rfl) (λa=>⟨rfl,rfl⟩) .nil ?_
 rintro ⟨⟨ins,blocks,outs,ay⟩,st,b⟩ hx
 obtain ⟨hp,cI,ei,eb,hz⟩:xQ ⟨ins,blocks,outs,ay⟩/\xf ⟨ins,blocks,outs,ay⟩ st/\0<=b/\b < blocks.length/\lN st<=n:=hx
 have aim:st.length=blocks.length:=cI.len
 have jk:0<=b/\b.toNat < st.length:=by omega
 obtain ⟨v,hv⟩:=bB jk.2
 refine ⟨?_⟩
 cbv
 refine ⟨⟨jk⟩,v,⟨hv,rfl⟩,?_⟩
 cbv
 refine ⟨λh=>?_,λh=>?_⟩
 ·have qu:v=1:=bG
  have bW:py ⟨ins,blocks,outs,ay⟩ st b.toNat false st:=.asC cI (by rw [<-qu];exact hv)
  cbv
  exact ⟨⟨false,st⟩,[],[],⟨by exact aL,trivial⟩,by exact ao,⟨bW⟩⟩
 ·have qu:v≠1:=bG
  cbv
  refine ⟨λh=>?_,λh=>?_⟩
  ·have jV:v=2:=bG
   have bW:py ⟨ins,blocks,outs,ay⟩ st b.toNat true st:=.CS cI (by rw [<-jV];exact hv)
   cbv
   exact ⟨⟨true,st⟩,[],[],⟨by exact aL,trivial⟩,by exact ao,⟨bW⟩⟩
  ·have jV:v≠2:=bG
   have iq:St st 0 b.toNat:=by
    have:=cI.val _ _ hv
    have e:v=0:=by omega
    rw [<-e];exact hv
   have RD:=TS iq
   refine (⟨n - 1,by omega⟩:∃m,m+1=n).elim λm hm=>?_
   have ih:=ih m hm
   refine (bB (l:=blocks) (i:=b.toNat) (by omega)).elim λx hx=>?_
   have gW:=cb hx
   have yH:∀s∈x.ins,0<=s/\s < (ins.length:Int)+2*blocks.length:=hp.used x gW
   have mu:=hp.k x gW
   have oP:blocks.length<=600:=hp.dK
   have QP:ins.length<=1000000:=hp.ins
   have tN:=oY.start cI iq x
   cbv
   refine ⟨⟨jk⟩,?_⟩
   cbv
   refine ⟨(v,1),⟨hv,rfl,by exact aL⟩,?_⟩
   cbv
   refine ⟨x,⟨ei,hx⟩,?_⟩
   cbv
   refine Sat.cd (ae7 0 0) 5 7 [] (λy:Nat × List Int=>[(28,.sl 1 bK (λ_=>x.ins)),(29,.i .i64 (λ_=>(x.ins.length:Int))),(30,.i .i64 λ_=>(y.1:Int))]) (λy=>[(1,.dyn 3 1 bK λ_=>y.2)])
    (λy=>oY ⟨ins,blocks,outs,ay⟩ st b.toNat x y.1 y.2) (λy=>x.ins.length - y.1) (0,st.set b.toNat 1) (by exact ao) (by exact ao) tN ?_
   rintro ⟨j,gZ⟩ hJ
   have hJ:oY ⟨ins,blocks,outs,ay⟩ st b.toNat x j gZ:=hJ
   have eE:=hJ.le
   have iO:=n0 j
   have vF:=cj (i:=j) (by omega)
   cbv
   refine ⟨λh=>?_,λh=>?_⟩
   ·have vo:j < x.ins.length:=bG
    have a7:x.ins.length - (j+1) < x.ins.length - j:=by omega
    refine (bB vo).elim λs hs=>?_
    have qy:=yH s (cb hs)
    cbv
    refine ⟨s,⟨iO,hs⟩,?_⟩
    cbv
    refine ⟨λh=>?_,λh=>?_⟩
    ·have aR:s < (ins.length:Int):=bG
     have bA:=hJ.skip hs (λh=>by have:=h.1;simp only at this;omega)
     cbv
     exact ⟨(j+1,gZ),by exact ao,by exact ao,⟨⟨bA,a7⟩⟩⟩
    ·have bS:(ins.length:Int)<=s:=bG
     have qy:0<=s/\s < (ins.length:Int)+2*(blocks.length:Int):=qy
     refine (⟨_,rfl⟩:∃d:Nat,cN ins.length s=d).elim λd hd=>?_
     have fH:IntKind.i64.wrap (s - (ins.length:Int))=s - (ins.length:Int):=cD (by omega) (by omega)
     have rf:(s - (ins.length:Int)) / 2=(d:Int):=by rw [<-hd];unfold cN;omega
     have hc:IntKind.i64.wrap ((IntKind.i64.wrap (s - (ins.length:Int))).tdiv 2)=(d:Int):=by
      rw [fH,Ay (by omega),rf];exact cD (by omega) (by omega)
     have hm:(IntKind.i64.wrap (s - (ins.length:Int))).tmod 2=(s - (ins.length:Int)) % 2:=by
      rw [fH,xD (by omega)]
     have fV:d < blocks.length:=by omega
     cbv
     refine ⟨⟨by decide⟩,⟨by decide⟩,λh=>?_,λh=>?_⟩
     ·cbv
      refine ⟨λh=>?_,λh=>?_⟩
      ·have lS:¬fv ins.length s:=by
        have h':(!aV ((IntKind.i64.wrap (s - (ins.length:Int))).tmod 2) 1)=true:=h.out
        rw [hm] at h'
        unfold fv
        simpa [aV] using h'
       have fe:xf ⟨ins,blocks,outs,ay⟩ gZ/\0<=(d:Int)/\(d:Int) < blocks.length/\lN gZ<=m:=⟨hJ.w,by omega,by omega,by have:=hJ.z;omega⟩
       cbv
       refine bV.jM ih (λa y=>trivial) ⟨⟨ins,blocks,outs,ay⟩,gZ,d⟩ [0,1,2,3,4] rfl (by exact bQ) (by exact ao) ⟨⟨hp,fe⟩⟩ λy hy=>?_
       have hy:py ⟨ins,blocks,outs,ay⟩ gZ d y.res y.st:=hy.out
       obtain ⟨res,lE⟩:=y
       cbv
       refine ⟨λh=>?_,λh=>?_⟩
       ·have hr:res=false:=by have h':(!res)=true:=h.out;simpa using h'
        subst hr
        have bW:=hJ.bad hx hs bS lS (by rw [show cN ins.length s=d from hd];exact hy)
        cbv
        exact ⟨⟨false,lE⟩,[],[],⟨by exact aL,trivial⟩,by exact ao,⟨bW⟩⟩
       ·have hr:res=true:=by have h':(!res)=false:=h.out;simpa using h'
        subst hr
        have bA:=hJ.go hs iq (by rw [show cN ins.length s=d from hd];exact hy)
        cbv
        exact ⟨(j+1,lE),by exact ao,by exact ao,⟨⟨bA,a7⟩⟩⟩
      ·have lS:fv ins.length s:=by
        have h':(!aV ((IntKind.i64.wrap (s - (ins.length:Int))).tmod 2) 1)=false:=h.out
        rw [hm] at h'
        unfold fv
        simpa [aV] using h'
       have bA:=hJ.skip hs (λh=>h.2 lS)
       cbv
       exact ⟨(j+1,gZ),by exact ao,by exact ao,⟨⟨bA,a7⟩⟩⟩
     ·exfalso
      have h':cU 0 (IntKind.i64.wrap ((IntKind.i64.wrap (s - (ins.length:Int))).tdiv 2))=false:=h.out
      rw [hc] at h'
      simp only [cU,decide_eq_false_iff_not] at h'
      exact aU
   ·have oq:j=x.ins.length:=by
     have h':aS j x.ins.length=false:=h.out
     have h2:¬(j:Int) < x.ins.length:=by simpa [aS] using h'
     omega
    have bW:=hJ.out hx iq oq
    refine (⟨_,rfl⟩:∃l,gZ.set b.toNat 2=l).elim λlE h3=>?_
    rw [h3] at bW
    have Db:0<=b/\b.toNat < gZ.length:=by have:=hJ.w.len;simp only at this;omega
    refine (bB Db.2).elim λu hu=>?_
    cbv
    refine ⟨⟨Db⟩,?_⟩
    cbv
    refine ⟨(u,2),⟨hu,rfl,by exact aL⟩,?_⟩
    cbv
    exact ⟨⟨true,lE⟩,[],[],⟨by exact aL,trivial⟩,by have dP:=h3;exact bI,⟨bW⟩⟩
theorem abY:∀n,iK PP 179 (UQ n)
 | 0=>aaN 0 λm h=>by omega
 | n+1=>aaN (n+1) λm h=>by
  cases TC h
  exact abY n
structure Y1 where
 p:bt
 s:Int
open Classical in
noncomputable def oC (p:bt) (s:Int):Bool:=decide (kD p s)
theorem SP {p:bt} {s:Int}:oC p s=true↔kD p s:=by simp [oC]
structure EO (p:bt):Prop where
 dK:p.blocks.length<=1000000
 ins:p.ins.length<=1000000
@[reducible] noncomputable def OU:Vc.Spec where
 α:=Y1
 args x:=[.agg (fB x.p),.i .i64 (λ_=>x.s)]
 pre x:=EO x.p
 res x:=.b (λ_=>oC x.p x.s)
noncomputable def cUs (n m:Nat):Ctx:=eF n m [(94,Tryz.f94),(98,Tryz.f98)] []
theorem asF (n m:Nat):CB PP (cUs n m):=eH n m ⟨fo Tryz.func94,fo Tryz.func98,trivial⟩ trivial
theorem anJ:cW (PP ()) 81 OU:=by
 refine dT (asF 0 0) (fo Tryz.func81) (λa=>⟨kE a.p,trivial,trivial⟩) (λa=>trivial) ?_
 rintro ⟨⟨ins,blocks,outs,ay⟩,s⟩ hx
 obtain ⟨hb,hi⟩:EO ⟨ins,blocks,outs,ay⟩:=hx
 have hb:blocks.length<=1000000:=hb
 have hi:ins.length<=1000000:=hi
 have RH:IntKind.i64.wrap (2*(blocks.length:Int))=2*(blocks.length:Int):=cD (by omega) (by omega)
 have dA:IntKind.i64.wrap ((ins.length:Int)+IntKind.i64.wrap (2*(blocks.length:Int)))=(ins.length:Int)+2*(blocks.length:Int):=by rw [RH];exact cD (by omega) (by omega)
 obtain ⟨u,hu⟩:∃u,oC ⟨ins,blocks,outs,ay⟩ s=u:=⟨_,rfl⟩
 have F:¬kD ⟨ins,blocks,outs,ay⟩ s->false=oC ⟨ins,blocks,outs,ay⟩ s:=λh=>by simp [oC,h]
 have T:kD ⟨ins,blocks,outs,ay⟩ s->true=oC ⟨ins,blocks,outs,ay⟩ s:=λh=>by simp [oC,h]
 refine ⟨?_⟩
 cbv
 refine ⟨λh=>?_,λh=>?_⟩
 ·have h0:s < 0:=bG
  have e:=F λh=>by have:=h.lo;omega
  cbv
  exact ⟨by exact aL⟩
 ·have h0:0<=s:=bG
  cbv
  refine ⟨λh=>?_,λh=>?_⟩
  ·have h1:(ins.length:Int)+2*(blocks.length:Int)<=s:=by
    have h':cU (IntKind.i64.wrap ((ins.length:Int)+IntKind.i64.wrap (2*(blocks.length:Int)))) s=true:=h.out
    rw [dA] at h'
    simpa [cU] using h'
   have e:=F λh=>by have:=h.hi;unfold bt.sigs at this;simp only at this;omega
   cbv
   exact ⟨by exact aL⟩
  ·have h1:s < (ins.length:Int)+2*(blocks.length:Int):=by
    have h':cU (IntKind.i64.wrap ((ins.length:Int)+IntKind.i64.wrap (2*(blocks.length:Int)))) s=false:=h.out
    rw [dA] at h'
    simpa [cU] using h'
   have gF:s < bt.sigs ⟨ins,blocks,outs,ay⟩:=by unfold bt.sigs;simp only;omega
   cbv
   refine ⟨λh=>?_,λh=>?_⟩
   ·have aR:s < (ins.length:Int):=bG
    have e:=T ⟨h0,gF,λh=>by simp only at h;omega⟩
    cbv
    exact ⟨by exact aL⟩
   ·have bS:(ins.length:Int)<=s:=bG
    have h1:s < (ins.length:Int)+2*(blocks.length:Int):=h1
    have fH:IntKind.i64.wrap (s - (ins.length:Int))=s - (ins.length:Int):=cD (by omega) (by omega)
    have hc:IntKind.i64.wrap ((IntKind.i64.wrap (s - (ins.length:Int))).tdiv 2)=(cN ins.length s:Int):=by
     have rf:(s - (ins.length:Int)) / 2=(cN ins.length s:Int):=by unfold cN;omega
     rw [fH,Ay (by omega),rf]
     exact cD (by unfold cN;omega) (by unfold cN;omega)
    have hm:(IntKind.i64.wrap (s - (ins.length:Int))).tmod 2=(s - (ins.length:Int)) % 2:=by
     rw [fH,xD (by omega)]
    have fV:cN ins.length s < blocks.length:=by unfold cN;omega
    refine (bB fV).elim λx hx=>?_
    have gE:0<=IntKind.i64.wrap ((IntKind.i64.wrap (s - (ins.length:Int))).tdiv 2)/\blocks[(IntKind.i64.wrap ((IntKind.i64.wrap (s - (ins.length:Int))).tdiv 2)).toNat]?=some x:=by
     rw [hc];exact ⟨by omega,by simpa using hx⟩
    cbv
    refine ⟨⟨by decide⟩,⟨by decide⟩,λh=>?_,λh=>?_⟩
    ·have lS:¬fv ins.length s:=by
      have h':(!aV ((IntKind.i64.wrap (s - (ins.length:Int))).tmod 2) 1)=true:=h.out
      rw [hm] at h'
      unfold fv
      simpa [aV] using h'
     have e:=T ⟨h0,gF,λ_ h=>absurd h lS⟩
     cbv
     exact ⟨by exact aL⟩
    ·have hf:fv ins.length s:=by
      have h':(!aV ((IntKind.i64.wrap (s - (ins.length:Int))).tmod 2) 1)=false:=h.out
      rw [hm] at h'
      unfold fv
      simpa [aV] using h'
     have e:cU 0 x.bh=oC ⟨ins,blocks,outs,ay⟩ s:=by
      by_cases hr:0<=x.bh
      ·rw [<-T ⟨h0,gF,λ_ _=>⟨x,hx,hr⟩⟩];simp [cU,hr]
      ·rw [<-F λh=>by obtain ⟨y,hy,F5⟩:=h.flip bS hf;simp only at hy;rw [hx] at hy;cases hy;exact hr F5];simp [cU,hr]
     cbv
     refine ⟨x,⟨gE⟩,?_⟩
     cbv
     exact ⟨by exact aL⟩
structure PLi where
 p:bt
 l:List Int
noncomputable def AP (p:bt) (l:List Int):Bool:=l.any λs=>!oC p s
theorem NM {p:bt} {l:List Int}:AP p l=false↔∀s∈l,kD p s:=by
 simp [AP,Tj,SP]
theorem OF {A:Type} {f:A->Bool} {l:List A} {i:Nat} {x:A} (h:l[i]?=some x):(l.take (i+1)).any f=((l.take i).any f||f x):=by
 rw [El,h];simp
theorem Ps {A:Type} {f:A->Bool} {l:List A} {i:Nat} {x:A} (h:l[i]?=some x) (hf:f x=true):l.any f=true:=JP.2 ⟨x,cb h,hf⟩
@[reducible] noncomputable def Vt:Vc.Spec where
 α:=PLi
 args x:=[.sl 1 bK (λ_=>x.l),.fn (.func 80) [] [.dF (fB x.p) 0]]
 pre x:=EO x.p/\x.l.length<=1000000
 res x:=.b (λ_=>AP x.p x.l)
noncomputable def cCu (n m:Nat):Ctx:=eF n m [(176,Tryz.f176),(80,Tryz.f80)] [(81,OU)] [] [176]
theorem agm (n m:Nat):CB PP (cCu n m):=eH n m ⟨fo Tryz.func176,fo Tryz.func80,trivial⟩ ⟨anJ,trivial⟩
theorem ac4:cW (PP ()) 82 Vt:=by
 refine dT (agm 0 0) (fo Tryz.func82) (λa=>⟨(λx=>(cP x).1),⟨trivial,kE a.p,trivial⟩,trivial⟩) (λa=>trivial) ?_
 rintro ⟨⟨ins,blocks,outs,ay⟩,l⟩ hx
 obtain ⟨hp,hl⟩:EO ⟨ins,blocks,outs,ay⟩/\l.length<=1000000:=hx
 obtain ⟨f,hf⟩:∃f,f=oC ⟨ins,blocks,outs,ay⟩:=⟨_,rfl⟩
 have hu:∀z,AP ⟨ins,blocks,outs,ay⟩ z=z.any λs=>!f s:=λz=>by rw [hf];rfl
 refine ⟨?_⟩
 cbv
 refine Sat.cd (agm 0 0) 0 8 [] (λi:Nat=>[(8,.i .i64 (λ_=>(i:Int)))]) (λi=>[])
  (λi=>i<=l.length/\(l.take i).any (λs=>!f s)=false) (λi=>l.length - i) 0 (by exact ao) (by exact ao) ⟨by omega,by simp⟩ ?_
 rintro i ⟨hi,ht⟩
 have h0:=n0 i
 have h1:=cj (i:=i) (by omega)
 cbv
 refine ⟨λh=>?_,λh=>?_⟩
 ·have bq:i < l.length:=bG
  have a7:l.length - (i+1) < l.length - i:=by omega
  refine (bB bq).elim λx hx=>?_
  cbv
  refine ⟨x,⟨h0,hx⟩,?_⟩
  cbv
  refine ⟨⟨⟨ins,blocks,outs,ay⟩,x⟩,⟨by exact bQ,hp⟩,?_⟩
  refine ⟨λh=>?_,λh=>?_⟩
  ·have rj:(!f x)=true:=by have h':(!oC ⟨ins,blocks,outs,ay⟩ x)=true:=h.out;rw [hf];exact h'
   have e:cU 0 (i:Int)=AP ⟨ins,blocks,outs,ay⟩ l:=by rw [hu,Ps hx rj];simp [cU]
   cbv
   exact ⟨by exact aL⟩
  ·have rj:(!f x)=false:=by have h':(!oC ⟨ins,blocks,outs,ay⟩ x)=false:=h.out;rw [hf];exact h'
   have bA:i+1<=l.length/\(l.take (i+1)).any (λs=>!f s)=false:=⟨bq,by rw [OF hx,ht,rj];rfl⟩
   cbv
   exact ⟨i+1,by exact ao,by exact ao,⟨⟨bA,a7⟩⟩⟩
 ·have bS:i=l.length:=by
   have h':aS i l.length=false:=h.out
   have h2:¬(i:Int) < l.length:=by simpa [aS] using h'
   omega
  have e:false=AP ⟨ins,blocks,outs,ay⟩ l:=by rw [hu,<-ht,bS,kC]
  cbv
  exact ⟨by exact aL⟩
noncomputable def uM (lo hi:Int) (w:bU):Bool:=cU lo w.kind&&cU w.kind hi&&cU 0 w.i&&cU 0 w.bit&&aS w.bit 8
theorem UR {lo hi:Int} {w:bU}:uM lo hi w=true↔mD w lo hi:=by
 unfold uM mD cU aS
 simp only [er,decide_eq_true_eq]
 omega
noncomputable def tv (lo hi:Int) (l:List bU):Bool:=l.any λw=>!uM lo hi w
theorem OH {lo hi:Int} {l:List bU}:tv lo hi l=false↔∀w∈l,mD w lo hi:=by
 simp [tv,Tj,UR]
@[reducible] noncomputable def Pt (f:Nat) (lo hi:Int):Vc.Spec where
 α:=List bU
 args x:=[.sl 3 dk (λ_=>x),.fn (.func f) [] []]
 pre x:=x.length<=1000000
 res x:=.b (λ_=>tv lo hi x)
structure WLH where
 w:bU
 lo:Int
 hi:Int
@[reducible] noncomputable def Pu:Vc.Spec where
 α:=WLH
 args x:=[.agg (dk x.w),.i .i64 (λ_=>x.lo),.i .i64 (λ_=>x.hi)]
 pre x:=True
 res x:=.b (λ_=>uM x.lo x.hi x.w)
noncomputable def cWd (n m:Nat):Ctx:=eF n m [] []
theorem asG (n m:Nat):CB PP (cWd n m):=eH n m trivial trivial
theorem aoH:cW (PP ()) 85 Pu:=by
 refine dT (asG 0 0) (fo Tryz.func85) (λa=>⟨(gU a.w).1,trivial,trivial,trivial⟩) (λa=>trivial) ?_
 rintro ⟨w,lo,hi⟩ hx
 refine ⟨?_⟩
 cbv
 repeat' (first|(refine .b ?_;done)|(refine ⟨λh=>?_,λh=>?_⟩<;>(have h:=h.out;cbv))|fail)
 all_goals first|refine .bc ?_|refine .b ?_|refine ⟨.bc ?_⟩|refine ⟨.b ?_⟩
 all_goals simp_all [uM]
noncomputable def cCw (n m:Nat):Ctx:=eF n m [(177,Tryz.f177),(84,Tryz.f84),(86,Tryz.f86)] [(85,Pu)] [] [177]
theorem P7 (n m:Nat):CB PP (cCw n m):=eH n m ⟨fo Tryz.func177,fo Tryz.func84,fo Tryz.func86,trivial⟩ ⟨aoH,trivial⟩
theorem OV:cW (PP ()) 83 (Pt 84 2 4):=by
 refine dT (P7 0 0) (fo Tryz.func83) (λa=>⟨(λx=>(gU x).1),⟨trivial,trivial⟩,trivial⟩) (λa=>trivial) ?_
 rintro l hx
 have hl:l.length<=1000000:=hx
 obtain ⟨f,hf⟩:∃f,f=uM 2 4:=⟨_,rfl⟩
 have hu:∀z,tv 2 4 z=z.any λs=>!f s:=λz=>by rw [hf];rfl
 refine ⟨?_⟩
 cbv
 refine Sat.cd (P7 0 0) 0 8 [] (λi:Nat=>[(8,.i .i64 (λ_=>(i:Int)))]) (λi=>[])
  (λi=>i<=l.length/\(l.take i).any (λs=>!f s)=false) (λi=>l.length - i) 0 (by exact ao) (by exact ao) ⟨by omega,by simp⟩ ?_
 rintro i ⟨hi,ht⟩
 have h0:=n0 i
 have h1:=cj (i:=i) (by omega)
 cbv
 refine ⟨λh=>?_,λh=>?_⟩
 ·have bq:i < l.length:=bG
  have a7:l.length - (i+1) < l.length - i:=by omega
  refine (bB bq).elim λx hx=>?_
  cbv
  refine ⟨x,⟨h0,hx⟩,?_⟩
  cbv
  refine ⟨⟨x,2,4⟩,⟨by exact bQ,trivial⟩,?_⟩
  cbv
  refine ⟨λh=>?_,λh=>?_⟩
  ·have rj:(!f x)=true:=by have h':(!uM 2 4 x)=true:=h.out;rw [hf];exact h'
   have e:cU 0 (i:Int)=tv 2 4 l:=by rw [hu,Ps hx rj];simp [cU]
   cbv
   exact ⟨by exact aL⟩
  ·have rj:(!f x)=false:=by have h':(!uM 2 4 x)=false:=h.out;rw [hf];exact h'
   have bA:i+1<=l.length/\(l.take (i+1)).any (λs=>!f s)=false:=⟨bq,by rw [OF hx,ht,rj];rfl⟩
   cbv
   exact ⟨i+1,by exact ao,by exact ao,⟨⟨bA,a7⟩⟩⟩
 ·have bS:i=l.length:=by
   have h':aS i l.length=false:=h.out
   have h2:¬(i:Int) < l.length:=by simpa [aS] using h'
   omega
  have e:false=tv 2 4 l:=by rw [hu,<-ht,bS,kC]
  cbv
  exact ⟨by exact aL⟩
theorem US:cW (PP ()) 83 (Pt 86 5 10):=by
 refine dT (P7 0 0) (fo Tryz.func83) (λa=>⟨(λx=>(gU x).1),⟨trivial,trivial⟩,trivial⟩) (λa=>trivial) ?_
 rintro l hx
 have hl:l.length<=1000000:=hx
 obtain ⟨f,hf⟩:∃f,f=uM 5 10:=⟨_,rfl⟩
 have hu:∀z,tv 5 10 z=z.any λs=>!f s:=λz=>by rw [hf];rfl
 refine ⟨?_⟩
 cbv
 refine Sat.cd (P7 0 0) 0 8 [] (λi:Nat=>[(8,.i .i64 (λ_=>(i:Int)))]) (λi=>[])
  (λi=>i<=l.length/\(l.take i).any (λs=>!f s)=false) (λi=>l.length - i) 0 (by exact ao) (by exact ao) ⟨by omega,by simp⟩ ?_
 rintro i ⟨hi,ht⟩
 have h0:=n0 i
 have h1:=cj (i:=i) (by omega)
 cbv
 refine ⟨λh=>?_,λh=>?_⟩
 ·have bq:i < l.length:=bG
  have a7:l.length - (i+1) < l.length - i:=by omega
  refine (bB bq).elim λx hx=>?_
  cbv
  refine ⟨x,⟨h0,hx⟩,?_⟩
  cbv
  refine ⟨⟨x,5,10⟩,⟨by exact bQ,trivial⟩,?_⟩
  cbv
  refine ⟨λh=>?_,λh=>?_⟩
  ·have rj:(!f x)=true:=by have h':(!uM 5 10 x)=true:=h.out;rw [hf];exact h'
   have e:cU 0 (i:Int)=tv 5 10 l:=by rw [hu,Ps hx rj];simp [cU]
   cbv
   exact ⟨by exact aL⟩
  ·have rj:(!f x)=false:=by have h':(!uM 5 10 x)=false:=h.out;rw [hf];exact h'
   have bA:i+1<=l.length/\(l.take (i+1)).any (λs=>!f s)=false:=⟨bq,by rw [OF hx,ht,rj];rfl⟩
   cbv
   exact ⟨i+1,by exact ao,by exact ao,⟨⟨bA,a7⟩⟩⟩
 ·have bS:i=l.length:=by
   have h':aS i l.length=false:=h.out
   have h2:¬(i:Int) < l.length:=by simpa [aS] using h'
   omega
  have e:false=tv 5 10 l:=by rw [hu,<-ht,bS,kC]
  cbv
  exact ⟨by exact aL⟩
theorem am2 {h:Int} {l:List Int} {i:Nat} {v:Int} (hv:l[i]?=some v):Fi h (l.take (i+1))=P6 (Fi h (l.take i)) (IntKind.u64.wrap v):=by
 rw [El,hv]
 simp [Fi,N3]
theorem anK {h:Int} {l:List Int} {i:Nat} (hi:i=l.length):Fi h (l.take i)=Fi h l:=by rw [hi,kC]
@[reducible] noncomputable def KK:Vc.Spec where
 α:=List Int
 args x:=[.sl 1 bK (λ_=>x)]
 pre x:=x.length < 4611686018427387904
 res x:=.i .u64 (λ_=>iw x)
noncomputable def cDg (n m:Nat):Ctx:=eF n m [(101,Tryz.f101)] []
theorem agn (n m:Nat):CB PP (cDg n m):=eH n m ⟨fo Tryz.func101,trivial⟩ trivial
theorem Un:cW (PP ()) 27 KK:=by
 refine dT (agn 0 0) (fo Tryz.func27) (λa=>⟨(λx=>(cP x).1),trivial⟩) (λa=>trivial) ?_
 rintro l hx
 have hl:l.length < 4611686018427387904:=hx
 refine ⟨?_⟩
 cbv
 refine Sat.cd (agn 0 0) 1 5 [] (λi:Nat=>[(8,.sl 1 bK (λ_=>l)),(9,.i .i64 (λ_=>(l.length:Int))),(10,.i .i64 (λ_=>(i:Int)))]) (λi=>[(0,.fix 199 [.i .u64 (λ_=>Fi 512970876019 (l.take i))])])
  (λi=>i<=l.length) (λi=>l.length - i) 0 (by exact ao) (by exact bI) (cL _) ?_
 rintro i hi
 have h0:=n0 i
 have h1:=cj (i:=i) (by omega)
 cbv
 refine ⟨λh=>?_,λh=>?_⟩
 ·have bq:i < l.length:=bG
  have a7:i+1<=l.length/\l.length - (i+1) < l.length - i:=by omega
  refine (bB bq).elim λv hv=>?_
  have hf:=am2 (h:=512970876019) hv
  cbv
  refine ⟨v,⟨h0,hv⟩,?_⟩
  cbv
  refine ⟨⟨by decide⟩,i+1,by exact ao,by ((try cbv)<;>(repeat' (first|with_reducible exact trivial|with_reducible refine And.intro ?_ ?_))<;>(try first|exact de.refl _|exact de.dyn rfl|exact de.map rfl|exact de.iter rfl rfl (.inl rfl)|exact de.iter rfl rfl (.inr rfl)|refine de.fix ?_|refine de.dyn ?_)<;>((repeat' first|exact dW.nil|exact Le.refl _|refine dW.cons ?_ ?_|exact Le.ic rfl|exact Le.bc rfl|exact Le.i rfl|exact Le.b rfl|exact Le.sl rfl|exact Le.mp rfl|exact Le.iB rfl|exact Le.sr rfl|refine Le.dp rfl (λ_=>?_)|refine Le.eL rfl (λ_ _=>rfl) (λ_=>?_) ?_|refine Le.agg ?_|refine Le.dH ?_|refine Le.fn ?_ ?_|refine Le.dF ?_|exact trivial|refine And.intro ?_ ?_|refine λ_=>?_|exact Le.any _)))<;>exact .i (by rw [hf,ac1];rfl),⟨a7⟩⟩
 ·have bS:i=l.length:=by
   have h':aS i l.length=false:=h.out
   have h2:¬(i:Int) < l.length:=by simpa [aS] using h'
   omega
  have hf:=anK (h:=512970876019) bS
  cbv
  exact ⟨⟨by decide⟩,⟨.i (by unfold iw;rw [<-hf,ac1];rfl)⟩⟩
noncomputable def cWo (n m:Nat):Ctx:=eF n m [] [(27,KK)]
theorem asH (n m:Nat):CB PP (cWo n m):=eH n m trivial ⟨Un,trivial⟩
@[reducible] noncomputable def UT:Vc.Spec:=KK
theorem abZ:cW (PP ()) 99 UT:=by
 refine dT (asH 0 0) (fo Tryz.func99) (λa=>⟨(λx=>(cP x).1),trivial⟩) (λa=>trivial) ?_
 rintro l hx
 have hl:l.length < 4611686018427387904:=hx
 refine ⟨?_⟩
 cbv
 refine ⟨l,⟨by exact bQ,hl⟩,?_⟩
 cbv
 exact ⟨by exact aL⟩
structure I3 where
 n:Int
 lo:Int
 hi:Int
noncomputable def pK (n lo hi:Int):Bool:=cU lo n&&cU n hi
@[reducible] noncomputable def ac5:Vc.Spec where
 α:=I3
 args x:=[.i .i64 (λ_=>x.n),.i .i64 (λ_=>x.lo),.i .i64 (λ_=>x.hi)]
 pre x:=True
 res x:=.b (λ_=>pK x.n x.lo x.hi)
noncomputable def cWn (n m:Nat):Ctx:=eF n m [] []
theorem asI (n m:Nat):CB PP (cWn n m):=eH n m trivial trivial
theorem am3:cW (PP ()) 178 ac5:=by
 refine dT (asI 0 0) (fo Tryz.func178) (λa=>⟨trivial,trivial,trivial,trivial⟩) (λa=>trivial) ?_
 rintro ⟨n,lo,hi⟩ hx
 refine ⟨?_⟩
 cbv
 repeat' (first|(refine .b ?_;done)|(refine ⟨λh=>?_,λh=>?_⟩<;>(have h:=h.out;cbv))|fail)
 all_goals first|refine .bc ?_|refine .b ?_|refine ⟨.bc ?_⟩|refine ⟨.b ?_⟩
 all_goals simp_all [pK]
open Classical in
noncomputable def xM (x:Block):Bool:=decide (zd x)
theorem aaO {x:Block}:xM x=true↔zd x:=by simp [xM]
@[reducible] noncomputable def UU:Vc.Spec where
 α:=Block
 args x:=[.agg (oD x)]
 pre x:=x.ins.length<=1000000
 res x:=.b (λ_=>xM x)
theorem ara {k:Nat} (h:k<=4):IntKind.i64.wrap (IntKind.i64.wrap (1*2^(min (IntKind.u64.wrap (1*2^(min (k:Int).toNat IntKind.u64.bits))).toNat IntKind.i64.bits)) - 1)=2^(2^k) - 1:=by
 have:k=0\/k=1\/k=2\/k=3\/k=4:=by omega
 rcases this with e|e|e|e|e<;>subst e<;>decide
noncomputable def cFo (n m:Nat):Ctx:=eF n m [] [(178,ac5)]
theorem asJ (n m:Nat):CB PP (cFo n m):=eH n m trivial ⟨am3,trivial⟩
theorem ab0:cW (PP ()) 87 UU:=by
 refine dT (asJ 0 0) (fo Tryz.func87) (λa=>⟨(JV a).1,trivial⟩) (λa=>trivial) ?_
 rintro ⟨ins,table,b9,bh,key⟩ hx
 have hl:ins.length<=1000000:=hx
 have F:¬zd ⟨ins,table,b9,bh,key⟩->false=xM ⟨ins,table,b9,bh,key⟩:=λh=>by simp [xM,h]
 have T:zd ⟨ins,table,b9,bh,key⟩->true=xM ⟨ins,table,b9,bh,key⟩:=λh=>by simp [xM,h]
 refine ⟨?_⟩
 cbv
 refine ⟨λh=>?_,λh=>?_⟩
 ·have h4:¬ins.length<=4:=by have h':aS 4 (ins.length:Int)=true:=h.out;simp only [aS,decide_eq_true_eq] at h';exact aU
  have e:=F λh=>h4 h.k
  cbv
  exact ⟨by exact aL⟩
 ·have h4:ins.length<=4:=by have h':aS 4 (ins.length:Int)=false:=h.out;simp only [aS,decide_eq_false_iff_not] at h';exact aU
  have Dw:=ara h4
  obtain ⟨M,hM⟩:∃M,(2:Int)^(2^ins.length) - 1=M:=⟨_,rfl⟩
  rw [hM] at Dw
  have hM2:∀t:Int,t<=M↔t < 2^(2^ins.length):=λt=>by rw [<-hM];omega
  cbv
  refine ⟨⟨b9,-1,63⟩,⟨by exact bQ,trivial⟩,?_⟩
  cbv
  refine ⟨λh=>?_,λh=>?_⟩
  ·have hr:pK b9 (-1) 63=false:=by have h':(!pK b9 (-1) 63)=true:=h.out;simpa using h'
   have e:=F λh=>by have:=h.b9;simp only at this;simp [pK,cU] at hr;omega
   cbv
   exact ⟨by exact aL⟩
  ·have hr:pK b9 (-1) 63=true:=by have h':(!pK b9 (-1) 63)=false:=h.out;simpa using h'
   have Xu:-1<=b9/\b9<=63:=by simpa [pK,cU] using hr
   cbv
   refine ⟨⟨bh,-1,255⟩,⟨by exact bQ,trivial⟩,?_⟩
   cbv
   refine ⟨λh=>?_,λh=>?_⟩
   ·have hg:pK bh (-1) 255=false:=by have h':(!pK bh (-1) 255)=true:=h.out;simpa using h'
    have e:=F λh=>by have:=h.bh;simp only at this;simp [pK,cU] at hg;omega
    cbv
    exact ⟨by exact aL⟩
   ·have hg:pK bh (-1) 255=true:=by have h':(!pK bh (-1) 255)=false:=h.out;simpa using h'
    have uw:-1<=bh/\bh<=255:=by simpa [pK,cU] using hg
    have wY:0<=(ins.length:Int):=by omega
    have qj:0<=IntKind.u64.wrap (1*2^(min (ins.length:Int).toNat IntKind.u64.bits)):=by
     have:ins.length=0\/ins.length=1\/ins.length=2\/ins.length=3\/ins.length=4:=by omega
     rcases this with e|e|e|e|e<;>rw [e]<;>decide
    cbv
    refine ⟨⟨wY⟩,?_⟩
    cbv
    refine ⟨⟨qj⟩,?_⟩
    cbv
    refine ⟨⟨table,0,M⟩,⟨by have bm:=Dw;exact cQ,trivial⟩,?_⟩
    cbv
    refine ⟨λh=>?_,λh=>?_⟩
    ·have ht:pK table 0 M=false:=by have h':(!pK table 0 M)=true:=h.out;simpa using h'
     have e:=F λh=>by have:=h.table;simp only at this;rw [<-hM2] at this;simp only [pK,cU,Bool.and_eq_false_iff,decide_eq_false_iff_not] at ht;omega
     cbv
     exact ⟨by exact aL⟩
    ·have ht:pK table 0 M=true:=by have h':(!pK table 0 M)=false:=h.out;simpa using h'
     have ain:0<=table/\table < 2^(2^ins.length):=by rw [<-hM2];simpa [pK,cU] using ht
     cbv
     refine ⟨λh=>?_,λh=>?_⟩
     ·have h0:b9 < 0:=bG
      have e:=T ⟨h4,Xu,uw,ain,λh=>by simp only at h;omega⟩
      cbv
      exact ⟨by exact aL⟩
     ·have h0:0<=b9:=bG
      cbv
      refine ⟨λh=>?_,λh=>?_⟩
      ·have h1:bh < 0:=bG
       cbv
       refine ⟨λh=>?_,λh=>?_⟩
       ·have h3:ins.length<=3:=by have h':cU (ins.length:Int) 3=true:=h.out;simp only [cU,decide_eq_true_eq] at h';exact aU
        have e:aV table 0=xM ⟨ins,table,b9,bh,key⟩:=by
         by_cases Du:table=0
         ·rw [<-T ⟨h4,Xu,uw,ain,λ_=>⟨by simp only;omega,h3,Du⟩⟩,Du];rfl
         ·rw [<-F λh=>Du (h.read h0).2.2];simp [aV,Du]
        cbv
        exact ⟨by exact aL⟩
       ·have h3:¬ins.length<=3:=by have h':cU (ins.length:Int) 3=false:=h.out;simp only [cU,decide_eq_false_iff_not] at h';exact aU
        have e:=F λh=>h3 (h.read h0).2.1
        cbv
        exact ⟨by exact aL⟩
      ·have h1:¬bh < 0:=bG
       have e:=F λh=>h1 (by have:=(h.read h0).1;simp only at this;omega)
       cbv
       exact ⟨by exact aL⟩
theorem tu.all {p:bt} {st:List Int} (h:tu p st) (ha:∀b,b < p.blocks.length->St st 2 b):∃r,jH p r:=by
 obtain ⟨r,hr⟩:=h
 refine ⟨r,λb x hx s hs h1 h2=>?_⟩
 exact (hr b _ (ha b (bY.1 hx).1) ⟨x,hx,s,hs,h1,h2,rfl⟩).2
structure uN (p:bt) (b:Nat) (st:List Int):Prop where
 le:b<=p.blocks.length
 w:xf p st
 one:∀c,¬St st 1 c
 two:∀c,c < b->St st 2 c
 BP:tu p st
theorem uN.start (p:bt):uN p 0 (List.replicate p.blocks.length 0):=by
 have h:∀c v,St (List.replicate p.blocks.length 0) v c->v=0:=λc v hc=>by
  have hm:=cb (show (List.replicate p.blocks.length (0:Int))[c]?=some v from hc)
  exact (Ex.1 hm).2
 exact ⟨cL _,⟨si,λc v hc=>.inl (h c v hc)⟩,λc hc=>by have:=h c 1 hc;omega,λc hc=>by omega,.nil λc hc=>by have:=h c 2 hc;omega⟩
theorem uN.next {p:bt} {b:Nat} {st gH:List Int} (h:uN p b st) (hb:b < p.blocks.length) (k:py p st b true gH):uN p (b+1) gH :=
 ⟨hb,k.w,λc hc=>h.one c ((k.one rfl c).1 hc),λc hc=>by
  by_cases e:c=b
  ·subst e;exact (k.two rfl).2
  ·exact (k.two rfl).1 c (h.two c (by omega)),k.BP rfl h.BP⟩
structure OX (p:bt) (y:Bool):Prop where
 up:y=true->∃r,jH p r
 down:(∃r,jH p r)->y=true
@[reducible] noncomputable def arb:fO where
 α:=bt
 args x:=[.agg (fB x),.fn (.func 89) [] []]
 pre x:=xQ x
 β:=Bool
 post x y:=OX x y
 res x y:=.b (λ_=>y)
noncomputable def cWa (n m:Nat):Ctx:=eF n m [(179,Tryz.f179)] [] [179]
theorem P8 (n m:Nat):CB PP (cWa n m):=eH n m ⟨fo Tryz.func179,trivial⟩ trivial
theorem aoI:eM PP 88 arb:=by
 refine iQ (P8 0 0) (fo Tryz.func88) (λa=>⟨kE a,⟨trivial,trivial⟩,trivial⟩) (λa y=>trivial) ?_
 rintro ⟨ins,blocks,outs,ay⟩ hx
 have hp:xQ ⟨ins,blocks,outs,ay⟩:=hx
 have oP:blocks.length<=600:=hp.dK
 have eI:0<=(blocks.length:Int)/\8*(blocks.length:Int)<=281474976710656/\(blocks.length:Int)<=9223372036854775807:=by omega
 refine ⟨?_⟩
 cbv
 refine ⟨⟨eI.1,jR _,eI.2.1,eI.2.2⟩,?_⟩
 cbv
 have tp:List.replicate ((blocks.length:Int)).toNat (0:Int)=List.replicate blocks.length 0:=by rw [pf]
 obtain ⟨Aa,zJ⟩:∃l,List.replicate ((blocks.length:Int)).toNat (0:Int)=l:=⟨_,rfl⟩
 have tN:uN ⟨ins,blocks,outs,ay⟩ 0 Aa:=by rw [<-zJ,tp];exact .start ⟨ins,blocks,outs,ay⟩
 refine Sat.cd (P8 0 0) 5 7 [(.c 3 0,2)] (λx:Nat × List Int=>[(17,.i .i64 (λ_=>(blocks.length:Int))),(18,.i .i64 λ_=>(x.1:Int))]) (λx=>[(2,.dyn 3 1 bK λ_=>x.2)])
  (λx=>uN ⟨ins,blocks,outs,ay⟩ x.1 x.2) (λx=>blocks.length - x.1) (0,Aa) (by exact ao) (by have dP:=zJ;exact bI) tN ?_
 rintro ⟨b,st⟩ hJ
 have hJ:uN ⟨ins,blocks,outs,ay⟩ b st:=hJ
 have eb:b<=blocks.length:=hJ.le
 have h0:=n0 b
 have h1:=cj (i:=b) (by omega)
 cbv
 refine ⟨λh=>?_,λh=>?_⟩
 ·have aR:b < blocks.length:=bG
  have a7:blocks.length - (b+1) < blocks.length - b:=by omega
  have fe:xf ⟨ins,blocks,outs,ay⟩ st/\0<=(b:Int)/\(b:Int) < blocks.length/\lN st<=lN st:=⟨hJ.w,h0,by omega,cR _⟩
  cbv
  refine bV.jM (abY (lN st)) (λa y=>trivial) ⟨⟨ins,blocks,outs,ay⟩,st,b⟩ [3,2,0,4,1] rfl (by exact bQ) (by exact ao) ⟨⟨hp,fe⟩⟩ λy hy=>?_
  have hy:py ⟨ins,blocks,outs,ay⟩ st b y.res y.st:=hy.out
  obtain ⟨res,gZ⟩:=y
  cbv
  refine ⟨λh=>?_,λh=>?_⟩
  ·have hr:res=false:=by have h':(!res)=true:=h.out;simpa using h'
   subst hr
   have bW:OX ⟨ins,blocks,outs,ay⟩ false:=⟨λh=>(by cases h),λ⟨r,hr⟩=>hy.rk r hr λc hc=>absurd hc (hJ.one c)⟩
   cbv
   exact .mk' false ⟨by exact aL⟩ bW
  ·have hr:res=true:=by have h':(!res)=false:=h.out;simpa using h'
   subst hr
   have bA:=hJ.next aR hy
   cbv
   exact ⟨(b+1,gZ),by exact ao,by exact ao,⟨⟨bA,a7⟩⟩⟩
 ·have bS:b=blocks.length:=by
   have h':aS b blocks.length=false:=h.out
   have h2:¬(b:Int) < blocks.length:=by simpa [aS] using h'
   omega
  have bW:OX ⟨ins,blocks,outs,ay⟩ true:=⟨λ_=>hJ.BP.all λc hc=>hJ.two c (by rw [bS];exact hc),λ_=>rfl⟩
  cbv
  exact .mk' true ⟨by exact aL⟩ bW
structure PBl where
 p:bt
 b:Int
@[reducible] noncomputable def CM:Vc.Spec where
 α:=PBl
 args x:=[.agg (fB x.p),.i .i64 (λ_=>x.b)]
 pre x:=x.p.ins.length<=1000000/\0<=x.b/\x.b<=1000000
 res x:=.i .i64 (λ_=>(x.p.ins.length:Int)+2*x.b)
noncomputable def cTb (n m:Nat):Ctx:=eF n m [] []
theorem asK (n m:Nat):CB PP (cTb n m):=eH n m trivial trivial
theorem EP:cW (PP ()) 95 CM:=by
 refine dT (asK 0 0) (fo Tryz.func95) (λa=>⟨kE a.p,trivial,trivial⟩) (λa=>trivial) ?_
 rintro ⟨⟨ins,blocks,outs,ay⟩,b⟩ hx
 obtain ⟨hi,h0,h1⟩:ins.length<=1000000/\0<=b/\b<=1000000:=hx
 have hw:IntKind.i64.wrap ((ins.length:Int)+IntKind.i64.wrap (2*b))=(ins.length:Int)+2*b:=by rw [cD (n:=2*b) (by omega) (by omega),cD (by omega) (by omega)]
 refine ⟨?_⟩
 cbv
 exact ⟨by exact aL⟩
noncomputable def DK (sig:List Int) (x:Block):Int:=iw (4 :: x.table :: x.b9 :: x.ins.map λs=>IntKind.i64.wrap (sig.getD s.toNat 0))
structure Xv where
 p:bt
 sig:List Int
 out:List Int
 b:Int
structure La where
 sig:List Int
 out:List Int
structure Lb (x:Xv) (y:La):Prop where
 ok:∃z,x.p.blocks[x.b.toNat]?=some z/\(0<=z.bh->y.sig=x.sig/\y.out=x.out)/\(z.bh < 0->y.sig=x.sig.set (x.p.ins.length+2*x.b.toNat) (DK x.sig z)/\y.out=x.out.set x.b.toNat (DK x.sig z))
structure V5 (x:Xv):Prop where
 dK:x.p.blocks.length<=600
 ins:x.p.ins.length<=1000000
 lo:0<=x.b
 hi:x.b < x.p.blocks.length
 sl:x.sig.length=x.p.ins.length+2*x.p.blocks.length
 ol:x.out.length=x.p.blocks.length
 used:∀z∈x.p.blocks,∀s∈z.ins,0<=s/\s < x.p.sigs
 k:∀z∈x.p.blocks,z.ins.length<=1000000
@[reducible] noncomputable def apP:na where
 α:=Xv
 args x:=[.i .i64 (λ_=>x.b),.ptr 0 0,.ptr 1 0,.ptr 3 0,.ptr 5 0]
 io x:=[.fix 57 (fB x.p),.fix 72 [.own 2],.dyn 74 1 mH (λ_=>x.sig),.fix 72 [.own 4],.dyn 74 1 mH (λ_=>x.out),.fix 179 (fB x.p)]
 pre x:=V5 x
 β:=La
 post x y:=Lb x y
 mv:=[]
 res x y:=.dH []
 ko x y:=[.fix 57 (fB x.p),.fix 72 [.own 2],.dyn 74 1 mH (λ_=>y.sig),.fix 72 [.own 4],.dyn 74 1 mH (λ_=>y.out),.fix 179 (fB x.p)]
noncomputable def cVk (n m:Nat):Ctx:=eF n m [] [(99,UT),(95,CM)] [] [] [] [35]
theorem ago (n m:Nat):CB PP (cVk n m):=eH n m trivial ⟨abZ,EP,trivial⟩
theorem anL:iK PP 100 apP:=by
 refine mP (ago 0 0) (fo Tryz.func100) (λa y=>rfl) (λa=>⟨rfl,rfl⟩) .nil ?_
 rintro ⟨⟨ins,blocks,outs,ay⟩,sig,out,b⟩ hx
 have hx:V5 ⟨⟨ins,blocks,outs,ay⟩,sig,out,b⟩:=hx
 have oP:blocks.length<=600:=hx.dK
 have gY:ins.length<=1000000:=hx.ins
 have ei:0<=b:=hx.lo
 have eb:b < blocks.length:=hx.hi
 have jm:sig.length=ins.length+2*blocks.length:=hx.sl
 have gu:out.length=blocks.length:=hx.ol
 obtain ⟨x,oZ⟩:=bB (l:=blocks) (i:=b.toNat) (by omega)
 have yH:∀s∈x.ins,0<=s/\s < (ins.length:Int)+2*blocks.length:=hx.used x (cb oZ)
 have mu:=hx.k x (cb oZ)
 refine ⟨?_⟩
 cbv
 refine ⟨x,⟨ei,oZ⟩,?_⟩
 cbv
 refine ⟨λh=>?_,λh=>?_⟩
 ·have hr:0<=x.bh:=bG
  have bW:Lb ⟨⟨ins,blocks,outs,ay⟩,sig,out,b⟩ ⟨sig,out⟩:=⟨x,oZ,λ_=>⟨rfl,rfl⟩,λh=>by omega⟩
  cbv
  exact ⟨⟨sig,out⟩,[],[],⟨by exact aL,trivial⟩,by exact ao,⟨bW⟩⟩
 ·have hr:x.bh < 0:=bG
  cbv
  refine ⟨[4,x.table,x.b9],⟨by exact aL,rfl⟩,?_⟩
  cbv
  obtain ⟨f,hf⟩:∃f:Int->Int,f=λs=>IntKind.i64.wrap (sig.getD s.toNat 0):=⟨_,rfl⟩
  refine Sat.cd (ago 0 0) 8 7 [(.t 7,7)] (λy:Nat × List Int=>[(7,.own 7),(24,.sl 1 bK (λ_=>x.ins)),(25,.i .i64 (λ_=>(x.ins.length:Int))),(26,.i .i64 (λ_=>(y.1:Int)))]) (λy=>[(7,.dyn 3 1 bK (λ_=>y.2))])
   (λy=>y.1<=x.ins.length/\y.2=[4,x.table,x.b9]++(x.ins.take y.1).map f) (λy=>x.ins.length - y.1) (0,[4,x.table,x.b9]) (by exact ao) (by exact ao) ⟨cL _,by simp⟩ ?_
  rintro ⟨j,l⟩ ⟨hj,hl⟩
  have hj:j<=x.ins.length:=hj
  have hl:l=[4,x.table,x.b9]++(x.ins.take j).map f:=hl
  have mq:l.length=3+j:=by rw [hl];simp;omega
  have iO:=n0 j
  have vF:=cj (i:=j) (by omega)
  cbv
  refine ⟨λh=>?_,λh=>?_⟩
  ·have eE:j < x.ins.length:=bG
   have a7:x.ins.length - (j+1) < x.ins.length - j:=by omega
   refine (bB eE).elim λs hs=>?_
   have qy:=yH s (cb hs)
   have qy:0<=s/\s < (ins.length:Int)+2*(blocks.length:Int):=qy
   have uJ:0<=s/\s.toNat < sig.length:=by omega
   refine (bB uJ.2).elim λv hv=>?_
   have Y2:IntKind.i64.wrap v=f s:=by rw [hf];simp only [ig,hv,n6]
   have bA:j+1<=x.ins.length/\l++[f s]=[4,x.table,x.b9]++(x.ins.take (j+1)).map f:=⟨eE,by rw [hl,El,hs];simp⟩
   cbv
   refine ⟨s,⟨iO,hs⟩,?_⟩
   cbv
   refine ⟨⟨uJ⟩,v,⟨hv,rfl⟩,?_⟩
   cbv
   refine ⟨[f s],⟨by exact bQ,rfl⟩,?_⟩
   cbv
   refine ⟨[f s],⟨by exact bQ,by show (l.length+1)*8<=_;omega,by show l.length+1<=_;omega⟩,?_⟩
   cbv
   exact ⟨(j+1,l++[f s]),by exact ao,by exact ao,⟨⟨bA,a7⟩⟩⟩
  ·have oq:j=x.ins.length:=by
    have h':aS j x.ins.length=false:=h.out
    have h2:¬(j:Int) < x.ins.length:=by simpa [aS] using h'
    omega
   have Y3:iw l=DK sig x:=by rw [hl,oq,kC,hf];rfl
   obtain ⟨K,hK⟩:∃K,iw l=K:=⟨_,rfl⟩
   have hKd:K=DK sig x:=by rw [<-hK,Y3]
   have eb:b < (blocks.length:Int):=eb
   have xg:0<=b/\b.toNat < out.length:=by omega
   refine (bB xg.2).elim λu hu=>?_
   refine (⟨_,rfl⟩:∃o2,out.set b.toNat K=o2).elim λo2 j5=>?_
   have Xw:0<=b/\b.toNat < (out.set b.toNat K).length:=by rw [kO];exact xg
   have BQ:(out.set b.toNat K)[b.toNat]?=some K:=by rw [jb];simp [xg.2]
   have yI:0<=(ins.length:Int)+2*b/\((ins.length:Int)+2*b).toNat < sig.length:=by omega
   refine (bB yI.2).elim λu2 uK=>?_
   refine (⟨_,rfl⟩:∃s2,sig.set ((ins.length:Int)+2*b).toNat K=s2).elim λs2 tK=>?_
   have bW:Lb ⟨⟨ins,blocks,outs,ay⟩,sig,out,b⟩ ⟨s2,o2⟩:=⟨x,oZ,λh=>by omega,λ_=>⟨by
    have e:((ins.length:Int)+2*b).toNat=ins.length+2*b.toNat:=by omega
    show s2=sig.set (ins.length+2*b.toNat) (DK sig x)
    rw [<-tK,e,hKd],by show o2=out.set b.toNat (DK sig x);rw [<-j5,hKd]⟩⟩
   have QQ:b<=1000000:=by omega
   have hlen:l.length < 4611686018427387904:=by omega
   cbv
   refine ⟨l,⟨.inl ⟨by exact bQ,rfl⟩,hlen⟩,?_⟩
   cbv
   refine ⟨⟨xg⟩,?_⟩
   cbv
   refine ⟨(u,K),⟨hu,rfl,by have bm:=hK;exact dy⟩,?_⟩
   cbv
   refine ⟨⟨⟨ins,blocks,outs,ay⟩,b⟩,⟨by exact bQ,gY,ei,QQ⟩,?_⟩
   cbv
   refine ⟨⟨Xw⟩,K,⟨BQ,rfl⟩,?_⟩
   cbv
   refine ⟨⟨yI⟩,(u2,K),⟨uK,rfl,by exact aL⟩,?_⟩
   cbv
   exact ⟨⟨s2,o2⟩,[],[],⟨by exact aL,trivial⟩,by have dP:=tK;have kI:=j5;exact bI,⟨bW⟩⟩
noncomputable def cEl (n m:Nat):Ctx:=eF n m [] []
theorem P9 (n m:Nat):CB PP (cEl n m):=eH n m trivial trivial
@[reducible] noncomputable def V6:Vc.Spec where
 α:=nK bU
 args x:=[.sl 3 dk (λ_=>x.a),.sl 3 dk (λ_=>x.b)]
 pre x:=x.a.length<=1000000/\x.b.length<=1000000
 res x:=.b (λ_=>jE x.a x.b)
theorem apQ:cW (PP ()) 92 V6:=by
 refine dT (P9 0 0) (fo Tryz.func92) (λa=>⟨(λx=>(gU x).1),(λx=>(gU x).1),trivial⟩) (λa=>trivial) ?_
 rintro ⟨a,b⟩ hx
 obtain ⟨ha,hb⟩:a.length<=1000000/\b.length<=1000000:=hx
 obtain ⟨R,hR⟩:∃R,jE a b=R:=⟨_,rfl⟩
 have kp:V6.res ⟨a,b⟩=.b (λ_=>R):=by rw [<-hR]
 rw [kp]
 refine ⟨?_⟩
 cbv
 refine ⟨λh=>?_,λh=>?_⟩
 ·have cT:¬a.length=b.length:=by have h':(!aV (a.length:Int) (b.length:Int))=true:=h.out;simp only [aV,p8,beq_eq_false_iff_ne,ne_eq] at h';intro e;exact h' (by rw [e])
  have e:false=R:=by rw [<-hR];exact (E4 λe=>cT (by rw [e])).symm
  cbv
  exact ⟨by exact aL⟩
 ·have hl:a.length=b.length:=by have h':(!aV (a.length:Int) (b.length:Int))=false:=h.out;simp only [aV,Ez,beq_iff_eq] at h';exact aU
  cbv
  refine Sat.cd (P9 0 0) 0 5 [] (λi:Nat=>[(12,.i .i64 (λ_=>(a.length:Int))),(13,.i .i64 (λ_=>(i:Int)))]) (λi=>[]) (λi=>i<=a.length/\∀(j:Nat) (x y:bU),j < i->a[j]?=some x->b[j]?=some y->x=y) (λi=>a.length - i) 0 (by exact ao) (by exact ao) ⟨cL _,λj x y h=>by omega⟩ ?_
  rintro i ⟨hi,hj⟩
  have h0:=n0 i
  have h1:=cj (i:=i) (by omega)
  cbv
  refine ⟨λh=>?_,λh=>?_⟩
  ·have bq:i < a.length:=bG
   have a7:a.length - (i+1) < a.length - i:=by omega
   refine (bB bq).elim λx hx=>?_
   refine (bB (l:=b) (i:=i) (by omega)).elim λy hy=>?_
   cbv
   refine ⟨x,⟨h0,hx⟩,?_⟩
   cbv
   refine ⟨y,⟨h0,hy⟩,?_⟩
   cbv
   refine ⟨λh=>?_,λh=>?_⟩
   ·have h:=h.out
    have cT:x≠y:=by rintro rfl;simp [aV] at h
    have e:false=R:=by rw [<-hR];exact (KJ hx hy cT).symm
    cbv
    exact ⟨by exact aL⟩
   ·have h:=h.out
    have he:x=y:=by simp [aV] at h;cases x;cases y;simp at h ⊢;omega
    have bA:i+1<=a.length/\∀(j:Nat) (x y:bU),j < i+1->a[j]?=some x->b[j]?=some y->x=y:=⟨bq,λj u v eE hu hv=>by
     by_cases e:j=i
     ·subst e;rw [hx] at hu;rw [hy] at hv;cases hu;cases hv;exact he
     ·exact hj j u v (by omega) hu hv⟩
    cbv
    exact ⟨i+1,by exact ao,by exact ao,⟨⟨bA,a7⟩⟩⟩
  ·have bS:i=a.length:=by
    have h':aS i a.length=false:=h.out
    have h2:¬(i:Int) < a.length:=by simpa [aS] using h'
    omega
   have e:true=R:=by rw [<-hR];exact (Kt hl λj x y hx hy=>hj j x y (by have:=(bY.1 hx).1;omega) hx hy).symm
   cbv
   exact ⟨by exact aL⟩
@[reducible] noncomputable def V7:Vc.Spec where
 α:=nK Int
 args x:=[.sl 1 bK (λ_=>x.a),.sl 1 bK (λ_=>x.b)]
 pre x:=x.a.length<=1000000/\x.b.length<=1000000
 res x:=.b (λ_=>jE x.a x.b)
theorem apR:cW (PP ()) 96 V7:=by
 refine dT (P9 0 0) (fo Tryz.func96) (λa=>⟨(λx=>(cP x).1),(λx=>(cP x).1),trivial⟩) (λa=>trivial) ?_
 rintro ⟨a,b⟩ hx
 obtain ⟨ha,hb⟩:a.length<=1000000/\b.length<=1000000:=hx
 obtain ⟨R,hR⟩:∃R,jE a b=R:=⟨_,rfl⟩
 have kp:V7.res ⟨a,b⟩=.b (λ_=>R):=by rw [<-hR]
 rw [kp]
 refine ⟨?_⟩
 cbv
 refine ⟨λh=>?_,λh=>?_⟩
 ·have cT:¬a.length=b.length:=by have h':(!aV (a.length:Int) (b.length:Int))=true:=h.out;simp only [aV,p8,beq_eq_false_iff_ne,ne_eq] at h';intro e;exact h' (by rw [e])
  have e:false=R:=by rw [<-hR];exact (E4 λe=>cT (by rw [e])).symm
  cbv
  exact ⟨by exact aL⟩
 ·have hl:a.length=b.length:=by have h':(!aV (a.length:Int) (b.length:Int))=false:=h.out;simp only [aV,Ez,beq_iff_eq] at h';exact aU
  cbv
  refine Sat.cd (P9 0 0) 0 5 [] (λi:Nat=>[(12,.i .i64 (λ_=>(a.length:Int))),(13,.i .i64 (λ_=>(i:Int)))]) (λi=>[]) (λi=>i<=a.length/\∀(j:Nat) (x y:Int),j < i->a[j]?=some x->b[j]?=some y->x=y) (λi=>a.length - i) 0 (by exact ao) (by exact ao) ⟨cL _,λj x y h=>by omega⟩ ?_
  rintro i ⟨hi,hj⟩
  have h0:=n0 i
  have h1:=cj (i:=i) (by omega)
  cbv
  refine ⟨λh=>?_,λh=>?_⟩
  ·have bq:i < a.length:=bG
   have a7:a.length - (i+1) < a.length - i:=by omega
   refine (bB bq).elim λx hx=>?_
   refine (bB (l:=b) (i:=i) (by omega)).elim λy hy=>?_
   cbv
   refine ⟨x,⟨h0,hx⟩,?_⟩
   cbv
   refine ⟨y,⟨h0,hy⟩,?_⟩
   cbv
   refine ⟨λh=>?_,λh=>?_⟩
   ·have h:=h.out
    have cT:x≠y:=by simpa [aV] using h
    have e:false=R:=by rw [<-hR];exact (KJ hx hy cT).symm
    cbv
    exact ⟨by exact aL⟩
   ·have h:=h.out
    have he:x=y:=by simpa [aV] using h
    have bA:i+1<=a.length/\∀(j:Nat) (x y:Int),j < i+1->a[j]?=some x->b[j]?=some y->x=y:=⟨bq,λj u v eE hu hv=>by
     by_cases e:j=i
     ·subst e;rw [hx] at hu;rw [hy] at hv;cases hu;cases hv;exact he
     ·exact hj j u v (by omega) hu hv⟩
    cbv
    exact ⟨i+1,by exact ao,by exact ao,⟨⟨bA,a7⟩⟩⟩
  ·have bS:i=a.length:=by
    have h':aS i a.length=false:=h.out
    have h2:¬(i:Int) < a.length:=by simpa [aS] using h'
    omega
   have e:true=R:=by rw [<-hR];exact (Kt hl λj x y hx hy=>hj j x y (by have:=(bY.1 hx).1;omega) hx hy).symm
   cbv
   exact ⟨by exact aL⟩
noncomputable def cRa (n m:Nat):Ctx:=eF n m [] []
theorem V8 (n m:Nat):CB PP (cRa n m):=eH n m trivial trivial
theorem anM:cW (PP ()) 75 Pu:=by
 refine dT (V8 0 0) (fo Tryz.func75) (λa=>⟨(gU a.w).1,trivial,trivial,trivial⟩) (λa=>trivial) ?_
 rintro ⟨w,lo,hi⟩ hx
 have e8:cU w.bit 7=aS w.bit 8:=by unfold cU aS;congr 1;exact propext ⟨λh=>by omega,λh=>by omega⟩
 refine ⟨?_⟩
 cbv
 repeat' (first|(refine .b ?_;done)|(refine ⟨λh=>?_,λh=>?_⟩<;>(have h:=h.out;cbv))|fail)
 all_goals first|refine .bc ?_|refine .b ?_|refine ⟨.bc ?_⟩|refine ⟨.b ?_⟩
 all_goals simp_all [uM]
noncomputable def mb (p:bt) (s:Int):Int:=if s < p.ins.length then -1 else (cN p.ins.length s:Int)
noncomputable def rN (p:bt) (s:Int):Bool:=decide ((p.ins.length:Int)<=s/\fv p.ins.length s)
structure FQ (p:bt) (s:Int):Prop where
 ins:p.ins.length<=1000000
 lo:0<=s
 hi:s<=10000000
theorem ac6 {n:Nat} {s:Int} (hn:n<=1000000) (h0:0<=s) (h1:s<=10000000):IntKind.i64.wrap (s - (n:Int))=s - (n:Int)/\((n:Int)<=s->IntKind.i64.wrap ((IntKind.i64.wrap (s - (n:Int))).tdiv 2)=(cN n s:Int)/\(IntKind.i64.wrap (s - (n:Int))).tmod 2=(s - (n:Int)) % 2):=by
 have fH:IntKind.i64.wrap (s - (n:Int))=s - (n:Int):=cD (by omega) (by omega)
 refine ⟨fH,λbS=>⟨?_,?_⟩⟩
 ·have rf:(s - (n:Int)) / 2=(cN n s:Int):=by unfold cN;omega
  rw [fH,Ay (by omega),rf]
  exact cD (by unfold cN;omega) (by unfold cN;omega)
 ·rw [fH,xD (by omega)]
@[reducible] noncomputable def OY:Vc.Spec where
 α:=Y1
 args x:=[.agg (fB x.p),.i .i64 (λ_=>x.s)]
 pre x:=FQ x.p x.s
 res x:=.i .i64 (λ_=>mb x.p x.s)
theorem TT:cW (PP ()) 174 OY:=by
 refine dT (V8 0 0) (fo Tryz.func174) (λa=>⟨kE a.p,trivial,trivial⟩) (λa=>trivial) ?_
 rintro ⟨⟨ins,blocks,outs,ay⟩,s⟩ hx
 have hx:FQ ⟨ins,blocks,outs,ay⟩ s:=hx
 have hf:=ac6 (n:=ins.length) hx.ins hx.lo hx.hi
 refine ⟨?_⟩
 cbv
 refine ⟨λh=>?_,λh=>?_⟩
 ·have aR:s < (ins.length:Int):=bG
  have e:-1=mb ⟨ins,blocks,outs,ay⟩ s:=by unfold mb;rw [if_pos aR]
  cbv
  exact ⟨by exact aL⟩
 ·have bS:(ins.length:Int)<=s:=bG
  have e:IntKind.i64.wrap ((IntKind.i64.wrap (s - (ins.length:Int))).tdiv 2)=mb ⟨ins,blocks,outs,ay⟩ s:=by rw [(hf.2 bS).1];unfold mb;rw [if_neg (by simp only;omega)]
  cbv
  exact ⟨⟨by decide⟩,⟨by exact aL⟩⟩
@[reducible] noncomputable def Vu:Vc.Spec where
 α:=Y1
 args x:=[.agg (fB x.p),.i .i64 (λ_=>x.s)]
 pre x:=FQ x.p x.s
 res x:=.b (λ_=>rN x.p x.s)
theorem ac7:cW (PP ()) 173 Vu:=by
 refine dT (V8 0 0) (fo Tryz.func173) (λa=>⟨kE a.p,trivial,trivial⟩) (λa=>trivial) ?_
 rintro ⟨⟨ins,blocks,outs,ay⟩,s⟩ hx
 have hx:FQ ⟨ins,blocks,outs,ay⟩ s:=hx
 have hf:=ac6 (n:=ins.length) hx.ins hx.lo hx.hi
 refine ⟨?_⟩
 cbv
 refine ⟨λh=>?_,λh=>?_⟩
 ·have bS:(ins.length:Int)<=s:=bG
  have e:aV ((IntKind.i64.wrap (s - (ins.length:Int))).tmod 2) 1=rN ⟨ins,blocks,outs,ay⟩ s:=by
   rw [(hf.2 bS).2];unfold rN fv aV;by_cases h:(s - (ins.length:Int)) % 2=1<;>simp [bS,h]
  cbv
  exact ⟨⟨by decide⟩,⟨by exact aL⟩⟩
 ·have aR:¬(ins.length:Int)<=s:=bG
  have e:false=rN ⟨ins,blocks,outs,ay⟩ s:=by unfold rN;simp;intro h;exact absurd h aR
  cbv
  exact ⟨by exact aL⟩
noncomputable def cRb (n m:Nat):Ctx:=eF n m [(102,Tryz.f102)] [(174,OY),(173,Vu)]
theorem asL (n m:Nat):CB PP (cRb n m):=eH n m ⟨fo Tryz.func102,trivial⟩ ⟨TT,ac7,trivial⟩
theorem am4:cW (PP ()) 76 OU:=by
 refine dT (asL 0 0) (fo Tryz.func76) (λa=>⟨kE a.p,trivial,trivial⟩) (λa=>trivial) ?_
 rintro ⟨⟨ins,blocks,outs,ay⟩,s⟩ hx
 obtain ⟨hb,hi⟩:EO ⟨ins,blocks,outs,ay⟩:=hx
 have hb:blocks.length<=1000000:=hb
 have hi:ins.length<=1000000:=hi
 have RH:IntKind.i64.wrap (2*(blocks.length:Int))=2*(blocks.length:Int):=cD (by omega) (by omega)
 have dA:IntKind.i64.wrap ((ins.length:Int)+IntKind.i64.wrap (2*(blocks.length:Int)))=(ins.length:Int)+2*(blocks.length:Int):=by rw [RH];exact cD (by omega) (by omega)
 have F:¬kD ⟨ins,blocks,outs,ay⟩ s->false=oC ⟨ins,blocks,outs,ay⟩ s:=λh=>by simp [oC,h]
 have T:kD ⟨ins,blocks,outs,ay⟩ s->true=oC ⟨ins,blocks,outs,ay⟩ s:=λh=>by simp [oC,h]
 refine ⟨?_⟩
 cbv
 refine ⟨λh=>?_,λh=>?_⟩
 ·have h0:s < 0:=bG
  have e:=F λh=>by have:=h.lo;omega
  cbv
  exact ⟨by exact aL⟩
 ·have h0:0<=s:=bG
  cbv
  refine ⟨λh=>?_,λh=>?_⟩
  ·have h1:(ins.length:Int)+2*(blocks.length:Int)<=s:=by
    have h':cU (IntKind.i64.wrap ((ins.length:Int)+IntKind.i64.wrap (2*(blocks.length:Int)))) s=true:=h.out
    rw [dA] at h'
    simpa [cU] using h'
   have e:=F λh=>by have:=h.hi;unfold bt.sigs at this;simp only at this;omega
   cbv
   exact ⟨by exact aL⟩
  ·have h1:s < (ins.length:Int)+2*(blocks.length:Int):=by
    have h':cU (IntKind.i64.wrap ((ins.length:Int)+IntKind.i64.wrap (2*(blocks.length:Int)))) s=false:=h.out
    rw [dA] at h'
    simpa [cU] using h'
   have gF:s < bt.sigs ⟨ins,blocks,outs,ay⟩:=by unfold bt.sigs;simp only;omega
   have DL:FQ ⟨ins,blocks,outs,ay⟩ s:=⟨hi,h0,by omega⟩
   cbv
   refine ⟨⟨⟨ins,blocks,outs,ay⟩,s⟩,⟨by exact bQ,DL⟩,?_⟩
   cbv
   refine ⟨λh=>?_,λh=>?_⟩
   ·have lS:rN ⟨ins,blocks,outs,ay⟩ s=false:=by have h':(!rN ⟨ins,blocks,outs,ay⟩ s)=true:=h.out;simpa using h'
    have e:=T ⟨h0,gF,λh1 h2=>by unfold rN at lS;simp only [decide_eq_false_iff_not] at lS;exact absurd ⟨h1,h2⟩ lS⟩
    cbv
    exact ⟨by exact aL⟩
   ·have hf:rN ⟨ins,blocks,outs,ay⟩ s=true:=by have h':(!rN ⟨ins,blocks,outs,ay⟩ s)=false:=h.out;simpa using h'
    have RI:(ins.length:Int)<=s/\fv ins.length s:=by unfold rN at hf;simpa using hf
    have h1:s < (ins.length:Int)+2*(blocks.length:Int):=h1
    have fV:cN ins.length s < blocks.length:=by have:=RI.1;unfold cN;omega
    refine (bB fV).elim λx hx=>?_
    have zY:mb ⟨ins,blocks,outs,ay⟩ s=(cN ins.length s:Int):=by unfold mb;rw [if_neg (by simp only;have:=RI.1;omega)]
    have gE:0<=mb ⟨ins,blocks,outs,ay⟩ s/\blocks[(mb ⟨ins,blocks,outs,ay⟩ s).toNat]?=some x:=by rw [zY];exact ⟨by omega,by simpa using hx⟩
    have e:cU 0 x.bh=oC ⟨ins,blocks,outs,ay⟩ s:=by
     by_cases hr:0<=x.bh
     ·rw [<-T ⟨h0,gF,λ_ _=>⟨x,hx,hr⟩⟩];simp [cU,hr]
     ·rw [<-F λh=>by obtain ⟨y,hy,F5⟩:=h.flip RI.1 RI.2;simp only at hy;rw [hx] at hy;cases hy;exact hr F5];simp [cU,hr]
    cbv
    refine ⟨⟨⟨ins,blocks,outs,ay⟩,s⟩,⟨by exact bQ,DL⟩,?_⟩
    cbv
    refine ⟨x,⟨gE⟩,?_⟩
    cbv
    exact ⟨by exact aL⟩
@[reducible] noncomputable def TU:Vc.Spec:=OU
theorem aaP:cW (PP ()) 76 TU:=am4
structure Iy (p:bt) (b:Int):Prop where
 sh:Shape p
 ins:p.ins.length<=1000000
 lo:0<=b
 hi:b < p.blocks.length
theorem Iy.small {p:bt} {b:Int} (h:Iy p b):EO p:=⟨by have:=h.sh.dK;omega,h.ins⟩
@[reducible] noncomputable def agp:Vc.Spec where
 α:=PBl
 args x:=[.agg (fB x.p),.i .i64 (λ_=>x.b)]
 pre x:=Iy x.p x.b
 res x:=.b (λ_=>true)
theorem pw2 {k:Nat} (hk:k<=4):(min (IntKind.u64.wrap (1*2^(min (IntKind.u64.wrap (k:Int)).toNat IntKind.u64.bits))).toNat IntKind.i64.bits)=2^k:=by
 have:k=0\/k=1\/k=2\/k=3\/k=4:=by omega
 rcases this with e|e|e|e|e<;>subst e<;>rfl
theorem Uo {t:Int} {k:Nat} (hk:k<=4) (h0:0<=t) (h1:t < 2^(2^k)):t.fdiv (2^(min (IntKind.u64.wrap (1*2^(min (IntKind.u64.wrap (k:Int)).toNat IntKind.u64.bits))).toNat IntKind.i64.bits))=0:=by
 rw [pw2 hk,Int.fdiv_eq_ediv_of_nonneg _ (Int.le_of_lt (Int.lt_of_le_of_lt h0 h1))]
 exact Int.ediv_eq_zero_of_lt h0 h1
theorem Pv {k:Nat} (hk:k<=4):0<=IntKind.u64.wrap (k:Int)/\0<=IntKind.u64.wrap (1*2^(min (IntKind.u64.wrap (k:Int)).toNat IntKind.u64.bits)):=by
 have:k=0\/k=1\/k=2\/k=3\/k=4:=by omega
 rcases this with e|e|e|e|e<;>rw [e]<;>decide
noncomputable def Y4 (p:bt) (b:Int) (x:Block):Vc.St :=
 ⟨[.agg [.sl 3 dk (λ_=>p.ins),.sl 5 oD (λ_=>p.blocks),.sl 3 dk (λ_=>p.outs),.sl 1 bK (λ_=>p.ay)],.i .i64 (λ_=>b),.ptr 0 0,.any,.bc false,.ptr 1 0,.i .i64 (λ_=>(x.ins.length:Int)),.ic .i64 0]++x4 99,
  [.fix 57 [.sl 3 dk (λ_=>p.ins),.sl 5 oD (λ_=>p.blocks),.sl 3 dk (λ_=>p.outs),.sl 1 bK (λ_=>p.ay)],
   .fix 76 [.sl 1 bK (λ_=>x.ins),.i .i64 (λ_=>x.table),.i .i64 (λ_=>x.b9),.i .i64 (λ_=>x.bh),.i .u64 (λ_=>x.key)]]⟩
noncomputable def cGo (n m:Nat):Ctx:=eF n m [] [(76,TU)]
theorem V9 (n m:Nat):CB PP (cGo n m):=eH n m trivial ⟨aaP,trivial⟩
theorem apS:cW (PP ()) 77 agp:=by
 refine dT (V9 0 0) (fo Tryz.func77) (λa=>⟨kE a.p,trivial,trivial⟩) (λa=>trivial) ?_
 rintro ⟨⟨ins,blocks,outs,ay⟩,b⟩ hx
 have hx:Iy ⟨ins,blocks,outs,ay⟩ b:=hx
 have ej:=hx.sh
 have sU:=hx.small
 have ei:0<=b:=hx.lo
 have eb:b < blocks.length:=hx.hi
 have oP:blocks.length<=600:=ej.dK
 obtain ⟨x,oZ⟩:=bB (l:=blocks) (i:=b.toNat) (by omega)
 have gW:=cb oZ
 have hf:=ej.formed x gW
 have pD:∀s∈x.ins,kD ⟨ins,blocks,outs,ay⟩ s:=ej.used x gW
 have hk:=hf.k
 have Xu:=hf.b9
 have uw:=hf.bh
 have asM:=hf.read
 have avj:∀i:Nat,(i:Int) < b->∀y,blocks[i]?=some y->0<=x.bh->y.bh≠x.bh:=λi hi y hy h0 e=>by
  have:=ej.aN b.toNat i x y oZ hy h0 e.symm
  omega
 have ef:=λ(_:Unit)=>Uo hk hf.table.1 hf.table.2
 clear ef
 refine ⟨?_⟩
 cbv
 refine ⟨x,⟨ei,oZ⟩,?_⟩
 cbv
 refine ⟨λh=>?_,λ_=>?_⟩
 ·have hF:False:=by
   have h':aS 4 (x.ins.length:Int)=true:=h.out
   simp only [aS,decide_eq_true_eq] at h';exact aU
  cases hF
 cbv
 refine ⟨λh=>?_,λ_=>?_⟩
 ·have hF:False:=by
   have h':aS x.b9 (-1)=true:=h.out
   simp only [aS,decide_eq_true_eq] at h';omega
  cases hF
 cbv
 refine ⟨λh=>?_,λ_=>?_⟩
 ·have hF:False:=by
   have h':aS 63 x.b9=true:=h.out
   simp only [aS,decide_eq_true_eq] at h';omega
  cases hF
 cbv
 refine ⟨λh=>?_,λ_=>?_⟩
 ·have hF:False:=by
   have h':aS x.bh (-1)=true:=h.out
   simp only [aS,decide_eq_true_eq] at h';omega
  cases hF
 cbv
 refine ⟨λh=>?_,λ_=>?_⟩
 ·have hF:False:=by
   have h':aS 255 x.bh=true:=h.out
   simp only [aS,decide_eq_true_eq] at h';omega
  cases hF
 cbv
 apply Co (λc k=>Sat [] false PP c (Y4 ⟨ins,blocks,outs,ay⟩ b x) k)
 ·intro tail
  refine ⟨λh=>?_,λh=>?_⟩
  ·have hr:0<=x.b9:=bG
   have mS:=asM hr
   cbv
   refine ⟨λh=>?_,λ_=>?_⟩
   ·have hF:False:=by
     have h':cU 0 x.bh=true:=h.out
     simp only [cU,decide_eq_true_eq] at h';have:=mS.1;omega
    cases hF
   cbv
   refine ⟨λ_=>?_,λh=>?_⟩
   rotate_left
   ·have hF:False:=by
     have h':cU 0 x.b9=false:=h.out
     simp only [cU,decide_eq_false_iff_not] at h';omega
    cases hF
   cbv
   refine ⟨λh=>?_,λ_=>?_⟩
   ·have hF:False:=by
     have h':aS 3 (x.ins.length:Int)=true:=h.out
     simp only [aS,decide_eq_true_eq] at h';have:=mS.2.1;exact aU
    cases hF
   cbv
   refine ⟨λh=>?_,λ_=>?_⟩
   ·have hF:False:=by
     have h':(!aV x.table 0)=true:=h.out
     rw [mS.2.2] at h';cases h'
    cases hF
   cbv
   refine ⟨λh=>?_,λ_=>?_⟩
   ·have hF:False:=by
     have h':aS x.table 0=true:=h.out
     have:=hf.table.1;simp only [aS,decide_eq_true_eq] at h';omega
    cases hF
   cbv
   refine ⟨⟨(Pv hk).1⟩,?_⟩
   cbv
   refine ⟨⟨(Pv hk).2⟩,?_⟩
   cbv
   refine ⟨λh=>?_,λ_=>?_⟩
   ·have hF:False:=by
     have h':(!aV (x.table.fdiv (2^(min (IntKind.u64.wrap (1*2^(min (IntKind.u64.wrap (x.ins.length:Int)).toNat IntKind.u64.bits))).toNat IntKind.i64.bits))) 0)=true:=h.out
     rw [Uo hk hf.table.1 hf.table.2] at h'
     cases h'
    cases hF
   cbv
   exact kQ 2 (Y4 ⟨ins,blocks,outs,ay⟩ b x) (by exact ao) (by exact ao) tail
  ·have hr:¬0<=x.b9:=bG
   cbv
   refine ⟨λh=>?_,λ_=>?_⟩
   ·have hF:False:=by
     have h':cU 0 x.b9=true:=h.out
     simp only [cU,decide_eq_true_eq] at h';omega
    cases hF
   cbv
   refine ⟨λh=>?_,λ_=>?_⟩
   ·have hF:False:=by
     have h':aS x.table 0=true:=h.out
     have:=hf.table.1;simp only [aS,decide_eq_true_eq] at h';omega
    cases hF
   cbv
   refine ⟨⟨(Pv hk).1⟩,?_⟩
   cbv
   refine ⟨⟨(Pv hk).2⟩,?_⟩
   cbv
   refine ⟨λh=>?_,λ_=>?_⟩
   ·have hF:False:=by
     have h':(!aV (x.table.fdiv (2^(min (IntKind.u64.wrap (1*2^(min (IntKind.u64.wrap (x.ins.length:Int)).toNat IntKind.u64.bits))).toNat IntKind.i64.bits))) 0)=true:=h.out
     rw [Uo hk hf.table.1 hf.table.2] at h'
     cases h'
    cases hF
   cbv
   exact kQ 2 (Y4 ⟨ins,blocks,outs,ay⟩ b x) (by exact ao) (by exact ao) tail
 ·refine Sat.cd (V9 0 0) 2 7 [] (λi:Nat=>[(7,.i .i64 (λ_=>(i:Int)))]) (λi=>[]) (λi=>i<=x.ins.length) (λi=>x.ins.length - i) 0 (by exact ao) (by exact ao) (cL _) ?_
  rintro i hi
  have h0:=n0 i
  have h1:=cj (i:=i) (by omega)
  cbv
  refine ⟨λh=>?_,λh=>?_⟩
  ·have bq:i < x.ins.length:=bG
   have a7:i+1<=x.ins.length/\x.ins.length - (i+1) < x.ins.length - i:=by omega
   refine (bB bq).elim λs hs=>?_
   have qy:oC ⟨ins,blocks,outs,ay⟩ s=true:=SP.2 (pD s (cb hs))
   cbv
   refine ⟨s,⟨h0,hs⟩,?_⟩
   cbv
   refine ⟨⟨⟨ins,blocks,outs,ay⟩,s⟩,⟨by exact bQ,sU⟩,?_⟩
   cbv
   refine ⟨λh=>?_,λ_=>?_⟩
   ·have h':(!oC ⟨ins,blocks,outs,ay⟩ s)=true:=h.out
    rw [qy] at h'
    cases h'
   ·cbv
    exact ⟨i+1,by exact ao,by exact ao,⟨a7⟩⟩
  ·cbv
   refine Sat.cd (V9 0 0) 2 7 [] (λi:Nat=>[(8,.i .i64 (λ_=>(i:Int)))]) (λi=>[]) (λi=>(i:Int)<=b) (λi=>b.toNat - i) 0 (by exact ao) (by exact ao) (by show (0:Int)<=b;omega) ?_
   rintro i hi
   have hi:(i:Int)<=b:=hi
   have aBn:b < (blocks.length:Int):=eb
   have h0:=n0 i
   have h1:=cj (i:=i) (by omega)
   cbv
   refine ⟨λh=>?_,λh=>?_⟩
   ·have Jf:(i:Int) < b:=bG
    have aBo:b < (blocks.length:Int):=eb
    have a7:((i+1:Nat):Int)<=b/\b.toNat - (i+1) < b.toNat - i:=by omega
    refine (bB (l:=blocks) (i:=i) (by omega)).elim λy hy=>?_
    have yJ:=avj i Jf y hy
    cbv
    refine ⟨λh=>?_,λh=>?_⟩
    ·have Gc:0<=x.bh:=bG
     cbv
     refine ⟨y,⟨h0,hy⟩,?_⟩
     cbv
     refine ⟨λh=>?_,λ_=>?_⟩
     ·have hF:False:=by
       have h':aV y.bh x.bh=true:=h.out
       exact yJ Gc (by simpa [aV] using h')
      cases hF
     ·cbv
      exact ⟨i+1,by exact ao,by exact ao,⟨a7⟩⟩
    ·cbv
     exact ⟨i+1,by exact ao,by exact ao,⟨a7⟩⟩
   ·cbv
    exact ⟨by exact aL⟩
noncomputable def Wa (p:bt) (done:List Bool) (s:Int):Bool:=cU 0 (mb p s)&&(!rN p s&&!(done.getD (mb p s).toNat false))
noncomputable def AY (p:bt) (x:Block) (done:List Bool):Bool:=!x.ins.any (Wa p done)
def kX (done:List Bool):Nat:=done.countP id
theorem aee {done:List Bool} {b:Nat} (h:done[b]?=some false):kX (done.set b true)=kX done+1:=by
 unfold kX
 induction done generalizing b with
 | nil=>simp at h
 | cons x l ih =>
  cases b with
  | zero=>simp at h;subst h;simp [Eo]
  | succ b =>
   have:=ih (b:=b) (by simpa using h)
   simp only [GX,Eo]
   omega
theorem UW (done:List Bool):kX done<=done.length:=List.countP_le_length
def vq (d0 d:List Bool):Prop:=d.length=d0.length/\∀i:Nat,d0[i]?=some true->d[i]?=some true
theorem vq.refl (d:List Bool):vq d d:=⟨rfl,λ_ h=>h⟩
theorem vq.set {d0 d:List Bool} (h:vq d0 d) (b:Nat):vq d0 (d.set b true):=by
 refine ⟨by simp [h.1],λi hi=>?_⟩
 have:=h.2 i hi
 rw [jb]
 split
 ·rename_i e;subst e;simp [(bY.1 this).1]
 ·exact this
theorem arc {d0 d:List Bool} (h:vq d0 d) {b:Nat} (h0:d0[b]?=some false) (h1:d[b]?=some true):kX d0+1<=kX d:=by
 have key:∀(a c:List Bool),vq a c->kX a<=kX c:=by
  intro a
  induction a with
  | nil=>intro c hc;have:=hc.1;simp at this;subst this;exact cR _
  | cons x l ih =>
   intro c hc
   cases c with
   | nil=>have:=hc.1;simp at this
   | cons y m =>
    have h1:=ih m ⟨by have:=hc.1;simpa using this,λi hi=>by have:=hc.2 (i+1) (by simpa using hi);simpa using this⟩
    have h2:=hc.2 0
    unfold kX at *
    simp only [Eo]
    cases x<;>cases y<;>simp_all<;>omega
 have hu:vq (d0.set b true) d:=⟨by simp [h.1],λi hi=>by
  by_cases e:i=b
  ·subst e;exact h1
  ·rw [eY (λh=>e h.symm)] at hi;exact h.2 i hi⟩
 have:=key _ _ hu
 rw [aee h0] at this
 exact this
theorem least {r:Nat->Nat} {done:List Bool} (h:kX done < done.length):∃b:Nat,done[b]?=some false/\∀c:Nat,done[c]?=some false->r b<=r c:=by
 have hex:∃b:Nat,done[b]?=some false:=by
  apply Classical.byContradiction
  intro hn
  have gB:∀x∈done,id x=true:=λx hx=>by
   obtain ⟨i,hi,e⟩:=AD.1 hx
   cases oR:x with
   | true=>rfl
   | false=>exact absurd ⟨i,by rw [ep hi,e,oR]⟩ hn
  have:=List.countP_eq_length.2 gB
  unfold kX at h
  omega
 have hwf:∀n,(∃b:Nat,done[b]?=some false/\r b<=n)->∃b:Nat,done[b]?=some false/\∀c:Nat,done[c]?=some false->r b<=r c:=by
  intro n
  induction n with
  | zero =>
   rintro ⟨b,hb,h0⟩
   exact ⟨b,hb,λc _=>by omega⟩
  | succ n ih =>
   rintro ⟨b,hb,h0⟩
   by_cases hc:∃c:Nat,done[c]?=some false/\r c<=n
   ·exact ih hc
   ·refine ⟨b,hb,λc hcf=>?_⟩
    have:¬r c<=n:=λh=>hc ⟨c,hcf,h⟩
    omega
 obtain ⟨b,hb⟩:=hex
 exact hwf (r b) ⟨b,hb,cR _⟩
theorem amD {p:bt} {r:Nat->Nat} (hr:jH p r) {d0 d:List Bool} (hl:d0.length=p.blocks.length) (hu:vq d0 d) {b:Nat} (avk:∀c:Nat,d0[c]?=some false->r b<=r c) {x:Block} (hx:p.blocks[b]?=some x) (hs:∀s∈x.ins,0<=s/\s < p.sigs):AY p x d=true:=by
 unfold AY
 rw [p8,Tj]
 intro s sU
 have h1:=hs s sU
 unfold bt.sigs at h1
 unfold Wa
 intro hw
 simp only [er,p8,cU,decide_eq_true_eq] at hw
 obtain ⟨ei,hf,hd⟩:=hw
 unfold mb at ei hd
 split at ei
 ·omega
 ·rename_i bS
  rw [if_neg bS,pf] at hd
  have lS:¬fv p.ins.length s:=by
   unfold rN at hf
   simp only [decide_eq_false_iff_not] at hf
   exact λh=>hf ⟨by omega,h⟩
  have aR:=hr b x hx s sU (by omega) lS
  have eb:cN p.ins.length s < d0.length:=by rw [hl];unfold cN;omega
  have MO:d0[cN p.ins.length s]?=some d0[cN p.ins.length s]:=ep eb
  cases hv:d0[cN p.ins.length s] with
  | true =>
   have:=hu.2 _ (by rw [MO,hv])
   rw [ig,this] at hd
   cases hd
  | false =>
   have:=avk _ (by rw [MO,hv])
   omega
end Go.Proofs.Pk
