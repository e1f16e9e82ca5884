import Derived.Test.YthnhbemmlfaihaaGreatT19
import Derived.Test.YthnhbemmlfaihaaGreatT32
import Derived.Test.YthnhbemmlfaihaaGreatT33
set_option linter.unusedVariables false
set_option linter.unusedSimpArgs false
set_option maxRecDepth 10000
set_option maxHeartbeats 64000000
namespace Go.Proofs.Pk
open Go Go.Vc
structure PLi where
 p:bq
 l:List Int
noncomputable def Ai (p:bq) (l:List Int):Bool:=l.any λs=>!oa p s
theorem M4 {p:bq} {l:List Int}:Ai p l=false↔∀s∈l,kj p s:=by
 simp [Ai,Sm,RU]
theorem NQ {A:Type} {f:A->Bool} {l:List A} {i:Nat} {x:A} (h:l[i]?=some x):(l.take (i+1)).any f=((l.take i).any f||f x):=by
 rw [DE,h];simp
theorem OH {A:Type} {f:A->Bool} {l:List A} {i:Nat} {x:A} (h:l[i]?=some x) (hf:f x=true):l.any f=true:=Jd.2 ⟨x,b_ h,hf⟩
@[reducible] noncomputable def Uz:Vc.Spec where
 α:=PLi
 args x:=[.sl 1 bJ (λ_=>x.l),.fn (.func 80) [] [.dC (fq x.p) 0]]
 pre x:=Ee x.p/\x.l.length<=1000000
 res x:=.b (λ_=>Ai x.p x.l)
noncomputable def cCu (n m:Nat):Ctx:=eB n m [(176,Tryz.f176),(80,Tryz.f80)] [(81,N6)] [] [176]
theorem afh (n m:Nat):CB PP (cCu n m):=eD n m ⟨fo Tryz.func176,fo Tryz.func80,trivial⟩ ⟨amw,trivial⟩
theorem ab1:cS (PP ()) 82 Uz:=by
 refine dP (afh 0 0) (fo Tryz.func82) (λa=>⟨(λx=>(cM x).1),⟨trivial,km a.p,trivial⟩,trivial⟩) (λa=>trivial) ?_
 rintro ⟨⟨ins,blocks,outs,ay⟩,l⟩ hx
 obtain ⟨hp,hl⟩:Ee ⟨ins,blocks,outs,ay⟩/\l.length<=1000000:=hx
 obtain ⟨f,hf⟩:∃f,f=oa ⟨ins,blocks,outs,ay⟩:=⟨_,rfl⟩
 have hu:∀z,Ai ⟨ins,blocks,outs,ay⟩ z=z.any λs=>!f s:=λz=>by rw [hf];rfl
 refine ⟨?_⟩
 cbv
 refine Sat.ca (afh 0 0) 0 8 [] (λi:Nat=>[(8,.i .i64 (λ_=>(i:Int)))]) (λi=>[])
  (λi=>i<=l.length/\(l.take i).any (λs=>!f s)=false) (λi=>l.length - i) 0 (by exact ao) (by exact ao) ⟨by omega,by simp⟩ ?_
 rintro i ⟨hi,ht⟩
 have h0:=n0 i
 have h1:=cd (i:=i) (by omega)
 cbv
 refine ⟨λh=>?_,λh=>?_⟩
 ·have bp:i < l.length:=bE
  have a7:l.length - (i+1) < l.length - i:=by omega
  refine (bz bp).elim λx hx=>?_
  cbv
  refine ⟨x,⟨h0,hx⟩,?_⟩
  cbv
  refine ⟨⟨⟨ins,blocks,outs,ay⟩,x⟩,⟨by exact bP,hp⟩,?_⟩
  refine ⟨λh=>?_,λh=>?_⟩
  ·have qK:(!f x)=true:=by have h':(!oa ⟨ins,blocks,outs,ay⟩ x)=true:=h.out;rw [hf];exact h'
   have e:cR 0 (i:Int)=Ai ⟨ins,blocks,outs,ay⟩ l:=by rw [hu,OH hx qK];simp [cR]
   cbv
   exact ⟨by exact aJ⟩
  ·have qK:(!f x)=false:=by have h':(!oa ⟨ins,blocks,outs,ay⟩ x)=false:=h.out;rw [hf];exact h'
   have bw:i+1<=l.length/\(l.take (i+1)).any (λs=>!f s)=false:=⟨bp,by rw [NQ hx,ht,qK];rfl⟩
   cbv
   exact ⟨i+1,by exact ao,by exact ao,⟨⟨bw,a7⟩⟩⟩
 ·have bR:i=l.length:=by
   have h':aS i l.length=false:=h.out
   have h2:¬(i:Int) < l.length:=by simpa [aS] using h'
   omega
  have e:false=Ai ⟨ins,blocks,outs,ay⟩ l:=by rw [hu,<-ht,bR,kh]
  cbv
  exact ⟨by exact aJ⟩
noncomputable def ue (lo hi:Int) (w:bT):Bool:=cR lo w.kind&&cR w.kind hi&&cR 0 w.i&&cR 0 w.bit&&aS w.bit 8
theorem T0 {lo hi:Int} {w:bT}:ue lo hi w=true↔l9 w lo hi:=by
 unfold ue l9 cR aS
 simp only [ei,decide_eq_true_eq]
 omega
noncomputable def sR (lo hi:Int) (l:List bT):Bool:=l.any λw=>!ue lo hi w
theorem NR {lo hi:Int} {l:List bT}:sR lo hi l=false↔∀w∈l,l9 w lo hi:=by
 simp [sR,Sm,T0]
@[reducible] noncomputable def OI (f:Nat) (lo hi:Int):Vc.Spec where
 α:=List bT
 args x:=[.sl 3 dc (λ_=>x),.fn (.func f) [] []]
 pre x:=x.length<=1000000
 res x:=.b (λ_=>sR lo hi x)
structure WLH where
 w:bT
 lo:Int
 hi:Int
@[reducible] noncomputable def OJ:Vc.Spec where
 α:=WLH
 args x:=[.agg (dc x.w),.i .i64 (λ_=>x.lo),.i .i64 (λ_=>x.hi)]
 pre x:=True
 res x:=.b (λ_=>ue x.lo x.hi x.w)
noncomputable def cWd (n m:Nat):Ctx:=eB n m [] []
theorem arj (n m:Nat):CB PP (cWd n m):=eD n m trivial trivial
theorem ant:cS (PP ()) 85 OJ:=by
 refine dP (arj 0 0) (fo Tryz.func85) (λa=>⟨(gL a.w).1,trivial,trivial,trivial⟩) (λa=>trivial) ?_
 rintro ⟨w,lo,hi⟩ hx
 refine ⟨?_⟩
 cbv
 repeat' (first|(refine .b ?_;done)|(refine ⟨λh=>?_,λh=>?_⟩<;>(have h:=h.out;cbv))|fail)
 all_goals first|refine .bc ?_|refine .b ?_|refine ⟨.bc ?_⟩|refine ⟨.b ?_⟩
 all_goals simp_all [ue]
noncomputable def cCw (n m:Nat):Ctx:=eB n m [(177,Tryz.f177),(84,Tryz.f84),(86,Tryz.f86)] [(85,OJ)] [] [177]
theorem Pe (n m:Nat):CB PP (cCw n m):=eD n m ⟨fo Tryz.func177,fo Tryz.func84,fo Tryz.func86,trivial⟩ ⟨ant,trivial⟩
theorem N7:cS (PP ()) 83 (OI 84 2 4):=by
 refine dP (Pe 0 0) (fo Tryz.func83) (λa=>⟨(λx=>(gL x).1),⟨trivial,trivial⟩,trivial⟩) (λa=>trivial) ?_
 rintro l hx
 have hl:l.length<=1000000:=hx
 obtain ⟨f,hf⟩:∃f,f=ue 2 4:=⟨_,rfl⟩
 have hu:∀z,sR 2 4 z=z.any λs=>!f s:=λz=>by rw [hf];rfl
 refine ⟨?_⟩
 cbv
 refine Sat.ca (Pe 0 0) 0 8 [] (λi:Nat=>[(8,.i .i64 (λ_=>(i:Int)))]) (λi=>[])
  (λi=>i<=l.length/\(l.take i).any (λs=>!f s)=false) (λi=>l.length - i) 0 (by exact ao) (by exact ao) ⟨by omega,by simp⟩ ?_
 rintro i ⟨hi,ht⟩
 have h0:=n0 i
 have h1:=cd (i:=i) (by omega)
 cbv
 refine ⟨λh=>?_,λh=>?_⟩
 ·have bp:i < l.length:=bE
  have a7:l.length - (i+1) < l.length - i:=by omega
  refine (bz bp).elim λx hx=>?_
  cbv
  refine ⟨x,⟨h0,hx⟩,?_⟩
  cbv
  refine ⟨⟨x,2,4⟩,⟨by exact bP,trivial⟩,?_⟩
  cbv
  refine ⟨λh=>?_,λh=>?_⟩
  ·have qK:(!f x)=true:=by have h':(!ue 2 4 x)=true:=h.out;rw [hf];exact h'
   have e:cR 0 (i:Int)=sR 2 4 l:=by rw [hu,OH hx qK];simp [cR]
   cbv
   exact ⟨by exact aJ⟩
  ·have qK:(!f x)=false:=by have h':(!ue 2 4 x)=false:=h.out;rw [hf];exact h'
   have bw:i+1<=l.length/\(l.take (i+1)).any (λs=>!f s)=false:=⟨bp,by rw [NQ hx,ht,qK];rfl⟩
   cbv
   exact ⟨i+1,by exact ao,by exact ao,⟨⟨bw,a7⟩⟩⟩
 ·have bR:i=l.length:=by
   have h':aS i l.length=false:=h.out
   have h2:¬(i:Int) < l.length:=by simpa [aS] using h'
   omega
  have e:false=sR 2 4 l:=by rw [hu,<-ht,bR,kh]
  cbv
  exact ⟨by exact aJ⟩
theorem T2:cS (PP ()) 83 (OI 86 5 10):=by
 refine dP (Pe 0 0) (fo Tryz.func83) (λa=>⟨(λx=>(gL x).1),⟨trivial,trivial⟩,trivial⟩) (λa=>trivial) ?_
 rintro l hx
 have hl:l.length<=1000000:=hx
 obtain ⟨f,hf⟩:∃f,f=ue 5 10:=⟨_,rfl⟩
 have hu:∀z,sR 5 10 z=z.any λs=>!f s:=λz=>by rw [hf];rfl
 refine ⟨?_⟩
 cbv
 refine Sat.ca (Pe 0 0) 0 8 [] (λi:Nat=>[(8,.i .i64 (λ_=>(i:Int)))]) (λi=>[])
  (λi=>i<=l.length/\(l.take i).any (λs=>!f s)=false) (λi=>l.length - i) 0 (by exact ao) (by exact ao) ⟨by omega,by simp⟩ ?_
 rintro i ⟨hi,ht⟩
 have h0:=n0 i
 have h1:=cd (i:=i) (by omega)
 cbv
 refine ⟨λh=>?_,λh=>?_⟩
 ·have bp:i < l.length:=bE
  have a7:l.length - (i+1) < l.length - i:=by omega
  refine (bz bp).elim λx hx=>?_
  cbv
  refine ⟨x,⟨h0,hx⟩,?_⟩
  cbv
  refine ⟨⟨x,5,10⟩,⟨by exact bP,trivial⟩,?_⟩
  cbv
  refine ⟨λh=>?_,λh=>?_⟩
  ·have qK:(!f x)=true:=by have h':(!ue 5 10 x)=true:=h.out;rw [hf];exact h'
   have e:cR 0 (i:Int)=sR 5 10 l:=by rw [hu,OH hx qK];simp [cR]
   cbv
   exact ⟨by exact aJ⟩
  ·have qK:(!f x)=false:=by have h':(!ue 5 10 x)=false:=h.out;rw [hf];exact h'
   have bw:i+1<=l.length/\(l.take (i+1)).any (λs=>!f s)=false:=⟨bp,by rw [NQ hx,ht,qK];rfl⟩
   cbv
   exact ⟨i+1,by exact ao,by exact ao,⟨⟨bw,a7⟩⟩⟩
 ·have bR:i=l.length:=by
   have h':aS i l.length=false:=h.out
   have h2:¬(i:Int) < l.length:=by simpa [aS] using h'
   omega
  have e:false=sR 5 10 l:=by rw [hu,<-ht,bR,kh]
  cbv
  exact ⟨by exact aJ⟩
theorem alS {h:Int} {l:List Int} {i:Nat} {v:Int} (hv:l[i]?=some v):ED h (l.take (i+1))=Pd (ED h (l.take i)) (IntKind.u64.wrap v):=by
 rw [DE,hv]
 simp [ED,Ni]
theorem amx {h:Int} {l:List Int} {i:Nat} (hi:i=l.length):ED h (l.take i)=ED h l:=by rw [hi,kh]
@[reducible] noncomputable def J4:Vc.Spec where
 α:=List Int
 args x:=[.sl 1 bJ (λ_=>x)]
 pre x:=x.length < 4611686018427387904
 res x:=.i .u64 (λ_=>ie x)
noncomputable def cDg (n m:Nat):Ctx:=eB n m [(101,Tryz.f101)] []
theorem afi (n m:Nat):CB PP (cDg n m):=eD n m ⟨fo Tryz.func101,trivial⟩ trivial
theorem Tq:cS (PP ()) 27 J4:=by
 refine dP (afi 0 0) (fo Tryz.func27) (λa=>⟨(λx=>(cM x).1),trivial⟩) (λa=>trivial) ?_
 rintro l hx
 have hl:l.length < 4611686018427387904:=hx
 refine ⟨?_⟩
 cbv
 refine Sat.ca (afi 0 0) 1 5 [] (λi:Nat=>[(8,.sl 1 bJ (λ_=>l)),(9,.i .i64 (λ_=>(l.length:Int))),(10,.i .i64 (λ_=>(i:Int)))]) (λi=>[(0,.fix 199 [.i .u64 (λ_=>ED 512970876019 (l.take i))])])
  (λi=>i<=l.length) (λi=>l.length - i) 0 (by exact ao) (by exact bH) (cJ _) ?_
 rintro i hi
 have h0:=n0 i
 have h1:=cd (i:=i) (by omega)
 cbv
 refine ⟨λh=>?_,λh=>?_⟩
 ·have bp:i < l.length:=bE
  have a7:i+1<=l.length/\l.length - (i+1) < l.length - i:=by omega
  refine (bz bp).elim λv hv=>?_
  have hf:=alS (h:=512970876019) hv
  cbv
  refine ⟨v,⟨h0,hv⟩,?_⟩
  cbv
  refine ⟨⟨by decide⟩,i+1,by exact ao,by ((try cbv)<;>(repeat' (first|with_reducible exact trivial|with_reducible refine And.intro ?_ ?_))<;>(try first|exact cY.refl _|exact cY.dyn rfl|exact cY.map rfl|exact cY.iter rfl rfl (.inl rfl)|exact cY.iter rfl rfl (.inr rfl)|refine cY.fix ?_|refine cY.dyn ?_)<;>((repeat' first|exact dT.nil|exact Le.refl _|refine dT.cons ?_ ?_|exact Le.ic rfl|exact Le.bc rfl|exact Le.i rfl|exact Le.b rfl|exact Le.sl rfl|exact Le.mp rfl|exact Le.im rfl|exact Le.rO rfl|refine Le.di rfl (λ_=>?_)|refine Le.eH rfl (λ_ _=>rfl) (λ_=>?_) ?_|refine Le.agg ?_|refine Le.dE ?_|refine Le.fn ?_ ?_|refine Le.dC ?_|exact trivial|refine And.intro ?_ ?_|refine λ_=>?_|exact Le.any _)))<;>exact .i (by rw [hf,abY];rfl),⟨a7⟩⟩
 ·have bR:i=l.length:=by
   have h':aS i l.length=false:=h.out
   have h2:¬(i:Int) < l.length:=by simpa [aS] using h'
   omega
  have hf:=amx (h:=512970876019) bR
  cbv
  exact ⟨⟨by decide⟩,⟨.i (by unfold ie;rw [<-hf,abY];rfl)⟩⟩
noncomputable def cWo (n m:Nat):Ctx:=eB n m [] [(27,J4)]
theorem ark (n m:Nat):CB PP (cWo n m):=eD n m trivial ⟨Tq,trivial⟩
@[reducible] noncomputable def T3:Vc.Spec:=J4
theorem aa0:cS (PP ()) 99 T3:=by
 refine dP (ark 0 0) (fo Tryz.func99) (λa=>⟨(λx=>(cM x).1),trivial⟩) (λa=>trivial) ?_
 rintro l hx
 have hl:l.length < 4611686018427387904:=hx
 refine ⟨?_⟩
 cbv
 refine ⟨l,⟨by exact bP,hl⟩,?_⟩
 cbv
 exact ⟨by exact aJ⟩
structure I3 where
 n:Int
 lo:Int
 hi:Int
noncomputable def pj (n lo hi:Int):Bool:=cR lo n&&cR n hi
@[reducible] noncomputable def ab2:Vc.Spec where
 α:=I3
 args x:=[.i .i64 (λ_=>x.n),.i .i64 (λ_=>x.lo),.i .i64 (λ_=>x.hi)]
 pre x:=True
 res x:=.b (λ_=>pj x.n x.lo x.hi)
noncomputable def cWn (n m:Nat):Ctx:=eB n m [] []
theorem arl (n m:Nat):CB PP (cWn n m):=eD n m trivial trivial
theorem alT:cS (PP ()) 178 ab2:=by
 refine dP (arl 0 0) (fo Tryz.func178) (λa=>⟨trivial,trivial,trivial,trivial⟩) (λa=>trivial) ?_
 rintro ⟨n,lo,hi⟩ hx
 refine ⟨?_⟩
 cbv
 repeat' (first|(refine .b ?_;done)|(refine ⟨λh=>?_,λh=>?_⟩<;>(have h:=h.out;cbv))|fail)
 all_goals first|refine .bc ?_|refine .b ?_|refine ⟨.bc ?_⟩|refine ⟨.b ?_⟩
 all_goals simp_all [pj]
open Classical in
noncomputable def xh (x:Block):Bool:=decide (yG x)
theorem ZQ {x:Block}:xh x=true↔yG x:=by simp [xh]
@[reducible] noncomputable def T4:Vc.Spec where
 α:=Block
 args x:=[.agg (oe x)]
 pre x:=x.ins.length<=1000000
 res x:=.b (λ_=>xh x)
theorem apV {k:Nat} (h:k<=4):IntKind.i64.wrap (IntKind.i64.wrap (1*2^(min (IntKind.u64.wrap (1*2^(min (k:Int).toNat IntKind.u64.bits))).toNat IntKind.i64.bits)) - 1)=2^(2^k) - 1:=by
 have:k=0\/k=1\/k=2\/k=3\/k=4:=by omega
 rcases this with e|e|e|e|e<;>subst e<;>decide
noncomputable def cFo (n m:Nat):Ctx:=eB n m [] [(178,ab2)]
theorem arn (n m:Nat):CB PP (cFo n m):=eD n m trivial ⟨alT,trivial⟩
theorem aa1:cS (PP ()) 87 T4:=by
 refine dP (arn 0 0) (fo Tryz.func87) (λa=>⟨(Jj a).1,trivial⟩) (λa=>trivial) ?_
 rintro ⟨ins,table,bZ,bf,key⟩ hx
 have hl:ins.length<=1000000:=hx
 have F:¬yG ⟨ins,table,bZ,bf,key⟩->false=xh ⟨ins,table,bZ,bf,key⟩:=λh=>by simp [xh,h]
 have T:yG ⟨ins,table,bZ,bf,key⟩->true=xh ⟨ins,table,bZ,bf,key⟩:=λh=>by simp [xh,h]
 refine ⟨?_⟩
 cbv
 refine ⟨λh=>?_,λh=>?_⟩
 ·have h4:¬ins.length<=4:=by have h':aS 4 (ins.length:Int)=true:=h.out;simp only [aS,decide_eq_true_eq] at h';exact aU
  have e:=F λh=>h4 h.k
  cbv
  exact ⟨by exact aJ⟩
 ·have h4:ins.length<=4:=by have h':aS 4 (ins.length:Int)=false:=h.out;simp only [aS,decide_eq_false_iff_not] at h';exact aU
  have CZ:=apV h4
  obtain ⟨M,hM⟩:∃M,(2:Int)^(2^ins.length) - 1=M:=⟨_,rfl⟩
  rw [hM] at CZ
  have hM2:∀t:Int,t<=M↔t < 2^(2^ins.length):=λt=>by rw [<-hM];omega
  cbv
  refine ⟨⟨bZ,-1,63⟩,⟨by exact bP,trivial⟩,?_⟩
  cbv
  refine ⟨λh=>?_,λh=>?_⟩
  ·have hr:pj bZ (-1) 63=false:=by have h':(!pj bZ (-1) 63)=true:=h.out;simpa using h'
   have e:=F λh=>by have:=h.bZ;simp only at this;simp [pj,cR] at hr;omega
   cbv
   exact ⟨by exact aJ⟩
  ·have hr:pj bZ (-1) 63=true:=by have h':(!pj bZ (-1) 63)=false:=h.out;simpa using h'
   have Ww:-1<=bZ/\bZ<=63:=by simpa [pj,cR] using hr
   cbv
   refine ⟨⟨bf,-1,255⟩,⟨by exact bP,trivial⟩,?_⟩
   cbv
   refine ⟨λh=>?_,λh=>?_⟩
   ·have hg:pj bf (-1) 255=false:=by have h':(!pj bf (-1) 255)=true:=h.out;simpa using h'
    have e:=F λh=>by have:=h.bf;simp only at this;simp [pj,cR] at hg;omega
    cbv
    exact ⟨by exact aJ⟩
   ·have hg:pj bf (-1) 255=true:=by have h':(!pj bf (-1) 255)=false:=h.out;simpa using h'
    have tN:-1<=bf/\bf<=255:=by simpa [pj,cR] using hg
    have wu:0<=(ins.length:Int):=by omega
    have pP:0<=IntKind.u64.wrap (1*2^(min (ins.length:Int).toNat IntKind.u64.bits)):=by
     have:ins.length=0\/ins.length=1\/ins.length=2\/ins.length=3\/ins.length=4:=by omega
     rcases this with e|e|e|e|e<;>rw [e]<;>decide
    cbv
    refine ⟨⟨wu⟩,?_⟩
    cbv
    refine ⟨⟨pP⟩,?_⟩
    cbv
    refine ⟨⟨table,0,M⟩,⟨by have bj:=CZ;exact cN,trivial⟩,?_⟩
    cbv
    refine ⟨λh=>?_,λh=>?_⟩
    ·have ht:pj table 0 M=false:=by have h':(!pj table 0 M)=true:=h.out;simpa using h'
     have e:=F λh=>by have:=h.table;simp only at this;rw [<-hM2] at this;simp only [pj,cR,Bool.and_eq_false_iff,decide_eq_false_iff_not] at ht;omega
     cbv
     exact ⟨by exact aJ⟩
    ·have ht:pj table 0 M=true:=by have h':(!pj table 0 M)=false:=h.out;simpa using h'
     have ahg:0<=table/\table < 2^(2^ins.length):=by rw [<-hM2];simpa [pj,cR] using ht
     cbv
     refine ⟨λh=>?_,λh=>?_⟩
     ·have h0:bZ < 0:=bE
      have e:=T ⟨h4,Ww,tN,ahg,λh=>by simp only at h;omega⟩
      cbv
      exact ⟨by exact aJ⟩
     ·have h0:0<=bZ:=bE
      cbv
      refine ⟨λh=>?_,λh=>?_⟩
      ·have h1:bf < 0:=bE
       cbv
       refine ⟨λh=>?_,λh=>?_⟩
       ·have h3:ins.length<=3:=by have h':cR (ins.length:Int) 3=true:=h.out;simp only [cR,decide_eq_true_eq] at h';exact aU
        have e:aV table 0=xh ⟨ins,table,bZ,bf,key⟩:=by
         by_cases CX:table=0
         ·rw [<-T ⟨h4,Ww,tN,ahg,λ_=>⟨by simp only;omega,h3,CX⟩⟩,CX];rfl
         ·rw [<-F λh=>CX (h.read h0).2.2];simp [aV,CX]
        cbv
        exact ⟨by exact aJ⟩
       ·have h3:¬ins.length<=3:=by have h':cR (ins.length:Int) 3=false:=h.out;simp only [cR,decide_eq_false_iff_not] at h';exact aU
        have e:=F λh=>h3 (h.read h0).2.1
        cbv
        exact ⟨by exact aJ⟩
      ·have h1:¬bf < 0:=bE
       have e:=F λh=>h1 (by have:=(h.read h0).1;simp only at this;omega)
       cbv
       exact ⟨by exact aJ⟩
theorem sQ.all {p:bq} {st:List Int} (h:sQ p st) (ha:∀b,b < p.blocks.length->St st 2 b):∃r,jy p r:=by
 obtain ⟨r,hr⟩:=h
 refine ⟨r,λb x hx s hs h1 h2=>?_⟩
 exact (hr b _ (ha b (bX.1 hx).1) ⟨x,hx,s,hs,h1,h2,rfl⟩).2
structure uf (p:bq) (b:Nat) (st:List Int):Prop where
 le:b<=p.blocks.length
 w:wI p st
 one:∀c,¬St st 1 c
 two:∀c,c < b->St st 2 c
 Bi:sQ p st
theorem uf.start (p:bq):uf p 0 (List.replicate p.blocks.length 0):=by
 have h:∀c v,St (List.replicate p.blocks.length 0) v c->v=0:=λc v hc=>by
  have hm:=b_ (show (List.replicate p.blocks.length (0:Int))[c]?=some v from hc)
  exact (DQ.1 hm).2
 exact ⟨cJ _,⟨rK,λc v hc=>.inl (h c v hc)⟩,λc hc=>by have:=h c 1 hc;omega,λc hc=>by omega,.nil λc hc=>by have:=h c 2 hc;omega⟩
theorem uf.next {p:bq} {b:Nat} {st gA:List Int} (h:uf p b st) (hb:b < p.blocks.length) (k:oY p st b true gA):uf p (b+1) gA :=
 ⟨hb,k.w,λc hc=>h.one c ((k.one rfl c).1 hc),λc hc=>by
  by_cases e:c=b
  ·subst e;exact (k.two rfl).2
  ·exact (k.two rfl).1 c (h.two c (by omega)),k.Bi rfl h.Bi⟩
structure N8 (p:bq) (y:Bool):Prop where
 up:y=true->∃r,jy p r
 down:(∃r,jy p r)->y=true
@[reducible] noncomputable def apW:fJ where
 α:=bq
 args x:=[.agg (fq x),.fn (.func 89) [] []]
 pre x:=xm x
 β:=Bool
 post x y:=N8 x y
 res x y:=.b (λ_=>y)
noncomputable def cWa (n m:Nat):Ctx:=eB n m [(179,Tryz.f179)] [] [179]
theorem Pf (n m:Nat):CB PP (cWa n m):=eD n m ⟨fo Tryz.func179,trivial⟩ trivial
theorem anu:eI PP 88 apW:=by
 refine iI (Pf 0 0) (fo Tryz.func88) (λa=>⟨km a,⟨trivial,trivial⟩,trivial⟩) (λa y=>trivial) ?_
 rintro ⟨ins,blocks,outs,ay⟩ hx
 have hp:xm ⟨ins,blocks,outs,ay⟩:=hx
 have oA:blocks.length<=600:=hp.dH
 have eE:0<=(blocks.length:Int)/\8*(blocks.length:Int)<=281474976710656/\(blocks.length:Int)<=9223372036854775807:=by omega
 refine ⟨?_⟩
 cbv
 refine ⟨⟨eE.1,jI _,eE.2.1,eE.2.2⟩,?_⟩
 cbv
 have sN:List.replicate ((blocks.length:Int)).toNat (0:Int)=List.replicate blocks.length 0:=by rw [oS]
 obtain ⟨zx,y9⟩:∃l,List.replicate ((blocks.length:Int)).toNat (0:Int)=l:=⟨_,rfl⟩
 have tc:uf ⟨ins,blocks,outs,ay⟩ 0 zx:=by rw [<-y9,sN];exact .start ⟨ins,blocks,outs,ay⟩
 refine Sat.ca (Pf 0 0) 5 7 [(.c 3 0,2)] (λx:Nat × List Int=>[(17,.i .i64 (λ_=>(blocks.length:Int))),(18,.i .i64 λ_=>(x.1:Int))]) (λx=>[(2,.dyn 3 1 bJ λ_=>x.2)])
  (λx=>uf ⟨ins,blocks,outs,ay⟩ x.1 x.2) (λx=>blocks.length - x.1) (0,zx) (by exact ao) (by have dM:=y9;exact bH) tc ?_
 rintro ⟨b,st⟩ hJ
 have hJ:uf ⟨ins,blocks,outs,ay⟩ b st:=hJ
 have dW:b<=blocks.length:=hJ.le
 have h0:=n0 b
 have h1:=cd (i:=b) (by omega)
 cbv
 refine ⟨λh=>?_,λh=>?_⟩
 ·have aR:b < blocks.length:=bE
  have a7:blocks.length - (b+1) < blocks.length - b:=by omega
  have e9:wI ⟨ins,blocks,outs,ay⟩ st/\0<=(b:Int)/\(b:Int) < blocks.length/\lz st<=lz st:=⟨hJ.w,h0,by omega,cP _⟩
  cbv
  refine bU.jD (aaZ (lz st)) (λa y=>trivial) ⟨⟨ins,blocks,outs,ay⟩,st,b⟩ [3,2,0,4,1] rfl (by exact bP) (by exact ao) ⟨⟨hp,e9⟩⟩ λy hy=>?_
  have hy:oY ⟨ins,blocks,outs,ay⟩ st b y.res y.st:=hy.out
  obtain ⟨res,gR⟩:=y
  cbv
  refine ⟨λh=>?_,λh=>?_⟩
  ·have hr:res=false:=by have h':(!res)=true:=h.out;simpa using h'
   subst hr
   have bV:N8 ⟨ins,blocks,outs,ay⟩ false:=⟨λh=>(by cases h),λ⟨r,hr⟩=>hy.rk r hr λc hc=>absurd hc (hJ.one c)⟩
   cbv
   exact .mk' false ⟨by exact aJ⟩ bV
  ·have hr:res=true:=by have h':(!res)=false:=h.out;simpa using h'
   subst hr
   have bw:=hJ.next aR hy
   cbv
   exact ⟨(b+1,gR),by exact ao,by exact ao,⟨⟨bw,a7⟩⟩⟩
 ·have bR:b=blocks.length:=by
   have h':aS b blocks.length=false:=h.out
   have h2:¬(b:Int) < blocks.length:=by simpa [aS] using h'
   omega
  have bV:N8 ⟨ins,blocks,outs,ay⟩ true:=⟨λ_=>hJ.Bi.all λc hc=>hJ.two c (by rw [bR];exact hc),λ_=>rfl⟩
  cbv
  exact .mk' true ⟨by exact aJ⟩ bV
structure PBl where
 p:bq
 b:Int
@[reducible] noncomputable def Cf:Vc.Spec where
 α:=PBl
 args x:=[.agg (fq x.p),.i .i64 (λ_=>x.b)]
 pre x:=x.p.ins.length<=1000000/\0<=x.b/\x.b<=1000000
 res x:=.i .i64 (λ_=>(x.p.ins.length:Int)+2*x.b)
noncomputable def cTb (n m:Nat):Ctx:=eB n m [] []
theorem aro (n m:Nat):CB PP (cTb n m):=eD n m trivial trivial
theorem Ef:cS (PP ()) 95 Cf:=by
 refine dP (aro 0 0) (fo Tryz.func95) (λa=>⟨km a.p,trivial,trivial⟩) (λa=>trivial) ?_
 rintro ⟨⟨ins,blocks,outs,ay⟩,b⟩ hx
 obtain ⟨hi,h0,h1⟩:ins.length<=1000000/\0<=b/\b<=1000000:=hx
 have hw:IntKind.i64.wrap ((ins.length:Int)+IntKind.i64.wrap (2*b))=(ins.length:Int)+2*b:=by rw [cz (n:=2*b) (by omega) (by omega),cz (by omega) (by omega)]
 refine ⟨?_⟩
 cbv
 exact ⟨by exact aJ⟩
noncomputable def Da (sig:List Int) (x:Block):Int:=ie (4 :: x.table :: x.bZ :: x.ins.map λs=>IntKind.i64.wrap (sig.getD s.toNat 0))
structure Wx where
 p:bq
 sig:List Int
 out:List Int
 b:Int
structure Kp where
 sig:List Int
 out:List Int
structure Kq (x:Wx) (y:Kp):Prop where
 ok:∃z,x.p.blocks[x.b.toNat]?=some z/\(0<=z.bf->y.sig=x.sig/\y.out=x.out)/\(z.bf < 0->y.sig=x.sig.set (x.p.ins.length+2*x.b.toNat) (Da x.sig z)/\y.out=x.out.set x.b.toNat (Da x.sig z))
structure Vb (x:Wx):Prop where
 dH:x.p.blocks.length<=600
 ins:x.p.ins.length<=1000000
 lo:0<=x.b
 hi:x.b < x.p.blocks.length
 sl:x.sig.length=x.p.ins.length+2*x.p.blocks.length
 ol:x.out.length=x.p.blocks.length
 used:∀z∈x.p.blocks,∀s∈z.ins,0<=s/\s < x.p.sigs
 k:∀z∈x.p.blocks,z.ins.length<=1000000
@[reducible] noncomputable def aoA:mP where
 α:=Wx
 args x:=[.i .i64 (λ_=>x.b),.ptr 0 0,.ptr 1 0,.ptr 3 0,.ptr 5 0]
 io x:=[.fix 57 (fq x.p),.fix 72 [.own 2],.dyn 74 1 mf (λ_=>x.sig),.fix 72 [.own 4],.dyn 74 1 mf (λ_=>x.out),.fix 179 (fq x.p)]
 pre x:=Vb x
 β:=Kp
 post x y:=Kq x y
 mv:=[]
 res x y:=.dE []
 j8 x y:=[.fix 57 (fq x.p),.fix 72 [.own 2],.dyn 74 1 mf (λ_=>y.sig),.fix 72 [.own 4],.dyn 74 1 mf (λ_=>y.out),.fix 179 (fq x.p)]
noncomputable def cVk (n m:Nat):Ctx:=eB n m [] [(99,T3),(95,Cf)] [] [] [] [35]
theorem afj (n m:Nat):CB PP (cVk n m):=eD n m trivial ⟨aa0,Ef,trivial⟩
theorem amy:iC PP 100 aoA:=by
 refine mA (afj 0 0) (fo Tryz.func100) (λa y=>rfl) (λa=>⟨rfl,rfl⟩) .nil ?_
 rintro ⟨⟨ins,blocks,outs,ay⟩,sig,out,b⟩ hx
 have hx:Vb ⟨⟨ins,blocks,outs,ay⟩,sig,out,b⟩:=hx
 have oA:blocks.length<=600:=hx.dH
 have gQ:ins.length<=1000000:=hx.ins
 have eb:0<=b:=hx.lo
 have dW:b < blocks.length:=hx.hi
 have jc:sig.length=ins.length+2*blocks.length:=hx.sl
 have gd:out.length=blocks.length:=hx.ol
 obtain ⟨x,oK⟩:=bz (l:=blocks) (i:=b.toNat) (by omega)
 have yc:∀s∈x.ins,0<=s/\s < (ins.length:Int)+2*blocks.length:=hx.used x (b_ oK)
 have lY:=hx.k x (b_ oK)
 refine ⟨?_⟩
 cbv
 refine ⟨x,⟨eb,oK⟩,?_⟩
 cbv
 refine ⟨λh=>?_,λh=>?_⟩
 ·have hr:0<=x.bf:=bE
  have bV:Kq ⟨⟨ins,blocks,outs,ay⟩,sig,out,b⟩ ⟨sig,out⟩:=⟨x,oK,λ_=>⟨rfl,rfl⟩,λh=>by omega⟩
  cbv
  exact ⟨⟨sig,out⟩,[],[],⟨by exact aJ,trivial⟩,by exact ao,⟨bV⟩⟩
 ·have hr:x.bf < 0:=bE
  cbv
  refine ⟨[4,x.table,x.bZ],⟨by exact aJ,rfl⟩,?_⟩
  cbv
  obtain ⟨f,hf⟩:∃f:Int->Int,f=λs=>IntKind.i64.wrap (sig.getD s.toNat 0):=⟨_,rfl⟩
  refine Sat.ca (afj 0 0) 8 7 [(.t 7,7)] (λy:Nat × List Int=>[(7,.own 7),(24,.sl 1 bJ (λ_=>x.ins)),(25,.i .i64 (λ_=>(x.ins.length:Int))),(26,.i .i64 (λ_=>(y.1:Int)))]) (λy=>[(7,.dyn 3 1 bJ (λ_=>y.2))])
   (λy=>y.1<=x.ins.length/\y.2=[4,x.table,x.bZ]++(x.ins.take y.1).map f) (λy=>x.ins.length - y.1) (0,[4,x.table,x.bZ]) (by exact ao) (by exact ao) ⟨cJ _,by simp⟩ ?_
  rintro ⟨j,l⟩ ⟨hj,hl⟩
  have hj:j<=x.ins.length:=hj
  have hl:l=[4,x.table,x.bZ]++(x.ins.take j).map f:=hl
  have lW:l.length=3+j:=by rw [hl];simp;omega
  have iG:=n0 j
  have u9:=cd (i:=j) (by omega)
  cbv
  refine ⟨λh=>?_,λh=>?_⟩
  ·have eA:j < x.ins.length:=bE
   have a7:x.ins.length - (j+1) < x.ins.length - j:=by omega
   refine (bz eA).elim λs hs=>?_
   have p8:=yc s (b_ hs)
   have p8:0<=s/\s < (ins.length:Int)+2*(blocks.length:Int):=p8
   have ua:0<=s/\s.toNat < sig.length:=by omega
   refine (bz ua.2).elim λv hv=>?_
   have X6:IntKind.i64.wrap v=f s:=by rw [hf];simp only [gW,hv,nM]
   have bw:j+1<=x.ins.length/\l++[f s]=[4,x.table,x.bZ]++(x.ins.take (j+1)).map f:=⟨eA,by rw [hl,DE,hs];simp⟩
   cbv
   refine ⟨s,⟨iG,hs⟩,?_⟩
   cbv
   refine ⟨⟨ua⟩,v,⟨hv,rfl⟩,?_⟩
   cbv
   refine ⟨[f s],⟨by exact bP,rfl⟩,?_⟩
   cbv
   refine ⟨[f s],⟨by exact bP,by show (l.length+1)*8<=_;omega,by show l.length+1<=_;omega⟩,?_⟩
   cbv
   exact ⟨(j+1,l++[f s]),by exact ao,by exact ao,⟨⟨bw,a7⟩⟩⟩
  ·have nV:j=x.ins.length:=by
    have h':aS j x.ins.length=false:=h.out
    have h2:¬(j:Int) < x.ins.length:=by simpa [aS] using h'
    omega
   have X7:ie l=Da sig x:=by rw [hl,nV,kh,hf];rfl
   obtain ⟨K,hK⟩:∃K,ie l=K:=⟨_,rfl⟩
   have hKd:K=Da sig x:=by rw [<-hK,X7]
   have dW:b < (blocks.length:Int):=dW
   have wJ:0<=b/\b.toNat < out.length:=by omega
   refine (bz wJ.2).elim λu hu=>?_
   refine (⟨_,rfl⟩:∃o2,out.set b.toNat K=o2).elim λo2 jV=>?_
   have Wy:0<=b/\b.toNat < (out.set b.toNat K).length:=by rw [kB];exact wJ
   have Bj:(out.set b.toNat K)[b.toNat]?=some K:=by rw [iT];simp [wJ.2]
   have yd:0<=(ins.length:Int)+2*b/\((ins.length:Int)+2*b).toNat < sig.length:=by omega
   refine (bz yd.2).elim λu2 uc=>?_
   refine (⟨_,rfl⟩:∃s2,sig.set ((ins.length:Int)+2*b).toNat K=s2).elim λs2 s9=>?_
   have bV:Kq ⟨⟨ins,blocks,outs,ay⟩,sig,out,b⟩ ⟨s2,o2⟩:=⟨x,oK,λh=>by omega,λ_=>⟨by
    have e:((ins.length:Int)+2*b).toNat=ins.length+2*b.toNat:=by omega
    show s2=sig.set (ins.length+2*b.toNat) (Da sig x)
    rw [<-s9,e,hKd],by show o2=out.set b.toNat (Da sig x);rw [<-jV,hKd]⟩⟩
   have P7:b<=1000000:=by omega
   have hlen:l.length < 4611686018427387904:=by omega
   cbv
   refine ⟨l,⟨.inl ⟨by exact bP,rfl⟩,hlen⟩,?_⟩
   cbv
   refine ⟨⟨wJ⟩,?_⟩
   cbv
   refine ⟨(u,K),⟨hu,rfl,by have bj:=hK;exact dv⟩,?_⟩
   cbv
   refine ⟨⟨⟨ins,blocks,outs,ay⟩,b⟩,⟨by exact bP,gQ,eb,P7⟩,?_⟩
   cbv
   refine ⟨⟨Wy⟩,K,⟨Bj,rfl⟩,?_⟩
   cbv
   refine ⟨⟨yd⟩,(u2,K),⟨uc,rfl,by exact aJ⟩,?_⟩
   cbv
   exact ⟨⟨s2,o2⟩,[],[],⟨by exact aJ,trivial⟩,by have dM:=s9;have kq:=jV;exact bH,⟨bV⟩⟩
noncomputable def cEl (n m:Nat):Ctx:=eB n m [] []
theorem Pg (n m:Nat):CB PP (cEl n m):=eD n m trivial trivial
@[reducible] noncomputable def Vd:Vc.Spec where
 α:=nt bT
 args x:=[.sl 3 dc (λ_=>x.a),.sl 3 dc (λ_=>x.b)]
 pre x:=x.a.length<=1000000/\x.b.length<=1000000
 res x:=.b (λ_=>jv x.a x.b)
theorem aoB:cS (PP ()) 92 Vd:=by
 refine dP (Pg 0 0) (fo Tryz.func92) (λa=>⟨(λx=>(gL x).1),(λx=>(gL x).1),trivial⟩) (λa=>trivial) ?_
 rintro ⟨a,b⟩ hx
 obtain ⟨ha,hb⟩:a.length<=1000000/\b.length<=1000000:=hx
 obtain ⟨R,hR⟩:∃R,jv a b=R:=⟨_,rfl⟩
 have j9:Vd.res ⟨a,b⟩=.b (λ_=>R):=by rw [<-hR]
 rw [j9]
 refine ⟨?_⟩
 cbv
 refine ⟨λh=>?_,λh=>?_⟩
 ·have cZ:¬a.length=b.length:=by have h':(!aV (a.length:Int) (b.length:Int))=true:=h.out;simp only [aV,pI,beq_eq_false_iff_ne,ne_eq] at h';intro e;exact h' (by rw [e])
  have e:false=R:=by rw [<-hR];exact (Ep λe=>cZ (by rw [e])).symm
  cbv
  exact ⟨by exact aJ⟩
 ·have hl:a.length=b.length:=by have h':(!aV (a.length:Int) (b.length:Int))=false:=h.out;simp only [aV,DS,beq_iff_eq] at h';exact aU
  cbv
  refine Sat.ca (Pg 0 0) 0 5 [] (λi:Nat=>[(12,.i .i64 (λ_=>(a.length:Int))),(13,.i .i64 (λ_=>(i:Int)))]) (λi=>[]) (λi=>i<=a.length/\∀(j:Nat) (x y:bT),j < i->a[j]?=some x->b[j]?=some y->x=y) (λi=>a.length - i) 0 (by exact ao) (by exact ao) ⟨cJ _,λj x y h=>by omega⟩ ?_
  rintro i ⟨hi,hj⟩
  have h0:=n0 i
  have h1:=cd (i:=i) (by omega)
  cbv
  refine ⟨λh=>?_,λh=>?_⟩
  ·have bp:i < a.length:=bE
   have a7:a.length - (i+1) < a.length - i:=by omega
   refine (bz bp).elim λx hx=>?_
   refine (bz (l:=b) (i:=i) (by omega)).elim λy hy=>?_
   cbv
   refine ⟨x,⟨h0,hx⟩,?_⟩
   cbv
   refine ⟨y,⟨h0,hy⟩,?_⟩
   cbv
   refine ⟨λh=>?_,λh=>?_⟩
   ·have h:=h.out
    have cZ:x≠y:=by rintro rfl;simp [aV] at h
    have e:false=R:=by rw [<-hR];exact (J3 hx hy cZ).symm
    cbv
    exact ⟨by exact aJ⟩
   ·have h:=h.out
    have he:x=y:=by simp [aV] at h;cases x;cases y;simp at h ⊢;omega
    have bw:i+1<=a.length/\∀(j:Nat) (x y:bT),j < i+1->a[j]?=some x->b[j]?=some y->x=y:=⟨bp,λj u v eA hu hv=>by
     by_cases e:j=i
     ·subst e;rw [hx] at hu;rw [hy] at hv;cases hu;cases hv;exact he
     ·exact hj j u v (by omega) hu hv⟩
    cbv
    exact ⟨i+1,by exact ao,by exact ao,⟨⟨bw,a7⟩⟩⟩
  ·have bR:i=a.length:=by
    have h':aS i a.length=false:=h.out
    have h2:¬(i:Int) < a.length:=by simpa [aS] using h'
    omega
   have e:true=R:=by rw [<-hR];exact (JO hl λj x y hx hy=>hj j x y (by have:=(bX.1 hx).1;omega) hx hy).symm
   cbv
   exact ⟨by exact aJ⟩
@[reducible] noncomputable def Ve:Vc.Spec where
 α:=nt Int
 args x:=[.sl 1 bJ (λ_=>x.a),.sl 1 bJ (λ_=>x.b)]
 pre x:=x.a.length<=1000000/\x.b.length<=1000000
 res x:=.b (λ_=>jv x.a x.b)
theorem aoC:cS (PP ()) 96 Ve:=by
 refine dP (Pg 0 0) (fo Tryz.func96) (λa=>⟨(λx=>(cM x).1),(λx=>(cM x).1),trivial⟩) (λa=>trivial) ?_
 rintro ⟨a,b⟩ hx
 obtain ⟨ha,hb⟩:a.length<=1000000/\b.length<=1000000:=hx
 obtain ⟨R,hR⟩:∃R,jv a b=R:=⟨_,rfl⟩
 have j9:Ve.res ⟨a,b⟩=.b (λ_=>R):=by rw [<-hR]
 rw [j9]
 refine ⟨?_⟩
 cbv
 refine ⟨λh=>?_,λh=>?_⟩
 ·have cZ:¬a.length=b.length:=by have h':(!aV (a.length:Int) (b.length:Int))=true:=h.out;simp only [aV,pI,beq_eq_false_iff_ne,ne_eq] at h';intro e;exact h' (by rw [e])
  have e:false=R:=by rw [<-hR];exact (Ep λe=>cZ (by rw [e])).symm
  cbv
  exact ⟨by exact aJ⟩
 ·have hl:a.length=b.length:=by have h':(!aV (a.length:Int) (b.length:Int))=false:=h.out;simp only [aV,DS,beq_iff_eq] at h';exact aU
  cbv
  refine Sat.ca (Pg 0 0) 0 5 [] (λi:Nat=>[(12,.i .i64 (λ_=>(a.length:Int))),(13,.i .i64 (λ_=>(i:Int)))]) (λi=>[]) (λi=>i<=a.length/\∀(j:Nat) (x y:Int),j < i->a[j]?=some x->b[j]?=some y->x=y) (λi=>a.length - i) 0 (by exact ao) (by exact ao) ⟨cJ _,λj x y h=>by omega⟩ ?_
  rintro i ⟨hi,hj⟩
  have h0:=n0 i
  have h1:=cd (i:=i) (by omega)
  cbv
  refine ⟨λh=>?_,λh=>?_⟩
  ·have bp:i < a.length:=bE
   have a7:a.length - (i+1) < a.length - i:=by omega
   refine (bz bp).elim λx hx=>?_
   refine (bz (l:=b) (i:=i) (by omega)).elim λy hy=>?_
   cbv
   refine ⟨x,⟨h0,hx⟩,?_⟩
   cbv
   refine ⟨y,⟨h0,hy⟩,?_⟩
   cbv
   refine ⟨λh=>?_,λh=>?_⟩
   ·have h:=h.out
    have cZ:x≠y:=by simpa [aV] using h
    have e:false=R:=by rw [<-hR];exact (J3 hx hy cZ).symm
    cbv
    exact ⟨by exact aJ⟩
   ·have h:=h.out
    have he:x=y:=by simpa [aV] using h
    have bw:i+1<=a.length/\∀(j:Nat) (x y:Int),j < i+1->a[j]?=some x->b[j]?=some y->x=y:=⟨bp,λj u v eA hu hv=>by
     by_cases e:j=i
     ·subst e;rw [hx] at hu;rw [hy] at hv;cases hu;cases hv;exact he
     ·exact hj j u v (by omega) hu hv⟩
    cbv
    exact ⟨i+1,by exact ao,by exact ao,⟨⟨bw,a7⟩⟩⟩
  ·have bR:i=a.length:=by
    have h':aS i a.length=false:=h.out
    have h2:¬(i:Int) < a.length:=by simpa [aS] using h'
    omega
   have e:true=R:=by rw [<-hR];exact (JO hl λj x y hx hy=>hj j x y (by have:=(bX.1 hx).1;omega) hx hy).symm
   cbv
   exact ⟨by exact aJ⟩
noncomputable def cRa (n m:Nat):Ctx:=eB n m [] []
theorem Vf (n m:Nat):CB PP (cRa n m):=eD n m trivial trivial
theorem amz:cS (PP ()) 75 OJ:=by
 refine dP (Vf 0 0) (fo Tryz.func75) (λa=>⟨(gL a.w).1,trivial,trivial,trivial⟩) (λa=>trivial) ?_
 rintro ⟨w,lo,hi⟩ hx
 have e8:cR w.bit 7=aS w.bit 8:=by unfold cR aS;congr 1;exact propext ⟨λh=>by omega,λh=>by omega⟩
 refine ⟨?_⟩
 cbv
 repeat' (first|(refine .b ?_;done)|(refine ⟨λh=>?_,λh=>?_⟩<;>(have h:=h.out;cbv))|fail)
 all_goals first|refine .bc ?_|refine .b ?_|refine ⟨.bc ?_⟩|refine ⟨.b ?_⟩
 all_goals simp_all [ue]
noncomputable def lT (p:bq) (s:Int):Int:=if s < p.ins.length then -1 else (cK p.ins.length s:Int)
noncomputable def rh (p:bq) (s:Int):Bool:=decide ((p.ins.length:Int)<=s/\fj p.ins.length s)
structure Fc (p:bq) (s:Int):Prop where
 ins:p.ins.length<=1000000
 lo:0<=s
 hi:s<=10000000
theorem ab3 {n:Nat} {s:Int} (hn:n<=1000000) (h0:0<=s) (h1:s<=10000000):IntKind.i64.wrap (s - (n:Int))=s - (n:Int)/\((n:Int)<=s->IntKind.i64.wrap ((IntKind.i64.wrap (s - (n:Int))).tdiv 2)=(cK n s:Int)/\(IntKind.i64.wrap (s - (n:Int))).tmod 2=(s - (n:Int)) % 2):=by
 have fB:IntKind.i64.wrap (s - (n:Int))=s - (n:Int):=cz (by omega) (by omega)
 refine ⟨fB,λbR=>⟨?_,?_⟩⟩
 ·have qI:(s - (n:Int)) / 2=(cK n s:Int):=by unfold cK;omega
  rw [fB,zX (by omega),qI]
  exact cz (by unfold cK;omega) (by unfold cK;omega)
 ·rw [fB,w8 (by omega)]
@[reducible] noncomputable def N9:Vc.Spec where
 α:=X5
 args x:=[.agg (fq x.p),.i .i64 (λ_=>x.s)]
 pre x:=Fc x.p x.s
 res x:=.i .i64 (λ_=>lT x.p x.s)
theorem SX:cS (PP ()) 174 N9:=by
 refine dP (Vf 0 0) (fo Tryz.func174) (λa=>⟨km a.p,trivial,trivial⟩) (λa=>trivial) ?_
 rintro ⟨⟨ins,blocks,outs,ay⟩,s⟩ hx
 have hx:Fc ⟨ins,blocks,outs,ay⟩ s:=hx
 have hf:=ab3 (n:=ins.length) hx.ins hx.lo hx.hi
 refine ⟨?_⟩
 cbv
 refine ⟨λh=>?_,λh=>?_⟩
 ·have aR:s < (ins.length:Int):=bE
  have e:-1=lT ⟨ins,blocks,outs,ay⟩ s:=by unfold lT;rw [if_pos aR]
  cbv
  exact ⟨by exact aJ⟩
 ·have bR:(ins.length:Int)<=s:=bE
  have e:IntKind.i64.wrap ((IntKind.i64.wrap (s - (ins.length:Int))).tdiv 2)=lT ⟨ins,blocks,outs,ay⟩ s:=by rw [(hf.2 bR).1];unfold lT;rw [if_neg (by simp only;omega)]
  cbv
  exact ⟨⟨by decide⟩,⟨by exact aJ⟩⟩
@[reducible] noncomputable def UA:Vc.Spec where
 α:=X5
 args x:=[.agg (fq x.p),.i .i64 (λ_=>x.s)]
 pre x:=Fc x.p x.s
 res x:=.b (λ_=>rh x.p x.s)
theorem ab4:cS (PP ()) 173 UA:=by
 refine dP (Vf 0 0) (fo Tryz.func173) (λa=>⟨km a.p,trivial,trivial⟩) (λa=>trivial) ?_
 rintro ⟨⟨ins,blocks,outs,ay⟩,s⟩ hx
 have hx:Fc ⟨ins,blocks,outs,ay⟩ s:=hx
 have hf:=ab3 (n:=ins.length) hx.ins hx.lo hx.hi
 refine ⟨?_⟩
 cbv
 refine ⟨λh=>?_,λh=>?_⟩
 ·have bR:(ins.length:Int)<=s:=bE
  have e:aV ((IntKind.i64.wrap (s - (ins.length:Int))).tmod 2) 1=rh ⟨ins,blocks,outs,ay⟩ s:=by
   rw [(hf.2 bR).2];unfold rh fj aV;by_cases h:(s - (ins.length:Int)) % 2=1<;>simp [bR,h]
  cbv
  exact ⟨⟨by decide⟩,⟨by exact aJ⟩⟩
 ·have aR:¬(ins.length:Int)<=s:=bE
  have e:false=rh ⟨ins,blocks,outs,ay⟩ s:=by unfold rh;simp;intro h;exact absurd h aR
  cbv
  exact ⟨by exact aJ⟩
noncomputable def cRb (n m:Nat):Ctx:=eB n m [(102,Tryz.f102)] [(174,N9),(173,UA)]
theorem arp (n m:Nat):CB PP (cRb n m):=eD n m ⟨fo Tryz.func102,trivial⟩ ⟨SX,ab4,trivial⟩
theorem alU:cS (PP ()) 76 N6:=by
 refine dP (arp 0 0) (fo Tryz.func76) (λa=>⟨km a.p,trivial,trivial⟩) (λa=>trivial) ?_
 rintro ⟨⟨ins,blocks,outs,ay⟩,s⟩ hx
 obtain ⟨hb,hi⟩:Ee ⟨ins,blocks,outs,ay⟩:=hx
 have hb:blocks.length<=1000000:=hb
 have hi:ins.length<=1000000:=hi
 have QQ:IntKind.i64.wrap (2*(blocks.length:Int))=2*(blocks.length:Int):=cz (by omega) (by omega)
 have dx:IntKind.i64.wrap ((ins.length:Int)+IntKind.i64.wrap (2*(blocks.length:Int)))=(ins.length:Int)+2*(blocks.length:Int):=by rw [QQ];exact cz (by omega) (by omega)
 have F:¬kj ⟨ins,blocks,outs,ay⟩ s->false=oa ⟨ins,blocks,outs,ay⟩ s:=λh=>by simp [oa,h]
 have T:kj ⟨ins,blocks,outs,ay⟩ s->true=oa ⟨ins,blocks,outs,ay⟩ s:=λh=>by simp [oa,h]
 refine ⟨?_⟩
 cbv
 refine ⟨λh=>?_,λh=>?_⟩
 ·have h0:s < 0:=bE
  have e:=F λh=>by have:=h.lo;omega
  cbv
  exact ⟨by exact aJ⟩
 ·have h0:0<=s:=bE
  cbv
  refine ⟨λh=>?_,λh=>?_⟩
  ·have h1:(ins.length:Int)+2*(blocks.length:Int)<=s:=by
    have h':cR (IntKind.i64.wrap ((ins.length:Int)+IntKind.i64.wrap (2*(blocks.length:Int)))) s=true:=h.out
    rw [dx] at h'
    simpa [cR] using h'
   have e:=F λh=>by have:=h.hi;unfold bq.sigs at this;simp only at this;omega
   cbv
   exact ⟨by exact aJ⟩
  ·have h1:s < (ins.length:Int)+2*(blocks.length:Int):=by
    have h':cR (IntKind.i64.wrap ((ins.length:Int)+IntKind.i64.wrap (2*(blocks.length:Int)))) s=false:=h.out
    rw [dx] at h'
    simpa [cR] using h'
   have gy:s < bq.sigs ⟨ins,blocks,outs,ay⟩:=by unfold bq.sigs;simp only;omega
   have Db:Fc ⟨ins,blocks,outs,ay⟩ s:=⟨hi,h0,by omega⟩
   cbv
   refine ⟨⟨⟨ins,blocks,outs,ay⟩,s⟩,⟨by exact bP,Db⟩,?_⟩
   cbv
   refine ⟨λh=>?_,λh=>?_⟩
   ·have lF:rh ⟨ins,blocks,outs,ay⟩ s=false:=by have h':(!rh ⟨ins,blocks,outs,ay⟩ s)=true:=h.out;simpa using h'
    have e:=T ⟨h0,gy,λh1 h2=>by unfold rh at lF;simp only [decide_eq_false_iff_not] at lF;exact absurd ⟨h1,h2⟩ lF⟩
    cbv
    exact ⟨by exact aJ⟩
   ·have hf:rh ⟨ins,blocks,outs,ay⟩ s=true:=by have h':(!rh ⟨ins,blocks,outs,ay⟩ s)=false:=h.out;simpa using h'
    have QR:(ins.length:Int)<=s/\fj ins.length s:=by unfold rh at hf;simpa using hf
    have h1:s < (ins.length:Int)+2*(blocks.length:Int):=h1
    have fO:cK ins.length s < blocks.length:=by have:=QR.1;unfold cK;omega
    refine (bz fO).elim λx hx=>?_
    have zp:lT ⟨ins,blocks,outs,ay⟩ s=(cK ins.length s:Int):=by unfold lT;rw [if_neg (by simp only;have:=QR.1;omega)]
    have gx:0<=lT ⟨ins,blocks,outs,ay⟩ s/\blocks[(lT ⟨ins,blocks,outs,ay⟩ s).toNat]?=some x:=by rw [zp];exact ⟨by omega,by simpa using hx⟩
    have e:cR 0 x.bf=oa ⟨ins,blocks,outs,ay⟩ s:=by
     by_cases hr:0<=x.bf
     ·rw [<-T ⟨h0,gy,λ_ _=>⟨x,hx,hr⟩⟩];simp [cR,hr]
     ·rw [<-F λh=>by obtain ⟨y,hy,Ft⟩:=h.flip QR.1 QR.2;simp only at hy;rw [hx] at hy;cases hy;exact hr Ft];simp [cR,hr]
    cbv
    refine ⟨⟨⟨ins,blocks,outs,ay⟩,s⟩,⟨by exact bP,Db⟩,?_⟩
    cbv
    refine ⟨x,⟨gx⟩,?_⟩
    cbv
    exact ⟨by exact aJ⟩
@[reducible] noncomputable def SY:Vc.Spec:=N6
theorem ZR:cS (PP ()) 76 SY:=alU
end Go.Proofs.Pk
