import Derived.Test.YthnhbemmlfaihaaGreatT19
import Derived.Test.YthnhbemmlfaihaaGreatT34
set_option linter.unusedVariables false
set_option linter.unusedSimpArgs false
set_option maxRecDepth 10000
set_option maxHeartbeats 64000000
namespace Go.Proofs.Pk
open Go Go.Vc
structure HL (p:bq) (b:Int):Prop where
 sh:Shape p
 ins:p.ins.length<=1000000
 lo:0<=b
 hi:b < p.blocks.length
theorem HL.small {p:bq} {b:Int} (h:HL p b):Ee p:=⟨by have:=h.sh.dH;omega,h.ins⟩
@[reducible] noncomputable def afk:Vc.Spec where
 α:=PBl
 args x:=[.agg (fq x.p),.i .i64 (λ_=>x.b)]
 pre x:=HL x.p x.b
 res x:=.b (λ_=>true)
theorem pw2 {k:Nat} (hk:k<=4):(min (IntKind.u64.wrap (1*2^(min (IntKind.u64.wrap (k:Int)).toNat IntKind.u64.bits))).toNat IntKind.i64.bits)=2^k:=by
 have:k=0\/k=1\/k=2\/k=3\/k=4:=by omega
 rcases this with e|e|e|e|e<;>subst e<;>rfl
theorem Tr {t:Int} {k:Nat} (hk:k<=4) (h0:0<=t) (h1:t < 2^(2^k)):t.fdiv (2^(min (IntKind.u64.wrap (1*2^(min (IntKind.u64.wrap (k:Int)).toNat IntKind.u64.bits))).toNat IntKind.i64.bits))=0:=by
 rw [pw2 hk,Int.fdiv_eq_ediv_of_nonneg _ (Int.le_of_lt (Int.lt_of_le_of_lt h0 h1))]
 exact Int.ediv_eq_zero_of_lt h0 h1
theorem OK {k:Nat} (hk:k<=4):0<=IntKind.u64.wrap (k:Int)/\0<=IntKind.u64.wrap (1*2^(min (IntKind.u64.wrap (k:Int)).toNat IntKind.u64.bits)):=by
 have:k=0\/k=1\/k=2\/k=3\/k=4:=by omega
 rcases this with e|e|e|e|e<;>rw [e]<;>decide
noncomputable def X8 (p:bq) (b:Int) (x:Block):Vc.St :=
 ⟨[.agg [.sl 3 dc (λ_=>p.ins),.sl 5 oe (λ_=>p.blocks),.sl 3 dc (λ_=>p.outs),.sl 1 bJ (λ_=>p.ay)],.i .i64 (λ_=>b),.ptr 0 0,.any,.bc false,.ptr 1 0,.i .i64 (λ_=>(x.ins.length:Int)),.ic .i64 0]++xA 99,
  [.fix 57 [.sl 3 dc (λ_=>p.ins),.sl 5 oe (λ_=>p.blocks),.sl 3 dc (λ_=>p.outs),.sl 1 bJ (λ_=>p.ay)],
   .fix 76 [.sl 1 bJ (λ_=>x.ins),.i .i64 (λ_=>x.table),.i .i64 (λ_=>x.bZ),.i .i64 (λ_=>x.bf),.i .u64 (λ_=>x.key)]]⟩
noncomputable def cGo (n m:Nat):Ctx:=eB n m [] [(76,SY)]
theorem Vg (n m:Nat):CB PP (cGo n m):=eD n m trivial ⟨ZR,trivial⟩
theorem aoD:cS (PP ()) 77 afk:=by
 refine dP (Vg 0 0) (fo Tryz.func77) (λa=>⟨km a.p,trivial,trivial⟩) (λa=>trivial) ?_
 rintro ⟨⟨ins,blocks,outs,ay⟩,b⟩ hx
 have hx:HL ⟨ins,blocks,outs,ay⟩ b:=hx
 have ef:=hx.sh
 have ss:=hx.small
 have eb:0<=b:=hx.lo
 have dW:b < blocks.length:=hx.hi
 have oA:blocks.length<=600:=ef.dH
 obtain ⟨x,oK⟩:=bz (l:=blocks) (i:=b.toNat) (by omega)
 have gP:=b_ oK
 have hf:=ef.formed x gP
 have o8:∀s∈x.ins,kj ⟨ins,blocks,outs,ay⟩ s:=ef.used x gP
 have hk:=hf.k
 have Ww:=hf.bZ
 have tN:=hf.bf
 have arq:=hf.read
 have atY:∀i:Nat,(i:Int) < b->∀y,blocks[i]?=some y->0<=x.bf->y.bf≠x.bf:=λi hi y hy h0 e=>by
  have:=ef.aN b.toNat i x y oK hy h0 e.symm
  omega
 have dY:=λ(_:Unit)=>Tr hk hf.table.1 hf.table.2
 clear dY
 refine ⟨?_⟩
 cbv
 refine ⟨x,⟨eb,oK⟩,?_⟩
 cbv
 refine ⟨λh=>?_,λ_=>?_⟩
 ·have hF:False:=by
   have h':aS 4 (x.ins.length:Int)=true:=h.out
   simp only [aS,decide_eq_true_eq] at h';exact aU
  cases hF
 cbv
 refine ⟨λh=>?_,λ_=>?_⟩
 ·have hF:False:=by
   have h':aS x.bZ (-1)=true:=h.out
   simp only [aS,decide_eq_true_eq] at h';omega
  cases hF
 cbv
 refine ⟨λh=>?_,λ_=>?_⟩
 ·have hF:False:=by
   have h':aS 63 x.bZ=true:=h.out
   simp only [aS,decide_eq_true_eq] at h';omega
  cases hF
 cbv
 refine ⟨λh=>?_,λ_=>?_⟩
 ·have hF:False:=by
   have h':aS x.bf (-1)=true:=h.out
   simp only [aS,decide_eq_true_eq] at h';omega
  cases hF
 cbv
 refine ⟨λh=>?_,λ_=>?_⟩
 ·have hF:False:=by
   have h':aS 255 x.bf=true:=h.out
   simp only [aS,decide_eq_true_eq] at h';omega
  cases hF
 cbv
 apply BQ (λc k=>Sat [] false PP c (X8 ⟨ins,blocks,outs,ay⟩ b x) k)
 ·intro tail
  refine ⟨λh=>?_,λh=>?_⟩
  ·have hr:0<=x.bZ:=bE
   have mD:=arq hr
   cbv
   refine ⟨λh=>?_,λ_=>?_⟩
   ·have hF:False:=by
     have h':cR 0 x.bf=true:=h.out
     simp only [cR,decide_eq_true_eq] at h';have:=mD.1;omega
    cases hF
   cbv
   refine ⟨λ_=>?_,λh=>?_⟩
   rotate_left
   ·have hF:False:=by
     have h':cR 0 x.bZ=false:=h.out
     simp only [cR,decide_eq_false_iff_not] at h';omega
    cases hF
   cbv
   refine ⟨λh=>?_,λ_=>?_⟩
   ·have hF:False:=by
     have h':aS 3 (x.ins.length:Int)=true:=h.out
     simp only [aS,decide_eq_true_eq] at h';have:=mD.2.1;exact aU
    cases hF
   cbv
   refine ⟨λh=>?_,λ_=>?_⟩
   ·have hF:False:=by
     have h':(!aV x.table 0)=true:=h.out
     rw [mD.2.2] at h';cases h'
    cases hF
   cbv
   refine ⟨λh=>?_,λ_=>?_⟩
   ·have hF:False:=by
     have h':aS x.table 0=true:=h.out
     have:=hf.table.1;simp only [aS,decide_eq_true_eq] at h';omega
    cases hF
   cbv
   refine ⟨⟨(OK hk).1⟩,?_⟩
   cbv
   refine ⟨⟨(OK hk).2⟩,?_⟩
   cbv
   refine ⟨λh=>?_,λ_=>?_⟩
   ·have hF:False:=by
     have h':(!aV (x.table.fdiv (2^(min (IntKind.u64.wrap (1*2^(min (IntKind.u64.wrap (x.ins.length:Int)).toNat IntKind.u64.bits))).toNat IntKind.i64.bits))) 0)=true:=h.out
     rw [Tr hk hf.table.1 hf.table.2] at h'
     cases h'
    cases hF
   cbv
   exact kD 2 (X8 ⟨ins,blocks,outs,ay⟩ b x) (by exact ao) (by exact ao) tail
  ·have hr:¬0<=x.bZ:=bE
   cbv
   refine ⟨λh=>?_,λ_=>?_⟩
   ·have hF:False:=by
     have h':cR 0 x.bZ=true:=h.out
     simp only [cR,decide_eq_true_eq] at h';omega
    cases hF
   cbv
   refine ⟨λh=>?_,λ_=>?_⟩
   ·have hF:False:=by
     have h':aS x.table 0=true:=h.out
     have:=hf.table.1;simp only [aS,decide_eq_true_eq] at h';omega
    cases hF
   cbv
   refine ⟨⟨(OK hk).1⟩,?_⟩
   cbv
   refine ⟨⟨(OK hk).2⟩,?_⟩
   cbv
   refine ⟨λh=>?_,λ_=>?_⟩
   ·have hF:False:=by
     have h':(!aV (x.table.fdiv (2^(min (IntKind.u64.wrap (1*2^(min (IntKind.u64.wrap (x.ins.length:Int)).toNat IntKind.u64.bits))).toNat IntKind.i64.bits))) 0)=true:=h.out
     rw [Tr hk hf.table.1 hf.table.2] at h'
     cases h'
    cases hF
   cbv
   exact kD 2 (X8 ⟨ins,blocks,outs,ay⟩ b x) (by exact ao) (by exact ao) tail
 ·refine Sat.ca (Vg 0 0) 2 7 [] (λi:Nat=>[(7,.i .i64 (λ_=>(i:Int)))]) (λi=>[]) (λi=>i<=x.ins.length) (λi=>x.ins.length - i) 0 (by exact ao) (by exact ao) (cJ _) ?_
  rintro i hi
  have h0:=n0 i
  have h1:=cd (i:=i) (by omega)
  cbv
  refine ⟨λh=>?_,λh=>?_⟩
  ·have bp:i < x.ins.length:=bE
   have a7:i+1<=x.ins.length/\x.ins.length - (i+1) < x.ins.length - i:=by omega
   refine (bz bp).elim λs hs=>?_
   have p8:oa ⟨ins,blocks,outs,ay⟩ s=true:=RU.2 (o8 s (b_ hs))
   cbv
   refine ⟨s,⟨h0,hs⟩,?_⟩
   cbv
   refine ⟨⟨⟨ins,blocks,outs,ay⟩,s⟩,⟨by exact bP,ss⟩,?_⟩
   cbv
   refine ⟨λh=>?_,λ_=>?_⟩
   ·have h':(!oa ⟨ins,blocks,outs,ay⟩ s)=true:=h.out
    rw [p8] at h'
    cases h'
   ·cbv
    exact ⟨i+1,by exact ao,by exact ao,⟨a7⟩⟩
  ·cbv
   refine Sat.ca (Vg 0 0) 2 7 [] (λi:Nat=>[(8,.i .i64 (λ_=>(i:Int)))]) (λi=>[]) (λi=>(i:Int)<=b) (λi=>b.toNat - i) 0 (by exact ao) (by exact ao) (by show (0:Int)<=b;omega) ?_
   rintro i hi
   have hi:(i:Int)<=b:=hi
   have az0:b < (blocks.length:Int):=dW
   have h0:=n0 i
   have h1:=cd (i:=i) (by omega)
   cbv
   refine ⟨λh=>?_,λh=>?_⟩
   ·have Iw:(i:Int) < b:=bE
    have az1:b < (blocks.length:Int):=dW
    have a7:((i+1:Nat):Int)<=b/\b.toNat - (i+1) < b.toNat - i:=by omega
    refine (bz (l:=blocks) (i:=i) (by omega)).elim λy hy=>?_
    have yf:=atY i Iw y hy
    cbv
    refine ⟨λh=>?_,λh=>?_⟩
    ·have FB:0<=x.bf:=bE
     cbv
     refine ⟨y,⟨h0,hy⟩,?_⟩
     cbv
     refine ⟨λh=>?_,λ_=>?_⟩
     ·have hF:False:=by
       have h':aV y.bf x.bf=true:=h.out
       exact yf FB (by simpa [aV] using h')
      cases hF
     ·cbv
      exact ⟨i+1,by exact ao,by exact ao,⟨a7⟩⟩
    ·cbv
     exact ⟨i+1,by exact ao,by exact ao,⟨a7⟩⟩
   ·cbv
    exact ⟨by exact aJ⟩
noncomputable def Vh (p:bq) (done:List Bool) (s:Int):Bool:=cR 0 (lT p s)&&(!rh p s&&!(done.getD (lT p s).toNat false))
noncomputable def As (p:bq) (x:Block) (done:List Bool):Bool:=!x.ins.any (Vh p done)
def kH (done:List Bool):Nat:=done.countP id
theorem ac7 {done:List Bool} {b:Nat} (h:done[b]?=some false):kH (done.set b true)=kH done+1:=by
 unfold kH
 induction done generalizing b with
 | nil=>simp at h
 | cons x l ih =>
  cases b with
  | zero=>simp at h;subst h;simp [DI]
  | succ b =>
   have:=ih (b:=b) (by simpa using h)
   simp only [Gd,DI]
   omega
theorem T5 (done:List Bool):kH done<=done.length:=List.countP_le_length
def uS (d0 d:List Bool):Prop:=d.length=d0.length/\∀i:Nat,d0[i]?=some true->d[i]?=some true
theorem uS.refl (d:List Bool):uS d d:=⟨rfl,λ_ h=>h⟩
theorem uS.set {d0 d:List Bool} (h:uS d0 d) (b:Nat):uS d0 (d.set b true):=by
 refine ⟨by simp [h.1],λi hi=>?_⟩
 have:=h.2 i hi
 rw [iT]
 split
 ·rename_i e;subst e;simp [(bX.1 this).1]
 ·exact this
theorem apX {d0 d:List Bool} (h:uS d0 d) {b:Nat} (h0:d0[b]?=some false) (h1:d[b]?=some true):kH d0+1<=kH d:=by
 have key:∀(a c:List Bool),uS a c->kH a<=kH c:=by
  intro a
  induction a with
  | nil=>intro c hc;have:=hc.1;simp at this;subst this;exact cP _
  | cons x l ih =>
   intro c hc
   cases c with
   | nil=>have:=hc.1;simp at this
   | cons y m =>
    have h1:=ih m ⟨by have:=hc.1;simpa using this,λi hi=>by have:=hc.2 (i+1) (by simpa using hi);simpa using this⟩
    have h2:=hc.2 0
    unfold kH at *
    simp only [DI]
    cases x<;>cases y<;>simp_all<;>omega
 have hu:uS (d0.set b true) d:=⟨by simp [h.1],λi hi=>by
  by_cases e:i=b
  ·subst e;exact h1
  ·rw [eU (λh=>e h.symm)] at hi;exact h.2 i hi⟩
 have:=key _ _ hu
 rw [ac7 h0] at this
 exact this
theorem least {r:Nat->Nat} {done:List Bool} (h:kH done < done.length):∃b:Nat,done[b]?=some false/\∀c:Nat,done[c]?=some false->r b<=r c:=by
 have hex:∃b:Nat,done[b]?=some false:=by
  apply Classical.byContradiction
  intro hn
  have gv:∀x∈done,id x=true:=λx hx=>by
   obtain ⟨i,hi,e⟩:=z8.1 hx
   cases oC:x with
   | true=>rfl
   | false=>exact absurd ⟨i,by rw [eh hi,e,oC]⟩ hn
  have:=List.countP_eq_length.2 gv
  unfold kH at h
  omega
 have hwf:∀n,(∃b:Nat,done[b]?=some false/\r b<=n)->∃b:Nat,done[b]?=some false/\∀c:Nat,done[c]?=some false->r b<=r c:=by
  intro n
  induction n with
  | zero =>
   rintro ⟨b,hb,h0⟩
   exact ⟨b,hb,λc _=>by omega⟩
  | succ n ih =>
   rintro ⟨b,hb,h0⟩
   by_cases hc:∃c:Nat,done[c]?=some false/\r c<=n
   ·exact ih hc
   ·refine ⟨b,hb,λc hcf=>?_⟩
    have:¬r c<=n:=λh=>hc ⟨c,hcf,h⟩
    omega
 obtain ⟨b,hb⟩:=hex
 exact hwf (r b) ⟨b,hb,cP _⟩
theorem als {p:bq} {r:Nat->Nat} (hr:jy p r) {d0 d:List Bool} (hl:d0.length=p.blocks.length) (hu:uS d0 d) {b:Nat} (atZ:∀c:Nat,d0[c]?=some false->r b<=r c) {x:Block} (hx:p.blocks[b]?=some x) (hs:∀s∈x.ins,0<=s/\s < p.sigs):As p x d=true:=by
 unfold As
 rw [pI,Sm]
 intro s ss
 have h1:=hs s ss
 unfold bq.sigs at h1
 unfold Vh
 intro hw
 simp only [ei,pI,cR,decide_eq_true_eq] at hw
 obtain ⟨eb,hf,hd⟩:=hw
 unfold lT at eb hd
 split at eb
 ·omega
 ·rename_i bR
  rw [if_neg bR,oS] at hd
  have lF:¬fj p.ins.length s:=by
   unfold rh at hf
   simp only [decide_eq_false_iff_not] at hf
   exact λh=>hf ⟨by omega,h⟩
  have aR:=hr b x hx s ss (by omega) lF
  have dW:cK p.ins.length s < d0.length:=by rw [hl];unfold cK;omega
  have L9:d0[cK p.ins.length s]?=some d0[cK p.ins.length s]:=eh dW
  cases hv:d0[cK p.ins.length s] with
  | true =>
   have:=hu.2 _ (by rw [L9,hv])
   rw [gW,this] at hd
   cases hd
  | false =>
   have:=atZ _ (by rw [L9,hv])
   omega
structure Vi where
 p:bq
 b:Int
 done:List Bool
structure Vj (x:Vi):Prop where
 g:HL x.p x.b
 dl:x.done.length=x.p.blocks.length
noncomputable def B5 (x:Vi):Bool:=match x.p.blocks[x.b.toNat]? with
 | some z=>As x.p z x.done
 | none=>true
@[reducible] noncomputable def ad6:Vc.Spec where
 α:=Vi
 args x:=[.agg (fq x.p),.i .i64 (λ_=>x.b),.sl 1 iU (λ_=>x.done)]
 pre x:=Vj x
 res x:=.b (λ_=>B5 x)
noncomputable def cRy (n m:Nat):Ctx:=eB n m [] [(174,N9),(173,UA)]
theorem afl (n m:Nat):CB PP (cRy n m):=eD n m trivial ⟨SX,ab4,trivial⟩
theorem anv:cS (PP ()) 175 ad6:=by
 refine dP (afl 0 0) (fo Tryz.func175) (λa=>⟨km a.p,trivial,(λx=>(tu x).1),trivial⟩) (λa=>trivial) ?_
 rintro ⟨⟨ins,blocks,outs,ay⟩,b,done⟩ hx
 have hx:Vj ⟨⟨ins,blocks,outs,ay⟩,b,done⟩:=hx
 have hg:=hx.g
 have ef:=hg.sh
 have gQ:ins.length<=1000000:=hg.ins
 have eb:0<=b:=hg.lo
 have dW:b < blocks.length:=hg.hi
 have fO:done.length=blocks.length:=hx.dl
 have oA:blocks.length<=600:=ef.dH
 obtain ⟨x,oK⟩:=bz (l:=blocks) (i:=b.toNat) (by omega)
 have gP:=b_ oK
 have hk:x.ins.length<=4:=(ef.formed x gP).k
 have o8:∀s∈x.ins,kj ⟨ins,blocks,outs,ay⟩ s:=ef.used x gP
 have QS:B5 ⟨⟨ins,blocks,outs,ay⟩,b,done⟩=As ⟨ins,blocks,outs,ay⟩ x done:=by unfold B5;simp only;rw [oK]
 obtain ⟨f,hf⟩:∃f,f=Vh ⟨ins,blocks,outs,ay⟩ done:=⟨_,rfl⟩
 have hrf:B5 ⟨⟨ins,blocks,outs,ay⟩,b,done⟩=!x.ins.any f:=by rw [QS,hf];rfl
 clear hx hg
 refine ⟨?_⟩
 cbv
 refine Sat.ca (afl 0 0) 1 7 [] (λi:Nat=>[(7,.i .i64 (λ_=>(i:Int)))]) (λi=>[]) (λi=>i<=x.ins.length/\(x.ins.take i).any f=false) (λi=>x.ins.length - i) 0 (by exact ao) (by exact ao) ⟨cJ _,by simp⟩ ?_
 rintro i ⟨hi,ht⟩
 have h0:=n0 i
 have h1:=cd (i:=i) (by omega)
 cbv
 refine ⟨x,⟨eb,oK⟩,?_⟩
 cbv
 refine ⟨λh=>?_,λh=>?_⟩
 ·have bp:i < x.ins.length:=bE
  have a7:x.ins.length - (i+1) < x.ins.length - i:=by omega
  refine (bz bp).elim λs hs=>?_
  have hu:=o8 s (b_ hs)
  have at0:=hu.lo
  have az2:s < (ins.length:Int)+2*(blocks.length:Int):=hu.hi
  have Db:Fc ⟨ins,blocks,outs,ay⟩ s:=⟨gQ,at0,by omega⟩
  have zy:f s=(cR 0 (lT ⟨ins,blocks,outs,ay⟩ s)&&(!rh ⟨ins,blocks,outs,ay⟩ s&&!(done.getD (lT ⟨ins,blocks,outs,ay⟩ s).toNat false))):=by rw [hf];rfl
  have Vk:f s=false->i+1<=x.ins.length/\(x.ins.take (i+1)).any f=false:=λh=>⟨bp,by rw [NQ hs,ht,h];rfl⟩
  have Ci:0<=lT ⟨ins,blocks,outs,ay⟩ s->(lT ⟨ins,blocks,outs,ay⟩ s).toNat < done.length:=λh=>by
   unfold lT at h ⊢
   split at h
   ·omega
   ·rename_i bR;rw [if_neg bR,fO];simp only at bR ⊢;unfold cK;omega
  obtain ⟨B,hB⟩:∃B,lT ⟨ins,blocks,outs,ay⟩ s=B:=⟨_,rfl⟩
  obtain ⟨Fl,X9⟩:∃Fl,rh ⟨ins,blocks,outs,ay⟩ s=Fl:=⟨_,rfl⟩
  rw [hB,X9] at zy
  rw [hB] at Ci
  cbv
  refine ⟨x,⟨eb,oK⟩,?_⟩
  cbv
  refine ⟨s,⟨h0,hs⟩,?_⟩
  cbv
  refine ⟨⟨⟨ins,blocks,outs,ay⟩,s⟩,⟨by exact bP,Db⟩,?_⟩
  cbv
  refine ⟨λh=>?_,λh=>?_⟩
  ·have rE:cR 0 B=true:=by have h':cR 0 (lT ⟨ins,blocks,outs,ay⟩ s)=true:=h.out;rw [hB] at h';exact h'
   have Ix:0<=B:=by simpa [cR] using rE
   cbv
   refine ⟨⟨⟨ins,blocks,outs,ay⟩,s⟩,⟨by exact bP,Db⟩,?_⟩
   cbv
   refine ⟨λh=>?_,λh=>?_⟩
   ·have u5:Fl=false:=by have h':(!rh ⟨ins,blocks,outs,ay⟩ s)=true:=h.out;rw [X9] at h';simpa using h'
    refine (bz (Ci Ix)).elim λv hv=>?_
    have gx:0<=lT ⟨ins,blocks,outs,ay⟩ s/\done[(lT ⟨ins,blocks,outs,ay⟩ s).toNat]?=some v:=by rw [hB];exact ⟨Ix,hv⟩
    have X6:f s=!v:=by rw [zy,rE,u5,gW,hv];rfl
    cbv
    refine ⟨⟨⟨ins,blocks,outs,ay⟩,s⟩,⟨by exact bP,Db⟩,?_⟩
    cbv
    refine ⟨v,⟨gx⟩,?_⟩
    cbv
    refine ⟨λh=>?_,λh=>?_⟩
    ·have xO:f s=true:=by rw [X6];exact h.out
     have e:false=B5 ⟨⟨ins,blocks,outs,ay⟩,b,done⟩:=by rw [hrf,OH hs xO];rfl
     cbv
     exact ⟨by exact aJ⟩
    ·have xO:f s=false:=by rw [X6];exact h.out
     have bw:=Vk xO
     cbv
     exact ⟨i+1,by exact ao,by exact ao,⟨⟨bw,a7⟩⟩⟩
   ·have u5:Fl=true:=by have h':(!rh ⟨ins,blocks,outs,ay⟩ s)=false:=h.out;rw [X9] at h';simpa using h'
    have bw:=Vk (by rw [zy,u5];simp)
    cbv
    exact ⟨i+1,by exact ao,by exact ao,⟨⟨bw,a7⟩⟩⟩
  ·have rE:cR 0 B=false:=by have h':cR 0 (lT ⟨ins,blocks,outs,ay⟩ s)=false:=h.out;rw [hB] at h';exact h'
   have bw:=Vk (by rw [zy,rE];rfl)
   cbv
   exact ⟨i+1,by exact ao,by exact ao,⟨⟨bw,a7⟩⟩⟩
 ·have bR:i=x.ins.length:=by
   have h':aS i x.ins.length=false:=h.out
   have h2:¬(i:Int) < x.ins.length:=by simpa [aS] using h'
   omega
  have e:true=B5 ⟨⟨ins,blocks,outs,ay⟩,b,done⟩:=by rw [hrf];rw [bR,kh] at ht;rw [ht];rfl
  cbv
  exact ⟨by exact aJ⟩
structure P8 where
 i:Nat
 out:List Int
 done:List Bool
structure zA (p:bq) (x:P8):Prop where
 le:x.i<=p.blocks.length
 dl:x.done.length=p.blocks.length
 ol:x.out.length=kH x.done
 lo:x.i<=kH x.done
 lt:kH x.done < p.blocks.length\/p.blocks.length=0
structure X_ (p:bq) (d0:List Bool) (b0:Nat) (x:P8):Prop where
 le:x.i<=p.blocks.length
 up:uS d0 x.done
 ol:x.out.length=kH x.done
 b:b0 < x.i->x.done[b0]?=some true
structure ahh (p:bq):Prop where
 sh:Shape p
 rk:∃r,jy p r
 ins:p.ins.length<=1000000
noncomputable def Kr (p:bq) (s:List Int × List Bool) (b:Nat):List Int × List Bool:=match p.blocks[b]? with
 | some x=>match s.2[b]? with
  | some false=>if As p x s.2=true then (s.1++[(b:Int)],s.2.set b true) else s
  | _=>s
 | none=>s
noncomputable def tB (p:bq) (b:Nat) (s:List Int × List Bool):List Int × List Bool:=(List.range b).foldl (Kr p) s
theorem ZS (p:bq) (b:Nat) (s:List Int × List Bool):tB p (b+1) s=Kr p (tB p b s) b:=by
 unfold tB;rw [Ss,Ni];rfl
noncomputable def yK (p:bq):Nat->List Int × List Bool->List Int
 | 0,s=>s.1
 | k+1,s=>if (tB p p.blocks.length s).1.length=p.blocks.length then (tB p p.blocks.length s).1 else yK p k (tB p p.blocks.length s)
noncomputable def G5 (p:bq):List Int:=yK p p.blocks.length ([],List.replicate p.blocks.length false)
theorem Ya {p:bq} {rk:Nat->Nat} (ju:jy p rk) (hs:∀x∈p.blocks,∀s∈x.ins,0<=s/\s < p.sigs) {i:Nat} {out:List Int} {done:List Bool} (hJ:zA p ⟨i,out,done⟩) {b0:Nat} (eb:done[b0]?=some false/\∀c:Nat,done[c]?=some false->rk b0<=rk c):∀b,b<=p.blocks.length->X_ p done b0 ⟨b,(tB p b (out,done)).1,(tB p b (out,done)).2⟩
 | 0,_=>⟨cJ _,.refl _,hJ.ol,λh=>by simp only at h;omega⟩
 | b+1,dW=>by
  have hK:=Ya ju hs hJ eb b (by omega)
  rw [ZS]
  obtain ⟨⟨dD,d⟩,Yb⟩:∃s,tB p b (out,done)=s:=⟨_,rfl⟩
  rw [Yb] at hK ⊢
  have qG:uS done d:=hK.up
  have La:dD.length=kH d:=hK.ol
  have hbd:b0 < b->d[b0]?=some true:=hK.b
  have fO:done.length=p.blocks.length:=hJ.dl
  have hx:p.blocks[b]?=some p.blocks[b]:=eh dW
  have G8:(b=b0->d[b0]?=some true)->X_ p done b0 ⟨b+1,dD,d⟩:=λh=>⟨dW,qG,La,λaR=>by
   simp only at aR
   by_cases e:b=b0
   ·exact h e
   ·exact hbd (by omega)⟩
  unfold Kr
  rw [hx]
  simp only
  split
  ·rename_i hv
   split
   ·refine ⟨dW,qG.set b,by simp only;rw [ac7 hv];simp [La],λaR=>?_⟩
    simp only at aR ⊢
    by_cases e:b=b0
    ·subst e;rw [iT];simp;have:=qG.1;omega
    ·rw [eU e];exact hbd (by omega)
   ·rename_i Yc
    exact G8 λe=>by
     subst e
     exact absurd (als ju fO qG eb.2 hx (hs _ (DH dW))) Yc
  ·rename_i hv
   refine G8 λe=>?_
   subst e
   have aR:b < d.length:=by have:=qG.1;omega
   have L9:d[b]?=some d[b]:=eh aR
   cases wB:d[b] with
   | true=>rw [L9,wB]
   | false=>exact absurd (by rw [L9,wB]) (hv ·)
theorem ab5 {p:bq} {rk:Nat->Nat} (ju:jy p rk) (hs:∀x∈p.blocks,∀s∈x.ins,0<=s/\s < p.sigs) {i:Nat} {out:List Int} {done:List Bool} (hJ:zA p ⟨i,out,done⟩) (hi:i < p.blocks.length) :
  (tB p p.blocks.length (out,done)).1.length=p.blocks.length\/zA p ⟨i+1,(tB p p.blocks.length (out,done)).1,(tB p p.blocks.length (out,done)).2⟩:=by
 have eW:i<=kH done:=hJ.lo
 have fO:done.length=p.blocks.length:=hJ.dl
 have aR:kH done < p.blocks.length\/p.blocks.length=0:=hJ.lt
 obtain ⟨b0,eb⟩:=least (r:=rk) (done:=done) (by omega)
 have hK:=Ya ju hs hJ eb _ (cP _)
 obtain ⟨⟨dD,d⟩,Yb⟩:∃s,tB p p.blocks.length (out,done)=s:=⟨_,rfl⟩
 rw [Yb] at hK ⊢
 have qG:uS done d:=hK.up
 have La:dD.length=kH d:=hK.ol
 have at2:b0 < p.blocks.length:=by have:=(bX.1 eb.1).1;omega
 have pQ:=apX qG eb.1 (hK.b at2)
 have Qo:=T5 d
 have K0:d.length=p.blocks.length:=by rw [qG.1];exact fO
 by_cases e:dD.length=p.blocks.length
 ·exact .inl e
 ·exact .inr ⟨hi,K0,La,by show i+1<=kH d;omega,.inl (by show kH d < p.blocks.length;omega)⟩
theorem aa2 (p:bq):zA p ⟨0,[],List.replicate p.blocks.length false⟩:=by
 have mr:kH (List.replicate p.blocks.length false)=0:=by
  unfold kH
  rw [List.countP_eq_zero]
  intro a ha
  rw [(DQ.1 ha).2]
  decide
 exact ⟨cJ _,rK,by rw [mr];rfl,cJ _,by rw [mr];omega⟩
theorem aaa {p:bq} {rk:Nat->Nat} (ju:jy p rk) (hs:∀x∈p.blocks,∀s∈x.ins,0<=s/\s < p.sigs):∀(k i:Nat) (s:List Int × List Bool),i+k=p.blocks.length->zA p ⟨i,s.1,s.2⟩->(yK p k s).length=p.blocks.length
 | 0,i,s,hi,hJ=>by
  have h1:s.1.length=kH s.2:=hJ.ol
  have h2:i<=kH s.2:=hJ.lo
  have h3:s.2.length=p.blocks.length:=hJ.dl
  have:=T5 s.2
  show s.1.length=_
  omega
 | k+1,i,s,hi,hJ=>by
  unfold yK
  split
  ·assumption
  ·rename_i cZ
   rcases ab5 ju hs hJ (by omega) with h|h
   ·exact absurd h cZ
   ·exact aaa ju hs k (i+1) _ (by omega) h
theorem alV {p:bq} (ef:Shape p) (hr:∃r,jy p r):(G5 p).length=p.blocks.length:=by
 obtain ⟨r,hr⟩:=hr
 exact aaa hr (λx hx s hs=>⟨(ef.used x hx s hs).lo,(ef.used x hx s hs).hi⟩) _ 0 _ (by omega) (aa2 p)
@[reducible] noncomputable def ad7:Vc.Spec where
 α:=bq
 args x:=[.agg (fq x)]
 pre x:=ahh x
 res x:=.sl 1 bJ (λ_=>G5 x)
noncomputable def cOd (n m:Nat):Ctx:=eB n m [] [(175,ad6)]
theorem Vl (n m:Nat):CB PP (cOd n m):=eD n m trivial ⟨anv,trivial⟩
theorem anw:cS (PP ()) 78 ad7:=by
 refine dP (Vl 0 0) (fo Tryz.func78) (λa=>⟨km a,trivial⟩) (λa=>(λx=>(cM x).1)) ?_
 rintro ⟨ins,blocks,outs,ay⟩ hx
 have hx:ahh ⟨ins,blocks,outs,ay⟩:=hx
 have ef:=hx.sh
 have gQ:ins.length<=1000000:=hx.ins
 obtain ⟨rk,ju⟩:=hx.rk
 have oA:blocks.length<=600:=ef.dH
 have o8:∀x∈blocks,∀s∈x.ins,0<=s/\s < bq.sigs ⟨ins,blocks,outs,ay⟩:=λx hx s hs=>⟨(ef.used x hx s hs).lo,(ef.used x hx s hs).hi⟩
 have eE:0<=(blocks.length:Int)/\1*(blocks.length:Int)<=281474976710656/\(blocks.length:Int)<=9223372036854775807:=by omega
 obtain ⟨d0,o9⟩:∃l,List.replicate ((blocks.length:Int)).toNat false=l:=⟨_,rfl⟩
 have ahi:List.replicate blocks.length false=d0:=by rw [<-o9,oS]
 have tc:zA ⟨ins,blocks,outs,ay⟩ ⟨0,[],d0⟩:=by rw [<-ahi];exact aa2 ⟨ins,blocks,outs,ay⟩
 obtain ⟨R,hR⟩:∃R,G5 ⟨ins,blocks,outs,ay⟩=R:=⟨_,rfl⟩
 have u5:yK ⟨ins,blocks,outs,ay⟩ (blocks.length - 0) ([],d0)=R:=by rw [<-ahi];exact hR
 clear hx
 refine ⟨?_⟩
 cbv
 refine ⟨⟨eE.1,jI _,eE.2.1,eE.2.2⟩,?_⟩
 cbv
 refine Sat.ca (Vl 0 0) 3 3 [(.t 3,1),(.t 4,2)] (λx:P8=>[(3,.own 1),(4,.own 2),(5,.i .i64 (λ_=>(x.i:Int)))]) (λx=>[(1,.dyn 3 1 bJ (λ_=>x.out)),(2,.dyn 4 1 iU (λ_=>x.done))])
  (λx=>zA ⟨ins,blocks,outs,ay⟩ x/\yK ⟨ins,blocks,outs,ay⟩ (blocks.length - x.i) (x.out,x.done)=R) (λx=>blocks.length - x.i) ⟨0,[],d0⟩ (by exact ao) (by have dM:=o9;exact bH) ⟨tc,u5⟩ ?_
 rintro ⟨i,out,done⟩ ⟨hJ,hF⟩
 have hJ:zA ⟨ins,blocks,outs,ay⟩ ⟨i,out,done⟩:=hJ
 have hF:yK ⟨ins,blocks,outs,ay⟩ (blocks.length - i) (out,done)=R:=hF
 have hi:i<=blocks.length:=hJ.le
 have fO:done.length=blocks.length:=hJ.dl
 have gd:out.length=kH done:=hJ.ol
 have eW:i<=kH done:=hJ.lo
 have aR:kH done < blocks.length\/blocks.length=0:=hJ.lt
 have h0:=n0 i
 have h1:=cd (i:=i) (by omega)
 cbv
 refine ⟨λh=>?_,λh=>?_⟩
 ·have bp:i < blocks.length:=bE
  have a7:blocks.length - (i+1) < blocks.length - i:=by omega
  refine (least (r:=rk) (done:=done) (by omega)).elim λb0 eb=>?_
  have Yd:=Ya ju o8 hJ eb
  have s8:=ab5 ju o8 hJ bp
  refine (⟨blocks.length - (i+1),by omega⟩:∃k,blocks.length - i=k+1).elim λk hk=>?_
  have my:blocks.length - (i+1)=k:=by omega
  rw [hk] at hF
  unfold yK at hF
  obtain ⟨Q,hQ⟩:∃Q:Nat->List Int × List Bool,Q=λb=>tB ⟨ins,blocks,outs,ay⟩ b (out,done):=⟨_,rfl⟩
  have QT:Q 0=(out,done):=by rw [hQ];rfl
  have hQs:∀b,Q (b+1)=Kr ⟨ins,blocks,outs,ay⟩ (Q b) b:=λb=>by rw [hQ];exact ZS _ _ _
  have Yd:∀b,b<=blocks.length->X_ ⟨ins,blocks,outs,ay⟩ done b0 ⟨b,(Q b).1,(Q b).2⟩:=λb hb=>by rw [hQ];exact Yd b hb
  have s8:(Q blocks.length).1.length=blocks.length\/zA ⟨ins,blocks,outs,ay⟩ ⟨i+1,(Q blocks.length).1,(Q blocks.length).2⟩:=by rw [hQ];exact s8
  have hF:(if (Q blocks.length).1.length=blocks.length then (Q blocks.length).1 else yK ⟨ins,blocks,outs,ay⟩ k (Q blocks.length))=R:=by rw [hQ];exact hF
  clear hQ
  cbv
  refine Sat.ca (Vl 0 0) 3 3 [(.t 3,1),(.t 4,2)] (λx:P8=>[(3,.own 1),(4,.own 2),(5,.i .i64 (λ_=>(i:Int))),(6,.i .i64 (λ_=>(x.i:Int)))]) (λx=>[(1,.dyn 3 1 bJ (λ_=>x.out)),(2,.dyn 4 1 iU (λ_=>x.done))])
   (λx=>x.i<=blocks.length/\Q x.i=(x.out,x.done)) (λx=>blocks.length - x.i) ⟨0,out,done⟩ (by exact ao) (by exact ao) ⟨cJ _,QT⟩ ?_
  rintro ⟨b,dD,d⟩ ⟨hb,hq⟩
  have hb:b<=blocks.length:=hb
  have hq:Q b=(dD,d):=hq
  have hK:=Yd b hb
  rw [hq] at hK
  have qG:uS done d:=hK.up
  have La:dD.length=kH d:=hK.ol
  have K0:d.length=blocks.length:=by rw [qG.1];exact fO
  have gK:=n0 b
  have eT:=cd (i:=b) (by omega)
  have Qo:=T5 d
  have Ye:=hQs b
  rw [hq] at Ye
  cbv
  refine ⟨λh=>?_,λh=>?_⟩
  ·have dW:b < blocks.length:=bE
   have k6:blocks.length - (b+1) < blocks.length - b:=by omega
   have jb:0<=(b:Int)/\(b:Int).toNat < d.length:=⟨gK,by omega⟩
   refine (bz jb.2).elim λv hv=>?_
   have xO:d[b]?=some v:=hv
   refine (bz dW).elim λx hx=>?_
   have e9:Vj ⟨⟨ins,blocks,outs,ay⟩,b,d⟩:=⟨⟨ef,gQ,gK,by show (b:Int) < blocks.length;omega⟩,K0⟩
   have QS:B5 ⟨⟨ins,blocks,outs,ay⟩,b,d⟩=As ⟨ins,blocks,outs,ay⟩ x d:=by
    unfold B5
    simp only [oS]
    rw [hx]
   have zB:Q (b+1)=if v=true then (dD,d) else if As ⟨ins,blocks,outs,ay⟩ x d=true then (dD++[(b:Int)],d.set b true) else (dD,d):=by
    rw [Ye]
    unfold Kr
    simp only
    rw [hx]
    simp only
    rw [xO]
    cases v<;>rfl
   clear Ye hQs
   cbv
   refine ⟨⟨jb⟩,v,⟨hv,rfl⟩,?_⟩
   cbv
   refine ⟨λh=>?_,λh=>?_⟩
   ·have Yf:v=false:=by have h':(!v)=true:=h.out;simpa using h'
    subst Yf
    cbv
    refine ⟨⟨⟨ins,blocks,outs,ay⟩,b,d⟩,⟨.inl ⟨by exact bP,rfl⟩,e9⟩,?_⟩
    cbv
    refine ⟨λh=>?_,λh=>?_⟩
    ·have hr:As ⟨ins,blocks,outs,ay⟩ x d=true:=by rw [<-QS];exact h.out
     refine (⟨_,rfl⟩:∃d2,d.set (b:Int).toNat true=d2).elim λd2 QU=>?_
     have yV:d.set b true=d2:=QU
     have bw:b+1<=blocks.length/\Q (b+1)=(dD++[(b:Int)],d2):=⟨dW,by rw [zB,if_neg (by decide),if_pos hr,yV]⟩
     cbv
     refine ⟨⟨jb⟩,?_⟩
     cbv
     refine ⟨(false,true),⟨hv,rfl,by exact aJ⟩,?_⟩
     cbv
     refine ⟨[(b:Int)],⟨by exact bP,by show (dD.length+1)*8<=_;omega,by show dD.length+1<=_;omega⟩,?_⟩
     cbv
     exact ⟨⟨b+1,dD++[(b:Int)],d2⟩,by exact ao,by have dM:=QU;exact bH,⟨⟨bw,k6⟩⟩⟩
    ·have Yc:As ⟨ins,blocks,outs,ay⟩ x d=false:=by rw [<-QS];exact h.out
     have bw:b+1<=blocks.length/\Q (b+1)=(dD,d):=⟨dW,by rw [zB,if_neg (by decide),Yc];rfl⟩
     cbv
     exact ⟨⟨b+1,dD,d⟩,by exact ao,by exact ao,⟨⟨bw,k6⟩⟩⟩
   ·have hvt:v=true:=by have h':(!v)=false:=h.out;simpa using h'
    subst hvt
    have bw:b+1<=blocks.length/\Q (b+1)=(dD,d):=⟨dW,by rw [zB,if_pos rfl]⟩
    cbv
    exact ⟨⟨b+1,dD,d⟩,by exact ao,by exact ao,⟨⟨bw,k6⟩⟩⟩
  ·have bR:b=blocks.length:=by
    have h':aS b blocks.length=false:=h.out
    have h2:¬(b:Int) < blocks.length:=by simpa [aS] using h'
    omega
   rw [bR] at hq
   rw [hq] at hF s8
   cbv
   refine ⟨λh=>?_,λh=>?_⟩
   ·have hlen:dD.length=blocks.length:=by have h':aV (dD.length:Int) (blocks.length:Int)=true:=h.out;simp only [aV,beq_iff_eq] at h';exact aU
    have e:dD=G5 ⟨ins,blocks,outs,ay⟩:=by
     rw [hR,<-hF]
     exact (if_pos hlen).symm
    cbv
    exact ⟨by exact aJ⟩
   ·have hlen:¬dD.length=blocks.length:=by have h':aV (dD.length:Int) (blocks.length:Int)=false:=h.out;simp only [aV,beq_eq_false_iff_ne,ne_eq] at h';intro e;exact h' (by rw [e])
    have bw:zA ⟨ins,blocks,outs,ay⟩ ⟨i+1,dD,d⟩/\yK ⟨ins,blocks,outs,ay⟩ (blocks.length - (i+1)) (dD,d)=R:=⟨s8.resolve_left hlen,by rw [my,<-hF];exact (if_neg hlen).symm⟩
    cbv
    exact ⟨⟨i+1,dD,d⟩,by exact ao,by exact ao,⟨⟨bw,a7⟩⟩⟩
 ·have bR:i=blocks.length:=by
   have h':aS i blocks.length=false:=h.out
   have h2:¬(i:Int) < blocks.length:=by simpa [aS] using h'
   omega
  have e:out=G5 ⟨ins,blocks,outs,ay⟩:=by rw [hR,<-hF,bR,SD];rfl
  cbv
  exact ⟨by exact aJ⟩
structure AP (p:bq):Prop where
 small:Ee p
 outs:p.outs.length<=1000000
 ay:p.ay.length<=1000000
 k:∀x∈p.blocks,x.ins.length<=1000000
def Cg (p:bq):Prop:=Shape p/\∃r,jy p r
structure ad8 (p:bq) (y:Bool):Prop where
 iff:y=true↔Cg p
@[reducible] noncomputable def apY:fJ where
 α:=bq
 args x:=[.agg (fq x)]
 pre x:=AP x
 β:=Bool
 post x y:=ad8 x y
 res x y:=.b (λ_=>y)
structure FL (p:bq) (i:Nat) (m:Int->Option Unit):Prop where
 le:i<=p.blocks.length
 bf:∀j,(m j).isSome=true↔∃k x,k < i/\p.blocks[k]?=some x/\x.bf=j
 ok:∀(k:Nat) (x:Block),k < i->p.blocks[k]?=some x->yG x/\∀s∈x.ins,kj p s
 Lt:∀(k l:Nat) (x y:Block),k < i->l < i->p.blocks[k]?=some x->p.blocks[l]?=some y->0<=x.bf->x.bf=y.bf->k=l
theorem FL.nil (p:bq):FL p 0 λ_=>none:=⟨cJ _,λj=>⟨λh=>by simp at h,λ⟨k,x,h,_⟩=>by omega⟩,λk x h=>by omega,λk l x y h=>by omega⟩
theorem FL.add {p:bq} {i:Nat} {m:Int->Option Unit} (h:FL p i m) {x:Block} (hx:p.blocks[i]?=some x) (hf:yG x) (hu:∀s∈x.ins,kj p s) (hd:0<=x.bf->(m x.bf).isSome=false) {m':Int->Option Unit} (hm:∀j,(m' j).isSome=true↔j=x.bf\/(m j).isSome=true):FL p (i+1) m':=by
 refine ⟨(bX.1 hx).1,λj=>?_,λk y hk hy=>?_,λk l y z hk hl hy hz h0 he=>?_⟩
 ·rw [hm j,h.bf j]
  constructor
  ·rintro (e|⟨k,y,hk,hy,e⟩)
   ·exact ⟨i,x,by omega,hx,e.symm⟩
   ·exact ⟨k,y,by omega,hy,e⟩
  ·rintro ⟨k,y,hk,hy,e⟩
   by_cases Fz:k=i
   ·subst Fz;rw [hx] at hy;cases hy;exact .inl e.symm
   ·exact .inr ⟨k,y,by omega,hy,e⟩
 ·by_cases Fz:k=i
  ·subst Fz;rw [hx] at hy;cases hy;exact ⟨hf,hu⟩
  ·exact h.ok k y (by omega) hy
 ·have key:∀(k:Nat) (y:Block),k < i->p.blocks[k]?=some y->0<=x.bf->y.bf≠x.bf:=λk y hk hy h0 e=>by
   have:=(h.bf x.bf).2 ⟨k,y,hk,hy,e⟩
   rw [hd h0] at this;cases this
  by_cases Fz:k=i
  ·subst Fz;rw [hx] at hy;cases hy
   by_cases Qy:l=k
   ·exact Qy.symm
   ·exact absurd he.symm (key l z (by omega) hz h0)
  ·by_cases Qy:l=i
   ·subst Qy;rw [hx] at hz;cases hz
    exact absurd he (key k y (by omega) hy (by omega))
   ·exact h.Lt k l y z (by omega) (by omega) hy hz h0 he
@[reducible] noncomputable def T6:Vc.Spec where
 α:=Bool × List bT
 args x:=match x.1 with
  | true=>(OI 84 2 4).args x.2
  | false=>(OI 86 5 10).args x.2
 pre x:=x.2.length<=1000000
 res x:=match x.1 with
  | true=>.b (λ_=>sR 2 4 x.2)
  | false=>.b (λ_=>sR 5 10 x.2)
theorem aa3:cS (PP ()) 83 T6 where
 fn:=N7.fn
 fresh:=λh=>by cases h
 lf:=λa=>by
  obtain ⟨b,l⟩:=a
  cases b
  ·exact T2.lf l
  ·exact N7.lf l
 lr:=λa=>by
  obtain ⟨b,l⟩:=a
  cases b
  ·exact T2.lr l
  ·exact N7.lr l
 run:=λa ha=>by
  obtain ⟨b,l⟩:=a
  cases b
  ·exact T2.run l ha
  ·exact N7.run l ha
noncomputable def cVa (n m:Nat):Ctx:=eB n m [(88,Tryz.f88)] [(82,Uz),(87,T4),(83,T6)] [88] [] [3]
theorem ars (n m:Nat):CB PP (cVa n m):=eD n m ⟨fo Tryz.func88,trivial⟩ ⟨ab1,aa1,aa3,trivial⟩
noncomputable def cVb (n m:Nat):Ctx:=eB n m [(88,Tryz.f88)] [(82,Uz),(87,T4),(83,T6)] [88]
theorem afm (n m:Nat):CB PP (cVb n m):=eD n m ⟨fo Tryz.func88,trivial⟩ ⟨ab1,aa1,aa3,trivial⟩
theorem anx:eI PP 20 apY:=by
 refine iI (ars 0 0) (fo Tryz.func20) (λa=>⟨km a,trivial⟩) (λa y=>trivial) ?_
 rintro ⟨ins,blocks,outs,ay⟩ hx
 have hp:AP ⟨ins,blocks,outs,ay⟩:=hx
 have ss:=hp.small
 have QV:blocks.length<=1000000:=ss.dH
 have gQ:ins.length<=1000000:=ss.ins
 have L_:outs.length<=1000000:=hp.outs
 have Ir:ay.length<=1000000:=hp.ay
 have Dc:∀x∈blocks,x.ins.length<=1000000:=hp.k
 have F:¬Cg ⟨ins,blocks,outs,ay⟩->ad8 ⟨ins,blocks,outs,ay⟩ false:=λh=>⟨⟨λe=>(by cases e),λe=>absurd e h⟩⟩
 refine ⟨?_⟩
 cbv
 refine Sat.freeze 1 rfl rfl ?_
 refine Sat.tZ (afm 0 0) ?_
 cbv
 refine ⟨λh=>?_,λh=>?_⟩
 ·have hb:¬blocks.length<=600:=by have h':aS 600 (blocks.length:Int)=true:=h.out;simp only [aS,decide_eq_true_eq] at h';exact aU
  have bV:=F λh=>hb h.1.dH
  cbv
  exact .mk' false ⟨by exact aJ⟩ bV
 ·have hb:blocks.length<=600:=by have h':aS 600 (blocks.length:Int)=false:=h.out;simp only [aS,decide_eq_false_iff_not] at h';exact aU
  cbv
  refine ⟨λh=>?_,λh=>?_⟩
  ·have hd:¬ay.length=outs.length:=by have h':(!aV (ay.length:Int) (outs.length:Int))=true:=h.out;simp only [aV,pI,beq_eq_false_iff_ne,ne_eq] at h';exact aU
   have bV:=F λh=>hd h.1.o5
   cbv
   exact .mk' false ⟨by exact aJ⟩ bV
  ·have hd:ay.length=outs.length:=by have h':(!aV (ay.length:Int) (outs.length:Int))=false:=h.out;simp only [aV,DS,beq_iff_eq] at h';exact aU
   cbv
   refine ⟨⟨⟨ins,blocks,outs,ay⟩,ay⟩,⟨.inl ⟨by exact bP,rfl⟩,ss,Ir⟩,?_⟩
   cbv
   refine ⟨λh=>?_,λh=>?_⟩
   ·have hu:Ai ⟨ins,blocks,outs,ay⟩ ay=true:=h.out
    have bV:=F λh=>by have:=M4.2 h.1.ay;simp only at this;rw [hu] at this;cases this
    cbv
    exact .mk' false ⟨by exact aJ⟩ bV
   ·have hu:Ai ⟨ins,blocks,outs,ay⟩ ay=false:=h.out
    have oI:∀s∈ay,kj ⟨ins,blocks,outs,ay⟩ s:=M4.1 hu
    cbv
    refine ⟨(true,ins),⟨.inl ⟨by exact bP,rfl⟩,gQ⟩,?_⟩
    cbv
    refine ⟨λh=>?_,λh=>?_⟩
    ·have hw:sR 2 4 ins=true:=h.out
     have bV:=F λh=>by have:=NR.2 h.1.ins;simp only at this;rw [hw] at this;cases this
     cbv
     exact .mk' false ⟨by exact aJ⟩ bV
    ·have hw:sR 2 4 ins=false:=h.out
     have dK:∀w∈ins,l9 w 2 4:=NR.1 hw
     cbv
     refine ⟨(false,outs),⟨.inl ⟨by exact bP,rfl⟩,L_⟩,?_⟩
     cbv
     refine ⟨λh=>?_,λh=>?_⟩
     ·have hw:sR 5 10 outs=true:=h.out
      have bV:=F λh=>by have:=NR.2 h.1.outs;simp only at this;rw [hw] at this;cases this
      cbv
      exact .mk' false ⟨by exact aJ⟩ bV
     ·have hw:sR 5 10 outs=false:=h.out
      have Bj:∀w∈outs,l9 w 5 10:=NR.1 hw
      cbv
      refine Sat.ca (afm 0 0) 3 6 [] (λx:Nat × (Int->Option Unit)=>[(40,.sl 5 oe (λ_=>blocks)),(41,.i .i64 (λ_=>(blocks.length:Int))),(42,.i .i64 λ_=>(x.1:Int))]) (λx=>[(2,.map (.int .i64) (λ_:Unit=>[.bc true]) (λ_=>x.2))])
       (λx=>FL ⟨ins,blocks,outs,ay⟩ x.1 x.2) (λx=>blocks.length - x.1) (0,λ_=>none) (by exact ao) (by exact ao) (.nil _) ?_
      rintro ⟨i,m⟩ hJ
      have hJ:FL ⟨ins,blocks,outs,ay⟩ i m:=hJ
      have hi:i<=blocks.length:=hJ.le
      have h0:=n0 i
      have h1:=cd (i:=i) (by omega)
      cbv
      refine ⟨λh=>?_,λh=>?_⟩
      ·have bp:i < blocks.length:=bE
       have a7:blocks.length - (i+1) < blocks.length - i:=by omega
       refine (bz bp).elim λx hx=>?_
       have gP:=b_ hx
       have lY:=Dc x gP
       cbv
       refine ⟨x,⟨h0,hx⟩,?_⟩
       cbv
       refine ⟨x,⟨by exact bP,lY⟩,?_⟩
       cbv
       refine ⟨λh=>?_,λh=>?_⟩
       ·have hf:xh x=false:=by have h':(!xh x)=true:=h.out;simpa using h'
        have bV:=F λh=>by have:=ZQ.2 (h.1.formed x gP);rw [hf] at this;cases this
        cbv
        exact .mk' false ⟨by exact aJ⟩ bV
       ·have hf:yG x:=ZQ.1 (by have h':(!xh x)=false:=h.out;simpa using h')
        cbv
        refine ⟨⟨⟨ins,blocks,outs,ay⟩,x.ins⟩,⟨.inl ⟨by exact bP,rfl⟩,ss,lY⟩,?_⟩
        cbv
        refine ⟨λh=>?_,λh=>?_⟩
        ·have hu:Ai ⟨ins,blocks,outs,ay⟩ x.ins=true:=h.out
         have bV:=F λh=>by have:=M4.2 (h.1.used x gP);rw [hu] at this;cases this
         cbv
         exact .mk' false ⟨by exact aJ⟩ bV
        ·have hu:∀s∈x.ins,kj ⟨ins,blocks,outs,ay⟩ s:=M4.1 h.out
         have P9:∀m':Int->Option Unit,m'=(λj=>if j=x.bf then some () else m j)->∀j,(m' j).isSome=true↔j=x.bf\/(m j).isSome=true:=λm' iu j=>by
          rw [iu]
          by_cases e:j=x.bf
          ·simp [e]
          ·simp [e]
         refine (⟨_,rfl⟩:∃m',m'=(λj=>if j=x.bf then some () else m j)).elim λm' iu=>?_
         have P9:=P9 m' iu
         cbv
         refine ⟨λh=>?_,λh=>?_⟩
         ·have FB:0<=x.bf:=bE
          cbv
          refine ⟨none,⟨rfl,λ_=>rfl⟩,?_⟩
          cbv
          refine ⟨λh=>?_,λh=>?_⟩
          ·have hs:(m x.bf).isSome=true:=h.out
           have bV:=F λh=>by
            obtain ⟨k,y,hk,hy,e⟩:=(hJ.bf x.bf).1 hs
            have:=h.1.aN k i y x hy hx (by omega) e
            omega
           cbv
           exact .mk' false ⟨by exact aJ⟩ bV
          ·have hs:(m x.bf).isSome=false:=h.out
           have bw:=hJ.add hx hf hu (λ_=>hs) P9
           cbv
           refine ⟨(),⟨by exact aJ⟩,?_⟩
           cbv
           exact ⟨(i+1,m'),by exact ao,by have g_:=iu.symm;exact bH,⟨⟨bw,a7⟩⟩⟩
         ·have FB:¬0<=x.bf:=bE
          have bw:=hJ.add hx hf hu (λh=>absurd h FB) P9
          cbv
          refine ⟨(),⟨by exact aJ⟩,?_⟩
          cbv
          exact ⟨(i+1,m'),by exact ao,by have g_:=iu.symm;exact bH,⟨⟨bw,a7⟩⟩⟩
      ·have bR:i=blocks.length:=by
        have h':aS i blocks.length=false:=h.out
        have h2:¬(i:Int) < blocks.length:=by simpa [aS] using h'
        omega
       have cq:∀x∈blocks,yG x/\∀s∈x.ins,kj ⟨ins,blocks,outs,ay⟩ s:=λx hx=>by
        obtain ⟨k,hk,e⟩:=z8.1 hx
        exact hJ.ok k x (by omega) (by show blocks[k]?=some x;rw [eh hk,e])
       have ef:Shape ⟨ins,blocks,outs,ay⟩:=⟨hb,hd,oI,dK,Bj,λx hx=>(cq x hx).1,λx hx=>(cq x hx).2,λk l x y hx hy=>hJ.Lt k l x y (by rw [bR];exact (bX.1 hx).1) (by rw [bR];exact (bX.1 hy).1) hx hy⟩
       have FM:xm ⟨ins,blocks,outs,ay⟩:=⟨hb,gQ,λx hx s hs=>⟨((cq x hx).2 s hs).lo,((cq x hx).2 s hs).hi⟩,Dc⟩
       cbv
       refine bU.rel anu ⟨ins,blocks,outs,ay⟩ (by exact aJ) ⟨FM⟩ λy hy=>?_
       have hy:N8 ⟨ins,blocks,outs,ay⟩ y:=hy.out
       cbv
       exact .mk' y ⟨by exact aJ⟩ ⟨⟨λh=>⟨ef,hy.up h⟩,λh=>hy.down h.2⟩⟩
end Go.Proofs.Pk
