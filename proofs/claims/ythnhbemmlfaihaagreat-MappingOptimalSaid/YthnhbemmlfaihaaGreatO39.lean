import Derived.Test.YthnhbemmlfaihaaGreatO13
import Derived.Test.YthnhbemmlfaihaaGreatO15
import Derived.Test.YthnhbemmlfaihaaGreatO20
import Derived.Test.YthnhbemmlfaihaaGreatO31
import Derived.Test.YthnhbemmlfaihaaGreatO33
set_option linter.unusedVariables false
set_option linter.unusedSimpArgs false
set_option maxRecDepth 10000
set_option maxHeartbeats 64000000
namespace Go.Proofs.Pk
open Go Go.Vc


def Od {A:Type} (r:Nat->Nat) (F:(Nat->A)->Nat->A):Prop:=∀f g b,(∀c,r c < r b->f c=g c)->F f b=F g b
def Oe {A:Type} (F:(Nat->A)->Nat->A) (d:A):Nat->Nat->A
 | 0,_=>d
 | n+1,b=>F (Oe F d n) b
theorem aaL {A:Type} {r:Nat->Nat} {F:(Nat->A)->Nat->A} (h:Od r F) (d:A):∀(n m b:Nat),r b < n->r b < m->Oe F d n b=Oe F d m b
 | 0,_,_,h0,_=>absurd h0 (qn _)
 | _+1,0,_,_,h0=>absurd h0 (qn _)
 | n+1,m+1,b,h1,h2=>h _ _ b λc hc=>aaL h d n m c (by omega) (by omega)
def UK {A:Type} (F:(Nat->A)->Nat->A) (K:Nat->A):Prop:=∀b,K b=F K b
theorem ajP {A:Type} {r:Nat->Nat} {F:(Nat->A)->Nat->A} (h:Od r F) (d:A):UK F λb=>Oe F d (r b+1) b:=by
 intro b
 show F _ b=_
 exact h _ _ b λc hc=>aaL h d _ _ c hc (by omega)
noncomputable def fixF {A:Type} [Nonempty A] (F:(Nat->A)->Nat->A):Nat->A:=Classical.epsilon (UK F)
theorem ajQ {A:Type} [hn:Nonempty A] {r:Nat->Nat} {F:(Nat->A)->Nat->A} (h:Od r F):UK F (fixF F) :=
 Classical.epsilon_spec ⟨_,ajP h (Classical.choice hn)⟩
def adi (h w:Int):Int:=IntKind.u64.wrap ((BitVec.ofInt 64 h ^^^ BitVec.ofInt 64 w).toNat:Nat)
def adj (h w:Int):Int:=IntKind.u64.wrap (adi h w*15485907386658061715)
def aog (h w:Int):Int:=IntKind.u64.wrap (adi (adj h w) ((adj h w).fdiv (2^(min (32:Int).toNat IntKind.u64.bits)))*11562461410679940143)
theorem aoh:∃f:Int->Int->Int,f=aog:=⟨_,rfl⟩
noncomputable def abQ:Int->Int->Int:=Classical.choose aoh
noncomputable def aoi (h:Int) (l:List Int):Int:=l.foldl (λh n=>abQ h (IntKind.u64.wrap n)) h
noncomputable def qu (l:List Int):Int:=abQ (aoi 512970876019 l) (IntKind.u64.wrap l.length)
noncomputable def H6 (p:eP) (s:Int):Int:=let w:=p.ins.getD s.toNat ⟨0,0,0⟩;qu [2,w.kind,w.i,w.bit]
noncomputable def S8 (p:eP) (K:Nat->Int) (b:Nat):Int:=match p.blocks[b]? with
 | some x=>if 0<=x.dg then qu [3,x.dg] else K b
 | none=>0
noncomputable def abR (p:eP) (b:Nat):Int:=match p.blocks[b]? with
 | some x=>if 0<=x.dg then qu [1,x.dg] else 0
 | none=>0
instance (n:Nat) (s:Int):Decidable (ur n s):=inferInstanceAs (Decidable ((s - n) % 2=1))
noncomputable def Nl (p:eP) (K:Nat->Int) (s:Int):Int :=
 if s < p.ins.length then H6 p s else if ur p.ins.length s then abR p (oC p.ins.length s) else S8 p K (oC p.ins.length s)
noncomputable def S9 (p:eP) (K:Nat->Int) (x:Block):Int:=qu (4 :: x.table :: x.eI :: x.ins.map λs=>IntKind.i64.wrap (Nl p K s))
noncomputable def IQ (p:eP) (K:Nat->Int) (b:Nat):Int:=match p.blocks[b]? with
 | some x=>if 0<=x.dg then 0 else S9 p K x
 | none=>0
noncomputable def AN (p:eP):Nat->Int:=fixF (IQ p)
noncomputable def adk (p:eP) (K:Nat->Int) (b:Nat):Int:=match p.blocks[b]? with
 | some x=>if 0<=x.dg then qu [1,x.dg] else K b
 | none=>0
noncomputable def RW (p:eP):List Int:=(List.range p.blocks.length).map (adk p (AN p))
theorem map_eq {α β:Type} {f g:α->β} {l:List α} (h:∀x∈l,f x=g x):l.map f=l.map g:=s6 h
theorem ajR {p:eP} {r:Nat->Nat} (hr:LW p r):Od r (IQ p):=by
 intro f g b h
 unfold IQ
 cases hb:p.blocks[b]? with
 | none=>rfl
 | some x =>
  simp only
  split
  ·rfl
  ·unfold S9
   congr 3
   congr 1
   refine map_eq λs hs=>?_
   congr 1
   unfold Nl
   split
   ·rfl
   ·split
    ·rfl
    ·rename_i h1 h2
     have:=hr b x hb s hs (by omega) h2
     unfold S8
     split
     ·split
      ·rfl
      ·exact h _ this
     ·rfl
def adl (v k:Int):Bool:=Vc.fk (Vc.gg .and .i64 (v.fdiv (2^(min k.toNat IntKind.i64.bits))) 1) 1
def vZ (l:List Bool):Nat->Int
 | 0=>0
 | i+1=>if l.getD i false then Vc.gg .or .i64 (vZ l i) (IntKind.i64.wrap (1*2^(min ((i:Int)).toNat IntKind.i64.bits))) else vZ l i
def FB (l:List Bool):Int:=vZ l l.length
def E8 (table:Int) (l:List Bool):Bool:=if 5 < l.length then false else adl table (FB l)
def H7 (s:Z3) (eI:Int) (l:List Bool):Bool:=match s.AH[(eI / 8).toNat]? with
 | some m=>match m[(FB l).toNat]? with
  | some v=>adl v (eI % 8)
  | none=>false
 | none=>false
structure EP (n:Nat) (l:List Int):Prop where
 len:l.length=n
 rng:∀x∈l,0<=x/\x < n
 nd:l.Nodup
def zg (l:List Int) (i:Nat):Nat:=(l.getD i 0).toNat
theorem EP.get {n:Nat} {l:List Int} (h:EP n l) {i:Nat} (hi:i < n):l[i]?=some (zg l i:Int)/\zg l i < n:=by
 have hl:i < l.length:=by rw [h.len];exact hi
 have:=h.rng _ (Py hl)
 unfold zg
 rw [List.getD_eq_getElem?_getD,ea hl,tX]
 refine ⟨?_,by omega⟩
 congr 1;omega
theorem EP.inj {n:Nat} {l:List Int} (h:EP n l) {i j:Nat} (hi:i < n) (hj:j < n) (e:zg l i=zg l j):i=j:=by
 have h1:=(h.get hi).1
 have h2:=(h.get hj).1
 rw [<-e] at h2
 have:=h.nd
 rw [WN,qj] at this
 have bQ:i < l.length:=by rw [h.len];exact hi
 have dG:j < l.length:=by rw [h.len];exact hj
 rw [ea bQ] at h1
 rw [ea dG] at h2
 cases G5 i j with
 | inl aO=>exact absurd ((wO h1).trans (wO h2).symm) (this i j bQ dG aO)
 | inr cz=>cases cz with
  | inl he=>exact he
  | inr aO=>exact absurd ((wO h2).trans (wO h1).symm) (this j i dG bQ aO)
theorem aix {α β:Type} {f:α->β} {l:List α} (h:∀x∈l,∀y∈l,f x=f y->x=y) (hn:l.Nodup):(l.map f).Nodup:=by
 induction l with
 | nil=>simp
 | cons x r ih =>
  obtain ⟨h1,h2⟩:=x5.1 hn
  rw [iG,x5]
  refine ⟨λhm=>?_,ih (λa ha b hb=>h a (by simp [ha]) b (by simp [hb])) h2⟩
  obtain ⟨y,hy,e⟩:=iM.1 hm
  have:=h y (by simp [hy]) x (by simp) e
  subst this
  exact h1 hy
theorem EP.perm {n:Nat} {l:List Int} (h:EP n l):((List.range n).map (zg l)).Perm (List.range n):=by
 have fM:((List.range n).map (zg l)).Nodup:=aix (λi hi j hj e=>h.inj (mQ.1 hi) (mQ.1 hj) e) List.nodup_range
 rw [KI fM List.nodup_range]
 intro b
 constructor
 ·intro hb
  obtain ⟨i,hi,rfl⟩:=iM.1 hb
  exact mQ.2 (h.get (mQ.1 hi)).2
 ·intro hb
  by_cases hm:b∈(List.range n).map (zg l)
  ·exact hm
  ·have h1:(b :: (List.range n).map (zg l)).Nodup:=x5.2 ⟨hm,fM⟩
   have h2:=BP (l₂:=List.range n) h1 (λx hx=>by
    rcases cJ.1 hx with rfl|hx
    ·exact hb
    ·obtain ⟨i,hi,rfl⟩:=iM.1 hx
     exact mQ.2 (h.get (mQ.1 hi)).2)
   simp at h2
   omega
def adm:Block:=⟨[],0,0,0,0⟩
def aq3 (ks:List Int) (i:Nat) (x:Block):Block:={ x with key:=ks.getD i 0 }
def akY (p:eP) (ks:List Int):eP:={ p with blocks:=p.blocks.mapIdx (aq3 ks) }
noncomputable def aoj (n:Net) (m:dK):eP:=akY (acv n m) (RW (acv n m))
def amB (p:eP):List Int:=p.blocks.map (·.key)
def atK (p:eP) (k:Int):Nat:=(amB p).idxOf k
def AG (p q:eP) (s:Int):Int :=
 if s < q.ins.length then s else p.ins.length+2*(atK p (q.blocks.getD (oC q.ins.length s) adm).key:Int)+(s - q.ins.length) % 2
def abS (p:eP) (c d:Nat):Prop:=∃x,p.blocks[c]?=some x/\∃s∈x.ins,(p.ins.length:Int)<=s/\¬ur p.ins.length s/\oC p.ins.length s=d
def St (st:List Int) (v:Int) (c:Nat):Prop:=st[c]?=some v
theorem St.vF {st:List Int} {v u:Int} {b c:Nat} (h:c≠b):St (st.set b u) v c↔St st v c:=by
 unfold St;rw [gL];split
 ·omega
 ·exact xZ
theorem St.ER {st:List Int} {v u:Int} {b:Nat} (h:b < st.length):St (st.set b u) v b↔u=v:=by
 unfold St;rw [gL];simp [h]
theorem St.lt {st:List Int} {v:Int} {c:Nat} (h:St st v c):c < st.length:=(a7.1 h).1
theorem St.uniq {st:List Int} {v u:Int} {c:Nat} (h:St st v c) (k:St st u c):v=u:=by unfold St at *;rw [h] at k;exact wO k
def wW (st:List Int):Nat:=st.countP (· == 0)
theorem aiy {st:List Int} {b:Nat} {v:Int} (h:St st 0 b) (hv:v≠0):wW (st.set b v)+1=wW st:=by
 unfold wW St at *
 induction st generalizing b with
 | nil=>simp at h
 | cons x l ih =>
  cases b with
  | zero=>simp at h;subst h;simp [KT,hv]
  | succ b =>
   have:=ih (b:=b) (by simpa using h)
   simp only [KP,KT]
   omega
theorem ahG {st:List Int} {b:Nat} {u v:Int} (h:St st u b) (hu:u≠0) (hv:v≠0):wW (st.set b v)=wW st:=by
 unfold wW St at *
 induction st generalizing b with
 | nil=>simp at h
 | cons x l ih =>
  cases b with
  | zero=>simp at h;subst h;simp [KT,hu,hv]
  | succ b =>
   have:=ih (b:=b) (by simpa using h)
   simp only [KP,KT]
   omega
def rp (p:eP) (st:List Int):Prop:=∃r:Nat->Nat,∀c d,St st 2 c->abS p c d->St st 2 d/\r d < r c
theorem rp.nil {p:eP} {st:List Int} (h:∀c,¬St st 2 c):rp p st:=⟨λ_=>0,λc d hc=>absurd hc (h c)⟩
theorem bound {l:List Nat} (r:Nat->Nat):∃m,∀d∈l,r d < m:=by
 induction l with
 | nil=>exact ⟨0,by simp⟩
 | cons x l ih =>
  obtain ⟨m,hm⟩:=ih
  refine ⟨m+r x+1,λd hd=>?_⟩
  rcases cJ.1 hd with rfl|hd
  ·omega
  ·have:=hm d hd;omega
theorem rp.done {p:eP} {st:List Int} (h:rp p st) {b:Nat} (hb:St st 1 b) (dw:∀d,abS p b d->St st 2 d):rp p (st.set b 2):=by
 obtain ⟨r,hr⟩:=h
 have aO:=hb.lt
 obtain ⟨m,hm⟩:=bound (l:=List.range st.length) r
 refine ⟨λc=>if c=b then m else r c,λc d hc ht=>?_⟩
 by_cases me:c=b
 ·subst me
  have hd:=dw d ht
  have Dx:d≠c:=by rintro rfl;have:=hd.uniq hb;omega
  exact ⟨(St.vF Dx).2 hd,by simp only [if_neg Dx,if_true];exact hm d (mQ.2 hd.lt)⟩
 ·have h2:=hr c d ((St.vF me).1 hc) ht
  have Dx:d≠b:=by rintro rfl;have:=h2.1.uniq hb;omega
  exact ⟨(St.vF Dx).2 h2.1,by simp only [if_neg Dx,if_neg me];exact h2.2⟩
theorem rp.mark {p:eP} {st:List Int} (h:rp p st) {b:Nat} (hb:St st 0 b):rp p (st.set b 1):=by
 obtain ⟨r,hr⟩:=h
 have aO:=hb.lt
 refine ⟨r,λc d hc ht=>?_⟩
 have me:c≠b:=by rintro rfl;have:=(St.ER aO).1 hc;omega
 have h2:=hr c d ((St.vF me).1 hc) ht
 have Dx:d≠b:=by rintro rfl;have:=h2.1.uniq hb;omega
 exact ⟨(St.vF Dx).2 h2.1,h2.2⟩
structure JO (p:eP) (st:List Int):Prop where
 len:st.length=p.blocks.length
 val:∀c v,St st v c->v=0\/v=1\/v=2
structure CD (p:eP) (st:List Int) (b:Nat) (res:Bool) (dH:List Int):Prop where
 w:JO p dH
 z:wW dH<=wW st
 one:res=true->∀c,St dH 1 c↔St st 1 c
 two:res=true->(∀c,St st 2 c->St dH 2 c)/\St dH 2 b
 Bl:res=true->rp p st->rp p dH
 rk:∀r,LW p r->(∀c,St st 1 c->r b < r c)->res=true
theorem CD.Ih {p:eP} {st:List Int} {b:Nat} (h:JO p st) (hb:St st 2 b):CD p st b true st :=
 ⟨h,fb _,λ_ _=>xZ,λ_=>⟨λ_ h=>h,hb⟩,λ_ h=>h,λ_ _ _=>rfl⟩
structure va (p:eP) (st:List Int) (b:Nat) (x:Block) (j:Nat) (dH:List Int):Prop where
 le:j<=x.ins.length
 w:JO p dH
 z:wW dH+1<=wW st
 one:∀c,St dH 1 c↔St st 1 c\/c=b
 two:∀c,St st 2 c->St dH 2 c
 Bl:rp p st->rp p dH
 ins:∀i s,i < j->x.ins[i]?=some s->(p.ins.length:Int)<=s->¬ur p.ins.length s->St dH 2 (oC p.ins.length s)
theorem va.start {p:eP} {st:List Int} {b:Nat} (h:JO p st) (hb:St st 0 b) (x:Block):va p st b x 0 (st.set b 1):=by
 have aO:=hb.lt
 refine ⟨cg _,⟨by simp [h.len],λc v hc=>?_⟩,by have:=aiy hb (v:=1) (by decide);omega,λc=>?_,λc hc=>?_,λha=>ha.mark hb,λi s hi=>by omega⟩
 ·by_cases me:c=b
  ·subst me;have:=(St.ER aO).1 hc;omega
  ·exact h.val c v ((St.vF me).1 hc)
 ·by_cases me:c=b
  ·subst me;exact ⟨λ_=>.inr rfl,λ_=>(St.ER aO).2 rfl⟩
  ·rw [St.vF me];exact ⟨.inl,λh=>h.resolve_right me⟩
 ·have me:c≠b:=by rintro rfl;have:=hc.uniq hb;omega
  exact (St.vF me).2 hc
theorem va.skip {p:eP} {st:List Int} {b:Nat} {x:Block} {j:Nat} {dH:List Int} (h:va p st b x j dH) {s:Int} (hs:x.ins[j]?=some s) (hn:¬((p.ins.length:Int)<=s/\¬ur p.ins.length s)):va p st b x (j+1) dH :=
 ⟨(
  a7.1 hs).1,h.w,h.z,h.one,h.two,h.Bl,λi t hi ht h1 h2=>by
  by_cases ph:i=j
  ·subst ph;rw [hs] at ht;cases ht;exact absurd ⟨h1,h2⟩ hn
  ·exact h.ins i t (by omega) ht h1 h2⟩
theorem va.go {p:eP} {st:List Int} {b:Nat} {x:Block} {j:Nat} {dH wy:List Int} (h:va p st b x j dH) {s:Int} (hs:x.ins[j]?=some s) (hb:St st 0 b) (k:CD p dH (oC p.ins.length s) true wy):va p st b x (j+1) wy:=by
 refine ⟨(a7.1 hs).1,k.w,by have:=k.z;have:=h.z;omega,λc=>by rw [k.one rfl c];exact h.one c,λc hc=>(k.two rfl).1 c (h.two c hc),λha=>k.Bl rfl (h.Bl ha),λi t hi ht h1 h2=>?_⟩
 by_cases ph:i=j
 ·subst ph;rw [hs] at ht;cases ht;exact (k.two rfl).2
 ·exact (k.two rfl).1 _ (h.ins i t (by omega) ht h1 h2)
theorem va.bad {p:eP} {st:List Int} {b:Nat} {x:Block} {j:Nat} {dH wy:List Int} (h:va p st b x j dH) (hx:p.blocks[b]?=some x) {s:Int} (hs:x.ins[j]?=some s) (h1:(p.ins.length:Int)<=s) (h2:¬ur p.ins.length s) (k:CD p dH (oC p.ins.length s) false wy):CD p st b false wy :=
 ⟨k.w,by have:=k.z;have:=h.z;omega,by simp,by simp,by simp,λr hr hc=>k.rk r hr λc yY=>by
  have aO:=hr b x hx s (cf hs) h1 h2
  rcases (h.one c).1 yY with h3|rfl
  ·have:=hc c h3;omega
  ·exact aO⟩
theorem va.out {p:eP} {st:List Int} {b:Nat} {x:Block} {j:Nat} {dH:List Int} (h:va p st b x j dH) (hx:p.blocks[b]?=some x) (hb:St st 0 b) (hj:j=x.ins.length):CD p st b true (dH.set b 2):=by
 have h1:St dH 1 b:=(h.one b).2 (.inr rfl)
 have aO:=h1.lt
 refine ⟨⟨by simp [h.w.len],λc v hc=>?_⟩,by have:=ahG h1 (v:=2) (by decide) (by decide);have:=h.z;omega,λ_ c=>?_,λ_=>⟨λc hc=>?_,(St.ER aO).2 rfl⟩,λ_ ha=>(h.Bl ha).done h1 ?_,λ_ _ _=>rfl⟩
 ·by_cases me:c=b
  ·subst me;have:=(St.ER aO).1 hc;omega
  ·exact h.w.val c v ((St.vF me).1 hc)
 ·by_cases me:c=b
  ·subst me
   exact ⟨λh=>by have:=(St.ER aO).1 h;omega,λh=>by have:=h.uniq hb;omega⟩
  ·rw [St.vF me,h.one c];exact ⟨λh=>h.resolve_right me,.inl⟩
 ·have me:c≠b:=by rintro rfl;have:=hc.uniq hb;omega
  exact (St.vF me).2 (h.two c hc)
 ·rintro d ⟨y,hy,s,hs,h3,h4,rfl⟩
  rw [hx] at hy;cases hy
  obtain ⟨i,hi,e⟩:=GZ.1 hs
  exact h.ins i s (by omega) (by rw [ea hi,e]) h3 h4
structure I3 where
 n:Int
 lo:Int
 hi:Int
theorem rp.all {p:eP} {st:List Int} (h:rp p st) (ha:∀b,b < p.blocks.length->St st 2 b):∃r,LW p r:=by
 obtain ⟨r,hr⟩:=h
 refine ⟨r,λb x hx s hs h1 h2=>?_⟩
 exact (hr b _ (ha b (a7.1 hx).1) ⟨x,hx,s,hs,h1,h2,rfl⟩).2
structure JP (p:eP) (b:Nat) (st:List Int):Prop where
 le:b<=p.blocks.length
 w:JO p st
 one:∀c,¬St st 1 c
 two:∀c,c < b->St st 2 c
 Bl:rp p st
theorem JP.start (p:eP):JP p 0 (List.replicate p.blocks.length 0):=by
 have h:∀c v,St (List.replicate p.blocks.length 0) v c->v=0:=λc v hc=>by
  have hm:=cf (show (List.replicate p.blocks.length (0:Int))[c]?=some v from hc)
  exact (Ea.1 hm).2
 exact ⟨cg _,⟨vr,λc v hc=>.inl (h c v hc)⟩,λc hc=>by have:=h c 1 hc;omega,λc hc=>by omega,.nil λc hc=>by have:=h c 2 hc;omega⟩
theorem JP.next {p:eP} {b:Nat} {st dH:List Int} (h:JP p b st) (hb:b < p.blocks.length) (k:CD p st b true dH):JP p (b+1) dH :=
 ⟨hb,k.w,λc hc=>h.one c ((k.one rfl c).1 hc),λc hc=>by
  by_cases e:c=b
  ·subst e;exact (k.two rfl).2
  ·exact (k.two rfl).1 c (h.two c (by omega)),k.Bl rfl h.Bl⟩
noncomputable def dgK (sig:List Int) (x:Block):Int:=qu (4 :: x.table :: x.eI :: x.ins.map λs=>IntKind.i64.wrap (sig.getD s.toNat 0))
def IS (d0 d:List Bool):Prop:=d.length=d0.length/\∀i:Nat,d0[i]?=some true->d[i]?=some true
theorem IS.refl (d:List Bool):IS d d:=⟨rfl,λ_ h=>h⟩
theorem IS.set {d0 d:List Bool} (h:IS d0 d) (b:Nat):IS d0 (d.set b true):=by
 refine ⟨by simp [h.1],λi hi=>?_⟩
 have:=h.2 i hi
 rw [gL]
 split
 ·rename_i e;subst e;simp [(a7.1 this).1]
 ·exact this
structure JQ (p:eP) (i:Nat) (m:Int->Option Unit):Prop where
 le:i<=p.blocks.length
 dg:∀j,(m j).isSome=true↔∃k x,k < i/\p.blocks[k]?=some x/\x.dg=j
 ok:∀(k:Nat) (x:Block),k < i->p.blocks[k]?=some x->Q5 x/\∀s∈x.ins,EL p s
 Ny:∀(k l:Nat) (x y:Block),k < i->l < i->p.blocks[k]?=some x->p.blocks[l]?=some y->0<=x.dg->x.dg=y.dg->k=l
theorem JQ.nil (p:eP):JQ p 0 λ_=>none:=⟨cg _,λj=>⟨λh=>by simp at h,λ⟨k,x,h,_⟩=>by omega⟩,λk x h=>by omega,λk l x y h=>by omega⟩
theorem JQ.add {p:eP} {i:Nat} {m:Int->Option Unit} (h:JQ p i m) {x:Block} (hx:p.blocks[i]?=some x) (hf:Q5 x) (hu:∀s∈x.ins,EL p s) (hd:0<=x.dg->(m x.dg).isSome=false) {m':Int->Option Unit} (hm:∀j,(m' j).isSome=true↔j=x.dg\/(m j).isSome=true):JQ p (i+1) m':=by
 refine ⟨(a7.1 hx).1,λj=>?_,λk y hk hy=>?_,λk l y z hk hl hy hz h0 he=>?_⟩
 ·rw [hm j,h.dg j]
  constructor
  ·rintro (e|⟨k,y,hk,hy,e⟩)
   ·exact ⟨i,x,by omega,hx,e.symm⟩
   ·exact ⟨k,y,by omega,hy,e⟩
  ·rintro ⟨k,y,hk,hy,e⟩
   by_cases Dm:k=i
   ·subst Dm;rw [hx] at hy;cases hy;exact .inl e.symm
   ·exact .inr ⟨k,y,by omega,hy,e⟩
 ·by_cases Dm:k=i
  ·subst Dm;rw [hx] at hy;cases hy;exact ⟨hf,hu⟩
  ·exact h.ok k y (by omega) hy
 ·have key:∀(k:Nat) (y:Block),k < i->p.blocks[k]?=some y->0<=x.dg->y.dg≠x.dg:=λk y hk hy h0 e=>by
   have:=(h.dg x.dg).2 ⟨k,y,hk,hy,e⟩
   rw [hd h0] at this;cases this
  by_cases Dm:k=i
  ·subst Dm;rw [hx] at hy;cases hy
   by_cases Ge:l=k
   ·exact Ge.symm
   ·exact absurd he.symm (key l z (by omega) hz h0)
  ·by_cases Ge:l=i
   ·subst Ge;rw [hx] at hz;cases hz
    exact absurd he (key k y (by omega) hy (by omega))
   ·exact h.Ny k l y z (by omega) (by omega) hy hz h0 he
structure SS where
 a:List Source
 b:List Source

def atR (l:List Block):Nat->Int->Option Int
 | 0=>λ_=>none
 | i+1=>λj=>if j=(l.getD i adm).key then some (i:Int) else atR l i j
theorem aq7 {i:Nat} (h:i < 16):IntKind.i64.wrap (1*2^(min ((i:Int)).toNat IntKind.i64.bits))=((2^i:Nat):Int):=by
 have:i=0\/i=1\/i=2\/i=3\/i=4\/i=5\/i=6\/i=7\/i=8\/i=9\/i=10\/i=11\/i=12\/i=13\/i=14\/i=15:=by omega
 rcases this with e|e|e|e|e|e|e|e|e|e|e|e|e|e|e|e<;>subst e<;>rfl
theorem aol {i:Nat} (h:i < 16):2^i < 65536:=by
 have:2^i<=2^15:=KM (by decide) (by omega)
 omega
theorem Qu (l:List Bool):∀i,i<=15->∃n:Nat,vZ l i=(n:Int)/\n < 2^i
 | 0,_=>⟨0,rfl,by decide⟩
 | i+1,h=>by
  obtain ⟨n,h1,h2⟩:=Qu l i (by omega)
  have hp:=aol (i:=i) (by omega)
  unfold vZ
  split
  ·refine ⟨n ||| 2^i,?_,Pv (BN h2 (BS (by decide) (by omega))) (BS (by decide) (by omega))⟩
   rw [h1,aq7 (by omega),ac3 (by omega) hp]
  ·exact ⟨n,h1,BN h2 (BS (by decide) (by omega))⟩
theorem YS {l:List Bool} {i:Nat} (h:l[i]?=some true):gg .or .i64 (vZ l i) (IntKind.i64.wrap (1*2^(min ((i:Int)).toNat IntKind.i64.bits)))=vZ l (i+1):=by
 show _=if l.getD i false then _ else _
 rw [List.getD_eq_getElem?_getD,h];rfl
theorem ZM {l:List Bool} {i:Nat} (h:l[i]?=some false):vZ l i=vZ l (i+1):=by
 show _=if l.getD i false then _ else _
 rw [List.getD_eq_getElem?_getD,h];rfl
structure aq8 where
 t:Int
 l:List Bool
@[reducible] noncomputable def MD:Vc.Spec where
 α:=aq8
 args x:=[.i .i64 (λ_=>x.t),.sl 1 lX (λ_=>x.l)]
 pre x:=x.l.length<=1000000
 res x:=.b (λ_=>E8 x.t x.l)
noncomputable def cLk (n m:Nat):Ctx:=fX n m [] []
theorem abT (n m:Nat):CB PP (cLk n m):=ga n m trivial trivial
theorem ZN:dt (PP ()) 120 MD:=by
 refine e6 (abT 0 0) (fo Tryz.func120) (λa=>⟨trivial,(λx=>(Lg x).1),trivial⟩) (λa=>trivial) ?_
 rintro ⟨t,l⟩ hx
 have hl6:l.length<=1000000:=hx
 obtain ⟨R,hR⟩:∃R,E8 t l=R:=⟨_,rfl⟩
 have Of:MD.res ⟨t,l⟩=.b (λ_=>R):=by rw [<-hR]
 rw [Of]
 unfold E8 at hR
 obtain ⟨U,hU⟩:∃U:Nat->Int,∀i,U i=vZ l i:=⟨_,λ_=>rfl⟩
 have UL:0=U 0:=by rw [hU];rfl
 refine ⟨?_⟩
 cbv
 refine ⟨λh=>?_,λh=>?_⟩
 ·have h5:5 < l.length:=by have h':dv 5 (l.length:Int)=true:=h.out;simp only [dv,decide_eq_true_eq] at h';omega
  rw [if_pos h5] at hR
  cbv
  exact ⟨by exact bW⟩
 have h5:¬5 < l.length:=by have h':dv 5 (l.length:Int)=false:=h.out;simp only [dv,decide_eq_false_iff_not] at h';omega
 rw [if_neg h5] at hR
 clear h
 cbv
 refine Sat.cU (abT 0 0) 0 5 [] (λi:Nat=>[(5,.i .i64 (λ_=>U i)),(11,.sl 1 lX (λ_=>l)),(12,.i .i64 (λ_=>(l.length:Int))),(13,.i .i64 (λ_=>(i:Int)))]) (λi=>[]) (λi=>i<=l.length) (λi=>l.length - i) 0 (by have iC:=UL;exact a8) (by exact aM) (cg _) ?_
 intro i hi
 have hi:i<=l.length:=hi
 have h0:=n0 i
 have h1:=cX (i:=i) (by omega)
 cbv
 refine ⟨λh=>?_,λh=>?_⟩
 ·have bQ:i < l.length:=aL
  have bX:l.length - (i+1) < l.length - i:=by omega
  refine (bK bQ).elim λb hb=>?_
  cbv
  refine ⟨b,⟨h0,hb⟩,?_⟩
  cbv
  refine ⟨λh=>?_,λh=>?_⟩
  ·have lI:b=true:=h.out
   have cC:gg .or .i64 (U i) (IntKind.i64.wrap (1*2^(min ((i:Int)).toNat IntKind.i64.bits)))=U (i+1):=by rw [hU,hU];exact YS (by rw [hb,lI])
   cbv
   refine ⟨⟨h0⟩,?_⟩
   cbv
   exact ⟨i+1,by have bD:=cC;have jE:=h1;exact a8,by exact aM,⟨⟨bQ,bX⟩⟩⟩
  ·have lI:b=false:=h.out
   have cC:U i=U (i+1):=by rw [hU,hU];exact ZM (by rw [hb,lI])
   cbv
   exact ⟨i+1,by have bD:=cC;have jE:=h1;exact a8,by exact aM,⟨⟨bQ,bX⟩⟩⟩
 have cz:i=l.length:=by
  have h':dv i l.length=false:=h.out
  have h2:¬(i:Int) < l.length:=by simpa [dv] using h'
  omega
 have hU1:0<=U i:=by
  obtain ⟨n,hn,_⟩:=Qu l i (by omega)
  rw [hU,hn];exact KQ _
 have e:fk (gg .and .i64 (t.fdiv (2^(min (U i).toNat IntKind.i64.bits))) 1) 1=R:=by rw [<-hR,hU,cz];rfl
 clear h
 cbv
 refine ⟨⟨hU1⟩,?_⟩
 cbv
 exact ⟨by have po:=e;exact y6⟩
structure FC (p:eP) (st sig out:List Int):Prop where
 sl:sig.length=p.ins.length+2*p.blocks.length
 ol:out.length=p.blocks.length
 FD:∀s:Nat,s < p.ins.length->sig[s]?=some (H6 p s)
 dg:∀(b:Nat) (x:Block),p.blocks[b]?=some x->0<=x.dg->sig[p.ins.length+2*b]?=some (qu [3,x.dg])/\sig[p.ins.length+2*b+1]?=some (qu [1,x.dg])/\out[b]?=some (qu [1,x.dg])
 done:∀(b:Nat) (x:Block),p.blocks[b]?=some x->x.dg < 0->St st 2 b->sig[p.ins.length+2*b]?=some (AN p b)/\out[b]?=some (AN p b)
theorem FC.at {p:eP} {st sig out:List Int} (h:FC p st sig out) {s:Int} (hu:EL p s) (hd:(p.ins.length:Int)<=s->¬ur p.ins.length s->St st 2 (oC p.ins.length s)):sig.getD s.toNat 0=Nl p (AN p) s:=by
 have h0:=hu.lo
 have h1:=hu.hi
 unfold eP.sigs at h1
 unfold Nl
 rw [List.getD_eq_getElem?_getD]
 split
 ·rename_i aO
  rw [h.FD s.toNat (by omega),Int.toNat_of_nonneg h0];rfl
 ·rename_i cz
  split
  ·rename_i hf
   obtain ⟨x,hx,hr⟩:=hu.flip (by omega) hf
   have e:s.toNat=p.ins.length+2*oC p.ins.length s+1:=by unfold ur at hf;unfold oC;omega
   rw [e,(h.dg _ x hx hr).2.1]
   unfold abR
   rw [hx];simp [hr]
  ·rename_i hf
   have iP:oC p.ins.length s < p.blocks.length:=by unfold oC;omega
   have e:s.toNat=p.ins.length+2*oC p.ins.length s:=by unfold ur at hf;unfold oC;omega
   have hx:p.blocks[oC p.ins.length s]?=some (p.blocks[oC p.ins.length s]):=ea iP
   unfold S8
   rw [hx,e]
   simp only
   split
   ·rename_i hr;rw [(h.dg _ _ hx hr).1];rfl
   ·rename_i hr;rw [(h.done _ _ hx (by omega) (hd (by omega) hf)).1];rfl
theorem FC.key {p:eP} {st sig out:List Int} (h:FC p st sig out) {r:Nat->Nat} (hr:LW p r) {b:Nat} {x:Block} (hx:p.blocks[b]?=some x) (hg:x.dg < 0) (hu:∀s∈x.ins,EL p s) (hd:∀s∈x.ins,(p.ins.length:Int)<=s->¬ur p.ins.length s->St st 2 (oC p.ins.length s)):dgK sig x=AN p b:=by
 have hs:=ajQ (ajR hr) b
 show _=AN p b
 unfold AN
 rw [hs]
 show _=IQ p (AN p) b
 unfold IQ
 rw [hx]
 simp only
 rw [if_neg (by omega)]
 unfold S9 dgK
 congr 4
 exact s6 λs hs=>by rw [h.at (hu s hs) (hd s hs)]
def IT (out:List Bool) (s:Int):Bool:=out.getD s.toNat false
def AO (s:Z3) (out:List Bool) (x:Cell):Bool:=if x.eI < 0 then E8 x.table (x.ins.map (IT out)) else H7 s x.eI (x.ins.map (IT out))
def lZ (ms:List (List Int)) (inn:List Bool) (C:List Cell):List Bool:=C.foldl (λvs x=>vs++[AO ⟨[],ms⟩ vs x]) ([false,true]++inn)
theorem XM {ms:List (List Int)} {inn:List Bool} {C:List Cell} {i:Nat} {x:Cell} (hx:C[i]?=some x):lZ ms inn (C.take i)++[AO ⟨[],ms⟩ (lZ ms inn (C.take i)) x]=lZ ms inn (C.take (i+1)):=by
 unfold lZ
 rw [kf,hx,pF,List.foldl_append,nN,G9]
theorem YT {ms:List (List Int)} {inn:List Bool} {C:List Cell}:∀{i:Nat},i<=C.length->(lZ ms inn (C.take i)).length=2+inn.length+i
 | 0,_=>by unfold lZ;simp;omega
 | i+1,h=>by
  obtain ⟨x,hx⟩:=bK (l:=C) (i:=i) (by omega)
  rw [<-XM hx,List.length_append,YT (by omega)];simp;omega
structure aq9 (m:dK) (inn:List Bool) (ms:List (List Int)) (V:Nat->List Bool):Prop where
 z:[false,true]++inn=V 0
 grow:∀(i:Nat) (x:Cell),m.cells[i]?=some x->V i++[AO ⟨[],ms⟩ (V i) x]=V (i+1)/\(V i).length<=600/\x.ins.length<=4/\x.eI<=63/\∀s∈x.ins,0<=s/\s.toNat < (V i).length
 fin:∀i,i<=m.cells.length->m.cells.length<=i->V i=lZ ms inn m.cells
theorem ara {m:dK} (h:yJ m) {inn:List Bool} (hn:m.n=inn.length) (ms:List (List Int)):∃V,aq9 m inn ms V:=by
 have h6:=h.n6
 refine ⟨λi=>lZ ms inn (m.cells.take i),rfl,λi x hx=>?_,λi hi hg=>?_⟩
 ·have hi:=(a7.1 hx).1
  have hl:=YT (ms:=ms) (inn:=inn) (C:=m.cells) (i:=i) (by omega)
  obtain ⟨c1,c2⟩:=h.cell i x hx
  have hc:x.ins.length<=4/\x.eI<=63:=by
   simp only [oq,r6,r7,cG,decide_eq_true_eq] at c1
   omega
  refine ⟨XM hx,by omega,hc.1,hc.2,λs hs=>?_⟩
  have:=c2 s hs
  omega
 ·show lZ ms inn (m.cells.take i)=_
  rw [iL hg]
structure arb where
 m:dK
 inn:List Bool
 ms:List (List Int)
structure Ta (m:dK) (inn:List Bool) (ms:List (List Int)):Prop where
 v:yJ m
 n:m.n=inn.length
@[reducible] noncomputable def adn:Vc.Spec where
 α:=arb
 args x:=[.agg (yH x.m),.sl 1 lX (λ_=>x.inn),.sl 1 eB (λ_=>x.ms)]
 pre x:=Ta x.m x.inn x.ms
 res x:=.sl 1 lX (λ_=>lZ x.ms x.inn x.m.cells)
 fr:=true
def JR (mn:Int) (mc:List Cell) (md:List Int) (inn:List Bool) (ms:List (List Int)) (i:Nat) (V:List Bool) (v:Bool):Vc.St :=
 ⟨[.agg [.i .i64 (λ_=>mn),.sl 3 mw (λ_=>mc),.sl 1 bC (λ_=>md)],.sl 1 lX (λ_=>inn),.sl 1 eB (λ_=>ms),.ptr 0 0,.any,.any,.cQ,.own 2,.any,.any,.any,.any,.any,.any,.b (λ_=>v),.any,.any,.any,.any,.any,
   .sl 3 mw (λ_=>mc),.i .i64 (λ_=>(mc.length:Int)),.i .i64 (λ_=>(i:Int))]++tk 80,
  [.fix 51 [.i .i64 (λ_=>mn),.sl 3 mw (λ_=>mc),.sl 1 bC (λ_=>md)],.dead,.dyn 4 1 lX (λ_=>V),.dead,.dead]⟩
structure MrF (xi:List Int) (xt xr:Int) (ms:List (List Int)) (V W:List Bool) (v:Bool):Prop where
 wl:W.length=xi.length
 w4:W.length<=4
 at_:∀(k:Nat) (s:Int),xi[k]?=some s->0<=s/\∃b,V[s.toNat]?=some b/\W[k]?=some b
 neg:xr < 0->E8 xt W=v
 pos:0<=xr->H7 ⟨[],ms⟩ xr W=v
theorem mrF {xi:List Int} {xt xr:Int} {V:List Bool} (ms:List (List Int)) (h4:xi.length<=4) (hs:∀s∈xi,0<=s/\s.toNat < V.length):∃W v,AO ⟨[],ms⟩ V ⟨xi,xt,xr⟩=v/\MrF xi xt xr ms V W v:=by
 refine ⟨xi.map (IT V),_,rfl,by rw [jP],by rw [jP];exact h4,λk s hk=>?_,λh=>?_,λh=>?_⟩
 ·obtain ⟨h0,h1⟩:=hs s (cf hk)
  obtain ⟨b,hb⟩:=bK h1
  refine ⟨h0,b,hb,?_⟩
  rw [ml,hk]
  show some (IT V s)=some b
  unfold IT
  rw [List.getD_eq_getElem?_getD,hb];rfl
 ·unfold AO;rw [if_pos h]
 ·unfold AO;rw [if_neg (by show ¬xr < 0;omega)]
def qI (W:List Bool) (k:Nat):List Bool:=W.take k++List.replicate (W.length - k) false
theorem ak4 {W:List Bool} {k:Nat} {b:Bool} (hb:W[k]?=some b):(qI W k)[k]?=some false/\(qI W k).set k b=qI W (k+1)/\(qI W (k+1))[k]?=some b/\k < (qI W k).length/\k < (qI W (k+1)).length:=by
 have hk:=(a7.1 hb).1
 have ht:(W.take k).length=k:=by rw [jd];omega
 have hr:List.replicate (W.length - k) false=false :: List.replicate (W.length - (k+1)) false:=by rw [show W.length - k=(W.length - (k+1))+1 by omega,G2]
 have h1:(qI W k)[k]?=some false:=by
  unfold qI
  rw [qi (by omega),ht,zB,hr];rfl
 have h2:(qI W k).set k b=qI W (k+1):=by
  unfold qI
  rw [Pm _ _ (by omega),ht,zB,hr,kf,hb]
  simp
 refine ⟨h1,h2,?_,(a7.1 h1).1,?_⟩
 ·rw [<-h2,pC (a7.1 h1).1]
 ·rw [<-h2,x4];exact (a7.1 h1).1
theorem ak5 {W:List Bool} {k:Nat} (h:W.length<=k):qI W k=W:=by
 unfold qI
 rw [iL h,Nat.sub_eq_zero_of_le h];simp
noncomputable def arc (n m:Nat):Ctx:=dM n m [] [] [] [] [2] [41]
theorem amF (n m:Nat):CB PP (arc n m):=dP n m trivial trivial
noncomputable def cMe (n m:Nat):Ctx:=dM n m [] [(120,MD)] [] [] [18]
theorem RY (n m:Nat):CB PP (cMe n m):=dP n m trivial ⟨ZN,trivial⟩
noncomputable def ard (n m:Nat):Ctx:=dM n m [] []
theorem amG (n m:Nat):CB PP (ard n m):=dP n m trivial trivial
theorem amH:dt (PP ()) 49 adn:=by
 refine Z2 (amF 0 0) (fo Tryz.func49) (λa=>⟨z8 a.m,λx=>(Lg x).1,λx=>(mT x).1,trivial⟩) (λa=>(λx=>(Lg x).1)) ?_
 rintro ⟨⟨mn,mc,md⟩,inn,ms⟩ hx
 obtain ⟨hv,hn⟩:Ta ⟨mn,mc,md⟩ inn ms:=hx
 have hn:mn=inn.length:=hn
 have h6:2+mn+(mc.length:Int)<=600:=hv.n6
 refine (ara hv hn ms).elim λV hF=>?_
 have hz:[false,true]++inn=V 0:=hF.z
 have gJ:∀(i:Nat) (x:Cell),mc[i]?=some x->V i++[AO ⟨[],ms⟩ (V i) x]=V (i+1)/\(V i).length<=600/\x.ins.length<=4/\x.eI<=63/\∀s∈x.ins,0<=s/\s.toNat < (V i).length:=hF.grow
 have oJ:∀i,i<=mc.length->mc.length<=i->V i=lZ ms inn mc:=hF.fin
 have I1:mc.length<=600:=by omega
 have b1:(2+inn.length)*1<=140737488355328:=by omega
 have b2:2+inn.length<=9223372036854775807:=by omega
 clear hF
 refine ⟨?_⟩
 cbv
 refine ⟨[false,true],⟨by exact bW,rfl⟩,?_⟩
 cbv
 refine ⟨inn,⟨by exact bp,b1,b2⟩,?_⟩
 cbv
 refine Sat.jN (RY 0 0) ?_
 cbv
 refine Sat.cU (RY 0 0) 3 7 [(.t 7,2)] (λi:Nat=>[(7,.own 2),(20,.sl 3 mw (λ_=>mc)),(21,.i .i64 (λ_=>(mc.length:Int))),(22,.i .i64 (λ_=>(i:Int)))]) (λi=>[(2,.dyn 4 1 lX (λ_=>V i))]) (λi=>i<=mc.length) (λi=>mc.length - i) 0 (by exact aM) (by have fq:=hz;exact a8) (cg _) ?_
 intro i hi
 have hi:i<=mc.length:=hi
 have cZ:=n0 i
 have ei:=cX (i:=i) (by omega)
 have oJ:=oJ i hi
 cbv
 refine ⟨λh=>?_,λh=>?_⟩
 ·have bQ:i < mc.length:=aL
  have bX:mc.length - (i+1) < mc.length - i:=by omega
  refine (bK bQ).elim λx=>?_
  refine x.casesOn λxi xt xr hx=>?_
  have h3:V i++[AO ⟨[],ms⟩ (V i) ⟨xi,xt,xr⟩]=V (i+1)/\(V i).length<=600/\xi.length<=4/\xr<=63/\∀s∈xi,0<=s/\s.toNat < (V i).length:=gJ i _ hx
  refine (mrF (xt:=xt) (xr:=xr) ms h3.2.2.1 h3.2.2.2.2).elim λW hW=>?_
  refine hW.elim λv hW=>?_
  have bV:V i++[v]=V (i+1):=by rw [<-hW.1];exact h3.1
  have hR:MrF xi xt xr ms (V i) W v:=hW.2
  have UC:W.length=xi.length:=hR.wl
  have hw4:W.length<=4:=hR.w4
  have hVl:(V i).length<=600:=h3.2.1
  have azC:xr<=63:=h3.2.2.2.1
  have lg:0<=(xi.length:Int)/\(xi.length:Int)<=(xi.length:Int)/\((1:Nat):Int)*(xi.length:Int)<=281474976710656/\(xi.length:Int)<=9223372036854775807:=by omega
  have vT:List.replicate ((xi.length:Nat):Int).toNat false=qI W 0:=by
   rw [ke,<-UC];unfold qI;simp
  have b5:((V i).length+1)*1<=140737488355328:=by omega
  have b6:(V i).length+1<=9223372036854775807:=by omega
  refine (⟨_,rfl⟩:∃U,vZ W=U).elim λU hU=>?_
  have UL:0=U 0:=by rw [<-hU];rfl
  refine (⟨_,rfl⟩:∃L,qI W=L).elim λL hL=>?_
  rw [hL] at vT
  clear h h3 gJ
  cbv
  refine ⟨⟨xi,xt,xr⟩,⟨cZ,hx⟩,?_⟩
  cbv
  refine ⟨⟨lg⟩,?_⟩
  apply yb (λc k=>Sat [] false PP c (JR mn mc md inn ms i (V i) v) k)
  ·intro tail
   refine Sat.cU (RY 0 0) 5 11 [(.t 10,4)] (λk:Nat=>[(11,.i .i64 (λ_=>U k)),(20,.sl 3 mw (λ_=>mc)),(21,.i .i64 (λ_=>(mc.length:Int))),(22,.i .i64 (λ_=>(i:Int))),(31,.sl 1 bC (λ_=>xi)),(32,.i .i64 (λ_=>(xi.length:Int))),(33,.i .i64 (λ_=>(k:Int)))]) (λk=>[(4,.dyn 4 1 lX (λ_=>L k))]) (λk=>k<=xi.length) (λk=>xi.length - k) 0 (by have iC:=UL;exact a8) (by have fq:=vT;exact a8) (cg _) ?_
   intro k hk
   have hk:k<=xi.length:=hk
   have gR:=n0 k
   have ie:=cX (i:=k) (by omega)
   cbv
   refine ⟨λh=>?_,λh=>?_⟩
   ·have cT:k < xi.length:=aL
    have ado:xi.length - (k+1) < xi.length - k:=by omega
    refine (bK cT).elim λs hs=>?_
    have oG:=hR.at_ k s hs
    have Ue:=oG.1
    refine oG.2.elim λb hb=>?_
    obtain ⟨f1,f2,f3,f4,f5⟩:=ak4 hb.2
    have ig:=hb.1
    have gS:=(a7.1 ig).1
    rw [hL] at f1 f2 f3 f4 f5
    rw [<-f2] at f3 f5
    have nD:=hb.2
    have SO:b=true->gg .or .i64 (U k) (IntKind.i64.wrap (1*2^(min ((k:Int)).toNat IntKind.i64.bits)))=U (k+1):=λe=>by rw [<-hU];exact YS (by rw [nD,e])
    have dx:b=false->U k=U (k+1):=λe=>by rw [<-hU];exact ZM (by rw [nD,e])
    clear h
    cbv
    refine ⟨s,⟨gR,hs⟩,?_⟩
    cbv
    refine ⟨⟨Ue,gS⟩,?_⟩
    cbv
    refine ⟨b,⟨ig,rfl⟩,?_⟩
    cbv
    refine ⟨⟨gR,f4⟩,?_⟩
    cbv
    refine ⟨(false,b),⟨f1,rfl,by exact bW⟩,?_⟩
    cbv
    refine ⟨⟨gR,f5⟩,?_⟩
    cbv
    refine ⟨b,⟨f3,rfl⟩,?_⟩
    cbv
    refine ⟨λh=>?_,λh=>?_⟩
    ·have lI:b=true:=h.out
     have cC:=SO lI
     clear h
     cbv
     refine ⟨⟨gR⟩,?_⟩
     cbv
     exact ⟨k+1,by have bD:=cC;have jE:=ie;exact a8,by have fq:=f2;exact a8,⟨⟨cT,ado⟩⟩⟩
    ·have lI:b=false:=h.out
     have cC:=dx lI
     clear h
     cbv
     exact ⟨k+1,by have bD:=cC;have jE:=ie;exact a8,by have fq:=f2;exact a8,⟨⟨cT,ado⟩⟩⟩
   have hkg:xi.length<=k:=aL
   have hLW:L k=W:=by rw [<-hL];exact ak5 (by omega)
   have hke:k=xi.length:=by omega
   have hkw:k=W.length:=by omega
   obtain ⟨u,hu,_⟩:=Qu W k (by omega)
   rw [hU] at hu
   have TL:FB W=(u:Int):=by unfold FB;rw [<-hkw,hU,hu]
   have adp:(FB W).toNat=u:=by rw [TL,ke]
   have Uw:0<=U k:=by rw [hu];exact KQ _
   have hut:(U k).toNat=u:=by rw [hu,ke]
   have hlk:(L k).length<=1000000:=by rw [hLW];omega
   have MJ:xr < 0->E8 xt (L k)=v:=λh=>by rw [hLW];exact hR.neg h
   have r9:=hR.pos
   have hnq:xr < 0->¬0<=xr:=λh=>by omega
   have hq:0<=xr->IntKind.i64.wrap (xr.tdiv 8)=xr / 8:=λh=>by rw [WO h];exact cW (by omega) (by omega)
   have hm8:0<=xr->xr.tmod 8=xr % 8:=λh=>Int.tmod_eq_emod_of_nonneg h
   have Tb:0<=xr->0<=xr.tmod 8:=λh=>by rw [hm8 h];omega
   have mF:0<=xr->dv (IntKind.i64.wrap (xr.tdiv 8)) (ms.length:Int)=false->false=v:=λh0 h'=>by
    rw [hq h0] at h'
    have h2:¬xr / 8 < (ms.length:Int):=by simpa [dv] using h'
    have xm:ms[(xr / 8).toNat]?=none:=pD (by omega)
    rw [<-r9 h0];unfold H7;simp only;rw [xm]
   have kD:0<=xr->dv (IntKind.i64.wrap (xr.tdiv 8)) (ms.length:Int)=true->0<=IntKind.i64.wrap (xr.tdiv 8)/\∃m,ms[(IntKind.i64.wrap (xr.tdiv 8)).toNat]?=some m/\(dv (U k) (m.length:Int)=false->false=v)/\(dv (U k) (m.length:Int)=true->∃z,m[(U k).toNat]?=some z/\fk (gg .and .i64 (z.fdiv (2^(min (xr.tmod 8).toNat IntKind.i64.bits))) 1) 1=v):=λh0 h'=>by
    rw [hq h0] at h' ⊢
    have h2:xr / 8 < (ms.length:Int):=by simpa [dv] using h'
    obtain ⟨m,hm⟩:=bK (l:=ms) (i:=(xr / 8).toNat) (by omega)
    refine ⟨by omega,m,hm,λh3=>?_,λh3=>?_⟩
    ·have h4:¬U k < (m.length:Int):=by simpa [dv] using h3
     rw [hu] at h4
     have xm:m[(FB W).toNat]?=none:=by rw [adp];exact pD (by omega)
     rw [<-r9 h0];unfold H7;simp only;rw [hm];simp only;rw [xm]
    ·have h4:U k < (m.length:Int):=by simpa [dv] using h3
     rw [hu] at h4
     obtain ⟨z,hz⟩:=bK (l:=m) (i:=u) (by omega)
     refine ⟨z,by rw [hut];exact hz,?_⟩
     rw [<-r9 h0];unfold H7;simp only;rw [hm];simp only;rw [adp,hz,hm8 h0];rfl
   clear h gR ie hk
   cbv
   refine ⟨λh=>?_,λh=>?_⟩
   ·have hr:xr < 0:=aL
    have hv:=MJ hr
    have hnr:=hnq hr
    clear h
    cbv
    refine ⟨⟨xt,L k⟩,⟨.inl ⟨by exact bp,rfl⟩,hlk⟩,?_⟩
    cbv
    refine ⟨⟨by decide⟩,λh=>?_,λh=>?_⟩
    ·have h0:0<=xr:=aL
     cases (show False from hnr h0)
    clear h
    cbv
    exact iX 5 (JR mn mc md inn ms i (V i) v) (by have po:=hv;exact a8) (by exact aM) tail
   ·have hr:0<=xr:=aL
    have mF:=mF hr
    have kD:=kD hr
    have Tb:=Tb hr
    clear h MJ
    cbv
    refine ⟨⟨by decide⟩,λh=>?_,λh=>?_⟩
    rotate_left
    ·have h0:¬0<=xr:=aL
     cases (show False from h0 hr)
    clear h
    cbv
    refine ⟨λh=>?_,λh=>?_⟩
    rotate_left
    ·have e:=mF h.out
     clear h
     cbv
     exact iX 5 (JR mn mc md inn ms i (V i) v) (by have fH:=e;exact a8) (by exact aM) tail
    have kD:=kD h.out
    have xJ:=kD.1
    refine kD.2.elim λm mG=>?_
    have hm:=mG.1
    have C7:=mG.2.1
    have nq:=mG.2.2
    clear h
    cbv
    refine ⟨m,⟨xJ,hm⟩,?_⟩
    cbv
    refine ⟨λh=>?_,λh=>?_⟩
    rotate_left
    ·have e:=C7 h.out
     clear h
     cbv
     exact iX 5 (JR mn mc md inn ms i (V i) v) (by have fH:=e;exact a8) (by exact aM) tail
    refine (nq h.out).elim λz su=>?_
    have hz:=su.1
    have e:=su.2
    clear h
    cbv
    refine ⟨m,⟨xJ,hm⟩,?_⟩
    cbv
    refine ⟨z,⟨Uw,hz⟩,?_⟩
    cbv
    refine ⟨⟨by decide⟩,⟨Tb⟩,?_⟩
    exact iX 5 (JR mn mc md inn ms i (V i) v) (by have po:=e;exact a8) (by exact aM) tail
  ·refine Sat.jN (amG 0 0) ?_
   cbv
   refine ⟨[v],⟨by exact bp,b5,b6⟩,?_⟩
   cbv
   exact ⟨i+1,by have bD:=ei;exact a8,by have fq:=bV;exact a8,⟨⟨bQ,bX⟩⟩⟩
 ·have cz:mc.length<=i:=aL
  have oJ:=oJ cz
  clear h
  cbv
  refine ⟨?_⟩
  cbv
  exact ⟨by have jM:=oJ;exact cd,λx=>rfl⟩
noncomputable def are (n m:Nat):Ctx:=dM n m [(130,Tryz.f130),(189,Tryz.f189)] []
theorem axW (n m:Nat):CB PP (are n m):=dP n m ⟨fo Tryz.func130,fo Tryz.func189,trivial⟩ trivial
end Go.Proofs.Pk
