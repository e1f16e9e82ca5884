import Derived.Test.YthnhbemmlfaihaaR13
import Derived.Test.YthnhbemmlfaihaaR15
import Derived.Test.YthnhbemmlfaihaaR26
import Derived.Test.YthnhbemmlfaihaaR27
import Derived.Test.YthnhbemmlfaihaaR28
set_option linter.unusedVariables false
set_option linter.unusedSimpArgs false
set_option maxRecDepth 10000
set_option maxHeartbeats 64000000
namespace Go.Proofs.Pk
open Go Go.Vc
structure Ym (n:Net) (m:dM) (c:jn):Prop where
 ck:tP n m c 0
 ok:tz n.ins.length n.cg n.bf m c
 v:Ay m
 cells:m.cells.length<=n.cg.length
 gy:we ⟨m,c,0⟩
 dp:wb m<=wb (Xb n.ins.length n.cg n.bf)
theorem afv {m:dM} (h:Ay m) (hd:m.bf.length<=1000000):Cn m:=by
 refine ⟨by have:=h.n6;have:=h.n0;omega,λx hx=>?_,hd⟩
 obtain ⟨i,hi,rfl⟩:=LM.1 hx
 obtain ⟨c1,_⟩:=h.cell i _ (dE hi)
 simp only [oO,so,sq,cu,decide_eq_true_eq] at c1
 omega
theorem CM {n:Net} {m:dM} {c:jn} (h:wC n m c 0):Ym n m c:=by
 have hm:=h.eq
 unfold mapM at hm
 cases hl:iS n.ins.length n.cg with
 | none=>rw [hl] at hm;simp at hm
 | some s =>
  rw [hl] at hm
  simp only [Prod.mk.injEq] at hm
  obtain ⟨rfl,rfl,_⟩:=hm
  have L:=EL _ rfl h.G hl
  have hb:=afX h.G L h.dr
  have hc:=Tk hb
  obtain ⟨hv,jK⟩:=Vp h.G hc
  have o7:(jb n.ins.length n.cg s n.bf).1.bf.length<=1000000:=by rw [hc.dl];exact h.gy
  have hf:=afv hv o7
  have kC:∀l∈(jb n.ins.length n.cg s n.bf).2.leaves,l.length<=1000000:=λl hl=>by
   obtain ⟨i,hi,rfl⟩:=LM.1 hl
   have j6:i < (jb n.ins.length n.cg s n.bf).1.cells.length:=by rw [<-hc.ll];exact hi
   obtain ⟨x,hx⟩:=cy j6
   obtain ⟨r,hr⟩:=cy (l:=(jb n.ins.length n.cg s n.bf).2.root) (i:=i) (by rw [hc.rl];exact j6)
   obtain ⟨_,_,F⟩:=OT h.G hc hx hr (dE hi)
   have h1:=hf.cin x (cN hx)
   rw [F.ins,kF] at h1
   exact h1
  have xZ:=hf.cells
  exact ⟨⟨h.G,h.gy,xZ,hf.cin,kC,by rw [hb];rfl⟩,hc,hv,jK,⟨hf,by show (jb n.ins.length n.cg s n.bf).2.root.length<=_;rw [hc.rl];omega,by rw [hc.ll];exact xZ,kC⟩,adg h.G hc⟩
theorem agK {n:Net} {m:dM} {c:jn} {e:Int} (h:wC n m c e):e=0\/e=2/\m=⟨0,[],[]⟩/\c=⟨[],[]⟩:=by
 have hm:=h.eq
 unfold mapM at hm
 cases hl:iS n.ins.length n.cg with
 | none =>
  rw [hl] at hm
  simp only [Prod.mk.injEq] at hm
  obtain ⟨rfl,rfl,rfl⟩:=hm
  exact .inr ⟨rfl,rfl,rfl⟩
 | some s =>
  rw [hl] at hm
  simp only [Prod.mk.injEq] at hm
  exact .inl hm.2.2.symm


def Kz {A:Type} (r:Nat->Nat) (F:(Nat->A)->Nat->A):Prop:=∀f g b,(∀c,r c < r b->f c=g c)->F f b=F g b
def KA {A:Type} (F:(Nat->A)->Nat->A) (d:A):Nat->Nat->A
 | 0,_=>d
 | n+1,b=>F (KA F d n) b
theorem Wn {A:Type} {r:Nat->Nat} {F:(Nat->A)->Nat->A} (h:Kz r F) (d:A):∀(n m b:Nat),r b < n->r b < m->KA F d n b=KA F d m b
 | 0,_,_,h0,_=>absurd h0 (tu _)
 | _+1,0,_,_,h0=>absurd h0 (tu _)
 | n+1,m+1,b,h1,h2=>h _ _ b λc hc=>Wn h d n m c (by omega) (by omega)
def Qu {A:Type} (F:(Nat->A)->Nat->A) (K:Nat->A):Prop:=∀b,K b=F K b
theorem aev {A:Type} {r:Nat->Nat} {F:(Nat->A)->Nat->A} (h:Kz r F) (d:A):Qu F λb=>KA F d (r b+1) b:=by
 intro b
 show F _ b=_
 exact h _ _ b λc hc=>Wn h d _ _ c hc (by omega)
noncomputable def fixF {A:Type} [Nonempty A] (F:(Nat->A)->Nat->A):Nat->A:=Classical.epsilon (Qu F)
theorem aew {A:Type} [hn:Nonempty A] {r:Nat->Nat} {F:(Nat->A)->Nat->A} (h:Kz r F):Qu F (fixF F) :=
 Classical.epsilon_spec ⟨_,aev h (Classical.choice hn)⟩
def Yn (h w:Int):Int:=IntKind.u64.wrap ((BitVec.ofInt 64 h ^^^ BitVec.ofInt 64 w).toNat:Nat)
def Yo (h w:Int):Int:=IntKind.u64.wrap (Yn h w*15485907386658061715)
def aie (h w:Int):Int:=IntKind.u64.wrap (Yn (Yo h w) ((Yo h w).fdiv (2^(min (32:Int).toNat IntKind.u64.bits)))*11562461410679940143)
theorem aif:∃f:Int->Int->Int,f=aie:=⟨_,rfl⟩
noncomputable def Xi:Int->Int->Int:=Classical.choose aif
noncomputable def aih (h:Int) (l:List Int):Int:=l.foldl (λh n=>Xi h (IntKind.u64.wrap n)) h
noncomputable def oR (l:List Int):Int:=Xi (aih 512970876019 l) (IntKind.u64.wrap l.length)
noncomputable def Fc (p:ej) (s:Int):Int:=let w:=p.ins.getD s.toNat ⟨0,0,0⟩;oR [2,w.kind,w.i,w.bit]
noncomputable def O4 (p:ej) (K:Nat->Int) (b:Nat):Int:=match p.blocks[b]? with
 | some x=>if 0<=x.cK then oR [3,x.cK] else K b
 | none=>0
noncomputable def Xj (p:ej) (b:Nat):Int:=match p.blocks[b]? with
 | some x=>if 0<=x.cK then oR [1,x.cK] else 0
 | none=>0
instance (n:Nat) (s:Int):Decidable (sa n s):=inferInstanceAs (Decidable ((s - n) % 2=1))
noncomputable def JK (p:ej) (K:Nat->Int) (s:Int):Int :=
 if s < p.ins.length then Fc p s else if sa p.ins.length s then Xj p (mN p.ins.length s) else O4 p K (mN p.ins.length s)
noncomputable def O5 (p:ej) (K:Nat->Int) (x:Block):Int:=oR (4 :: x.table :: x.ew :: x.ins.map λs=>IntKind.i64.wrap (JK p K s))
noncomputable def FN (p:ej) (K:Nat->Int) (b:Nat):Int:=match p.blocks[b]? with
 | some x=>if 0<=x.cK then 0 else O5 p K x
 | none=>0
noncomputable def yC (p:ej):Nat->Int:=fixF (FN p)
noncomputable def Yp (p:ej) (K:Nat->Int) (b:Nat):Int:=match p.blocks[b]? with
 | some x=>if 0<=x.cK then oR [1,x.cK] else K b
 | none=>0
noncomputable def N6 (p:ej):List Int:=(List.range p.blocks.length).map (Yp p (yC p))
theorem map_eq {α β:Type} {f g:α->β} {l:List α} (h:∀x∈l,f x=g x):l.map f=l.map g:=rS h
theorem aex {p:ej} {r:Nat->Nat} (hr:IH p r):Kz r (FN p):=by
 intro f g b h
 unfold FN
 cases hb:p.blocks[b]? with
 | none=>rfl
 | some x =>
  simp only
  split
  ·rfl
  ·unfold O5
   congr 3
   congr 1
   refine map_eq λs hs=>?_
   congr 1
   unfold JK
   split
   ·rfl
   ·split
    ·rfl
    ·rename_i h1 h2
     have:=hr b x hb s hs (by omega) h2
     unfold O4
     split
     ·split
      ·rfl
      ·exact h _ this
     ·rfl
def Yq (v k:Int):Bool:=Vc.gG (Vc.fJ .and .i64 (v.fdiv (2^(min k.toNat IntKind.i64.bits))) 1) 1
def tQ (l:List Bool):Nat->Int
 | 0=>0
 | i+1=>if l.getD i false then Vc.fJ .or .i64 (tQ l i) (IntKind.i64.wrap (1*2^(min ((i:Int)).toNat IntKind.i64.bits))) else tQ l i
def CN (l:List Bool):Int:=tQ l l.length
def Cp (table:Int) (l:List Bool):Bool:=if 5 < l.length then false else Yq table (CN l)
def Fe (s:VK) (ew:Int) (l:List Bool):Bool:=match s.yy[(ew / 8).toNat]? with
 | some m=>match m[(CN l).toNat]? with
  | some v=>Yq v (ew % 8)
  | none=>false
 | none=>false
structure B8 (n:Nat) (l:List Int):Prop where
 len:l.length=n
 rng:∀x∈l,0<=x/\x < n
 nd:l.Nodup
def w7 (l:List Int) (i:Nat):Nat:=(l.getD i 0).toNat
theorem B8.get {n:Nat} {l:List Int} (h:B8 n l) {i:Nat} (hi:i < n):l[i]?=some (w7 l i:Int)/\w7 l i < n:=by
 have hl:i < l.length:=by rw [h.len];exact hi
 have:=h.rng _ (L3 hl)
 unfold w7
 rw [List.getD_eq_getElem?_getD,dE hl,rT]
 refine ⟨?_,by omega⟩
 congr 1;omega
theorem B8.inj {n:Nat} {l:List Int} (h:B8 n l) {i j:Nat} (hi:i < n) (hj:j < n) (e:w7 l i=w7 l j):i=j:=by
 have h1:=(h.get hi).1
 have h2:=(h.get hj).1
 rw [<-e] at h2
 have:=h.nd
 rw [SG,qO] at this
 have bU:i < l.length:=by rw [h.len];exact hi
 have e8:j < l.length:=by rw [h.len];exact hj
 rw [dE bU] at h1
 rw [dE e8] at h2
 cases LX i j with
 | inl aP=>exact absurd ((vT h1).trans (vT h2).symm) (this i j bU e8 aP)
 | inr cf=>cases cf with
  | inl he=>exact he
  | inr aP=>exact absurd ((vT h2).trans (vT h1).symm) (this j i e8 bU aP)
theorem adj {α β:Type} {f:α->β} {l:List α} (h:∀x∈l,∀y∈l,f x=f y->x=y) (hn:l.Nodup):(l.map f).Nodup:=by
 induction l with
 | nil=>simp
 | cons x r ih =>
  obtain ⟨h1,h2⟩:=zj.1 hn
  rw [gS,zj]
  refine ⟨λhm=>?_,ih (λa ha b hb=>h a (by simp [ha]) b (by simp [hb])) h2⟩
  obtain ⟨y,hy,e⟩:=jW.1 hm
  have:=h y (by simp [hy]) x (by simp) e
  subst this
  exact h1 hy
theorem B8.perm {n:Nat} {l:List Int} (h:B8 n l):((List.range n).map (w7 l)).Perm (List.range n):=by
 have fB:((List.range n).map (w7 l)).Nodup:=adj (λi hi j hj e=>h.inj (mB.1 hi) (mB.1 hj) e) List.nodup_range
 rw [Lx fB List.nodup_range]
 intro b
 constructor
 ·intro hb
  obtain ⟨i,hi,rfl⟩:=jW.1 hb
  exact mB.2 (h.get (mB.1 hi)).2
 ·intro hb
  by_cases hm:b∈(List.range n).map (w7 l)
  ·exact hm
  ·have h1:(b :: (List.range n).map (w7 l)).Nodup:=zj.2 ⟨hm,fB⟩
   have h2:=BI (l₂:=List.range n) h1 (λx hx=>by
    rcases cx.1 hx with rfl|hx
    ·exact hb
    ·obtain ⟨i,hi,rfl⟩:=jW.1 hx
     exact mB.2 (h.get (mB.1 hi)).2)
   simp at h2
   omega
def Yr:Block:=⟨[],0,0,0,0⟩
def akk (ks:List Int) (i:Nat) (x:Block):Block:={ x with key:=ks.getD i 0 }
def afw (p:ej) (ks:List Int):ej:={ p with blocks:=p.blocks.mapIdx (akk ks) }
noncomputable def aii (n:Net) (m:dM):ej:=afw (Yf n m) (N6 (Yf n m))
def agL (p:ej):List Int:=p.blocks.map (·.key)
def atK (p:ej) (k:Int):Nat:=(agL p).idxOf k
def yw (p q:ej) (s:Int):Int :=
 if s < q.ins.length then s else p.ins.length+2*(atK p (q.blocks.getD (mN q.ins.length s) Yr).key:Int)+(s - q.ins.length) % 2
def Xk (p:ej) (c d:Nat):Prop:=∃x,p.blocks[c]?=some x/\∃s∈x.ins,(p.ins.length:Int)<=s/\¬sa p.ins.length s/\mN p.ins.length s=d
def St (st:List Int) (v:Int) (c:Nat):Prop:=st[c]?=some v
theorem St.tB {st:List Int} {v u:Int} {b c:Nat} (h:c≠b):St (st.set b u) v c↔St st v c:=by
 unfold St;rw [iN];split
 ·omega
 ·exact vO
theorem St.B9 {st:List Int} {v u:Int} {b:Nat} (h:b < st.length):St (st.set b u) v b↔u=v:=by
 unfold St;rw [iN];simp [h]
theorem St.lt {st:List Int} {v:Int} {c:Nat} (h:St st v c):c < st.length:=(bh.1 h).1
theorem St.uniq {st:List Int} {v u:Int} {c:Nat} (h:St st v c) (k:St st u c):v=u:=by unfold St at *;rw [h] at k;exact vT k
def uO (st:List Int):Nat:=st.countP (· == 0)
theorem adk {st:List Int} {b:Nat} {v:Int} (h:St st 0 b) (hv:v≠0):uO (st.set b v)+1=uO st:=by
 unfold uO St at *
 induction st generalizing b with
 | nil=>simp at h
 | cons x l ih =>
  cases b with
  | zero=>simp at h;subst h;simp [HH,hv]
  | succ b =>
   have:=ih (b:=b) (by simpa using h)
   simp only [HC,HH]
   omega
theorem acv {st:List Int} {b:Nat} {u v:Int} (h:St st u b) (hu:u≠0) (hv:v≠0):uO (st.set b v)=uO st:=by
 unfold uO St at *
 induction st generalizing b with
 | nil=>simp at h
 | cons x l ih =>
  cases b with
  | zero=>simp at h;subst h;simp [HH,hu,hv]
  | succ b =>
   have:=ih (b:=b) (by simpa using h)
   simp only [HC,HH]
   omega
def py (p:ej) (st:List Int):Prop:=∃r:Nat->Nat,∀c d,St st 2 c->Xk p c d->St st 2 d/\r d < r c
theorem py.nil {p:ej} {st:List Int} (h:∀c,¬St st 2 c):py p st:=⟨λ_=>0,λc d hc=>absurd hc (h c)⟩
theorem bound {l:List Nat} (r:Nat->Nat):∃m,∀d∈l,r d < m:=by
 induction l with
 | nil=>exact ⟨0,by simp⟩
 | cons x l ih =>
  obtain ⟨m,hm⟩:=ih
  refine ⟨m+r x+1,λd hd=>?_⟩
  rcases cx.1 hd with rfl|hd
  ·omega
  ·have:=hm d hd;omega
theorem py.done {p:ej} {st:List Int} (h:py p st) {b:Nat} (hb:St st 1 b) (dq:∀d,Xk p b d->St st 2 d):py p (st.set b 2):=by
 obtain ⟨r,hr⟩:=h
 have aP:=hb.lt
 obtain ⟨m,hm⟩:=bound (l:=List.range st.length) r
 refine ⟨λc=>if c=b then m else r c,λc d hc ht=>?_⟩
 by_cases kU:c=b
 ·subst kU
  have hd:=dq d ht
  have A7:d≠c:=by rintro rfl;have:=hd.uniq hb;omega
  exact ⟨(St.tB A7).2 hd,by simp only [if_neg A7,if_true];exact hm d (mB.2 hd.lt)⟩
 ·have h2:=hr c d ((St.tB kU).1 hc) ht
  have A7:d≠b:=by rintro rfl;have:=h2.1.uniq hb;omega
  exact ⟨(St.tB A7).2 h2.1,by simp only [if_neg A7,if_neg kU];exact h2.2⟩
theorem py.mark {p:ej} {st:List Int} (h:py p st) {b:Nat} (hb:St st 0 b):py p (st.set b 1):=by
 obtain ⟨r,hr⟩:=h
 have aP:=hb.lt
 refine ⟨r,λc d hc ht=>?_⟩
 have kU:c≠b:=by rintro rfl;have:=(St.B9 aP).1 hc;omega
 have h2:=hr c d ((St.tB kU).1 hc) ht
 have A7:d≠b:=by rintro rfl;have:=h2.1.uniq hb;omega
 exact ⟨(St.tB A7).2 h2.1,h2.2⟩
structure GF (p:ej) (st:List Int):Prop where
 len:st.length=p.blocks.length
 val:∀c v,St st v c->v=0\/v=1\/v=2
structure Ab (p:ej) (st:List Int) (b:Nat) (res:Bool) (cS:List Int):Prop where
 w:GF p cS
 z:uO cS<=uO st
 one:res=true->∀c,St cS 1 c↔St st 1 c
 two:res=true->(∀c,St st 2 c->St cS 2 c)/\St cS 2 b
 y3:res=true->py p st->py p cS
 rk:∀r,IH p r->(∀c,St st 1 c->r b < r c)->res=true
theorem Ab.Fk {p:ej} {st:List Int} {b:Nat} (h:GF p st) (hb:St st 2 b):Ab p st b true st :=
 ⟨h,fT _,λ_ _=>vO,λ_=>⟨λ_ h=>h,hb⟩,λ_ h=>h,λ_ _ _=>rfl⟩
structure sX (p:ej) (st:List Int) (b:Nat) (x:Block) (j:Nat) (cS:List Int):Prop where
 le:j<=x.ins.length
 w:GF p cS
 z:uO cS+1<=uO st
 one:∀c,St cS 1 c↔St st 1 c\/c=b
 two:∀c,St st 2 c->St cS 2 c
 y3:py p st->py p cS
 ins:∀i s,i < j->x.ins[i]?=some s->(p.ins.length:Int)<=s->¬sa p.ins.length s->St cS 2 (mN p.ins.length s)
theorem sX.start {p:ej} {st:List Int} {b:Nat} (h:GF p st) (hb:St st 0 b) (x:Block):sX p st b x 0 (st.set b 1):=by
 have aP:=hb.lt
 refine ⟨cP _,⟨by simp [h.len],λc v hc=>?_⟩,by have:=adk hb (v:=1) (by decide);omega,λc=>?_,λc hc=>?_,λha=>ha.mark hb,λi s hi=>by omega⟩
 ·by_cases kU:c=b
  ·subst kU;have:=(St.B9 aP).1 hc;omega
  ·exact h.val c v ((St.tB kU).1 hc)
 ·by_cases kU:c=b
  ·subst kU;exact ⟨λ_=>.inr rfl,λ_=>(St.B9 aP).2 rfl⟩
  ·rw [St.tB kU];exact ⟨.inl,λh=>h.resolve_right kU⟩
 ·have kU:c≠b:=by rintro rfl;have:=hc.uniq hb;omega
  exact (St.tB kU).2 hc
theorem sX.skip {p:ej} {st:List Int} {b:Nat} {x:Block} {j:Nat} {cS:List Int} (h:sX p st b x j cS) {s:Int} (hs:x.ins[j]?=some s) (hn:¬((p.ins.length:Int)<=s/\¬sa p.ins.length s)):sX p st b x (j+1) cS :=
 ⟨(
  bh.1 hs).1,h.w,h.z,h.one,h.two,h.y3,λi t hi ht h1 h2=>by
  by_cases oF:i=j
  ·subst oF;rw [hs] at ht;cases ht;exact absurd ⟨h1,h2⟩ hn
  ·exact h.ins i t (by omega) ht h1 h2⟩
theorem sX.go {p:ej} {st:List Int} {b:Nat} {x:Block} {j:Nat} {cS uf:List Int} (h:sX p st b x j cS) {s:Int} (hs:x.ins[j]?=some s) (hb:St st 0 b) (k:Ab p cS (mN p.ins.length s) true uf):sX p st b x (j+1) uf:=by
 refine ⟨(bh.1 hs).1,k.w,by have:=k.z;have:=h.z;omega,λc=>by rw [k.one rfl c];exact h.one c,λc hc=>(k.two rfl).1 c (h.two c hc),λha=>k.y3 rfl (h.y3 ha),λi t hi ht h1 h2=>?_⟩
 by_cases oF:i=j
 ·subst oF;rw [hs] at ht;cases ht;exact (k.two rfl).2
 ·exact (k.two rfl).1 _ (h.ins i t (by omega) ht h1 h2)
theorem sX.bad {p:ej} {st:List Int} {b:Nat} {x:Block} {j:Nat} {cS uf:List Int} (h:sX p st b x j cS) (hx:p.blocks[b]?=some x) {s:Int} (hs:x.ins[j]?=some s) (h1:(p.ins.length:Int)<=s) (h2:¬sa p.ins.length s) (k:Ab p cS (mN p.ins.length s) false uf):Ab p st b false uf :=
 ⟨k.w,by have:=k.z;have:=h.z;omega,by simp,by simp,by simp,λr hr hc=>k.rk r hr λc wP=>by
  have aP:=hr b x hx s (cN hs) h1 h2
  rcases (h.one c).1 wP with h3|rfl
  ·have:=hc c h3;omega
  ·exact aP⟩
theorem sX.out {p:ej} {st:List Int} {b:Nat} {x:Block} {j:Nat} {cS:List Int} (h:sX p st b x j cS) (hx:p.blocks[b]?=some x) (hb:St st 0 b) (hj:j=x.ins.length):Ab p st b true (cS.set b 2):=by
 have h1:St cS 1 b:=(h.one b).2 (.inr rfl)
 have aP:=h1.lt
 refine ⟨⟨by simp [h.w.len],λc v hc=>?_⟩,by have:=acv h1 (v:=2) (by decide) (by decide);have:=h.z;omega,λ_ c=>?_,λ_=>⟨λc hc=>?_,(St.B9 aP).2 rfl⟩,λ_ ha=>(h.y3 ha).done h1 ?_,λ_ _ _=>rfl⟩
 ·by_cases kU:c=b
  ·subst kU;have:=(St.B9 aP).1 hc;omega
  ·exact h.w.val c v ((St.tB kU).1 hc)
 ·by_cases kU:c=b
  ·subst kU
   exact ⟨λh=>by have:=(St.B9 aP).1 h;omega,λh=>by have:=h.uniq hb;omega⟩
  ·rw [St.tB kU,h.one c];exact ⟨λh=>h.resolve_right kU,.inl⟩
 ·have kU:c≠b:=by rintro rfl;have:=hc.uniq hb;omega
  exact (St.tB kU).2 (h.two c hc)
 ·rintro d ⟨y,hy,s,hs,h3,h4,rfl⟩
  rw [hx] at hy;cases hy
  obtain ⟨i,hi,e⟩:=LM.1 hs
  exact h.ins i s (by omega) (by rw [dE hi,e]) h3 h4
structure I3 where
 n:Int
 lo:Int
 hi:Int
theorem py.all {p:ej} {st:List Int} (h:py p st) (ha:∀b,b < p.blocks.length->St st 2 b):∃r,IH p r:=by
 obtain ⟨r,hr⟩:=h
 refine ⟨r,λb x hx s hs h1 h2=>?_⟩
 exact (hr b _ (ha b (bh.1 hx).1) ⟨x,hx,s,hs,h1,h2,rfl⟩).2
structure GG (p:ej) (b:Nat) (st:List Int):Prop where
 le:b<=p.blocks.length
 w:GF p st
 one:∀c,¬St st 1 c
 two:∀c,c < b->St st 2 c
 y3:py p st
theorem GG.start (p:ej):GG p 0 (List.replicate p.blocks.length 0):=by
 have h:∀c v,St (List.replicate p.blocks.length 0) v c->v=0:=λc v hc=>by
  have hm:=cN (show (List.replicate p.blocks.length (0:Int))[c]?=some v from hc)
  exact (Bx.1 hm).2
 exact ⟨cP _,⟨zr,λc v hc=>.inl (h c v hc)⟩,λc hc=>by have:=h c 1 hc;omega,λc hc=>by omega,.nil λc hc=>by have:=h c 2 hc;omega⟩
theorem GG.next {p:ej} {b:Nat} {st cS:List Int} (h:GG p b st) (hb:b < p.blocks.length) (k:Ab p st b true cS):GG p (b+1) cS :=
 ⟨hb,k.w,λc hc=>h.one c ((k.one rfl c).1 hc),λc hc=>by
  by_cases e:c=b
  ·subst e;exact (k.two rfl).2
  ·exact (k.two rfl).1 c (h.two c (by omega)),k.y3 rfl h.y3⟩
noncomputable def dgK (sig:List Int) (x:Block):Int:=oR (4 :: x.table :: x.ew :: x.ins.map λs=>IntKind.i64.wrap (sig.getD s.toNat 0))
def FO (d0 d:List Bool):Prop:=d.length=d0.length/\∀i:Nat,d0[i]?=some true->d[i]?=some true
theorem FO.refl (d:List Bool):FO d d:=⟨rfl,λ_ h=>h⟩
theorem FO.set {d0 d:List Bool} (h:FO d0 d) (b:Nat):FO d0 (d.set b true):=by
 refine ⟨by simp [h.1],λi hi=>?_⟩
 have:=h.2 i hi
 rw [iN]
 split
 ·rename_i e;subst e;simp [(bh.1 this).1]
 ·exact this
structure GH (p:ej) (i:Nat) (m:Int->Option Unit):Prop where
 le:i<=p.blocks.length
 cK:∀j,(m j).isSome=true↔∃k x,k < i/\p.blocks[k]?=some x/\x.cK=j
 ok:∀(k:Nat) (x:Block),k < i->p.blocks[k]?=some x->NG x/\∀s∈x.ins,B7 p s
 J2:∀(k l:Nat) (x y:Block),k < i->l < i->p.blocks[k]?=some x->p.blocks[l]?=some y->0<=x.cK->x.cK=y.cK->k=l
theorem GH.nil (p:ej):GH p 0 λ_=>none:=⟨cP _,λj=>⟨λh=>by simp at h,λ⟨k,x,h,_⟩=>by omega⟩,λk x h=>by omega,λk l x y h=>by omega⟩
theorem GH.add {p:ej} {i:Nat} {m:Int->Option Unit} (h:GH p i m) {x:Block} (hx:p.blocks[i]?=some x) (hf:NG x) (hu:∀s∈x.ins,B7 p s) (hd:0<=x.cK->(m x.cK).isSome=false) {m':Int->Option Unit} (hm:∀j,(m' j).isSome=true↔j=x.cK\/(m j).isSome=true):GH p (i+1) m':=by
 refine ⟨(bh.1 hx).1,λj=>?_,λk y hk hy=>?_,λk l y z hk hl hy hz h0 he=>?_⟩
 ·rw [hm j,h.cK j]
  constructor
  ·rintro (e|⟨k,y,hk,hy,e⟩)
   ·exact ⟨i,x,by omega,hx,e.symm⟩
   ·exact ⟨k,y,by omega,hy,e⟩
  ·rintro ⟨k,y,hk,hy,e⟩
   by_cases GI:k=i
   ·subst GI;rw [hx] at hy;cases hy;exact .inl e.symm
   ·exact .inr ⟨k,y,by omega,hy,e⟩
 ·by_cases GI:k=i
  ·subst GI;rw [hx] at hy;cases hy;exact ⟨hf,hu⟩
  ·exact h.ok k y (by omega) hy
 ·have key:∀(k:Nat) (y:Block),k < i->p.blocks[k]?=some y->0<=x.cK->y.cK≠x.cK:=λk y hk hy h0 e=>by
   have:=(h.cK x.cK).2 ⟨k,y,hk,hy,e⟩
   rw [hd h0] at this;cases this
  by_cases GI:k=i
  ·subst GI;rw [hx] at hy;cases hy
   by_cases Dp:l=k
   ·exact Dp.symm
   ·exact absurd he.symm (key l z (by omega) hz h0)
  ·by_cases Dp:l=i
   ·subst Dp;rw [hx] at hz;cases hz
    exact absurd he (key k y (by omega) hy (by omega))
   ·exact h.J2 k l y z (by omega) (by omega) hy hz h0 he
structure SS where
 a:List Source
 b:List Source

def atR (l:List Block):Nat->Int->Option Int
 | 0=>λ_=>none
 | i+1=>λj=>if j=(l.getD i Yr).key then some (i:Int) else atR l i j
structure Cut where
 root:Int
 l:List Int
open Classical in
noncomputable def ap1 (c:Cut):Bool:=decide ((∀(i:Nat) (x:Int),c.l[i]?=some x->2<=x/\x<=c.root/\∀(j:Nat) (y:Int),i=j+1->c.l[j]?=some y->y < x)/\c.l.length<=4)
theorem akp {a b:Nat} (ha:a < 65536) (hb:b < 65536):fJ .or .i64 (a:Int) (b:Int)=((a ||| b:Nat):Int):=by
 have h:a ||| b < 65536:=Nat.or_lt_two_pow (n:=16) ha hb
 unfold fJ
 simp only
 have e:(BitVec.ofInt IntKind.i64.bits (a:Int) ||| BitVec.ofInt IntKind.i64.bits (b:Int)).toNat=a ||| b:=by
  rw [BitVec.toNat_or,BitVec.ofInt_natCast,BitVec.ofInt_natCast,BitVec.toNat_ofNat,BitVec.toNat_ofNat]
  show a % 2^64 ||| b % 2^64=a ||| b
  rw [LZ (show a < 2^64 by omega),LZ (show b < 2^64 by omega)]
 rw [e,eP (by omega) (by omega)]
structure TG where
 i:Nat
 t:Int
theorem akq {i:Nat} (h:i < 16):IntKind.i64.wrap (1*2^(min ((i:Int)).toNat IntKind.i64.bits))=((2^i:Nat):Int):=by
 have:i=0\/i=1\/i=2\/i=3\/i=4\/i=5\/i=6\/i=7\/i=8\/i=9\/i=10\/i=11\/i=12\/i=13\/i=14\/i=15:=by omega
 rcases this with e|e|e|e|e|e|e|e|e|e|e|e|e|e|e|e<;>subst e<;>rfl
theorem aik {i:Nat} (h:i < 16):2^i < 65536:=by
 have:2^i<=2^15:=LJ (by decide) (by omega)
 omega
theorem MU (l:List Bool):∀i,i<=15->∃n:Nat,tQ l i=(n:Int)/\n < 2^i
 | 0,_=>⟨0,rfl,by decide⟩
 | i+1,h=>by
  obtain ⟨n,h1,h2⟩:=MU l i (by omega)
  have hp:=aik (i:=i) (by omega)
  unfold tQ
  split
  ·refine ⟨n ||| 2^i,?_,Nat.or_lt_two_pow (HL h2 (LO (by decide) (by omega))) (LO (by decide) (by omega))⟩
   rw [h1,akq (by omega),akp (by omega) hp]
  ·exact ⟨n,h1,HL h2 (LO (by decide) (by omega))⟩
theorem Ux {l:List Bool} {i:Nat} (h:l[i]?=some true):fJ .or .i64 (tQ l i) (IntKind.i64.wrap (1*2^(min ((i:Int)).toNat IntKind.i64.bits)))=tQ l (i+1):=by
 show _=if l.getD i false then _ else _
 rw [List.getD_eq_getElem?_getD,h];rfl
theorem Vs {l:List Bool} {i:Nat} (h:l[i]?=some false):tQ l i=tQ l (i+1):=by
 show _=if l.getD i false then _ else _
 rw [List.getD_eq_getElem?_getD,h];rfl
structure akr where
 t:Int
 l:List Bool
@[reducible] noncomputable def Jb:Vc.Spec where
 α:=akr
 args x:=[.i .i64 (λ_=>x.t),.sl 1 pr (λ_=>x.l)]
 pre x:=x.l.length<=1000000
 res x:=.b (λ_=>Cp x.t x.l)
noncomputable def cLk (n m:Nat):Ctx:=fk n m [] []
theorem Xl (n m:Nat):CB PP (cLk n m):=fm n m trivial trivial
theorem Vt:dw (PP ()) 30 Jb:=by
 refine fH (Xl 0 0) (fo Try.func30) (λa=>⟨trivial,(λx=>(H5 x).1),trivial⟩) (λa=>trivial) ?_
 rintro ⟨t,l⟩ hx
 have Qv:l.length<=1000000:=hx
 obtain ⟨R,hR⟩:∃R,Cp t l=R:=⟨_,rfl⟩
 have KB:Jb.res ⟨t,l⟩=.b (λ_=>R):=by rw [<-hR]
 rw [KB]
 unfold Cp at hR
 obtain ⟨U,hU⟩:∃U:Nat->Int,∀i,U i=tQ l i:=⟨_,λ_=>rfl⟩
 have Qw:0=U 0:=by rw [hU];rfl
 refine ⟨?_⟩
 cbv
 refine ⟨λh=>?_,λh=>?_⟩
 ·have h5:5 < l.length:=by have h':fu 5 (l.length:Int)=true:=h.out;simp only [fu,decide_eq_true_eq] at h';omega
  rw [if_pos h5] at hR
  cbv
  exact ⟨by exact fj⟩
 have h5:¬5 < l.length:=by have h':fu 5 (l.length:Int)=false:=h.out;simp only [fu,decide_eq_false_iff_not] at h';omega
 rw [if_neg h5] at hR
 clear h
 cbv
 refine Sat.eI (Xl 0 0) 0 5 [] (λi:Nat=>[(5,.i .i64 (λ_=>U i)),(11,.sl 1 pr (λ_=>l)),(12,.i .i64 (λ_=>(l.length:Int))),(13,.i .i64 (λ_=>(i:Int)))]) (λi=>[]) (λi=>i<=l.length) (λi=>l.length - i) 0 (by have gP:=Qw;exact bp) (by exact aX) (cP _) ?_
 intro i hi
 have hi:i<=l.length:=hi
 have h0:=n0 i
 have h1:=eU (i:=i) (by omega)
 cbv
 refine ⟨λh=>?_,λh=>?_⟩
 ·have bU:i < l.length:=aJ
  have cD:l.length - (i+1) < l.length - i:=by omega
  refine (cy bU).elim λb hb=>?_
  cbv
  refine ⟨b,⟨h0,hb⟩,?_⟩
  cbv
  refine ⟨λh=>?_,λh=>?_⟩
  ·have rA:b=true:=h.out
   have db:fJ .or .i64 (U i) (IntKind.i64.wrap (1*2^(min ((i:Int)).toNat IntKind.i64.bits)))=U (i+1):=by rw [hU,hU];exact Ux (by rw [hb,rA])
   cbv
   refine ⟨⟨h0⟩,?_⟩
   cbv
   exact ⟨i+1,by have bI:=db;have iK:=h1;exact bp,by exact aX,⟨⟨bU,cD⟩⟩⟩
  ·have rA:b=false:=h.out
   have db:U i=U (i+1):=by rw [hU,hU];exact Vs (by rw [hb,rA])
   cbv
   exact ⟨i+1,by have bI:=db;have iK:=h1;exact bp,by exact aX,⟨⟨bU,cD⟩⟩⟩
 have cf:i=l.length:=by
  have h':fu i l.length=false:=h.out
  have h2:¬(i:Int) < l.length:=by simpa [fu] using h'
  omega
 have hU1:0<=U i:=by
  obtain ⟨n,hn,_⟩:=MU l i (by omega)
  rw [hU,hn];exact LU _
 have e:gG (fJ .and .i64 (t.fdiv (2^(min (U i).toNat IntKind.i64.bits))) 1) 1=R:=by rw [<-hR,hU,cf];rfl
 clear h
 cbv
 refine ⟨⟨hU1⟩,?_⟩
 cbv
 exact ⟨by have nG:=e;exact wV⟩
structure CP (p:ej) (st sig out:List Int):Prop where
 sl:sig.length=p.ins.length+2*p.blocks.length
 ol:out.length=p.blocks.length
 CQ:∀s:Nat,s < p.ins.length->sig[s]?=some (Fc p s)
 cK:∀(b:Nat) (x:Block),p.blocks[b]?=some x->0<=x.cK->sig[p.ins.length+2*b]?=some (oR [3,x.cK])/\sig[p.ins.length+2*b+1]?=some (oR [1,x.cK])/\out[b]?=some (oR [1,x.cK])
 done:∀(b:Nat) (x:Block),p.blocks[b]?=some x->x.cK < 0->St st 2 b->sig[p.ins.length+2*b]?=some (yC p b)/\out[b]?=some (yC p b)
theorem CP.at {p:ej} {st sig out:List Int} (h:CP p st sig out) {s:Int} (hu:B7 p s) (hd:(p.ins.length:Int)<=s->¬sa p.ins.length s->St st 2 (mN p.ins.length s)):sig.getD s.toNat 0=JK p (yC p) s:=by
 have h0:=hu.lo
 have h1:=hu.hi
 unfold ej.sigs at h1
 unfold JK
 rw [List.getD_eq_getElem?_getD]
 split
 ·rename_i aP
  rw [h.CQ s.toNat (by omega),Int.toNat_of_nonneg h0];rfl
 ·rename_i cf
  split
  ·rename_i hf
   obtain ⟨x,hx,hr⟩:=hu.flip (by omega) hf
   have e:s.toNat=p.ins.length+2*mN p.ins.length s+1:=by unfold sa at hf;unfold mN;omega
   rw [e,(h.cK _ x hx hr).2.1]
   unfold Xj
   rw [hx];simp [hr]
  ·rename_i hf
   have jk:mN p.ins.length s < p.blocks.length:=by unfold mN;omega
   have e:s.toNat=p.ins.length+2*mN p.ins.length s:=by unfold sa at hf;unfold mN;omega
   have hx:p.blocks[mN p.ins.length s]?=some (p.blocks[mN p.ins.length s]):=dE jk
   unfold O4
   rw [hx,e]
   simp only
   split
   ·rename_i hr;rw [(h.cK _ _ hx hr).1];rfl
   ·rename_i hr;rw [(h.done _ _ hx (by omega) (hd (by omega) hf)).1];rfl
theorem CP.key {p:ej} {st sig out:List Int} (h:CP p st sig out) {r:Nat->Nat} (hr:IH p r) {b:Nat} {x:Block} (hx:p.blocks[b]?=some x) (hg:x.cK < 0) (hu:∀s∈x.ins,B7 p s) (hd:∀s∈x.ins,(p.ins.length:Int)<=s->¬sa p.ins.length s->St st 2 (mN p.ins.length s)):dgK sig x=yC p b:=by
 have hs:=aew (aex hr) b
 show _=yC p b
 unfold yC
 rw [hs]
 show _=FN p (yC p) b
 unfold FN
 rw [hx]
 simp only
 rw [if_neg (by omega)]
 unfold O5 dgK
 congr 4
 exact rS λs hs=>by rw [h.at (hu s hs) (hd s hs)]
def FQ (out:List Bool) (s:Int):Bool:=out.getD s.toNat false
def yD (s:VK) (out:List Bool) (x:Cell):Bool:=if x.ew < 0 then Cp x.table (x.ins.map (FQ out)) else Fe s x.ew (x.ins.map (FQ out))
def kO (ms:List (List Int)) (inn:List Bool) (C:List Cell):List Bool:=C.foldl (λvs x=>vs++[yD ⟨[],ms⟩ vs x]) ([false,true]++inn)
theorem Tu {ms:List (List Int)} {inn:List Bool} {C:List Cell} {i:Nat} {x:Cell} (hx:C[i]?=some x):kO ms inn (C.take i)++[yD ⟨[],ms⟩ (kO ms inn (C.take i)) x]=kO ms inn (C.take (i+1)):=by
 unfold kO
 rw [ju,hx,nX,List.foldl_append,mA,Ed]
theorem Uy {ms:List (List Int)} {inn:List Bool} {C:List Cell}:∀{i:Nat},i<=C.length->(kO ms inn (C.take i)).length=2+inn.length+i
 | 0,_=>by unfold kO;simp;omega
 | i+1,h=>by
  obtain ⟨x,hx⟩:=cy (l:=C) (i:=i) (by omega)
  rw [<-Tu hx,fS,Uy (by omega)];simp;omega
structure aks (m:dM) (inn:List Bool) (ms:List (List Int)) (V:Nat->List Bool):Prop where
 z:[false,true]++inn=V 0
 grow:∀(i:Nat) (x:Cell),m.cells[i]?=some x->V i++[yD ⟨[],ms⟩ (V i) x]=V (i+1)/\(V i).length<=600/\x.ins.length<=4/\x.ew<=63/\∀s∈x.ins,0<=s/\s.toNat < (V i).length
 fin:∀i,i<=m.cells.length->m.cells.length<=i->V i=kO ms inn m.cells
theorem akt {m:dM} (h:Ay m) {inn:List Bool} (hn:m.n=inn.length) (ms:List (List Int)):∃V,aks m inn ms V:=by
 have h6:=h.n6
 refine ⟨λi=>kO ms inn (m.cells.take i),rfl,λi x hx=>?_,λi hi hg=>?_⟩
 ·have hi:=(bh.1 hx).1
  have hl:=Uy (ms:=ms) (inn:=inn) (C:=m.cells) (i:=i) (by omega)
  obtain ⟨c1,c2⟩:=h.cell i x hx
  have hc:x.ins.length<=4/\x.ew<=63:=by
   simp only [oO,so,sq,cu,decide_eq_true_eq] at c1
   omega
  refine ⟨Tu hx,by omega,hc.1,hc.2,λs hs=>?_⟩
  have:=c2 s hs
  omega
 ·show kO ms inn (m.cells.take i)=_
  rw [jt hg]
structure aku where
 m:dM
 inn:List Bool
 ms:List (List Int)
structure O6 (m:dM) (inn:List Bool) (ms:List (List Int)):Prop where
 v:Ay m
 n:m.n=inn.length
@[reducible] noncomputable def Ys:Vc.Spec where
 α:=aku
 args x:=[.agg (yB x.m),.sl 1 pr (λ_=>x.inn),.sl 1 fP (λ_=>x.ms)]
 pre x:=O6 x.m x.inn x.ms
 res x:=.sl 1 pr (λ_=>kO x.ms x.inn x.m.cells)
 fr:=true
def GJ (mn:Int) (mc:List Cell) (md:List Int) (inn:List Bool) (ms:List (List Int)) (i:Nat) (V:List Bool) (v:Bool):Vc.St :=
 ⟨[.agg [.i .i64 (λ_=>mn),.sl 3 lK (λ_=>mc),.sl 1 bK (λ_=>md)],.sl 1 pr (λ_=>inn),.sl 1 fP (λ_=>ms),.ptr 0 0,.any,.any,.cH,.own 2,.any,.any,.any,.any,.any,.any,.b (λ_=>v),.any,.any,.any,.any,.any,
   .sl 3 lK (λ_=>mc),.i .i64 (λ_=>(mc.length:Int)),.i .i64 (λ_=>(i:Int))]++qZ 80,
  [.fix 38 [.i .i64 (λ_=>mn),.sl 3 lK (λ_=>mc),.sl 1 bK (λ_=>md)],.dead,.dyn 4 1 pr (λ_=>V),.dead,.dead]⟩
structure MrF (xi:List Int) (xt xr:Int) (ms:List (List Int)) (V W:List Bool) (v:Bool):Prop where
 wl:W.length=xi.length
 w4:W.length<=4
 at_:∀(k:Nat) (s:Int),xi[k]?=some s->0<=s/\∃b,V[s.toNat]?=some b/\W[k]?=some b
 neg:xr < 0->Cp xt W=v
 pos:0<=xr->Fe ⟨[],ms⟩ xr W=v
theorem mrF {xi:List Int} {xt xr:Int} {V:List Bool} (ms:List (List Int)) (h4:xi.length<=4) (hs:∀s∈xi,0<=s/\s.toNat < V.length):∃W v,yD ⟨[],ms⟩ V ⟨xi,xt,xr⟩=v/\MrF xi xt xr ms V W v:=by
 refine ⟨xi.map (FQ V),_,rfl,by rw [kF],by rw [kF];exact h4,λk s hk=>?_,λh=>?_,λh=>?_⟩
 ·obtain ⟨h0,h1⟩:=hs s (cN hk)
  obtain ⟨b,hb⟩:=cy h1
  refine ⟨h0,b,hb,?_⟩
  rw [k7,hk]
  show some (FQ V s)=some b
  unfold FQ
  rw [List.getD_eq_getElem?_getD,hb];rfl
 ·unfold yD;rw [if_pos h]
 ·unfold yD;rw [if_neg (by show ¬xr < 0;omega)]
def pd (W:List Bool) (k:Nat):List Bool:=W.take k++List.replicate (W.length - k) false
theorem afC {W:List Bool} {k:Nat} {b:Bool} (hb:W[k]?=some b):(pd W k)[k]?=some false/\(pd W k).set k b=pd W (k+1)/\(pd W (k+1))[k]?=some b/\k < (pd W k).length/\k < (pd W (k+1)).length:=by
 have hk:=(bh.1 hb).1
 have ht:(W.take k).length=k:=by rw [jv];omega
 have hr:List.replicate (W.length - k) false=false :: List.replicate (W.length - (k+1)) false:=by rw [show W.length - k=(W.length - (k+1))+1 by omega,D7]
 have h1:(pd W k)[k]?=some false:=by
  unfold pd
  rw [oL (by omega),ht,xx,hr];rfl
 have h2:(pd W k).set k b=pd W (k+1):=by
  unfold pd
  rw [LH _ _ (by omega),ht,xx,hr,ju,hb]
  simp
 refine ⟨h1,h2,?_,(bh.1 h1).1,?_⟩
 ·rw [<-h2,nW (bh.1 h1).1]
 ·rw [<-h2,pZ];exact (bh.1 h1).1
theorem afD {W:List Bool} {k:Nat} (h:W.length<=k):pd W k=W:=by
 unfold pd
 rw [jt h,Nat.sub_eq_zero_of_le h];simp
noncomputable def akv (n m:Nat):Ctx:=cT n m [] [] [] [] [2] [60]
theorem agQ (n m:Nat):CB PP (akv n m):=cW n m trivial trivial
noncomputable def cMe (n m:Nat):Ctx:=cT n m [] [(30,Jb)] [] [] [18]
theorem N8 (n m:Nat):CB PP (cMe n m):=cW n m trivial ⟨Vt,trivial⟩
noncomputable def akw (n m:Nat):Ctx:=cT n m [] []
theorem agR (n m:Nat):CB PP (akw n m):=cW n m trivial trivial
theorem agS:dw (PP ()) 16 Ys:=by
 refine VJ (agQ 0 0) (fo Try.func16) (λa=>⟨zL a.m,λx=>(H5 x).1,λx=>(qS x).1,trivial⟩) (λa=>(λx=>(H5 x).1)) ?_
 rintro ⟨⟨mn,mc,md⟩,inn,ms⟩ hx
 obtain ⟨hv,hn⟩:O6 ⟨mn,mc,md⟩ inn ms:=hx
 have hn:mn=inn.length:=hn
 have h6:2+mn+(mc.length:Int)<=600:=hv.n6
 refine (akt hv hn ms).elim λV hF=>?_
 have hz:[false,true]++inn=V 0:=hF.z
 have fR:∀(i:Nat) (x:Cell),mc[i]?=some x->V i++[yD ⟨[],ms⟩ (V i) x]=V (i+1)/\(V i).length<=600/\x.ins.length<=4/\x.ew<=63/\∀s∈x.ins,0<=s/\s.toNat < (V i).length:=hF.grow
 have mQ:∀i,i<=mc.length->mc.length<=i->V i=kO ms inn mc:=hF.fin
 have Pl:mc.length<=600:=by omega
 have b1:(2+inn.length)*1<=140737488355328:=by omega
 have b2:2+inn.length<=9223372036854775807:=by omega
 clear hF
 refine ⟨?_⟩
 cbv
 refine ⟨[false,true],⟨by exact fj,rfl⟩,?_⟩
 cbv
 refine ⟨inn,⟨by exact aY,b1,b2⟩,?_⟩
 cbv
 refine Sat.jN (N8 0 0) ?_
 cbv
 refine Sat.eI (N8 0 0) 3 7 [(.t 7,2)] (λi:Nat=>[(7,.own 2),(20,.sl 3 lK (λ_=>mc)),(21,.i .i64 (λ_=>(mc.length:Int))),(22,.i .i64 (λ_=>(i:Int)))]) (λi=>[(2,.dyn 4 1 pr (λ_=>V i))]) (λi=>i<=mc.length) (λi=>mc.length - i) 0 (by exact aX) (by have eu:=hz;exact bp) (cP _) ?_
 intro i hi
 have hi:i<=mc.length:=hi
 have dY:=n0 i
 have gH:=eU (i:=i) (by omega)
 have mQ:=mQ i hi
 cbv
 refine ⟨λh=>?_,λh=>?_⟩
 ·have bU:i < mc.length:=aJ
  have cD:mc.length - (i+1) < mc.length - i:=by omega
  refine (cy bU).elim λx=>?_
  refine x.casesOn λxi xt xr hx=>?_
  have h3:V i++[yD ⟨[],ms⟩ (V i) ⟨xi,xt,xr⟩]=V (i+1)/\(V i).length<=600/\xi.length<=4/\xr<=63/\∀s∈xi,0<=s/\s.toNat < (V i).length:=fR i _ hx
  refine (mrF (xt:=xt) (xr:=xr) ms h3.2.2.1 h3.2.2.2.2).elim λW hW=>?_
  refine hW.elim λv hW=>?_
  have b9:V i++[v]=V (i+1):=by rw [<-hW.1];exact h3.1
  have hR:MrF xi xt xr ms (V i) W v:=hW.2
  have Qs:W.length=xi.length:=hR.wl
  have hw4:W.length<=4:=hR.w4
  have w8:(V i).length<=600:=h3.2.1
  have ar4:xr<=63:=h3.2.2.2.1
  have qt:0<=(xi.length:Int)/\(xi.length:Int)<=(xi.length:Int)/\((1:Nat):Int)*(xi.length:Int)<=281474976710656/\(xi.length:Int)<=9223372036854775807:=by omega
  have JJ:List.replicate ((xi.length:Nat):Int).toNat false=pd W 0:=by
   rw [jC,<-Qs];unfold pd;simp
  have b5:((V i).length+1)*1<=140737488355328:=by omega
  have b6:(V i).length+1<=9223372036854775807:=by omega
  refine (⟨_,rfl⟩:∃U,tQ W=U).elim λU hU=>?_
  have Qw:0=U 0:=by rw [<-hU];rfl
  refine (⟨_,rfl⟩:∃L,pd W=L).elim λL hL=>?_
  rw [hL] at JJ
  clear h h3 fR
  cbv
  refine ⟨⟨xi,xt,xr⟩,⟨dY,hx⟩,?_⟩
  cbv
  refine ⟨⟨qt⟩,?_⟩
  apply xN (λc k=>Sat [] false PP c (GJ mn mc md inn ms i (V i) v) k)
  ·intro tail
   refine Sat.eI (N8 0 0) 5 11 [(.t 10,4)] (λk:Nat=>[(11,.i .i64 (λ_=>U k)),(20,.sl 3 lK (λ_=>mc)),(21,.i .i64 (λ_=>(mc.length:Int))),(22,.i .i64 (λ_=>(i:Int))),(31,.sl 1 bK (λ_=>xi)),(32,.i .i64 (λ_=>(xi.length:Int))),(33,.i .i64 (λ_=>(k:Int)))]) (λk=>[(4,.dyn 4 1 pr (λ_=>L k))]) (λk=>k<=xi.length) (λk=>xi.length - k) 0 (by have gP:=Qw;exact bp) (by have eu:=JJ;exact bp) (cP _) ?_
   intro k hk
   have hk:k<=xi.length:=hk
   have sI:=n0 k
   have kR:=eU (i:=k) (by omega)
   cbv
   refine ⟨λh=>?_,λh=>?_⟩
   ·have dP:k < xi.length:=aJ
    have Yt:xi.length - (k+1) < xi.length - k:=by omega
    refine (cy dP).elim λs hs=>?_
    have mb:=hR.at_ k s hs
    have P3:=mb.1
    refine mb.2.elim λb hb=>?_
    obtain ⟨f1,f2,f3,f4,f5⟩:=afC hb.2
    have pG:=hb.1
    have fV:=(bh.1 pG).1
    rw [hL] at f1 f2 f3 f4 f5
    rw [<-f2] at f3 f5
    have oI:=hb.2
    have OM:b=true->fJ .or .i64 (U k) (IntKind.i64.wrap (1*2^(min ((k:Int)).toNat IntKind.i64.bits)))=U (k+1):=λe=>by rw [<-hU];exact Ux (by rw [oI,e])
    have di:b=false->U k=U (k+1):=λe=>by rw [<-hU];exact Vs (by rw [oI,e])
    clear h
    cbv
    refine ⟨s,⟨sI,hs⟩,?_⟩
    cbv
    refine ⟨⟨P3,fV⟩,?_⟩
    cbv
    refine ⟨b,⟨pG,rfl⟩,?_⟩
    cbv
    refine ⟨⟨sI,f4⟩,?_⟩
    cbv
    refine ⟨(false,b),⟨f1,rfl,by exact fj⟩,?_⟩
    cbv
    refine ⟨⟨sI,f5⟩,?_⟩
    cbv
    refine ⟨b,⟨f3,rfl⟩,?_⟩
    cbv
    refine ⟨λh=>?_,λh=>?_⟩
    ·have rA:b=true:=h.out
     have db:=OM rA
     clear h
     cbv
     refine ⟨⟨sI⟩,?_⟩
     cbv
     exact ⟨k+1,by have bI:=db;have iK:=kR;exact bp,by have eu:=f2;exact bp,⟨⟨dP,Yt⟩⟩⟩
    ·have rA:b=false:=h.out
     have db:=di rA
     clear h
     cbv
     exact ⟨k+1,by have bI:=db;have iK:=kR;exact bp,by have eu:=f2;exact bp,⟨⟨dP,Yt⟩⟩⟩
   have hkg:xi.length<=k:=aJ
   have hLW:L k=W:=by rw [<-hL];exact afD (by omega)
   have hke:k=xi.length:=by omega
   have hkw:k=W.length:=by omega
   obtain ⟨u,hu,_⟩:=MU W k (by omega)
   rw [hU] at hu
   have PB:CN W=(u:Int):=by unfold CN;rw [<-hkw,hU,hu]
   have Yu:(CN W).toNat=u:=by rw [PB,jC]
   have hu0:0<=U k:=by rw [hu];exact LU _
   have hut:(U k).toNat=u:=by rw [hu,jC]
   have hlk:(L k).length<=1000000:=by rw [hLW];omega
   have Ji:xr < 0->Cp xt (L k)=v:=λh=>by rw [hLW];exact hR.neg h
   have kL:=hR.pos
   have hnq:xr < 0->¬0<=xr:=λh=>by omega
   have hq:0<=xr->IntKind.i64.wrap (xr.tdiv 8)=xr / 8:=λh=>by rw [SH h];exact eP (by omega) (by omega)
   have hm8:0<=xr->xr.tmod 8=xr % 8:=λh=>Int.tmod_eq_emod_of_nonneg h
   have O7:0<=xr->0<=xr.tmod 8:=λh=>by rw [hm8 h];omega
   have ly:0<=xr->fu (IntKind.i64.wrap (xr.tdiv 8)) (ms.length:Int)=false->false=v:=λh0 h'=>by
    rw [hq h0] at h'
    have h2:¬xr / 8 < (ms.length:Int):=by simpa [fu] using h'
    have va:ms[(xr / 8).toNat]?=none:=l7 (by omega)
    rw [<-kL h0];unfold Fe;simp only;rw [va]
   have jx:0<=xr->fu (IntKind.i64.wrap (xr.tdiv 8)) (ms.length:Int)=true->0<=IntKind.i64.wrap (xr.tdiv 8)/\∃m,ms[(IntKind.i64.wrap (xr.tdiv 8)).toNat]?=some m/\(fu (U k) (m.length:Int)=false->false=v)/\(fu (U k) (m.length:Int)=true->∃z,m[(U k).toNat]?=some z/\gG (fJ .and .i64 (z.fdiv (2^(min (xr.tmod 8).toNat IntKind.i64.bits))) 1) 1=v):=λh0 h'=>by
    rw [hq h0] at h' ⊢
    have h2:xr / 8 < (ms.length:Int):=by simpa [fu] using h'
    obtain ⟨m,hm⟩:=cy (l:=ms) (i:=(xr / 8).toNat) (by omega)
    refine ⟨by omega,m,hm,λh3=>?_,λh3=>?_⟩
    ·have h4:¬U k < (m.length:Int):=by simpa [fu] using h3
     rw [hu] at h4
     have va:m[(CN W).toNat]?=none:=by rw [Yu];exact l7 (by omega)
     rw [<-kL h0];unfold Fe;simp only;rw [hm];simp only;rw [va]
    ·have h4:U k < (m.length:Int):=by simpa [fu] using h3
     rw [hu] at h4
     obtain ⟨z,hz⟩:=cy (l:=m) (i:=u) (by omega)
     refine ⟨z,by rw [hut];exact hz,?_⟩
     rw [<-kL h0];unfold Fe;simp only;rw [hm];simp only;rw [Yu,hz,hm8 h0];rfl
   clear h sI kR hk
   cbv
   refine ⟨λh=>?_,λh=>?_⟩
   ·have hr:xr < 0:=aJ
    have hv:=Ji hr
    have hnr:=hnq hr
    clear h
    cbv
    refine ⟨⟨xt,L k⟩,⟨.inl ⟨by exact aY,rfl⟩,hlk⟩,?_⟩
    cbv
    refine ⟨⟨by decide⟩,λh=>?_,λh=>?_⟩
    ·have h0:0<=xr:=aJ
     cases (show False from hnr h0)
    clear h
    cbv
    exact ga 5 (GJ mn mc md inn ms i (V i) v) (by have nG:=hv;exact bp) (by exact aX) tail
   ·have hr:0<=xr:=aJ
    have ly:=ly hr
    have jx:=jx hr
    have O7:=O7 hr
    clear h Ji
    cbv
    refine ⟨⟨by decide⟩,λh=>?_,λh=>?_⟩
    rotate_left
    ·have h0:¬0<=xr:=aJ
     cases (show False from h0 hr)
    clear h
    cbv
    refine ⟨λh=>?_,λh=>?_⟩
    rotate_left
    ·have e:=ly h.out
     clear h
     cbv
     exact ga 5 (GJ mn mc md inn ms i (V i) v) (by have eW:=e;exact bp) (by exact aX) tail
    have jx:=jx h.out
    have vy:=jx.1
    refine jx.2.elim λm oE=>?_
    have hm:=oE.1
    have AI:=oE.2.1
    have nD:=oE.2.2
    clear h
    cbv
    refine ⟨m,⟨vy,hm⟩,?_⟩
    cbv
    refine ⟨λh=>?_,λh=>?_⟩
    rotate_left
    ·have e:=AI h.out
     clear h
     cbv
     exact ga 5 (GJ mn mc md inn ms i (V i) v) (by have eW:=e;exact bp) (by exact aX) tail
    refine (nD h.out).elim λz sH=>?_
    have hz:=sH.1
    have e:=sH.2
    clear h
    cbv
    refine ⟨m,⟨vy,hm⟩,?_⟩
    cbv
    refine ⟨z,⟨hu0,hz⟩,?_⟩
    cbv
    refine ⟨⟨by decide⟩,⟨O7⟩,?_⟩
    exact ga 5 (GJ mn mc md inn ms i (V i) v) (by have nG:=e;exact bp) (by exact aX) tail
  ·refine Sat.jN (agR 0 0) ?_
   cbv
   refine ⟨[v],⟨by exact aY,b5,b6⟩,?_⟩
   cbv
   exact ⟨i+1,by have bI:=gH;exact bp,by have eu:=b9;exact bp,⟨⟨bU,cD⟩⟩⟩
 ·have cf:mc.length<=i:=aJ
  have mQ:=mQ cf
  clear h
  cbv
  refine ⟨?_⟩
  cbv
  exact ⟨by have gM:=mQ;exact bN,λx=>rfl⟩
end Go.Proofs.Pk
