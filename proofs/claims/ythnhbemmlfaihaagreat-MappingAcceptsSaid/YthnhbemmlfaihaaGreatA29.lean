import Derived.Test.YthnhbemmlfaihaaGreatA13
import Derived.Test.YthnhbemmlfaihaaGreatA15
import Derived.Test.YthnhbemmlfaihaaGreatA26
import Derived.Test.YthnhbemmlfaihaaGreatA27
import Derived.Test.YthnhbemmlfaihaaGreatA28
set_option linter.unusedVariables false
set_option linter.unusedSimpArgs false
set_option maxRecDepth 10000
set_option maxHeartbeats 64000000
namespace Go.Proofs.Pk
open Go Go.Vc
structure ajP (n:Net) (m:ea) (c:kA):Prop where
 ck:Fm n m c 0
 ok:BN n.ins.length n.cq n.bA m c
 v:uP m
 cells:m.cells.length<=n.cq.length
 gY:Nd ⟨m,c,0⟩
 dp:qN m<=qN (zH n.ins.length n.cq n.bA)
theorem ae6 {m:ea} (h:uP m) (hd:m.bA.length<=1000000):EJ m:=by
 refine ⟨by have:=h.n6;have:=h.n0;omega,λx hx=>?_,hd⟩
 obtain ⟨i,hi,rfl⟩:=Ln.1 hx
 obtain ⟨c1,_⟩:=h.cell i _ (eG hi)
 simp only [nM,pg,pU,b9,decide_eq_true_eq] at c1
 omega
theorem OE {n:Net} {m:ea} {c:kA} (h:Ab n m c 0):ajP n m c:=by
 have hm:=h.eq
 unfold mapM at hm
 cases hl:iZ n.ins.length n.cq with
 | none=>rw [hl] at hm;simp at hm
 | some s =>
  rw [hl] at hm
  simp only [Prod.mk.injEq] at hm
  obtain ⟨rfl,rfl,_⟩:=hm
  have L:=HQ _ rfl h.G hl
  have hb:=afB h.G L h.dr
  have hc:=acr hb
  obtain ⟨hv,j3⟩:=UX h.G hc
  have pw:(lW n.ins.length n.cq s n.bA).1.bA.length<=1000000:=by rw [hc.dl];exact h.gY
  have hf:=ae6 hv pw
  have l9:∀l∈(lW n.ins.length n.cq s n.bA).2.leaves,l.length<=1000000:=λl hl=>by
   obtain ⟨i,hi,rfl⟩:=Ln.1 hl
   have j5:i < (lW n.ins.length n.cq s n.bA).1.cells.length:=by rw [<-hc.ll];exact hi
   obtain ⟨x,hx⟩:=cg j5
   obtain ⟨r,hr⟩:=cg (l:=(lW n.ins.length n.cq s n.bA).2.root) (i:=i) (by rw [hc.rl];exact j5)
   obtain ⟨_,_,F⟩:=Ou h.G hc hx hr (eG hi)
   have h1:=hf.cin x (cM hx)
   rw [F.ins,jQ] at h1
   exact h1
  have xB:=hf.cells
  exact ⟨⟨h.G,h.gY,xB,hf.cin,l9,by rw [hb];rfl⟩,hc,hv,j3,⟨hf,by show (lW n.ins.length n.cq s n.bA).2.root.length<=_;rw [hc.rl];omega,by rw [hc.ll];exact xB,l9⟩,acO h.G hc⟩
theorem ago {n:Net} {m:ea} {c:kA} {e:Int} (h:Ab n m c e):e=0\/e=2/\m=⟨0,[],[]⟩/\c=⟨[],[]⟩:=by
 have hm:=h.eq
 unfold mapM at hm
 cases hl:iZ n.ins.length n.cq with
 | none =>
  rw [hl] at hm
  simp only [Prod.mk.injEq] at hm
  obtain ⟨rfl,rfl,rfl⟩:=hm
  exact .inr ⟨rfl,rfl,rfl⟩
 | some s =>
  rw [hl] at hm
  simp only [Prod.mk.injEq] at hm
  exact .inl hm.2.2.symm


def Ki {A:Type} (r:Nat->Nat) (F:(Nat->A)->Nat->A):Prop:=∀f g b,(∀c,r c < r b->f c=g c)->F f b=F g b
def Kj {A:Type} (F:(Nat->A)->Nat->A) (d:A):Nat->Nat->A
 | 0,_=>d
 | n+1,b=>F (Kj F d n) b
theorem VZ {A:Type} {r:Nat->Nat} {F:(Nat->A)->Nat->A} (h:Ki r F) (d:A):∀(n m b:Nat),r b < n->r b < m->Kj F d n b=Kj F d m b
 | 0,_,_,h0,_=>absurd h0 (s5 _)
 | _+1,0,_,_,h0=>absurd h0 (s5 _)
 | n+1,m+1,b,h1,h2=>h _ _ b λc hc=>VZ h d n m c (by omega) (by omega)
def P9 {A:Type} (F:(Nat->A)->Nat->A) (K:Nat->A):Prop:=∀b,K b=F K b
theorem ad6 {A:Type} {r:Nat->Nat} {F:(Nat->A)->Nat->A} (h:Ki r F) (d:A):P9 F λb=>Kj F d (r b+1) b:=by
 intro b
 show F _ b=_
 exact h _ _ b λc hc=>VZ h d _ _ c hc (by omega)
noncomputable def fixF {A:Type} [Nonempty A] (F:(Nat->A)->Nat->A):Nat->A:=Classical.epsilon (P9 F)
theorem ad7 {A:Type} [hn:Nonempty A] {r:Nat->Nat} {F:(Nat->A)->Nat->A} (h:Ki r F):P9 F (fixF F) :=
 Classical.epsilon_spec ⟨_,ad6 h (Classical.choice hn)⟩
def XZ (h w:Int):Int:=IntKind.u64.wrap ((BitVec.ofInt 64 h ^^^ BitVec.ofInt 64 w).toNat:Nat)
def X0 (h w:Int):Int:=IntKind.u64.wrap (XZ h w*15485907386658061715)
def ahL (h w:Int):Int:=IntKind.u64.wrap (XZ (X0 h w) ((X0 h w).fdiv (2^(min (32:Int).toNat IntKind.u64.bits)))*11562461410679940143)
theorem ahM:∃f:Int->Int->Int,f=ahL:=⟨_,rfl⟩
noncomputable def WV:Int->Int->Int:=Classical.choose ahM
noncomputable def ahN (h:Int) (l:List Int):Int:=l.foldl (λh n=>WV h (IntKind.u64.wrap n)) h
noncomputable def oG (l:List Int):Int:=WV (ahN 512970876019 l) (IntKind.u64.wrap l.length)
noncomputable def EL (p:ef) (s:Int):Int:=let w:=p.ins.getD s.toNat ⟨0,0,0⟩;oG [2,w.kind,w.i,w.bit]
noncomputable def OF (p:ef) (K:Nat->Int) (b:Nat):Int:=match p.blocks[b]? with
 | some x=>if 0<=x.cJ then oG [3,x.cJ] else K b
 | none=>0
noncomputable def WW (p:ef) (b:Nat):Int:=match p.blocks[b]? with
 | some x=>if 0<=x.cJ then oG [1,x.cJ] else 0
 | none=>0
instance (n:Nat) (s:Int):Decidable (rT n s):=inferInstanceAs (Decidable ((s - n) % 2=1))
noncomputable def Jz (p:ef) (K:Nat->Int) (s:Int):Int :=
 if s < p.ins.length then EL p s else if rT p.ins.length s then WW p (mG p.ins.length s) else OF p K (mG p.ins.length s)
noncomputable def OG (p:ef) (K:Nat->Int) (x:Block):Int:=oG (4 :: x.table :: x.ej :: x.ins.map λs=>IntKind.i64.wrap (Jz p K s))
noncomputable def Fp (p:ef) (K:Nat->Int) (b:Nat):Int:=match p.blocks[b]? with
 | some x=>if 0<=x.cJ then 0 else OG p K x
 | none=>0
noncomputable def x1 (p:ef):Nat->Int:=fixF (Fp p)
noncomputable def X1 (p:ef) (K:Nat->Int) (b:Nat):Int:=match p.blocks[b]? with
 | some x=>if 0<=x.cJ then oG [1,x.cJ] else K b
 | none=>0
noncomputable def NF (p:ef):List Int:=(List.range p.blocks.length).map (X1 p (x1 p))
theorem map_eq {α β:Type} {f g:α->β} {l:List α} (h:∀x∈l,f x=g x):l.map f=l.map g:=rI h
theorem ad8 {p:ef} {r:Nat->Nat} (hr:Iu p r):Ki r (Fp p):=by
 intro f g b h
 unfold Fp
 cases hb:p.blocks[b]? with
 | none=>rfl
 | some x =>
  simp only
  split
  ·rfl
  ·unfold OG
   congr 3
   congr 1
   refine map_eq λs hs=>?_
   congr 1
   unfold Jz
   split
   ·rfl
   ·split
    ·rfl
    ·rename_i h1 h2
     have:=hr b x hb s hs (by omega) h2
     unfold OF
     split
     ·split
      ·rfl
      ·exact h _ this
     ·rfl
def X2 (v k:Int):Bool:=Vc.ga (Vc.fH .and .i64 (v.fdiv (2^(min k.toNat IntKind.i64.bits))) 1) 1
def tE (l:List Bool):Nat->Int
 | 0=>0
 | i+1=>if l.getD i false then Vc.fH .or .i64 (tE l i) (IntKind.i64.wrap (1*2^(min ((i:Int)).toNat IntKind.i64.bits))) else tE l i
def Ct (l:List Bool):Int:=tE l l.length
def B3 (table:Int) (l:List Bool):Bool:=if 5 < l.length then false else X2 table (Ct l)
def EM (s:Vo) (ej:Int) (l:List Bool):Bool:=match s.xX[(ej / 8).toNat]? with
 | some m=>match m[(Ct l).toNat]? with
  | some v=>X2 v (ej % 8)
  | none=>false
 | none=>false
structure BP (n:Nat) (l:List Int):Prop where
 len:l.length=n
 rng:∀x∈l,0<=x/\x < n
 nd:l.Nodup
def wJ (l:List Int) (i:Nat):Nat:=(l.getD i 0).toNat
theorem BP.get {n:Nat} {l:List Int} (h:BP n l) {i:Nat} (hi:i < n):l[i]?=some (wJ l i:Int)/\wJ l i < n:=by
 have hl:i < l.length:=by rw [h.len];exact hi
 have:=h.rng _ (Lz hl)
 unfold wJ
 rw [List.getD_eq_getElem?_getD,eG hl,rJ]
 refine ⟨?_,by omega⟩
 congr 1;omega
theorem BP.inj {n:Nat} {l:List Int} (h:BP n l) {i j:Nat} (hi:i < n) (hj:j < n) (e:wJ l i=wJ l j):i=j:=by
 have h1:=(h.get hi).1
 have h2:=(h.get hj).1
 rw [<-e] at h2
 have:=h.nd
 rw [Sb,qC] at this
 have bO:i < l.length:=by rw [h.len];exact hi
 have ei:j < l.length:=by rw [h.len];exact hj
 rw [eG bO] at h1
 rw [eG ei] at h2
 cases Lv i j with
 | inl aP=>exact absurd ((vD h1).trans (vD h2).symm) (this i j bO ei aP)
 | inr bV=>cases bV with
  | inl he=>exact he
  | inr aP=>exact absurd ((vD h2).trans (vD h1).symm) (this j i ei bO aP)
theorem acS {α β:Type} {f:α->β} {l:List α} (h:∀x∈l,∀y∈l,f x=f y->x=y) (hn:l.Nodup):(l.map f).Nodup:=by
 induction l with
 | nil=>simp
 | cons x r ih =>
  obtain ⟨h1,h2⟩:=yR.1 hn
  rw [ig,yR]
  refine ⟨λhm=>?_,ih (λa ha b hb=>h a (by simp [ha]) b (by simp [hb])) h2⟩
  obtain ⟨y,hy,e⟩:=jw.1 hm
  have:=h y (by simp [hy]) x (by simp) e
  subst this
  exact h1 hy
theorem BP.perm {n:Nat} {l:List Int} (h:BP n l):((List.range n).map (wJ l)).Perm (List.range n):=by
 have ff:((List.range n).map (wJ l)).Nodup:=acS (λi hi j hj e=>h.inj (mr.1 hi) (mr.1 hj) e) List.nodup_range
 rw [Lb ff List.nodup_range]
 intro b
 constructor
 ·intro hb
  obtain ⟨i,hi,rfl⟩:=jw.1 hb
  exact mr.2 (h.get (mr.1 hi)).2
 ·intro hb
  by_cases hm:b∈(List.range n).map (wJ l)
  ·exact hm
  ·have h1:(b :: (List.range n).map (wJ l)).Nodup:=yR.2 ⟨hm,ff⟩
   have h2:=Bm (l₂:=List.range n) h1 (λx hx=>by
    rcases cv.1 hx with rfl|hx
    ·exact hb
    ·obtain ⟨i,hi,rfl⟩:=jw.1 hx
     exact mr.2 (h.get (mr.1 hi)).2)
   simp at h2
   omega
def X3:Block:=⟨[],0,0,0,0⟩
def ajQ (ks:List Int) (i:Nat) (x:Block):Block:={ x with key:=ks.getD i 0 }
def ae7 (p:ef) (ks:List Int):ef:={ p with blocks:=p.blocks.mapIdx (ajQ ks) }
noncomputable def ahO (n:Net) (m:ea):ef:=ae7 (XS n m) (NF (XS n m))
def agp (p:ef):List Int:=p.blocks.map (·.key)
def atK (p:ef) (k:Int):Nat:=(agp p).idxOf k
def xV (p q:ef) (s:Int):Int :=
 if s < q.ins.length then s else p.ins.length+2*(atK p (q.blocks.getD (mG q.ins.length s) X3).key:Int)+(s - q.ins.length) % 2
def WX (p:ef) (c d:Nat):Prop:=∃x,p.blocks[c]?=some x/\∃s∈x.ins,(p.ins.length:Int)<=s/\¬rT p.ins.length s/\mG p.ins.length s=d
def St (st:List Int) (v:Int) (c:Nat):Prop:=st[c]?=some v
theorem St.th {st:List Int} {v u:Int} {b c:Nat} (h:c≠b):St (st.set b u) v c↔St st v c:=by
 unfold St;rw [jP];split
 ·omega
 ·exact vz
theorem St.BQ {st:List Int} {v u:Int} {b:Nat} (h:b < st.length):St (st.set b u) v b↔u=v:=by
 unfold St;rw [jP];simp [h]
theorem St.lt {st:List Int} {v:Int} {c:Nat} (h:St st v c):c < st.length:=(bf.1 h).1
theorem St.uniq {st:List Int} {v u:Int} {c:Nat} (h:St st v c) (k:St st u c):v=u:=by unfold St at *;rw [h] at k;exact vD k
def uC (st:List Int):Nat:=st.countP (· == 0)
theorem acT {st:List Int} {b:Nat} {v:Int} (h:St st 0 b) (hv:v≠0):uC (st.set b v)+1=uC st:=by
 unfold uC St at *
 induction st generalizing b with
 | nil=>simp at h
 | cons x l ih =>
  cases b with
  | zero=>simp at h;subst h;simp [Hm,hv]
  | succ b =>
   have:=ih (b:=b) (by simpa using h)
   simp only [Hh,Hm]
   omega
theorem ab1 {st:List Int} {b:Nat} {u v:Int} (h:St st u b) (hu:u≠0) (hv:v≠0):uC (st.set b v)=uC st:=by
 unfold uC St at *
 induction st generalizing b with
 | nil=>simp at h
 | cons x l ih =>
  cases b with
  | zero=>simp at h;subst h;simp [Hm,hu,hv]
  | succ b =>
   have:=ih (b:=b) (by simpa using h)
   simp only [Hh,Hm]
   omega
def pk (p:ef) (st:List Int):Prop:=∃r:Nat->Nat,∀c d,St st 2 c->WX p c d->St st 2 d/\r d < r c
theorem pk.nil {p:ef} {st:List Int} (h:∀c,¬St st 2 c):pk p st:=⟨λ_=>0,λc d hc=>absurd hc (h c)⟩
theorem bound {l:List Nat} (r:Nat->Nat):∃m,∀d∈l,r d < m:=by
 induction l with
 | nil=>exact ⟨0,by simp⟩
 | cons x l ih =>
  obtain ⟨m,hm⟩:=ih
  refine ⟨m+r x+1,λd hd=>?_⟩
  rcases cv.1 hd with rfl|hd
  ·omega
  ·have:=hm d hd;omega
theorem pk.done {p:ef} {st:List Int} (h:pk p st) {b:Nat} (hb:St st 1 b) (dw:∀d,WX p b d->St st 2 d):pk p (st.set b 2):=by
 obtain ⟨r,hr⟩:=h
 have aP:=hb.lt
 obtain ⟨m,hm⟩:=bound (l:=List.range st.length) r
 refine ⟨λc=>if c=b then m else r c,λc d hc ht=>?_⟩
 by_cases kM:c=b
 ·subst kM
  have hd:=dw d ht
  have AM:d≠c:=by rintro rfl;have:=hd.uniq hb;omega
  exact ⟨(St.th AM).2 hd,by simp only [if_neg AM,if_true];exact hm d (mr.2 hd.lt)⟩
 ·have h2:=hr c d ((St.th kM).1 hc) ht
  have AM:d≠b:=by rintro rfl;have:=h2.1.uniq hb;omega
  exact ⟨(St.th AM).2 h2.1,by simp only [if_neg AM,if_neg kM];exact h2.2⟩
theorem pk.mark {p:ef} {st:List Int} (h:pk p st) {b:Nat} (hb:St st 0 b):pk p (st.set b 1):=by
 obtain ⟨r,hr⟩:=h
 have aP:=hb.lt
 refine ⟨r,λc d hc ht=>?_⟩
 have kM:c≠b:=by rintro rfl;have:=(St.BQ aP).1 hc;omega
 have h2:=hr c d ((St.th kM).1 hc) ht
 have AM:d≠b:=by rintro rfl;have:=h2.1.uniq hb;omega
 exact ⟨(St.th AM).2 h2.1,h2.2⟩
structure Gi (p:ef) (st:List Int):Prop where
 len:st.length=p.blocks.length
 val:∀c v,St st v c->v=0\/v=1\/v=2
structure zJ (p:ef) (st:List Int) (b:Nat) (res:Bool) (cT:List Int):Prop where
 w:Gi p cT
 z:uC cT<=uC st
 one:res=true->∀c,St cT 1 c↔St st 1 c
 two:res=true->(∀c,St st 2 c->St cT 2 c)/\St cT 2 b
 yw:res=true->pk p st->pk p cT
 rk:∀r,Iu p r->(∀c,St st 1 c->r b < r c)->res=true
theorem zJ.EV {p:ef} {st:List Int} {b:Nat} (h:Gi p st) (hb:St st 2 b):zJ p st b true st :=
 ⟨h,fN _,λ_ _=>vz,λ_=>⟨λ_ h=>h,hb⟩,λ_ h=>h,λ_ _ _=>rfl⟩
structure sJ (p:ef) (st:List Int) (b:Nat) (x:Block) (j:Nat) (cT:List Int):Prop where
 le:j<=x.ins.length
 w:Gi p cT
 z:uC cT+1<=uC st
 one:∀c,St cT 1 c↔St st 1 c\/c=b
 two:∀c,St st 2 c->St cT 2 c
 yw:pk p st->pk p cT
 ins:∀i s,i < j->x.ins[i]?=some s->(p.ins.length:Int)<=s->¬rT p.ins.length s->St cT 2 (mG p.ins.length s)
theorem sJ.start {p:ef} {st:List Int} {b:Nat} (h:Gi p st) (hb:St st 0 b) (x:Block):sJ p st b x 0 (st.set b 1):=by
 have aP:=hb.lt
 refine ⟨cI _,⟨by simp [h.len],λc v hc=>?_⟩,by have:=acT hb (v:=1) (by decide);omega,λc=>?_,λc hc=>?_,λha=>ha.mark hb,λi s hi=>by omega⟩
 ·by_cases kM:c=b
  ·subst kM;have:=(St.BQ aP).1 hc;omega
  ·exact h.val c v ((St.th kM).1 hc)
 ·by_cases kM:c=b
  ·subst kM;exact ⟨λ_=>.inr rfl,λ_=>(St.BQ aP).2 rfl⟩
  ·rw [St.th kM];exact ⟨.inl,λh=>h.resolve_right kM⟩
 ·have kM:c≠b:=by rintro rfl;have:=hc.uniq hb;omega
  exact (St.th kM).2 hc
theorem sJ.skip {p:ef} {st:List Int} {b:Nat} {x:Block} {j:Nat} {cT:List Int} (h:sJ p st b x j cT) {s:Int} (hs:x.ins[j]?=some s) (hn:¬((p.ins.length:Int)<=s/\¬rT p.ins.length s)):sJ p st b x (j+1) cT :=
 ⟨(
  bf.1 hs).1,h.w,h.z,h.one,h.two,h.yw,λi t hi ht h1 h2=>by
  by_cases ou:i=j
  ·subst ou;rw [hs] at ht;cases ht;exact absurd ⟨h1,h2⟩ hn
  ·exact h.ins i t (by omega) ht h1 h2⟩
theorem sJ.go {p:ef} {st:List Int} {b:Nat} {x:Block} {j:Nat} {cT tQ:List Int} (h:sJ p st b x j cT) {s:Int} (hs:x.ins[j]?=some s) (hb:St st 0 b) (k:zJ p cT (mG p.ins.length s) true tQ):sJ p st b x (j+1) tQ:=by
 refine ⟨(bf.1 hs).1,k.w,by have:=k.z;have:=h.z;omega,λc=>by rw [k.one rfl c];exact h.one c,λc hc=>(k.two rfl).1 c (h.two c hc),λha=>k.yw rfl (h.yw ha),λi t hi ht h1 h2=>?_⟩
 by_cases ou:i=j
 ·subst ou;rw [hs] at ht;cases ht;exact (k.two rfl).2
 ·exact (k.two rfl).1 _ (h.ins i t (by omega) ht h1 h2)
theorem sJ.bad {p:ef} {st:List Int} {b:Nat} {x:Block} {j:Nat} {cT tQ:List Int} (h:sJ p st b x j cT) (hx:p.blocks[b]?=some x) {s:Int} (hs:x.ins[j]?=some s) (h1:(p.ins.length:Int)<=s) (h2:¬rT p.ins.length s) (k:zJ p cT (mG p.ins.length s) false tQ):zJ p st b false tQ :=
 ⟨k.w,by have:=k.z;have:=h.z;omega,by simp,by simp,by simp,λr hr hc=>k.rk r hr λc wy=>by
  have aP:=hr b x hx s (cM hs) h1 h2
  rcases (h.one c).1 wy with h3|rfl
  ·have:=hc c h3;omega
  ·exact aP⟩
theorem sJ.out {p:ef} {st:List Int} {b:Nat} {x:Block} {j:Nat} {cT:List Int} (h:sJ p st b x j cT) (hx:p.blocks[b]?=some x) (hb:St st 0 b) (hj:j=x.ins.length):zJ p st b true (cT.set b 2):=by
 have h1:St cT 1 b:=(h.one b).2 (.inr rfl)
 have aP:=h1.lt
 refine ⟨⟨by simp [h.w.len],λc v hc=>?_⟩,by have:=ab1 h1 (v:=2) (by decide) (by decide);have:=h.z;omega,λ_ c=>?_,λ_=>⟨λc hc=>?_,(St.BQ aP).2 rfl⟩,λ_ ha=>(h.yw ha).done h1 ?_,λ_ _ _=>rfl⟩
 ·by_cases kM:c=b
  ·subst kM;have:=(St.BQ aP).1 hc;omega
  ·exact h.w.val c v ((St.th kM).1 hc)
 ·by_cases kM:c=b
  ·subst kM
   exact ⟨λh=>by have:=(St.BQ aP).1 h;omega,λh=>by have:=h.uniq hb;omega⟩
  ·rw [St.th kM,h.one c];exact ⟨λh=>h.resolve_right kM,.inl⟩
 ·have kM:c≠b:=by rintro rfl;have:=hc.uniq hb;omega
  exact (St.th kM).2 (h.two c hc)
 ·rintro d ⟨y,hy,s,hs,h3,h4,rfl⟩
  rw [hx] at hy;cases hy
  obtain ⟨i,hi,e⟩:=Ln.1 hs
  exact h.ins i s (by omega) (by rw [eG hi,e]) h3 h4
structure I3 where
 n:Int
 lo:Int
 hi:Int
theorem pk.all {p:ef} {st:List Int} (h:pk p st) (ha:∀b,b < p.blocks.length->St st 2 b):∃r,Iu p r:=by
 obtain ⟨r,hr⟩:=h
 refine ⟨r,λb x hx s hs h1 h2=>?_⟩
 exact (hr b _ (ha b (bf.1 hx).1) ⟨x,hx,s,hs,h1,h2,rfl⟩).2
structure Gj (p:ef) (b:Nat) (st:List Int):Prop where
 le:b<=p.blocks.length
 w:Gi p st
 one:∀c,¬St st 1 c
 two:∀c,c < b->St st 2 c
 yw:pk p st
theorem Gj.start (p:ef):Gj p 0 (List.replicate p.blocks.length 0):=by
 have h:∀c v,St (List.replicate p.blocks.length 0) v c->v=0:=λc v hc=>by
  have hm:=cM (show (List.replicate p.blocks.length (0:Int))[c]?=some v from hc)
  exact (Bu.1 hm).2
 exact ⟨cI _,⟨y4,λc v hc=>.inl (h c v hc)⟩,λc hc=>by have:=h c 1 hc;omega,λc hc=>by omega,.nil λc hc=>by have:=h c 2 hc;omega⟩
theorem Gj.next {p:ef} {b:Nat} {st cT:List Int} (h:Gj p b st) (hb:b < p.blocks.length) (k:zJ p st b true cT):Gj p (b+1) cT :=
 ⟨hb,k.w,λc hc=>h.one c ((k.one rfl c).1 hc),λc hc=>by
  by_cases e:c=b
  ·subst e;exact (k.two rfl).2
  ·exact (k.two rfl).1 c (h.two c (by omega)),k.yw rfl h.yw⟩
noncomputable def Z7 (sig:List Int) (x:Block):Int:=oG (4 :: x.table :: x.ej :: x.ins.map λs=>IntKind.i64.wrap (sig.getD s.toNat 0))
def Fq (d0 d:List Bool):Prop:=d.length=d0.length/\∀i:Nat,d0[i]?=some true->d[i]?=some true
theorem Fq.refl (d:List Bool):Fq d d:=⟨rfl,λ_ h=>h⟩
theorem Fq.set {d0 d:List Bool} (h:Fq d0 d) (b:Nat):Fq d0 (d.set b true):=by
 refine ⟨by simp [h.1],λi hi=>?_⟩
 have:=h.2 i hi
 rw [jP]
 split
 ·rename_i e;subst e;simp [(bf.1 this).1]
 ·exact this
structure Gk (p:ef) (i:Nat) (m:Int->Option Unit):Prop where
 le:i<=p.blocks.length
 cJ:∀j,(m j).isSome=true↔∃k x,k < i/\p.blocks[k]?=some x/\x.cJ=j
 ok:∀(k:Nat) (x:Block),k < i->p.blocks[k]?=some x->Nb x/\∀s∈x.ins,BO p s
 JN:∀(k l:Nat) (x y:Block),k < i->l < i->p.blocks[k]?=some x->p.blocks[l]?=some y->0<=x.cJ->x.cJ=y.cJ->k=l
theorem Gk.nil (p:ef):Gk p 0 λ_=>none:=⟨cI _,λj=>⟨λh=>by simp at h,λ⟨k,x,h,_⟩=>by omega⟩,λk x h=>by omega,λk l x y h=>by omega⟩
theorem Gk.add {p:ef} {i:Nat} {m:Int->Option Unit} (h:Gk p i m) {x:Block} (hx:p.blocks[i]?=some x) (hf:Nb x) (hu:∀s∈x.ins,BO p s) (hd:0<=x.cJ->(m x.cJ).isSome=false) {m':Int->Option Unit} (hm:∀j,(m' j).isSome=true↔j=x.cJ\/(m j).isSome=true):Gk p (i+1) m':=by
 refine ⟨(bf.1 hx).1,λj=>?_,λk y hk hy=>?_,λk l y z hk hl hy hz h0 he=>?_⟩
 ·rw [hm j,h.cJ j]
  constructor
  ·rintro (e|⟨k,y,hk,hy,e⟩)
   ·exact ⟨i,x,by omega,hx,e.symm⟩
   ·exact ⟨k,y,by omega,hy,e⟩
  ·rintro ⟨k,y,hk,hy,e⟩
   by_cases Gl:k=i
   ·subst Gl;rw [hx] at hy;cases hy;exact .inl e.symm
   ·exact .inr ⟨k,y,by omega,hy,e⟩
 ·by_cases Gl:k=i
  ·subst Gl;rw [hx] at hy;cases hy;exact ⟨hf,hu⟩
  ·exact h.ok k y (by omega) hy
 ·have key:∀(k:Nat) (y:Block),k < i->p.blocks[k]?=some y->0<=x.cJ->y.cJ≠x.cJ:=λk y hk hy h0 e=>by
   have:=(h.cJ x.cJ).2 ⟨k,y,hk,hy,e⟩
   rw [hd h0] at this;cases this
  by_cases Gl:k=i
  ·subst Gl;rw [hx] at hy;cases hy
   by_cases C0:l=k
   ·exact C0.symm
   ·exact absurd he.symm (key l z (by omega) hz h0)
  ·by_cases C0:l=i
   ·subst C0;rw [hx] at hz;cases hz
    exact absurd he (key k y (by omega) hy (by omega))
   ·exact h.JN k l y z (by omega) (by omega) hy hz h0 he
structure SS where
 a:List Source
 b:List Source

def atR (l:List Block):Nat->Int->Option Int
 | 0=>λ_=>none
 | i+1=>λj=>if j=(l.getD i X3).key then some (i:Int) else atR l i j
@[reducible] noncomputable def Ix:Vc.Spec where
 α:=Net
 args x:=[.agg (oj x)]
 pre x:=2+x.ins.length+x.cq.length<=1000000
 res x:=.i .i64 (λ_=>Ex x)
theorem Mw:cY (PP ()) 51 Ix:=by
 refine e6 (NB 0 0) (fo Tryz.func51) (λa=>⟨rQ a,trivial⟩) (λa=>trivial) ?_
 rintro ⟨ins,gs,outs,dr⟩ hx
 have hx:2+ins.length+gs.length<=1000000:=hx
 have e:IntKind.i64.wrap (IntKind.i64.wrap (2+(ins.length:Int))+(gs.length:Int))=Ex ⟨ins,gs,outs,dr⟩:=by
  rw [dV (n:=2+(ins.length:Int)) (by omega) (by omega),dV (by omega) (by omega)];rfl
 refine ⟨?_⟩
 cbv
 exact ⟨.i e⟩
structure Cut where
 root:Int
 l:List Int
open Classical in
noncomputable def apt (c:Cut):Bool:=decide ((∀(i:Nat) (x:Int),c.l[i]?=some x->2<=x/\x<=c.root/\∀(j:Nat) (y:Int),i=j+1->c.l[j]?=some y->y < x)/\c.l.length<=4)
theorem ajV {a b:Nat} (ha:a < 65536) (hb:b < 65536):fH .or .i64 (a:Int) (b:Int)=((a ||| b:Nat):Int):=by
 have h:a ||| b < 65536:=Nat.or_lt_two_pow (n:=16) ha hb
 unfold fH
 simp only
 have e:(BitVec.ofInt IntKind.i64.bits (a:Int) ||| BitVec.ofInt IntKind.i64.bits (b:Int)).toNat=a ||| b:=by
  rw [BitVec.toNat_or,BitVec.ofInt_natCast,BitVec.ofInt_natCast,BitVec.toNat_ofNat,BitVec.toNat_ofNat]
  show a % 2^64 ||| b % 2^64=a ||| b
  rw [Lx (show a < 2^64 by omega),Lx (show b < 2^64 by omega)]
 rw [e,dV (by omega) (by omega)]
structure TG where
 i:Nat
 t:Int
theorem ajW {i:Nat} (h:i < 16):IntKind.i64.wrap (1*2^(min ((i:Int)).toNat IntKind.i64.bits))=((2^i:Nat):Int):=by
 have:i=0\/i=1\/i=2\/i=3\/i=4\/i=5\/i=6\/i=7\/i=8\/i=9\/i=10\/i=11\/i=12\/i=13\/i=14\/i=15:=by omega
 rcases this with e|e|e|e|e|e|e|e|e|e|e|e|e|e|e|e<;>subst e<;>rfl
theorem ahQ {i:Nat} (h:i < 16):2^i < 65536:=by
 have:2^i<=2^15:=Lm (by decide) (by omega)
 omega
theorem Mx (l:List Bool):∀i,i<=15->∃n:Nat,tE l i=(n:Int)/\n < 2^i
 | 0,_=>⟨0,rfl,by decide⟩
 | i+1,h=>by
  obtain ⟨n,h1,h2⟩:=Mx l i (by omega)
  have hp:=ahQ (i:=i) (by omega)
  unfold tE
  split
  ·refine ⟨n ||| 2^i,?_,Nat.or_lt_two_pow (Hr h2 (Lo (by decide) (by omega))) (Lo (by decide) (by omega))⟩
   rw [h1,ajW (by omega),ajV (by omega) hp]
  ·exact ⟨n,h1,Hr h2 (Lo (by decide) (by omega))⟩
theorem T9 {l:List Bool} {i:Nat} (h:l[i]?=some true):fH .or .i64 (tE l i) (IntKind.i64.wrap (1*2^(min ((i:Int)).toNat IntKind.i64.bits)))=tE l (i+1):=by
 show _=if l.getD i false then _ else _
 rw [List.getD_eq_getElem?_getD,h];rfl
theorem U2 {l:List Bool} {i:Nat} (h:l[i]?=some false):tE l i=tE l (i+1):=by
 show _=if l.getD i false then _ else _
 rw [List.getD_eq_getElem?_getD,h];rfl
structure ajX where
 t:Int
 l:List Bool
@[reducible] noncomputable def IY:Vc.Spec where
 α:=ajX
 args x:=[.i .i64 (λ_=>x.t),.sl 1 pe (λ_=>x.l)]
 pre x:=x.l.length<=1000000
 res x:=.b (λ_=>B3 x.t x.l)
noncomputable def cLk (n m:Nat):Ctx:=fm n m [] []
theorem WY (n m:Nat):CB PP (cLk n m):=fu n m trivial trivial
theorem U3:cY (PP ()) 120 IY:=by
 refine e6 (WY 0 0) (fo Tryz.func120) (λa=>⟨trivial,(λx=>(HI x).1),trivial⟩) (λa=>trivial) ?_
 rintro ⟨t,l⟩ hx
 have hl6:l.length<=1000000:=hx
 obtain ⟨R,hR⟩:∃R,B3 t l=R:=⟨_,rfl⟩
 have Kl:IY.res ⟨t,l⟩=.b (λ_=>R):=by rw [<-hR]
 rw [Kl]
 unfold B3 at hR
 obtain ⟨U,hU⟩:∃U:Nat->Int,∀i,U i=tE l i:=⟨_,λ_=>rfl⟩
 have Qa:0=U 0:=by rw [hU];rfl
 refine ⟨?_⟩
 cbv
 refine ⟨λh=>?_,λh=>?_⟩
 ·have h5:5 < l.length:=by have h':fk 5 (l.length:Int)=true:=h.out;simp only [fk,decide_eq_true_eq] at h';omega
  rw [if_pos h5] at hR
  cbv
  exact ⟨by exact e9⟩
 have h5:¬5 < l.length:=by have h':fk 5 (l.length:Int)=false:=h.out;simp only [fk,decide_eq_false_iff_not] at h';omega
 rw [if_neg h5] at hR
 clear h
 cbv
 refine Sat.dP (WY 0 0) 0 5 [] (λi:Nat=>[(5,.i .i64 (λ_=>U i)),(11,.sl 1 pe (λ_=>l)),(12,.i .i64 (λ_=>(l.length:Int))),(13,.i .i64 (λ_=>(i:Int)))]) (λi=>[]) (λi=>i<=l.length) (λi=>l.length - i) 0 (by have fW:=Qa;exact bq) (by exact aW) (cI _) ?_
 intro i hi
 have hi:i<=l.length:=hi
 have h0:=n0 i
 have h1:=eh (i:=i) (by omega)
 cbv
 refine ⟨λh=>?_,λh=>?_⟩
 ·have bO:i < l.length:=aG
  have cf:l.length - (i+1) < l.length - i:=by omega
  refine (cg bO).elim λb hb=>?_
  cbv
  refine ⟨b,⟨h0,hb⟩,?_⟩
  cbv
  refine ⟨λh=>?_,λh=>?_⟩
  ·have rh:b=true:=h.out
   have cP:fH .or .i64 (U i) (IntKind.i64.wrap (1*2^(min ((i:Int)).toNat IntKind.i64.bits)))=U (i+1):=by rw [hU,hU];exact T9 (by rw [hb,rh])
   cbv
   refine ⟨⟨h0⟩,?_⟩
   cbv
   exact ⟨i+1,by have bK:=cP;have js:=h1;exact bq,by exact aW,⟨⟨bO,cf⟩⟩⟩
  ·have rh:b=false:=h.out
   have cP:U i=U (i+1):=by rw [hU,hU];exact U2 (by rw [hb,rh])
   cbv
   exact ⟨i+1,by have bK:=cP;have js:=h1;exact bq,by exact aW,⟨⟨bO,cf⟩⟩⟩
 have bV:i=l.length:=by
  have h':fk i l.length=false:=h.out
  have h2:¬(i:Int) < l.length:=by simpa [fk] using h'
  omega
 have hU1:0<=U i:=by
  obtain ⟨n,hn,_⟩:=Mx l i (by omega)
  rw [hU,hn];exact Lt _
 have e:ga (fH .and .i64 (t.fdiv (2^(min (U i).toNat IntKind.i64.bits))) 1) 1=R:=by rw [<-hR,hU,bV];rfl
 clear h
 cbv
 refine ⟨⟨hU1⟩,?_⟩
 cbv
 exact ⟨by have ny:=e;exact wD⟩
structure Cu (p:ef) (st sig out:List Int):Prop where
 sl:sig.length=p.ins.length+2*p.blocks.length
 ol:out.length=p.blocks.length
 Cv:∀s:Nat,s < p.ins.length->sig[s]?=some (EL p s)
 cJ:∀(b:Nat) (x:Block),p.blocks[b]?=some x->0<=x.cJ->sig[p.ins.length+2*b]?=some (oG [3,x.cJ])/\sig[p.ins.length+2*b+1]?=some (oG [1,x.cJ])/\out[b]?=some (oG [1,x.cJ])
 done:∀(b:Nat) (x:Block),p.blocks[b]?=some x->x.cJ < 0->St st 2 b->sig[p.ins.length+2*b]?=some (x1 p b)/\out[b]?=some (x1 p b)
theorem Cu.at {p:ef} {st sig out:List Int} (h:Cu p st sig out) {s:Int} (hu:BO p s) (hd:(p.ins.length:Int)<=s->¬rT p.ins.length s->St st 2 (mG p.ins.length s)):sig.getD s.toNat 0=Jz p (x1 p) s:=by
 have h0:=hu.lo
 have h1:=hu.hi
 unfold ef.sigs at h1
 unfold Jz
 rw [List.getD_eq_getElem?_getD]
 split
 ·rename_i aP
  rw [h.Cv s.toNat (by omega),Int.toNat_of_nonneg h0];rfl
 ·rename_i bV
  split
  ·rename_i hf
   obtain ⟨x,hx,hr⟩:=hu.flip (by omega) hf
   have e:s.toNat=p.ins.length+2*mG p.ins.length s+1:=by unfold rT at hf;unfold mG;omega
   rw [e,(h.cJ _ x hx hr).2.1]
   unfold WW
   rw [hx];simp [hr]
  ·rename_i hf
   have je:mG p.ins.length s < p.blocks.length:=by unfold mG;omega
   have e:s.toNat=p.ins.length+2*mG p.ins.length s:=by unfold rT at hf;unfold mG;omega
   have hx:p.blocks[mG p.ins.length s]?=some (p.blocks[mG p.ins.length s]):=eG je
   unfold OF
   rw [hx,e]
   simp only
   split
   ·rename_i hr;rw [(h.cJ _ _ hx hr).1];rfl
   ·rename_i hr;rw [(h.done _ _ hx (by omega) (hd (by omega) hf)).1];rfl
theorem Cu.key {p:ef} {st sig out:List Int} (h:Cu p st sig out) {r:Nat->Nat} (hr:Iu p r) {b:Nat} {x:Block} (hx:p.blocks[b]?=some x) (hg:x.cJ < 0) (hu:∀s∈x.ins,BO p s) (hd:∀s∈x.ins,(p.ins.length:Int)<=s->¬rT p.ins.length s->St st 2 (mG p.ins.length s)):Z7 sig x=x1 p b:=by
 have hs:=ad7 (ad8 hr) b
 show _=x1 p b
 unfold x1
 rw [hs]
 show _=Fp p (x1 p) b
 unfold Fp
 rw [hx]
 simp only
 rw [if_neg (by omega)]
 unfold OG Z7
 congr 4
 exact rI λs hs=>by rw [h.at (hu s hs) (hd s hs)]
def Fs (out:List Bool) (s:Int):Bool:=out.getD s.toNat false
def x2 (s:Vo) (out:List Bool) (x:Cell):Bool:=if x.ej < 0 then B3 x.table (x.ins.map (Fs out)) else EM s x.ej (x.ins.map (Fs out))
def kG (ms:List (List Int)) (inn:List Bool) (C:List Cell):List Bool:=C.foldl (λvs x=>vs++[x2 ⟨[],ms⟩ vs x]) ([false,true]++inn)
theorem S7 {ms:List (List Int)} {inn:List Bool} {C:List Cell} {i:Nat} {x:Cell} (hx:C[i]?=some x):kG ms inn (C.take i)++[x2 ⟨[],ms⟩ (kG ms inn (C.take i)) x]=kG ms inn (C.take (i+1)):=by
 unfold kG
 rw [iT,hx,mW,List.foldl_append,lu,DJ]
theorem Ua {ms:List (List Int)} {inn:List Bool} {C:List Cell}:∀{i:Nat},i<=C.length->(kG ms inn (C.take i)).length=2+inn.length+i
 | 0,_=>by unfold kG;simp;omega
 | i+1,h=>by
  obtain ⟨x,hx⟩:=cg (l:=C) (i:=i) (by omega)
  rw [<-S7 hx,gn,Ua (by omega)];simp;omega
structure ajY (m:ea) (inn:List Bool) (ms:List (List Int)) (V:Nat->List Bool):Prop where
 z:[false,true]++inn=V 0
 grow:∀(i:Nat) (x:Cell),m.cells[i]?=some x->V i++[x2 ⟨[],ms⟩ (V i) x]=V (i+1)/\(V i).length<=600/\x.ins.length<=4/\x.ej<=63/\∀s∈x.ins,0<=s/\s.toNat < (V i).length
 fin:∀i,i<=m.cells.length->m.cells.length<=i->V i=kG ms inn m.cells
theorem ajZ {m:ea} (h:uP m) {inn:List Bool} (hn:m.n=inn.length) (ms:List (List Int)):∃V,ajY m inn ms V:=by
 have h6:=h.n6
 refine ⟨λi=>kG ms inn (m.cells.take i),rfl,λi x hx=>?_,λi hi hg=>?_⟩
 ·have hi:=(bf.1 hx).1
  have hl:=Ua (ms:=ms) (inn:=inn) (C:=m.cells) (i:=i) (by omega)
  obtain ⟨c1,c2⟩:=h.cell i x hx
  have hc:x.ins.length<=4/\x.ej<=63:=by
   simp only [nM,pg,pU,b9,decide_eq_true_eq] at c1
   omega
  refine ⟨S7 hx,by omega,hc.1,hc.2,λs hs=>?_⟩
  have:=c2 s hs
  omega
 ·show kG ms inn (m.cells.take i)=_
  rw [iM hg]
structure aj0 where
 m:ea
 inn:List Bool
 ms:List (List Int)
structure OH (m:ea) (inn:List Bool) (ms:List (List Int)):Prop where
 v:uP m
 n:m.n=inn.length
@[reducible] noncomputable def X4:Vc.Spec where
 α:=aj0
 args x:=[.agg (wa x.m),.sl 1 pe (λ_=>x.inn),.sl 1 fT (λ_=>x.ms)]
 pre x:=OH x.m x.inn x.ms
 res x:=.sl 1 pe (λ_=>kG x.ms x.inn x.m.cells)
 fr:=true
def Gm (mn:Int) (mc:List Cell) (md:List Int) (inn:List Bool) (ms:List (List Int)) (i:Nat) (V:List Bool) (v:Bool):Vc.St :=
 ⟨[.agg [.i .i64 (λ_=>mn),.sl 3 mF (λ_=>mc),.sl 1 bJ (λ_=>md)],.sl 1 pe (λ_=>inn),.sl 1 fT (λ_=>ms),.ptr 0 0,.any,.any,.cG,.own 2,.any,.any,.any,.any,.any,.any,.b (λ_=>v),.any,.any,.any,.any,.any,
   .sl 3 mF (λ_=>mc),.i .i64 (λ_=>(mc.length:Int)),.i .i64 (λ_=>(i:Int))]++tz 80,
  [.fix 51 [.i .i64 (λ_=>mn),.sl 3 mF (λ_=>mc),.sl 1 bJ (λ_=>md)],.dead,.dyn 4 1 pe (λ_=>V),.dead,.dead]⟩
structure Z8 (xi:List Int) (xt xr:Int) (ms:List (List Int)) (V W:List Bool) (v:Bool):Prop where
 wl:W.length=xi.length
 w4:W.length<=4
 at_:∀(k:Nat) (s:Int),xi[k]?=some s->0<=s/\∃b,V[s.toNat]?=some b/\W[k]?=some b
 neg:xr < 0->B3 xt W=v
 pos:0<=xr->EM ⟨[],ms⟩ xr W=v
theorem mrF {xi:List Int} {xt xr:Int} {V:List Bool} (ms:List (List Int)) (h4:xi.length<=4) (hs:∀s∈xi,0<=s/\s.toNat < V.length):∃W v,x2 ⟨[],ms⟩ V ⟨xi,xt,xr⟩=v/\Z8 xi xt xr ms V W v:=by
 refine ⟨xi.map (Fs V),_,rfl,by rw [jQ],by rw [jQ];exact h4,λk s hk=>?_,λh=>?_,λh=>?_⟩
 ·obtain ⟨h0,h1⟩:=hs s (cM hk)
  obtain ⟨b,hb⟩:=cg h1
  refine ⟨h0,b,hb,?_⟩
  rw [kB,hk]
  show some (Fs V s)=some b
  unfold Fs
  rw [List.getD_eq_getElem?_getD,hb];rfl
 ·unfold x2;rw [if_pos h]
 ·unfold x2;rw [if_neg (by show ¬xr < 0;omega)]
def oV (W:List Bool) (k:Nat):List Bool:=W.take k++List.replicate (W.length - k) false
theorem afd {W:List Bool} {k:Nat} {b:Bool} (hb:W[k]?=some b):(oV W k)[k]?=some false/\(oV W k).set k b=oV W (k+1)/\(oV W (k+1))[k]?=some b/\k < (oV W k).length/\k < (oV W (k+1)).length:=by
 have hk:=(bf.1 hb).1
 have ht:(W.take k).length=k:=by rw [lq];omega
 have hr:List.replicate (W.length - k) false=false :: List.replicate (W.length - (k+1)) false:=by rw [show W.length - k=(W.length - (k+1))+1 by omega,DD]
 have h1:(oV W k)[k]?=some false:=by
  unfold oV
  rw [qB (by omega),ht,yW,hr];rfl
 have h2:(oV W k).set k b=oV W (k+1):=by
  unfold oV
  rw [Lk _ _ (by omega),ht,yW,hr,iT,hb]
  simp
 refine ⟨h1,h2,?_,(bf.1 h1).1,?_⟩
 ·rw [<-h2,nL (bf.1 h1).1]
 ·rw [<-h2,y8];exact (bf.1 h1).1
theorem afe {W:List Bool} {k:Nat} (h:W.length<=k):oV W k=W:=by
 unfold oV
 rw [iM h,Nat.sub_eq_zero_of_le h];simp
noncomputable def aj1 (n m:Nat):Ctx:=cW n m [] [] [] [] [2] [41]
theorem agt (n m:Nat):CB PP (aj1 n m):=cZ n m trivial trivial
noncomputable def cMe (n m:Nat):Ctx:=cW n m [] [(120,IY)] [] [] [18]
theorem NH (n m:Nat):CB PP (cMe n m):=cZ n m trivial ⟨U3,trivial⟩
noncomputable def aj2 (n m:Nat):Ctx:=cW n m [] []
theorem agu (n m:Nat):CB PP (aj2 n m):=cZ n m trivial trivial
theorem agv:cY (PP ()) 49 X4:=by
 refine Vm (agt 0 0) (fo Tryz.func49) (λa=>⟨xu a.m,λx=>(HI x).1,λx=>(qJ x).1,trivial⟩) (λa=>(λx=>(HI x).1)) ?_
 rintro ⟨⟨mn,mc,md⟩,inn,ms⟩ hx
 obtain ⟨hv,hn⟩:OH ⟨mn,mc,md⟩ inn ms:=hx
 have hn:mn=inn.length:=hn
 have h6:2+mn+(mc.length:Int)<=600:=hv.n6
 refine (ajZ hv hn ms).elim λV hF=>?_
 have hz:[false,true]++inn=V 0:=hF.z
 have e8:∀(i:Nat) (x:Cell),mc[i]?=some x->V i++[x2 ⟨[],ms⟩ (V i) x]=V (i+1)/\(V i).length<=600/\x.ins.length<=4/\x.ej<=63/\∀s∈x.ins,0<=s/\s.toNat < (V i).length:=hF.grow
 have jG:∀i,i<=mc.length->mc.length<=i->V i=kG ms inn mc:=hF.fin
 have CD:mc.length<=600:=by omega
 have b1:(2+inn.length)*1<=140737488355328:=by omega
 have b2:2+inn.length<=9223372036854775807:=by omega
 clear hF
 refine ⟨?_⟩
 cbv
 refine ⟨[false,true],⟨by exact e9,rfl⟩,?_⟩
 cbv
 refine ⟨inn,⟨by exact a8,b1,b2⟩,?_⟩
 cbv
 refine Sat.j8 (NH 0 0) ?_
 cbv
 refine Sat.dP (NH 0 0) 3 7 [(.t 7,2)] (λi:Nat=>[(7,.own 2),(20,.sl 3 mF (λ_=>mc)),(21,.i .i64 (λ_=>(mc.length:Int))),(22,.i .i64 (λ_=>(i:Int)))]) (λi=>[(2,.dyn 4 1 pe (λ_=>V i))]) (λi=>i<=mc.length) (λi=>mc.length - i) 0 (by exact aW) (by have eH:=hz;exact bq) (cI _) ?_
 intro i hi
 have hi:i<=mc.length:=hi
 have dv:=n0 i
 have eW:=eh (i:=i) (by omega)
 have jG:=jG i hi
 cbv
 refine ⟨λh=>?_,λh=>?_⟩
 ·have bO:i < mc.length:=aG
  have cf:mc.length - (i+1) < mc.length - i:=by omega
  refine (cg bO).elim λx=>?_
  refine x.casesOn λxi xt xr hx=>?_
  have h3:V i++[x2 ⟨[],ms⟩ (V i) ⟨xi,xt,xr⟩]=V (i+1)/\(V i).length<=600/\xi.length<=4/\xr<=63/\∀s∈xi,0<=s/\s.toNat < (V i).length:=e8 i _ hx
  refine (mrF (xt:=xt) (xr:=xr) ms h3.2.2.1 h3.2.2.2.2).elim λW hW=>?_
  refine hW.elim λv hW=>?_
  have cb:V i++[v]=V (i+1):=by rw [<-hW.1];exact h3.1
  have hR:Z8 xi xt xr ms (V i) W v:=hW.2
  have P7:W.length=xi.length:=hR.wl
  have hw4:W.length<=4:=hR.w4
  have hVl:(V i).length<=600:=h3.2.1
  have arp:xr<=63:=h3.2.2.2.1
  have oU:0<=(xi.length:Int)/\(xi.length:Int)<=(xi.length:Int)/\((1:Nat):Int)*(xi.length:Int)<=281474976710656/\(xi.length:Int)<=9223372036854775807:=by omega
  have Jy:List.replicate ((xi.length:Nat):Int).toNat false=oV W 0:=by
   rw [iS,<-P7];unfold oV;simp
  have b5:((V i).length+1)*1<=140737488355328:=by omega
  have b6:(V i).length+1<=9223372036854775807:=by omega
  refine (⟨_,rfl⟩:∃U,tE W=U).elim λU hU=>?_
  have Qa:0=U 0:=by rw [<-hU];rfl
  refine (⟨_,rfl⟩:∃L,oV W=L).elim λL hL=>?_
  rw [hL] at Jy
  clear h h3 e8
  cbv
  refine ⟨⟨xi,xt,xr⟩,⟨dv,hx⟩,?_⟩
  cbv
  refine ⟨⟨oU⟩,?_⟩
  apply y9 (λc k=>Sat [] false PP c (Gm mn mc md inn ms i (V i) v) k)
  ·intro tail
   refine Sat.dP (NH 0 0) 5 11 [(.t 10,4)] (λk:Nat=>[(11,.i .i64 (λ_=>U k)),(20,.sl 3 mF (λ_=>mc)),(21,.i .i64 (λ_=>(mc.length:Int))),(22,.i .i64 (λ_=>(i:Int))),(31,.sl 1 bJ (λ_=>xi)),(32,.i .i64 (λ_=>(xi.length:Int))),(33,.i .i64 (λ_=>(k:Int)))]) (λk=>[(4,.dyn 4 1 pe (λ_=>L k))]) (λk=>k<=xi.length) (λk=>xi.length - k) 0 (by have fW:=Qa;exact bq) (by have eH:=Jy;exact bq) (cI _) ?_
   intro k hk
   have hk:k<=xi.length:=hk
   have sq:=n0 k
   have kJ:=eh (i:=k) (by omega)
   cbv
   refine ⟨λh=>?_,λh=>?_⟩
   ·have dO:k < xi.length:=aG
    have X5:xi.length - (k+1) < xi.length - k:=by omega
    refine (cg dO).elim λs hs=>?_
    have qg:=hR.at_ k s hs
    have F1:=qg.1
    refine qg.2.elim λb hb=>?_
    obtain ⟨f1,f2,f3,f4,f5⟩:=afd hb.2
    have ov:=hb.1
    have gz:=(bf.1 ov).1
    rw [hL] at f1 f2 f3 f4 f5
    rw [<-f2] at f3 f5
    have oz:=hb.2
    have Oj:b=true->fH .or .i64 (U k) (IntKind.i64.wrap (1*2^(min ((k:Int)).toNat IntKind.i64.bits)))=U (k+1):=λe=>by rw [<-hU];exact T9 (by rw [oz,e])
    have dC:b=false->U k=U (k+1):=λe=>by rw [<-hU];exact U2 (by rw [oz,e])
    clear h
    cbv
    refine ⟨s,⟨sq,hs⟩,?_⟩
    cbv
    refine ⟨⟨F1,gz⟩,?_⟩
    cbv
    refine ⟨b,⟨ov,rfl⟩,?_⟩
    cbv
    refine ⟨⟨sq,f4⟩,?_⟩
    cbv
    refine ⟨(false,b),⟨f1,rfl,by exact e9⟩,?_⟩
    cbv
    refine ⟨⟨sq,f5⟩,?_⟩
    cbv
    refine ⟨b,⟨f3,rfl⟩,?_⟩
    cbv
    refine ⟨λh=>?_,λh=>?_⟩
    ·have rh:b=true:=h.out
     have cP:=Oj rh
     clear h
     cbv
     refine ⟨⟨sq⟩,?_⟩
     cbv
     exact ⟨k+1,by have bK:=cP;have js:=kJ;exact bq,by have eH:=f2;exact bq,⟨⟨dO,X5⟩⟩⟩
    ·have rh:b=false:=h.out
     have cP:=dC rh
     clear h
     cbv
     exact ⟨k+1,by have bK:=cP;have js:=kJ;exact bq,by have eH:=f2;exact bq,⟨⟨dO,X5⟩⟩⟩
   have Z6:xi.length<=k:=aG
   have Z9:L k=W:=by rw [<-hL];exact afe (by omega)
   have hke:k=xi.length:=by omega
   have hkw:k=W.length:=by omega
   obtain ⟨u,hu,_⟩:=Mx W k (by omega)
   rw [hU] at hu
   have Pe:Ct W=(u:Int):=by unfold Ct;rw [<-hkw,hU,hu]
   have X6:(Ct W).toNat=u:=by rw [Pe,iS]
   have hu0:0<=U k:=by rw [hu];exact Lt _
   have hut:(U k).toNat=u:=by rw [hu,iS]
   have hlk:(L k).length<=1000000:=by rw [Z9];omega
   have I7:xr < 0->B3 xt (L k)=v:=λh=>by rw [Z9];exact hR.neg h
   have pW:=hR.pos
   have hnq:xr < 0->¬0<=xr:=λh=>by omega
   have hq:0<=xr->IntKind.i64.wrap (xr.tdiv 8)=xr / 8:=λh=>by rw [Sd h];exact dV (by omega) (by omega)
   have hm8:0<=xr->xr.tmod 8=xr % 8:=λh=>Int.tmod_eq_emod_of_nonneg h
   have OI:0<=xr->0<=xr.tmod 8:=λh=>by rw [hm8 h];omega
   have k9:0<=xr->fk (IntKind.i64.wrap (xr.tdiv 8)) (ms.length:Int)=false->false=v:=λh0 h'=>by
    rw [hq h0] at h'
    have h2:¬xr / 8 < (ms.length:Int):=by simpa [fk] using h'
    have uU:ms[(xr / 8).toNat]?=none:=oD (by omega)
    rw [<-pW h0];unfold EM;simp only;rw [uU]
   have j2:0<=xr->fk (IntKind.i64.wrap (xr.tdiv 8)) (ms.length:Int)=true->0<=IntKind.i64.wrap (xr.tdiv 8)/\∃m,ms[(IntKind.i64.wrap (xr.tdiv 8)).toNat]?=some m/\(fk (U k) (m.length:Int)=false->false=v)/\(fk (U k) (m.length:Int)=true->∃z,m[(U k).toNat]?=some z/\ga (fH .and .i64 (z.fdiv (2^(min (xr.tmod 8).toNat IntKind.i64.bits))) 1) 1=v):=λh0 h'=>by
    rw [hq h0] at h' ⊢
    have h2:xr / 8 < (ms.length:Int):=by simpa [fk] using h'
    obtain ⟨m,hm⟩:=cg (l:=ms) (i:=(xr / 8).toNat) (by omega)
    refine ⟨by omega,m,hm,λh3=>?_,λh3=>?_⟩
    ·have h4:¬U k < (m.length:Int):=by simpa [fk] using h3
     rw [hu] at h4
     have uU:m[(Ct W).toNat]?=none:=by rw [X6];exact oD (by omega)
     rw [<-pW h0];unfold EM;simp only;rw [hm];simp only;rw [uU]
    ·have h4:U k < (m.length:Int):=by simpa [fk] using h3
     rw [hu] at h4
     obtain ⟨z,hz⟩:=cg (l:=m) (i:=u) (by omega)
     refine ⟨z,by rw [hut];exact hz,?_⟩
     rw [<-pW h0];unfold EM;simp only;rw [hm];simp only;rw [X6,hz,hm8 h0];rfl
   clear h sq kJ hk
   cbv
   refine ⟨λh=>?_,λh=>?_⟩
   ·have hr:xr < 0:=aG
    have hv:=I7 hr
    have hnr:=hnq hr
    clear h
    cbv
    refine ⟨⟨xt,L k⟩,⟨.inl ⟨by exact a8,rfl⟩,hlk⟩,?_⟩
    cbv
    refine ⟨⟨by decide⟩,λh=>?_,λh=>?_⟩
    ·have h0:0<=xr:=aG
     cases (show False from hnr h0)
    clear h
    cbv
    exact iC 5 (Gm mn mc md inn ms i (V i) v) (by have ny:=hv;exact bq) (by exact aW) tail
   ·have hr:0<=xr:=aG
    have k9:=k9 hr
    have j2:=j2 hr
    have OI:=OI hr
    clear h I7
    cbv
    refine ⟨⟨by decide⟩,λh=>?_,λh=>?_⟩
    rotate_left
    ·have h0:¬0<=xr:=aG
     cases (show False from h0 hr)
    clear h
    cbv
    refine ⟨λh=>?_,λh=>?_⟩
    rotate_left
    ·have e:=k9 h.out
     clear h
     cbv
     exact iC 5 (Gm mn mc md inn ms i (V i) v) (by have eV:=e;exact bq) (by exact aW) tail
    have j2:=j2 h.out
    have vj:=j2.1
    refine j2.2.elim λm ot=>?_
    have hm:=ot.1
    have Aj:=ot.2.1
    have oo:=ot.2.2
    clear h
    cbv
    refine ⟨m,⟨vj,hm⟩,?_⟩
    cbv
    refine ⟨λh=>?_,λh=>?_⟩
    rotate_left
    ·have e:=Aj h.out
     clear h
     cbv
     exact iC 5 (Gm mn mc md inn ms i (V i) v) (by have eV:=e;exact bq) (by exact aW) tail
    refine (oo h.out).elim λz so=>?_
    have hz:=so.1
    have e:=so.2
    clear h
    cbv
    refine ⟨m,⟨vj,hm⟩,?_⟩
    cbv
    refine ⟨z,⟨hu0,hz⟩,?_⟩
    cbv
    refine ⟨⟨by decide⟩,⟨OI⟩,?_⟩
    exact iC 5 (Gm mn mc md inn ms i (V i) v) (by have ny:=e;exact bq) (by exact aW) tail
  ·refine Sat.j8 (agu 0 0) ?_
   cbv
   refine ⟨[v],⟨by exact a8,b5,b6⟩,?_⟩
   cbv
   exact ⟨i+1,by have bK:=eW;exact bq,by have eH:=cb;exact bq,⟨⟨bO,cf⟩⟩⟩
 ·have bV:mc.length<=i:=aG
  have jG:=jG bV
  clear h
  cbv
  refine ⟨?_⟩
  cbv
  exact ⟨by have iJ:=jG;exact bM,λx=>rfl⟩
end Go.Proofs.Pk
