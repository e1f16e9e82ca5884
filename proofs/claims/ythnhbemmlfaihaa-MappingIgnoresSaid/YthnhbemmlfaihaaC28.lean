import Derived.Test.YthnhbemmlfaihaaC13
import Derived.Test.YthnhbemmlfaihaaC15
import Derived.Test.YthnhbemmlfaihaaC25
import Derived.Test.YthnhbemmlfaihaaC26
import Derived.Test.YthnhbemmlfaihaaC27
set_option linter.unusedVariables false
set_option linter.unusedSimpArgs false
set_option maxRecDepth 10000
set_option maxHeartbeats 64000000
namespace Go.Proofs.Pk
open Go Go.Vc
structure ajG (n:Net) (m:ec) (c:kp):Prop where
 ck:E6 n m c 0
 ok:BD n.ins.length n.bU n.bf m c
 v:z7 m
 cells:m.cells.length<=n.bU.length
 jt:Na ⟨m,c,0⟩
 dp:vJ m<=vJ (Wy n.ins.length n.bU n.bf)
theorem aeW {m:ec} (h:z7 m) (hd:m.bf.length<=1000000):IA m:=by
 refine ⟨by have:=h.n6;have:=h.n0;omega,λx hx=>?_,hd⟩
 obtain ⟨i,hi,rfl⟩:=Ld.1 hx
 obtain ⟨c1,_⟩:=h.cell i _ (eB hi)
 simp only [oz,rX,rY,cf,decide_eq_true_eq] at c1
 omega
theorem Ow {n:Net} {m:ec} {c:kp} (h:uM n m c 0):ajG n m c:=by
 have hm:=h.eq
 unfold mapM at hm
 cases hl:iF n.ins.length n.bU with
 | none=>rw [hl] at hm;simp at hm
 | some s =>
  rw [hl] at hm
  simp only [Prod.mk.injEq] at hm
  obtain ⟨rfl,rfl,_⟩:=hm
  have L:=Bu _ rfl h.G hl
  have hb:=afp h.G L h.dr
  have hc:=aci hb
  obtain ⟨hv,jX⟩:=UM h.G hc
  have pn:(lq n.ins.length n.bU s n.bf).1.bf.length<=1000000:=by rw [hc.dl];exact h.jt
  have hf:=aeW hv pn
  have nm:∀l∈(lq n.ins.length n.bU s n.bf).2.leaves,l.length<=1000000:=λl hl=>by
   obtain ⟨i,hi,rfl⟩:=Ld.1 hl
   have jY:i < (lq n.ins.length n.bU s n.bf).1.cells.length:=by rw [<-hc.ll];exact hi
   obtain ⟨x,hx⟩:=cC jY
   obtain ⟨r,hr⟩:=cC (l:=(lq n.ins.length n.bU s n.bf).2.root) (i:=i) (by rw [hc.rl];exact jY)
   obtain ⟨_,_,F⟩:=Oj h.G hc hx hr (eB hi)
   have h1:=hf.cin x (cL hx)
   rw [F.ins,kr] at h1
   exact h1
  have xB:=hf.cells
  exact ⟨⟨h.G,h.jt,xB,hf.cin,nm,by rw [hb];rfl⟩,hc,hv,jX,⟨hf,by show (lq n.ins.length n.bU s n.bf).2.root.length<=_;rw [hc.rl];omega,by rw [hc.ll];exact xB,nm⟩,acH h.G hc⟩
theorem agc {n:Net} {m:ec} {c:kp} {e:Int} (h:uM n m c e):e=0\/e=2/\m=⟨0,[],[]⟩/\c=⟨[],[]⟩:=by
 have hm:=h.eq
 unfold mapM at hm
 cases hl:iF n.ins.length n.bU with
 | none =>
  rw [hl] at hm
  simp only [Prod.mk.injEq] at hm
  obtain ⟨rfl,rfl,rfl⟩:=hm
  exact .inr ⟨rfl,rfl,rfl⟩
 | some s =>
  rw [hl] at hm
  simp only [Prod.mk.injEq] at hm
  exact .inl hm.2.2.symm


def J0 {A:Type} (r:Nat->Nat) (F:(Nat->A)->Nat->A):Prop:=∀f g b,(∀c,r c < r b->f c=g c)->F f b=F g b
def J1 {A:Type} (F:(Nat->A)->Nat->A) (d:A):Nat->Nat->A
 | 0,_=>d
 | n+1,b=>F (J1 F d n) b
theorem VN {A:Type} {r:Nat->Nat} {F:(Nat->A)->Nat->A} (h:J0 r F) (d:A):∀(n m b:Nat),r b < n->r b < m->J1 F d n b=J1 F d m b
 | 0,_,_,h0,_=>absurd h0 (sZ _)
 | _+1,0,_,_,h0=>absurd h0 (sZ _)
 | n+1,m+1,b,h1,h2=>h _ _ b λc hc=>VN h d n m c (by omega) (by omega)
def P3 {A:Type} (F:(Nat->A)->Nat->A) (K:Nat->A):Prop:=∀b,K b=F K b
theorem adU {A:Type} {r:Nat->Nat} {F:(Nat->A)->Nat->A} (h:J0 r F) (d:A):P3 F λb=>J1 F d (r b+1) b:=by
 intro b
 show F _ b=_
 exact h _ _ b λc hc=>VN h d _ _ c hc (by omega)
noncomputable def fixF {A:Type} [Nonempty A] (F:(Nat->A)->Nat->A):Nat->A:=Classical.epsilon (P3 F)
theorem adV {A:Type} [hn:Nonempty A] {r:Nat->Nat} {F:(Nat->A)->Nat->A} (h:J0 r F):P3 F (fixF F) :=
 Classical.epsilon_spec ⟨_,adU h (Classical.choice hn)⟩
def XL (h w:Int):Int:=IntKind.u64.wrap ((BitVec.ofInt 64 h ^^^ BitVec.ofInt 64 w).toNat:Nat)
def XM (h w:Int):Int:=IntKind.u64.wrap (XL h w*15485907386658061715)
def ahB (h w:Int):Int:=IntKind.u64.wrap (XL (XM h w) ((XM h w).fdiv (2^(min (32:Int).toNat IntKind.u64.bits)))*11562461410679940143)
theorem ahC:∃f:Int->Int->Int,f=ahB:=⟨_,rfl⟩
noncomputable def WE:Int->Int->Int:=Classical.choose ahC
noncomputable def ahD (h:Int) (l:List Int):Int:=l.foldl (λh n=>WE h (IntKind.u64.wrap n)) h
noncomputable def oD (l:List Int):Int:=WE (ahD 512970876019 l) (IntKind.u64.wrap l.length)
noncomputable def Ex (p:dZ) (s:Int):Int:=let w:=p.ins.getD s.toNat ⟨0,0,0⟩;oD [2,w.kind,w.i,w.bit]
noncomputable def Ox (p:dZ) (K:Nat->Int) (b:Nat):Int:=match p.blocks[b]? with
 | some x=>if 0<=x.cF then oD [3,x.cF] else K b
 | none=>0
noncomputable def WG (p:dZ) (b:Nat):Int:=match p.blocks[b]? with
 | some x=>if 0<=x.cF then oD [1,x.cF] else 0
 | none=>0
instance (n:Nat) (s:Int):Decidable (rP n s):=inferInstanceAs (Decidable ((s - n) % 2=1))
noncomputable def Ji (p:dZ) (K:Nat->Int) (s:Int):Int :=
 if s < p.ins.length then Ex p s else if rP p.ins.length s then WG p (mD p.ins.length s) else Ox p K (mD p.ins.length s)
noncomputable def Oy (p:dZ) (K:Nat->Int) (x:Block):Int:=oD (4 :: x.table :: x.ej :: x.ins.map λs=>IntKind.i64.wrap (Ji p K s))
noncomputable def E8 (p:dZ) (K:Nat->Int) (b:Nat):Int:=match p.blocks[b]? with
 | some x=>if 0<=x.cF then 0 else Oy p K x
 | none=>0
noncomputable def xZ (p:dZ):Nat->Int:=fixF (E8 p)
noncomputable def XN (p:dZ) (K:Nat->Int) (b:Nat):Int:=match p.blocks[b]? with
 | some x=>if 0<=x.cF then oD [1,x.cF] else K b
 | none=>0
noncomputable def NB (p:dZ):List Int:=(List.range p.blocks.length).map (XN p (xZ p))
theorem map_eq {α β:Type} {f g:α->β} {l:List α} (h:∀x∈l,f x=g x):l.map f=l.map g:=pK h
theorem adW {p:dZ} {r:Nat->Nat} (hr:HZ p r):J0 r (E8 p):=by
 intro f g b h
 unfold E8
 cases hb:p.blocks[b]? with
 | none=>rfl
 | some x =>
  simp only
  split
  ·rfl
  ·unfold Oy
   congr 3
   congr 1
   refine map_eq λs hs=>?_
   congr 1
   unfold Ji
   split
   ·rfl
   ·split
    ·rfl
    ·rename_i h1 h2
     have:=hr b x hb s hs (by omega) h2
     unfold Ox
     split
     ·split
      ·rfl
      ·exact h _ this
     ·rfl
def XO (v k:Int):Bool:=Vc.gA (Vc.fC .and .i64 (v.fdiv (2^(min k.toNat IntKind.i64.bits))) 1) 1
def tC (l:List Bool):Nat->Int
 | 0=>0
 | i+1=>if l.getD i false then Vc.fC .or .i64 (tC l i) (IntKind.i64.wrap (1*2^(min ((i:Int)).toNat IntKind.i64.bits))) else tC l i
def Ce (l:List Bool):Int:=tC l l.length
def BQ (table:Int) (l:List Bool):Bool:=if 5 < l.length then false else XO table (Ce l)
def Ey (s:Vd) (ej:Int) (l:List Bool):Bool:=match s.xV[(ej / 8).toNat]? with
 | some m=>match m[(Ce l).toNat]? with
  | some v=>XO v (ej % 8)
  | none=>false
 | none=>false
structure BF (n:Nat) (l:List Int):Prop where
 len:l.length=n
 rng:∀x∈l,0<=x/\x < n
 nd:l.Nodup
def wH (l:List Int) (i:Nat):Nat:=(l.getD i 0).toNat
theorem BF.get {n:Nat} {l:List Int} (h:BF n l) {i:Nat} (hi:i < n):l[i]?=some (wH l i:Int)/\wH l i < n:=by
 have hl:i < l.length:=by rw [h.len];exact hi
 have:=h.rng _ (Lr hl)
 unfold wH
 rw [List.getD_eq_getElem?_getD,eB hl,rE]
 refine ⟨?_,by omega⟩
 congr 1;omega
theorem BF.inj {n:Nat} {l:List Int} (h:BF n l) {i j:Nat} (hi:i < n) (hj:j < n) (e:wH l i=wH l j):i=j:=by
 have h1:=(h.get hi).1
 have h2:=(h.get hj).1
 rw [<-e] at h2
 have:=h.nd
 rw [R5,rA] at this
 have bP:i < l.length:=by rw [h.len];exact hi
 have e7:j < l.length:=by rw [h.len];exact hj
 rw [eB bP] at h1
 rw [eB e7] at h2
 cases Ln i j with
 | inl aQ=>exact absurd ((vz h1).trans (vz h2).symm) (this i j bP e7 aQ)
 | inr b9=>cases b9 with
  | inl he=>exact he
  | inr aQ=>exact absurd ((vz h2).trans (vz h1).symm) (this j i e7 bP aQ)
theorem acK {α β:Type} {f:α->β} {l:List α} (h:∀x∈l,∀y∈l,f x=f y->x=y) (hn:l.Nodup):(l.map f).Nodup:=by
 induction l with
 | nil=>simp
 | cons x r ih =>
  obtain ⟨h1,h2⟩:=yO.1 hn
  rw [il,yO]
  refine ⟨λhm=>?_,ih (λa ha b hb=>h a (by simp [ha]) b (by simp [hb])) h2⟩
  obtain ⟨y,hy,e⟩:=jO.1 hm
  have:=h y (by simp [hy]) x (by simp) e
  subst this
  exact h1 hy
theorem BF.perm {n:Nat} {l:List Int} (h:BF n l):((List.range n).map (wH l)).Perm (List.range n):=by
 have fe:((List.range n).map (wH l)).Nodup:=acK (λi hi j hj e=>h.inj (lR.1 hi) (lR.1 hj) e) List.nodup_range
 rw [K3 fe List.nodup_range]
 intro b
 constructor
 ·intro hb
  obtain ⟨i,hi,rfl⟩:=jO.1 hb
  exact lR.2 (h.get (lR.1 hi)).2
 ·intro hb
  by_cases hm:b∈(List.range n).map (wH l)
  ·exact hm
  ·have h1:(b :: (List.range n).map (wH l)).Nodup:=yO.2 ⟨hm,fe⟩
   have h2:=Bc (l₂:=List.range n) h1 (λx hx=>by
    rcases cj.1 hx with rfl|hx
    ·exact hb
    ·obtain ⟨i,hi,rfl⟩:=jO.1 hx
     exact lR.2 (h.get (lR.1 hi)).2)
   simp at h2
   omega
def XP:Block:=⟨[],0,0,0,0⟩
def ajH (ks:List Int) (i:Nat) (x:Block):Block:={ x with key:=ks.getD i 0 }
def aeX (p:dZ) (ks:List Int):dZ:={ p with blocks:=p.blocks.mapIdx (ajH ks) }
noncomputable def ahE (n:Net) (m:ec):dZ:=aeX (XE n m) (NB (XE n m))
def agd (p:dZ):List Int:=p.blocks.map (·.key)
def atK (p:dZ) (k:Int):Nat:=(agd p).idxOf k
def xT (p q:dZ) (s:Int):Int :=
 if s < q.ins.length then s else p.ins.length+2*(atK p (q.blocks.getD (mD q.ins.length s) XP).key:Int)+(s - q.ins.length) % 2
def WH (p:dZ) (c d:Nat):Prop:=∃x,p.blocks[c]?=some x/\∃s∈x.ins,(p.ins.length:Int)<=s/\¬rP p.ins.length s/\mD p.ins.length s=d
def St (st:List Int) (v:Int) (c:Nat):Prop:=st[c]?=some v
theorem St.th {st:List Int} {v u:Int} {b c:Nat} (h:c≠b):St (st.set b u) v c↔St st v c:=by
 unfold St;rw [jN];split
 ·omega
 ·exact vu
theorem St.BG {st:List Int} {v u:Int} {b:Nat} (h:b < st.length):St (st.set b u) v b↔u=v:=by
 unfold St;rw [jN];simp [h]
theorem St.lt {st:List Int} {v:Int} {c:Nat} (h:St st v c):c < st.length:=(bq.1 h).1
theorem St.uniq {st:List Int} {v u:Int} {c:Nat} (h:St st v c) (k:St st u c):v=u:=by unfold St at *;rw [h] at k;exact vz k
def uz (st:List Int):Nat:=st.countP (· == 0)
theorem acL {st:List Int} {b:Nat} {v:Int} (h:St st 0 b) (hv:v≠0):uz (st.set b v)+1=uz st:=by
 unfold uz St at *
 induction st generalizing b with
 | nil=>simp at h
 | cons x l ih =>
  cases b with
  | zero=>simp at h;subst h;simp [Ha,hv]
  | succ b =>
   have:=ih (b:=b) (by simpa using h)
   simp only [G5,Ha]
   omega
theorem abS {st:List Int} {b:Nat} {u v:Int} (h:St st u b) (hu:u≠0) (hv:v≠0):uz (st.set b v)=uz st:=by
 unfold uz St at *
 induction st generalizing b with
 | nil=>simp at h
 | cons x l ih =>
  cases b with
  | zero=>simp at h;subst h;simp [Ha,hu,hv]
  | succ b =>
   have:=ih (b:=b) (by simpa using h)
   simp only [G5,Ha]
   omega
def pc (p:dZ) (st:List Int):Prop:=∃r:Nat->Nat,∀c d,St st 2 c->WH p c d->St st 2 d/\r d < r c
theorem pc.nil {p:dZ} {st:List Int} (h:∀c,¬St st 2 c):pc p st:=⟨λ_=>0,λc d hc=>absurd hc (h c)⟩
theorem bound {l:List Nat} (r:Nat->Nat):∃m,∀d∈l,r d < m:=by
 induction l with
 | nil=>exact ⟨0,by simp⟩
 | cons x l ih =>
  obtain ⟨m,hm⟩:=ih
  refine ⟨m+r x+1,λd hd=>?_⟩
  rcases cj.1 hd with rfl|hd
  ·omega
  ·have:=hm d hd;omega
theorem pc.done {p:dZ} {st:List Int} (h:pc p st) {b:Nat} (hb:St st 1 b) (df:∀d,WH p b d->St st 2 d):pc p (st.set b 2):=by
 obtain ⟨r,hr⟩:=h
 have aQ:=hb.lt
 obtain ⟨m,hm⟩:=bound (l:=List.range st.length) r
 refine ⟨λc=>if c=b then m else r c,λc d hc ht=>?_⟩
 by_cases kK:c=b
 ·subst kK
  have hd:=df d ht
  have AG:d≠c:=by rintro rfl;have:=hd.uniq hb;omega
  exact ⟨(St.th AG).2 hd,by simp only [if_neg AG,if_true];exact hm d (lR.2 hd.lt)⟩
 ·have h2:=hr c d ((St.th kK).1 hc) ht
  have AG:d≠b:=by rintro rfl;have:=h2.1.uniq hb;omega
  exact ⟨(St.th AG).2 h2.1,by simp only [if_neg AG,if_neg kK];exact h2.2⟩
theorem pc.mark {p:dZ} {st:List Int} (h:pc p st) {b:Nat} (hb:St st 0 b):pc p (st.set b 1):=by
 obtain ⟨r,hr⟩:=h
 have aQ:=hb.lt
 refine ⟨r,λc d hc ht=>?_⟩
 have kK:c≠b:=by rintro rfl;have:=(St.BG aQ).1 hc;omega
 have h2:=hr c d ((St.th kK).1 hc) ht
 have AG:d≠b:=by rintro rfl;have:=h2.1.uniq hb;omega
 exact ⟨(St.th AG).2 h2.1,h2.2⟩
structure F1 (p:dZ) (st:List Int):Prop where
 len:st.length=p.blocks.length
 val:∀c v,St st v c->v=0\/v=1\/v=2
structure zG (p:dZ) (st:List Int) (b:Nat) (res:Bool) (cM:List Int):Prop where
 w:F1 p cM
 z:uz cM<=uz st
 one:res=true->∀c,St cM 1 c↔St st 1 c
 two:res=true->(∀c,St st 2 c->St cM 2 c)/\St cM 2 b
 yy:res=true->pc p st->pc p cM
 rk:∀r,HZ p r->(∀c,St st 1 c->r b < r c)->res=true
theorem zG.EG {p:dZ} {st:List Int} {b:Nat} (h:F1 p st) (hb:St st 2 b):zG p st b true st :=
 ⟨h,fP _,λ_ _=>vu,λ_=>⟨λ_ h=>h,hb⟩,λ_ h=>h,λ_ _ _=>rfl⟩
structure sJ (p:dZ) (st:List Int) (b:Nat) (x:Block) (j:Nat) (cM:List Int):Prop where
 le:j<=x.ins.length
 w:F1 p cM
 z:uz cM+1<=uz st
 one:∀c,St cM 1 c↔St st 1 c\/c=b
 two:∀c,St st 2 c->St cM 2 c
 yy:pc p st->pc p cM
 ins:∀i s,i < j->x.ins[i]?=some s->(p.ins.length:Int)<=s->¬rP p.ins.length s->St cM 2 (mD p.ins.length s)
theorem sJ.start {p:dZ} {st:List Int} {b:Nat} (h:F1 p st) (hb:St st 0 b) (x:Block):sJ p st b x 0 (st.set b 1):=by
 have aQ:=hb.lt
 refine ⟨cK _,⟨by simp [h.len],λc v hc=>?_⟩,by have:=acL hb (v:=1) (by decide);omega,λc=>?_,λc hc=>?_,λha=>ha.mark hb,λi s hi=>by omega⟩
 ·by_cases kK:c=b
  ·subst kK;have:=(St.BG aQ).1 hc;omega
  ·exact h.val c v ((St.th kK).1 hc)
 ·by_cases kK:c=b
  ·subst kK;exact ⟨λ_=>.inr rfl,λ_=>(St.BG aQ).2 rfl⟩
  ·rw [St.th kK];exact ⟨.inl,λh=>h.resolve_right kK⟩
 ·have kK:c≠b:=by rintro rfl;have:=hc.uniq hb;omega
  exact (St.th kK).2 hc
theorem sJ.skip {p:dZ} {st:List Int} {b:Nat} {x:Block} {j:Nat} {cM:List Int} (h:sJ p st b x j cM) {s:Int} (hs:x.ins[j]?=some s) (hn:¬((p.ins.length:Int)<=s/\¬rP p.ins.length s)):sJ p st b x (j+1) cM :=
 ⟨(
  bq.1 hs).1,h.w,h.z,h.one,h.two,h.yy,λi t hi ht h1 h2=>by
  by_cases oq:i=j
  ·subst oq;rw [hs] at ht;cases ht;exact absurd ⟨h1,h2⟩ hn
  ·exact h.ins i t (by omega) ht h1 h2⟩
theorem sJ.go {p:dZ} {st:List Int} {b:Nat} {x:Block} {j:Nat} {cM tO:List Int} (h:sJ p st b x j cM) {s:Int} (hs:x.ins[j]?=some s) (hb:St st 0 b) (k:zG p cM (mD p.ins.length s) true tO):sJ p st b x (j+1) tO:=by
 refine ⟨(bq.1 hs).1,k.w,by have:=k.z;have:=h.z;omega,λc=>by rw [k.one rfl c];exact h.one c,λc hc=>(k.two rfl).1 c (h.two c hc),λha=>k.yy rfl (h.yy ha),λi t hi ht h1 h2=>?_⟩
 by_cases oq:i=j
 ·subst oq;rw [hs] at ht;cases ht;exact (k.two rfl).2
 ·exact (k.two rfl).1 _ (h.ins i t (by omega) ht h1 h2)
theorem sJ.bad {p:dZ} {st:List Int} {b:Nat} {x:Block} {j:Nat} {cM tO:List Int} (h:sJ p st b x j cM) (hx:p.blocks[b]?=some x) {s:Int} (hs:x.ins[j]?=some s) (h1:(p.ins.length:Int)<=s) (h2:¬rP p.ins.length s) (k:zG p cM (mD p.ins.length s) false tO):zG p st b false tO :=
 ⟨k.w,by have:=k.z;have:=h.z;omega,by simp,by simp,by simp,λr hr hc=>k.rk r hr λc wu=>by
  have aQ:=hr b x hx s (cL hs) h1 h2
  rcases (h.one c).1 wu with h3|rfl
  ·have:=hc c h3;omega
  ·exact aQ⟩
theorem sJ.out {p:dZ} {st:List Int} {b:Nat} {x:Block} {j:Nat} {cM:List Int} (h:sJ p st b x j cM) (hx:p.blocks[b]?=some x) (hb:St st 0 b) (hj:j=x.ins.length):zG p st b true (cM.set b 2):=by
 have h1:St cM 1 b:=(h.one b).2 (.inr rfl)
 have aQ:=h1.lt
 refine ⟨⟨by simp [h.w.len],λc v hc=>?_⟩,by have:=abS h1 (v:=2) (by decide) (by decide);have:=h.z;omega,λ_ c=>?_,λ_=>⟨λc hc=>?_,(St.BG aQ).2 rfl⟩,λ_ ha=>(h.yy ha).done h1 ?_,λ_ _ _=>rfl⟩
 ·by_cases kK:c=b
  ·subst kK;have:=(St.BG aQ).1 hc;omega
  ·exact h.w.val c v ((St.th kK).1 hc)
 ·by_cases kK:c=b
  ·subst kK
   exact ⟨λh=>by have:=(St.BG aQ).1 h;omega,λh=>by have:=h.uniq hb;omega⟩
  ·rw [St.th kK,h.one c];exact ⟨λh=>h.resolve_right kK,.inl⟩
 ·have kK:c≠b:=by rintro rfl;have:=hc.uniq hb;omega
  exact (St.th kK).2 (h.two c hc)
 ·rintro d ⟨y,hy,s,hs,h3,h4,rfl⟩
  rw [hx] at hy;cases hy
  obtain ⟨i,hi,e⟩:=Ld.1 hs
  exact h.ins i s (by omega) (by rw [eB hi,e]) h3 h4
structure I3 where
 n:Int
 lo:Int
 hi:Int
theorem pc.all {p:dZ} {st:List Int} (h:pc p st) (ha:∀b,b < p.blocks.length->St st 2 b):∃r,HZ p r:=by
 obtain ⟨r,hr⟩:=h
 refine ⟨r,λb x hx s hs h1 h2=>?_⟩
 exact (hr b _ (ha b (bq.1 hx).1) ⟨x,hx,s,hs,h1,h2,rfl⟩).2
structure F2 (p:dZ) (b:Nat) (st:List Int):Prop where
 le:b<=p.blocks.length
 w:F1 p st
 one:∀c,¬St st 1 c
 two:∀c,c < b->St st 2 c
 yy:pc p st
theorem F2.start (p:dZ):F2 p 0 (List.replicate p.blocks.length 0):=by
 have h:∀c v,St (List.replicate p.blocks.length 0) v c->v=0:=λc v hc=>by
  have hm:=cL (show (List.replicate p.blocks.length (0:Int))[c]?=some v from hc)
  exact (Bk.1 hm).2
 exact ⟨cK _,⟨yX,λc v hc=>.inl (h c v hc)⟩,λc hc=>by have:=h c 1 hc;omega,λc hc=>by omega,.nil λc hc=>by have:=h c 2 hc;omega⟩
theorem F2.next {p:dZ} {b:Nat} {st cM:List Int} (h:F2 p b st) (hb:b < p.blocks.length) (k:zG p st b true cM):F2 p (b+1) cM :=
 ⟨hb,k.w,λc hc=>h.one c ((k.one rfl c).1 hc),λc hc=>by
  by_cases e:c=b
  ·subst e;exact (k.two rfl).2
  ·exact (k.two rfl).1 c (h.two c (by omega)),k.yy rfl h.yy⟩
noncomputable def ZV (sig:List Int) (x:Block):Int:=oD (4 :: x.table :: x.ej :: x.ins.map λs=>IntKind.i64.wrap (sig.getD s.toNat 0))
def E9 (d0 d:List Bool):Prop:=d.length=d0.length/\∀i:Nat,d0[i]?=some true->d[i]?=some true
theorem E9.refl (d:List Bool):E9 d d:=⟨rfl,λ_ h=>h⟩
theorem E9.set {d0 d:List Bool} (h:E9 d0 d) (b:Nat):E9 d0 (d.set b true):=by
 refine ⟨by simp [h.1],λi hi=>?_⟩
 have:=h.2 i hi
 rw [jN]
 split
 ·rename_i e;subst e;simp [(bq.1 this).1]
 ·exact this
structure F3 (p:dZ) (i:Nat) (m:Int->Option Unit):Prop where
 le:i<=p.blocks.length
 cF:∀j,(m j).isSome=true↔∃k x,k < i/\p.blocks[k]?=some x/\x.cF=j
 ok:∀(k:Nat) (x:Block),k < i->p.blocks[k]?=some x->M7 x/\∀s∈x.ins,BE p s
 Ju:∀(k l:Nat) (x y:Block),k < i->l < i->p.blocks[k]?=some x->p.blocks[l]?=some y->0<=x.cF->x.cF=y.cF->k=l
theorem F3.nil (p:dZ):F3 p 0 λ_=>none:=⟨cK _,λj=>⟨λh=>by simp at h,λ⟨k,x,h,_⟩=>by omega⟩,λk x h=>by omega,λk l x y h=>by omega⟩
theorem F3.add {p:dZ} {i:Nat} {m:Int->Option Unit} (h:F3 p i m) {x:Block} (hx:p.blocks[i]?=some x) (hf:M7 x) (hu:∀s∈x.ins,BE p s) (hd:0<=x.cF->(m x.cF).isSome=false) {m':Int->Option Unit} (hm:∀j,(m' j).isSome=true↔j=x.cF\/(m j).isSome=true):F3 p (i+1) m':=by
 refine ⟨(bq.1 hx).1,λj=>?_,λk y hk hy=>?_,λk l y z hk hl hy hz h0 he=>?_⟩
 ·rw [hm j,h.cF j]
  constructor
  ·rintro (e|⟨k,y,hk,hy,e⟩)
   ·exact ⟨i,x,by omega,hx,e.symm⟩
   ·exact ⟨k,y,by omega,hy,e⟩
  ·rintro ⟨k,y,hk,hy,e⟩
   by_cases F4:k=i
   ·subst F4;rw [hx] at hy;cases hy;exact .inl e.symm
   ·exact .inr ⟨k,y,by omega,hy,e⟩
 ·by_cases F4:k=i
  ·subst F4;rw [hx] at hy;cases hy;exact ⟨hf,hu⟩
  ·exact h.ok k y (by omega) hy
 ·have key:∀(k:Nat) (y:Block),k < i->p.blocks[k]?=some y->0<=x.cF->y.cF≠x.cF:=λk y hk hy h0 e=>by
   have:=(h.cF x.cF).2 ⟨k,y,hk,hy,e⟩
   rw [hd h0] at this;cases this
  by_cases F4:k=i
  ·subst F4;rw [hx] at hy;cases hy
   by_cases CP:l=k
   ·exact CP.symm
   ·exact absurd he.symm (key l z (by omega) hz h0)
  ·by_cases CP:l=i
   ·subst CP;rw [hx] at hz;cases hz
    exact absurd he (key k y (by omega) hy (by omega))
   ·exact h.Ju k l y z (by omega) (by omega) hy hz h0 he
structure SS where
 a:List Source
 b:List Source

def atR (l:List Block):Nat->Int->Option Int
 | 0=>λ_=>none
 | i+1=>λj=>if j=(l.getD i XP).key then some (i:Int) else atR l i j
@[reducible] noncomputable def H6:Vc.Spec where
 α:=Net
 args x:=[.agg (oj x)]
 pre x:=2+x.ins.length+x.bU.length<=1000000
 res x:=.i .i64 (λ_=>M8 x)
theorem Mp:dm (PP ()) 12 H6:=by
 refine fl (Ny 0 0) (fo Try.func12) (λa=>⟨td a,trivial⟩) (λa=>trivial) ?_
 rintro ⟨ins,gs,outs,dr⟩ hx
 have hx:2+ins.length+gs.length<=1000000:=hx
 have e:IntKind.i64.wrap (IntKind.i64.wrap (2+(ins.length:Int))+(gs.length:Int))=M8 ⟨ins,gs,outs,dr⟩:=by
  rw [ei (n:=2+(ins.length:Int)) (by omega) (by omega),ei (by omega) (by omega)];rfl
 refine ⟨?_⟩
 cbv
 exact ⟨.i e⟩
structure Cut where
 root:Int
 l:List Int
open Classical in
noncomputable def api (c:Cut):Bool:=decide ((∀(i:Nat) (x:Int),c.l[i]?=some x->2<=x/\x<=c.root/\∀(j:Nat) (y:Int),i=j+1->c.l[j]?=some y->y < x)/\c.l.length<=4)
theorem ajM {a b:Nat} (ha:a < 65536) (hb:b < 65536):fC .or .i64 (a:Int) (b:Int)=((a ||| b:Nat):Int):=by
 have h:a ||| b < 65536:=Nat.or_lt_two_pow (n:=16) ha hb
 unfold fC
 simp only
 have e:(BitVec.ofInt IntKind.i64.bits (a:Int) ||| BitVec.ofInt IntKind.i64.bits (b:Int)).toNat=a ||| b:=by
  rw [BitVec.toNat_or,BitVec.ofInt_natCast,BitVec.ofInt_natCast,BitVec.toNat_ofNat,BitVec.toNat_ofNat]
  show a % 2^64 ||| b % 2^64=a ||| b
  rw [Lp (show a < 2^64 by omega),Lp (show b < 2^64 by omega)]
 rw [e,ei (by omega) (by omega)]
structure TG where
 i:Nat
 t:Int
theorem ajN {i:Nat} (h:i < 16):IntKind.i64.wrap (1*2^(min ((i:Int)).toNat IntKind.i64.bits))=((2^i:Nat):Int):=by
 have:i=0\/i=1\/i=2\/i=3\/i=4\/i=5\/i=6\/i=7\/i=8\/i=9\/i=10\/i=11\/i=12\/i=13\/i=14\/i=15:=by omega
 rcases this with e|e|e|e|e|e|e|e|e|e|e|e|e|e|e|e<;>subst e<;>rfl
theorem ahG {i:Nat} (h:i < 16):2^i < 65536:=by
 have:2^i<=2^15:=Lc (by decide) (by omega)
 omega
theorem Mq (l:List Bool):∀i,i<=15->∃n:Nat,tC l i=(n:Int)/\n < 2^i
 | 0,_=>⟨0,rfl,by decide⟩
 | i+1,h=>by
  obtain ⟨n,h1,h2⟩:=Mq l i (by omega)
  have hp:=ahG (i:=i) (by omega)
  unfold tC
  split
  ·refine ⟨n ||| 2^i,?_,Nat.or_lt_two_pow (Hg h2 (Lf (by decide) (by omega))) (Lf (by decide) (by omega))⟩
   rw [h1,ajN (by omega),ajM (by omega) hp]
  ·exact ⟨n,h1,Hg h2 (Lf (by decide) (by omega))⟩
theorem T0 {l:List Bool} {i:Nat} (h:l[i]?=some true):fC .or .i64 (tC l i) (IntKind.i64.wrap (1*2^(min ((i:Int)).toNat IntKind.i64.bits)))=tC l (i+1):=by
 show _=if l.getD i false then _ else _
 rw [List.getD_eq_getElem?_getD,h];rfl
theorem UQ {l:List Bool} {i:Nat} (h:l[i]?=some false):tC l i=tC l (i+1):=by
 show _=if l.getD i false then _ else _
 rw [List.getD_eq_getElem?_getD,h];rfl
structure ajO where
 t:Int
 l:List Bool
@[reducible] noncomputable def IB:Vc.Spec where
 α:=ajO
 args x:=[.i .i64 (λ_=>x.t),.sl 1 o8 (λ_=>x.l)]
 pre x:=x.l.length<=1000000
 res x:=.b (λ_=>BQ x.t x.l)
noncomputable def cLk (n m:Nat):Ctx:=ff n m [] []
theorem WI (n m:Nat):CB PP (cLk n m):=fi n m trivial trivial
theorem UR:dm (PP ()) 30 IB:=by
 refine fl (WI 0 0) (fo Try.func30) (λa=>⟨trivial,(λx=>(Hw x).1),trivial⟩) (λa=>trivial) ?_
 rintro ⟨t,l⟩ hx
 have hl6:l.length<=1000000:=hx
 obtain ⟨R,hR⟩:∃R,BQ t l=R:=⟨_,rfl⟩
 have J2:IB.res ⟨t,l⟩=.b (λ_=>R):=by rw [<-hR]
 rw [J2]
 unfold BQ at hR
 obtain ⟨U,hU⟩:∃U:Nat->Int,∀i,U i=tC l i:=⟨_,λ_=>rfl⟩
 have P4:0=U 0:=by rw [hU];rfl
 refine ⟨?_⟩
 cbv
 refine ⟨λh=>?_,λh=>?_⟩
 ·have h5:5 < l.length:=by have h':fj 5 (l.length:Int)=true:=h.out;simp only [fj,decide_eq_true_eq] at h';omega
  rw [if_pos h5] at hR
  cbv
  exact ⟨by exact gw⟩
 have h5:¬5 < l.length:=by have h':fj 5 (l.length:Int)=false:=h.out;simp only [fj,decide_eq_false_iff_not] at h';omega
 rw [if_neg h5] at hR
 clear h
 cbv
 refine Sat.eE (WI 0 0) 0 5 [] (λi:Nat=>[(5,.i .i64 (λ_=>U i)),(11,.sl 1 o8 (λ_=>l)),(12,.i .i64 (λ_=>(l.length:Int))),(13,.i .i64 (λ_=>(i:Int)))]) (λi=>[]) (λi=>i<=l.length) (λi=>l.length - i) 0 (by have gE:=P4;exact a8) (by exact aW) (cK _) ?_
 intro i hi
 have hi:i<=l.length:=hi
 have h0:=n0 i
 have h1:=eO (i:=i) (by omega)
 cbv
 refine ⟨λh=>?_,λh=>?_⟩
 ·have bP:i < l.length:=aL
  have cy:l.length - (i+1) < l.length - i:=by omega
  refine (cC bP).elim λb hb=>?_
  cbv
  refine ⟨b,⟨h0,hb⟩,?_⟩
  cbv
  refine ⟨λh=>?_,λh=>?_⟩
  ·have q7:b=true:=h.out
   have cS:fC .or .i64 (U i) (IntKind.i64.wrap (1*2^(min ((i:Int)).toNat IntKind.i64.bits)))=U (i+1):=by rw [hU,hU];exact T0 (by rw [hb,q7])
   cbv
   refine ⟨⟨h0⟩,?_⟩
   cbv
   exact ⟨i+1,by have bE:=cS;have fO:=h1;exact a8,by exact aW,⟨⟨bP,cy⟩⟩⟩
  ·have q7:b=false:=h.out
   have cS:U i=U (i+1):=by rw [hU,hU];exact UQ (by rw [hb,q7])
   cbv
   exact ⟨i+1,by have bE:=cS;have fO:=h1;exact a8,by exact aW,⟨⟨bP,cy⟩⟩⟩
 have b9:i=l.length:=by
  have h':fj i l.length=false:=h.out
  have h2:¬(i:Int) < l.length:=by simpa [fj] using h'
  omega
 have hU1:0<=U i:=by
  obtain ⟨n,hn,_⟩:=Mq l i (by omega)
  rw [hU,hn];exact Ll _
 have e:gA (fC .and .i64 (t.fdiv (2^(min (U i).toNat IntKind.i64.bits))) 1) 1=R:=by rw [<-hR,hU,b9];rfl
 clear h
 cbv
 refine ⟨⟨hU1⟩,?_⟩
 cbv
 exact ⟨by have nq:=e;exact wA⟩
structure Cg (p:dZ) (st sig out:List Int):Prop where
 sl:sig.length=p.ins.length+2*p.blocks.length
 ol:out.length=p.blocks.length
 Ch:∀s:Nat,s < p.ins.length->sig[s]?=some (Ex p s)
 cF:∀(b:Nat) (x:Block),p.blocks[b]?=some x->0<=x.cF->sig[p.ins.length+2*b]?=some (oD [3,x.cF])/\sig[p.ins.length+2*b+1]?=some (oD [1,x.cF])/\out[b]?=some (oD [1,x.cF])
 done:∀(b:Nat) (x:Block),p.blocks[b]?=some x->x.cF < 0->St st 2 b->sig[p.ins.length+2*b]?=some (xZ p b)/\out[b]?=some (xZ p b)
theorem Cg.at {p:dZ} {st sig out:List Int} (h:Cg p st sig out) {s:Int} (hu:BE p s) (hd:(p.ins.length:Int)<=s->¬rP p.ins.length s->St st 2 (mD p.ins.length s)):sig.getD s.toNat 0=Ji p (xZ p) s:=by
 have h0:=hu.lo
 have h1:=hu.hi
 unfold dZ.sigs at h1
 unfold Ji
 rw [List.getD_eq_getElem?_getD]
 split
 ·rename_i aQ
  rw [h.Ch s.toNat (by omega),Int.toNat_of_nonneg h0];rfl
 ·rename_i b9
  split
  ·rename_i hf
   obtain ⟨x,hx,hr⟩:=hu.flip (by omega) hf
   have e:s.toNat=p.ins.length+2*mD p.ins.length s+1:=by unfold rP at hf;unfold mD;omega
   rw [e,(h.cF _ x hx hr).2.1]
   unfold WG
   rw [hx];simp [hr]
  ·rename_i hf
   have jd:mD p.ins.length s < p.blocks.length:=by unfold mD;omega
   have e:s.toNat=p.ins.length+2*mD p.ins.length s:=by unfold rP at hf;unfold mD;omega
   have hx:p.blocks[mD p.ins.length s]?=some (p.blocks[mD p.ins.length s]):=eB jd
   unfold Ox
   rw [hx,e]
   simp only
   split
   ·rename_i hr;rw [(h.cF _ _ hx hr).1];rfl
   ·rename_i hr;rw [(h.done _ _ hx (by omega) (hd (by omega) hf)).1];rfl
theorem Cg.key {p:dZ} {st sig out:List Int} (h:Cg p st sig out) {r:Nat->Nat} (hr:HZ p r) {b:Nat} {x:Block} (hx:p.blocks[b]?=some x) (hg:x.cF < 0) (hu:∀s∈x.ins,BE p s) (hd:∀s∈x.ins,(p.ins.length:Int)<=s->¬rP p.ins.length s->St st 2 (mD p.ins.length s)):ZV sig x=xZ p b:=by
 have hs:=adV (adW hr) b
 show _=xZ p b
 unfold xZ
 rw [hs]
 show _=E8 p (xZ p) b
 unfold E8
 rw [hx]
 simp only
 rw [if_neg (by omega)]
 unfold Oy ZV
 congr 4
 exact pK λs hs=>by rw [h.at (hu s hs) (hd s hs)]
def Fa (out:List Bool) (s:Int):Bool:=out.getD s.toNat false
def x1 (s:Vd) (out:List Bool) (x:Cell):Bool:=if x.ej < 0 then BQ x.table (x.ins.map (Fa out)) else Ey s x.ej (x.ins.map (Fa out))
def kE (ms:List (List Int)) (inn:List Bool) (C:List Cell):List Bool:=C.foldl (λvs x=>vs++[x1 ⟨[],ms⟩ vs x]) ([false,true]++inn)
theorem SY {ms:List (List Int)} {inn:List Bool} {C:List Cell} {i:Nat} {x:Cell} (hx:C[i]?=some x):kE ms inn (C.take i)++[x1 ⟨[],ms⟩ (kE ms inn (C.take i)) x]=kE ms inn (C.take (i+1)):=by
 unfold kE
 rw [jm,hx,nJ,List.foldl_append,mj,Dx]
theorem T2 {ms:List (List Int)} {inn:List Bool} {C:List Cell}:∀{i:Nat},i<=C.length->(kE ms inn (C.take i)).length=2+inn.length+i
 | 0,_=>by unfold kE;simp;omega
 | i+1,h=>by
  obtain ⟨x,hx⟩:=cC (l:=C) (i:=i) (by omega)
  rw [<-SY hx,fJ,T2 (by omega)];simp;omega
structure ajP (m:ec) (inn:List Bool) (ms:List (List Int)) (V:Nat->List Bool):Prop where
 z:[false,true]++inn=V 0
 grow:∀(i:Nat) (x:Cell),m.cells[i]?=some x->V i++[x1 ⟨[],ms⟩ (V i) x]=V (i+1)/\(V i).length<=600/\x.ins.length<=4/\x.ej<=63/\∀s∈x.ins,0<=s/\s.toNat < (V i).length
 fin:∀i,i<=m.cells.length->m.cells.length<=i->V i=kE ms inn m.cells
theorem ajQ {m:ec} (h:z7 m) {inn:List Bool} (hn:m.n=inn.length) (ms:List (List Int)):∃V,ajP m inn ms V:=by
 have h6:=h.n6
 refine ⟨λi=>kE ms inn (m.cells.take i),rfl,λi x hx=>?_,λi hi hg=>?_⟩
 ·have hi:=(bq.1 hx).1
  have hl:=T2 (ms:=ms) (inn:=inn) (C:=m.cells) (i:=i) (by omega)
  obtain ⟨c1,c2⟩:=h.cell i x hx
  have hc:x.ins.length<=4/\x.ej<=63:=by
   simp only [oz,rX,rY,cf,decide_eq_true_eq] at c1
   omega
  refine ⟨SY hx,by omega,hc.1,hc.2,λs hs=>?_⟩
  have:=c2 s hs
  omega
 ·show kE ms inn (m.cells.take i)=_
  rw [jj hg]
structure ajR where
 m:ec
 inn:List Bool
 ms:List (List Int)
structure Oz (m:ec) (inn:List Bool) (ms:List (List Int)):Prop where
 v:z7 m
 n:m.n=inn.length
@[reducible] noncomputable def XQ:Vc.Spec where
 α:=ajR
 args x:=[.agg (xY x.m),.sl 1 o8 (λ_=>x.inn),.sl 1 fR (λ_=>x.ms)]
 pre x:=Oz x.m x.inn x.ms
 res x:=.sl 1 o8 (λ_=>kE x.ms x.inn x.m.cells)
 fr:=true
def F5 (mn:Int) (mc:List Cell) (md:List Int) (inn:List Bool) (ms:List (List Int)) (i:Nat) (V:List Bool) (v:Bool):Vc.St :=
 ⟨[.agg [.i .i64 (λ_=>mn),.sl 3 mC (λ_=>mc),.sl 1 bH (λ_=>md)],.sl 1 o8 (λ_=>inn),.sl 1 fR (λ_=>ms),.ptr 0 0,.any,.any,.cD,.own 2,.any,.any,.any,.any,.any,.any,.b (λ_=>v),.any,.any,.any,.any,.any,
   .sl 3 mC (λ_=>mc),.i .i64 (λ_=>(mc.length:Int)),.i .i64 (λ_=>(i:Int))]++r9 80,
  [.fix 38 [.i .i64 (λ_=>mn),.sl 3 mC (λ_=>mc),.sl 1 bH (λ_=>md)],.dead,.dyn 4 1 o8 (λ_=>V),.dead,.dead]⟩
structure ZW (xi:List Int) (xt xr:Int) (ms:List (List Int)) (V W:List Bool) (v:Bool):Prop where
 wl:W.length=xi.length
 w4:W.length<=4
 at_:∀(k:Nat) (s:Int),xi[k]?=some s->0<=s/\∃b,V[s.toNat]?=some b/\W[k]?=some b
 neg:xr < 0->BQ xt W=v
 pos:0<=xr->Ey ⟨[],ms⟩ xr W=v
theorem mrF {xi:List Int} {xt xr:Int} {V:List Bool} (ms:List (List Int)) (h4:xi.length<=4) (hs:∀s∈xi,0<=s/\s.toNat < V.length):∃W v,x1 ⟨[],ms⟩ V ⟨xi,xt,xr⟩=v/\ZW xi xt xr ms V W v:=by
 refine ⟨xi.map (Fa V),_,rfl,by rw [kr],by rw [kr];exact h4,λk s hk=>?_,λh=>?_,λh=>?_⟩
 ·obtain ⟨h0,h1⟩:=hs s (cL hk)
  obtain ⟨b,hb⟩:=cC h1
  refine ⟨h0,b,hb,?_⟩
  rw [k8,hk]
  show some (Fa V s)=some b
  unfold Fa
  rw [List.getD_eq_getElem?_getD,hb];rfl
 ·unfold x1;rw [if_pos h]
 ·unfold x1;rw [if_neg (by show ¬xr < 0;omega)]
def oT (W:List Bool) (k:Nat):List Bool:=W.take k++List.replicate (W.length - k) false
theorem ae3 {W:List Bool} {k:Nat} {b:Bool} (hb:W[k]?=some b):(oT W k)[k]?=some false/\(oT W k).set k b=oT W (k+1)/\(oT W (k+1))[k]?=some b/\k < (oT W k).length/\k < (oT W (k+1)).length:=by
 have hk:=(bq.1 hb).1
 have ht:(W.take k).length=k:=by rw [lQ];omega
 have hr:List.replicate (W.length - k) false=false :: List.replicate (W.length - (k+1)) false:=by rw [show W.length - k=(W.length - (k+1))+1 by omega,Ds]
 have h1:(oT W k)[k]?=some false:=by
  unfold oT
  rw [pI (by omega),ht,yT,hr];rfl
 have h2:(oT W k).set k b=oT W (k+1):=by
  unfold oT
  rw [La _ _ (by omega),ht,yT,hr,jm,hb]
  simp
 refine ⟨h1,h2,?_,(bq.1 h1).1,?_⟩
 ·rw [<-h2,nH (bq.1 h1).1]
 ·rw [<-h2,y4];exact (bq.1 h1).1
theorem ae4 {W:List Bool} {k:Nat} (h:W.length<=k):oT W k=W:=by
 unfold oT
 rw [jj h,Nat.sub_eq_zero_of_le h];simp
noncomputable def ajS (n m:Nat):Ctx:=cP n m [] [] [] [] [2] [60]
theorem agi (n m:Nat):CB PP (ajS n m):=cR n m trivial trivial
noncomputable def cMe (n m:Nat):Ctx:=cP n m [] [(30,IB)] [] [] [18]
theorem ND (n m:Nat):CB PP (cMe n m):=cR n m trivial ⟨UR,trivial⟩
noncomputable def ajT (n m:Nat):Ctx:=cP n m [] []
theorem agj (n m:Nat):CB PP (ajT n m):=cR n m trivial trivial
theorem agk:dm (PP ()) 16 XQ:=by
 refine Va (agi 0 0) (fo Try.func16) (λa=>⟨zh a.m,λx=>(Hw x).1,λx=>(qF x).1,trivial⟩) (λa=>(λx=>(Hw x).1)) ?_
 rintro ⟨⟨mn,mc,md⟩,inn,ms⟩ hx
 obtain ⟨hv,hn⟩:Oz ⟨mn,mc,md⟩ inn ms:=hx
 have hn:mn=inn.length:=hn
 have h6:2+mn+(mc.length:Int)<=600:=hv.n6
 refine (ajQ hv hn ms).elim λV hF=>?_
 have hz:[false,true]++inn=V 0:=hF.z
 have fN:∀(i:Nat) (x:Cell),mc[i]?=some x->V i++[x1 ⟨[],ms⟩ (V i) x]=V (i+1)/\(V i).length<=600/\x.ins.length<=4/\x.ej<=63/\∀s∈x.ins,0<=s/\s.toNat < (V i).length:=hF.grow
 have mG:∀i,i<=mc.length->mc.length<=i->V i=kE ms inn mc:=hF.fin
 have ON:mc.length<=600:=by omega
 have b1:(2+inn.length)*1<=140737488355328:=by omega
 have b2:2+inn.length<=9223372036854775807:=by omega
 clear hF
 refine ⟨?_⟩
 cbv
 refine ⟨[false,true],⟨by exact gw,rfl⟩,?_⟩
 cbv
 refine ⟨inn,⟨by exact a7,b1,b2⟩,?_⟩
 cbv
 refine Sat.iR (ND 0 0) ?_
 cbv
 refine Sat.eE (ND 0 0) 3 7 [(.t 7,2)] (λi:Nat=>[(7,.own 2),(20,.sl 3 mC (λ_=>mc)),(21,.i .i64 (λ_=>(mc.length:Int))),(22,.i .i64 (λ_=>(i:Int)))]) (λi=>[(2,.dyn 4 1 o8 (λ_=>V i))]) (λi=>i<=mc.length) (λi=>mc.length - i) 0 (by exact aW) (by have eG:=hz;exact a8) (cK _) ?_
 intro i hi
 have hi:i<=mc.length:=hi
 have dP:=n0 i
 have gB:=eO (i:=i) (by omega)
 have mG:=mG i hi
 cbv
 refine ⟨λh=>?_,λh=>?_⟩
 ·have bP:i < mc.length:=aL
  have cy:mc.length - (i+1) < mc.length - i:=by omega
  refine (cC bP).elim λx=>?_
  refine x.casesOn λxi xt xr hx=>?_
  have h3:V i++[x1 ⟨[],ms⟩ (V i) ⟨xi,xt,xr⟩]=V (i+1)/\(V i).length<=600/\xi.length<=4/\xr<=63/\∀s∈xi,0<=s/\s.toNat < (V i).length:=fN i _ hx
  refine (mrF (xt:=xt) (xr:=xr) ms h3.2.2.1 h3.2.2.2.2).elim λW hW=>?_
  refine hW.elim λv hW=>?_
  have bW:V i++[v]=V (i+1):=by rw [<-hW.1];exact h3.1
  have hR:ZW xi xt xr ms (V i) W v:=hW.2
  have P0:W.length=xi.length:=hR.wl
  have hw4:W.length<=4:=hR.w4
  have hVl:(V i).length<=600:=h3.2.1
  have arl:xr<=63:=h3.2.2.2.1
  have qg:0<=(xi.length:Int)/\(xi.length:Int)<=(xi.length:Int)/\((1:Nat):Int)*(xi.length:Int)<=281474976710656/\(xi.length:Int)<=9223372036854775807:=by omega
  have Jh:List.replicate ((xi.length:Nat):Int).toNat false=oT W 0:=by
   rw [jw,<-P0];unfold oT;simp
  have b5:((V i).length+1)*1<=140737488355328:=by omega
  have b6:(V i).length+1<=9223372036854775807:=by omega
  refine (⟨_,rfl⟩:∃U,tC W=U).elim λU hU=>?_
  have P4:0=U 0:=by rw [<-hU];rfl
  refine (⟨_,rfl⟩:∃L,oT W=L).elim λL hL=>?_
  rw [hL] at Jh
  clear h h3 fN
  cbv
  refine ⟨⟨xi,xt,xr⟩,⟨dP,hx⟩,?_⟩
  cbv
  refine ⟨⟨qg⟩,?_⟩
  apply xl (λc k=>Sat [] false PP c (F5 mn mc md inn ms i (V i) v) k)
  ·intro tail
   refine Sat.eE (ND 0 0) 5 11 [(.t 10,4)] (λk:Nat=>[(11,.i .i64 (λ_=>U k)),(20,.sl 3 mC (λ_=>mc)),(21,.i .i64 (λ_=>(mc.length:Int))),(22,.i .i64 (λ_=>(i:Int))),(31,.sl 1 bH (λ_=>xi)),(32,.i .i64 (λ_=>(xi.length:Int))),(33,.i .i64 (λ_=>(k:Int)))]) (λk=>[(4,.dyn 4 1 o8 (λ_=>L k))]) (λk=>k<=xi.length) (λk=>xi.length - k) 0 (by have gE:=P4;exact a8) (by have eG:=Jh;exact a8) (cK _) ?_
   intro k hk
   have hk:k<=xi.length:=hk
   have sr:=n0 k
   have kH:=eO (i:=k) (by omega)
   cbv
   refine ⟨λh=>?_,λh=>?_⟩
   ·have dI:k < xi.length:=aL
    have XR:xi.length - (k+1) < xi.length - k:=by omega
    refine (cC dI).elim λs hs=>?_
    have qe:=hR.at_ k s hs
    have Pz:=qe.1
    refine qe.2.elim λb hb=>?_
    obtain ⟨f1,f2,f3,f4,f5⟩:=ae3 hb.2
    have pq:=hb.1
    have gv:=(bq.1 pq).1
    rw [hL] at f1 f2 f3 f4 f5
    rw [<-f2] at f3 f5
    have ot:=hb.2
    have Od:b=true->fC .or .i64 (U k) (IntKind.i64.wrap (1*2^(min ((k:Int)).toNat IntKind.i64.bits)))=U (k+1):=λe=>by rw [<-hU];exact T0 (by rw [ot,e])
    have du:b=false->U k=U (k+1):=λe=>by rw [<-hU];exact UQ (by rw [ot,e])
    clear h
    cbv
    refine ⟨s,⟨sr,hs⟩,?_⟩
    cbv
    refine ⟨⟨Pz,gv⟩,?_⟩
    cbv
    refine ⟨b,⟨pq,rfl⟩,?_⟩
    cbv
    refine ⟨⟨sr,f4⟩,?_⟩
    cbv
    refine ⟨(false,b),⟨f1,rfl,by exact gw⟩,?_⟩
    cbv
    refine ⟨⟨sr,f5⟩,?_⟩
    cbv
    refine ⟨b,⟨f3,rfl⟩,?_⟩
    cbv
    refine ⟨λh=>?_,λh=>?_⟩
    ·have q7:b=true:=h.out
     have cS:=Od q7
     clear h
     cbv
     refine ⟨⟨sr⟩,?_⟩
     cbv
     exact ⟨k+1,by have bE:=cS;have fO:=kH;exact a8,by have eG:=f2;exact a8,⟨⟨dI,XR⟩⟩⟩
    ·have q7:b=false:=h.out
     have cS:=du q7
     clear h
     cbv
     exact ⟨k+1,by have bE:=cS;have fO:=kH;exact a8,by have eG:=f2;exact a8,⟨⟨dI,XR⟩⟩⟩
   have ZU:xi.length<=k:=aL
   have ZX:L k=W:=by rw [<-hL];exact ae4 (by omega)
   have hke:k=xi.length:=by omega
   have hkw:k=W.length:=by omega
   obtain ⟨u,hu,_⟩:=Mq W k (by omega)
   rw [hU] at hu
   have O6:Ce W=(u:Int):=by unfold Ce;rw [<-hkw,hU,hu]
   have XS:(Ce W).toNat=u:=by rw [O6,jw]
   have hu0:0<=U k:=by rw [hu];exact Ll _
   have hut:(U k).toNat=u:=by rw [hu,jw]
   have hlk:(L k).length<=1000000:=by rw [ZX];omega
   have IK:xr < 0->BQ xt (L k)=v:=λh=>by rw [ZX];exact hR.neg h
   have pU:=hR.pos
   have hnq:xr < 0->¬0<=xr:=λh=>by omega
   have hq:0<=xr->IntKind.i64.wrap (xr.tdiv 8)=xr / 8:=λh=>by rw [R6 h];exact ei (by omega) (by omega)
   have ZY:0<=xr->xr.tmod 8=xr % 8:=λh=>Int.tmod_eq_emod_of_nonneg h
   have OA:0<=xr->0<=xr.tmod 8:=λh=>by rw [ZY h];omega
   have kX:0<=xr->fj (IntKind.i64.wrap (xr.tdiv 8)) (ms.length:Int)=false->false=v:=λh0 h'=>by
    rw [hq h0] at h'
    have h2:¬xr / 8 < (ms.length:Int):=by simpa [fj] using h'
    have uO:ms[(xr / 8).toNat]?=none:=ox (by omega)
    rw [<-pU h0];unfold Ey;simp only;rw [uO]
   have jV:0<=xr->fj (IntKind.i64.wrap (xr.tdiv 8)) (ms.length:Int)=true->0<=IntKind.i64.wrap (xr.tdiv 8)/\∃m,ms[(IntKind.i64.wrap (xr.tdiv 8)).toNat]?=some m/\(fj (U k) (m.length:Int)=false->false=v)/\(fj (U k) (m.length:Int)=true->∃z,m[(U k).toNat]?=some z/\gA (fC .and .i64 (z.fdiv (2^(min (xr.tmod 8).toNat IntKind.i64.bits))) 1) 1=v):=λh0 h'=>by
    rw [hq h0] at h' ⊢
    have h2:xr / 8 < (ms.length:Int):=by simpa [fj] using h'
    obtain ⟨m,hm⟩:=cC (l:=ms) (i:=(xr / 8).toNat) (by omega)
    refine ⟨by omega,m,hm,λh3=>?_,λh3=>?_⟩
    ·have h4:¬U k < (m.length:Int):=by simpa [fj] using h3
     rw [hu] at h4
     have uO:m[(Ce W).toNat]?=none:=by rw [XS];exact ox (by omega)
     rw [<-pU h0];unfold Ey;simp only;rw [hm];simp only;rw [uO]
    ·have h4:U k < (m.length:Int):=by simpa [fj] using h3
     rw [hu] at h4
     obtain ⟨z,hz⟩:=cC (l:=m) (i:=u) (by omega)
     refine ⟨z,by rw [hut];exact hz,?_⟩
     rw [<-pU h0];unfold Ey;simp only;rw [hm];simp only;rw [XS,hz,ZY h0];rfl
   clear h sr kH hk
   cbv
   refine ⟨λh=>?_,λh=>?_⟩
   ·have hr:xr < 0:=aL
    have hv:=IK hr
    have hnr:=hnq hr
    clear h
    cbv
    refine ⟨⟨xt,L k⟩,⟨.inl ⟨by exact a7,rfl⟩,hlk⟩,?_⟩
    cbv
    refine ⟨⟨by decide⟩,λh=>?_,λh=>?_⟩
    ·have h0:0<=xr:=aL
     cases (show False from hnr h0)
    clear h
    cbv
    exact fW 5 (F5 mn mc md inn ms i (V i) v) (by have nq:=hv;exact a8) (by exact aW) tail
   ·have hr:0<=xr:=aL
    have kX:=kX hr
    have jV:=jV hr
    have OA:=OA hr
    clear h IK
    cbv
    refine ⟨⟨by decide⟩,λh=>?_,λh=>?_⟩
    rotate_left
    ·have h0:¬0<=xr:=aL
     cases (show False from h0 hr)
    clear h
    cbv
    refine ⟨λh=>?_,λh=>?_⟩
    rotate_left
    ·have e:=kX h.out
     clear h
     cbv
     exact fW 5 (F5 mn mc md inn ms i (V i) v) (by have eR:=e;exact a8) (by exact aW) tail
    have jV:=jV h.out
    have u9:=jV.1
    refine jV.2.elim λm kY=>?_
    have hm:=kY.1
    have Ag:=kY.2.1
    have oo:=kY.2.2
    clear h
    cbv
    refine ⟨m,⟨u9,hm⟩,?_⟩
    cbv
    refine ⟨λh=>?_,λh=>?_⟩
    rotate_left
    ·have e:=Ag h.out
     clear h
     cbv
     exact fW 5 (F5 mn mc md inn ms i (V i) v) (by have eR:=e;exact a8) (by exact aW) tail
    refine (oo h.out).elim λz sq=>?_
    have hz:=sq.1
    have e:=sq.2
    clear h
    cbv
    refine ⟨m,⟨u9,hm⟩,?_⟩
    cbv
    refine ⟨z,⟨hu0,hz⟩,?_⟩
    cbv
    refine ⟨⟨by decide⟩,⟨OA⟩,?_⟩
    exact fW 5 (F5 mn mc md inn ms i (V i) v) (by have nq:=e;exact a8) (by exact aW) tail
  ·refine Sat.iR (agj 0 0) ?_
   cbv
   refine ⟨[v],⟨by exact a7,b5,b6⟩,?_⟩
   cbv
   exact ⟨i+1,by have bE:=gB;exact a8,by have eG:=bW;exact a8,⟨⟨bP,cy⟩⟩⟩
 ·have b9:mc.length<=i:=aL
  have mG:=mG b9
  clear h
  cbv
  refine ⟨?_⟩
  cbv
  exact ⟨by have iz:=mG;exact bJ,λx=>rfl⟩
end Go.Proofs.Pk
