import Derived.Test.YthnhbemmlfaihaaGreatQ11
import Derived.Test.YthnhbemmlfaihaaGreatQ12
import Derived.Test.YthnhbemmlfaihaaGreatQ13
import Derived.Test.YthnhbemmlfaihaaGreatQ22
set_option linter.unusedVariables false
set_option linter.unusedSimpArgs false
set_option maxRecDepth 10000
set_option maxHeartbeats 64000000
namespace Go.Proofs.Pk
open Go Go.Vc
def Ot (w:eS) (lo hi:Int):Prop:=lo<=w.kind/\w.kind<=hi/\0<=w.i/\0<=w.bit/\w.bit<=7
structure Tt (lim:Int) (g:Gate):Prop where
 op:1<=g.op/\g.op<=7
 a:0<=g.a/\g.a < lim
 b:0<=g.b/\g.b < lim
 c:0<=g.c/\g.c < lim
 n:0<=g.n/\g.n < 64
structure adW (n:Net):Prop where
 k8:2+n.ins.length+n.aT.length<=600
 ins:∀w∈n.ins,Ot w 1 4/\w.i<=31
 aT:∀(i:Nat) (g:Gate),n.aT[i]?=some g->Tt (2+n.ins.length+i) g
 outs:∀w∈n.outs,Ot w 1 10/\(w.kind=1\/5<=w.kind)
 ind:n.ins.Nodup
 aCL:n.outs.Nodup
 zt:∀w:eS,w.kind=1->(w∈n.ins↔w∈n.outs)
 UX:n.bj.length=n.outs.length
 bj:∀d∈n.bj,0<=d/\d < 2+n.ins.length+n.aT.length
structure Tu (lim:Int) (c:Cell):Prop where
 ins:∀s∈c.ins,0<=s/\s < lim
 B1:c.ep=-1/\c.ins.length<=4/\0<=c.table/\c.table < 2^(2^c.ins.length)\/0<=c.ep/\c.ep<=63/\c.ins.length=3/\c.table=0
structure adX (n:Net) (m:ej):Prop where
 ni:m.n=n.ins.length
 e6:m.cells.length<=n.aT.length
 cells:∀(i:Nat) (c:Cell),m.cells[i]?=some c->Tu (2+n.ins.length+i) c
 UX:m.bj.length=n.outs.length
 bj:∀d∈m.bj,0<=d/\d < 2+n.ins.length+m.cells.length
def eY.sigs (p:eY):Int:=p.ins.length+2*p.blocks.length
def o0 (n:Nat) (s:Int):Nat:=((s - n) / 2).toNat
def vh (n:Nat) (s:Int):Prop:=(s - n) % 2=1
structure Gk (p:eY) (s:Int):Prop where
 lo:0<=s
 hi:s < p.sigs
 flip:(p.ins.length:Int)<=s->vh p.ins.length s->∃x,p.blocks[o0 p.ins.length s]?=some x/\0<=x.dD
structure Tv (x:Block):Prop where
 k:x.ins.length<=4
 ep:-1<=x.ep/\x.ep<=63
 dD:-1<=x.dD/\x.dD<=255
 table:0<=x.table/\x.table < 2^(2^x.ins.length)
 read:0<=x.ep->x.dD=-1/\x.ins.length<=3/\x.table=0
structure Shape (p:eY):Prop where
 e6:p.blocks.length<=600
 UX:p.bj.length=p.outs.length
 bj:∀s∈p.bj,Gk p s
 ins:∀w∈p.ins,Ot w 2 4
 outs:∀w∈p.outs,Ot w 5 10
 formed:∀x∈p.blocks,Tv x
 used:∀x∈p.blocks,∀s∈x.ins,Gk p s
 zt:∀(i j:Nat) (x y:Block),p.blocks[i]?=some x->p.blocks[j]?=some y->0<=x.dD->x.dD=y.dD->i=j
def NT (p:eY) (r:Nat->Nat):Prop:=∀(b:Nat) (x:Block),p.blocks[b]?=some x->∀s∈x.ins,(p.ins.length:Int)<=s->¬vh p.ins.length s->r (o0 p.ins.length s) < r b
structure PK where
 parts:List Part
 cells:List Source
 n0:Bool
 n1:Bool
 wH:Int->Option Int
def En (w:eS):List Int:=[w.kind,w.i,w.bit]
def jJ {K:Type} [DecidableEq K] (m:K->Option Int) (k:K) (v:Int):K->Option Int:=λj=>if j=k then some v else m j
def others (l:List eS):List eS:=l.filter (λw=>w.kind≠1)
def aoo (l:List eS):List Int->Option Int:=(l.foldl (λ(st:(List Int->Option Int) × Int) w=>if w.kind=1 then st else (jJ st.1 (En w) st.2,st.2+1)) (λ_=>none,0)).1
def T4 (w:eS):Int:=8*w.i+w.bit
def T5 (ins:List eS) (cells:List Source) (sig:Int):Source :=
 if sig < 2 then ⟨3,sig⟩
 else if sig - 2 < ins.length then
  let w:=ins.getD (sig - 2).toNat ⟨0,0,0⟩
  if w.kind=1 then ⟨1,T4 w⟩ else ⟨0,(aoo ins (En w)).getD 0⟩
 else cells.getD (sig - 2 - ins.length).toNat ⟨0,0⟩
def PK.add (k:PK) (x:Part):PK:={ k with parts:=k.parts++[x],wH:=if 0<=x.dD then jJ k.wH x.dD k.parts.length else k.wH }
def PK.here (k:PK):Source:=⟨2,k.parts.length⟩
def acH:List Source->List Source
 | []=>[]
 | s :: r=>if s=⟨3,0⟩ then acH r else s :: r
def strip (ep:Int) (l:List Source):List Source:=if 0<=ep then (acH l.reverse).reverse else l
def asN (c:Cell) (l:List Source) (x:Part):Bool:=x.table == c.table&&x.ep == c.ep&&x.ins == l
def adY (v:Int) (l:List Source):Bool:=l.any λs=>s.kind == 3&&s.n == v
def aqu (ins:List eS) (k:PK) (c:Cell):PK :=
 let l:=strip c.ep (c.ins.map (T5 ins k.cells))
 match k.parts.findIdx? (asN c l) with
 | some i=>{ k with cells:=k.cells++[⟨2,i⟩] }
 | none=>{ (k.add ⟨l,c.table,c.ep,-1⟩) with cells:=k.cells++[k.here],n0:=k.n0||adY 0 l,n1:=k.n1||adY 1 l }
def aop (l:List Part) (i:Nat) (code:Int):List Part:=l.modify i λx=>{ x with dD:=code }
def akJ (k:PK) (s:Source) (code:Int):PK :=
 if s.kind=3 then k.add ⟨[],s.n,-1,code⟩
 else if s.kind=2/\(k.parts.getD s.n.toNat ⟨[],0,0,0⟩).ep < 0/\(k.parts.getD s.n.toNat ⟨[],0,0,0⟩).dD < 0 then
  { k with parts:=aop k.parts s.n.toNat code,wH:=jJ k.wH code s.n }
 else k.add ⟨[s],2,-1,code⟩
def Eo (ins:List eS) (k:PK) (wd:eS × Int):PK :=
 if wd.1.kind=1 then akJ k (T5 ins k.cells wd.2) (T4 wd.1)
 else { k with n0:=k.n0||wd.2 == 0,n1:=k.n1||wd.2 == 1 }
def acI (k:PK) (v:Int) (b:Bool):PK:=if b then k.add ⟨[],v,-1,-1⟩ else k
structure TH where
 k:PK
 bj:List Source
 Wx:List Int->Option Source
def ae7 (s:Source):List Int:=[s.kind,s.n]
def asO (ins:List eS) (t:TH) (wd:eS × Int):TH :=
 if wd.1.kind=1 then t
 else
  let s:=T5 ins t.k.cells wd.2
  if s.kind=0 then match t.Wx (ae7 s) with
   | some u=>{ t with bj:=t.bj++[u] }
   | none=>{ k:=t.k.add ⟨[s],2,-1,-1⟩,bj:=t.bj++[t.k.here],Wx:=λj=>if j=ae7 s then some t.k.here else t.Wx j }
  else { t with bj:=t.bj++[s] }
structure UY where
 c0:Int
 c1:Int
 t:TH
def aqv (n:Net) (m:ej):UY :=
 let k1:=m.cells.foldl (aqu n.ins) ⟨[],[],false,false,λ_=>none⟩
 let wd:=n.outs.zip m.bj
 let k2:=wd.foldl (Eo n.ins) k1
 let k3:=acI k2 0 k2.n0
 let k4:=acI k3 1 k2.n1
 ⟨if k2.n0 then k2.parts.length else 0,if k2.n1 then k3.parts.length else 0,wd.foldl (asO n.ins) ⟨k4,[],λ_=>none⟩⟩
def ae8 (first:Int) (d:UY) (s:Source):Int :=
 if s.kind=1 then first+2*(d.t.k.wH s.n).getD 0+1
 else if s.kind=2 then first+2*s.n
 else if s.kind=3 then first+2*(if s.n=0 then d.c0 else d.c1)
 else s.n
def aoq (first:Int) (d:UY) (x:Part):Block:=⟨x.ins.map (ae8 first d),x.table,x.ep,x.dD,0⟩
def ae9 (n:Net) (m:ej):eY :=
 let ins:=others n.ins
 let d:=aqv n m
 ⟨ins,d.t.k.parts.map (aoq ins.length d),others n.outs,d.t.bj.map (ae8 ins.length d)⟩
def JO (ins:List eS) (np:Nat) (s:Source):Prop :=
 s.kind=0/\0<=s.n/\s.n < (others ins).length\/s.kind=1/\(∃w∈ins,w.kind=1/\s.n=T4 w)\/s.kind=2/\0<=s.n/\s.n < np\/s.kind=3/\(s.n=0\/s.n=1)
theorem JO.mono {ins:List eS} {a b:Nat} {s:Source} (h:JO ins a s) (gl:a<=b):JO ins b s:=by
 rcases h with h|h|h|h
 ·exact .inl h
 ·exact .inr (.inl h)
 ·exact .inr (.inr (.inl ⟨h.1,h.2.1,by omega⟩))
 ·exact .inr (.inr (.inr h))
structure acJ (x:Part):Prop where
 k:x.ins.length<=4
 ep:-1<=x.ep/\x.ep<=63
 dD:-1<=x.dD/\x.dD<=255
 table:0<=x.table/\x.table < 2^(2^x.ins.length)
 read:0<=x.ep->x.dD=-1/\x.ins.length<=3/\x.table=0
structure UZ (ins:List eS) (nc:Nat) (k:PK):Prop where
 nc:k.cells.length=nc
 cells:∀s∈k.cells,s.kind=2/\0<=s.n/\s.n < k.parts.length
 src:∀(b:Nat) (x:Part),k.parts[b]?=some x->acJ x/\∀s∈x.ins,JO ins b s
 mD:∀x∈k.parts,∀s∈x.ins,s.kind=3->(s.n=0->k.n0=true)/\(s.n=1->k.n1=true)
 wH:∀(b:Nat) (x:Part),k.parts[b]?=some x->0<=x.dD->k.wH x.dD=some b
 back:∀c v,k.wH c=some v->∃b:Nat,v=b/\∃x,k.parts[b]?=some x/\x.dD=c/\0<=c
theorem UZ.add {ins:List eS} {nc:Nat} {k:PK} (h:UZ ins nc k) {x:Part} (hx:acJ x) (hs:∀s∈x.ins,JO ins k.parts.length s) {a b:Bool} (ha:k.n0=true->a=true) (hb:k.n1=true->b=true)
  (hn:∀s∈x.ins,s.kind=3->(s.n=0->a=true)/\(s.n=1->b=true)) (hf:0<=x.dD->k.wH x.dD=none):UZ ins nc { (k.add x) with n0:=a,n1:=b }:=by
 have vr:∀(i:Nat) (y:Part),(k.parts++[x])[i]?=some y->(k.parts[i]?=some y)\/(i=k.parts.length/\y=x):=by
  intro i y hy
  rw [xE] at hy
  split at hy
  ·exact .inl hy
  ·rename_i aP
   have hi:i - k.parts.length=0:=by
    have:=(bt.1 hy).1
    simp at this;omega
   rw [hi] at hy
   simp at hy
   exact .inr ⟨by omega,hy.symm⟩
 refine ⟨h.nc,λs uC=>?_,λi y hy=>?_,λy hy s uC hk=>?_,λi y hy hr=>?_,λc v qD=>?_⟩
 ·have:=h.cells s uC
  simp only [PK.add,List.length_append,xC]
  exact ⟨this.1,this.2.1,by push_cast;omega⟩
 ·rcases vr i y hy with hy|⟨rfl,rfl⟩
  ·exact h.src i y hy
  ·exact ⟨hx,hs⟩
 ·simp only [PK.add,dR,j9] at hy
  rcases hy with hy|rfl
  ·have:=h.mD y hy s uC hk
   exact ⟨λe=>ha (this.1 e),λe=>hb (this.2 e)⟩
  ·exact hn s uC hk
 ·simp only [PK.add]
  rcases vr i y hy with hy|⟨rfl,rfl⟩
  ·have:=h.wH i y hy hr
   split
   ·rename_i lS
    have bW:y.dD≠x.dD:=λe=>by rw [e,hf lS] at this;cases this
    simp [jJ,bW,this]
   ·exact this
  ·rw [if_pos hr];simp [jJ]
 ·simp only [PK.add] at qD ⊢
  split at qD
  ·rename_i lS
   simp only [jJ] at qD
   split at qD
   ·rename_i e
    cases qD
    exact ⟨k.parts.length,rfl,x,by simp,e.symm,by rw [e];exact lS⟩
   ·obtain ⟨b',h1,y,h2,h3⟩:=h.back c v qD
    exact ⟨b',h1,y,by rw [j7 (bt.1 h2).1];exact h2,h3⟩
  ·obtain ⟨b',h1,y,h2,h3⟩:=h.back c v qD
   exact ⟨b',h1,y,by rw [j7 (bt.1 h2).1];exact h2,h3⟩
structure Sc where
 zt:List Int
 GF:List Int
 BB:List (Int × Int)
 data:Bool
def okW (w:Int):Prop:=1<=w/\w<=8
structure asP (sc:Sc):Prop where
 zt:∀w∈sc.zt,okW w
 GF:∀w∈sc.GF,okW w
 BB:∀m∈sc.BB,okW m.1
inductive WT (sc:Sc):Nat->Int->Expr->Prop
 | const {n:Nat} {w k:Int}:okW w->WT sc (n+1) w (.mk 1 k w [])
 | dD {n:Nat} {w:Int} (i:Nat):sc.zt[i]?=some w->WT sc (n+1) w (.mk 16 i 0 [])
 | data {n:Nat} {w:Int} (i:Nat):sc.data=true->sc.GF[i]?=some w->WT sc (n+1) w (.mk 18 i 0 [])
 | not {n:Nat} {w:Int} {a:Expr}:WT sc n w a->WT sc (n+1) w (.mk 2 0 0 [a])
 | two {n:Nat} {w op:Int} {a b:Expr}:3<=op->op<=7->WT sc n w a->WT sc n w b->WT sc (n+1) w (.mk op 0 0 [a,b])
 | cmp {n:Nat} {v op:Int} {a b:Expr}:8<=op->op<=9->WT sc n v a->WT sc n v b->WT sc (n+1) 1 (.mk op 0 0 [a,b])
 | ET {n:Nat} {w:Int} {c a b:Expr}:WT sc n 1 c->WT sc n w a->WT sc n w b->WT sc (n+1) w (.mk 10 0 0 [c,a,b])
 | cat {n:Nat} {v w:Int} {a b:Expr}:w=v+1->okW w->WT sc n v a->WT sc n 1 b->WT sc (n+1) w (.mk 11 0 0 [a,b])
 | slice {n:Nat} {v w k:Int} {a:Expr}:0<=k->k+w<=v->okW w->WT sc n v a->WT sc (n+1) w (.mk 12 k w [a])
 | ext {n:Nat} {v w:Int} {a:Expr}:v<=w->okW w->WT sc n v a->WT sc (n+1) w (.mk 13 0 w [a])
 | read {n:Nat} {v w words:Int} (i:Nat) {a:Expr}:sc.BB[i]?=some (w,words)->WT sc n v a->WT sc (n+1) w (.mk 17 i 0 [a])
theorem WT.wide {sc:Sc} (hs:asP sc):∀{n:Nat} {w:Int} {e:Expr},WT sc n w e->okW w
 | _,_,_,.const h=>h
 | _,_,_,.dD i h=>hs.zt _ (cB h)
 | _,_,_,.data i _ h=>hs.GF _ (cB h)
 | _,_,_,.not h=>h.wide hs
 | _,_,_,.two _ _ h _=>h.wide hs
 | _,_,_,.cmp _ _ _ _=>⟨by omega,by omega⟩
 | _,_,_,.ET _ h _=>h.wide hs
 | _,_,_,.cat _ h _ _=>h
 | _,_,_,.slice _ _ h _=>h
 | _,_,_,.ext _ h _=>h
 | _,_,_,.read i h _=>hs.BB _ (cB h)
theorem WT.up {sc:Sc}:∀{n:Nat} {w:Int} {e:Expr},WT sc n w e->WT sc (n+1) w e
 | _,_,_,.const h=>.const h
 | _,_,_,.dD i h=>.dD i h
 | _,_,_,.data i h1 h=>.data i h1 h
 | _,_,_,.not h=>.not h.up
 | _,_,_,.two a b h1 h2=>.two a b h1.up h2.up
 | _,_,_,.cmp a b h1 h2=>.cmp a b h1.up h2.up
 | _,_,_,.ET h1 h2 h3=>.ET h1.up h2.up h3.up
 | _,_,_,.cat a b h1 h2=>.cat a b h1.up h2.up
 | _,_,_,.slice a b c h=>.slice a b c h.up
 | _,_,_,.ext a b h=>.ext a b h.up
 | _,_,_,.read i h h2=>.read i h h2.up
theorem WT.more {sc Lg:Sc} (hr:Lg.zt=sc.zt) (hm:Lg.BB=sc.BB) (ht:sc.data=true->Lg.data=true/\Lg.GF=sc.GF):∀{n:Nat} {w:Int} {e:Expr},WT sc n w e->WT Lg n w e
 | _,_,_,.const h=>.const h
 | _,_,_,.dD i h=>.dD i (by rw [hr];exact h)
 | _,_,_,.data i h1 h=>.data i (ht h1).1 (by rw [(ht h1).2];exact h)
 | _,_,_,.not h=>.not (h.more hr hm ht)
 | _,_,_,.two a b h1 h2=>.two a b (h1.more hr hm ht) (h2.more hr hm ht)
 | _,_,_,.cmp a b h1 h2=>.cmp a b (h1.more hr hm ht) (h2.more hr hm ht)
 | _,_,_,.ET h1 h2 h3=>.ET (h1.more hr hm ht) (h2.more hr hm ht) (h3.more hr hm ht)
 | _,_,_,.cat a b h1 h2=>.cat a b (h1.more hr hm ht) (h2.more hr hm ht)
 | _,_,_,.slice a b c h=>.slice a b c (h.more hr hm ht)
 | _,_,_,.ext a b h=>.ext a b (h.more hr hm ht)
 | _,_,_,.read i h h2=>.read i (by rw [hm];exact h) (h2.more hr hm ht)
def Cg (sc:Sc) (n:Nat):List Int->List Expr->Prop
 | [],[]=>True
 | w :: ws,e :: es=>WT sc n w e/\Cg sc n ws es
 | _,_=>False
theorem WT.args {sc:Sc}:∀{n:Nat} {w:Int} {e:Expr},WT sc (n+1) w e->∃ws,Cg sc n ws e.args
 | _,_,_,.const h=>⟨[],trivial⟩
 | _,_,_,.dD i h=>⟨[],trivial⟩
 | _,_,_,.data i h1 h=>⟨[],trivial⟩
 | _,_,_,.not h=>⟨[_],h,trivial⟩
 | _,_,_,.two a b h1 h2=>⟨[_,_],h1,h2,trivial⟩
 | _,_,_,.cmp a b h1 h2=>⟨[_,_],h1,h2,trivial⟩
 | _,_,_,.ET h1 h2 h3=>⟨[_,_,_],h1,h2,h3,trivial⟩
 | _,_,_,.cat a b h1 h2=>⟨[_,_],h1,h2,trivial⟩
 | _,_,_,.slice a b c h=>⟨[_],h,trivial⟩
 | _,_,_,.ext a b h=>⟨[_],h,trivial⟩
 | _,_,_,.read i h h2=>⟨[_],h2,trivial⟩
theorem Cg.get {sc:Sc} {n:Nat}:∀{ws:List Int} {es:List Expr},Cg sc n ws es->∀(i:Nat) (e:Expr),es[i]?=some e->∃w,ws[i]?=some w/\WT sc n w e
 | [],[],_,i,e,h=>by simp at h
 | w :: ws,x :: es,h,0,e,he=>by simp at he;subst he;exact ⟨w,rfl,h.1⟩
 | w :: ws,x :: es,h,i+1,e,he=>by simpa using Cg.get h.2 i e (by simpa using he)
theorem Cg.len {sc:Sc} {n:Nat}:∀{ws:List Int} {es:List Expr},Cg sc n ws es->ws.length=es.length
 | [],[],_=>rfl
 | w :: ws,x :: es,h=>by simp [Cg.len h.2]
theorem WT.e6 {sc:Sc}:∀{n:Nat} {w:Int} {e:Expr},WT sc n w e->e.args.length<=3
 | _,_,_,.const h=>by simp [Expr.args]
 | _,_,_,.dD i h=>by simp [Expr.args]
 | _,_,_,.data i h1 h=>by simp [Expr.args]
 | _,_,_,.not h=>by simp [Expr.args]
 | _,_,_,.two a b h1 h2=>by simp [Expr.args]
 | _,_,_,.cmp a b h1 h2=>by simp [Expr.args]
 | _,_,_,.ET h1 h2 h3=>by simp [Expr.args]
 | _,_,_,.cat a b h1 h2=>by simp [Expr.args]
 | _,_,_,.slice a b c h=>by simp [Expr.args]
 | _,_,_,.ext a b h=>by simp [Expr.args]
 | _,_,_,.read i h h2=>by simp [Expr.args]
def Ch (ins:Int) (gs:List Gate):Prop:=∀(i:Nat) (g:Gate),gs[i]?=some g->Tt (2+ins+i) g
def za (ins:Int) (gs:List Gate) (v:Int):Prop:=0<=v/\v < 2+ins+gs.length
theorem za.mono {ins:Int} {gs gs':List Gate} {v:Int} (h:za ins gs v) (hl:gs.length<=gs'.length):za ins gs' v:=⟨h.1,by have:=h.2;omega⟩
theorem Ch.nil (ins:Int):Ch ins []:=λi g h=>by simp at h
theorem Ch.add {ins:Int} {gs:List Gate} (h:Ch ins gs) {g:Gate} (hg:Tt (2+ins+gs.length) g):Ch ins (gs++[g]):=by
 intro i x hx
 rw [xE] at hx
 split at hx
 ·exact h i x hx
 ·rename_i aP
  have hi:i - gs.length=0:=by
   have:=(bt.1 hx).1
   simp at this;omega
  rw [hi] at hx
  simp at hx
  subst hx
  have:(i:Int)=gs.length:=by omega
  rw [this];exact hg
def JP (w:eS):Int :=
 if w.kind=1 then 16*w.i+w.bit
 else if w.kind=2 then 1000+32*w.i+w.bit
 else if w.kind=3 then 1000+32*w.i+16
 else if w.kind=4 then 2000+w.i
 else if w.kind=5 then 1000+w.i
 else if w.kind=6 then 2000+32*w.i
 else if w.kind=7 then 2000+32*w.i+16+w.bit
 else 3000+64*w.i+16*(w.kind - 8)+w.bit
def yy (c:Int) (l:List eS):Prop:=l.Pairwise (λa b=>JP a < JP b)/\∀w∈l,JP w < c
theorem yy.nil (c:Int):yy c []:=⟨List.Pairwise.nil,by simp⟩
theorem yy.up {c d:Int} {l:List eS} (h:yy c l) (hcd:c<=d):yy d l:=⟨h.1,λw hw=>by have:=h.2 w hw;omega⟩
theorem yy.add {c d:Int} {l:List eS} (h:yy c l) {w:eS} (hc:c<=JP w) (hd:JP w < d):yy d (l++[w]):=by
 refine ⟨?_,λx hx=>?_⟩
 ·rw [j8]
  refine ⟨h.1,by simp,λa ha b hb=>?_⟩
  simp at hb;subst hb
  have:=h.2 a ha
  omega
 ·rcases dR.1 hx with hx|hx
  ·have:=h.2 x hx;omega
  ·simp at hx;subst hx;exact hd
theorem yy.nodup {c:Int} {l:List eS} (h:yy c l):l.Nodup:=by
 rw [YP]
 exact h.1.imp λgl e=>by rw [e] at gl;omega
def asQ (rw:List Int) (i k:Int) (w:eS):Prop:=0<=w.i/\0<=w.bit/\((w.i < i/\∃W,rw[w.i.toNat]?=some W/\w.bit < W)\/w.i=i/\w.bit < k)
def wC (rw:List Int) (i k:Int) (l:List eS):Prop:=∀w:eS,w.kind=1->(w∈l↔asQ rw i k w)
theorem wC.nil (rw:List Int):wC rw 0 0 []:=λw _=>⟨λh=>(by simp at h),λ⟨h0,h1,h⟩=>by rcases h with ⟨h,_⟩|⟨_,h⟩<;>omega⟩
theorem wC.bit {rw:List Int} {i k:Int} {l:List eS} (h:wC rw i k l) (h0:0<=i) (h1:0<=k):wC rw i (k+1) (l++[⟨1,i,k⟩]):=by
 intro w hw
 rw [dR,h w hw]
 constructor
 ·rintro (⟨a,b,c⟩|e)
  ·refine ⟨a,b,c.imp id λ⟨x,y⟩=>⟨x,by omega⟩⟩
  ·simp at e;subst e
   exact ⟨h0,h1,.inr ⟨rfl,by simp only;omega⟩⟩
 ·rintro ⟨a,b,c|⟨x,y⟩⟩
  ·exact .inl ⟨a,b,.inl c⟩
  ·by_cases hk:w.bit < k
   ·exact .inl ⟨a,b,.inr ⟨x,hk⟩⟩
   ·right
    have:w.bit=k:=by omega
    cases w
    simp only at *
    subst hw;subst x;subst this
    simp
theorem wC.next {rw:List Int} {i:Nat} {k:Int} {l:List eS} (h:wC rw i k l) (hk:rw[i]?=some k):wC rw (i+1:Nat) 0 l:=by
 intro w hw
 rw [h w hw]
 constructor
 ·rintro ⟨a,b,⟨c,d⟩|⟨c,d⟩⟩
  ·exact ⟨a,b,.inl ⟨by omega,d⟩⟩
  ·refine ⟨a,b,.inl ⟨by omega,k,?_,d⟩⟩
   have:w.i.toNat=i:=by omega
   rw [this];exact hk
 ·rintro ⟨a,b,⟨c,W,d,e⟩|⟨c,d⟩⟩
  ·by_cases hi:w.i < i
   ·exact ⟨a,b,.inl ⟨hi,W,d,e⟩⟩
   ·refine ⟨a,b,.inr ⟨by omega,?_⟩⟩
    have:w.i.toNat=i:=by omega
    rw [this,hk] at d
    cases d
    exact e
  ·omega
theorem wC.other {rw:List Int} {i k:Int} {l:List eS} (h:wC rw i k l) {x:eS} (hx:x.kind≠1):wC rw i k (l++[x]):=by
 intro w hw
 rw [dR,<-h w hw]
 constructor
 ·rintro (e|e)
  ·exact e
  ·simp at e;subst e;exact absurd hw hx
 ·exact .inl
noncomputable def cB0 (n m:Nat):Ctx:=ie n m [] []
theorem rQ (n m:Nat):CB PP (cB0 n m):=ik n m trivial trivial
structure T6 (ins:Int) (gs:List Gate):Prop where
 ok:Ch ins gs
 ins:0<=ins/\ins<=1000
 len:gs.length<=1000000000
structure P1 where
 gs:List Gate
 n:Int
structure x3 (ins:Int) (gs:List Gate) (k:Nat) (y:P1):Prop where
 ok:Ch ins y.gs
 lo:gs.length<=y.gs.length
 hi:y.gs.length<=gs.length+k
 n:za ins y.gs y.n
theorem za.zero {ins:Int} {gs:List Gate} (h:0<=ins):za ins gs 0:=⟨by omega,by omega⟩
theorem za.one {ins:Int} {gs:List Gate} (h:0<=ins):za ins gs 1:=⟨by omega,by omega⟩
theorem x3.same {ins:Int} {gs:List Gate} {k:Nat} {n:Int} (h:Ch ins gs) (hn:za ins gs n):x3 ins gs k ⟨gs,n⟩:=⟨h,fq _,Nat.le_add_right _ _,hn⟩
theorem x3.more {ins:Int} {gs:List Gate} {k k':Nat} {y:P1} (h:x3 ins gs k y) (hk:k<=k'):x3 ins gs k' y:=⟨h.ok,h.lo,by have:=h.hi;omega,h.n⟩
theorem x3.trans {ins:Int} {gs:List Gate} {k k':Nat} {y z:P1} (h:x3 ins gs k y) (h2:x3 ins y.gs k' z):x3 ins gs (k+k') z:=⟨h2.ok,by have:=h.lo;have:=h2.lo;omega,by have:=h.hi;have:=h2.hi;omega,h2.n⟩
theorem T6.next {ins:Int} {gs:List Gate} {k:Nat} {z:P1} (h:T6 ins gs) (hz:x3 ins gs k z) (hl:z.gs.length<=1000000000):T6 ins z.gs:=⟨hz.ok,h.ins,hl⟩
def vp:List Int->Nat
 | []=>0
 | x :: r=>(x.toNat+1)+604*vp r
def Small (m:Int) (l:List Int):Prop:=l.length<=4/\∀x∈l,0<=x/\x < m
theorem ZB:∀{l k:List Int},(∀x∈l,0<=x/\x < 603)->(∀x∈k,0<=x/\x < 603)->vp l=vp k->l=k
 | [],[],_,_,_=>rfl
 | [],y :: k,_,_,h=>by simp only [vp] at h;omega
 | x :: l,[],_,_,h=>by simp only [vp] at h;omega
 | x :: l,y :: k,hl,hk,h=>by
  simp only [vp] at h
  have h1:=hl x (by simp)
  have h2:=hk y (by simp)
  have e:vp l=vp k:=by omega
  rw [ZB (λz hz=>hl z (by simp [hz])) (λz hz=>hk z (by simp [hz])) e]
  have:x=y:=by omega
  rw [this]
theorem aaF:∀(l:List Int) (n:Nat),l.length<=n->(∀x∈l,0<=x/\x < 603)->vp l < 604^n
 | [],n,_,_=>by simp only [vp];exact Nat.pow_pos (by decide)
 | x :: l,0,h,_=>by simp at h
 | x :: l,n+1,h,hl=>by
  have h1:=aaF l n (by simpa using h) λz hz=>hl z (by simp [hz])
  have h2:=hl x (by simp)
  simp only [vp]
  rw [Nat.pow_succ]
  omega
theorem R6 {L:List (List Int)} (hn:L.Nodup) (h:∀l∈L,Small 603 l):L.length<=133090713856:=by
 have h1:(L.map vp).Nodup:=by
  induction L with
  | nil=>simp
  | cons x r ih =>
   obtain ⟨a,b⟩:=yS.1 hn
   rw [iE,yS]
   refine ⟨λhm=>?_,ih b λl hl=>h l (by simp [hl])⟩
   obtain ⟨y,hy,e⟩:=jS.1 hm
   have:=ZB (h y (by simp [hy])).2 (h x (by simp)).2 e
   subst this
   exact a hy
 have h2:=C3 (l₂:=List.range (604^4)) h1 λc hc=>by
  obtain ⟨y,hy,rfl⟩:=jS.1 hc
  exact mX.2 (aaF y 4 (h y hy).1 (h y hy).2)
 rw [iR,IT] at h2
 exact h2
def GG (l:List (List Int)) (x:List Int) (r:List (List Int)):Prop:=r=l\/x∉l/\∃o,o.Sublist l/\r=o++[x]
theorem GG.nodup {l:List (List Int)} {x:List Int} {r:List (List Int)} (h:GG l x r) (hn:l.Nodup):r.Nodup:=by
 rcases h with rfl|⟨hx,o,ho,rfl⟩
 ·exact hn
 ·rw [MM]
  refine ⟨hn.sublist ho,by simp,λa ha b hb=>?_⟩
  simp at hb;subst hb
  rintro rfl
  exact hx (ho.subset ha)
theorem GG.all {l:List (List Int)} {x:List Int} {r:List (List Int)} (h:GG l x r) {p:List Int->Prop} (hl:∀y∈l,p y) (hx:p x):∀y∈r,p y:=by
 rcases h with rfl|⟨_,o,ho,rfl⟩
 ·exact hl
 ·intro y hy
  rcases dR.1 hy with hy|hy
  ·exact hl y (ho.subset hy)
  ·simp at hy;subst hy;exact hx
structure LN where
 l:List Int
 n:Int
open Classical in
noncomputable def rS (l:List Int) (n:Int):Bool:=decide (n∈l)
theorem F7 {l:List Int} {n:Int}:rS l n=true↔n∈l:=by simp [rS]
@[reducible] noncomputable def Pc:Vc.Spec where
 α:=LN
 args x:=[.sl 1 bP (λ_=>x.l),.i .i64 (λ_=>x.n)]
 pre x:=x.l.length<=1000000000000
 res x:=.b (λ_=>rS x.l x.n)
theorem Tw:cR (PP ()) 245 Pc:=by
 refine et (rQ 0 0) (fo Tryz.func245) (λa=>⟨(λx=>(df x).1),trivial,trivial⟩) (λa=>trivial) ?_
 rintro ⟨l,n⟩ hx
 have hl:l.length<=1000000000000:=hx
 refine ⟨?_⟩
 cbv
 refine Sat.dq (rQ 0 0) 0 4 [] (λi:Nat=>[(5,.i .i64 λ_=>(i:Int))]) (λ_=>[]) (λi=>i<=l.length/\∀j,j < i->l[j]?≠some n) (λi=>l.length - i) 0 (by exact aM) (by exact aM) ⟨by omega,λj hj=>by omega⟩ ?_
 rintro i ⟨hi,dg⟩
 cbv
 refine ⟨λh=>?_,λh=>?_⟩
 ·(have h:=h.out;simp (disch:=exact cx) only [hS] at h)
  have aP:i < l.length:=by exact cx
  have bZ:l.length - (i+1) < l.length - i:=by omega
  obtain ⟨x,hx⟩:=bO aP
  have h1:=dC (i:=i) (by omega)
  have h0:=n0 i
  cbv
  refine ⟨x,⟨h0,hx⟩,?_⟩
  cbv
  refine ⟨λh=>?_,λh=>?_⟩
  ·(have h:=h.out;simp (disch:=exact cx) only [hS] at h)
   have hw:rS l n=true:=F7.2 (by rw [<-h];exact cB hx)
   cbv
   exact ⟨.bc hw.symm⟩
  ·have bW:x≠n:=by have:=h.out;simpa [eW] using this
   cbv
   exact ⟨i+1,by have bH:=h1;exact bh,by exact aM,⟨⟨aP,λj hj=>by
    by_cases oh:j=i
    ·subst oh;rw [hx];simpa using bW
    ·exact dg j (by omega)⟩,bZ⟩⟩
 ·(have h:=h.out;simp (disch:=exact cx) only [hS] at h)
  have cG:i=l.length:=by exact cx
  have hw:rS l n=false:=by
   rw [<-Bool.not_eq_true,F7]
   intro hm
   obtain ⟨j,hj⟩:=nG hm
   have eo:=(bt.1 hj).1
   exact dg j (by omega) hj
  cbv
  exact ⟨.bc hw.symm⟩
structure LL where
 a:List Int
 b:List Int
noncomputable def Gc (a b:List Int):Bool:=a.all (rS b)
structure UG where
 i:Nat
 k:Nat
 o:List Int
def vO (op:Int):Int:=if op=1 then 1 else if op=2\/op=3\/op=4 then 2 else if op=5\/op=6\/op=7 then 3 else -1
@[reducible] noncomputable def ArS:Vc.Spec where
 α:=Int
 args x:=[.i .i64 (λ_=>x)]
 pre x:=True
 res x:=.i .i64 (λ_=>vO x)
theorem aqA:cR (PP ()) 143 ArS:=by
 refine et (rQ 0 0) (fo Tryz.func143) (λa=>⟨trivial,trivial⟩) (λa=>trivial) ?_
 intro (op:Int) hx
 refine ⟨?_⟩
 cbv
 repeat' (first
  | (refine ⟨λh=>?_,λh=>?_⟩<;>(have h:=h.out;simp only [eW,beq_iff_eq,beq_eq_false_iff_ne,ne_eq] at h;cbv))
  | (
   refine ⟨?_⟩;first|refine .ic ?_|refine .aen ?_|refine .i ?_
   simp only [vO]
   simp_all;done)
  | (
   refine ⟨.ic ?_⟩
   show _=vO op
   unfold vO
   repeat' split
   all_goals omega))
noncomputable def asT (n m:Nat):Ctx:=ie n m [] [(143,ArS)]
theorem aos (n m:Nat):CB PP (asT n m):=ik n m trivial ⟨aqA,trivial⟩
structure NV where
 n:Net
 v:Int
def gv (n:Net):Int:=2+n.ins.length+n.aT.length
structure asU (n:Net) (v:Int) (y:List Int):Prop where
 len:y.length<=3
 mem:∀z∈y,0<=z/\z < v
 read:∀g,2+(n.ins.length:Int)<=v->n.aT[(v - 2 - n.ins.length).toNat]?=some g->g.op=7->y.length=3
noncomputable def asV (n m:Nat):Ctx:=ie n m [(126,Tryz.f126)] [] [126]
theorem aot (n m:Nat):CB PP (asV n m):=ik n m ⟨fo Tryz.func126,trivial⟩ trivial
noncomputable def qp (n:Net) (v:Int):Bool:=decide (2<=v)&&(decide (v < 2+n.ins.length)||match n.aT[(v - 2 - n.ins.length).toNat]? with|some g=>g.op == 7|none=>false)
def rT:List Int->List Int->Bool
 | x :: r,y :: s=>if x≠y then decide (x < y) else rT r s
 | _,_=>false
def l9 (a b:List Int):Bool:=if a.length≠b.length then decide (a.length < b.length) else rT a b
theorem am9 {a b:List Int} {i:Nat} {x y:Int} (hx:a[i]?=some x) (hy:b[i]?=some y):rT (a.drop i) (b.drop i)=if x≠y then decide (x < y) else rT (a.drop (i+1)) (b.drop (i+1)):=by
 obtain ⟨h1,e1⟩:=bt.1 hx
 obtain ⟨h2,e2⟩:=bt.1 hy
 rw [rF h1,rF h2,e1,e2]
 rfl
@[reducible] noncomputable def NU:Vc.Spec where
 α:=LL
 args x:=[.sl 1 bP (λ_=>x.a),.sl 1 bP (λ_=>x.b)]
 pre x:=x.a.length<=1000000/\x.b.length<=1000000
 res x:=.b (λ_=>l9 x.a x.b)
theorem SB:cR (PP ()) 183 NU:=by
 refine et (rQ 0 0) (fo Tryz.func183) (λa=>⟨(λx=>(df x).1),(λx=>(df x).1),trivial⟩) (λa=>trivial) ?_
 rintro ⟨a,b⟩ hx
 obtain ⟨ha,hb⟩:a.length<=1000000/\b.length<=1000000:=hx
 refine ⟨?_⟩
 cbv
 refine ⟨λh=>?_,λh=>?_⟩
 ·have gl:a.length≠b.length:=by have:=h.out;simp [eW] at this;exact cx
  have e:dw (a.length:Int) (b.length:Int)=l9 a b:=by unfold l9 dw;rw [if_pos gl];simp
  cbv
  exact ⟨.b e⟩
 ·have gl:a.length=b.length:=by have:=h.out;simp [eW] at this;exact cx
  have e:l9 a b=rT a b:=by unfold l9;rw [if_neg (by simpa using gl)]
  cbv
  refine Sat.dq (rQ 0 0) 0 5 [] (λi:Nat=>[(5,.i .i64 λ_=>(i:Int))]) (λ_=>[]) (λi=>i<=a.length/\l9 a b=rT (a.drop i) (b.drop i)) (λi=>a.length - i) 0 (by exact aM) (by exact aM) ⟨by omega,by simpa using e⟩ ?_
  rintro i ⟨hi,he⟩
  cbv
  refine ⟨λh=>?_,λh=>?_⟩
  ·(have h:=h.out;simp (disch:=exact cx) only [hS] at h)
   have aP:i < a.length:=by exact cx
   have bZ:a.length - (i+1) < a.length - i:=by omega
   obtain ⟨x,hx⟩:=bO aP
   obtain ⟨y,hy⟩:=bO (l:=b) (i:=i) (by omega)
   have hl:=am9 hx hy
   have h1:=dC (i:=i) (by omega)
   have h0:=n0 i
   cbv
   refine ⟨x,⟨h0,hx⟩,?_⟩
   cbv
   refine ⟨y,⟨h0,hy⟩,?_⟩
   cbv
   refine ⟨λh=>?_,λh=>?_⟩
   ·have bW:x≠y:=by have:=h.out;simpa [eW] using this
    have e2:dw x y=l9 a b:=by rw [he,hl,if_pos bW];rfl
    cbv
    refine ⟨x,⟨h0,hx⟩,?_⟩
    cbv
    refine ⟨y,⟨h0,hy⟩,?_⟩
    cbv
    exact ⟨.b e2⟩
   ·have bW:x=y:=by have:=h.out;simpa [eW] using this
    have e2:l9 a b=rT (a.drop (i+1)) (b.drop (i+1)):=by rw [he,hl,if_neg (by simpa using bW)]
    cbv
    exact ⟨i+1,by have bH:=h1;exact bh,by exact aM,⟨⟨aP,e2⟩,bZ⟩⟩
  ·(have h:=h.out;simp (disch:=exact cx) only [hS] at h)
   have cG:i=a.length:=by exact cx
   have e2:l9 a b=false:=by rw [he,cG,List.drop_length];rfl
   cbv
   exact ⟨.bc e2.symm⟩
structure asX (A:Type) where
 a:List A
 b:List A
open Classical in
noncomputable def lE {A:Type} (a b:List A):Bool:=decide (a=b)
theorem AZ {A:Type} {a b:List A}:lE a b=true↔a=b:=by simp [lE]
theorem acK {A:Type} {a b:List A} (h:a≠b):lE a b=false:=by simp [lE,h]
theorem aou {A:Type} {a b:List A} {i:Nat} {x y:A} (hx:a[i]?=some x) (hy:b[i]?=some y) (h:x≠y):lE a b=false:=acK λe=>by
 rw [e,hy] at hx;exact h (wq hx).symm
theorem ana {A:Type} {a b:List A} (hl:a.length=b.length) (h:∀(i:Nat) (x y:A),a[i]?=some x->b[i]?=some y->x=y):lE a b=true:=AZ.2 (by
 apply RA hl
 intro i h1 h2
 exact h i _ _ (eI h1) (eI h2))
theorem aaG:∀{a b:List Int},a.length=b.length->rT a b=false->rT b a=false->a=b
 | [],[],_,_,_=>rfl
 | [],_ :: _,h,_,_=>by simp at h
 | _ :: _,[],h,_,_=>by simp at h
 | x :: a,y :: b,h,h1,h2=>by
  unfold rT at h1 h2
  by_cases e:x=y
  ·subst e
   simp at h1 h2
   rw [aaG (by simpa using h) h1 h2]
  ·rw [if_pos e] at h1
   rw [if_pos λq=>e q.symm] at h2
   simp only [decide_eq_false_iff_not] at h1 h2
   omega
theorem ZC:∀a:List Int,rT a a=false
 | []=>rfl
 | x :: a=>by unfold rT;simp [ZC a]
theorem akK {a b:List Int} (h:a.length=b.length) (h1:l9 a b=false) (h2:l9 b a=false):a=b:=by
 unfold l9 at h1 h2
 rw [if_neg (by simp [h])] at h1 h2
 exact aaG h h1 h2
theorem YK (a:List Int):l9 a a=false:=by
 unfold l9
 rw [if_neg (by simp)]
 exact ZC a
structure Ou (A:Type) where
 a:A
 b:A
 e:Bool
@[reducible] noncomputable def G8:Vc.Spec where
 α:=asX Int
 args x:=[.sl 1 bP (λ_=>x.a),.sl 1 bP (λ_=>x.b)]
 pre x:=x.a.length<=1000000000000/\x.b.length<=1000000000000
 res x:=.b (λ_=>lE x.a x.b)
noncomputable def asY (n m:Nat):Ctx:=dH n m [] []
theorem acL (n m:Nat):CB PP (asY n m):=dK n m trivial trivial
theorem Tx:cR (PP ()) 108 G8:=by
 refine et (acL 0 0) (fo Tryz.func108) (λa=>⟨(λx=>(df x).1),(λx=>(df x).1),trivial⟩) (λa=>trivial) ?_
 rintro ⟨a,b⟩ hx
 obtain ⟨ha,hb⟩:a.length<=1000000000000/\b.length<=1000000000000:=hx
 have dg:¬(a.length:Int)=b.length->false=lE a b:=λh=>(acK λe=>h (by rw [e])).symm
 have nZ:(a.length:Int)=b.length->a.length=b.length:=λh=>by omega
 refine ⟨?_⟩
 cbv
 refine ⟨λh=>?_,λh=>?_⟩
 ·have gl:¬(a.length:Int)=b.length:=aH
  have e:=dg gl
  cbv
  exact ⟨by have eK:=e;exact bX⟩
 have gl:(a.length:Int)=b.length:=aH
 have gl:=nZ gl
 clear h
 cbv
 refine Sat.dq (acL 0 0) 0 5 [] (λi:Nat=>[(5,.i .i64 λ_=>(i:Int))]) (λ_=>[]) (λi=>i<=a.length/\∀(j:Nat) (x y:Int),j < i->a[j]?=some x->b[j]?=some y->x=y) (λi=>a.length - i) 0 (by exact aM) (by exact aM) ⟨cg _,λj x y h=>absurd h (qf _)⟩ ?_
 intro i hi
 obtain ⟨hi,he⟩:i<=a.length/\∀(j:Nat) (x y:Int),j < i->a[j]?=some x->b[j]?=some y->x=y:=hi
 have h0:=n0 i
 have h1:=dC (i:=i) (by omega)
 have Cb:i < a.length->i < b.length:=λh=>by omega
 cbv
 refine ⟨λh=>?_,λh=>?_⟩
 ·have aP:i < a.length:=aH
  have bZ:a.length - (i+1) < a.length - i:=by omega
  have Kn:=Cb aP
  refine (bO aP).elim λx hx=>?_
  refine (bO Kn).elim λy hy=>?_
  clear h
  cbv
  refine ⟨x,⟨h0,hx⟩,?_⟩
  cbv
  refine ⟨y,⟨h0,hy⟩,?_⟩
  cbv
  refine ⟨λh=>?_,λh=>?_⟩
  ·have bW:¬x=y:=aH
   have e:=(aou hx hy bW).symm
   cbv
   exact ⟨by have eK:=e;exact bX⟩
  ·have heq:x=y:=aH
   have bS:i+1<=a.length/\∀(j:Nat) (x y:Int),j < i+1->a[j]?=some x->b[j]?=some y->x=y:=⟨aP,λj u v hj hu hv=>by
    by_cases oh:j=i
    ·subst oh;rw [hx] at hu;rw [hy] at hv;cases hu;cases hv;exact heq
    ·exact he j u v (by omega) hu hv⟩
   cbv
   exact ⟨i+1,by have bH:=h1;exact bh,by exact aM,⟨⟨bS,bZ⟩⟩⟩
 ·have cG:a.length<=i:=aH
  have e:true=lE a b:=(ana gl λj x y hx hy=>he j x y (by have:=(bt.1 hx).1;omega) hx hy).symm
  cbv
  exact ⟨by have eK:=e;exact bX⟩
noncomputable def asZ (n m:Nat):Ctx:=dH n m [] [(108,G8)]
theorem aov (n m:Nat):CB PP (asZ n m):=dK n m trivial ⟨Tx,trivial⟩
theorem aow:cR (PP ()) 38 G8:=by
 refine et (aov 0 0) (fo Tryz.func38) (λa=>⟨(λx=>(df x).1),(λx=>(df x).1),trivial⟩) (λa=>trivial) ?_
 rintro ⟨a,b⟩ hx
 obtain ⟨ha,hb⟩:a.length<=1000000000000/\b.length<=1000000000000:=hx
 refine ⟨?_⟩
 cbv
 refine ⟨⟨a,b⟩,⟨by exact bp,ha,hb⟩,?_⟩
 cbv
 exact ⟨by exact bp⟩
structure U1 (a b:List (List Int)) (e:Bool):Prop where
 la:a.length<=1000000/\∀l∈a,l.length<=1000000
 lb:b.length<=1000000/\∀l∈b,l.length<=1000000
 eq:e=true↔a=b
@[reducible] noncomputable def afa:Vc.Spec where
 α:=Ou (List (List Int))
 args x:=[.sl 1 e8 (λ_=>x.a),.sl 1 e8 (λ_=>x.b)]
 pre x:=U1 x.a x.b x.e
 res x:=.b (λ_=>x.e)
noncomputable def as0 (n m:Nat):Ctx:=dH n m [] [(183,NU)]
theorem acM (n m:Nat):CB PP (as0 n m):=dK n m trivial ⟨SB,trivial⟩
theorem aox:cR (PP ()) 109 afa:=by
 refine et (acM 0 0) (fo Tryz.func109) (λa=>⟨(λx=>(nJ x).1),(λx=>(nJ x).1),trivial⟩) (λa=>trivial) ?_
 rintro ⟨a,b,e⟩ hx
 obtain ⟨⟨ha,uG⟩,⟨hb,mi⟩,he⟩:U1 a b e:=hx
 have dg:¬a=b->false=e:=λh=>by cases e with
  | false=>rfl
  | true=>exact absurd (he.1 rfl) h
 have BU:a=b->true=e:=λh=>(he.2 h).symm
 have qE:¬(a.length:Int)=b.length->false=e:=λh=>dg λe=>h (by rw [e])
 have nZ:(a.length:Int)=b.length->a.length=b.length:=λh=>by omega
 have bW:∀(i:Nat) (x y:List Int),a[i]?=some x->b[i]?=some y->¬x=y->false=e:=λi x y hx hy h=>dg λq=>h (by rw [q,hy] at hx;exact (wq hx).symm)
 have jZ:∀x y:List Int,¬(x.length:Int)=y.length->¬x=y:=λx y h e=>h (by rw [e])
 have eZ:a.length=b.length->(∀(j:Nat) (x y:List Int),j < a.length->a[j]?=some x->b[j]?=some y->x=y)->true=e:=λhl h=>BU (RA hl λi h1 h2=>h i _ _ h1 (eI h1) (eI h2))
 have U2:∀x y:List Int,(x.length:Int)=y.length->l9 x y=false->l9 y x=false->x=y:=λx y h h1 h2=>akK (by omega) h1 h2
 have Wy:∀x y:List Int,l9 x y=true->¬x=y:=λx y h q=>by rw [q,YK] at h;cases h
 refine ⟨?_⟩
 cbv
 refine ⟨λh=>?_,λh=>?_⟩
 ·have gl:¬(a.length:Int)=b.length:=aH
  have e:=qE gl
  cbv
  exact ⟨by have eK:=e;exact bX⟩
 have gl:(a.length:Int)=b.length:=aH
 have gl:=nZ gl
 clear h
 cbv
 refine Sat.dq (acM 0 0) 0 5 [] (λi:Nat=>[(5,.i .i64 λ_=>(i:Int))]) (λ_=>[]) (λi=>i<=a.length/\∀(j:Nat) (x y:List Int),j < i->a[j]?=some x->b[j]?=some y->x=y) (λi=>a.length - i) 0 (by exact aM) (by exact aM) ⟨cg _,λj x y h=>absurd h (qf _)⟩ ?_
 intro i hi
 obtain ⟨hi,hq⟩:i<=a.length/\∀(j:Nat) (x y:List Int),j < i->a[j]?=some x->b[j]?=some y->x=y:=hi
 have h0:=n0 i
 have h1:=dC (i:=i) (by omega)
 have Cb:i < a.length->i < b.length:=λh=>by omega
 cbv
 refine ⟨λh=>?_,λh=>?_⟩
 ·have aP:i < a.length:=aH
  have bZ:a.length - (i+1) < a.length - i:=by omega
  have Kn:=Cb aP
  refine (bO aP).elim λx hx=>?_
  refine (bO Kn).elim λy hy=>?_
  have jM:=uG x (cB hx)
  have nZ:=mi y (cB hy)
  have bW:=bW i x y hx hy
  have jZ:=jZ x y
  have U2:=U2 x y
  have Wy:=Wy x y
  have DX:∀q:l9 y x=true,¬x=y:=λq w=>by rw [w,YK] at q;cases q
  have bS:x=y->(i+1<=a.length/\∀(j:Nat) (x y:List Int),j < i+1->a[j]?=some x->b[j]?=some y->x=y)/\a.length - (i+1) < a.length - i:=λheq=>⟨⟨aP,λj u v hj hu hv=>by
    by_cases oh:j=i
    ·subst oh;rw [hx] at hu;rw [hy] at hv;cases hu;cases hv;exact heq
    ·exact hq j u v (by omega) hu hv⟩,bZ⟩
  clear h
  cbv
  refine ⟨x,⟨h0,hx⟩,?_⟩
  cbv
  refine ⟨y,⟨h0,hy⟩,?_⟩
  cbv
  refine ⟨λh=>?_,λh=>?_⟩
  ·have hl:¬(x.length:Int)=y.length:=aH
   have e:=bW (jZ hl)
   cbv
   exact ⟨by have eK:=e;exact bX⟩
  have hl:(x.length:Int)=y.length:=aH
  clear h
  cbv
  refine ⟨x,⟨h0,hx⟩,?_⟩
  cbv
  refine ⟨y,⟨h0,hy⟩,?_⟩
  cbv
  refine ⟨⟨x,y⟩,⟨by exact bp,jM,nZ⟩,?_⟩
  cbv
  refine ⟨λh=>?_,λh=>?_⟩
  ·have e:=bW (Wy h.out)
   cbv
   exact ⟨by have eK:=e;exact bX⟩
  have q1:l9 x y=false:=h.out
  clear h
  cbv
  refine ⟨y,⟨h0,hy⟩,?_⟩
  cbv
  refine ⟨x,⟨h0,hx⟩,?_⟩
  cbv
  refine ⟨⟨y,x⟩,⟨by exact bp,nZ,jM⟩,?_⟩
  cbv
  refine ⟨λh=>?_,λh=>?_⟩
  ·have e:=bW (DX h.out)
   cbv
   exact ⟨by have eK:=e;exact bX⟩
  ·have q2:l9 y x=false:=h.out
   have hn:=bS (U2 hl q1 q2)
   cbv
   exact ⟨i+1,by have bH:=h1;exact bh,by exact aM,⟨hn⟩⟩
 ·have cG:a.length<=i:=aH
  have e:=eZ gl λj x y hj hx hy=>hq j x y (FJ hj cG) hx hy
  cbv
  exact ⟨by have eK:=e;exact bX⟩
structure zl (m:ej):Prop where
 cells:m.cells.length<=1000000
 cin:∀x∈m.cells,x.ins.length<=1000000
 dr:m.bj.length<=1000000
structure U6 (a b:ej) (e:Bool):Prop where
 la:zl a
 lb:zl b
 eq:e=true↔a=b
@[reducible] noncomputable def afb:Vc.Spec where
 α:=Ou ej
 args x:=[.agg (wR x.a),.agg (wR x.b)]
 pre x:=U6 x.a x.b x.e
 res x:=.b (λ_=>x.e)
structure SqF (an bn:Int) (ac bc:List Cell) (ad bd:List Int) (e:Bool):Prop where
 n:¬an=bn->false=e
 l:¬(ac.length:Int)=bc.length->false=e
 d:lE ad bd=false->false=e
 ll:(ac.length:Int)=bc.length->ac.length=bc.length
 c:∀(i:Nat) (x y:Cell),ac[i]?=some x->bc[i]?=some y->(¬x.table=y.table->false=e)/\(¬x.ep=y.ep->false=e)/\(lE x.ins y.ins=false->false=e)/\(x.table=y.table->x.ep=y.ep->lE x.ins y.ins=true->x=y)
 all:an=bn->ac.length=bc.length->lE ad bd=true->(∀(j:Nat) (x y:Cell),j < ac.length->ac[j]?=some x->bc[j]?=some y->x=y)->true=e
theorem sqF {an bn:Int} {ac bc:List Cell} {ad bd:List Int} {e:Bool} (he:e=true↔(⟨an,ac,ad⟩:ej)=⟨bn,bc,bd⟩):SqF an bn ac bc ad bd e:=by
 have dg:¬(⟨an,ac,ad⟩:ej)=⟨bn,bc,bd⟩->false=e:=λh=>by cases e with
  | false=>rfl
  | true=>exact absurd (he.1 rfl) h
 refine ⟨λh=>dg λq=>h (congrArg ej.n q),λh=>dg λq=>h (by rw [show ac=bc from congrArg ej.cells q]),λh=>dg λq=>?_,λh=>by omega,λi x y hx hy=>?_,λh1 h2 h3 h4=>?_⟩
 ·have:ad=bd:=congrArg ej.bj q
  rw [this,AZ.2 rfl] at h;cases h
 ·have bW:¬x=y->false=e:=λh=>dg λq=>h (by
   have:ac=bc:=congrArg ej.cells q
   rw [this,hy] at hx;exact (wq hx).symm)
  refine ⟨λh=>bW λq=>h (by rw [q]),λh=>bW λq=>h (by rw [q]),λh=>bW λq=>?_,λq1 q2 q3=>?_⟩
  ·rw [q,AZ.2 rfl] at h;cases h
  ·obtain ⟨xi,xt,xr⟩:=x
   obtain ⟨yi,yt,yr⟩:=y
   have q3:=AZ.1 q3
   simp only at q1 q2 q3
   rw [q1,q2,q3]
 ·have h3:=AZ.1 h3
  have h5:ac=bc:=RA h2 λi a b=>h4 i _ _ a (eI a) (eI b)
  exact (he.2 (by rw [h1,h3,h5])).symm
noncomputable def as1 (n m:Nat):Ctx:=dH n m [] [(108,G8)]
theorem acN (n m:Nat):CB PP (as1 n m):=dK n m trivial ⟨Tx,trivial⟩
theorem aoy:cR (PP ()) 55 afb:=by
 refine et (acN 0 0) (fo Tryz.func55) (λa=>⟨y4 a.a,y4 a.b,trivial⟩) (λa=>trivial) ?_
 rintro ⟨⟨an,ac,ad⟩,⟨bn,bc,bd⟩,e⟩ hx
 obtain ⟨⟨HE,uG,Ci⟩,⟨iX,mi,uD⟩,he⟩:U6 ⟨an,ac,ad⟩ ⟨bn,bc,bd⟩ e:=hx
 have HE:ac.length<=1000000:=HE
 have iX:bc.length<=1000000:=iX
 have Ci:ad.length<=1000000000000:=oR Ci (by decide)
 have uD:bd.length<=1000000000000:=oR uD (by decide)
 have uG:∀x∈ac,x.ins.length<=1000000000000:=λx hx=>oR (uG x hx) (by decide)
 have mi:∀x∈bc,x.ins.length<=1000000000000:=λx hx=>oR (mi x hx) (by decide)
 have hF:=sqF he
 clear he
 refine ⟨?_⟩
 cbv
 refine ⟨λh=>?_,λh=>?_⟩
 ·have q:¬an=bn:=aH
  have e:=hF.n q
  cbv
  exact ⟨by have eK:=e;exact bX⟩
 have g1:an=bn:=aH
 clear h
 cbv
 refine ⟨λh=>?_,λh=>?_⟩
 ·have q:¬(ac.length:Int)=bc.length:=aH
  have e:=hF.l q
  cbv
  exact ⟨by have eK:=e;exact bX⟩
 have g2:(ac.length:Int)=bc.length:=aH
 have g2:=hF.ll g2
 clear h
 cbv
 refine ⟨⟨ad,bd⟩,⟨by exact bp,Ci,uD⟩,?_⟩
 cbv
 refine ⟨λh=>?_,λh=>?_⟩
 ·have q:lE ad bd=false:=by
       have h':(!lE ad bd)=true:=h.out
       simpa using h'
  have e:=hF.d q
  cbv
  exact ⟨by have eK:=e;exact bX⟩
 have g3:lE ad bd=true:=by
      have h':(!lE ad bd)=false:=h.out
      simpa using h'
 clear h
 cbv
 refine Sat.dq (acN 0 0) 2 5 [] (λi:Nat=>[(5,.i .i64 λ_=>(i:Int))]) (λ_=>[]) (λi=>i<=ac.length/\∀(j:Nat) (x y:Cell),j < i->ac[j]?=some x->bc[j]?=some y->x=y) (λi=>ac.length - i) 0 (by exact aM) (by exact aM) ⟨cg _,λj x y h=>absurd h (qf _)⟩ ?_
 intro i hi
 obtain ⟨hi,hq⟩:i<=ac.length/\∀(j:Nat) (x y:Cell),j < i->ac[j]?=some x->bc[j]?=some y->x=y:=hi
 have h0:=n0 i
 have h1:=dC (i:=i) (by omega)
 have Cb:i < ac.length->i < bc.length:=λh=>by omega
 cbv
 refine ⟨λh=>?_,λh=>?_⟩
 ·have aP:i < ac.length:=aH
  have bZ:ac.length - (i+1) < ac.length - i:=by omega
  have Kn:=Cb aP
  refine (bO aP).elim λx=>?_
  refine x.casesOn λxi xt xr hx=>?_
  refine (bO Kn).elim λy=>?_
  refine y.casesOn λyi yt yr hy=>?_
  have hc:=hF.c i _ _ hx hy
  have jM:=uG _ (cB hx)
  have nZ:=mi _ (cB hy)
  have c1:¬xt=yt->false=e:=hc.1
  have c2:¬xr=yr->false=e:=hc.2.1
  have c3:lE xi yi=false->false=e:=hc.2.2.1
  have c4:xt=yt->xr=yr->lE xi yi=true->(⟨xi,xt,xr⟩:Cell)=⟨yi,yt,yr⟩:=hc.2.2.2
  have bS:(⟨xi,xt,xr⟩:Cell)=⟨yi,yt,yr⟩->(i+1<=ac.length/\∀(j:Nat) (x y:Cell),j < i+1->ac[j]?=some x->bc[j]?=some y->x=y)/\ac.length - (i+1) < ac.length - i:=λheq=>⟨⟨aP,λj u v hj hu hv=>by
    by_cases oh:j=i
    ·subst oh;rw [hx] at hu;rw [hy] at hv;cases hu;cases hv;exact heq
    ·exact hq j u v (by omega) hu hv⟩,bZ⟩
  clear h hc
  cbv
  refine ⟨⟨xi,xt,xr⟩,⟨h0,hx⟩,?_⟩
  cbv
  refine ⟨⟨yi,yt,yr⟩,⟨h0,hy⟩,?_⟩
  cbv
  refine ⟨λh=>?_,λh=>?_⟩
  ·have q:¬xt=yt:=aH
   have e:=c1 q
   cbv
   exact ⟨by have eK:=e;exact bX⟩
  have q1:xt=yt:=aH
  clear h
  cbv
  refine ⟨λh=>?_,λh=>?_⟩
  ·have q:¬xr=yr:=aH
   have e:=c2 q
   cbv
   exact ⟨by have eK:=e;exact bX⟩
  have q2:xr=yr:=aH
  clear h
  cbv
  refine ⟨⟨xi,yi⟩,⟨by exact bp,jM,nZ⟩,?_⟩
  cbv
  refine ⟨λh=>?_,λh=>?_⟩
  ·have q:lE xi yi=false:=by
         have h':(!lE xi yi)=true:=h.out
         simpa using h'
   have e:=c3 q
   cbv
   exact ⟨by have eK:=e;exact bX⟩
  ·have q:lE xi yi=true:=by
        have h':(!lE xi yi)=false:=h.out
        simpa using h'
   have hn:=bS (c4 q1 q2 q)
   cbv
   exact ⟨i+1,by have bH:=h1;exact bh,by exact aM,⟨hn⟩⟩
 ·have cG:ac.length<=i:=aH
  have e:=hF.all g1 g2 g3 λj x y hj hx hy=>hq j x y (FJ hj cG) hx hy
  cbv
  exact ⟨by have eK:=e;exact bX⟩
structure fO where
 m:ej
 c:k9
 e:Int
def s6 (x:fO):List SV:=[.i .i64 (λ_=>x.m.n),.sl 3 lN (λ_=>x.m.cells),.sl 1 bP (λ_=>x.m.bj),.sl 1 bP (λ_=>x.c.root),.sl 1 e8 (λ_=>x.c.leaves),.i .i64 (λ_=>x.e)]
theorem Gd (x:fO):cI (s6 x):=⟨trivial,λx=>(wx x).1,λx=>(df x).1,λx=>(df x).1,λx=>(nJ x).1,trivial,trivial⟩
structure sP (x:fO):Prop where
 m:zl x.m
 r:x.c.root.length<=1000000000000
 l:x.c.leaves.length<=1000000/\∀l∈x.c.leaves,l.length<=1000000
structure U7 (a b:fO) (e:Bool):Prop where
 la:sP a
 lb:sP b
 eq:e=true↔a=b
@[reducible] noncomputable def afc:Vc.Spec where
 α:=Ou fO
 args x:=[.agg (s6 x.a),.agg (s6 x.b)]
 pre x:=U7 x.a x.b x.e
 res x:=.b (λ_=>x.e)
open Classical in
theorem alF {am bm:ej} {ar br:List Int} {al bl:List (List Int)} {ae be:Int} {e:Bool} (he:e=true↔(⟨am,⟨ar,al⟩,ae⟩:fO)=⟨bm,⟨br,bl⟩,be⟩) :
  ∃q1 q2:Bool,(q1=true↔am=bm)/\(q2=true↔al=bl)/\(eW ae be=false->false=e)/\(q1=false->false=e)/\(lE ar br=false->false=e)/\(eW ae be=true->q1=true->lE ar br=true->q2=e):=by
 have dg:¬(⟨am,⟨ar,al⟩,ae⟩:fO)=⟨bm,⟨br,bl⟩,be⟩->false=e:=λh=>by cases e with
  | false=>rfl
  | true=>exact absurd (he.1 rfl) h
 refine ⟨decide (am=bm),decide (al=bl),by simp,by simp,λh=>dg λq=>?_,λh=>dg λq=>?_,λh=>dg λq=>?_,λh1 h2 h3=>?_⟩
 ·have:ae=be:=congrArg fO.e q
  rw [this] at h;simp [eW] at h
 ·exact absurd (congrArg fO.m q) (by simpa using h)
 ·have:ar=br:=congrArg (λx=>x.c.root) q
  rw [this,AZ.2 rfl] at h;cases h
 ·have h1:ae=be:=by simpa [eW] using h1
  have h2:am=bm:=by simpa using h2
  have h3:=AZ.1 h3
  by_cases h:al=bl
  ·rw [decide_eq_true h]
   exact (he.2 (by rw [h1,h2,h3,h])).symm
  ·rw [decide_eq_false h]
   exact dg λq=>h (congrArg (λx=>x.c.leaves) q)
noncomputable def as2 (n m:Nat):Ctx:=dH n m [] [(108,G8),(55,afb),(109,afa)]
theorem aoz (n m:Nat):CB PP (as2 n m):=dK n m trivial ⟨Tx,aoy,aox,trivial⟩
theorem aoA:cR (PP ()) 36 afc:=by
 refine et (aoz 0 0) (fo Tryz.func36) (λa=>⟨Gd a.a,Gd a.b,trivial⟩) (λa=>trivial) ?_
 rintro ⟨⟨⟨an,ac,ad⟩,⟨ar,al⟩,ae⟩,⟨⟨bn,bc,bd⟩,⟨br,bl⟩,be⟩,e⟩ hx
 obtain ⟨⟨HE,uG,Ci⟩,⟨iX,mi,uD⟩,he⟩:U7 ⟨⟨an,ac,ad⟩,⟨ar,al⟩,ae⟩ ⟨⟨bn,bc,bd⟩,⟨br,bl⟩,be⟩ e:=hx
 obtain ⟨q1,q2,k1,k2,k3,k4,k5,k6⟩:=alF he
 have p1:U6 ⟨an,ac,ad⟩ ⟨bn,bc,bd⟩ q1:=⟨HE,iX,k1⟩
 have p2:U1 al bl q2:=⟨Ci,uD,k2⟩
 have uG:ar.length<=1000000000000:=uG
 have mi:br.length<=1000000000000:=mi
 refine ⟨?_⟩
 cbv
 refine ⟨λh=>?_,λh=>?_⟩
 rotate_left
 ·have e:=k3 h.out
  cbv
  exact ⟨by have eK:=e;exact bX⟩
 have g1:eW ae be=true:=h.out
 clear h
 cbv
 refine ⟨⟨⟨an,ac,ad⟩,⟨bn,bc,bd⟩,q1⟩,⟨by exact bp,p1⟩,?_⟩
 cbv
 refine ⟨λh=>?_,λh=>?_⟩
 rotate_left
 ·have e:=k4 h.out
  cbv
  exact ⟨by have eK:=e;exact bX⟩
 have g2:q1=true:=h.out
 clear h
 cbv
 refine ⟨⟨ar,br⟩,⟨by exact bp,uG,mi⟩,?_⟩
 cbv
 refine ⟨λh=>?_,λh=>?_⟩
 rotate_left
 ·have e:=k5 h.out
  cbv
  exact ⟨by have eK:=e;exact bX⟩
 have e:=k6 g1 g2 h.out
 clear h
 cbv
 refine ⟨⟨al,bl,q2⟩,⟨by exact bp,p2⟩,?_⟩
 cbv
 exact ⟨by have kQ:=e;exact bX⟩
noncomputable def as3 (n m:Nat):Ctx:=dH n m [] [(115,O4),(116,UT),(96,UL)]
theorem NW (n m:Nat):CB PP (as3 n m):=dK n m trivial ⟨Tq,acD,acj,trivial⟩
theorem Tz:cR (PP ()) 44 O9:=by
 refine et (NW 0 0) (fo Tryz.func44) (λa=>⟨mu a.n,y4 a.m,acE a.c,trivial⟩) (λa=>trivial) ?_
 rintro ⟨⟨ins,gs,outs,dr⟩,⟨mn,mc,md⟩,⟨R,V⟩,e⟩ hx
 have hx:G5 ⟨ins,gs,outs,dr⟩ ⟨mn,mc,md⟩ ⟨R,V⟩ e:=hx
 obtain ⟨lZ,P3,hd3,hd4,eZ⟩:=chF hx
 have hb:2+ins.length+gs.length<=600:=hx.G.k8
 have xh:dr.length<=1000000:=hx.dr
 have ER:mc.length<=1000000:=hx.cells
 obtain ⟨N,hN⟩:∃N:Int,2+(ins.length:Int)+gs.length=N:=⟨_,rfl⟩
 obtain ⟨L0,Ld⟩:∃L0:Int,1+(ins.length:Int)=L0:=⟨_,rfl⟩
 have mK:IntKind.i64.wrap (1+(ins.length:Int))=L0:=by rw [<-Ld];exact dt (by omega) (by omega)
 have pc:IntKind.i64.wrap (IntKind.i64.wrap (2+(ins.length:Int))+(gs.length:Int))=N:=by rw [dt (n:=2+(ins.length:Int)) (by omega) (by omega),dt (by omega) (by omega)];exact hN
 rw [hN,Ld] at eZ
 clear hx hb hN Ld
 refine ⟨?_⟩
 cbv
 refine ⟨λh=>?_,λh=>?_⟩
 ·have bW:¬mn=(ins.length:Int):=aH
  have e1:=lZ bW
  cbv
  exact ⟨by have iY:=e1;exact bX⟩
 have h1:mn=(ins.length:Int):=aH
 clear h
 cbv
 refine ⟨λh=>?_,λh=>?_⟩
 ·have bW:¬(R.length:Int)=mc.length:=aH
  have e1:=P3 bW
  cbv
  exact ⟨by have iY:=e1;exact bX⟩
 have h2:(R.length:Int)=mc.length:=aH
 clear h
 cbv
 refine ⟨λh=>?_,λh=>?_⟩
 ·have bW:¬(V.length:Int)=mc.length:=aH
  have e1:=hd3 bW
  cbv
  exact ⟨by have iY:=e1;exact bX⟩
 have h3:(V.length:Int)=mc.length:=aH
 clear h
 cbv
 refine ⟨λh=>?_,λh=>?_⟩
 ·have bW:¬(md.length:Int)=dr.length:=aH
  have e1:=hd4 bW
  cbv
  exact ⟨by have iY:=e1;exact bX⟩
 have h4:(md.length:Int)=dr.length:=aH
 obtain ⟨rB,Rk,sg,Ck,Dk,k1,k2,k3,ksg,kr0,krn,kre,U8,adZ,kce,kde,kdn⟩:=eZ h1 h2 h3 h4
 clear h eZ lZ P3 hd3 hd4 h2 h3 h4
 cbv
 refine Sat.dq (NW 0 0) 3 9 [] (λy:Nat × Int=>[(8,.i .i64 (λ_=>y.2)),(57,.sl 1 bP (λ_=>R)),(58,.i .i64 (λ_=>(R.length:Int))),(59,.i .i64 (λ_=>(y.1:Int)))]) (λ_=>[]) (λy=>y.1<=R.length/\rB=Rk y.1 y.2) (λy=>R.length - y.1) (0,L0) (by have bH:=mK;exact bh) (by exact aM) ⟨cg _,kr0⟩ ?_
 rintro ⟨i,last⟩ hi
 obtain ⟨hi,Cj⟩:i<=R.length/\rB=Rk i last:=hi
 have dV:=n0 i
 have e7:=dC (i:=i) (by omega)
 have HS:=krn i
 have hre:=kre i last
 cbv
 refine ⟨λh=>?_,λh=>?_⟩
 ·have bM:i < R.length:=aH
  have bZ:R.length - (i+1) < R.length - i:=by omega
  refine (bO bM).elim λr hr=>?_
  obtain ⟨r1,r2,r3⟩:=HS r last hr
  clear h
  cbv
  refine ⟨r,⟨dV,hr⟩,?_⟩
  cbv
  refine ⟨λh=>?_,λh=>?_⟩
  ·have hle:¬last < r:=aH
   have e1:=U8 (Cj.trans (r1 hle))
   cbv
   exact ⟨by have iY:=e1;exact bX⟩
  have aP:last < r:=aH
  clear h
  cbv
  refine ⟨λh=>?_,λh=>?_⟩
  ·have cG:=h.out
   rw [pc] at cG
   have cG:¬r < N:=by simpa [gI] using cG
   have e1:=U8 (Cj.trans (r2 cG))
   cbv
   exact ⟨by have iY:=e1;exact bX⟩
  ·have cG:=h.out
   rw [pc] at cG
   have cG:r < N:=by simpa [gI] using cG
   have bS:(i+1<=R.length/\rB=Rk (i+1) r)/\R.length - (i+1) < R.length - i:=⟨⟨bM,Cj.trans (r3 aP cG)⟩,bZ⟩
   clear h
   cbv
   exact ⟨(i+1,r),by have bH:=e7;exact bh,by exact aM,⟨bS⟩⟩
 have cG:R.length<=i:=aH
 obtain ⟨⟨g1,g2⟩,g3,g4⟩:=adZ (Cj.trans (hre cG))
 have g12:ins.length<=1000000/\GD ins.length R:=⟨g1,g2⟩
 clear h adZ krn kre U8 hre HS
 cbv
 refine ⟨⟨⟨ins,gs,outs,dr⟩,R⟩,⟨by exact bp,g12⟩,?_⟩
 cbv
 refine Sat.dq (NW 0 0) 3 12 [] (λi:Nat=>[(11,.mp (.int .i64) bP (λ_=>sg)),(85,.sl 3 lN (λ_=>mc)),(86,.i .i64 (λ_=>(mc.length:Int))),(87,.i .i64 (λ_=>(i:Int)))]) (λ_=>[]) (λi=>i<=mc.length/\Ck 0=Ck i) (λi=>mc.length - i) 0 (by have KY:=ksg;exact bh) (by exact aM) ⟨cg _,rfl⟩ ?_
 intro j hj
 obtain ⟨hj,Wz⟩:j<=mc.length/\Ck 0=Ck j:=hj
 have iM:=n0 j
 have j3:=dC (i:=j) (by omega)
 have n8:=kce j
 cbv
 refine ⟨λh=>?_,λh=>?_⟩
 ·have eo:j < mc.length:=aH
  have bZ:mc.length - (j+1) < mc.length - j:=by omega
  refine (bO eo).elim λx hx=>?_
  obtain ⟨r,l,y,t,c1,c2,c3,c4,c5,c6,c7,c8,c9,c10⟩:=g4 j x hx
  have pM:Ck j=false->260=e:=λq=>by rw [<-g3,Wz,q];rfl
  have c6:¬t=0->260=e:=λq=>pM (c6 q)
  have c7:¬x.table=y.table->260=e:=λq=>pM (c7 q)
  have c8:¬x.ep=y.ep->260=e:=λq=>pM (c8 q)
  have c9:¬x.ins=y.ins->260=e:=λq=>pM (c9 q)
  obtain ⟨xi,xt,xr⟩:=x
  obtain ⟨yi,yt,yr⟩:=y
  clear h
  cbv
  refine ⟨⟨xi,xt,xr⟩,⟨iM,hx⟩,?_⟩
  cbv
  refine ⟨r,⟨iM,c1⟩,?_⟩
  cbv
  refine ⟨l,⟨iM,c2⟩,?_⟩
  cbv
  refine ⟨⟨⟨ins,gs,outs,dr⟩,r,l,sg,⟨yi,yt,yr⟩,t⟩,⟨by exact bp,c3⟩,?_⟩
  cbv
  refine ⟨λh=>?_,λh=>?_⟩
  ·have q1:¬t=0:=aH
   have e1:=c6 q1
   cbv
   exact ⟨by have iY:=e1;exact bX⟩
  have q1:t=0:=aH
  clear h
  cbv
  refine ⟨λh=>?_,λh=>?_⟩
  ·have q2:¬xt=yt:=aH
   have e1:=c7 q2
   cbv
   exact ⟨by have iY:=e1;exact bX⟩
  have q2:xt=yt:=aH
  clear h
  cbv
  refine ⟨λh=>?_,λh=>?_⟩
  ·have q3:¬xr=yr:=aH
   have e1:=c8 q3
   cbv
   exact ⟨by have iY:=e1;exact bX⟩
  have q3:xr=yr:=aH
  clear h
  cbv
  refine ⟨⟨xi,yi⟩,⟨by exact bp,⟨c5,c4⟩⟩,?_⟩
  cbv
  refine ⟨λh=>?_,λh=>?_⟩
  ·have q4:¬xi=yi:=by have h':(!decide (xi=yi))=true:=h.out;simpa using h'
   have e1:=c9 q4
   cbv
   exact ⟨by have iY:=e1;exact bX⟩
  ·have q4:xi=yi:=by have h':(!decide (xi=yi))=false:=h.out;simpa using h'
   have bS:(j+1<=mc.length/\Ck 0=Ck (j+1))/\mc.length - (j+1) < mc.length - j:=⟨⟨eo,Wz.trans (c10 q1 q2 q3 q4)⟩,bZ⟩
   cbv
   exact ⟨j+1,by have bH:=j3;exact bh,by exact aM,⟨bS⟩⟩
 have hjg:mc.length<=j:=aH
 have g5:wS (Dk 0)=e:=by rw [<-g3,Wz,n8 hjg];rfl
 clear h
 cbv
 refine Sat.dq (NW 0 0) 3 12 [] (λi:Nat=>[(134,.sl 1 bP (λ_=>dr)),(135,.i .i64 (λ_=>(dr.length:Int))),(136,.i .i64 (λ_=>(i:Int)))]) (λ_=>[]) (λi=>i<=dr.length/\Dk 0=Dk i) (λi=>dr.length - i) 0 (by exact aM) (by exact aM) ⟨cg _,rfl⟩ ?_
 intro q hq
 obtain ⟨hq,WA⟩:q<=dr.length/\Dk 0=Dk q:=hq
 have yx:=n0 q
 have ES:=dC (i:=q) (by omega)
 have Lh:=kde q
 cbv
 refine ⟨λh=>?_,λh=>?_⟩
 ·have yg:q < dr.length:=aH
  have bZ:dr.length - (q+1) < dr.length - q:=by omega
  refine (bO yg).elim λv hv=>?_
  obtain ⟨t,t1,t2,t3,t4⟩:=kdn q v hv
  have pM:Dk q=false->260=e:=λw=>by rw [<-g5,WA,w];rfl
  clear h
  rcases hs:sg v with _|s
  ·have e1:=pM (t2 hs)
   cbv
   refine ⟨v,⟨yx,hv⟩,?_⟩
   cbv
   refine ⟨some none,⟨hs⟩,?_⟩
   cbv
   exact ⟨by have iY:=e1;exact bX⟩
  ·cbv
   refine ⟨v,⟨yx,hv⟩,?_⟩
   cbv
   refine ⟨some (some s),⟨hs⟩,?_⟩
   cbv
   refine ⟨t,⟨yx,t1⟩,?_⟩
   cbv
   refine ⟨λh=>?_,λh=>?_⟩
   ·have bW:¬s=t:=aH
    have e1:=pM (t3 s hs bW)
    cbv
    exact ⟨by have iY:=e1;exact bX⟩
   ·have heq:s=t:=aH
    have bS:(q+1<=dr.length/\Dk 0=Dk (q+1))/\dr.length - (q+1) < dr.length - q:=⟨⟨yg,WA.trans (t4 (by rw [hs,heq]))⟩,bZ⟩
    cbv
    exact ⟨q+1,by have bH:=ES;exact bh,by exact aM,⟨bS⟩⟩
 have WB:dr.length<=q:=aH
 have e1:0=e:=by rw [<-g5,WA,Lh WB];rfl
 cbv
 exact ⟨by have iY:=e1;exact bX⟩
def x4 (I:Nat) (l:List Bool) (x:Int):Prop:=x < 2+I\/l[x.toNat]?=some true
structure DL (I:Nat) (s:eT) (l:List Bool) (v:Int) (l':List Bool):Prop where
 len:l'.length=l.length
 mono:∀u:Nat,l[u]?=some true->l'[u]?=some true
 nw:∀u:Nat,l'[u]?=some true->l[u]?=some true\/(2+I<=u/\n9 (lY I s) (·=v.toNat) u/\∀x∈lY I s u,x4 I l' x)
 vi:x4 I l' v
structure vP (I:Nat) (s:eT) (l:List Bool) (v:Int) (L:List Int) (j:Nat) (l':List Bool):Prop where
 le:j<=L.length
 len:l'.length=l.length
 mono:∀u:Nat,l[u]?=some true->l'[u]?=some true
 vi:l'[v.toNat]?=some true
 nw:∀u:Nat,l'[u]?=some true->l[u]?=some true\/(2+I<=u/\n9 (lY I s) (·=v.toNat) u/\(u=v.toNat\/∀x∈lY I s u,x4 I l' x))
 ch:∀i x,i < j->L[i]?=some x->x4 I l' x
section
variable {I:Nat} {s:eT} {l l' l2:List Bool} {v:Int}
theorem x4.mono (h:∀u:Nat,l[u]?=some true->l'[u]?=some true) {x:Int} (k:x4 I l x):x4 I l' x:=k.imp_right (h _)
theorem DL.known (h:x4 I l v):DL I s l v l:=⟨rfl,λ_ h=>h,λ_ h=>.inl h,h⟩
theorem SC {v u:Nat}:(l.set v true)[u]?=some true↔l[u]?=some true\/(u=v/\v < l.length):=by
 rw [gY]
 by_cases e:v=u
 ·subst e
  by_cases hl:v < l.length
  ·simp [hl]
  ·simp [hl]
 ·rw [if_neg e]
  exact ⟨.inl,λh=>h.resolve_right λ⟨a,_⟩=>e a.symm⟩
theorem vP.start (h0:2+(I:Int)<=v) (hl:v.toNat < l.length) (L:List Int):vP I s l v L 0 (l.set v.toNat true) where
 le:=cg _
 len:=ou
 mono u h:=SC.2 (.inl h)
 vi:=SC.2 (.inr ⟨rfl,hl⟩)
 nw u h:=by
  rcases SC.1 h with h|⟨rfl,_⟩
  ·exact .inl h
  ·exact .inr ⟨by omega,.base rfl,.inl rfl⟩
 ch i x h:=by omega
theorem alW {x:Int} (hx:x∈lY I s v.toNat) {w:Nat} (h:n9 (lY I s) (·=x.toNat) w):n9 (lY I s) (·=v.toNat) w :=
 h.mono λu hu=>by subst hu;exact .step (.base rfl) hx
theorem vP.step {L:List Int} {j:Nat} {x:Int} (h:vP I s l v L j l') (hj:L[j]?=some x) (hx:x∈lY I s v.toNat) (k:DL I s l' x l2):vP I s l v L (j+1) l2 where
 le:=(bt.1 hj).1
 len:=k.len.trans h.len
 mono u hu:=k.mono u (h.mono u hu)
 vi:=k.mono _ h.vi
 nw u hu:=by
  rcases k.nw u hu with hu|⟨a,b,c⟩
  ·rcases h.nw u hu with hu|⟨a,b,c⟩
   ·exact .inl hu
   ·exact .inr ⟨a,b,c.imp_right λc y hy=>(c y hy).mono k.mono⟩
  ·exact .inr ⟨a,alW hx b,.inr c⟩
 ch i y hi hy:=by
  by_cases e:i=j
  ·subst e;rw [hj] at hy;cases hy;exact k.vi
  ·exact (h.ch i y (by omega) hy).mono k.mono
theorem vP.fin {L:List Int} {j:Nat} (h:vP I s l v L j l') (hj:L.length<=j) (hL:lY I s v.toNat=L):DL I s l v l' where
 len:=h.len
 mono:=h.mono
 nw u hu:=by
  rcases h.nw u hu with hu|⟨a,b,c⟩
  ·exact .inl hu
  ·refine .inr ⟨a,b,?_⟩
   rcases c with rfl|c
   ·intro x hx
    rw [hL] at hx
    obtain ⟨i,hi⟩:=nG hx
    exact h.ch i x (by have:=(bt.1 hi).1;omega) hi
   ·exact c
 vi:=.inr h.vi
end
structure uI (I:Nat) (s:eT) (bj:List Int) (N j:Nat) (l:List Bool):Prop where
 le:j<=bj.length
 len:l.length=N
 nw:∀u:Nat,l[u]?=some true->2+I<=u/\n9 (lY I s) (λw=>∃d∈bj,d.toNat=w) u/\∀x∈lY I s u,x4 I l x
 ch:∀i x,i < j->bj[i]?=some x->x4 I l x
theorem uI.start (I:Nat) (s:eT) (bj:List Int) (N:Nat):uI I s bj N 0 (List.replicate N false) where
 le:=cg _
 len:=tT
 nw u h:=by rw [sI] at h;split at h<;>cases h
 ch i x h:=by omega
theorem uI.step {I:Nat} {s:eT} {bj:List Int} {N j:Nat} {l l2:List Bool} {x:Int} (h:uI I s bj N j l) (hj:bj[j]?=some x) (k:DL I s l x l2):uI I s bj N (j+1) l2 where
 le:=(bt.1 hj).1
 len:=k.len.trans h.len
 nw u hu:=by
  rcases k.nw u hu with hu|⟨a,b,c⟩
  ·obtain ⟨a,b,c⟩:=h.nw u hu
   exact ⟨a,b,λy hy=>(c y hy).mono k.mono⟩
  ·exact ⟨a,b.mono λu hu=>.base ⟨x,cB hj,hu.symm⟩,c⟩
 ch i y hi hy:=by
  by_cases e:i=j
  ·subst e;rw [hj] at hy;cases hy;exact k.vi
  ·exact (h.ch i y (by omega) hy).mono k.mono
theorem uI.fin {I:Nat} {gs:List Gate} (G:ca I gs) {s:eT} (hs:oy I gs s) {bj:List Int} {j:Nat} {l:List Bool} (h:uI I s bj (2+I+gs.length) j l) (hj:bj.length<=j) (hd:∀d∈bj,0<=d/\d < 2+I+gs.length) (v:Nat) :
  l[v]?=some true↔(v:Int)∈kX I s bj:=by
 rw [YF G hs hd]
 refine ⟨λhv=>?_,λ⟨h1,h2,h3⟩=>?_⟩
 ·obtain ⟨a,b,_⟩:=h.nw v hv
  have:=(bt.1 hv).1
  rw [h.len] at this
  exact ⟨a,this,b⟩
 ·suffices H:∀{u:Nat},n9 (lY I s) (λw=>∃d∈bj,d.toNat=w) u->2+I<=u->l[u]?=some true from H h3 h1
  intro u hu
  induction hu with
  | base hb =>
   intro hl
   obtain ⟨d,Hu,rfl⟩:=hb
   obtain ⟨i,hi⟩:=nG Hu
   rcases h.ch i d (by have:=(bt.1 hi).1;omega) hi with hc|hc
   ·omega
   ·exact hc
  | @step w x hw hx ih =>
   intro hl
   have Cl:2+I<=w:=by
    unfold lY at hx
    split at hx
    ·cases hx
    ·omega
   have hwm:=ih Cl
   rcases (h.nw w hwm).2.2 x hx with hc|hc
   ·omega
   ·exact hc
def qQ (l:List Bool) (n:Nat):List Int:=((List.range n).filter λv=>l[v]? == some true).map λv:Nat=>(v:Int)
theorem ajv {l:List Bool} {n:Nat} (h:l[n]?=some true):qQ l (n+1)=qQ l n++[(n:Int)]:=by
 unfold qQ
 rw [Ay,yR,qe,MF (by rw [h];rfl)];rfl
theorem ajX {l:List Bool} {n:Nat} (h:l[n]?=some false):qQ l (n+1)=qQ l n:=by
 unfold qQ
 rw [Ay,yR,qe,Rh (by rw [h];decide)]
 exact Ax _
theorem ajw {l:List Bool} {n:Nat} {x:Int}:x∈qQ l n↔∃v:Nat,x=v/\v < n/\l[v]?=some true:=by
 unfold qQ
 rw [jS]
 refine ⟨λ⟨v,hv,e⟩=>?_,λ⟨v,e,h1,h2⟩=>⟨v,?_,e.symm⟩⟩
 ·obtain ⟨a,b⟩:=mW.1 hv
  exact ⟨v,e.symm,mX.1 a,by simpa using b⟩
 ·exact mW.2 ⟨mX.2 h1,by rw [h2];rfl⟩
theorem ajx (l:List Bool) (n:Nat):dM (qQ l n):=by
 unfold qQ dM
 rw [rJ]
 exact (C6.filter _).imp λh=>by omega
theorem Yo (l:List Bool):∀n,(qQ l n).length<=n
 | 0=>fq _
 | n+1=>by
  unfold qQ
  rw [iR]
  exact oR (FD _ _) (Nat.le_of_eq IT)
theorem ai8 {I:Nat} {s:eT} {bj:List Int} {l:List Bool} {n:Nat} (hn:l.length<=n) (h:∀v:Nat,l[v]?=some true↔(v:Int)∈kX I s bj):qQ l n=kX I s bj :=
 (ajx l n).ext (YG I s bj) λu=>by
  rw [ajw]
  constructor
  ·rintro ⟨v,rfl,_,hv⟩
   exact (h v).1 hv
  ·intro hu
   have e:=YH hu
   refine ⟨u.toNat,e.symm,?_,(h _).2 (by rw [e];exact hu)⟩
   have:=(bt.1 ((h u.toNat).2 (by rw [e];exact hu))).1
   omega
structure as4 where
 n:Net
 s:eT
 l:List Bool
 v:Int
def afd (n:Net) (s:eT) (l:List Bool):List Slot:=[.fix 48 (jr n),.fix 41 [.own 2],.dyn 4 1 fB (λ_=>l),.fix 320 [.dU (OZ n s) 0],.fix 187 [.fn (.func 182) [] [.ptr 0 0,.ptr 1 0,.ptr 3 0,.ptr 4 0]]]
structure Pd (n:Net) (s:eT) (l:List Bool) (v:Int):Prop where
 G:ca n.ins.length n.aT
 s:oy n.ins.length n.aT s
 l:l.length=2+n.ins.length+n.aT.length
 v0:0<=v
 v1:v < 2+n.ins.length+n.aT.length
@[reducible] noncomputable def WC (k:Nat):pC where
 α:=as4
 args x:=[.i .i64 (λ_=>x.v),.ptr 0 0,.ptr 1 0,.ptr 3 0,.ptr 4 0]
 io x:=afd x.n x.s x.l
 pre x:=Pd x.n x.s x.l x.v/\x.v.toNat<=k
 β:=List Bool
 post x y:=DL x.n.ins.length x.s x.l x.v y
 mv:=[]
 res x y:=.cS []
 mM x y:=afd x.n x.s y
noncomputable def cNe (n m:Nat):Ctx:=dH n m [(182,Tryz.f182)] [] [182]
theorem ad3 (n m:Nat):CB PP (cNe n m):=dK n m ⟨fo Tryz.func182,trivial⟩ trivial
theorem abH (k:Nat) (ih:∀m,m+1=k->nT PP 182 (WC m)):nT PP 182 (WC k):=by
 refine tl (ad3 0 0) (fo Tryz.func182) (λa y=>rfl) (λa=>⟨rfl,rfl⟩) .nil ?_
 rintro ⟨⟨ins,gs,outs,dr⟩,⟨LL,CC,FF⟩,l,v⟩ hx
 obtain ⟨⟨G,hs,hl,ib,nB⟩,hvk⟩:Pd ⟨ins,gs,outs,dr⟩ ⟨LL,CC,FF⟩ l v/\v.toNat<=k:=hx
 have G:ca ins.length gs:=G
 have hs:oy ins.length gs ⟨LL,CC,FF⟩:=hs
 have hl:l.length=2+ins.length+gs.length:=hl
 have nB:v < 2+(ins.length:Int)+gs.length:=nB
 have hF:FF.length=2+ins.length+gs.length:=hs.q9
 have hb:=G.k8
 have hw:IntKind.i64.wrap (2+(ins.length:Int))=2+ins.length:=dt (by omega) (by omega)
 obtain ⟨T,hT⟩:∃T:Int,2+(ins.length:Int)=T:=⟨_,rfl⟩
 have il:v.toNat < l.length:=by omega
 have Lb:v.toNat < FF.length:=by omega
 obtain ⟨b,Cd⟩:=bO il
 obtain ⟨L,hL⟩:=bO Lb
 have HT:T<=v->lY ins.length ⟨LL,CC,FF⟩ v.toNat=L:=λh=>by
  unfold lY
  rw [if_neg (by omega),List.getD_eq_getElem?_getD,hL];rfl
 have qE:=Tk G hs v.toNat
 have P4:T<=v->∀x∈L,0<=x/\x < v:=λh x hx=>by
  have:=qE x (by rw [HT h];exact hx);omega
 have yz:L.length<=600\/v < T:=by
  by_cases h:T<=v
  ·left
   obtain ⟨g,hg⟩:=bO (l:=gs) (i:=v.toNat - 2 - ins.length) (by omega)
   have:=hs.lf (v.toNat - 2 - ins.length) L g (by rw [show 2+ins.length+(v.toNat - 2 - ins.length)=v.toNat by omega];exact hL) hg
   split at this
   ·rw [this];have:=(xF g).2;omega
   ·have:=this.2.1;omega
  ·right;omega
 have cO:0<=v/\l[v.toNat]?=some b:=⟨ib,Cd⟩
 have afe:0<=v/\v.toNat < l.length:=⟨ib,il⟩
 have hfv:0<=v/\FF[v.toNat]?=some L:=⟨ib,hL⟩
 have acO:v < T\/b=true->DL ins.length ⟨LL,CC,FF⟩ l v l:=λh=>.known (h.imp (λh=>by omega) λh=>by rw [<-h];exact Cd)
 obtain ⟨l1,iW⟩:∃l1,l.set v.toNat true=l1:=⟨_,rfl⟩
 have Cc:T<=v->vP ins.length ⟨LL,CC,FF⟩ l v L 0 l1:=λh=>iW ▸ vP.start (by omega) il L
 have hw:=hw.trans hT
 have eZ:T<=v->lY ins.length ⟨LL,CC,FF⟩ v.toNat=L/\(∀x∈L,0<=x/\x < v)/\vP ins.length ⟨LL,CC,FF⟩ l v L 0 l1/\L.length<=600/\(∀x∈L,x∈lY ins.length ⟨LL,CC,FF⟩ v.toNat)/\∃m,m+1=k:=λh =>
  ⟨HT h,P4 h,Cc h,yz.resolve_right (by omega),λx hx=>by rw [HT h];exact hx,k - 1,by omega⟩
 clear HT P4 Cc yz qE
 refine ⟨?_⟩
 cbv
 refine ⟨λh=>?_,λh=>?_⟩
 ·have aP:dw v (IntKind.i64.wrap (2+(ins.length:Int)))=true:=h.out
  rw [hw] at aP
  have aP:v < T:=by simpa [dw] using aP
  have cb:=acO (.inl aP)
  cbv
  exact ⟨l,[],[],⟨by exact cj,trivial⟩,by exact aM,⟨cb⟩⟩
 have cG:dw v (IntKind.i64.wrap (2+(ins.length:Int)))=false:=h.out
 rw [hw] at cG
 have cG:T<=v:=by
     have h':¬v < T:=by simpa [dw] using cG
     exact C0.1 h'
 obtain ⟨HT,P4,Cc,yz,yA,m,lX⟩:=eZ cG
 have ih:=ih m lX
 clear h
 cbv
 refine ⟨⟨afe⟩,?_⟩
 cbv
 refine ⟨b,⟨Cd,rfl⟩,?_⟩
 cbv
 refine ⟨λh=>?_,λh=>?_⟩
 ·have mh:b=true:=h.out
  have cb:=acO (.inr mh)
  cbv
  exact ⟨l,[],[],⟨by exact cj,trivial⟩,by exact aM,⟨cb⟩⟩
 clear h
 cbv
 refine ⟨⟨afe⟩,?_⟩
 cbv
 refine ⟨(b,true),⟨Cd,rfl,by exact cj⟩,?_⟩
 cbv
 refine ⟨L,⟨hfv⟩,?_⟩
 cbv
 refine Sat.dq (ad3 0 0) 6 5 [] (λy:Nat × List Bool=>[(29,.sl 1 bP (λ_=>L)),(30,.i .i64 (λ_=>(L.length:Int))),(31,.i .i64 (λ_=>(y.1:Int)))]) (λy=>[(2,.dyn 4 1 fB (λ_=>y.2))]) (λy=>vP ins.length ⟨LL,CC,FF⟩ l v L y.1 y.2) (λy=>L.length - y.1) (0,l1) (by exact aM) (by have fc:=iW;exact bh) Cc ?_
 rintro ⟨j,l2⟩ hJ
 have hJ:vP ins.length ⟨LL,CC,FF⟩ l v L j l2:=hJ
 have eo:=hJ.le
 have nk:l2.length=2+ins.length+gs.length:=hJ.len.trans hl
 have iM:=n0 j
 have j3:=dC (i:=j) (by omega)
 cbv
 refine ⟨λh=>?_,λh=>?_⟩
 rotate_left
 ·have O6:L.length<=j:=aH
  have cb:=hJ.fin O6 HT
  cbv
  exact ⟨l2,[],[],⟨by exact cj,trivial⟩,by exact aM,⟨cb⟩⟩
 have wP:j < L.length:=aH
 have bZ:L.length - (j+1) < L.length - j:=by omega
 refine (bO wP).elim λx hx=>?_
 have pb:=cB hx
 have jc:=P4 x pb
 have eD:Pd ⟨ins,gs,outs,dr⟩ ⟨LL,CC,FF⟩ l2 x/\x.toNat<=m:=⟨⟨G,hs,nk,jc.1,Int.lt_trans jc.2 nB⟩,by have:=jc.1;have:=jc.2;omega⟩
 have EN:=yA x pb
 clear h
 cbv
 refine ⟨x,⟨iM,hx⟩,?_⟩
 cbv
 refine gw.vL ih (λa y=>trivial) ⟨⟨ins,gs,outs,dr⟩,⟨LL,CC,FF⟩,l2,x⟩ [0,1,2,3,4] rfl (by exact bp) (by exact aM) ⟨eD⟩ λy hy=>?_
 have bS:=hJ.step hx EN hy.out
 cbv
 exact ⟨(j+1,y),by have bH:=j3;exact bh,by exact aM,⟨⟨bS,bZ⟩⟩⟩
theorem ad4:∀k,nT PP 182 (WC k)
 | 0=>abH 0 λm h=>by omega
 | k+1=>abH (k+1) λm h=>by
  cases Nat.succ.inj h
  exact ad4 k
@[reducible] noncomputable def aff:Vc.Spec where
 α:=List Int
 args x:=[.sl 1 bP (λ_=>x)]
 pre x:=x.length<=1000000
 res x:=.sl 1 bP (λ_=>x)
noncomputable def as5 (n m:Nat):Ctx:=dH n m [] [] [] [] [] [35]
theorem aoB (n m:Nat):CB PP (as5 n m):=dK n m trivial trivial
theorem aoC:cR (PP ()) 146 aff:=by
 refine et (aoB 0 0) (fo Tryz.func146) (λa=>⟨λx=>(df x).1,trivial⟩) (λa=>λx=>(df x).1) ?_
 intro l hx
 have hl:l.length<=1000000:=hx
 have b1:l.length*8<=140737488355328:=by omega
 have b2:l.length<=9223372036854775807:=by omega
 have b3:(0+l.length)*8<=140737488355328:=by omega
 have b4:0+l.length<=9223372036854775807:=by omega
 refine ⟨?_⟩
 cbv
 refine ⟨λh=>?_,?_⟩
 ·have hn:l=[]:=by
   have h':=h.out
   simpa using h'
  subst hn
  cbv
  exact ⟨by exact bp⟩
 refine ⟨l,⟨by exact cj,b3,b4⟩,?_⟩
 cbv
 exact ⟨by exact bp⟩
end Go.Proofs.Pk
