import Derived.Test.YthnhbemmlfaihaaGreatO13
import Derived.Test.YthnhbemmlfaihaaGreatO14
set_option linter.unusedVariables false
set_option linter.unusedSimpArgs false
set_option maxRecDepth 10000
set_option maxHeartbeats 64000000
namespace Go.Proofs.Pk
open Go Go.Vc
def Ms (w:eH) (lo hi:Int):Prop:=lo<=w.kind/\w.kind<=hi/\0<=w.i/\0<=w.bit/\w.bit<=7
structure Q3 (lim:Int) (g:Gate):Prop where
 op:1<=g.op/\g.op<=7
 a:0<=g.a/\g.a < lim
 b:0<=g.b/\g.b < lim
 c:0<=g.c/\g.c < lim
 n:0<=g.n/\g.n < 64
structure abn (n:Net):Prop where
 j6:2+n.ins.length+n.aY.length<=600
 ins:∀w∈n.ins,Ms w 1 4/\w.i<=31
 aY:∀(i:Nat) (g:Gate),n.aY[i]?=some g->Q3 (2+n.ins.length+i) g
 outs:∀w∈n.outs,Ms w 1 10/\(w.kind=1\/5<=w.kind)
 ind:n.ins.Nodup
 azg:n.outs.Nodup
 yG:∀w:eH,w.kind=1->(w∈n.ins↔w∈n.outs)
 Sy:n.bj.length=n.outs.length
 bj:∀d∈n.bj,0<=d/\d < 2+n.ins.length+n.aY.length
structure Q4 (lim:Int) (c:Cell):Prop where
 ins:∀s∈c.ins,0<=s/\s < lim
 A3:c.eI=-1/\c.ins.length<=4/\0<=c.table/\c.table < 2^(2^c.ins.length)\/0<=c.eI/\c.eI<=63/\c.ins.length=3/\c.table=0
structure abo (n:Net) (m:dK):Prop where
 ni:m.n=n.ins.length
 gl:m.cells.length<=n.aY.length
 cells:∀(i:Nat) (c:Cell),m.cells[i]?=some c->Q4 (2+n.ins.length+i) c
 Sy:m.bj.length=n.outs.length
 bj:∀d∈m.bj,0<=d/\d < 2+n.ins.length+m.cells.length
def eP.sigs (p:eP):Int:=p.ins.length+2*p.blocks.length
def oC (n:Nat) (s:Int):Nat:=((s - n) / 2).toNat
def ur (n:Nat) (s:Int):Prop:=(s - n) % 2=1
structure EL (p:eP) (s:Int):Prop where
 lo:0<=s
 hi:s < p.sigs
 flip:(p.ins.length:Int)<=s->ur p.ins.length s->∃x,p.blocks[oC p.ins.length s]?=some x/\0<=x.dg
structure Q5 (x:Block):Prop where
 k:x.ins.length<=4
 eI:-1<=x.eI/\x.eI<=63
 dg:-1<=x.dg/\x.dg<=255
 table:0<=x.table/\x.table < 2^(2^x.ins.length)
 read:0<=x.eI->x.dg=-1/\x.ins.length<=3/\x.table=0
structure Shape (p:eP):Prop where
 gl:p.blocks.length<=600
 Sy:p.bj.length=p.outs.length
 bj:∀s∈p.bj,EL p s
 ins:∀w∈p.ins,Ms w 2 4
 outs:∀w∈p.outs,Ms w 5 10
 formed:∀x∈p.blocks,Q5 x
 used:∀x∈p.blocks,∀s∈x.ins,EL p s
 yG:∀(i j:Nat) (x y:Block),p.blocks[i]?=some x->p.blocks[j]?=some y->0<=x.dg->x.dg=y.dg->i=j
def LW (p:eP) (r:Nat->Nat):Prop:=∀(b:Nat) (x:Block),p.blocks[b]?=some x->∀s∈x.ins,(p.ins.length:Int)<=s->¬ur p.ins.length s->r (oC p.ins.length s) < r b
structure PK where
 parts:List Part
 cells:List Source
 n0:Bool
 n1:Bool
 vI:Int->Option Int
def CV (w:eH):List Int:=[w.kind,w.i,w.bit]
def jA {K:Type} [DecidableEq K] (m:K->Option Int) (k:K) (v:Int):K->Option Int:=λj=>if j=k then some v else m j
def others (l:List eH):List eH:=l.filter (λw=>w.kind≠1)
def alv (l:List eH):List Int->Option Int:=(l.foldl (λ(st:(List Int->Option Int) × Int) w=>if w.kind=1 then st else (jA st.1 (CV w) st.2,st.2+1)) (λ_=>none,0)).1
def RG (w:eH):Int:=8*w.i+w.bit
def RH (ins:List eH) (cells:List Source) (sig:Int):Source :=
 if sig < 2 then ⟨3,sig⟩
 else if sig - 2 < ins.length then
  let w:=ins.getD (sig - 2).toNat ⟨0,0,0⟩
  if w.kind=1 then ⟨1,RG w⟩ else ⟨0,(alv ins (CV w)).getD 0⟩
 else cells.getD (sig - 2 - ins.length).toNat ⟨0,0⟩
def PK.add (k:PK) (x:Part):PK:={ k with parts:=k.parts++[x],vI:=if 0<=x.dg then jA k.vI x.dg k.parts.length else k.vI }
def PK.here (k:PK):Source:=⟨2,k.parts.length⟩
def Z6:List Source->List Source
 | []=>[]
 | s :: r=>if s=⟨3,0⟩ then Z6 r else s :: r
def strip (eI:Int) (l:List Source):List Source:=if 0<=eI then (Z6 l.reverse).reverse else l
def ao2 (c:Cell) (l:List Source) (x:Part):Bool:=x.table == c.table&&x.eI == c.eI&&x.ins == l
def abp (v:Int) (l:List Source):Bool:=l.any λs=>s.kind == 3&&s.n == v
def ans (ins:List eH) (k:PK) (c:Cell):PK :=
 let l:=strip c.eI (c.ins.map (RH ins k.cells))
 match k.parts.findIdx? (ao2 c l) with
 | some i=>{ k with cells:=k.cells++[⟨2,i⟩] }
 | none=>{ (k.add ⟨l,c.table,c.eI,-1⟩) with cells:=k.cells++[k.here],n0:=k.n0||abp 0 l,n1:=k.n1||abp 1 l }
def alw (l:List Part) (i:Nat) (code:Int):List Part:=l.modify i λx=>{ x with dg:=code }
def ah3 (k:PK) (s:Source) (code:Int):PK :=
 if s.kind=3 then k.add ⟨[],s.n,-1,code⟩
 else if s.kind=2/\(k.parts.getD s.n.toNat ⟨[],0,0,0⟩).eI < 0/\(k.parts.getD s.n.toNat ⟨[],0,0,0⟩).dg < 0 then
  { k with parts:=alw k.parts s.n.toNat code,vI:=jA k.vI code s.n }
 else k.add ⟨[s],2,-1,code⟩
def ao3 (ins:List eH) (k:PK) (wd:eH × Int):PK :=
 if wd.1.kind=1 then ah3 k (RH ins k.cells wd.2) (RG wd.1)
 else { k with n0:=k.n0||wd.2 == 0,n1:=k.n1||wd.2 == 1 }
def Z7 (k:PK) (v:Int) (b:Bool):PK:=if b then k.add ⟨[],v,-1,-1⟩ else k
structure TH where
 k:PK
 bj:List Source
 T6:List Int->Option Source
def acs (s:Source):List Int:=[s.kind,s.n]
def ao4 (ins:List eH) (t:TH) (wd:eH × Int):TH :=
 if wd.1.kind=1 then t
 else
  let s:=RH ins t.k.cells wd.2
  if s.kind=0 then match t.T6 (acs s) with
   | some u=>{ t with bj:=t.bj++[u] }
   | none=>{ k:=t.k.add ⟨[s],2,-1,-1⟩,bj:=t.bj++[t.k.here],T6:=λj=>if j=acs s then some t.k.here else t.T6 j }
  else { t with bj:=t.bj++[s] }
structure Sz where
 c0:Int
 c1:Int
 t:TH
def ant (n:Net) (m:dK):Sz :=
 let k1:=m.cells.foldl (ans n.ins) ⟨[],[],false,false,λ_=>none⟩
 let wd:=n.outs.zip m.bj
 let k2:=wd.foldl (ao3 n.ins) k1
 let k3:=Z7 k2 0 k2.n0
 let k4:=Z7 k3 1 k2.n1
 ⟨if k2.n0 then k2.parts.length else 0,if k2.n1 then k3.parts.length else 0,wd.foldl (ao4 n.ins) ⟨k4,[],λ_=>none⟩⟩
def acu (first:Int) (d:Sz) (s:Source):Int :=
 if s.kind=1 then first+2*(d.t.k.vI s.n).getD 0+1
 else if s.kind=2 then first+2*s.n
 else if s.kind=3 then first+2*(if s.n=0 then d.c0 else d.c1)
 else s.n
def alx (first:Int) (d:Sz) (x:Part):Block:=⟨x.ins.map (acu first d),x.table,x.eI,x.dg,0⟩
def acv (n:Net) (m:dK):eP :=
 let ins:=others n.ins
 let d:=ant n m
 ⟨ins,d.t.k.parts.map (alx ins.length d),others n.outs,d.t.bj.map (acu ins.length d)⟩
def HU (ins:List eH) (np:Nat) (s:Source):Prop :=
 s.kind=0/\0<=s.n/\s.n < (others ins).length\/s.kind=1/\(∃w∈ins,w.kind=1/\s.n=RG w)\/s.kind=2/\0<=s.n/\s.n < np\/s.kind=3/\(s.n=0\/s.n=1)
theorem HU.mono {ins:List eH} {a b:Nat} {s:Source} (h:HU ins a s) (gI:a<=b):HU ins b s:=by
 rcases h with h|h|h|h
 ·exact .inl h
 ·exact .inr (.inl h)
 ·exact .inr (.inr (.inl ⟨h.1,h.2.1,by omega⟩))
 ·exact .inr (.inr (.inr h))
structure Z8 (x:Part):Prop where
 k:x.ins.length<=4
 eI:-1<=x.eI/\x.eI<=63
 dg:-1<=x.dg/\x.dg<=255
 table:0<=x.table/\x.table < 2^(2^x.ins.length)
 read:0<=x.eI->x.dg=-1/\x.ins.length<=3/\x.table=0
structure SA (ins:List eH) (nc:Nat) (k:PK):Prop where
 nc:k.cells.length=nc
 cells:∀s∈k.cells,s.kind=2/\0<=s.n/\s.n < k.parts.length
 src:∀(b:Nat) (x:Part),k.parts[b]?=some x->Z8 x/\∀s∈x.ins,HU ins b s
 lY:∀x∈k.parts,∀s∈x.ins,s.kind=3->(s.n=0->k.n0=true)/\(s.n=1->k.n1=true)
 vI:∀(b:Nat) (x:Part),k.parts[b]?=some x->0<=x.dg->k.vI x.dg=some b
 back:∀c v,k.vI c=some v->∃b:Nat,v=b/\∃x,k.parts[b]?=some x/\x.dg=c/\0<=c
theorem SA.add {ins:List eH} {nc:Nat} {k:PK} (h:SA ins nc k) {x:Part} (hx:Z8 x) (hs:∀s∈x.ins,HU ins k.parts.length s) {a b:Bool} (ha:k.n0=true->a=true) (hb:k.n1=true->b=true)
  (hn:∀s∈x.ins,s.kind=3->(s.n=0->a=true)/\(s.n=1->b=true)) (hf:0<=x.dg->k.vI x.dg=none):SA ins nc { (k.add x) with n0:=a,n1:=b }:=by
 have uA:∀(i:Nat) (y:Part),(k.parts++[x])[i]?=some y->(k.parts[i]?=some y)\/(i=k.parts.length/\y=x):=by
  intro i y hy
  rw [wN] at hy
  split at hy
  ·exact .inl hy
  ·rename_i aO
   have hi:i - k.parts.length=0:=by
    have:=(a7.1 hy).1
    simp at this;omega
   rw [hi] at hy
   simp at hy
   exact .inr ⟨by omega,hy.symm⟩
 refine ⟨h.nc,λs tx=>?_,λi y hy=>?_,λy hy s tx hk=>?_,λi y hy hr=>?_,λc v sr=>?_⟩
 ·have:=h.cells s tx
  simp only [PK.add,List.length_append,sZ]
  exact ⟨this.1,this.2.1,by push_cast;omega⟩
 ·rcases uA i y hy with hy|⟨rfl,rfl⟩
  ·exact h.src i y hy
  ·exact ⟨hx,hs⟩
 ·simp only [PK.add,dD,gD] at hy
  rcases hy with hy|rfl
  ·have:=h.lY y hy s tx hk
   exact ⟨λe=>ha (this.1 e),λe=>hb (this.2 e)⟩
  ·exact hn s tx hk
 ·simp only [PK.add]
  rcases uA i y hy with hy|⟨rfl,rfl⟩
  ·have:=h.vI i y hy hr
   split
   ·rename_i kE
    have bO:y.dg≠x.dg:=λe=>by rw [e,hf kE] at this;cases this
    simp [jA,bO,this]
   ·exact this
  ·rw [if_pos hr];simp [jA]
 ·simp only [PK.add] at sr ⊢
  split at sr
  ·rename_i kE
   simp only [jA] at sr
   split at sr
   ·rename_i e
    cases sr
    exact ⟨k.parts.length,rfl,x,by simp,e.symm,by rw [e];exact kE⟩
   ·obtain ⟨b',h1,y,h2,h3⟩:=h.back c v sr
    exact ⟨b',h1,y,by rw [ka (a7.1 h2).1];exact h2,h3⟩
  ·obtain ⟨b',h1,y,h2,h3⟩:=h.back c v sr
   exact ⟨b',h1,y,by rw [ka (a7.1 h2).1];exact h2,h3⟩
structure Sc where
 yG:List Int
 EZ:List Int
 AH:List (Int × Int)
 data:Bool
def okW (w:Int):Prop:=1<=w/\w<=8
structure ao5 (sc:Sc):Prop where
 yG:∀w∈sc.yG,okW w
 EZ:∀w∈sc.EZ,okW w
 AH:∀m∈sc.AH,okW m.1
inductive WT (sc:Sc):Nat->Int->Expr->Prop
 | const {n:Nat} {w k:Int}:okW w->WT sc (n+1) w (.mk 1 k w [])
 | dg {n:Nat} {w:Int} (i:Nat):sc.yG[i]?=some w->WT sc (n+1) w (.mk 16 i 0 [])
 | data {n:Nat} {w:Int} (i:Nat):sc.data=true->sc.EZ[i]?=some w->WT sc (n+1) w (.mk 18 i 0 [])
 | not {n:Nat} {w:Int} {a:Expr}:WT sc n w a->WT sc (n+1) w (.mk 2 0 0 [a])
 | two {n:Nat} {w op:Int} {a b:Expr}:3<=op->op<=7->WT sc n w a->WT sc n w b->WT sc (n+1) w (.mk op 0 0 [a,b])
 | cmp {n:Nat} {v op:Int} {a b:Expr}:8<=op->op<=9->WT sc n v a->WT sc n v b->WT sc (n+1) 1 (.mk op 0 0 [a,b])
 | Dl {n:Nat} {w:Int} {c a b:Expr}:WT sc n 1 c->WT sc n w a->WT sc n w b->WT sc (n+1) w (.mk 10 0 0 [c,a,b])
 | cat {n:Nat} {v w:Int} {a b:Expr}:w=v+1->okW w->WT sc n v a->WT sc n 1 b->WT sc (n+1) w (.mk 11 0 0 [a,b])
 | slice {n:Nat} {v w k:Int} {a:Expr}:0<=k->k+w<=v->okW w->WT sc n v a->WT sc (n+1) w (.mk 12 k w [a])
 | ext {n:Nat} {v w:Int} {a:Expr}:v<=w->okW w->WT sc n v a->WT sc (n+1) w (.mk 13 0 w [a])
 | read {n:Nat} {v w words:Int} (i:Nat) {a:Expr}:sc.AH[i]?=some (w,words)->WT sc n v a->WT sc (n+1) w (.mk 17 i 0 [a])
theorem WT.wide {sc:Sc} (hs:ao5 sc):∀{n:Nat} {w:Int} {e:Expr},WT sc n w e->okW w
 | _,_,_,.const h=>h
 | _,_,_,.dg i h=>hs.yG _ (cf h)
 | _,_,_,.data i _ h=>hs.EZ _ (cf h)
 | _,_,_,.not h=>h.wide hs
 | _,_,_,.two _ _ h _=>h.wide hs
 | _,_,_,.cmp _ _ _ _=>⟨by omega,by omega⟩
 | _,_,_,.Dl _ h _=>h.wide hs
 | _,_,_,.cat _ h _ _=>h
 | _,_,_,.slice _ _ h _=>h
 | _,_,_,.ext _ h _=>h
 | _,_,_,.read i h _=>hs.AH _ (cf h)
theorem WT.up {sc:Sc}:∀{n:Nat} {w:Int} {e:Expr},WT sc n w e->WT sc (n+1) w e
 | _,_,_,.const h=>.const h
 | _,_,_,.dg i h=>.dg i h
 | _,_,_,.data i h1 h=>.data i h1 h
 | _,_,_,.not h=>.not h.up
 | _,_,_,.two a b h1 h2=>.two a b h1.up h2.up
 | _,_,_,.cmp a b h1 h2=>.cmp a b h1.up h2.up
 | _,_,_,.Dl h1 h2 h3=>.Dl h1.up h2.up h3.up
 | _,_,_,.cat a b h1 h2=>.cat a b h1.up h2.up
 | _,_,_,.slice a b c h=>.slice a b c h.up
 | _,_,_,.ext a b h=>.ext a b h.up
 | _,_,_,.read i h h2=>.read i h h2.up
theorem WT.more {sc Jp:Sc} (hr:Jp.yG=sc.yG) (hm:Jp.AH=sc.AH) (ht:sc.data=true->Jp.data=true/\Jp.EZ=sc.EZ):∀{n:Nat} {w:Int} {e:Expr},WT sc n w e->WT Jp n w e
 | _,_,_,.const h=>.const h
 | _,_,_,.dg i h=>.dg i (by rw [hr];exact h)
 | _,_,_,.data i h1 h=>.data i (ht h1).1 (by rw [(ht h1).2];exact h)
 | _,_,_,.not h=>.not (h.more hr hm ht)
 | _,_,_,.two a b h1 h2=>.two a b (h1.more hr hm ht) (h2.more hr hm ht)
 | _,_,_,.cmp a b h1 h2=>.cmp a b (h1.more hr hm ht) (h2.more hr hm ht)
 | _,_,_,.Dl h1 h2 h3=>.Dl (h1.more hr hm ht) (h2.more hr hm ht) (h3.more hr hm ht)
 | _,_,_,.cat a b h1 h2=>.cat a b (h1.more hr hm ht) (h2.more hr hm ht)
 | _,_,_,.slice a b c h=>.slice a b c (h.more hr hm ht)
 | _,_,_,.ext a b h=>.ext a b (h.more hr hm ht)
 | _,_,_,.read i h h2=>.read i (by rw [hm];exact h) (h2.more hr hm ht)
def A6 (sc:Sc) (n:Nat):List Int->List Expr->Prop
 | [],[]=>True
 | w :: ws,e :: es=>WT sc n w e/\A6 sc n ws es
 | _,_=>False
theorem WT.args {sc:Sc}:∀{n:Nat} {w:Int} {e:Expr},WT sc (n+1) w e->∃ws,A6 sc n ws e.args
 | _,_,_,.const h=>⟨[],trivial⟩
 | _,_,_,.dg i h=>⟨[],trivial⟩
 | _,_,_,.data i h1 h=>⟨[],trivial⟩
 | _,_,_,.not h=>⟨[_],h,trivial⟩
 | _,_,_,.two a b h1 h2=>⟨[_,_],h1,h2,trivial⟩
 | _,_,_,.cmp a b h1 h2=>⟨[_,_],h1,h2,trivial⟩
 | _,_,_,.Dl h1 h2 h3=>⟨[_,_,_],h1,h2,h3,trivial⟩
 | _,_,_,.cat a b h1 h2=>⟨[_,_],h1,h2,trivial⟩
 | _,_,_,.slice a b c h=>⟨[_],h,trivial⟩
 | _,_,_,.ext a b h=>⟨[_],h,trivial⟩
 | _,_,_,.read i h h2=>⟨[_],h2,trivial⟩
theorem A6.get {sc:Sc} {n:Nat}:∀{ws:List Int} {es:List Expr},A6 sc n ws es->∀(i:Nat) (e:Expr),es[i]?=some e->∃w,ws[i]?=some w/\WT sc n w e
 | [],[],_,i,e,h=>by simp at h
 | w :: ws,x :: es,h,0,e,he=>by simp at he;subst he;exact ⟨w,rfl,h.1⟩
 | w :: ws,x :: es,h,i+1,e,he=>by simpa using A6.get h.2 i e (by simpa using he)
theorem A6.len {sc:Sc} {n:Nat}:∀{ws:List Int} {es:List Expr},A6 sc n ws es->ws.length=es.length
 | [],[],_=>rfl
 | w :: ws,x :: es,h=>by simp [A6.len h.2]
theorem WT.gl {sc:Sc}:∀{n:Nat} {w:Int} {e:Expr},WT sc n w e->e.args.length<=3
 | _,_,_,.const h=>by simp [Expr.args]
 | _,_,_,.dg i h=>by simp [Expr.args]
 | _,_,_,.data i h1 h=>by simp [Expr.args]
 | _,_,_,.not h=>by simp [Expr.args]
 | _,_,_,.two a b h1 h2=>by simp [Expr.args]
 | _,_,_,.cmp a b h1 h2=>by simp [Expr.args]
 | _,_,_,.Dl h1 h2 h3=>by simp [Expr.args]
 | _,_,_,.cat a b h1 h2=>by simp [Expr.args]
 | _,_,_,.slice a b c h=>by simp [Expr.args]
 | _,_,_,.ext a b h=>by simp [Expr.args]
 | _,_,_,.read i h h2=>by simp [Expr.args]
def A7 (ins:Int) (gs:List Gate):Prop:=∀(i:Nat) (g:Gate),gs[i]?=some g->Q3 (2+ins+i) g
def yp (ins:Int) (gs:List Gate) (v:Int):Prop:=0<=v/\v < 2+ins+gs.length
theorem yp.mono {ins:Int} {gs gs':List Gate} {v:Int} (h:yp ins gs v) (hl:gs.length<=gs'.length):yp ins gs' v:=⟨h.1,by have:=h.2;omega⟩
theorem A7.nil (ins:Int):A7 ins []:=λi g h=>by simp at h
theorem A7.add {ins:Int} {gs:List Gate} (h:A7 ins gs) {g:Gate} (hg:Q3 (2+ins+gs.length) g):A7 ins (gs++[g]):=by
 intro i x hx
 rw [wN] at hx
 split at hx
 ·exact h i x hx
 ·rename_i aO
  have hi:i - gs.length=0:=by
   have:=(a7.1 hx).1
   simp at this;omega
  rw [hi] at hx
  simp at hx
  subst hx
  have:(i:Int)=gs.length:=by omega
  rw [this];exact hg
def HV (w:eH):Int :=
 if w.kind=1 then 16*w.i+w.bit
 else if w.kind=2 then 1000+32*w.i+w.bit
 else if w.kind=3 then 1000+32*w.i+16
 else if w.kind=4 then 2000+w.i
 else if w.kind=5 then 1000+w.i
 else if w.kind=6 then 2000+32*w.i
 else if w.kind=7 then 2000+32*w.i+16+w.bit
 else 3000+64*w.i+16*(w.kind - 8)+w.bit
def xA (c:Int) (l:List eH):Prop:=l.Pairwise (λa b=>HV a < HV b)/\∀w∈l,HV w < c
theorem xA.nil (c:Int):xA c []:=⟨List.Pairwise.nil,by simp⟩
theorem xA.up {c d:Int} {l:List eH} (h:xA c l) (hcd:c<=d):xA d l:=⟨h.1,λw hw=>by have:=h.2 w hw;omega⟩
theorem xA.add {c d:Int} {l:List eH} (h:xA c l) {w:eH} (hc:c<=HV w) (hd:HV w < d):xA d (l++[w]):=by
 refine ⟨?_,λx hx=>?_⟩
 ·rw [jO]
  refine ⟨h.1,by simp,λa ha b hb=>?_⟩
  simp at hb;subst hb
  have:=h.2 a ha
  omega
 ·rcases dD.1 hx with hx|hx
  ·have:=h.2 x hx;omega
  ·simp at hx;subst hx;exact hd
theorem xA.nodup {c:Int} {l:List eH} (h:xA c l):l.Nodup:=by
 rw [WN]
 exact h.1.imp λgI e=>by rw [e] at gI;omega
def ao6 (rw:List Int) (i k:Int) (w:eH):Prop:=0<=w.i/\0<=w.bit/\((w.i < i/\∃W,rw[w.i.toNat]?=some W/\w.bit < W)\/w.i=i/\w.bit < k)
def vD (rw:List Int) (i k:Int) (l:List eH):Prop:=∀w:eH,w.kind=1->(w∈l↔ao6 rw i k w)
theorem vD.nil (rw:List Int):vD rw 0 0 []:=λw _=>⟨λh=>(by simp at h),λ⟨h0,h1,h⟩=>by rcases h with ⟨h,_⟩|⟨_,h⟩<;>omega⟩
theorem vD.bit {rw:List Int} {i k:Int} {l:List eH} (h:vD rw i k l) (h0:0<=i) (h1:0<=k):vD rw i (k+1) (l++[⟨1,i,k⟩]):=by
 intro w hw
 rw [dD,h w hw]
 constructor
 ·rintro (⟨a,b,c⟩|e)
  ·refine ⟨a,b,c.imp id λ⟨x,y⟩=>⟨x,by omega⟩⟩
  ·simp at e;subst e
   exact ⟨h0,h1,.inr ⟨rfl,by simp only;omega⟩⟩
 ·rintro ⟨a,b,c|⟨x,y⟩⟩
  ·exact .inl ⟨a,b,.inl c⟩
  ·by_cases hk:w.bit < k
   ·exact .inl ⟨a,b,.inr ⟨x,hk⟩⟩
   ·right
    have:w.bit=k:=by omega
    cases w
    simp only at *
    subst hw;subst x;subst this
    simp
theorem vD.next {rw:List Int} {i:Nat} {k:Int} {l:List eH} (h:vD rw i k l) (hk:rw[i]?=some k):vD rw (i+1:Nat) 0 l:=by
 intro w hw
 rw [h w hw]
 constructor
 ·rintro ⟨a,b,⟨c,d⟩|⟨c,d⟩⟩
  ·exact ⟨a,b,.inl ⟨by omega,d⟩⟩
  ·refine ⟨a,b,.inl ⟨by omega,k,?_,d⟩⟩
   have:w.i.toNat=i:=by omega
   rw [this];exact hk
 ·rintro ⟨a,b,⟨c,W,d,e⟩|⟨c,d⟩⟩
  ·by_cases hi:w.i < i
   ·exact ⟨a,b,.inl ⟨hi,W,d,e⟩⟩
   ·refine ⟨a,b,.inr ⟨by omega,?_⟩⟩
    have:w.i.toNat=i:=by omega
    rw [this,hk] at d
    cases d
    exact e
  ·omega
theorem vD.other {rw:List Int} {i k:Int} {l:List eH} (h:vD rw i k l) {x:eH} (hx:x.kind≠1):vD rw i k (l++[x]):=by
 intro w hw
 rw [dD,<-h w hw]
 constructor
 ·rintro (e|e)
  ·exact e
  ·simp at e;subst e;exact absurd hw hx
 ·exact .inl
noncomputable def cB0 (n m:Nat):Ctx:=iD n m [] []
theorem pS (n m:Nat):CB PP (cB0 n m):=iH n m trivial trivial
structure RI (ins:Int) (gs:List Gate):Prop where
 ok:A7 ins gs
 ins:0<=ins/\ins<=1000
 len:gs.length<=1000000000
structure NP where
 gs:List Gate
 n:Int
structure xe (ins:Int) (gs:List Gate) (k:Nat) (y:NP):Prop where
 ok:A7 ins y.gs
 lo:gs.length<=y.gs.length
 hi:y.gs.length<=gs.length+k
 n:yp ins y.gs y.n
theorem yp.zero {ins:Int} {gs:List Gate} (h:0<=ins):yp ins gs 0:=⟨by omega,by omega⟩
theorem yp.one {ins:Int} {gs:List Gate} (h:0<=ins):yp ins gs 1:=⟨by omega,by omega⟩
theorem xe.same {ins:Int} {gs:List Gate} {k:Nat} {n:Int} (h:A7 ins gs) (hn:yp ins gs n):xe ins gs k ⟨gs,n⟩:=⟨h,fb _,Nat.le_add_right _ _,hn⟩
theorem xe.more {ins:Int} {gs:List Gate} {k k':Nat} {y:NP} (h:xe ins gs k y) (hk:k<=k'):xe ins gs k' y:=⟨h.ok,h.lo,by have:=h.hi;omega,h.n⟩
theorem xe.trans {ins:Int} {gs:List Gate} {k k':Nat} {y z:NP} (h:xe ins gs k y) (h2:xe ins y.gs k' z):xe ins gs (k+k') z:=⟨h2.ok,by have:=h.lo;have:=h2.lo;omega,by have:=h.hi;have:=h2.hi;omega,h2.n⟩
theorem RI.next {ins:Int} {gs:List Gate} {k:Nat} {z:NP} (h:RI ins gs) (hz:xe ins gs k z) (hl:z.gs.length<=1000000000):RI ins z.gs:=⟨hz.ok,h.ins,hl⟩
def uy:List Int->Nat
 | []=>0
 | x :: r=>(x.toNat+1)+604*uy r
def Small (m:Int) (l:List Int):Prop:=l.length<=4/\∀x∈l,0<=x/\x < m
theorem Xr:∀{l k:List Int},(∀x∈l,0<=x/\x < 603)->(∀x∈k,0<=x/\x < 603)->uy l=uy k->l=k
 | [],[],_,_,_=>rfl
 | [],y :: k,_,_,h=>by simp only [uy] at h;omega
 | x :: l,[],_,_,h=>by simp only [uy] at h;omega
 | x :: l,y :: k,hl,hk,h=>by
  simp only [uy] at h
  have h1:=hl x (by simp)
  have h2:=hk y (by simp)
  have e:uy l=uy k:=by omega
  rw [Xr (λz hz=>hl z (by simp [hz])) (λz hz=>hk z (by simp [hz])) e]
  have:x=y:=by omega
  rw [this]
theorem Yx:∀(l:List Int) (n:Nat),l.length<=n->(∀x∈l,0<=x/\x < 603)->uy l < 604^n
 | [],n,_,_=>by simp only [uy];exact Nat.pow_pos (by decide)
 | x :: l,0,h,_=>by simp at h
 | x :: l,n+1,h,hl=>by
  have h1:=Yx l n (by simpa using h) λz hz=>hl z (by simp [hz])
  have h2:=hl x (by simp)
  simp only [uy]
  rw [Nat.pow_succ]
  omega
theorem K9 {L:List (List Int)} (hn:L.Nodup) (h:∀l∈L,Small 603 l):L.length<=133090713856:=by
 have h1:(L.map uy).Nodup:=by
  induction L with
  | nil=>simp
  | cons x r ih =>
   obtain ⟨a,b⟩:=x5.1 hn
   rw [iG,x5]
   refine ⟨λhm=>?_,ih b λl hl=>h l (by simp [hl])⟩
   obtain ⟨y,hy,e⟩:=iM.1 hm
   have:=Xr (h y (by simp [hy])).2 (h x (by simp)).2 e
   subst this
   exact a hy
 have h2:=BP (l₂:=List.range (604^4)) h1 λc hc=>by
  obtain ⟨y,hy,rfl⟩:=iM.1 hc
  exact mQ.2 (Yx y 4 (h y hy).1 (h y hy).2)
 rw [jP,G6] at h2
 exact h2
def E4 (l:List (List Int)) (x:List Int) (r:List (List Int)):Prop:=r=l\/x∉l/\∃o,o.Sublist l/\r=o++[x]
theorem E4.nodup {l:List (List Int)} {x:List Int} {r:List (List Int)} (h:E4 l x r) (hn:l.Nodup):r.Nodup:=by
 rcases h with rfl|⟨hx,o,ho,rfl⟩
 ·exact hn
 ·rw [KS]
  refine ⟨hn.sublist ho,by simp,λa ha b hb=>?_⟩
  simp at hb;subst hb
  rintro rfl
  exact hx (ho.subset ha)
theorem E4.all {l:List (List Int)} {x:List Int} {r:List (List Int)} (h:E4 l x r) {p:List Int->Prop} (hl:∀y∈l,p y) (hx:p x):∀y∈r,p y:=by
 rcases h with rfl|⟨_,o,ho,rfl⟩
 ·exact hl
 ·intro y hy
  rcases dD.1 hy with hy|hy
  ·exact hl y (ho.subset hy)
  ·simp at hy;subst hy;exact hx
structure LN where
 l:List Int
 n:Int
open Classical in
noncomputable def oE (l:List Int) (n:Int):Bool:=decide (n∈l)
theorem Ex {l:List Int} {n:Int}:oE l n=true↔n∈l:=by simp [oE]
@[reducible] noncomputable def MX:Vc.Spec where
 α:=LN
 args x:=[.sl 1 bC (λ_=>x.l),.i .i64 (λ_=>x.n)]
 pre x:=x.l.length<=1000000000000
 res x:=.b (λ_=>oE x.l x.n)
theorem Q6:dt (PP ()) 245 MX:=by
 refine e6 (pS 0 0) (fo Tryz.func245) (λa=>⟨(λx=>(cP x).1),trivial,trivial⟩) (λa=>trivial) ?_
 rintro ⟨l,n⟩ hx
 have hl:l.length<=1000000000000:=hx
 refine ⟨?_⟩
 cbv
 refine Sat.cU (pS 0 0) 0 4 [] (λi:Nat=>[(5,.i .i64 λ_=>(i:Int))]) (λ_=>[]) (λi=>i<=l.length/\∀j,j < i->l[j]?≠some n) (λi=>l.length - i) 0 (by exact aM) (by exact aM) ⟨by omega,λj hj=>by omega⟩ ?_
 rintro i ⟨hi,dx⟩
 cbv
 refine ⟨λh=>?_,λh=>?_⟩
 ·(have h:=h.out;simp (disch:=exact bT) only [hS] at h)
  have aO:i < l.length:=by exact bT
  have bX:l.length - (i+1) < l.length - i:=by omega
  obtain ⟨x,hx⟩:=bK aO
  have h1:=cX (i:=i) (by omega)
  have h0:=n0 i
  cbv
  refine ⟨x,⟨h0,hx⟩,?_⟩
  cbv
  refine ⟨λh=>?_,λh=>?_⟩
  ·(have h:=h.out;simp (disch:=exact bT) only [hS] at h)
   have hw:oE l n=true:=Ex.2 (by rw [<-h];exact cf hx)
   cbv
   exact ⟨.bc hw.symm⟩
  ·have bO:x≠n:=by have:=h.out;simpa [fk] using this
   cbv
   exact ⟨i+1,by have bD:=h1;exact a8,by exact aM,⟨⟨aO,λj hj=>by
    by_cases l8:j=i
    ·subst l8;rw [hx];simpa using bO
    ·exact dx j (by omega)⟩,bX⟩⟩
 ·(have h:=h.out;simp (disch:=exact bT) only [hS] at h)
  have cz:i=l.length:=by exact bT
  have hw:oE l n=false:=by
   rw [<-Bool.not_eq_true,Ex]
   intro hm
   obtain ⟨j,hj⟩:=lN hm
   have dG:=(a7.1 hj).1
   exact dx j (by omega) hj
  cbv
  exact ⟨.bc hw.symm⟩
structure LL where
 a:List Int
 b:List Int
noncomputable def qX (a b:List Int):Bool:=a.all (oE b)
@[reducible] noncomputable def Zr:Vc.Spec where
 α:=LL
 args x:=[.sl 1 bC (λ_=>x.a),.sl 1 bC (λ_=>x.b)]
 pre x:=x.a.length<=1000000000000/\x.b.length<=1000000000000
 res x:=.b (λ_=>qX x.a x.b)
noncomputable def cWi (n m:Nat):Ctx:=iD n m [] [(245,MX)]
theorem abq (n m:Nat):CB PP (cWi n m):=iH n m trivial ⟨Q6,trivial⟩
theorem ah4:dt (PP ()) 188 Zr:=by
 refine e6 (abq 0 0) (fo Tryz.func188) (λa=>⟨(λx=>(cP x).1),(λx=>(cP x).1),trivial⟩) (λa=>trivial) ?_
 rintro ⟨a,b⟩ hx
 obtain ⟨ha,hb⟩:a.length<=1000000000000/\b.length<=1000000000000:=hx
 refine ⟨?_⟩
 cbv
 refine Sat.cU (abq 0 0) 0 4 [] (λi:Nat=>[(5,.i .i64 λ_=>(i:Int))]) (λ_=>[]) (λi=>i<=a.length/\∀j x,j < i->a[j]?=some x->oE b x=true) (λi=>a.length - i) 0 (by exact aM) (by exact aM) ⟨by omega,λj x hj=>by omega⟩ ?_
 rintro i ⟨hi,dx⟩
 cbv
 refine ⟨λh=>?_,λh=>?_⟩
 ·(have h:=h.out;simp (disch:=exact bT) only [hS] at h)
  have aO:i < a.length:=by exact bT
  have bX:a.length - (i+1) < a.length - i:=by omega
  obtain ⟨x,hx⟩:=bK aO
  have h1:=cX (i:=i) (by omega)
  have h0:=n0 i
  obtain ⟨o,ho⟩:∃o,o=oE b x:=⟨_,rfl⟩
  cbv
  refine ⟨x,⟨h0,hx⟩,?_⟩
  cbv
  refine ⟨⟨b,x⟩,⟨by exact bW,hb⟩,?_⟩
  cbv
  refine ⟨λh=>?_,λh=>?_⟩
  ·have h:=h.out
   have h2:oE b x=false:=by simpa using h
   have hw:qX a b=false:=by
    unfold qX
    rw [<-Bool.not_eq_true,gM]
    intro eG
    rw [eG x (cf hx)] at h2
    cases h2
   cbv
   exact ⟨.bc hw.symm⟩
  ·have h:=h.out
   have h2:oE b x=true:=by simpa using h
   cbv
   exact ⟨i+1,by have bD:=h1;exact a8,by exact aM,⟨⟨aO,λj y hj hy=>by
    by_cases l8:j=i
    ·subst l8;rw [hx] at hy;cases hy;exact h2
    ·exact dx j y (by omega) hy⟩,bX⟩⟩
 ·(have h:=h.out;simp (disch:=exact bT) only [hS] at h)
  have cz:i=a.length:=by exact bT
  have hw:qX a b=true:=by
   unfold qX
   rw [gM]
   intro x hm
   obtain ⟨j,hj⟩:=lN hm
   have dG:=(a7.1 hj).1
   exact dx j x (by omega) hj
  cbv
  exact ⟨.bc hw.symm⟩
structure LsL where
 l:List (List Int)
 x:List Int
noncomputable def ao8 (n m:Nat):Ctx:=iD n m [] [(188,Zr)]
theorem Z9 (n m:Nat):CB PP (ao8 n m):=iH n m trivial ⟨ah4,trivial⟩
structure Yy (a b y:List Int):Prop where
 len:y.length<=a.length+b.length
 mem:∀z∈y,z∈a\/z∈b
structure UG where
 i:Nat
 k:Nat
 o:List Int
structure MY (a b:List Int) (x:UG):Prop where
 i:x.i<=a.length
 k:x.k<=b.length
 len:x.o.length<=x.i+x.k
 mem:∀z∈x.o,z∈a\/z∈b
@[reducible] noncomputable def alz:jT where
 α:=LL
 args x:=[.sl 1 bC (λ_=>x.a),.sl 1 bC (λ_=>x.b)]
 pre x:=x.a.length<=1000000/\x.b.length<=1000000
 β:=List Int
 post x y:=Yy x.a x.b y
 res x y:=.sl 1 bC (λ_=>y)
theorem ajb:kQ PP 123 alz:=by
 refine qZ (pS 0 0) (fo Tryz.func123) (λa=>⟨(λx=>(cP x).1),(λx=>(cP x).1),trivial⟩) (λa y=>(λx=>(cP x).1)) ?_
 rintro ⟨a,b⟩ hx
 obtain ⟨ha,hb⟩:a.length<=1000000/\b.length<=1000000:=hx
 refine ⟨?_⟩
 cbv
 refine Sat.cU (pS 0 0) 1 5 [(.t 5,0)] (λx:UG=>[(5,.own 0),(6,.i .i64 λ_=>(x.i:Int)),(7,.i .i64 λ_=>(x.k:Int))]) (λx=>[(0,.dyn 3 1 bC λ_=>x.o)])
  (λx=>MY a b x) (λx=>(a.length - x.i)+(b.length - x.k)) ⟨0,0,[]⟩ (by exact aM) (by exact aM) ⟨cg _,cg _,cg _,λz hz=>by simp at hz⟩ ?_
 rintro ⟨i,k,o⟩ ⟨hi,hk,hlen,fi⟩
 simp only at hi hk hlen fi
 have cZ:=n0 i
 have gR:=n0 k
 have ei:=cX (i:=i) (by omega)
 have ie:=cX (i:=k) (by omega)
 have GA:∀x,a[i]?=some x->MY a b ⟨i+1,k,o++[x]⟩/\(a.length - (i+1))+(b.length - k) < (a.length - i)+(b.length - k):=λx hx=>by
  have:=(a7.1 hx).1
  refine ⟨⟨this,hk,by simp only [List.length_append,sZ];omega,λz hz=>?_⟩,by omega⟩
  rcases dD.1 hz with hz|hz
  ·exact fi z hz
  ·simp at hz;subst hz;exact .inl (cf hx)
 have GB:∀x,b[k]?=some x->MY a b ⟨i,k+1,o++[x]⟩/\(a.length - i)+(b.length - (k+1)) < (a.length - i)+(b.length - k):=λx hx=>by
  have:=(a7.1 hx).1
  refine ⟨⟨hi,this,by simp only [List.length_append,sZ];omega,λz hz=>?_⟩,by omega⟩
  rcases dD.1 hz with hz|hz
  ·exact fi z hz
  ·simp at hz;subst hz;exact .inr (cf hx)
 have GC:∀x,a[i]?=some x->k < b.length->MY a b ⟨i+1,k+1,o++[x]⟩/\(a.length - (i+1))+(b.length - (k+1)) < (a.length - i)+(b.length - k):=λx hx cT=>by
  have:=(a7.1 hx).1
  refine ⟨⟨this,cT,by simp only [List.length_append,sZ];omega,λz hz=>?_⟩,by omega⟩
  rcases dD.1 hz with hz|hz
  ·exact fi z hz
  ·simp at hz;subst hz;exact .inl (cf hx)
 cbv
 refine ⟨λh=>?_,λh=>?_⟩
 ·(have h:=h.out;simp (disch:=exact bT) only [hS] at h)
  have bQ:i < a.length:=by exact bT
  obtain ⟨x,hx⟩:=bK bQ
  cbv
  refine ⟨λh=>?_,λh=>?_⟩
  ·(have h:=h.out;simp (disch:=exact bT) only [hS] at h)
   cbv
   refine ⟨x,⟨cZ,hx⟩,?_⟩
   cbv
   refine ⟨[x],⟨by exact bW,by show (o.length+1)*8<=_;omega,by show o.length+1<=_;omega⟩,?_⟩
   cbv
   exact ⟨⟨i+1,k,o++[x]⟩,by have bD:=ei;exact a8,by exact aM,⟨GA x hx⟩⟩
  ·(have h:=h.out;simp (disch:=exact bT) only [hS] at h)
   have cT:k < b.length:=by exact bT
   obtain ⟨y,hy⟩:=bK cT
   cbv
   refine ⟨λh=>?_,λh=>?_⟩
   ·cbv
    refine ⟨x,⟨cZ,hx⟩,?_⟩
    cbv
    refine ⟨y,⟨gR,hy⟩,?_⟩
    cbv
    refine ⟨λh=>?_,λh=>?_⟩
    ·skip
     cbv
     refine ⟨x,⟨cZ,hx⟩,?_⟩
     cbv
     refine ⟨[x],⟨by exact bW,by show (o.length+1)*8<=_;omega,by show o.length+1<=_;omega⟩,?_⟩
     cbv
     exact ⟨⟨i+1,k,o++[x]⟩,by have bD:=ei;exact a8,by exact aM,⟨GA x hx⟩⟩
    ·cbv
     refine ⟨λh=>?_,λh=>?_⟩
     ·(have h:=h.out;simp (disch:=exact bT) only [hS] at h)
      exfalso
      exact bT
     ·cbv
      refine ⟨y,⟨gR,hy⟩,?_⟩
      cbv
      refine ⟨x,⟨cZ,hx⟩,?_⟩
      cbv
      refine ⟨λh=>?_,λh=>?_⟩
      ·skip
       cbv
       refine ⟨y,⟨gR,hy⟩,?_⟩
       cbv
       refine ⟨[y],⟨by exact bW,by show (o.length+1)*8<=_;omega,by show o.length+1<=_;omega⟩,?_⟩
       cbv
       exact ⟨⟨i,k+1,o++[y]⟩,by have bD:=ie;exact a8,by exact aM,⟨GB y hy⟩⟩
      ·skip
       cbv
       refine ⟨x,⟨cZ,hx⟩,?_⟩
       cbv
       refine ⟨[x],⟨by exact bW,by show (o.length+1)*8<=_;omega,by show o.length+1<=_;omega⟩,?_⟩
       cbv
       exact ⟨⟨i+1,k+1,o++[x]⟩,by have bD:=ei;have jE:=ie;exact a8,by exact aM,⟨GC x hx cT⟩⟩
   ·(have h:=h.out;simp (disch:=exact bT) only [hS] at h)
    exfalso
    exact bT
 ·(have h:=h.out;simp (disch:=exact bT) only [hS] at h)
  have bQ:¬i < a.length:=by exact bT
  cbv
  refine ⟨λh=>?_,λh=>?_⟩
  ·(have h:=h.out;simp (disch:=exact bT) only [hS] at h)
   have cT:k < b.length:=by exact bT
   obtain ⟨y,hy⟩:=bK cT
   cbv
   refine ⟨λh=>?_,λh=>?_⟩
   ·(have h:=h.out;simp (disch:=exact bT) only [hS] at h)
    exfalso
    exact bT
   ·cbv
    refine ⟨λh=>?_,λh=>?_⟩
    ·(have h:=h.out;simp (disch:=exact bT) only [hS] at h)
     exfalso
     exact bT
    ·cbv
     refine ⟨λh=>?_,λh=>?_⟩
     ·skip
      cbv
      refine ⟨y,⟨gR,hy⟩,?_⟩
      cbv
      refine ⟨[y],⟨by exact bW,by show (o.length+1)*8<=_;omega,by show o.length+1<=_;omega⟩,?_⟩
      cbv
      exact ⟨⟨i,k+1,o++[y]⟩,by have bD:=ie;exact a8,by exact aM,⟨GB y hy⟩⟩
     ·(have h:=h.out;simp (disch:=exact bT) only [hS] at h)
      exfalso
      exact bT
  ·(have h:=h.out;simp (disch:=exact bT) only [hS] at h)
   cbv
   exact .mk' o ⟨by exact bW⟩ ⟨by show o.length<=a.length+b.length;omega,fi⟩
def uV (op:Int):Int:=if op=1 then 1 else if op=2\/op=3\/op=4 then 2 else if op=5\/op=6\/op=7 then 3 else -1
@[reducible] noncomputable def ArS:Vc.Spec where
 α:=Int
 args x:=[.i .i64 (λ_=>x)]
 pre x:=True
 res x:=.i .i64 (λ_=>uV x)
theorem anz:dt (PP ()) 143 ArS:=by
 refine e6 (pS 0 0) (fo Tryz.func143) (λa=>⟨trivial,trivial⟩) (λa=>trivial) ?_
 intro (op:Int) hx
 refine ⟨?_⟩
 cbv
 repeat' (first
  | (refine ⟨λh=>?_,λh=>?_⟩<;>(have h:=h.out;simp only [fk,beq_iff_eq,beq_eq_false_iff_ne,ne_eq] at h;cbv))
  | (
   refine ⟨?_⟩;first|refine .ic ?_|refine .ab0 ?_|refine .i ?_
   simp only [uV]
   simp_all;done)
  | (
   refine ⟨.ic ?_⟩
   show _=uV op
   unfold uV
   repeat' split
   all_goals omega))
noncomputable def ao9 (n m:Nat):Ctx:=iD n m [] [(143,ArS)]
theorem alA (n m:Nat):CB PP (ao9 n m):=iH n m trivial ⟨anz,trivial⟩
structure NV where
 n:Net
 v:Int
def fg (n:Net):Int:=2+n.ins.length+n.aY.length
structure apa (n:Net) (v:Int) (y:List Int):Prop where
 len:y.length<=3
 mem:∀z∈y,0<=z/\z < v
 read:∀g,2+(n.ins.length:Int)<=v->n.aY[(v - 2 - n.ins.length).toNat]?=some g->g.op=7->y.length=3
noncomputable def apb (n m:Nat):Ctx:=iD n m [(126,Tryz.f126)] [] [126]
theorem alB (n m:Nat):CB PP (apb n m):=iH n m ⟨fo Tryz.func126,trivial⟩ trivial
noncomputable def mW (n:Net) (v:Int):Bool:=decide (2<=v)&&(decide (v < 2+n.ins.length)||match n.aY[(v - 2 - n.ins.length).toNat]? with|some g=>g.op == 7|none=>false)
@[reducible] noncomputable def q7:Vc.Spec where
 α:=Net
 args x:=[.agg (jX x)]
 pre x:=2+x.ins.length+x.aY.length<=1000000
 res x:=.i .i64 (λ_=>fg x)
theorem rS:dt (PP ()) 51 q7:=by
 refine e6 (pS 0 0) (fo Tryz.func51) (λa=>⟨mr a,trivial⟩) (λa=>trivial) ?_
 rintro ⟨ins,gs,outs,dr⟩ hx
 have hx:2+ins.length+gs.length<=1000000:=hx
 have e:IntKind.i64.wrap (IntKind.i64.wrap (2+(ins.length:Int))+(gs.length:Int))=fg ⟨ins,gs,outs,dr⟩:=by
  rw [cW (n:=2+(ins.length:Int)) (by omega) (by omega),cW (by omega) (by omega)];rfl
 refine ⟨?_⟩
 cbv
 exact ⟨.i e⟩
structure Cut where
 root:Int
 l:List Int
open Classical in
noncomputable def zZ (c:Cut):Bool:=decide ((∀(i:Nat) (x:Int),c.l[i]?=some x->2<=x/\x<=c.root/\∀(j:Nat) (y:Int),i=j+1->c.l[j]?=some y->y < x)/\c.l.length<=4)
theorem OT {c:Cut}:zZ c=true↔(∀(i:Nat) (x:Int),c.l[i]?=some x->2<=x/\x<=c.root/\∀(j:Nat) (y:Int),i=j+1->c.l[j]?=some y->y < x)/\c.l.length<=4:=by simp [zZ]
@[reducible] noncomputable def QJ:Vc.Spec where
 α:=Cut
 args x:=[.agg [.i .i64 (λ_=>x.root),.sl 1 bC (λ_=>x.l)]]
 pre x:=x.l.length<=1000000
 res x:=.b (λ_=>zZ x)
theorem Xs:dt (PP ()) 260 QJ:=by
 refine e6 (pS 0 0) (fo Tryz.func260) (λa=>⟨⟨trivial,(λx=>(cP x).1),trivial⟩,trivial⟩) (λa=>trivial) ?_
 rintro ⟨root,l⟩ hx
 have hl:l.length<=1000000:=hx
 refine ⟨?_⟩
 cbv
 refine Sat.cU (pS 0 0) 1 3 [] (λi:Nat=>[(3,.i .i64 λ_=>(i:Int))]) (λ_=>[])
  (λi=>i<=l.length/\∀(k:Nat) (x:Int),k < i->l[k]?=some x->2<=x/\x<=root/\∀(j:Nat) (y:Int),k=j+1->l[j]?=some y->y < x) (λi=>l.length - i) 0 (by exact aM) (by exact aM) ⟨by omega,λk x h=>by omega⟩ ?_
 rintro i ⟨hi,eG⟩
 have h0:=n0 i
 have h1:=cX (i:=i) (by omega)
 have xB:∀x,l[i]?=some x->¬(2<=x/\x<=root/\∀(j:Nat) (y:Int),i=j+1->l[j]?=some y->y < x)->zZ ⟨root,l⟩=false:=λx hx hb=>by
  rw [<-Bool.not_eq_true,OT]
  exact λh=>hb (h.1 i x hx)
 cbv
 refine ⟨λh=>?_,λh=>?_⟩
 ·(have h:=h.out;simp (disch:=exact bT) only [hS] at h)
  have aO:i < l.length:=by exact bT
  have bX:l.length - (i+1) < l.length - i:=by omega
  obtain ⟨x,hx⟩:=bK aO
  cbv
  refine ⟨x,⟨h0,hx⟩,?_⟩
  cbv
  refine ⟨λh=>?_,λh=>?_⟩
  ·have jB:x < 2:=by have:=h.out;simpa [dv] using this
   have e:=xB x hx λhh=>by omega
   cbv
   exact ⟨.bc e.symm⟩
  ·have jB:2<=x:=by have:=h.out;simp only [dv,decide_eq_false_iff_not] at this;omega
   have GO:(x<=root/\∀(j:Nat) (y:Int),i=j+1->l[j]?=some y->y < x)->(∀(k:Nat) (z:Int),k < i+1->l[k]?=some z->2<=z/\z<=root/\∀(j:Nat) (y:Int),k=j+1->l[j]?=some y->y < z):=λhh k z hk hz=>by
    by_cases Dm:k=i
    ·subst Dm;rw [hx] at hz;cases hz;exact ⟨jB,hh⟩
    ·exact eG k z (by omega) hz
   cbv
   refine ⟨x,⟨h0,hx⟩,?_⟩
   cbv
   refine ⟨λh=>?_,λh=>?_⟩
   ·have wu:root < x:=by have:=h.out;simpa [dv] using this
    have e:=xB x hx λhh=>by omega
    cbv
    exact ⟨.bc e.symm⟩
   ·have wu:x<=root:=by have:=h.out;simp only [dv,decide_eq_false_iff_not] at this;omega
    cbv
    refine ⟨λh=>?_,λh=>?_⟩
    ·have cZ:0 < i:=by have:=h.out;simp only [dv,decide_eq_true_eq] at this;exact bT
     obtain ⟨y,hy⟩:=bK (l:=l) (i:=i - 1) (by omega)
     have hw:IntKind.i64.wrap ((i:Int) - 1)=((i - 1:Nat):Int):=by rw [cW (by omega) (by omega)];omega
     have mH:0<=IntKind.i64.wrap ((i:Int) - 1)/\l[(IntKind.i64.wrap ((i:Int) - 1)).toNat]?=some y:=by rw [hw];exact ⟨n0 _,hy⟩
     cbv
     refine ⟨y,⟨mH⟩,?_⟩
     cbv
     refine ⟨x,⟨h0,hx⟩,?_⟩
     cbv
     refine ⟨λh=>?_,λh=>?_⟩
     ·have AX:x<=y:=by have:=h.out;simpa [fU] using this
      have e:=xB x hx λhh=>by have:=hh.2.2 (i - 1) y (by omega) hy;omega
      cbv
      exact ⟨.bc e.symm⟩
     ·have AX:y < x:=by have:=h.out;simp only [fU,decide_eq_false_iff_not] at this;omega
      have hG:=GO ⟨wu,λj z hj hz=>by
       have:j=i - 1:=by omega
       subst this
       rw [hy] at hz;cases hz;exact AX⟩
      cbv
      exact ⟨i+1,by have bD:=h1;exact a8,by exact aM,⟨⟨aO,hG⟩,bX⟩⟩
    ·have cZ:i=0:=by have:=h.out;simp only [dv,decide_eq_false_iff_not] at this;exact bT
     have hG:=GO ⟨wu,λj z hj hz=>by omega⟩
     cbv
     exact ⟨i+1,by have bD:=h1;exact a8,by exact aM,⟨⟨aO,hG⟩,bX⟩⟩
 ·(have h:=h.out;simp (disch:=exact bT) only [hS] at h)
  have cz:i=l.length:=by exact bT
  have e:fU (l.length:Int) 4=zZ ⟨root,l⟩:=by
   have hI:∀(k:Nat) (x:Int),l[k]?=some x->2<=x/\x<=root/\∀(j:Nat) (y:Int),k=j+1->l[j]?=some y->y < x:=λk x hk=>eG k x (by have:=(a7.1 hk).1;omega) hk
   rw [Bool.eq_iff_iff,OT]
   simp only [fU,decide_eq_true_eq]
   exact ⟨λh=>⟨hI,by show l.length<=4;omega⟩,λh=>by have:=h.2;have:l.length<=4:=this;omega⟩
  cbv
  exact ⟨.b e⟩
def vJ (op:Int) (a b c:Bool):Bool:=if op=1 then !a else if op=2 then a&&b else if op=3 then a||b else if op=4 then a != b else if op=5 then a&&b||!a&&c else a&&b||a&&c||b&&c
structure GV where
 g:Gate
 a:Bool
 b:Bool
 c:Bool
@[reducible] noncomputable def Q7:Vc.Spec where
 α:=GV
 args x:=[.agg (kY x.g),.agg [.b (λ_=>x.a),.b (λ_=>x.b),.b (λ_=>x.c)]]
 pre x:=True
 res x:=.b (λ_=>vJ x.g.op x.a x.b x.c)
theorem Yz:dt (PP ()) 239 Q7:=by
 refine e6 (pS 0 0) (fo Tryz.func239) (λa=>⟨(ui a.g).1,⟨trivial,trivial,trivial,trivial⟩,trivial⟩) (λa=>trivial) ?_
 rintro ⟨⟨op,x,y,z,n⟩,a,b,c⟩ hx
 refine ⟨?_⟩
 cbv
 repeat' (first
  | (refine ⟨λh=>?_,λh=>?_⟩<;>(have h:=h.out;dsimp only at h;(try simp only [fk,beq_iff_eq,beq_eq_false_iff_ne,ne_eq] at h);cbv))
  | (
   refine ⟨?_⟩;first|refine .bc ?_|refine .b ?_
   show _=vJ op a b c
   unfold vJ
   (repeat' (first|rw [if_pos (by assumption)]|rw [if_neg (by assumption)]))<;>(clear hx;cases a<;>cases b<;>cases c<;>first|rfl|contradiction)))
theorem Xt {root N:Int} {S:List Int} (h2:2<=root) (hN:root < N):zZ ⟨root,S⟩=true↔Ah N root S:=by
 rw [OT]
 simp only
 constructor
 ·rintro ⟨h,h4⟩
  refine ⟨h2,hN,h4,λx hx=>?_,?_⟩
  ·obtain ⟨i,hi⟩:=lN hx
   exact ⟨(h i x hi).1,(h i x hi).2.1⟩
  ·have step:∀(i:Nat) (x y:Int),S[i]?=some x->S[i+1]?=some y->x < y:=λi x y hx hy=>(h (i+1) y hy).2.2 i x rfl hx
   have key:∀(n i:Nat) (x y:Int),S[i]?=some x->S[i+n+1]?=some y->x < y:=by
    intro n
    induction n with
    | zero=>intro i x y hx hy;exact step i x y hx hy
    | succ n ih =>
     intro i x y hx hy
     have hl:=(a7.1 hy).1
     obtain ⟨z,hz⟩:=bK (l:=S) (i:=i+n+1) (by omega)
     have a:=ih i x z hx hz
     have b:=step (i+n+1) z y hz (by rw [show i+n+1+1=i+(n+1)+1 by omega];exact hy)
     omega
   refine qj.2 λi j hi hj ph=>?_
   refine key (j - i - 1) i _ _ (ea hi) ?_
   rw [show i+(j - i - 1)+1=j by omega]
   exact ea hj
 ·rintro ⟨_,_,h4,hm,hi⟩
  refine ⟨λi x hx=>⟨(hm x (cf hx)).1,(hm x (cf hx)).2,λj y hj hy=>?_⟩,h4⟩
  obtain ⟨a1,a2⟩:=a7.1 hx
  obtain ⟨b1,b2⟩:=a7.1 hy
  have:=(qj.1 hi) j i b1 a1 (by omega)
  omega
structure iv (I:Nat) (gs:List Gate) (S:List Int) (root k:Nat) (nd:List Bool) (d:List Int):Prop where
 kl:k<=root+1
 len:nd.length=root+1
 rt:nd[root]?=some true
 snd:∀v:Nat,nd[v]?=some true->gG I gs S root v
 cl:∀u:Nat,k<=u->nd[u]?=some true->∀x∈nZ I gs S u,nd[x.toNat]?=some true
 lf:∀u:Nat,k<=u->u<=root->(u:Int)∈S->nd[u]?=some true
 CW:∀u:Nat,k<=u->nd[u]?=some true->pR I gs S u=true
 dm:∀v:Int,v∈d↔∃u:Nat,v=(u:Int)/\k<=u/\nd[u]?=some true/\(u:Int)∉S/\2<=u
 dd:d.Pairwise λa b=>b < a
theorem iv.start {I:Nat} {gs:List Gate} {S:List Int} {root:Nat}:iv I gs S root (root+1) ((List.replicate (root+1) false).set root true) []:=by
 have yv:∀u:Nat,root+1<=u->((List.replicate (root+1) false).set root true)[u]?=none:=λu hu=>pD (by simp;omega)
 refine ⟨fb _,by simp,by simp,λv hv=>?_,λu hu h=>?_,λu hu hr=>by omega,λu hu h=>?_,λv=>?_,.nil⟩
 ·rw [gL] at hv
  split at hv
  ·rename_i e;exact .base e.symm
  ·rw [sY] at hv;split at hv<;>simp at hv
 ·rw [yv u hu] at h;cases h
 ·rw [yv u hu] at h;cases h
 ·constructor
  ·intro h;cases h
  ·rintro ⟨u,_,hu,h,_⟩;rw [yv u hu] at h;cases h
theorem iv.comp {I:Nat} {gs:List Gate} (G:cb I gs) {S:List Int} {root k:Nat} {nd:List Bool} {d:List Int} (h:iv I gs S root k nd d) {v:Nat} (hr:gG I gs S root v):k<=v+1->nd[v]?=some true:=by
 induction hr with
 | base e=>intro _;rw [e];exact h.rt
 | @step u x h1 h2 ih =>
  intro hk
  have:=Ci G h2
  exact h.cl u (by omega) (ih (by omega)) x h2
theorem iv.mark {I:Nat} {gs:List Gate} {S:List Int} {root k:Nat} {nd:List Bool} {d:List Int} (h:iv I gs S root k nd d) {x:Nat} (hx:gG I gs S root x) (hk:x < k):iv I gs S root k (nd.set x true) d:=by
 have bO:∀u:Nat,k<=u->(nd.set x true)[u]?=nd[u]?:=λu hu=>by rw [gL,if_neg (by omega)]
 have xq:∀u:Nat,nd[u]?=some true->(nd.set x true)[u]?=some true:=λu hu=>by
  rw [gL]
  split
  ·rename_i e;subst e;rw [if_pos (a7.1 hu).1]
  ·exact hu
 refine ⟨h.kl,by rw [x4];exact h.len,xq _ h.rt,λv hv=>?_,λu hu hn y hy=>?_,λu hu hr hs=>xq _ (h.lf u hu hr hs),λu hu hn=>h.CW u hu (by rw [<-bO u hu];exact hn),λv=>?_,h.dd⟩
 ·rw [gL] at hv
  split at hv
  ·rename_i e;subst e;exact hx
  ·exact h.snd v hv
 ·exact xq _ (h.cl u hu (by rw [<-bO u hu];exact hn) y hy)
 ·rw [h.dm v]
  constructor
  ·rintro ⟨u,a,b,c,e⟩;exact ⟨u,a,b,by rw [bO u b];exact c,e⟩
  ·rintro ⟨u,a,b,c,e⟩;exact ⟨u,a,b,by rw [<-bO u b];exact c,e⟩
theorem iv.down {I:Nat} {gs:List Gate} {S:List Int} {root k:Nat} {nd:List Bool} {d:List Int} (h:iv I gs S root (k+1) nd d) (hl:(k:Int)∈S->nd[k]?=some true) (hc:nd[k]?=some true->nZ I gs S k=[]/\pR I gs S k=true/\((k:Int)∈S\/k < 2)):iv I gs S root k nd d:=by
 refine ⟨by have:=h.kl;omega,h.len,h.rt,h.snd,λu hu hn x hx=>?_,λu hu hr hs=>?_,λu hu hn=>?_,λv=>?_,h.dd⟩
 ·by_cases e:u=k
  ·subst e;rw [(hc hn).1] at hx;cases hx
  ·exact h.cl u (by omega) hn x hx
 ·by_cases e:u=k
  ·subst e;exact hl hs
  ·exact h.lf u (by omega) hr hs
 ·by_cases e:u=k
  ·subst e;exact (hc hn).2.1
  ·exact h.CW u (by omega) hn
 ·rw [h.dm v]
  constructor
  ·rintro ⟨u,a,b,c⟩;exact ⟨u,a,by omega,c⟩
  ·rintro ⟨u,a,b,c,e,f⟩
   refine ⟨u,a,?_,c,e,f⟩
   by_cases e':u=k
   ·subst e'
    rcases (hc c).2.2 with q|q
    ·exact absurd q e
    ·omega
   ·omega
theorem iv.gate {I:Nat} {gs:List Gate} {S:List Int} {root k:Nat} {nd:List Bool} {d:List Int} (h:iv I gs S root (k+1) nd d) (hk:nd[k]?=some true) (hS:(k:Int)∉S) (h2:2<=k) {g:Gate} (hg:fy I gs k=some g) (h7:g.op≠7) (ho:∀x∈ca g,nd[x.toNat]?=some true):iv I gs S root k nd (d++[(k:Int)]):=by
 refine ⟨by have:=h.kl;omega,h.len,h.rt,h.snd,λu hu hn x hx=>?_,λu hu hr hs=>?_,λu hu hn=>?_,λv=>?_,?_⟩
 ·by_cases e:u=k
  ·subst e
   obtain ⟨_,g',h1,_,h3⟩:=qp.1 hx
   rw [hg] at h1;cases h1
   exact ho x h3
  ·exact h.cl u (by omega) hn x hx
 ·by_cases e:u=k
  ·subst e;exact absurd hs hS
  ·exact h.lf u (by omega) hr hs
 ·by_cases e:u=k
  ·subst e;exact vp.2 (.inr (.inr ⟨g,hg,h7⟩))
  ·exact h.CW u (by omega) hn
 ·rw [dD,h.dm v,gD]
  constructor
  ·rintro (⟨u,a,b,c⟩|rfl)
   ·exact ⟨u,a,by omega,c⟩
   ·exact ⟨k,rfl,fb _,hk,hS,h2⟩
  ·rintro ⟨u,a,b,c⟩
   by_cases e:u=k
   ·subst e;exact .inr a
   ·exact .inl ⟨u,a,by omega,c⟩
 ·refine jO.2 ⟨h.dd,by simp,λa ha b hb=>?_⟩
  simp only [gD] at hb
  subst hb
  obtain ⟨u,e,hu,_⟩:=(h.dm a).1 ha
  omega
theorem iv.fin {I:Nat} {gs:List Gate} (G:cb I gs) {S:List Int} {root:Nat} {nd:List Bool} {d:List Int} (h:iv I gs S root 0 nd d) (hL:Ah (2+I+gs.length) root S):eK I gs root S=some d.reverse:=by
 have hs:(eK I gs root S).isSome=true:=by
  refine (BF G).2 ⟨hL,(K8 G (root+1) root (vx _)).2 λv hv=>h.CW v (cg _) (h.comp G hv (cg _)),λx hx=>?_⟩
  have jB:=hL.mem x hx
  refine h.snd _ (h.lf x.toNat (cg _) (by omega) ?_)
  rw [Int.toNat_of_nonneg (by omega)];exact hx
 cases hc:eK I gs root S with
 | none=>rw [hc] at hs;cases hs
 | some l =>
  obtain ⟨h1,h2⟩:=zK G hc
  have apc:dU d.reverse:=List.pairwise_reverse.2 h.dd
  rw [h1.ext apc λv=>?_]
  rw [h2 v,List.mem_reverse,h.dm v]
  constructor
  ·rintro ⟨a,b,c⟩
   have e:((v.toNat:Nat):Int)=v:=Int.toNat_of_nonneg (by omega)
   have b:gG I gs S root v.toNat:=b
   exact ⟨v.toNat,e.symm,cg _,h.comp G b (cg _),by rw [e];exact c,by omega⟩
  ·rintro ⟨u,rfl,_,a,b,c⟩
   exact ⟨by omega,h.snd u a,b⟩
theorem iv.apd {I:Nat} {gs:List Gate} (G:cb I gs) {S:List Int} {root k:Nat} {nd:List Bool} {d:List Int} (h:iv I gs S root (k+1) nd d) (hS:(k:Int)∈S) (hk:nd[k]?=some false):eK I gs root S=none:=by
 cases hc:eK I gs root S with
 | none=>rfl
 | some l =>
  exfalso
  have:=((BF G).1 (by rw [hc];rfl)).2.2 _ hS
  have:=h.comp G (v:=k) this (fb _)
  rw [hk] at this;cases this
theorem iv.ape {I:Nat} {gs:List Gate} (G:cb I gs) {S:List Int} {root k:Nat} {nd:List Bool} {d:List Int} (h:iv I gs S root (k+1) nd d) (hk:nd[k]?=some true) (hb:pR I gs S k=false):eK I gs root S=none:=by
 cases hc:eK I gs root S with
 | none=>rfl
 | some l =>
  exfalso
  have:=((BF G).1 (by rw [hc];rfl)).2.1
  have:=(K8 G (root+1) root (vx _)).1 this k (h.snd k hk)
  rw [hb] at this;cases this
theorem Qo {I:Nat} {gs:List Gate} {S:List Int} {root:Int} (h:¬Ah (2+I+gs.length) root S):eK I gs root S=none:=by
 unfold eK
 rw [if_neg λhl=>h (zy.1 hl)]
theorem ahq {n:Net} {S:List Int} {k:Nat} (hs:mW n k=true) (hS:(k:Int)∉S):pR n.ins.length n.aY S k=false:=by
 cases hg:pR n.ins.length n.aY S k with
 | false=>rfl
 | true =>
  exfalso
  unfold mW at hs
  simp only [cG,decide_eq_true_eq,oq] at hs
  obtain ⟨h2,hs⟩:=hs
  rcases vp.1 hg with h|h|⟨g,h,h7⟩
  ·exact hS h
  ·omega
  ·obtain ⟨i,e,hi⟩:=lB.1 h
   rcases hs with hs|hs
   ·omega
   ·have e':((k:Int) - 2 - n.ins.length).toNat=i:=by omega
    rw [e',hi] at hs
    exact h7 (by simpa using hs)
def rh:List Int->List Int->Bool
 | x :: r,y :: s=>if x≠y then decide (x < y) else rh r s
 | _,_=>false
def km (a b:List Int):Bool:=if a.length≠b.length then decide (a.length < b.length) else rh a b
theorem akr {a b:List Int} {i:Nat} {x y:Int} (hx:a[i]?=some x) (hy:b[i]?=some y):rh (a.drop i) (b.drop i)=if x≠y then decide (x < y) else rh (a.drop (i+1)) (b.drop (i+1)):=by
 obtain ⟨h1,e1⟩:=a7.1 hx
 obtain ⟨h2,e2⟩:=a7.1 hy
 rw [qQ h1,qQ h2,e1,e2]
 rfl
@[reducible] noncomputable def LX:Vc.Spec where
 α:=LL
 args x:=[.sl 1 bC (λ_=>x.a),.sl 1 bC (λ_=>x.b)]
 pre x:=x.a.length<=1000000/\x.b.length<=1000000
 res x:=.b (λ_=>km x.a x.b)
theorem Qp:dt (PP ()) 183 LX:=by
 refine e6 (pS 0 0) (fo Tryz.func183) (λa=>⟨(λx=>(cP x).1),(λx=>(cP x).1),trivial⟩) (λa=>trivial) ?_
 rintro ⟨a,b⟩ hx
 obtain ⟨ha,hb⟩:a.length<=1000000/\b.length<=1000000:=hx
 refine ⟨?_⟩
 cbv
 refine ⟨λh=>?_,λh=>?_⟩
 ·have gI:a.length≠b.length:=by have:=h.out;simp [fk] at this;exact bT
  have e:dv (a.length:Int) (b.length:Int)=km a b:=by unfold km dv;rw [if_pos gI];simp
  cbv
  exact ⟨.b e⟩
 ·have gI:a.length=b.length:=by have:=h.out;simp [fk] at this;exact bT
  have e:km a b=rh a b:=by unfold km;rw [if_neg (by simpa using gI)]
  cbv
  refine Sat.cU (pS 0 0) 0 5 [] (λi:Nat=>[(5,.i .i64 λ_=>(i:Int))]) (λ_=>[]) (λi=>i<=a.length/\km a b=rh (a.drop i) (b.drop i)) (λi=>a.length - i) 0 (by exact aM) (by exact aM) ⟨by omega,by simpa using e⟩ ?_
  rintro i ⟨hi,he⟩
  cbv
  refine ⟨λh=>?_,λh=>?_⟩
  ·(have h:=h.out;simp (disch:=exact bT) only [hS] at h)
   have aO:i < a.length:=by exact bT
   have bX:a.length - (i+1) < a.length - i:=by omega
   obtain ⟨x,hx⟩:=bK aO
   obtain ⟨y,hy⟩:=bK (l:=b) (i:=i) (by omega)
   have hl:=akr hx hy
   have h1:=cX (i:=i) (by omega)
   have h0:=n0 i
   cbv
   refine ⟨x,⟨h0,hx⟩,?_⟩
   cbv
   refine ⟨y,⟨h0,hy⟩,?_⟩
   cbv
   refine ⟨λh=>?_,λh=>?_⟩
   ·have bO:x≠y:=by have:=h.out;simpa [fk] using this
    have e2:dv x y=km a b:=by rw [he,hl,if_pos bO];rfl
    cbv
    refine ⟨x,⟨h0,hx⟩,?_⟩
    cbv
    refine ⟨y,⟨h0,hy⟩,?_⟩
    cbv
    exact ⟨.b e2⟩
   ·have bO:x=y:=by have:=h.out;simpa [fk] using this
    have e2:km a b=rh (a.drop (i+1)) (b.drop (i+1)):=by rw [he,hl,if_neg (by simpa using bO)]
    cbv
    exact ⟨i+1,by have bD:=h1;exact a8,by exact aM,⟨⟨aO,e2⟩,bX⟩⟩
  ·(have h:=h.out;simp (disch:=exact bT) only [hS] at h)
   have cz:i=a.length:=by exact bT
   have e2:km a b=false:=by rw [he,cz,List.drop_length];rfl
   cbv
   exact ⟨.bc e2.symm⟩
structure OG where
 i:Nat
 o:List (List Int)
noncomputable def apf (n m:Nat):Ctx:=iD n m [] [(183,LX)] [] [] [4]
theorem Q8 (n m:Nat):CB PP (apf n m):=iH n m trivial ⟨Qp,trivial⟩
noncomputable def anA (n m:Nat):Ctx:=iD n m [] [(183,LX)]
theorem Zs (n m:Nat):CB PP (anA n m):=iH n m trivial ⟨Qp,trivial⟩
structure oL (a b:List Int) (i k:Nat) (o:List Int):Prop where
 li:i<=a.length
 lk:k<=b.length
 inc:dU o
 mem:∀z,z∈o↔z∈a.take i\/z∈b.take k
 la:∀x∈a.drop i,∀z∈o,z < x
 lb:∀y∈b.drop k,∀z∈o,z < y
 len:o.length<=i+k
theorem oL.swap {a b o:List Int} {i k:Nat} (h:oL a b i k o):oL b a k i o:=⟨h.lk,h.li,h.inc,λz=>by rw [h.mem z];exact Or.comm,h.lb,h.la,by have:=h.len;omega⟩
theorem z6 {l:List Int} {i:Nat} {x:Int} (h:l[i]?=some x):l.drop i=x :: l.drop (i+1):=by
 obtain ⟨h1,e⟩:=a7.1 h
 rw [qQ h1,e]
theorem pJ {T:Type} {l:List T} {i:Nat} {x:T} (h:l[i]?=some x):l.take (i+1)=l.take i++[x]:=by rw [kf,h];rfl
theorem dU.head {l:List Int} (hl:dU l) {i:Nat} {x:Int} (h:l[i]?=some x):∀y∈l.drop (i+1),x < y:=by
 have:=hl.sublist (Pu i l)
 rw [z6 h] at this
 exact (fx.1 this).1
theorem dU.snoc {l:List Int} {x:Int} (hl:dU l) (h:∀z∈l,z < x):dU (l++[x]):=jO.2 ⟨hl,by simp,λz hz y hy=>by simp only [gD] at hy;subst hy;exact h z hz⟩
theorem oL.a {a b o:List Int} {i k:Nat} (h:oL a b i k o) (ha:dU a) {x:Int} (hx:a[i]?=some x) (hb:∀y∈b.drop k,x < y):oL a b (i+1) k (o++[x]):=by
 have hm:x∈a.drop i:=by rw [z6 hx];simp
 have hl:=(a7.1 hx).1
 refine ⟨hl,h.lk,h.inc.snoc (h.la x hm),λz=>?_,λy hy z hz=>?_,λy hy z hz=>?_,by have:=h.len;simp;omega⟩
 ·rw [pJ hx,dD,h.mem z,dD]
  simp only [gD]
  constructor
  ·rintro ((h|h)|h)<;>simp [h]
  ·rintro ((h|h)|h)<;>simp [h]
 ·rcases dD.1 hz with hz|hz
  ·exact h.la y (by rw [z6 hx];exact pE _ hy) z hz
  ·simp only [gD] at hz;subst hz;exact ha.head hx y hy
 ·rcases dD.1 hz with hz|hz
  ·exact h.lb y hy z hz
  ·simp only [gD] at hz;subst hz;exact hb y hy
theorem oL.ab {a b o:List Int} {i k:Nat} (h:oL a b i k o) (ha:dU a) (hb:dU b) {x:Int} (hx:a[i]?=some x) (hy:b[k]?=some x):oL a b (i+1) (k+1) (o++[x]):=by
 have hm:x∈a.drop i:=by rw [z6 hx];simp
 have hl:=(a7.1 hx).1
 have hk:=(a7.1 hy).1
 refine ⟨hl,hk,h.inc.snoc (h.la x hm),λz=>?_,λy nV z hz=>?_,λy nV z hz=>?_,by have:=h.len;simp;omega⟩
 ·rw [pJ hx,pJ hy,dD,h.mem z,dD,dD]
  simp only [gD]
  constructor
  ·rintro ((h|h)|h)<;>simp [h]
  ·rintro ((h|h)|(h|h))<;>simp [h]
 ·rcases dD.1 hz with hz|hz
  ·exact h.la y (by rw [z6 hx];exact pE _ nV) z hz
  ·simp only [gD] at hz;subst hz;exact ha.head hx y nV
 ·rcases dD.1 hz with hz|hz
  ·exact h.lb y (by rw [z6 hy];exact pE _ nV) z hz
  ·simp only [gD] at hz;subst hz;exact hb.head hy y nV
theorem dU.aaa {b:List Int} (hb:dU b) {k:Nat} {x y:Int} (hy:b[k]?=some y) (h:x < y):∀z∈b.drop k,x < z:=by
 rw [z6 hy]
 intro z hz
 rcases cJ.1 hz with rfl|hz
 ·exact h
 ·have:=hb.head hy z hz;omega
theorem YA {b:List Int} {k:Nat} (h:b.length<=k) {x:Int}:∀z∈b.drop k,x < z:=by rw [Eu h];simp
theorem oL.fin {a b o:List Int} {i k:Nat} (h:oL a b i k o) (hi:¬i < a.length) (hk:¬k < b.length):o=gE a b:=by
 have h1:=h.li
 have h2:=h.lk
 refine h.inc.ext (GQ a b) λz=>?_
 rw [h.mem z,xY,iL (by omega),iL (by omega)]
theorem oL.nil (a b:List Int):oL a b 0 0 []:=⟨cg _,cg _,.nil,by simp,by simp,by simp,cg _⟩
theorem ahr {a b:List Int}:(gE a b).length<=a.length+b.length:=by
 unfold gE
 rw [<-List.length_append]
 have:∀(x:Int) (l:List Int),(se x l).length<=l.length+1:=by
  intro x l
  induction l with
  | nil=>simp [se]
  | cons y r ih=>unfold se;split<;>(try split)<;>simp<;>omega
 generalize a++b=l
 induction l with
 | nil=>simp
 | cons x r ih=>rw [List.foldr_cons];have:=this x (r.foldr se []);simp;omega
theorem O8 (a b:List Int):qX a b=dF a b:=by
 rw [Bool.eq_iff_iff,lQ]
 unfold qX
 rw [gM]
 exact ⟨λh x hx=>Ex.1 (h x hx),λh x hx=>Ex.2 (h x hx)⟩
structure ri (l:List (List Int)) (x:List Int) (i:Nat) (o:List (List Int)):Prop where
 li:i<=l.length
 eq:o=(l.take i).filter λy=>!dF x y
 no:∀y∈l.take i,dF y x=false
 len:o.length<=i
theorem ri.nil (l:List (List Int)) (x:List Int):ri l x 0 []:=⟨cg _,by simp,by simp,cg _⟩
theorem ri.hit {l:List (List Int)} {x y:List Int} {i:Nat} (h:l[i]?=some y) (hs:qX y x=true):ia l x=l:=by
 rw [O8] at hs
 unfold ia
 rw [if_pos (Ee.2 ⟨y,cf h,hs⟩)]
theorem ri.put {l:List (List Int)} {x y:List Int} {i:Nat} {o:List (List Int)} (h:ri l x i o) (hy:l[i]?=some y) (h1:qX y x=false) (h2:qX x y=false):ri l x (i+1) (o++[y]):=by
 rw [O8] at h1 h2
 refine ⟨(a7.1 hy).1,?_,λz hz=>?_,by have:=h.len;simp;omega⟩
 ·rw [pJ hy,x2,<-h.eq];simp [h2]
 ·rw [pJ hy] at hz
  rcases dD.1 hz with hz|hz
  ·exact h.no z hz
  ·simp only [gD] at hz;subst hz;exact h1
theorem ri.skip {l:List (List Int)} {x y:List Int} {i:Nat} {o:List (List Int)} (h:ri l x i o) (hy:l[i]?=some y) (h1:qX y x=false) (h2:qX x y=true):ri l x (i+1) o:=by
 rw [O8] at h1 h2
 refine ⟨(a7.1 hy).1,?_,λz hz=>?_,by have:=h.len;omega⟩
 ·rw [pJ hy,x2,<-h.eq];simp [h2]
 ·rw [pJ hy] at hz
  rcases dD.1 hz with hz|hz
  ·exact h.no z hz
  ·simp only [gD] at hz;subst hz;exact h1
theorem ri.fin {l:List (List Int)} {x:List Int} {i:Nat} {o:List (List Int)} (h:ri l x i o) (hi:i=l.length):o++[x]=ia l x:=by
 subst hi
 have h1:=h.eq
 have h2:=h.no
 rw [x3] at h1 h2
 unfold ia
 have hn:¬(l.any λy=>dF y x)=true:=λhc=>by
  obtain ⟨y,hy,hs⟩:=Ee.1 hc
  rw [h2 y hy] at hs;cases hs
 rw [if_neg hn,<-h1]
theorem YB:∀{a b:List Int},a.length=b.length->(rh a b=true↔fT a b < 0)
 | [],[],_=>by simp [rh,fT]
 | [],_ :: _,h=>by simp at h
 | _ :: _,[],h=>by simp at h
 | x :: a,y :: b,h=>by
  unfold rh fT
  by_cases h1:x < y
  ·rw [if_pos (by omega),if_pos h1];simp [h1]
  ·by_cases h2:y < x
   ·rw [if_pos (by omega),if_neg h1,if_pos h2];simp [h1]
   ·rw [if_neg (by omega),if_neg h1,if_neg h2];exact YB (by simpa using h)
theorem Xu {a b:List Int}:km a b=true↔iN a b < 0:=by
 unfold km iN
 by_cases h1:a.length < b.length
 ·rw [if_pos (by omega),if_pos h1];simp [h1]
 ·by_cases h2:b.length < a.length
  ·rw [if_pos (by omega),if_neg h1,if_pos h2];simp [h1]
  ·rw [if_neg (by omega),if_neg h1,if_neg h2];exact YB (by omega)
structure rE (l:List (List Int)) (i:Nat) (o:List (List Int)):Prop where
 li:i<=l.length
 perm:o.Perm (l.take i)
 T7:F4 o
theorem rE.nil (l:List (List Int)):rE l 0 []:=⟨cg _,by simp,.nil⟩
theorem rE.len {l o:List (List Int)} {i:Nat} (h:rE l i o):o.length=i:=by rw [h.perm.length_eq,jd];have:=h.li;omega
theorem rE.mem {l o:List (List Int)} {i:Nat} (h:rE l i o):∀z∈o,z∈l:=λz hz=>qk (h.perm.mem_iff.1 hz)
theorem rE.put {l o:List (List Int)} {i k:Nat} {x:List Int} (h:rE l i o) (hx:l[i]?=some x) (h1:∀y∈o.take k,km y x=true) (h2:∀y,o[k]?=some y->km y x=false) :
  rE l (i+1) ((([]++(o.take k).drop 0)++[x])++(o.take o.length).drop k):=by
 rw [qU,PF,x3]
 refine ⟨(a7.1 hx).1,?_,?_⟩
 ·rw [pJ hx]
  refine List.Perm.trans ?_ (h.perm.append_right [x])
  rw [List.append_assoc]
  refine ((List.perm_append_comm (l₁:=[x]) (l₂:=o.drop k)).append_left (o.take k)).trans ?_
  rw [<-List.append_assoc,List.take_append_drop]
 ·have hs:=h.T7
  rw [<-List.take_append_drop k o] at hs
  obtain ⟨s1,s2,s3⟩:=jO.1 hs
  have jB:∀b∈o.drop k,iN x b<=0:=λb hb=>by
   cases hk:o[k]? with
   | none=>rw [Eu (by simpa using hk)] at hb;simp at hb
   | some y =>
    have hy:iN x y<=0:=by
     have:=h2 y hk
     have h3:¬iN y x < 0:=λh=>by rw [Xu.2 h] at this;cases this
     rw [BV];omega
    obtain ⟨h4,e⟩:=a7.1 hk
    rw [qQ h4,e] at hb s2
    rcases cJ.1 hb with rfl|hb
    ·exact hy
    ·exact OK hy ((fx.1 s2).1 b hb)
  refine jO.2 ⟨jO.2 ⟨s1,by simp,λa ha b hb=>?_⟩,s2,λa ha b hb=>?_⟩
  ·simp only [gD] at hb;subst hb;have:=Xu.1 (h1 a ha);omega
  ·rcases dD.1 ha with ha|ha
   ·exact s3 a ha b hb
   ·simp only [gD] at ha;subst ha;exact jB b hb
theorem rE.fin {l o:List (List Int)} {i:Nat} (h:rE l i o) (hi:i=l.length):o=lW l:=by
 subst hi
 exact Yv (by have:=h.perm;rwa [x3] at this) h.T7
structure Gv (v:Nat) (L:List (List Int)):Prop where
 nd:L.Nodup
 all:∀l∈L,l.length<=4/\∀x∈l,0<=x/\x < (v:Int)
structure Hv (v:Nat) (L:List (List Int)):Prop where
 nd:L.Nodup
 all:∀l∈L,l.length<=4/\(l=[(v:Int)]\/∀x∈l,0<=x/\x < (v:Int))
theorem Gv.gl {v:Nat} {L:List (List Int)} (h:Gv v L) (hv:v<=600):L.length<=133090713856 :=
 K9 h.nd λl hl=>⟨(h.all l hl).1,λx hx=>by have:=(h.all l hl).2 x hx;omega⟩
theorem Hv.gl {v:Nat} {L:List (List Int)} (h:Hv v L) (hv:v<=600):L.length<=133090713856 :=
 K9 h.nd λl hl=>⟨(h.all l hl).1,λx hx=>by
  rcases (h.all l hl).2 with e|e
  ·subst e;simp at hx;omega
  ·have:=e x hx;omega⟩
theorem Gv.add {v:Nat} {L r:List (List Int)} (h:Gv v L) {u:List Int} (hu:u.length<=4/\∀x∈u,0<=x/\x < (v:Int)) (hr:E4 L u r):Gv v r:=⟨hr.nodup h.nd,hr.all h.all hu⟩
theorem Hv.add {v:Nat} {L r:List (List Int)} (h:Hv v L) {u:List Int} (hu:u.length<=4/\(u=[(v:Int)]\/∀x∈u,0<=x/\x < (v:Int))) (hr:E4 L u r):Hv v r:=⟨hr.nodup h.nd,hr.all h.all hu⟩
def SB (R:List (List (List Int))):Prop:=∀(v:Nat) (L:List (List Int)),R[v]?=some L->L.length<=133090713856/\∀l∈L,l.length<=4/\(l=[(v:Int)]\/∀x∈l,0<=x/\x < (v:Int))
theorem SB.add {R:List (List (List Int))} (h:SB R) {L:List (List Int)} (hl:L.length<=133090713856) (ha:∀l∈L,l.length<=4/\(l=[(R.length:Int)]\/∀x∈l,0<=x/\x < (R.length:Int))):SB (R++[L]):=by
 intro v M hM
 rw [wN] at hM
 split at hM
 ·exact h v M hM
 ·have hi:v - R.length=0:=by
   have:=(a7.1 hM).1
   simp at this;omega
  rw [hi] at hM
  simp at hM
  subst hM
  have:v=R.length:=by omega
  subst this
  exact ⟨hl,ha⟩
structure EG where
 v:Nat
 R:List (List (List Int))
structure NK where
 n:Net
 k:Int
end Go.Proofs.Pk
