import Derived.Test.YthnhbemmlfaihaaGreatQ11
import Derived.Test.YthnhbemmlfaihaaGreatQ13
import Derived.Test.YthnhbemmlfaihaaGreatQ22
set_option linter.unusedVariables false
set_option linter.unusedSimpArgs false
set_option maxRecDepth 10000
set_option maxHeartbeats 64000000
namespace Go.Proofs.Pk
open Go Go.Vc
structure BE (m:ej):Prop where
 n0:0<=m.n
 n6:2+m.n+m.cells.length<=600
 cell:∀(i:Nat) (x:Cell),m.cells[i]?=some x->(ug x||uh x)=true/\∀s∈x.ins,0<=s/\s < 2+m.n+i
 dr:∀s∈m.bj,0<=s/\s < 2+m.n+m.cells.length
def iJ (n:Int) (C:List Cell):List Int:=C.foldl (λD x=>D++[1+cU D x.ins]) (List.replicate (2+n).toNat 0)
def y9 (m:ej):Int:=cU (iJ m.n m.cells) m.bj
theorem M5 {n:Int} {C:List Cell} {i:Nat} {x:Cell} (hx:C[i]?=some x):iJ n (C.take i)++[1+cU (iJ n (C.take i)) x.ins]=iJ n (C.take (i+1)):=by
 unfold iJ
 rw [jR,hx,oQ,List.foldl_append,kW,FN]
theorem F6 {n:Int} {C:List Cell}:∀{i:Nat},i<=C.length->(iJ n (C.take i)).length=(2+n).toNat+i
 | 0,_=>by unfold iJ;simp
 | i+1,h=>by
  obtain ⟨x,hx⟩:=bO (l:=C) (i:=i) (by omega)
  rw [<-M5 hx,List.length_append,F6 (by omega)];rfl
theorem S5 {n:Int} {C:List Cell}:∀{i:Nat},i<=C.length->∀y∈iJ n (C.take i),0<=y/\y<=(i:Int)
 | 0,_,y,h=>by
  unfold iJ at h
  rw [RH,FN] at h
  rw [(FG.1 h).2];omega
 | i+1,h,y,hy=>by
  obtain ⟨x,hx⟩:=bO (l:=C) (i:=i) (by omega)
  rw [<-M5 hx] at hy
  have ih:=S5 (n:=n) (C:=C) (i:=i) (by omega)
  rcases dR.1 hy with hy|hy
  ·have:=ih y hy;omega
  ·rw [j9] at hy
   have h0:=AV (iJ n (C.take i)) x.ins
   have h1:cU (iJ n (C.take i)) x.ins<=(i:Int):=AI (by omega) λv _=>by
    rw [List.getD_eq_getElem?_getD]
    cases hv:(iJ n (C.take i))[v.toNat]? with
    | none=>show (0:Int)<=i;omega
    | some z=>exact (ih z (cB hv)).2
   omega
structure asI (m:ej) (D:Nat->List Int) (W:Int):Prop where
 w:2+m.n=W
 w0:0<=W/\W<=600
 z:List.replicate W.toNat 0=D 0
 grow:∀(i:Nat) (x:Cell),m.cells[i]?=some x->D i++[1+cU (D i) x.ins]=D (i+1)/\mG (D i) x.ins/\IntKind.i64.wrap (1+cU (D i) x.ins)=1+cU (D i) x.ins
 len:∀i,i<=m.cells.length->(D i).length<=600
 fin:∀i,i<=m.cells.length->m.cells.length<=i->mG (D i) m.bj/\cU (D i) m.bj=y9 m
theorem asJ {m:ej} (h:BE m) (hc:∀x∈m.cells,x.ins.length<=1000000) (hd:m.bj.length<=1000000):∃D W,asI m D W:=by
 have h6:=h.n6
 have h0:=h.n0
 refine ⟨λi=>iJ m.n (m.cells.take i),_,rfl,by omega,rfl,λi x hx=>?_,λi hi=>?_,λi hi hg=>?_⟩
 ·have hi:=(bt.1 hx).1
  have hl:=F6 (n:=m.n) (C:=m.cells) (i:=i) (by omega)
  have hg:mG (iJ m.n (m.cells.take i)) x.ins:=⟨hc x (cB hx),λv hv=>by have:=(h.cell i x hx).2 v hv;omega,λy hy=>by have:=S5 (by omega) y hy;omega⟩
  have:=hg.le
  exact ⟨M5 hx,hg,dt (by omega) (by omega)⟩
 ·have hl:=F6 (n:=m.n) (C:=m.cells) hi
  show (iJ m.n (m.cells.take i)).length<=600
  omega
 ·have hl:=F6 (n:=m.n) (C:=m.cells) hi
  have e:m.cells.take i=m.cells:=iQ hg
  refine ⟨⟨hd,λv hv=>?_,λy hy=>?_⟩,by show cU (iJ m.n (m.cells.take i)) m.bj=_;rw [e];rfl⟩
  ·have:=h.dr v hv
   show 0<=v/\v < ((iJ m.n (m.cells.take i)).length:Int)
   omega
  ·have:=S5 hi y hy
   omega
theorem Nb (z m:Int) (h0:0<=m) (h1:m<=1000000):0<=fN .and .i64 z m/\fN .and .i64 z m<=m:=by
 have h:fN .and .i64 z m=IntKind.i64.wrap ((BitVec.ofInt 64 z &&& BitVec.ofInt 64 m).toNat:Int):=rfl
 have h2:(BitVec.ofInt 64 z &&& BitVec.ofInt 64 m).toNat<=(BitVec.ofInt 64 m).toNat:=by
  rw [BitVec.toNat_and]
  exact Nat.and_le_right
 have h3:((BitVec.ofInt 64 m).toNat:Int)=m:=by
  rw [Rr]
  omega
 rw [h,dt (by omega) (by omega)]
 omega
theorem Zy:∀{l:List Int} {a b:Int},dM l->(∀x∈l,a<=x/\x < b)->a<=b->(l.length:Int)<=b - a
 | [],a,b,_,_,h=>by simp;omega
 | x :: l,a,b,hi,hm,h=>by
  have hx:=hm x (by simp)
  have h1:=fH.1 hi
  have:=Zy (a:=x+1) (b:=b) h1.2 (λy hy=>⟨by have:=h1.1 y hy;omega,(hm y (by simp [hy])).2⟩) (by omega)
  rw [qd];omega
structure asK (I:Nat) (gs:List Gate) (R:List Int) (x:Cell) (r:Int) (l:List Int) (i:Nat) (g:Gate):Prop where
 er:r=2+(I:Int)+i
 eg:gs[i]?=some g
 lf:∀y∈l,0<=y/\y < r/\∃s,eP I R y=some s
 ins:x.ins=l.map λy=>(eP I R y).getD 0
 ok:(ug x||uh x)=true
 kind:(g.op=7/\l=cC g/\x.table=0/\x.ep=g.n)\/(g.op≠7/\(eC I gs r l).isSome=true/\x.table=xM I gs r l/\x.ep=-1/\l.length<=4/\∀y∈l,gM I gs l r.toNat y.toNat)
theorem akH {I:Nat} {gs:List Gate} {S:List Int} {root v:Nat} (h:gM I gs S root v) (hr:(root:Int)∈S):v=root:=by
 induction h with
 | base h=>exact h
 | step _ h2 ih=>rw [ih] at h2;exact absurd hr (qk.1 h2).1
theorem Km {I:Nat} {gs:List Gate} (G:ca I gs) {bj:List Int} {m:ej} {c:k9} (h:Bd I gs bj m c) {j:Nat} {x:Cell} {r:Int} {l:List Int} (hx:m.cells[j]?=some x) (hr:c.root[j]?=some r) (hl:c.leaves[j]?=some l) :
  ∃i g,asK I gs c.root x r l i g:=by
 obtain ⟨h1,h2⟩:=h.lim r (cB hr)
 have k:=h.cell j x r l hx hr hl
 have hi:r.toNat - 2 - I < gs.length:=by omega
 have hg:=eI (l:=gs) hi
 generalize hq:r.toNat - 2 - I=i at *
 have HM:r=2+(I:Int)+i:=by omega
 have rq:fI I gs r.toNat=some gs[i]:=by rw [show r.toNat=2+I+i by omega];exact lL.2 ⟨i,rfl,hg⟩
 generalize gs[i]=g at *
 have ha:=ajP k.1
 have Lc:=QQ ha.1
 have kg:=G.aT i g hg
 obtain ⟨k1,k2⟩:=k
 have dz:x.ins=l.map λy=>(eP I c.root y).getD 0:=by rw [k2];exact ha.2
 unfold cellOf at k1 k2
 rw [if_pos ha.1,rq] at k1 k2
 simp only at k1 k2
 refine ⟨i,g,?_⟩
 by_cases h7:g.op=7
 ·rw [if_pos h7] at k1 k2
  have hS:l=cC g:=by
   simp only at k1
   by_cases e:l=cC g
   ·exact e
   ·rw [if_neg e] at k1;omega
  have hlen:l.length=3:=by rw [hS];unfold cC jz;rw [h7];simp
  refine ⟨HM,hg,λy hy=>⟨?_,?_,Lc y hy⟩,dz,?_,.inl ⟨h7,hS,by rw [k2],by rw [k2]⟩⟩
  ·rw [hS] at hy;exact (G.ops hg y hy).1
  ·rw [hS] at hy;have:=(G.ops hg y hy).2;omega
  ·have bM:x.ins.length=3:=by rw [dz,iR,hlen]
   have e1:x.ep=g.n:=by rw [k2]
   have e2:x.table=0:=by rw [k2]
   have:=kg.n
   unfold uh
   rw [e1,e2,bM]
   simp;right;omega
 ·rw [if_neg h7] at k1 k2
  by_cases Wr:l=[r]
  ·rw [if_pos Wr] at k1;simp only at k1;omega
  ·rw [if_neg Wr] at k1 k2
   simp only at k1
   cases hc:eC I gs r l with
   | none=>unfold nU at k1;rw [hc] at k1;simp at k1
   | some q =>
    have fS:(eC I gs r l).isSome=true:=by rw [hc];rfl
    obtain ⟨L,C,hR⟩:=(CS G).1 fS
    have aP:∀y∈l,y≠r:=λy hy e=>by
     subst e
     have oC:((y.toNat:Nat):Int)∈l:=by rw [Int.toNat_of_nonneg (by omega)];exact hy
     have all:∀z∈l,z=y:=λz hz=>by
      have:=akH (hR z hz) oC
      have:=L.mem z hz
      omega
     refine Wr ?_
     cases l with
     | nil=>cases hy
     | cons a t =>
      have ha:=all a (by simp)
      subst ha
      cases t with
      | nil=>rfl
      | cons b t =>
       have:=all b (by simp)
       have:=(fH.1 L.inc).1 b (by simp)
       omega
    have ht:x.table=xM I gs r l:=by rw [k2];unfold nU;rw [hc]
    have Em:x.ep=-1:=by rw [k2]
    refine ⟨HM,hg,λy hy=>⟨?_,?_,Lc y hy⟩,dz,?_,.inr ⟨h7,by first|exact fS|rw [hc];rfl,ht,Em,L.len,hR⟩⟩
    ·have:=L.mem y hy;omega
    ·have:=L.mem y hy;have:=aP y hy;omega
    ·have bM:x.ins.length=l.length:=by rw [dz,iR]
     unfold ug
     rw [ht,Em,bM]
     have tw:=L.len
     have hp:∃P:Nat,2^(2^l.length)=(P:Int)/\P<=1000000/\1<=P:=by
      have:l.length=0\/l.length=1\/l.length=2\/l.length=3\/l.length=4:=by omega
      rcases this with e|e|e|e|e<;>rw [e]
      ·exact ⟨2,by decide,by decide,by decide⟩
      ·exact ⟨4,by decide,by decide,by decide⟩
      ·exact ⟨16,by decide,by decide,by decide⟩
      ·exact ⟨256,by decide,by decide,by decide⟩
      ·exact ⟨65536,by decide,by decide,by decide⟩
     obtain ⟨P,hP,hP1,Ws⟩:=hp
     have hm:=Nb (fX I gs l r.toNat) (P - 1) (by omega) (by omega)
     have e:xM I gs r l=fN .and .i64 (fX I gs l r.toNat) (P - 1):=by unfold xM pL;rw [hP]
     rw [e,hP]
     simp
     left
     omega
theorem NR {I:Nat} {R:List Int} (hR:dM R) (fb:∀r∈R,2+(I:Int)<=r) {j:Nat} {r y s:Int} (hr:R[j]?=some r) (hy:y < r) (hs:eP I R y=some s):0<=s/\s < 2+(I:Int)+j:=by
 rcases (F5 hR fb).1 hs with ⟨h1,h2,rfl⟩|⟨i,hi,rfl⟩
 ·omega
 ·have:i < j:=by
   rcases ov i j with h|h
   ·exact h
   ·exfalso
    obtain ⟨a1,a2⟩:=bt.1 hr
    obtain ⟨b1,b2⟩:=bt.1 hi
    rcases ov j i with h'|h'
    ·have:=(rG.1 hR) j i a1 b1 h'
     omega
    ·have:i=j:=by omega
     subst this;omega
  omega
theorem Dr {I:Nat} {gs:List Gate} (G:ca I gs) {bj:List Int} {m:ej} {c:k9} (h:Bd I gs bj m c):BE m/\m.cells.length<=gs.length:=by
 have hlen:(c.root.length:Int)<=gs.length:=by
  have:=Zy (a:=2+(I:Int)) (b:=2+I+gs.length) h.inc h.lim (by omega)
  omega
 have hb:=G.k8
 have HR:=h.rl
 have fb:∀r∈c.root,2+(I:Int)<=r:=λr hr=>(h.lim r hr).1
 refine ⟨⟨by rw [h.n];omega,by rw [h.n];omega,λj x hx=>?_,λs hs=>?_⟩,by omega⟩
 ·have hj:=(bt.1 hx).1
  have hr:=eI (l:=c.root) (i:=j) (by omega)
  have hl:=eI (l:=c.leaves) (i:=j) (by rw [h.ll];exact hj)
  obtain ⟨i,g,F⟩:=Km G h hx hr hl
  refine ⟨F.ok,λs hs=>?_⟩
  rw [F.ins] at hs
  obtain ⟨y,hy,rfl⟩:=jS.1 hs
  obtain ⟨h0,h1,s,hs⟩:=F.lf y hy
  rw [hs,h.n]
  exact NR h.inc fb hr h1 hs
 ·rw [h.EJ] at hs
  obtain ⟨d,hd,rfl⟩:=jS.1 hs
  obtain ⟨s,hs⟩:=h.OX d hd
  rw [hs,h.n]
  show 0<=s/\s < _
  rcases (F5 h.inc fb).1 hs with ⟨h1,h2,rfl⟩|⟨i,hi,rfl⟩
  ·omega
  ·have:=(bt.1 hi).1
   omega
theorem X1 {L L':List Int}:∀{l:List Int} {m:Int},(∀x∈l,L.getD x.toNat 0=L'.getD x.toNat 0)->l.foldl (λm v=>max m (L.getD v.toNat 0)) m=l.foldl (λm v=>max m (L'.getD v.toNat 0)) m
 | [],m,_=>rfl
 | x :: l,m,h=>by
  rw [kW,kW,h x (by simp)]
  exact X1 λy hy=>h y (by simp [hy])
theorem Zz {A:Type} (f:List Int->A->Int):∀(C:List A) (D:List Int),∃r,C.foldl (λD x=>D++[f D x]) D=D++r
 | [],D=>⟨[],by simp⟩
 | x :: C,D=>by
  obtain ⟨r,hr⟩:=Zz f C (D++[f D x])
  exact ⟨f D x :: r,by rw [kW,hr];simp⟩
theorem aaD (n:Int) (C:List Cell) (i:Nat):∃r,iJ n C=iJ n (C.take i)++r:=by
 obtain ⟨r,hr⟩:=Zz (λD (x:Cell)=>1+cU D x.ins) (C.drop i) (iJ n (C.take i))
 refine ⟨r,?_⟩
 rw [<-hr]
 unfold iJ
 rw [<-List.foldl_append,List.take_append_drop]
theorem S6 {I:Nat} {C:List Cell} {i:Nat} {x:Cell} (hx:C[i]?=some x) (dz:∀s∈x.ins,0<=s/\s < 2+(I:Int)+i):(iJ I C).getD (2+I+i) 0=1+cU (iJ I C) x.ins:=by
 have hi:=(bt.1 hx).1
 obtain ⟨r,hr⟩:=aaD I C (i+1)
 have hl:=F6 (n:=(I:Int)) (C:=C) (i:=i) (by omega)
 have iL:(iJ I (C.take i)).length=2+I+i:=by omega
 have hs:=M5 (n:=(I:Int)) hx
 have hg:cU (iJ I C) x.ins=cU (iJ I (C.take i)) x.ins:=X1 λs uC=>by
  have:=dz s uC
  rw [hr,<-hs,List.append_assoc,List.getD_eq_getElem?_getD,j7 (by omega),<-List.getD_eq_getElem?_getD]
 rw [hg,hr,<-hs,List.append_assoc,List.getD_eq_getElem?_getD,qb (by omega),iL,yO]
 rfl
theorem abF {I:Nat} {C:List Cell} {v:Nat} (hv:v < 2+I):(iJ I C).getD v 0=0:=by
 obtain ⟨r,hr⟩:=aaD I C 0
 have hl:=F6 (n:=(I:Int)) (C:=C) (i:=0) (cg _)
 rw [hr,List.getD_eq_getElem?_getD,j7 (by omega)]
 have e:iJ I (C.take 0)=List.replicate (2+(I:Int)).toNat 0:=rfl
 rw [e,sI]
 split<;>rfl
def wG (g:Gate):Cell:=⟨cC g,0,-1⟩
def adV (I:Nat) (gs:List Gate) (bj:List Int):ej:=⟨I,gs.map wG,bj⟩
def xk (I:Nat) (gs:List Gate) (v:Nat):Int:=(iJ I (gs.map wG)).getD v 0
theorem aaE {I:Nat} {gs:List Gate} (G:ca I gs) {v:Nat} {g:Gate} (h:fI I gs v=some g) {o:Int} (ho:o∈cC g):xk I gs o.toNat+1<=xk I gs v:=by
 obtain ⟨i,rfl,hg⟩:=lL.1 h
 unfold xk
 rw [S6 (I:=I) (C:=gs.map wG) (i:=i) (x:=wG g) (by rw [mq,hg];rfl) λs hs=>by have:=G.ops hg s hs;omega]
 have:=M1 (L:=iJ I (gs.map wG)) (l:=(wG g).ins) (v:=o) ho
 omega
theorem alU {I:Nat} {gs:List Gate} (G:ca I gs) {S:List Int} {root v:Nat} (h:gM I gs S root v):v=root\/xk I gs v+1<=xk I gs root:=by
 induction h with
 | base h=>exact .inl h
 | step _ h2 ih =>
  obtain ⟨_,g,hg,_,ho⟩:=qk.1 h2
  have:=aaE G hg ho
  rcases ih with rfl|ih
  ·exact .inr this
  ·right;omega
theorem ZA {I:Nat} {gs:List Gate} (G:ca I gs) {bj:List Int} {m:ej} {c:k9} (h:Bd I gs bj m c):∀(n j:Nat) (r:Int),j < n->c.root[j]?=some r->(iJ I m.cells).getD (2+I+j) 0<=xk I gs r.toNat
 | 0,_,_,hj,_=>absurd hj (qf _)
 | n+1,j,r,hj,hr=>by
  have fb:∀r∈c.root,2+(I:Int)<=r:=λr hr=>(h.lim r hr).1
  have eo:=(bt.1 hr).1
  obtain ⟨x,hx⟩:=bO (l:=m.cells) (i:=j) (by rw [<-h.rl];exact eo)
  obtain ⟨l,hl⟩:=bO (l:=c.leaves) (i:=j) (by rw [h.ll,<-h.rl];exact eo)
  obtain ⟨i,g,F⟩:=Km G h hx hr hl
  have hV:=((Dr G h).1.cell j _ hx).2
  rw [h.n] at hV
  rw [S6 hx hV,F.ins]
  have xg:=F.er
  have tj:0<=xk I gs r.toNat - 1:=by
   have rq:fI I gs r.toNat=some g:=lL.2 ⟨i,by omega,F.eg⟩
   unfold xk
   have e:r.toNat=2+I+i:=by omega
   rw [e,S6 (I:=I) (C:=gs.map wG) (i:=i) (x:=wG g) (by rw [mq,F.eg];rfl) λs hs=>by have:=G.ops F.eg s hs;omega]
   have:=AV (iJ I (gs.map wG)) (wG g).ins
   omega
  suffices H:cU (iJ I m.cells) (l.map λy=>(eP I c.root y).getD 0)<=xk I gs r.toNat - 1 by omega
  refine AI tj λv hv=>?_
  obtain ⟨y,hy,rfl⟩:=jS.1 hv
  obtain ⟨y0,y1,s,hs⟩:=F.lf y hy
  rw [hs]
  show (iJ I m.cells).getD s.toNat 0<=_
  have hny:xk I gs y.toNat+1<=xk I gs r.toNat:=by
   rcases F.kind with ⟨_,e,_⟩|⟨_,_,_,_,_,hR⟩
   ·rw [e] at hy
    exact aaE G (lL.2 ⟨i,by omega,F.eg⟩) hy
   ·rcases alU G (hR y hy) with e|e
    ·omega
    ·exact e
  rcases (F5 h.inc fb).1 hs with ⟨h1,h2,rfl⟩|⟨k,hk,rfl⟩
  ·rw [abF (by omega)]
   exact tj
  ·have hkj:k < j:=by
    have:=(NR h.inc fb hr y1 hs).2
    omega
   have:=ZA G h n k y (by omega) hk
   rw [show (2+(I:Int)+k).toNat=2+I+k by omega]
   omega
theorem akI {I:Nat} {gs:List Gate} (G:ca I gs) {bj:List Int} {m:ej} {c:k9} (h:Bd I gs bj m c):y9 m<=y9 (adV I gs bj):=by
 have fb:∀r∈c.root,2+(I:Int)<=r:=λr hr=>(h.lim r hr).1
 unfold y9
 rw [h.EJ,h.n]
 show cU (iJ I m.cells) _<=cU (iJ I (gs.map wG)) bj
 refine AI (AV _ _) λv hv=>?_
 obtain ⟨d,hd,rfl⟩:=jS.1 hv
 obtain ⟨s,hs⟩:=h.OX d hd
 rw [hs]
 show (iJ I m.cells).getD s.toNat 0<=_
 rcases (F5 h.inc fb).1 hs with ⟨h1,h2,rfl⟩|⟨k,hk,rfl⟩
 ·rw [abF (by omega)];exact AV _ _
 ·rw [show (2+(I:Int)+k).toNat=2+I+k by omega]
  exact AA (ZA G h (k+1) k d (wo _) hk) (M1 hd)
end Go.Proofs.Pk
