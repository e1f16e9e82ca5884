import Derived.Test.YthnhbemmlfaihaaGreatO13
import Derived.Test.YthnhbemmlfaihaaGreatO15
import Derived.Test.YthnhbemmlfaihaaGreatO16
import Derived.Test.YthnhbemmlfaihaaGreatO31
import Derived.Test.YthnhbemmlfaihaaGreatO32
import Derived.Test.YthnhbemmlfaihaaGreatO33
import Derived.Test.YthnhbemmlfaihaaGreatO34
set_option linter.unusedVariables false
set_option linter.unusedSimpArgs false
set_option maxRecDepth 10000
set_option maxHeartbeats 64000000
namespace Go.Proofs.Pk
open Go Go.Vc
structure ade (n:Net) (m:dK) (c:iQ):Prop where
 ck:IJ n m c 0
 ok:Cl n.ins.length n.aY n.bj m c
 v:yJ m
 cells:m.cells.length<=n.aY.length
 gl:Rn ⟨m,c,0⟩
 dp:rW m<=rW (abI n.ins.length n.aY n.bj)
theorem ZJ {m:dK} (h:yJ m) (hd:m.bj.length<=1000000):HY m:=by
 refine ⟨by have:=h.n6;have:=h.n0;omega,λx hx=>?_,hd⟩
 obtain ⟨i,hi,rfl⟩:=GZ.1 hx
 obtain ⟨c1,_⟩:=h.cell i _ (ea hi)
 simp only [oq,r6,r7,cG,decide_eq_true_eq] at c1
 omega
theorem Ni {n:Net} {m:dK} {c:iQ} (h:xg n m c 0):ade n m c:=by
 have hm:=h.eq
 unfold mapM at hm
 cases hl:iO n.ins.length n.aY with
 | none=>rw [hl] at hm;simp at hm
 | some s =>
  rw [hl] at hm
  simp only [Prod.mk.injEq] at hm
  obtain ⟨rfl,rfl,_⟩:=hm
  have L:=EC _ rfl h.G hl
  have hb:=alO h.G L h.dr
  have hc:=Xw hb
  obtain ⟨hv,j3⟩:=QP h.G hc
  have nX:(mu n.ins.length n.aY s n.bj).1.bj.length<=1000000:=by rw [hc.dl];exact h.gl
  have hf:=ZJ hv nX
  have mJ:∀l∈(mu n.ins.length n.aY s n.bj).2.leaves,l.length<=1000000:=λl hl=>by
   obtain ⟨i,hi,rfl⟩:=GZ.1 hl
   have j4:i < (mu n.ins.length n.aY s n.bj).1.cells.length:=by rw [<-hc.ll];exact hi
   obtain ⟨x,hx⟩:=bK j4
   obtain ⟨r,hr⟩:=bK (l:=(mu n.ins.length n.aY s n.bj).2.root) (i:=i) (by rw [hc.rl];exact j4)
   obtain ⟨_,_,F⟩:=Nf h.G hc hx hr (ea hi)
   have h1:=hf.cin x (cf hx)
   rw [F.ins,jP] at h1
   exact h1
  have vC:=hf.cells
  exact ⟨⟨h.G,h.gl,vC,hf.cin,mJ,by rw [hb];rfl⟩,hc,hv,j3,⟨hf,by show (mu n.ins.length n.aY s n.bj).2.root.length<=_;rw [hc.rl];omega,by rw [hc.ll];exact vC,mJ⟩,aiq h.G hc⟩
theorem amu {n:Net} {m:dK} {c:iQ} {e:Int} (h:xg n m c e):e=0\/e=2/\m=⟨0,[],[]⟩/\c=⟨[],[]⟩:=by
 have hm:=h.eq
 unfold mapM at hm
 cases hl:iO n.ins.length n.aY with
 | none =>
  rw [hl] at hm
  simp only [Prod.mk.injEq] at hm
  obtain ⟨rfl,rfl,rfl⟩:=hm
  exact .inr ⟨rfl,rfl,rfl⟩
 | some s =>
  rw [hl] at hm
  simp only [Prod.mk.injEq] at hm
  exact .inl hm.2.2.symm
structure aqM (I:Nat) (gs:List Gate) (R:List Int) (x:Cell) (r:Int) (l:List Int) (i:Nat) (g:Gate):Prop where
 er:r=2+(I:Int)+i
 eg:gs[i]?=some g
 lf:∀y∈l,0<=y/\y < r/\∃s,eu I R y=some s
 ins:x.ins=l.map λy=>(eu I R y).getD 0
 kind:(g.op=7/\l=ca g)\/(g.op≠7/\l.length<=4/\kC I gs (ca g) (·∈l))
structure Lays (I:Nat) (gs:List Gate) (bj:List Int) (m:dK) (c:iQ):Prop where
 n:m.n=I
 rl:c.root.length=m.cells.length
 ll:c.leaves.length=m.cells.length
 inc:dU c.root
 lo:∀r∈c.root,2+(I:Int)<=r
 cell:∀(j:Nat) (x:Cell) (r:Int) (l:List Int),m.cells[j]?=some x->c.root[j]?=some r->c.leaves[j]?=some l->∃i g,aqM I gs c.root x r l i g
 Fs:∀d∈bj,∃s,eu I c.root d=some s
 y9:m.bj=bj.map λv=>(eu I c.root v).getD 0
theorem YP {I:Nat} {gs:List Gate} (G:cb I gs) {bj:List Int} {m:dK} {c:iQ} (h:Cl I gs bj m c):Lays I gs bj m c:=by
 refine ⟨h.n,h.rl,h.ll,h.inc,λr hr=>(h.lim r hr).1,λj x r l hx hr hl=>?_,h.Fs,h.y9⟩
 obtain ⟨i,g,F⟩:=Nf G h hx hr hl
 refine ⟨i,g,F.er,F.eg,F.lf,F.ins,?_⟩
 rcases F.kind with ⟨a,b,_⟩|⟨a,b,_,_,c,_⟩
 ·exact .inl ⟨a,b⟩
 ·refine .inr ⟨a,c,?_⟩
  have k:=((BF G).1 b).2.1
  have hn:¬r∈l:=λhm=>by have:=(F.lf r hm).2.1;omega
  have hr:=F.er
  subst hr
  exact (fl.inv F.eg k hn).2
theorem Lays.ins {I:Nat} {gs:List Gate} {bj:List Int} {m:dK} {c:iQ} (h:Lays I gs bj m c) {j:Nat} {x:Cell} {r:Int} {l:List Int} (hx:m.cells[j]?=some x) (hr:c.root[j]?=some r) (hl:c.leaves[j]?=some l) :
  ∀s∈x.ins,0<=s/\s < 2+(I:Int)+j:=by
 obtain ⟨i,g,F⟩:=h.cell j x r l hx hr hl
 intro s hs
 rw [F.ins] at hs
 obtain ⟨y,hy,rfl⟩:=iM.1 hs
 obtain ⟨_,y1,t,ht⟩:=F.lf y hy
 rw [ht]
 exact HM h.inc h.lo hr y1 ht
theorem aaH {I:Nat} {gs:List Gate} {s:dW} (L:jV I gs s) {v:Nat} (hv:v < 2+I):s.labels.getD v 0=0:=by
 rw [List.getD_eq_getElem?_getD,ea (by rw [L.len];omega)]
 exact L.zero v _ hv (ea (by rw [L.len];omega))
theorem Ro {I:Nat} {gs:List Gate} {s:dW} (L:jV I gs s) {i:Nat} {g:Gate} (hg:gs[i]?=some g) {l:List Int} (h:(g.op=7/\l=ca g)\/(g.op≠7/\l.length<=4/\kC I gs (ca g) (·∈l))) :
  s.labels.getD (2+I+i) 0<=1+bR s.labels l:=by
 have hi:=(a7.1 hg).1
 obtain ⟨k,hk⟩:=bK (l:=s.leaves) (i:=2+I+i) (by rw [L.oD];omega)
 have h1:=L.gH i k hk
 have h2:=L.lf i k g hk hg
 rw [List.getD_eq_getElem?_getD,h1]
 show 1+bR s.labels k<=_
 rcases h with ⟨a,rfl⟩|⟨a,b,c⟩
 ·rw [if_pos a] at h2;rw [h2];exact iU _
 ·rw [if_neg a] at h2
  have:=h2.2.2.2.2.2 l b c
  omega
theorem ZK {I:Nat} {gs:List Gate} {s:dW} (L:jV I gs s) {bj:List Int} {m:dK} {c:iQ} (h:Lays I gs bj m c):∀(n j:Nat) (r:Int),j < n->c.root[j]?=some r->s.labels.getD r.toNat 0<=(fF I m.cells).getD (2+I+j) 0
 | 0,_,_,hj,_=>absurd hj (qn _)
 | n+1,j,r,hj,hr=>by
  have dG:=(a7.1 hr).1
  obtain ⟨x,hx⟩:=bK (l:=m.cells) (i:=j) (by rw [<-h.rl];exact dG)
  obtain ⟨l,hl⟩:=bK (l:=c.leaves) (i:=j) (by rw [h.ll,<-h.rl];exact dG)
  obtain ⟨i,g,F⟩:=h.cell j x r l hx hr hl
  rw [HE hx (h.ins hx hr hl),F.ins]
  have xI:=F.er
  have e:r.toNat=2+I+i:=by omega
  rw [e]
  refine ua (Ro L F.eg F.kind) ?_
  suffices H:bR s.labels l<=bR (fF I m.cells) (l.map λy=>(eu I c.root y).getD 0) by omega
  refine sW (qo _ _) λy hy=>?_
  obtain ⟨y0,y1,t,ht⟩:=F.lf y hy
  have xk:(fF I m.cells).getD t.toNat 0<=bR (fF I m.cells) (l.map λy=>(eu I c.root y).getD 0):=zI (iM.2 ⟨y,hy,by rw [ht];rfl⟩)
  rcases (zU h.inc h.lo).1 ht with ⟨h1,h2,rfl⟩|⟨k,hk,rfl⟩
  ·rw [aaH L (by omega)]
   exact qo _ _
  ·have Uc:k < j:=by
    have:=(HM h.inc h.lo hr y1 ht).2
    omega
   have:=ZK L h n k y (by omega) hk
   rw [show (2+(I:Int)+k).toNat=2+I+k by omega] at xk
   omega
theorem WJ {I:Nat} {gs:List Gate} {s:dW} (L:jV I gs s) {bj:List Int} {m:dK} {c:iQ} (h:Lays I gs bj m c):bR s.labels bj<=rW m:=by
 unfold rW
 rw [h.y9,h.n]
 refine sW (qo _ _) λd hd=>?_
 obtain ⟨t,ht⟩:=h.Fs d hd
 have xk:(fF I m.cells).getD t.toNat 0<=bR (fF I m.cells) (bj.map λy=>(eu I c.root y).getD 0):=zI (iM.2 ⟨d,hd,by rw [ht];rfl⟩)
 rcases (zU h.inc h.lo).1 ht with ⟨h1,h2,rfl⟩|⟨k,hk,rfl⟩
 ·rw [aaH L (by omega)]
  exact qo _ _
 ·have:=ZK L h (k+1) k d (vx _) hk
  rw [show (2+(I:Int)+k).toNat=2+I+k by omega] at xk
  omega
theorem aaI {I:Nat} {gs:List Gate} {s:dW} (L:jV I gs s) {bj:List Int} {m:dK} {c:iQ} (h:Lays I gs bj m c) (ho:∀(j:Nat) (r:Int) (l:List Int),c.root[j]?=some r->c.leaves[j]?=some l->1+bR s.labels l<=s.labels.getD r.toNat 0) :
  ∀(n j:Nat) (r:Int),j < n->c.root[j]?=some r->(fF I m.cells).getD (2+I+j) 0<=s.labels.getD r.toNat 0
 | 0,_,_,hj,_=>absurd hj (qn _)
 | n+1,j,r,hj,hr=>by
  have dG:=(a7.1 hr).1
  obtain ⟨x,hx⟩:=bK (l:=m.cells) (i:=j) (by rw [<-h.rl];exact dG)
  obtain ⟨l,hl⟩:=bK (l:=c.leaves) (i:=j) (by rw [h.ll,<-h.rl];exact dG)
  obtain ⟨i,g,F⟩:=h.cell j x r l hx hr hl
  rw [HE hx (h.ins hx hr hl),F.ins]
  refine ua ?_ (ho j r l hr hl)
  suffices H:bR (fF I m.cells) (l.map λy=>(eu I c.root y).getD 0)<=bR s.labels l by omega
  refine sW (qo _ _) λv hv=>?_
  obtain ⟨y,hy,rfl⟩:=iM.1 hv
  obtain ⟨y0,y1,t,ht⟩:=F.lf y hy
  rw [ht]
  show (fF I m.cells).getD t.toNat 0<=_
  have xk:s.labels.getD y.toNat 0<=bR s.labels l:=zI hy
  rcases (zU h.inc h.lo).1 ht with ⟨h1,h2,rfl⟩|⟨k,hk,rfl⟩
  ·rw [Lu (by omega)]
   exact qo _ _
  ·have Uc:k < j:=by
    have:=(HM h.inc h.lo hr y1 ht).2
    omega
   have:=aaI L h ho n k y (by omega) hk
   rw [show (2+(I:Int)+k).toNat=2+I+k by omega]
   omega
theorem ais {n:Net} {m:dK} {c:iQ} {s:dW} (h:xg n m c 0) (hs:iO n.ins.length n.aY=some s):rW m=bR s.labels n.bj:=by
 have O:=Ni h
 have L:=EC _ rfl h.G hs
 have K:=YP h.G O.ok
 refine Int.le_antisymm ?_ (WJ L K)
 have hm:=h.eq
 unfold mapM at hm
 rw [hs] at hm
 simp only [Prod.mk.injEq] at hm
 obtain ⟨rfl,rfl,_⟩:=hm
 have fV:=OV h.G L h.dr
 have ho:∀(j:Nat) (r:Int) (l:List Int),(mu n.ins.length n.aY s n.bj).2.root[j]?=some r->(mu n.ins.length n.aY s n.bj).2.leaves[j]?=some l->1+bR s.labels l<=s.labels.getD r.toNat 0:=by
  intro j r l hr hl
  have pn:(jR n.ins.length s n.bj)[j]?=some r:=hr
  have ja:((jR n.ins.length s n.bj).map (lT s))[j]?=some l:=hl
  rw [ml,pn] at ja
  cases ja
  have xd:=O.ok.lim r (cf hr)
  obtain ⟨i,g,e1,e2,e3⟩:=QK L xd.1 xd.2
  have h1:=L.gH i _ e3
  rw [show r.toNat=2+n.ins.length+i by omega,List.getD_eq_getElem?_getD,h1]
  exact iU _
 unfold rW
 rw [K.y9,K.n]
 refine sW (qo _ _) λv hv=>?_
 obtain ⟨d,hd,rfl⟩:=iM.1 hv
 obtain ⟨t,ht⟩:=K.Fs d hd
 rw [ht]
 show (fF _ _).getD t.toNat 0<=_
 have xk:s.labels.getD d.toNat 0<=bR s.labels n.bj:=zI hd
 rcases (zU K.inc K.lo).1 ht with ⟨h1,h2,rfl⟩|⟨k,hk,rfl⟩
 ·rw [Lu (by omega)]
  exact qo _ _
 ·have:=aaI L K ho (k+1) k d (vx _) hk
  rw [show (2+(n.ins.length:Int)+k).toNat=2+n.ins.length+k by omega]
  omega
def lU (L:List Int) (v:Int) (m:Int) (C:List (List Int)):Int:=C.foldl (λm c=>if c=[v] then m else min m (1+bR L c)) m
theorem XI (L:List Int) (v:Int):∀(C:List (List Int)) (m:Int),lU L v m C<=m/\∀c∈C,c≠[v]->lU L v m C<=1+bR L c
 | [],m=>⟨iU _,by simp⟩
 | c :: r,m=>by
  have ih:=XI L v r (if c=[v] then m else min m (1+bR L c))
  have e:lU L v m (c :: r)=lU L v (if c=[v] then m else min m (1+bR L c)) r:=rfl
  rw [e]
  have h1:(if c=[v] then m else min m (1+bR L c))<=m:=by split<;>omega
  refine ⟨ua ih.1 h1,λd hd bO=>?_⟩
  rcases cJ.1 hd with rfl|hd
  ·refine ua ih.1 ?_
   rw [if_neg bO];omega
  ·exact ih.2 d hd bO
theorem XJ (L:List Int) (v:Int) {B:Int}:∀(C:List (List Int)) (m:Int),B<=m->(∀c∈C,c≠[v]->B<=1+bR L c)->B<=lU L v m C
 | [],m,h,_=>h
 | c :: r,m,h,k=>by
  refine XJ L v r _ ?_ λd hd=>k d (pE _ hd)
  show B<=if c=[v] then m else min m (1+bR L c)
  split
  ·exact h
  ·rename_i bO;have:=k c (by simp) bO;omega
theorem ajI {I:Nat} {gs:List Gate} {s:dW} (L:jV I gs s) (G:cb I gs) {i:Nat} {g:Gate} (hg:gs[i]?=some g) {C:List (List Int)} (hC:uW I gs (2+I+i) C) :
  s.labels.getD (2+I+i) 0=if g.op=7 then 1+bR s.labels (ca g) else lU s.labels (2+(I:Int)+i) (1+bR s.labels (ca g)) C:=by
 have hi:=(a7.1 hg).1
 have hv:((2+I+i:Nat):Int)=2+(I:Int)+i:=by omega
 obtain ⟨k,hk⟩:=bK (l:=s.leaves) (i:=2+I+i) (by rw [L.oD];omega)
 have h1:=L.gH i k hk
 have h2:=L.lf i k g hk hg
 have xa:s.labels.getD (2+I+i) 0=1+bR s.labels k:=by rw [List.getD_eq_getElem?_getD,h1];rfl
 split
 ·rename_i h7
  rw [if_pos h7] at h2
  rw [xa,h2]
 ·rename_i h7
  rw [if_neg h7] at h2
  obtain ⟨a1,a2,a3,a4,a5,a6⟩:=h2
  refine Int.le_antisymm (XJ _ _ _ _ ?_ λc hc bO=>?_) ?_
  ·exact Ro L hg (.inr ⟨h7,by have:=(s7 g).2;omega,λo ho=>.mem ho⟩)
  ·refine Ro L hg (.inr ⟨h7,hC.eT.len c hc,?_⟩)
   have hn:¬(2+(I:Int)+i)∈c:=λhm=>by
    have Aw:fl I gs (·∈[((2+I+i:Nat):Int)]) ((2+I+i:Nat):Int):=.mem (by simp)
    obtain ⟨d,hd,hs⟩:=hC.eT.all _ (by simp) Aw
    have hdc:dF d c=true:=lQ.2 λx hx=>by
     have:=lQ.1 hs x hx
     simp only [gD] at this
     rw [this,hv];exact hm
    have e:d=c:=by
     refine WS λbO=>?_
     obtain ⟨p,hp⟩:=lN hd
     obtain ⟨q,hq⟩:=lN hc
     obtain ⟨uL,yT⟩:=a7.1 hp
     obtain ⟨Bh,y4⟩:=a7.1 hq
     have P:=qj.1 hC.eT.pf
     rcases G5 p q with aO|rfl|aO
     ·have:=(P p q uL Bh aO).1;rw [yT,y4,hdc] at this;cases this
     ·rw [yT] at y4;exact bO y4
     ·have:=(P q p Bh uL aO).2;rw [yT,y4,hdc] at this;cases this
    subst e
    refine bO (dU.ext (hC.eT.inc d hd) (by simp) λx=>⟨λhx=>?_,λhx=>?_⟩)
    ·have:=lQ.1 hs x hx;rwa [hv] at this
    ·simp only [gD] at hx;rw [hx];exact hm
   have hq:=hC.eT.cut c hc
   rw [hv] at hq
   exact (fl.inv hg hq hn).2
  ·have hq:fl I gs (·∈k) ((2+I+i:Nat):Int):=by rw [hv];exact .gate hg h7 a4
   obtain ⟨d,hd,hs⟩:=hC.eT.all k a2 hq
   have bO:d≠[2+(I:Int)+i]:=λe=>by
    subst e
    have:=a3 _ (lQ.1 hs _ (gD.2 rfl))
    omega
   have:=(XI s.labels (2+(I:Int)+i) C (1+bR s.labels (ca g))).2 d hd bO
   have:=WB (L:=s.labels) hs
   rw [xa]
   omega
noncomputable def mb (n:Net) (v:Int):Bool:=decide (2+(n.ins.length:Int)<=v)&&match n.aY[(v - 2 - n.ins.length).toNat]? with|some g=>g.op == 7|none=>false
structure abM where
 n:Net
 root:List Int
 leaves:List (List Int)
 v:Int
def uK (x:abM):Int:=if x.v < 2+x.n.ins.length then x.v else match x.root.findIdx? (λz=>decide (z=x.v)) with
 | some i=>2+x.n.ins.length+i
 | none=>-1
@[reducible] noncomputable def IN:Vc.Spec where
 α:=abM
 args x:=[.agg (jX x.n),.agg [.sl 1 bC (λ_=>x.root),.sl 1 eB (λ_=>x.leaves)],.i .i64 (λ_=>x.v)]
 pre x:=x.n.ins.length<=1000/\x.root.length<=1000000/\0<=x.v
 res x:=.i .i64 (λ_=>uK x)
theorem L6:dt (PP ()) 118 IN:=by
 refine e6 (pS 0 0) (fo Tryz.func118) (λa=>⟨mr a.n,⟨(λx=>(cP x).1),(λx=>(mT x).1),trivial⟩,trivial,trivial⟩) (λa=>trivial) ?_
 rintro ⟨⟨ins,gs,outs,dr⟩,root,leaves,v⟩ hx
 obtain ⟨hi,hr,eM⟩:ins.length<=1000/\root.length<=1000000/\0<=v:=hx
 have hw:IntKind.i64.wrap (2+(ins.length:Int))=2+(ins.length:Int):=by rw [cW (by omega) (by omega)]
 refine ⟨?_⟩
 cbv
 refine ⟨λh=>?_,λh=>?_⟩
 ·have hv:v < 2+(ins.length:Int):=by have h':dv v (IntKind.i64.wrap (2+(ins.length:Int)))=true:=h.out;rw [hw] at h';simp only [dv,decide_eq_true_eq] at h';exact h'
  have e:uK ⟨⟨ins,gs,outs,dr⟩,root,leaves,v⟩=v:=by unfold uK;rw [if_pos hv]
  cbv
  exact ⟨.i e.symm⟩
 ·have hv:¬v < 2+(ins.length:Int):=by have h':dv v (IntKind.i64.wrap (2+(ins.length:Int)))=false:=h.out;rw [hw] at h';simp only [dv,decide_eq_false_iff_not] at h';exact h'
  cbv
  refine Sat.cU (pS 0 0) 2 7 [] (λi:Nat=>[(7,.i .i64 λ_=>(i:Int))]) (λ_=>[]) (λi=>i<=root.length/\∀j,j < i->root[j]?≠some v) (λi=>root.length - i) 0 (by exact aM) (by exact aM) ⟨by simp,λj hj=>by omega⟩ ?_
  rintro i ⟨bQ,dx⟩
  have h0:=n0 i
  have h1:=cX (i:=i) (by omega)
  cbv
  refine ⟨λh=>?_,λh=>?_⟩
  ·(have h:=h.out;simp (disch:=exact bT) only [hS] at h)
   have aO:i < root.length:=by exact bT
   have bX:root.length - (i+1) < root.length - i:=by omega
   obtain ⟨x,hx⟩:=bK aO
   have n7:IntKind.i64.wrap (IntKind.i64.wrap (2+(ins.length:Int))+(i:Int))=2+(ins.length:Int)+i:=by rw [hw,cW (by exact bT) (by exact bT)]
   cbv
   refine ⟨x,⟨h0,hx⟩,?_⟩
   cbv
   refine ⟨λh=>?_,λh=>?_⟩
   ·have fG:x=v:=aL
    have e:IntKind.i64.wrap (IntKind.i64.wrap (2+(ins.length:Int))+(i:Int))=uK ⟨⟨ins,gs,outs,dr⟩,root,leaves,v⟩:=by
     rw [n7]
     unfold uK
     rw [if_neg hv]
     have:root.findIdx? (λz=>decide (z=v))=some i:=by
      rw [Ep]
      refine ⟨aO,by rw [ea aO] at hx;simp at hx;simp [hx,fG],λj hj=>?_⟩
      have:=dx j hj
      rw [ea (by omega)] at this
      simpa using this
     simp only
     rw [this]
    cbv
    exact ⟨.i e⟩
   ·have bO:x≠v:=aL
    cbv
    exact ⟨i+1,by have bD:=h1;exact a8,by exact aM,⟨⟨aO,λj hj=>by
     by_cases l8:j=i
     ·subst l8;rw [hx];simpa using bO
     ·exact dx j (by omega)⟩,bX⟩⟩
  ·have cz:i=root.length:=by have h':dv (i:Int) (root.length:Int)=false:=h.out;simp only [dv,decide_eq_false_iff_not] at h';exact bT
   have e:uK ⟨⟨ins,gs,outs,dr⟩,root,leaves,v⟩=-1:=by
    unfold uK
    rw [if_neg hv]
    have:root.findIdx? (λz=>decide (z=v))=none:=by
     rw [zM]
     intro x hx
     obtain ⟨j,hj⟩:=lN hx
     have dG:=(a7.1 hj).1
     have:=dx j (by have:j < root.length:=dG;omega)
     rw [hj] at this
     simpa using this
    simp only
    rw [this]
   cbv
   exact ⟨.ic e.symm⟩
structure qt (n:Net) (v:Nat) (l:List Int):Prop where
 len:l.length<=4
 mem:∀x∈l,0<=x/\x < (v:Int)
 read:mb n v=true->l.length=3
theorem L7 {i n:Nat} (h:dv (i:Int) (n:Int)=false) (hi:i<=n):i=n:=by
 have h':¬(i:Int) < n:=by simpa [dv] using h
 omega
structure Qt (n:Net) (lv:List (List Int)):Prop where
 len:lv.length=2+n.ins.length+n.aY.length
 ok:∀(u:Nat) (l:List Int),2+n.ins.length<=u->lv[u]?=some l->qt n u l
def Mk (nd:List Bool) (x:Int):Prop:=nd[x.toNat]?=some true
theorem Mk.set {nd:List Bool} {x:Int} (h:Mk nd x) (y:Nat):Mk (nd.set y true) x:=by
 unfold Mk at *
 rw [gL]
 have hl:=(a7.1 h).1
 split
 ·rename_i e;subst e;simp [hl]
 ·exact h
theorem Mk.new {nd:List Bool} {x:Int} (h:x.toNat < nd.length):Mk (nd.set x.toNat true) x:=by
 unfold Mk
 rw [gL];simp [h]
structure zf (N i:Nat) (ds:List Int) (nd:List Bool):Prop where
 le:i<=ds.length
 len:nd.length=N
 dr:∀(j:Nat) (d:Int),j < i->ds[j]?=some d->Mk nd d
theorem zf.nil (N:Nat) (dr:List Int):zf N 0 dr (List.replicate N false):=⟨cg _,vr,λj d h=>by omega⟩
theorem zf.add {N i:Nat} {dr:List Int} {nd:List Bool} (h:zf N i dr nd) {d:Int} (hd:dr[i]?=some d) (h0:0<=d) (h1:d < N):zf N (i+1) dr (nd.set d.toNat true):=by
 refine ⟨(a7.1 hd).1,by simp [h.len],λj e hj he=>?_⟩
 by_cases l8:j=i
 ·subst l8;rw [hd] at he;cases he
  exact Mk.new (by rw [h.len];omega)
 ·exact (h.dr j e (by omega) he).set _
structure rH (n:Net) (lv:List (List Int)) (k:Nat) (nd:List Bool):Prop where
 len:nd.length=2+n.ins.length+n.aY.length
 dr:∀d∈n.bj,Mk nd d
 cl:∀(u:Nat) (l:List Int),k<=u->2+n.ins.length<=u->nd[u]?=some true->lv[u]?=some l->∀x∈l,Mk nd x
theorem rH.of {n:Net} {lv:List (List Int)} {i:Nat} {nd:List Bool} (h:zf (2+n.ins.length+n.aY.length) i n.bj nd) (hi:i=n.bj.length):rH n lv (2+n.ins.length+n.aY.length) nd :=
 ⟨h.len,λd hd=>by obtain ⟨j,hj,e⟩:=GZ.1 hd;exact h.dr j d (by omega) (by rw [ea hj,e]),λu l hu _ hn _ x _=>by have:=(a7.1 hn).1;rw [h.len] at this;omega⟩
structure Bk (n:Net) (lv:List (List Int)) (k j:Nat) (l:List Int) (nd:List Bool):Prop where
 c:rH n lv (k+1) nd
 le:j<=l.length
 mks:∀(i:Nat) (x:Int),i < j->l[i]?=some x->Mk nd x
theorem rH.start {n:Net} {lv:List (List Int)} {k:Nat} {nd:List Bool} (h:rH n lv (k+1) nd) (l:List Int):Bk n lv k 0 l nd:=⟨h,cg _,λi x h=>by omega⟩
theorem Bk.add {n:Net} {lv:List (List Int)} {k j:Nat} {l:List Int} {nd:List Bool} (h:Bk n lv k j l nd) (hv:qt n k l) {x:Int} (hx:l[j]?=some x) (hk:k < nd.length):Bk n lv k (j+1) l (nd.set x.toNat true):=by
 have hm:=hv.mem x (cf hx)
 refine ⟨⟨by simp [h.c.len],λd hd=>(h.c.dr d hd).set _,λu l' hu h2 hn hl y hy=>?_⟩,(a7.1 hx).1,λi y hi hy=>?_⟩
 ·refine (h.c.cl u l' hu h2 ?_ hl y hy).set _
  rw [gL] at hn
  split at hn
  ·omega
  ·exact hn
 ·by_cases l8:i=j
  ·subst l8;rw [hx] at hy;cases hy
   exact Mk.new (by omega)
  ·exact (h.mks i y (by omega) hy).set _
theorem Bk.out {n:Net} {lv:List (List Int)} {k j:Nat} {l:List Int} {nd:List Bool} (h:Bk n lv k j l nd) (hl:lv[k]?=some l) (hd:nd[k]?=some false\/j=l.length):rH n lv k nd:=by
 refine ⟨h.c.len,h.c.dr,λu l' hu h2 hn ja y hy=>?_⟩
 by_cases huk:u=k
 ·subst huk
  rw [hl] at ja;cases ja
  rcases hd with hd|hd
  ·rw [hd] at hn;cases hn
  ·obtain ⟨i,hi,e⟩:=GZ.1 hy
   exact h.mks i y (by omega) (by rw [ea hi,e])
 ·exact h.c.cl u l' (by omega) h2 hn ja y hy
structure AK where
 v:Nat
 cells:List Cell
 root:List Int
 rl:List (List Int)
structure yK (n:Net) (nd:List Bool) (x:AK):Prop where
 lo:2+n.ins.length<=x.v
 hi:x.v<=2+n.ins.length+n.aY.length
 cl:x.cells.length=x.root.length
 gl:x.root.length+(2+n.ins.length)<=x.v
 rl:x.rl.length=x.root.length
 mem:∀u:Nat,2+n.ins.length<=u->u < x.v->nd[u]?=some true->(u:Int)∈x.root
 cells:∀(i:Nat) (c:Cell),x.cells[i]?=some c->Q4 (2+n.ins.length+i) c
theorem yK.nil (n:Net) (nd:List Bool):yK n nd ⟨2+n.ins.length,[],[],[]⟩:=⟨fb _,by show 2+n.ins.length<=_;omega,rfl,by simp,rfl,λu h1 h2=>by have:u < 2+n.ins.length:=h2;omega,λi c h=>by simp at h⟩
theorem yK.skip {n:Net} {nd:List Bool} {v:Nat} {cells:List Cell} {root:List Int} {rl:List (List Int)} (h:yK n nd ⟨v,cells,root,rl⟩) (hv:v < 2+n.ins.length+n.aY.length) (hd:nd[v]?=some false):yK n nd ⟨v+1,cells,root,rl⟩ :=
 ⟨by have:=h.lo;show 2+n.ins.length<=v+1;exact BH this,hv,h.cl,by have:=h.gl;simp only at this ⊢;omega,h.rl,λu h1 h2 hu=>by
  have h2:u < v+1:=h2
  by_cases e:u=v
  ·subst e;rw [hd] at hu;cases hu
  ·exact h.mem u h1 (show u < v by omega) hu,h.cells⟩
theorem yK.add {n:Net} {nd:List Bool} {v:Nat} {cells:List Cell} {root:List Int} {rl:List (List Int)} (h:yK n nd ⟨v,cells,root,rl⟩) (hv:v < 2+n.ins.length+n.aY.length) {c:Cell} (hc:Q4 (2+n.ins.length+root.length) c) (l:List Int):yK n nd ⟨v+1,cells++[c],root++[(v:Int)],rl++[l]⟩:=by
 have j3:cells.length=root.length:=h.cl
 refine ⟨by have:=h.lo;show 2+n.ins.length<=v+1;exact BH this,hv,by simp [j3],by have:=h.gl;simp at this ⊢;omega,by have:=h.rl;simpa using this,λu h1 h2 hu=>?_,λi d hd=>?_⟩
 ·have h2:u < v+1:=h2
  by_cases e:u=v
  ·subst e;simp
  ·exact vv _ (h.mem u h1 (show u < v by omega) hu)
 ·have hd:(cells++[c])[i]?=some d:=hd
  rw [wN] at hd
  split at hd
  ·exact h.cells i d hd
  ·rename_i aO
   have hi:i - cells.length=0:=by
    have:=(a7.1 hd).1
    simp at this;omega
   rw [hi] at hd
   simp at hd
   subst hd
   have:i=root.length:=by
    have:i - cells.length=0:=hi
    omega
   rw [this];exact hc
structure Fy (n:Net) (R j:Nat) (l:List Int):Prop where
 len:l.length=j
 ok:∀s∈l,0<=s/\s < 2+(n.ins.length:Int)+R
theorem Fy.nil (n:Net) (R:Nat):Fy n R 0 []:=⟨rfl,by simp⟩
theorem Fy.add {n:Net} {R j:Nat} {l:List Int} (h:Fy n R j l) {s:Int} (hs:0<=s/\s < 2+(n.ins.length:Int)+R):Fy n R (j+1) (l++[s]):=by
 refine ⟨by simp [h.len],λx hx=>?_⟩
 rcases dD.1 hx with hx|hx
 ·exact h.ok x hx
 ·simp at hx;subst hx;exact hs
theorem abo.of {n:Net} {nd:List Bool} {st:AK} (hn:abn n) (h:yK n nd st) {dr:List Int} (hd:Fy n st.root.length n.bj.length dr):abo n ⟨n.ins.length,st.cells,dr⟩:=by
 have h1:=h.gl
 have h2:=h.hi
 have h3:=h.cl
 exact ⟨rfl,by simp only;omega,h.cells,by rw [<-hn.Sy];exact hd.len,λd hm=>by have:=hd.ok d hm;simp only;omega⟩
def jz (nd:List Bool) (I v:Nat):List Int:=((List.range v).filter λu=>nd.getD u false&&decide (2+I<=u)).map λu:Nat=>(u:Int)
theorem Hw {nd:List Bool} {I v:Nat} {x:Int}:x∈jz nd I v↔∃u:Nat,x=(u:Int)/\u < v/\nd[u]?=some true/\2+I<=u:=by
 unfold jz
 simp only [iM,lP,mQ,cG,decide_eq_true_eq,En]
 constructor
 ·rintro ⟨u,⟨a,b,c⟩,rfl⟩;exact ⟨u,rfl,a,b,c⟩
 ·rintro ⟨u,rfl,a,b,c⟩;exact ⟨u,⟨a,b,c⟩,rfl⟩
theorem ajJ (nd:List Bool) (I v:Nat):dU (jz nd I v):=by
 unfold jz dU
 rw [qT]
 exact (BR.filter _).imp λh=>by omega
theorem WK (nd:List Bool) (I:Nat):jz nd I (2+I)=[]:=by
 refine Er.2 λx hx=>?_
 obtain ⟨u,_,h1,_,h2⟩:=Hw.1 hx
 omega
theorem ait {nd:List Bool} {I v:Nat} (h:nd[v]?=some false):jz nd I (v+1)=jz nd I v:=by
 unfold jz
 rw [BL,x2]
 have hp:(nd.getD v false&&decide (2+I<=v))=false:=by rw [List.getD_eq_getElem?_getD,h];rfl
 rw [Pj (by rw [hp];exact Bool.false_ne_true),List.filter_nil,x6]
theorem ajK {nd:List Bool} {I v:Nat} (h:nd[v]?=some true) (hv:2+I<=v):jz nd I (v+1)=jz nd I v++[(v:Int)]:=by
 unfold jz
 rw [BL,x2]
 have hp:(nd.getD v false&&decide (2+I<=v))=true:=by rw [List.getD_eq_getElem?_getD,h];simp [hv]
 rw [KK (by rw [hp]),List.filter_nil,qm]
 rfl
theorem YQ (nd:List Bool) (I:Nat) {v:Nat}:∀{k:Nat},∃r,jz nd I (v+k)=jz nd I v++r
 | 0=>⟨[],by simp⟩
 | k+1=>by
  obtain ⟨r,hr⟩:=YQ nd I (v:=v) (k:=k)
  have:∃t,jz nd I (v+k+1)=jz nd I (v+k)++t:=by
   unfold jz
   rw [BL,x2,qm]
   exact ⟨_,rfl⟩
  obtain ⟨t,ht⟩:=this
  exact ⟨r++t,by rw [show v+(k+1)=v+k+1 by omega,ht,hr,List.append_assoc]⟩
theorem YR (nd:List Bool) (I:Nat):∀k:Nat,(jz nd I (2+I+k)).length<=k
 | 0=>by rw [qV,WK];exact fb _
 | k+1=>by
  have ih:=YR nd I k
  unfold jz at *
  rw [show 2+I+(k+1)=2+I+k+1 by omega,BL,x2,qm,List.length_append]
  have:(List.map (λu:Nat=>(u:Int)) (List.filter (λu=>nd.getD u false&&decide (2+I<=u)) [2+I+k])).length<=1:=by
   rw [jP]
   exact ot (D9 _ _) (fb _)
  omega
theorem amv {n:Net} {nd:List Bool} {v k:Nat} {rl:List (List Int)} {x:Int} (h0:0<=x) (hx:x < v) (hm:2+(n.ins.length:Int)<=x->Mk nd x):uK ⟨n,jz nd n.ins.length v,rl,x⟩=(eu n.ins.length (jz nd n.ins.length (v+k)) x).getD 0:=by
 unfold uK eu
 simp only
 by_cases hl:x < 2+(n.ins.length:Int)
 ·rw [if_pos hl,if_pos ⟨h0,hl⟩];rfl
 ·rw [if_neg hl,if_neg (λh=>hl h.2)]
  obtain ⟨r,hr⟩:=YQ nd n.ins.length (v:=v) (k:=k)
  have fi:x∈jz nd n.ins.length v:=Hw.2 ⟨x.toNat,by omega,by omega,hm (by omega),by omega⟩
  rw [hr,List.findIdx?_append]
  cases hf:(jz nd n.ins.length v).findIdx? (λz=>decide (z=x)) with
  | none =>
   exfalso
   rw [zM] at hf
   have:=hf x fi
   simp at this
  | some i=>rfl
def nS (lv:List (List Int)) (r:Int):List Int:=lv.getD r.toNat []
def u9 (I:Nat) (gs:List Gate) (r:Int) (l:List Int):Int × Int:=match fy I gs r.toNat with
 | some g=>if g.op=7 then (0,g.n) else ((nj I gs r l).1,-1)
 | none=>(0,-1)
def w7 (I:Nat) (gs:List Gate) (R:List Int) (lv:List (List Int)) (r:Int):Cell:=⟨(nS lv r).map λx=>(eu I R x).getD 0,(u9 I gs r (nS lv r)).1,(u9 I gs r (nS lv r)).2⟩
def Sound (n:Net) (lv:List (List Int)) (nd:List Bool):Prop:=∀v:Nat,nd[v]?=some true->oK (λu=>if u < 2+n.ins.length then [] else lv.getD u []) (λu=>∃d∈n.bj,d.toNat=u) v
theorem Sound.nil (n:Net) (lv:List (List Int)) (N:Nat):Sound n lv (List.replicate N false):=λv h=>by rw [sY] at h;split at h<;>cases h
theorem Sound.put {n:Net} {lv:List (List Int)} {nd:List Bool} (h:Sound n lv nd) {x:Nat} (hx:oK (λu=>if u < 2+n.ins.length then [] else lv.getD u []) (λu=>∃d∈n.bj,d.toNat=u) x):Sound n lv (nd.set x true):=λv hv=>by
 rw [gL] at hv
 split at hv
 ·rename_i e;subst e;exact hx
 ·exact h v hv
theorem Sound.y9 {n:Net} {lv:List (List Int)} {nd:List Bool} (h:Sound n lv nd) {d:Int} (hd:d∈n.bj):Sound n lv (nd.set d.toNat true):=h.put (.base ⟨d,hd,rfl⟩)
theorem Sound.leaf {n:Net} {lv:List (List Int)} {nd:List Bool} (h:Sound n lv nd) {v:Nat} (hv:nd[v]?=some true) (h2:2+n.ins.length<=v) {l:List Int} (hl:lv[v]?=some l) {x:Int} (hx:x∈l):Sound n lv (nd.set x.toNat true) :=
 h.put (.step (h v hv) (by rw [if_neg (by omega),List.getD_eq_getElem?_getD,hl];exact hx))
structure Rp (n:Net) (lv:List (List Int)) (m:dK) (R:List Int) (V:List (List Int)):Prop where
 ex:∃nd:List Bool,rH n lv (2+n.ins.length) nd/\Sound n lv nd/\R=jz nd n.ins.length (2+n.ins.length+n.aY.length)/\V=R.map (nS lv) /\
  m=⟨n.ins.length,R.map (w7 n.ins.length n.aY R lv),n.bj.map λx=>(eu n.ins.length R x).getD 0⟩
def Good (I:Nat) (gs:List Gate) (lv:List (List Int)):Prop:=∀(i:Nat) (g:Gate) (l:List Int),gs[i]?=some g->lv[2+I+i]?=some l->(∀x∈l,0<=x/\x < 2+(I:Int)+i)/\((g.op=7/\l=ca g)\/(g.op≠7/\(eK I gs (2+(I:Int)+i) l).isSome=true))
theorem aiu {I:Nat} {gs:List Gate} {lv:List (List Int)} (hg:Good I gs lv) {i:Nat} {g:Gate} {l:List Int} (h1:gs[i]?=some g) (h2:lv[2+I+i]?=some l) {R:List Int} (hs:∀x∈l,∃s,eu I R x=some s) :
  cellOf I gs (2+(I:Int)+i) l (eu I R)=(w7 I gs R lv (2+(I:Int)+i),0):=by
 have hr:(2+(I:Int)+i).toNat=2+I+i:=by omega
 have uU:fy I gs (2+(I:Int)+i).toNat=some g:=by rw [hr];exact lB.2 ⟨i,rfl,h1⟩
 have cV:nS lv (2+(I:Int)+i)=l:=by unfold nS;rw [hr,List.getD_eq_getElem?_getD,h2];rfl
 unfold cellOf w7 u9
 rw [GR hs,cV]
 simp only [if_true,uU]
 obtain ⟨hm,hk⟩:=hg i g l h1 h2
 rcases hk with ⟨h7,e⟩|⟨h7,hc⟩
 ·rw [if_pos h7,if_pos h7,if_pos e]
 ·rw [if_neg h7,if_neg h7]
  have bO:l≠[2+(I:Int)+i]:=λe=>by
   have:=(hm (2+(I:Int)+i) (by rw [e];simp)).2
   omega
  rw [if_neg bO]
  have:(nj I gs (2+(I:Int)+i) l).2=0:=by
   unfold nj
   cases hq:eK I gs (2+(I:Int)+i) l with
   | none=>rw [hq] at hc;cases hc
   | some k=>rfl
  rw [if_pos this]
theorem aiv {n:Net} {lv:List (List Int)} {m:dK} {R:List Int} {V:List (List Int)} (G:cb n.ins.length n.aY) (hd:∀d∈n.bj,0<=d/\d < 2+(n.ins.length:Int)+n.aY.length) (cV:lv.length=2+n.ins.length+n.aY.length) (hg:Good n.ins.length n.aY lv) (h:Rp n lv m R V) :
  vE n.ins.length n.aY n.bj m ⟨R,V⟩=true:=by
 obtain ⟨nd,hc,_,hR,rfl,rfl⟩:=h.ex
 have xd:∀r∈R,2+(n.ins.length:Int)<=r/\r < 2+(n.ins.length:Int)+n.aY.length:=λr hr=>by
  rw [hR] at hr
  obtain ⟨u,rfl,h1,_,h2⟩:=Hw.1 hr
  omega
 have kp:dU R:=by rw [hR];exact ajJ _ _ _
 have lg:∀x:Int,2+(n.ins.length:Int)<=x->x < 2+(n.ins.length:Int)+n.aY.length->Mk nd x->x∈R:=λx h1 h2 hm=>by rw [hR];exact Hw.2 ⟨x.toNat,by omega,by omega,hm,by omega⟩
 have vC:nP n.ins.length n.aY (eu n.ins.length R) (R.map λr=>(cellOf n.ins.length n.aY r (nS lv r) (eu n.ins.length R)).1) R (R.map (nS lv))=true/\∀r∈R,(cellOf n.ins.length n.aY r (nS lv r) (eu n.ins.length R)).1=w7 n.ins.length n.aY R lv r:=by
  have key:∀r∈R,cellOf n.ins.length n.aY r (nS lv r) (eu n.ins.length R)=(w7 n.ins.length n.aY R lv r,0):=λr hr=>by
   have hb:=xd r hr
   obtain ⟨i,hi⟩:∃i:Nat,r=2+(n.ins.length:Int)+i:=⟨(r - 2 - n.ins.length).toNat,by omega⟩
   obtain ⟨g,iB⟩:=bK (l:=n.aY) (i:=i) (by omega)
   obtain ⟨l,hl⟩:=bK (l:=lv) (i:=2+n.ins.length+i) (by omega)
   have Gh:r.toNat=2+n.ins.length+i:=by omega
   have Dj:nS lv r=l:=by unfold nS;rw [Gh,List.getD_eq_getElem?_getD,hl];rfl
   rw [hR] at hr
   obtain ⟨u,e,_,hu,_⟩:=Hw.1 hr
   have hu':u=2+n.ins.length+i:=by omega
   subst hu'
   rw [Dj,hi]
   refine aiu hg iB hl λx hx=>Hi ?_
   have hxb:=(hg i g l iB hl).1 x hx
   by_cases h2:x < 2+(n.ins.length:Int)
   ·exact .inl ⟨hxb.1,h2⟩
   ·exact .inr (lg x (by omega) (by omega) (hc.cl _ l (by omega) (by omega) hu hl x hx))
  exact ⟨Pb λr hr=>by rw [key r hr],λr hr=>by rw [key r hr]⟩
 have CH:R.map (w7 n.ins.length n.aY R lv)=R.map λr=>(cellOf n.ins.length n.aY r (nS lv r) (eu n.ins.length R)).1:=s6 λr hr=>(vC.2 r hr).symm
 unfold vE
 simp only [cG,decide_eq_true_eq,jP]
 refine ⟨⟨⟨⟨trivial,trivial⟩,trivial⟩,trivial⟩,O9 kp λr hr=>by have:=xd r hr;omega,by rw [CH];exact vC.1,Pa λd oM=>Hi ?_⟩
 have:=hd d oM
 by_cases jB:d < 2+(n.ins.length:Int)
 ·exact .inl ⟨this.1,jB⟩
 ·exact .inr (lg d (by omega) this.2 (hc.dr d oM))
@[reducible] noncomputable def IP:Vc.Spec where
 α:=NV
 args x:=[.agg (jX x.n),.i .i64 (λ_=>x.v)]
 pre x:=cb x.n.ins.length x.n.aY/\0<=x.v/\x.v < fg x.n
 res x:=.b (λ_=>mb x.n x.v)
theorem L8:dt (PP ()) 107 IP:=by
 refine e6 (pS 0 0) (fo Tryz.func107) (λa=>⟨mr a.n,trivial,trivial⟩) (λa=>trivial) ?_
 rintro ⟨⟨ins,gs,outs,dr⟩,v⟩ hx
 obtain ⟨hn,h0,h1⟩:cb ins.length gs/\0<=v/\v < 2+(ins.length:Int)+gs.length:=hx
 have uI:2+ins.length+gs.length<=600:=hn.j6
 have hw:IntKind.i64.wrap (2+(ins.length:Int))=2+(ins.length:Int):=by rw [cW (by omega) (by omega)]
 refine ⟨?_⟩
 cbv
 refine ⟨λh=>?_,λh=>?_⟩
 ·have hv:2+(ins.length:Int)<=v:=by have h':fU (IntKind.i64.wrap (2+(ins.length:Int))) v=true:=h.out;rw [hw] at h';simp only [fU,decide_eq_true_eq] at h';exact h'
  obtain ⟨g,hg⟩:=bK (l:=gs) (i:=(v - 2 - ins.length).toNat) (by exact bT)
  have mH:(0<=IntKind.i64.wrap (IntKind.i64.wrap (v - 2) - (ins.length:Int)))/\gs[(IntKind.i64.wrap (IntKind.i64.wrap (v - 2) - (ins.length:Int))).toNat]?=some g:=by
   rw [cW (n:=v - 2) (by exact bT) (by exact bT),cW (by exact bT) (by exact bT)];exact ⟨by exact bT,hg⟩
  have e:mb ⟨ins,gs,outs,dr⟩ v=fk g.op 7:=by
   unfold mb fk
   simp only
   rw [hg]
   simp [hv]
  clear h
  cbv
  refine ⟨g,⟨mH⟩,?_⟩
  cbv
  exact ⟨.b e.symm⟩
 ·have hv:¬2+(ins.length:Int)<=v:=by have h':fU (IntKind.i64.wrap (2+(ins.length:Int))) v=false:=h.out;rw [hw] at h';simp only [fU,decide_eq_false_iff_not] at h';exact h'
  have e:mb ⟨ins,gs,outs,dr⟩ v=false:=by unfold mb;simp [hv]
  clear h
  cbv
  exact ⟨.bc e.symm⟩
structure vY (ops:List Int) (i:Nat) (o:List Int):Prop where
 le:i<=ops.length
 inc:dU o
 mem:∀z,z∈o↔z∈ops.take i/\2<=z
 len:o.length<=i
theorem vY.nil (ops:List Int):vY ops 0 []:=⟨cg _,.nil,by simp,cg _⟩
theorem vY.put {ops o:List Int} {i:Nat} (h:vY ops i o) {x:Int} (hx:ops[i]?=some x) (h2:2<=x):vY ops (i+1) (gE o [x]):=by
 refine ⟨(a7.1 hx).1,GQ _ _,λz=>?_,?_⟩
 ·rw [xY,h.mem z,pJ hx,dD,gD]
  constructor
  ·rintro (⟨a,b⟩|rfl)
   ·exact ⟨.inl a,b⟩
   ·exact ⟨.inr rfl,h2⟩
  ·rintro ⟨a|a,b⟩
   ·exact .inl ⟨a,b⟩
   ·exact .inr a
 ·have:=ahr (a:=o) (b:=[x])
  have:=h.len
  simp at *;omega
theorem vY.off {ops o:List Int} {i:Nat} (h:vY ops i o) {x:Int} (hx:ops[i]?=some x) (h2:¬2<=x):vY ops (i+1) o:=by
 refine ⟨(a7.1 hx).1,h.inc,λz=>?_,BH h.len⟩
 rw [h.mem z,pJ hx,dD,gD]
 constructor
 ·rintro ⟨a,b⟩;exact ⟨.inl a,b⟩
 ·rintro ⟨a|rfl,b⟩
  ·exact ⟨a,b⟩
  ·exact absurd b h2
structure H4 (ops o:List Int):Prop where
 inc:dU o
 mem:∀z,z∈o↔z∈ops/\2<=z
 len:o.length<=3
@[reducible] noncomputable def aqO:jT where
 α:=NV
 args x:=[.agg (jX x.n),.i .i64 (λ_=>x.v)]
 pre x:=cb x.n.ins.length x.n.aY/\0<=x.v/\x.v < fg x.n
 β:=List Int
 post x y:=H4 (jk x.n.ins.length x.n.aY x.v) y
 res x y:=.sl 1 bC (λ_=>y)
theorem XK (I:Nat) (gs:List Gate) (v:Int):(jk I gs v).length<=3:=by
 unfold jk
 split
 ·exact (s7 _).2
 ·exact cg _
noncomputable def aqP (n m:Nat):Ctx:=iD n m [(54,Tryz.f54),(123,Tryz.f123)] [] [54,123] [] [] [] [35]
theorem aaJ (n m:Nat):CB PP (aqP n m):=iH n m ⟨fo Tryz.func54,fo Tryz.func123,trivial⟩ trivial
theorem amw:kQ PP 114 aqO:=by
 refine qZ (aaJ 0 0) (fo Tryz.func114) (λa=>⟨mr a.n,trivial,trivial⟩) (λa y=>(λx=>(cP x).1)) ?_
 rintro ⟨n,v⟩ hx
 have hx:cb n.ins.length n.aY/\0<=v/\v < fg n:=hx
 refine ⟨?_⟩
 cbv
 refine fh.rel ED ⟨n,v⟩ (by exact bW) ⟨hx⟩ λops jw=>?_
 have jw:ops=jk n.ins.length n.aY v:=jw.out
 have fj:ops.length<=3:=by rw [jw];exact XK _ _ _
 have azv:dU ([]:List Int):=.nil
 cbv
 refine Sat.cU (aaJ 0 0) 1 5 [] (λx:Nat × List Int=>[(5,.sl 1 bC λ_=>x.2),(6,.sl 1 bC λ_=>ops),(7,.i .i64 λ_=>(x.1:Int))]) (λ_=>[])
  (λx=>vY ops x.1 x.2) (λx=>ops.length - x.1) (0,[]) (by exact aM) (by exact aM) (vY.nil ops) ?_
 rintro ⟨i,o⟩ hN
 have hN:vY ops i o:=hN
 have hi:=hN.le
 have hl:=hN.len
 have h0:=n0 i
 have h1:=cX (i:=i) (by omega)
 cbv
 refine ⟨λh=>?_,λh=>?_⟩
 ·have bQ:i < ops.length:=aL
  have bX:ops.length - (i+1) < ops.length - i:=by omega
  refine (bK bQ).elim λx hx=>?_
  have u1:o.length<=1000000:=by omega
  have u2:[x].length<=1000000:=by show 1<=1000000;decide
  have u3:dU [x]:=by simp
  have u4:=hN.inc
  clear h
  cbv
  refine ⟨x,⟨h0,hx⟩,?_⟩
  cbv
  refine ⟨λh=>?_,λh=>?_⟩
  ·have jB:2<=x:=Iz h.out
   have hp:=hN.put hx jB
   clear h
   cbv
   refine ⟨x,⟨h0,hx⟩,?_⟩
   cbv
   refine fh.rel aab ⟨o,[x]⟩ (by exact bW) ⟨u1,u2,u4,u3⟩ λu hu=>?_
   have hu:u=gE o [x]:=hu.out
   rw [<-hu] at hp
   cbv
   exact ⟨(i+1,u),by have bD:=h1;exact a8,by exact aM,⟨hp,bX⟩⟩
  ·have jB:¬2<=x:=Ej.2 (Fo h.out)
   have hp:=hN.off hx jB
   clear h
   cbv
   exact ⟨(i+1,o),by have bD:=h1;exact a8,by exact aM,⟨hp,bX⟩⟩
 ·have bQ:¬i < ops.length:=aL
  have du:H4 (jk n.ins.length n.aY v) o:=⟨hN.inc,λz=>by rw [hN.mem z,iL (by omega),jw],by omega⟩
  clear h
  cbv
  exact .mk' o ⟨by exact bW⟩ du
theorem akV {I:Nat} {gs:List Gate} (G:cb I gs) {i:Nat} {g:Gate} (hg:gs[i]?=some g) (h7:g.op≠7) {o:List Int} (h:H4 (ca g) o):(eK I gs (2+(I:Int)+i) o).isSome=true/\∀x∈o,0<=x/\x < 2+(I:Int)+i:=by
 have hl:=(a7.1 hg).1
 have hm:∀x∈o,0<=x/\x < 2+(I:Int)+i:=λx hx=>G.ops hg x ((h.mem x).1 hx).1
 refine ⟨(BF G).2 ⟨⟨by omega,by omega,by have:=h.len;omega,λx hx=>⟨((h.mem x).1 hx).2,by have:=hm x hx;omega⟩,h.inc⟩,.gate hg h7 λx hx=>?_,λx hx=>?_⟩,hm⟩
 ·by_cases h2:2<=x
  ·exact .mem ((h.mem x).2 ⟨hx,h2⟩)
  ·exact .const (G.ops hg x hx).1 (by omega)
 ·have hr:(2+(I:Int)+i).toNat=2+I+i:=by omega
  refine .step (u:=(2+(I:Int)+i).toNat) (.base rfl) (qp.2 ⟨λpn=>?_,g,by rw [hr];exact lB.2 ⟨i,rfl,hg⟩,h7,((h.mem x).1 hx).1⟩)
  have:=(hm _ pn).2
  omega
structure adf where
 n:Net
 root:Int
 b:List Int
structure EO (r:Int) (L:List Int):Prop where
 len:L.length<=4
 mem:L=[r]\/∀x∈L,0<=x/\x < r
theorem EO.le {r:Int} {L:List Int} (h:EO r L) (h0:0<=r):∀x∈L,0<=x/\x<=r:=λx hx=>by
 rcases h.mem with e|e
 ·subst e;simp at hx;omega
 ·have:=e x hx;omega
theorem EO.cut {r:Int} {L:List Int} (h:EO r L) {i:Nat} (hi:i < L.length):∀x∈(L.take i++L.drop (i+1)),0<=x/\x < r:=λx hx=>by
 rcases h.mem with e|e
 ·subst e
  have:i=0:=by simpa using hi
  subst this
  simp at hx
 ·refine e x ?_
  rcases dD.1 hx with hx|hx
  ·exact qk hx
  ·exact tW hx
structure Ob (r:Int) (n k:Nat) (u:List Int):Prop where
 le:k<=n
 len:u.length<=3+k
 mem:∀x∈u,0<=x/\x < r
structure xh (I:Nat) (gs:List Gate) (r:Int) (L:List Int):Prop where
 ok:L=[r]\/(∀x∈L,0<=x/\x < r)/\(eK I gs r L).isSome=true
theorem xh.pick {I:Nat} {gs:List Gate} {r:Int} {L:List Int} (h:xh I gs r L):EO r L:=by
 rcases h.ok with e|⟨a,b⟩
 ·subst e;exact ⟨by show 1<=4;decide,.inl rfl⟩
 ·cases hc:eK I gs r L with
  | none=>rw [hc] at b;cases b
  | some l=>exact ⟨(DX hc).len,.inr a⟩
theorem ajL {I:Nat} {gs:List Gate} (G:cb I gs) {v:Int} (h0:0<=v) {x:Int} (hx:x∈jk I gs v):0<=x/\x < v:=by
 unfold jk at hx
 split at hx
 ·rename_i g hg
  obtain ⟨i,e,hi⟩:=lB.1 hg
  have:=G.ops hi x hx
  omega
 ·cases hx
@[reducible] noncomputable def abN:o6 where
 α:=adf
 args x:=[.agg (jX x.n),.i .i64 (λ_=>x.root),.own 0]
 io x:=[.dyn 5 1 pq (λ_=>x.b)]
 pre x:=cb x.n.ins.length x.n.aY/\2+(x.n.ins.length:Int)<=x.root/\x.root < fg x.n/\x.b.length<=1000/\∀z∈x.b,0<=z/\z<=255
 β:=List Int
 post x y:=xh x.n.ins.length x.n.aY x.root y
 mv:=[]
 res x y:=.agg [.i .i64 (λ_=>x.root),.sl 1 bC (λ_=>y)]
 l7 x y:=[.dyn 5 1 pq (λ_=>x.b)]
theorem ajM (a:adf) (y:List Int):LF (abN.res a y):=⟨trivial,(λx=>(cP x).1),trivial⟩
noncomputable def cPx (n m:Nat):Ctx:=iD n m [(54,Tryz.f54),(123,Tryz.f123),(185,Tryz.f185)] [] [54,123,185]
theorem RU (n m:Nat):CB PP (cPx n m):=iH n m ⟨fo Tryz.func54,fo Tryz.func123,fo Tryz.func185,trivial⟩ trivial
theorem akW:nh PP 113 abN:=by
 refine sA (RU 0 0) (fo Tryz.func113) (λa y=>rfl) (λa=>⟨rfl,rfl⟩) .nil ?_
 rintro ⟨⟨ins,gs,outs,dr⟩,r,b⟩ hx
 obtain ⟨hn,FK,xI,hb,oN⟩:cb ins.length gs/\2+(ins.length:Int)<=r/\r < fg ⟨ins,gs,outs,dr⟩/\b.length<=1000/\∀z∈b,0<=z/\z<=255:=hx
 have uI:2+ins.length+gs.length<=600:=hn.j6
 have mM:fg ⟨ins,gs,outs,dr⟩=((2+ins.length+gs.length:Nat):Int):=by unfold fg;simp only;omega
 have aqQ:0<=r:=by omega
 have qb:IntKind.i64.wrap (2+(ins.length:Int))=2+(ins.length:Int):=by rw [cW (by omega) (by omega)]
 refine ⟨?_⟩
 cbv
 refine Sat.cU (RU 0 0) 5 8 [] (λx:Nat × List Int=>[(8,.i .i64 λ_=>(x.1:Int))]) (λx=>[(4,.fix 214 [.i .i64 (λ_=>r),.sl 1 bC (λ_=>x.2)])])
  (λx=>x.1<=b.length/\xh ins.length gs r x.2) (λx=>b.length - x.1) (0,[r]) (by exact aM) (by exact aM) ⟨cg _,⟨.inl rfl⟩⟩ ?_
 rintro ⟨i,L⟩ ⟨hi,ze⟩
 have hi:i<=b.length:=hi
 have ze:xh ins.length gs r L:=ze
 have hL:=ze.pick
 have h0:=n0 i
 have h1:=cX (i:=i) (by omega)
 cbv
 refine ⟨λh=>?_,λh=>?_⟩
 ·have bQ:i < b.length:=aL
  have bX:b.length - (i+1) < b.length - i:=by omega
  refine (bK bQ).elim λz hz=>?_
  have hzb:=oN z (cf hz)
  have rv:0<=(i:Int)/\(i:Int).toNat < b.length:=⟨by omega,by omega⟩
  have hbz:b[(i:Int).toNat]?=some z:=hz
  cbv
  refine ⟨λh=>?_,λh=>?_⟩
  ·cbv
   exact ⟨L,[],[],⟨by exact bW,trivial⟩,by exact aM,⟨ze⟩⟩
  ·have uZ:L.length≠0:=aL
   have Gg:=hL.len
   have hE:∃k:Nat,(IntKind.i64.wrap z).tmod (L.length:Int)=(k:Int)/\k < L.length:=by
    rw [cW (n:=z) (by omega) (by omega)]
    have h1:=PD (L.length:Int) hzb.1
    have h2:=Pt z (show (0:Int) < L.length by omega)
    exact ⟨(z.tmod (L.length:Int)).toNat,by omega,by omega⟩
   refine hE.elim λk hk=>?_
   clear hE
   refine (bK hk.2).elim λv hv=>?_
   have mH:0<=(IntKind.i64.wrap z).tmod (L.length:Int)/\L[((IntKind.i64.wrap z).tmod (L.length:Int)).toNat]?=some v:=by rw [hk.1];exact ⟨n0 k,hv⟩
   have tq:0<=(0:Int)/\0<=(IntKind.i64.wrap z).tmod (L.length:Int)/\(IntKind.i64.wrap z).tmod (L.length:Int)<=(L.length:Int):=by rw [hk.1];omega
   have kO:IntKind.i64.wrap ((IntKind.i64.wrap z).tmod (L.length:Int)+1)=((k+1:Nat):Int):=by rw [hk.1];exact cX (by omega)
   have nC:0<=IntKind.i64.wrap ((IntKind.i64.wrap z).tmod (L.length:Int)+1)/\IntKind.i64.wrap ((IntKind.i64.wrap z).tmod (L.length:Int)+1)<=(L.length:Int)/\(L.length:Int)<=(L.length:Int):=by rw [kO];omega
   obtain ⟨A,hA⟩:∃A,(L.take ((IntKind.i64.wrap z).tmod (L.length:Int)).toNat).drop (0:Int).toNat=A:=⟨_,rfl⟩
   obtain ⟨B,hB⟩:∃B,(L.take (L.length:Int).toNat).drop (IntKind.i64.wrap ((IntKind.i64.wrap z).tmod (L.length:Int)+1)).toNat=B:=⟨_,rfl⟩
   have hAB:([]++A)++B=L.take k++L.drop (k+1):=by
    rw [<-hA,<-hB,kO,hk.1]
    simp
   have Dt:=hL.le aqQ v (cf hv)
   have Ir:=hL.cut hk.2
   have p9:v < fg ⟨ins,gs,outs,dr⟩:=by omega
   have aqR:∀x∈jk ins.length gs v,0<=x/\x < v:=λx hx=>ajL hn Dt.1 hx
   cbv
   refine ⟨⟨rv⟩,z,⟨hbz,rfl⟩,?_⟩
   cbv
   refine ⟨⟨by intro e;exact uZ (by exact bT)⟩,?_⟩
   cbv
   refine ⟨v,⟨mH⟩,?_⟩
   cbv
   refine ⟨λh=>?_,λh=>?_⟩
   ·have bV:i+1<=b.length/\xh ins.length gs r L:=⟨bQ,ze⟩
    cbv
    exact ⟨(i+1,L),by exact aM,by exact aM,⟨⟨bV,bX⟩⟩⟩
   ·have qE:2+(ins.length:Int)<=v:=by have h':dv v (IntKind.i64.wrap (2+(ins.length:Int)))=false:=h.out;rw [qb] at h';simpa [dv] using h'
    have Ul:A.length<=4:=by rw [<-hA];simp only [tY,jd];omega
    have hBl:B.length<=4:=by rw [<-hB];simp only [tY,jd];omega
    have hUl:(([]++A)++B).length<=3:=by rw [hAB];simp only [List.length_append,tY,jd];omega
    have hUm:∀x∈([]++A)++B,0<=x/\x < r:=by rw [hAB];exact Ir
    obtain ⟨U,hU⟩:∃U,([]++A)++B=U:=⟨_,rfl⟩
    rw [hU] at hUl hUm
    cbv
    refine ⟨⟨tq⟩,?_⟩
    cbv
    refine ⟨A,⟨by exact bp,by show (0+A.length)*8<=_;omega,by show 0+A.length<=_;omega⟩,?_⟩
    cbv
    refine ⟨⟨nC⟩,?_⟩
    cbv
    refine ⟨B,⟨by exact bp,by show (([]++A).length+B.length)*8<=_;rw [qU];omega,by show ([]++A).length+B.length<=_;rw [qU];omega⟩,?_⟩
    cbv
    refine fh.rel ED ⟨⟨ins,gs,outs,dr⟩,v⟩ (by exact bW) ⟨hn,Dt.1,p9⟩ λops jw=>?_
    have jw:ops=jk ins.length gs v:=jw.out
    have fj:ops.length<=3:=by rw [jw];exact XK _ _ _
    have hom:∀x∈ops,0<=x/\x < v:=by rw [jw];exact aqR
    cbv
    refine Sat.freeze 7 rfl rfl ?_
    refine Sat.cU (RU 0 0) 8 13 [] (λx:Nat × List Int=>[(11,.sl 1 bC (λ_=>x.2)),(13,.i .i64 λ_=>(x.1:Int))]) (λx=>[])
     (λx=>Ob r ops.length x.1 x.2) (λx=>ops.length - x.1) (0,U) (by exact aM) (by exact aM) ⟨cg _,hUl,hUm⟩ ?_
    rintro ⟨k2,u⟩ hu
    have hu:Ob r ops.length k2 u:=hu
    have gR:=n0 k2
    have ie:=cX (i:=k2) (by have:=hu.le;omega)
    have Tm:=hu.len
    have azw:=hu.le
    cbv
    refine ⟨λh=>?_,λh=>?_⟩
    ·have cT:k2 < ops.length:=aL
     have AL:ops.length - (k2+1) < ops.length - k2:=by omega
     refine (bK cT).elim λx hx=>?_
     have nB:=hom x (cf hx)
     cbv
     refine ⟨x,⟨gR,hx⟩,?_⟩
     cbv
     refine ⟨λh=>?_,λh=>?_⟩
     ·cbv
      refine ⟨x,⟨gR,hx⟩,?_⟩
      cbv
      refine fh.rel ajb ⟨u,[x]⟩ (by exact bW) ⟨by show u.length<=_;omega,by show 1<=_;decide⟩ λw hw=>?_
      have hw:Yy u [x] w:=hw.out
      have bV:Ob r ops.length (k2+1) w:=⟨cT,by have:=hw.len;simp only [sZ] at this;omega,λy hy=>by
       rcases hw.mem y hy with h|h
       ·exact hu.mem y h
       ·simp at h;subst h;omega⟩
      cbv
      exact ⟨(k2+1,w),by exact aM,by exact aM,⟨⟨bV,AL⟩⟩⟩
     ·have bV:Ob r ops.length (k2+1) u:=⟨cT,by omega,hu.mem⟩
      cbv
      exact ⟨(k2+1,u),by exact aM,by exact aM,⟨⟨bV,AL⟩⟩⟩
    ·cbv
     refine fh.rel amg ⟨⟨ins,gs,outs,dr⟩,⟨r,u⟩⟩ (by exact bW) ⟨hn,by show u.length<=_;omega⟩ λe he=>?_
     have he:e=0↔(eK ins.length gs r u).isSome=true:=he.out
     cbv
     refine ⟨λh=>?_,λh=>?_⟩
     ·have za:e=0:=aL
      have bV:i+1<=b.length/\xh ins.length gs r u:=⟨bQ,⟨.inr ⟨hu.mem,he.1 za⟩⟩⟩
      cbv
      exact ⟨(i+1,u),by exact aM,by exact aM,⟨⟨bV,bX⟩⟩⟩
     ·have bV:i+1<=b.length/\xh ins.length gs r L:=⟨bQ,ze⟩
      cbv
      exact ⟨(i+1,L),by exact aM,by exact aM,⟨⟨bV,bX⟩⟩⟩
 ·cbv
  exact ⟨L,[],[],⟨by exact bW,trivial⟩,by exact aM,⟨ze⟩⟩
structure aqS where
 n:Net
 lv:List (List Int)
structure Fz where
 m:dK
 root:List Int
 rl:List (List Int)
 e:Int
@[reducible] noncomputable def S6 (y:Fz):SV:=.agg [.i .i64 (λ_=>y.m.n),.sl 3 mw (λ_=>y.m.cells),.sl 1 bC (λ_=>y.m.bj),.sl 1 bC (λ_=>y.root),.sl 1 eB (λ_=>y.rl),.i .i64 (λ_=>y.e)]
theorem ZL (y:Fz):LF (S6 y):=⟨trivial,(λx=>(zT x).1),(λx=>(cP x).1),(λx=>(cP x).1),(λx=>(mT x).1),trivial,trivial⟩
structure Nj (n:Net) (l:List Int) (T R:Int):Prop where
 ok:R=-1/\l.length<=4/\0<=T/\T < 2^(2^l.length)\/0<=R/\R<=63/\l.length=3/\T=0
theorem Nj.read {n:Net} {l:List Int} (hn:abn n) (hl:l.length=3) {g:Gate} (hg:0<=g.n/\g.n < 64):Nj n l 0 g.n:=⟨.inr ⟨hg.1,by omega,hl,rfl⟩⟩
theorem Nj.A3 {n:Net} {l:List Int} (hl:l.length<=4) {T:Int} (h:0<=T/\T < 2^(2^l.length)):Nj n l T (-1):=⟨.inl ⟨rfl,hl,h⟩⟩
noncomputable def UE (n:Net) (lv:List (List Int)) (nd:List Bool) (st:AK) (T R:Int):Vc.St :=
 ⟨[.agg [.sl 3 je (λ_=>n.ins),.sl 5 kY (λ_=>n.aY),.sl 3 je (λ_=>n.outs),.sl 1 bC (λ_=>n.bj)],.sl 1 eB (λ_=>lv),.ptr 0 0,.any,.ptr 1 0,.own 2,.any,.any,.any,.ptr 3 0,.i .i64 (λ_=>(st.v:Int)),.ptr 7 0,.ic .i64 0]++tk 175,
  [.fix 48 [.sl 3 je (λ_=>n.ins),.sl 5 kY (λ_=>n.aY),.sl 3 je (λ_=>n.outs),.sl 1 bC (λ_=>n.bj)],
   .fix 94 [.ic .i64 0,.cQ,.cQ,.cQ,.cQ,.ic .i64 0],.dyn 4 1 lX (λ_=>nd),
   .fix 94 [.i .i64 (λ_=>(n.ins.length:Int)),.own 4,.cQ,.own 5,.own 6,.ic .i64 0],
   .dyn 135 3 mw (λ_=>st.cells),.dyn 3 1 bC (λ_=>st.root),.dyn 35 1 eB (λ_=>st.rl),
   .fix 135 [.cQ,.i .i64 (λ_=>T),.i .i64 (λ_=>R)]]⟩
end Go.Proofs.Pk
