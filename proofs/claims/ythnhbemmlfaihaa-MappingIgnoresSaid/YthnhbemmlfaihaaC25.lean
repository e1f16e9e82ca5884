import Derived.Test.YthnhbemmlfaihaaC13
import Derived.Test.YthnhbemmlfaihaaC14
import Derived.Test.YthnhbemmlfaihaaC15
import Derived.Test.YthnhbemmlfaihaaC17
import Derived.Test.YthnhbemmlfaihaaC24
set_option linter.unusedVariables false
set_option linter.unusedSimpArgs false
set_option maxRecDepth 10000
set_option maxHeartbeats 64000000
namespace Go.Proofs.Pk
open Go Go.Vc
def xY (m:ec):List SV:=[.i .i64 (λ_=>m.n),.sl 3 mC (λ_=>m.cells),.sl 1 bH (λ_=>m.bf)]
def PR (c:kp):List SV:=[.sl 1 bH (λ_=>c.root),.sl 1 fR (λ_=>c.leaves)]
theorem zh (m:ec):bZ (xY m):=⟨trivial,λx=>(Bp x).1,λx=>(dq x).1,trivial⟩
theorem Vz (c:kp):bZ (PR c):=⟨λx=>(dq x).1,λx=>(qF x).1,trivial⟩
theorem aaU {N last r:Int} {R:List Int} {i:Nat} (hr:R[i]?=some r):mr N last (R.drop i)=(decide (last < r/\r < N)&&mr N r (R.drop (i+1))):=by
 obtain ⟨h,e⟩:=bq.1 hr
 rw [rC h,e];rfl
theorem aaV {I:Nat} {gs:List Gate} {sig:Int->Option Int} {C:List Cell} {R:List Int} {L:List (List Int)} {i:Nat} {x:Cell} {r:Int} {l:List Int} (hx:C[i]?=some x) (hr:R[i]?=some r) (hl:L[i]?=some l) :
  mq I gs sig (C.drop i) (R.drop i) (L.drop i)=(decide ((cellOf I gs r l sig).2=0)&&BB x (cellOf I gs r l sig).1&&mq I gs sig (C.drop (i+1)) (R.drop (i+1)) (L.drop (i+1))):=by
 obtain ⟨h1,e1⟩:=bq.1 hx
 obtain ⟨h2,e2⟩:=bq.1 hr
 obtain ⟨h3,e3⟩:=bq.1 hl
 rw [rC h1,rC h2,rC h3,e1,e2,e3];rfl
theorem aaW {sig:Int->Option Int} {D E:List Int} {i:Nat} {v s:Int} (hv:D[i]?=some v) (hs:E[i]?=some s) :
  nQ sig (D.drop i) (E.drop i)=(decide (sig v=some s)&&nQ sig (D.drop (i+1)) (E.drop (i+1))):=by
 obtain ⟨h1,e1⟩:=bq.1 hv
 obtain ⟨h2,e2⟩:=bq.1 hs
 rw [rC h1,rC h2,e1,e2];rfl
theorem Rz {N last:Int}:∀{R:List Int},mr N last R=true->fY R/\∀r∈R,last < r/\r < N
 | [],_=>⟨List.Pairwise.nil,by simp⟩
 | r :: R,h=>by
  simp only [mr,cf,decide_eq_true_eq] at h
  obtain ⟨a,b⟩:=Rz h.2
  refine ⟨eS.2 ⟨λx hx=>(b x hx).1,a⟩,λx hx=>?_⟩
  rcases cj.1 hx with rfl|hx
  ·exact h.1
  ·have:=b x hx;have:=h.1;omega
def vZ (b:Bool):Int:=if b then 0 else 260
structure ajb where
 n:Net
 m:ec
 c:kp
 e:Int
structure E6 (n:Net) (m:ec) (c:kp) (e:Int):Prop where
 G:cv n.ins.length n.bU
 dr:n.bf.length<=1000000
 cells:m.cells.length<=1000000
 cin:∀x∈m.cells,x.ins.length<=1000000
 lvs:∀l∈c.leaves,l.length<=1000000
 eq:vZ (BC n.ins.length n.bU n.bf m c)=e
@[reducible] noncomputable def XA:Vc.Spec where
 α:=ajb
 args x:=[.agg (oj x.n),.agg (xY x.m),.agg (PR x.c)]
 pre x:=E6 x.n x.m x.c x.e
 res x:=.i .i64 (λ_=>x.e)
theorem abQ {I:Nat} {gs:List Gate} {r:Int} {l:List Int} {sig:Int->Option Int}:(cellOf I gs r l sig).1.ins.length<=l.length:=by
 have h:∀l:List Int,(mw sig l).1.length<=l.length:=λl=>by
  induction l with
  | nil=>exact fP _
  | cons x l ih =>
   unfold mw
   cases sig x with
   | none=>exact cK _
   | some s=>simp only [oy];omega
 unfold cellOf
 split
 ·split
  ·split
   ·exact h l
   ·split
    ·exact h l
    ·exact h l
  ·exact h l
 ·exact h l
structure ChF (ins:List dV) (gs:List Gate) (outs:List dV) (dr:List Int) (mc:List Cell) (md R:List Int) (V:List (List Int)) (e N L0:Int) (rB:Bool) (Rk:Nat->Int->Bool) (sg:Int->Option Int) (Ck Dk:Nat->Bool):Prop where
 l1:R.length=mc.length
 l2:V.length=mc.length
 l3:md.length=dr.length
 sge:fD ins.length R=sg
 r0:rB=Rk 0 L0
 rn:∀(i:Nat) (r last:Int),R[i]?=some r->(¬last < r->Rk i last=false)/\(¬r < N->Rk i last=false)/\(last < r->r < N->Rk i last=Rk (i+1) r)
 re:∀(i:Nat) (last:Int),R.length<=i->Rk i last=true
 bad:rB=false->260=e
 Xe:rB=true->(ins.length<=1000000/\BO ins.length R)/\vZ (Ck 0&&Dk 0)=e/\(∀(i:Nat) (x:Cell),mc[i]?=some x->∃r l y t,R[i]?=some r/\V[i]?=some l/\Jd ⟨ins,gs,outs,dr⟩ r l sg y t/\y.ins.length<=1000000000000/\x.ins.length<=1000000000000 /\
  (¬t=0->Ck i=false)/\(¬x.table=y.table->Ck i=false)/\(¬x.ej=y.ej->Ck i=false)/\(¬x.ins=y.ins->Ck i=false)/\(t=0->x.table=y.table->x.ej=y.ej->x.ins=y.ins->Ck i=Ck (i+1)))
 ce:∀i:Nat,mc.length<=i->Ck i=true
 de:∀i:Nat,dr.length<=i->Dk i=true
 dn:∀(i:Nat) (v:Int),dr[i]?=some v->∃t,md[i]?=some t/\(sg v=none->Dk i=false)/\(∀s,sg v=some s->¬s=t->Dk i=false)/\(sg v=some t->Dk i=Dk (i+1))
theorem chF {ins:List dV} {gs:List Gate} {outs:List dV} {dr:List Int} {mn:Int} {mc:List Cell} {md R:List Int} {V:List (List Int)} {e:Int} (h:E6 ⟨ins,gs,outs,dr⟩ ⟨mn,mc,md⟩ ⟨R,V⟩ e) :
  (¬mn=(ins.length:Int)->260=e)/\(¬(R.length:Int)=mc.length->260=e)/\(¬(V.length:Int)=mc.length->260=e)/\(¬(md.length:Int)=dr.length->260=e) /\
   (mn=(ins.length:Int)->(R.length:Int)=mc.length->(V.length:Int)=mc.length->(md.length:Int)=dr.length ->
    ∃rB Rk sg Ck Dk,ChF ins gs outs dr mc md R V e (2+ins.length+gs.length) (1+ins.length) rB Rk sg Ck Dk):=by
 obtain ⟨G,u6,Az,sG,FO,he⟩:=h
 have G:cv ins.length gs:=G
 have u6:dr.length<=1000000:=u6
 have Az:mc.length<=1000000:=Az
 have sG:∀x∈mc,x.ins.length<=1000000:=sG
 have FO:∀l∈V,l.length<=1000000:=FO
 have he:vZ ((decide (mn=ins.length)&&decide (R.length=mc.length)&&decide (V.length=mc.length)&&decide (md.length=dr.length))&&(mr (2+ins.length+gs.length) (1+ins.length) R&&(mq ins.length gs (fD ins.length R) mc R V&&nQ (fD ins.length R) dr md)))=e:=he
 have hb:=G.oR
 have k2:¬(R.length:Int)=mc.length->¬R.length=mc.length:=λh e=>h (by rw [e])
 have k3:¬(V.length:Int)=mc.length->¬V.length=mc.length:=λh e=>h (by rw [e])
 have k4:¬(md.length:Int)=dr.length->¬md.length=dr.length:=λh e=>h (by rw [e])
 refine ⟨λh=>by rw [<-he];simp [h,vZ],λh=>by rw [<-he];simp [k2 h,vZ],λh=>by rw [<-he];simp [k3 h,vZ],λh=>by rw [<-he];simp [k4 h,vZ],λh1 h2 h3 h4=>?_⟩
 have h2:R.length=mc.length:=by omega
 have h3:V.length=mc.length:=by omega
 have h4:md.length=dr.length:=by omega
 rw [decide_eq_true h1,decide_eq_true h2,decide_eq_true h3,decide_eq_true h4] at he
 simp only [LA,Dy] at he
 have hr:mr (2+ins.length+gs.length) (1+ins.length) R=true->(R.length<=1000000/\R.Nodup/\∀r∈R,2+(ins.length:Int)<=r)/\∀r∈R,r < 2+(ins.length:Int)+gs.length:=λh=>by
  obtain ⟨a,b⟩:=Rz h
  exact ⟨⟨by omega,a.imp λh e=>by omega,λr hr=>by have:=b r hr;omega⟩,λr hr=>by have:=b r hr;omega⟩
 refine ⟨mr (2+ins.length+gs.length) (1+ins.length) R,λi last=>mr (2+ins.length+gs.length) last (R.drop i),fD ins.length R,λi=>mq ins.length gs (fD ins.length R) (mc.drop i) (R.drop i) (V.drop i),λi=>nQ (fD ins.length R) (dr.drop i) (md.drop i),?_⟩
 refine ⟨h2,h3,h4,rfl,rfl,λi r last CL=>?_,λi last h=>?_,λh=>by rw [<-he,h];rfl,λh=>?_,λi h=>?_,λi h=>?_,λi v hv=>?_⟩
 ·show (_->mr _ last (R.drop i)=_)/\(_->mr _ last (R.drop i)=_)/\(_->_->mr _ last (R.drop i)=mr _ r (R.drop (i+1)))
  rw [aaU CL]
  exact ⟨λh=>by rw [decide_eq_false λk=>h k.1];rfl,λh=>by rw [decide_eq_false λk=>h k.2];rfl,λa b=>by rw [decide_eq_true ⟨a,b⟩];rfl⟩
 ·show mr _ last (R.drop i)=true
  rw [Bh h];rfl
 ·obtain ⟨⟨a,b,c⟩,d⟩:=hr h
  refine ⟨⟨by omega,a,b,c⟩,by rw [<-he,h];rfl,λi x hx=>?_⟩
  have bP:=(bq.1 hx).1
  obtain ⟨r,yu⟩:=cC (l:=R) (i:=i) (by omega)
  obtain ⟨l,jc⟩:=cC (l:=V) (i:=i) (by omega)
  obtain ⟨y,t,PS⟩:∃y t,cellOf ins.length gs r l (fD ins.length R)=(y,t):=⟨_,_,rfl⟩
  have bV:=FO l (cL jc)
  have lI:y.ins.length<=l.length:=by have:=abQ (I:=ins.length) (gs:=gs) (r:=r) (l:=l) (sig:=fD ins.length R);rw [PS] at this;exact this
  refine ⟨r,l,y,t,yu,jc,⟨G,bV,c r (cL yu),d r (cL yu),PS⟩,by omega,by have:=sG x (cL hx);omega,?_⟩
  have e:=aaV (I:=ins.length) (gs:=gs) (sig:=fD ins.length R) hx yu jc
  rw [PS] at e
  have e:mq ins.length gs (fD ins.length R) (mc.drop i) (R.drop i) (V.drop i)=(decide (t=0)&&(decide (x.table=y.table)&&decide (x.ej=y.ej)&&decide (x.ins=y.ins))&&mq ins.length gs (fD ins.length R) (mc.drop (i+1)) (R.drop (i+1)) (V.drop (i+1))):=e
  refine ⟨λh=>?_,λh=>?_,λh=>?_,λh=>?_,λq1 q2 q3 q4=>?_⟩
  ·show mq _ _ _ _ _ _=_
   rw [e,decide_eq_false h];simp
  ·show mq _ _ _ _ _ _=_
   rw [e,decide_eq_false h];simp
  ·show mq _ _ _ _ _ _=_
   rw [e,decide_eq_false h];simp
  ·show mq _ _ _ _ _ _=_
   rw [e,decide_eq_false h];simp
  ·show mq _ _ _ _ _ _=mq _ _ _ _ _ _
   rw [e,decide_eq_true q1,decide_eq_true q2,decide_eq_true q3,decide_eq_true q4];rfl
 ·show mq _ _ _ (mc.drop i) _ _=true
  rw [Bh h];rfl
 ·show nQ _ (dr.drop i) _=true
  rw [Bh h];rfl
 ·have bP:=(bq.1 hv).1
  obtain ⟨t,ht⟩:=cC (l:=md) (i:=i) (by omega)
  have e:=aaW (sig:=fD ins.length R) hv ht
  refine ⟨t,ht,λh=>?_,λs hs h=>?_,λh=>?_⟩
  ·show nQ _ _ _=_
   rw [e,h];rfl
  ·show nQ _ _ _=_
   rw [e,hs,decide_eq_false λk=>h (vz k)];rfl
  ·show nQ _ _ _=nQ _ _ _
   rw [e,h,decide_eq_true rfl];rfl
def iP (L:Int) (s:Int):Bool:=decide (0<=s/\s < L)
def rX (x:Cell):Bool:=decide (x.ej=-1)&&decide (x.ins.length<=4)&&decide (0<=x.table)&&decide (x.table < 2^(2^x.ins.length))
def rY (x:Cell):Bool:=decide (0<=x.ej)&&decide (x.ej < 64)&&decide (x.ins.length=3)&&decide (x.table=0)
def Wx (x:Cell) (L:Int):Bool:=(rX x||rY x)&&x.ins.all (iP L)
def uy:List Cell->Int->Bool
 | [],_=>true
 | x :: r,L=>Wx x L&&uy r (L+1)
theorem abm {C:List Cell} {L:Int} {i:Nat} {x:Cell} (hx:C[i]?=some x):uy (C.drop i) L=(Wx x L&&uy (C.drop (i+1)) (L+1)):=by
 obtain ⟨h1,e1⟩:=bq.1 hx
 rw [rC h1,e1];rfl
def z6 (m:ec):Bool:=decide (0<=m.n)&&decide (m.n<=600)&&decide (2+m.n+m.cells.length<=600)&&(uy m.cells (2+m.n)&&m.bf.all (iP (2+m.n+m.cells.length)))
structure ajc where
 l:List Int
 L:Int
@[reducible] noncomputable def Oi:Vc.Spec where
 α:=ajc
 args x:=[.sl 1 bH (λ_=>x.l),.i .i64 (λ_=>x.L)]
 pre x:=x.l.length<=1000000
 res x:=.b (λ_=>x.l.all (iP x.L))
noncomputable def ajd (n m:Nat):Ctx:=cP n m [(28,Try.f28),(38,Try.f38),(29,Try.f29)] [] [] [38]
theorem VA (n m:Nat):CB PP (ajd n m):=cR n m ⟨fo Try.func28,fo Try.func38,fo Try.func29,trivial⟩ trivial
theorem VB:dm (PP ()) 27 Oi:=by
 refine fl (VA 0 0) (fo Try.func27) (λa=>⟨λx=>(dq x).1,trivial,trivial⟩) (λa=>trivial) ?_
 rintro ⟨a,L⟩ hx
 have ha:a.length<=1000000:=hx
 obtain ⟨f,hf⟩:∃f,f=iP L:=⟨_,rfl⟩
 have hu:a.all (iP L)=a.all f:=by rw [hf]
 have hz:(a.take 0).all f=true:=rfl
 have du:∀(i:Nat) (x:Int),a[i]?=some x->¬(0<=x/\x < L)->(!jB 0 (i:Int))=a.all (iP L):=λi x hx h=>by
  have e:a.all (iP L)=false:=by
   rw [List.all_eq_false]
   exact ⟨x,cL hx,by unfold iP;rw [decide_eq_false h];decide⟩
  rw [e];simp [jB]
 have x8:∀(i:Nat) (x:Int),a[i]?=some x->0<=x->x < L->(a.take i).all f=true->(a.take (i+1)).all f=true:=λi x hx h1 h2 h3=>by
  rw [TQ hx,h3,hf];unfold iP;rw [decide_eq_true ⟨h1,h2⟩];rfl
 refine ⟨?_⟩
 cbv
 refine Sat.eE (VA 0 0) 1 8 [] (λi:Nat=>[(8,.i .i64 (λ_=>(i:Int)))]) (λi=>[])
  (λi=>i<=a.length/\(a.take i).all f=true) (λi=>a.length - i) 0 (by exact aW) (by exact aW) ⟨cK _,hz⟩ ?_
 rintro i ⟨hi,ht⟩
 have h0:=n0 i
 have h1:=eO (i:=i) (by omega)
 cbv
 refine ⟨λh=>?_,λh=>?_⟩
 ·have bP:i < a.length:=aL
  have cy:a.length - (i+1) < a.length - i:=by omega
  refine (cC bP).elim λx hx=>?_
  have du:=du i x hx
  have x8:=x8 i x hx
  clear h
  cbv
  refine ⟨x,⟨h0,hx⟩,?_⟩
  cbv
  refine ⟨λh=>?_,λh=>?_⟩
  ·have aQ:¬0<=x:=aL
   have e:=du λh=>aQ h.1
   cbv
   exact ⟨by have nq:=e;exact bJ⟩
  have b9:0<=x:=aL
  clear h
  cbv
  refine ⟨λh=>?_,λh=>?_⟩
  ·have aQ:¬x < L:=aL
   have e:=du λh=>aQ h.2
   cbv
   exact ⟨by have nq:=e;exact bJ⟩
  ·have aQ:x < L:=aL
   have bW:i+1<=a.length/\(a.take (i+1)).all f=true:=⟨bP,x8 b9 aQ ht⟩
   cbv
   exact ⟨i+1,by have bE:=h1;exact a8,by exact aW,⟨⟨bW,cy⟩⟩⟩
 ·have b9:a.length<=i:=aL
  have e:true=a.all (iP L):=by rw [hu,<-ht,jj b9]
  cbv
  exact ⟨by have eR:=e;exact bJ⟩
structure z7 (m:ec):Prop where
 n0:0<=m.n
 n6:2+m.n+m.cells.length<=600
 cell:∀(i:Nat) (x:Cell),m.cells[i]?=some x->(rX x||rY x)=true/\∀s∈x.ins,0<=s/\s < 2+m.n+i
 dr:∀s∈m.bf,0<=s/\s < 2+m.n+m.cells.length
def gq (n:Int) (C:List Cell):List Int:=C.foldl (λD x=>D++[1+bY D x.ins]) (List.replicate (2+n).toNat 0)
def vJ (m:ec):Int:=bY (gq m.n m.cells) m.bf
theorem Hr {n:Int} {C:List Cell} {i:Nat} {x:Cell} (hx:C[i]?=some x):gq n (C.take i)++[1+bY (gq n (C.take i)) x.ins]=gq n (C.take (i+1)):=by
 unfold gq
 rw [jm,hx,nJ,List.foldl_append,mj,Dx]
theorem Bq {n:Int} {C:List Cell}:∀{i:Nat},i<=C.length->(gq n (C.take i)).length=(2+n).toNat+i
 | 0,_=>by unfold gq;simp
 | i+1,h=>by
  obtain ⟨x,hx⟩:=cC (l:=C) (i:=i) (by omega)
  rw [<-Hr hx,fJ,Bq (by omega)];rfl
theorem MH {n:Int} {C:List Cell}:∀{i:Nat},i<=C.length->∀y∈gq n (C.take i),0<=y/\y<=(i:Int)
 | 0,_,y,h=>by
  unfold gq at h
  rw [Ly,Dx] at h
  rw [(Bk.1 h).2];omega
 | i+1,h,y,hy=>by
  obtain ⟨x,hx⟩:=cC (l:=C) (i:=i) (by omega)
  rw [<-Hr hx] at hy
  have ih:=MH (n:=n) (C:=C) (i:=i) (by omega)
  rcases eA.1 hy with hy|hy
  ·have:=ih y hy;omega
  ·rw [qD] at hy
   have h0:=xm (gq n (C.take i)) x.ins
   have h1:bY (gq n (C.take i)) x.ins<=(i:Int):=w9 (by omega) λv _=>by
    rw [List.getD_eq_getElem?_getD]
    cases hv:(gq n (C.take i))[v.toNat]? with
    | none=>show (0:Int)<=i;omega
    | some z=>exact (ih z (cL hv)).2
   omega
structure aje (m:ec) (D:Nat->List Int) (W:Int):Prop where
 w:2+m.n=W
 w0:0<=W/\W<=600
 z:List.replicate W.toNat 0=D 0
 grow:∀(i:Nat) (x:Cell),m.cells[i]?=some x->D i++[1+bY (D i) x.ins]=D (i+1)/\kD (D i) x.ins/\IntKind.i64.wrap (1+bY (D i) x.ins)=1+bY (D i) x.ins
 len:∀i,i<=m.cells.length->(D i).length<=600
 fin:∀i,i<=m.cells.length->m.cells.length<=i->kD (D i) m.bf/\bY (D i) m.bf=vJ m
theorem ajf {m:ec} (h:z7 m) (hc:∀x∈m.cells,x.ins.length<=1000000) (hd:m.bf.length<=1000000):∃D W,aje m D W:=by
 have h6:=h.n6
 have h0:=h.n0
 refine ⟨λi=>gq m.n (m.cells.take i),_,rfl,by omega,rfl,λi x hx=>?_,λi hi=>?_,λi hi hg=>?_⟩
 ·have hi:=(bq.1 hx).1
  have hl:=Bq (n:=m.n) (C:=m.cells) (i:=i) (by omega)
  have hg:kD (gq m.n (m.cells.take i)) x.ins:=⟨hc x (cL hx),λv hv=>by have:=(h.cell i x hx).2 v hv;omega,λy hy=>by have:=MH (by omega) y hy;omega⟩
  have:=hg.le
  exact ⟨Hr hx,hg,ei (by omega) (by omega)⟩
 ·have hl:=Bq (n:=m.n) (C:=m.cells) hi
  show (gq m.n (m.cells.take i)).length<=600
  omega
 ·have hl:=Bq (n:=m.n) (C:=m.cells) hi
  have e:m.cells.take i=m.cells:=jj hg
  refine ⟨⟨hd,λv hv=>?_,λy hy=>?_⟩,by show bY (gq m.n (m.cells.take i)) m.bf=_;rw [e];rfl⟩
  ·have:=h.dr v hv
   show 0<=v/\v < ((gq m.n (m.cells.take i)).length:Int)
   omega
  ·have:=MH hi y hy
   omega
theorem TV (z m:Int) (h0:0<=m) (h1:m<=1000000):0<=fC .and .i64 z m/\fC .and .i64 z m<=m:=by
 have h:fC .and .i64 z m=IntKind.i64.wrap ((BitVec.ofInt 64 z &&& BitVec.ofInt 64 m).toNat:Int):=rfl
 have h2:(BitVec.ofInt 64 z &&& BitVec.ofInt 64 m).toNat<=(BitVec.ofInt 64 m).toNat:=by
  rw [BitVec.toNat_and]
  exact Nat.and_le_right
 have h3:((BitVec.ofInt 64 m).toNat:Int)=m:=by
  rw [BitVec.toNat_ofInt]
  omega
 rw [h,ei (by omega) (by omega)]
 omega
theorem SQ:∀{l:List Int} {a b:Int},fY l->(∀x∈l,a<=x/\x < b)->a<=b->(l.length:Int)<=b - a
 | [],a,b,_,_,h=>by simp;omega
 | x :: l,a,b,hi,hm,h=>by
  have hx:=hm x (by simp)
  have h1:=eS.1 hi
  have:=SQ (a:=x+1) (b:=b) h1.2 (λy hy=>⟨by have:=h1.1 y hy;omega,(hm y (by simp [hy])).2⟩) (by omega)
  rw [oy];omega
structure ajg (I:Nat) (gs:List Gate) (R:List Int) (x:Cell) (r:Int) (l:List Int) (i:Nat) (g:Gate):Prop where
 er:r=2+(I:Int)+i
 eg:gs[i]?=some g
 lf:∀y∈l,0<=y/\y < r/\∃s,fD I R y=some s
 ins:x.ins=l.map λy=>(fD I R y).getD 0
 ok:(rX x||rY x)=true
 kind:(g.op=7/\l=cI g/\x.table=0/\x.ej=g.n)\/(g.op≠7/\(gV I gs r l).isSome=true/\x.table=zn I gs r l/\x.ej=-1/\l.length<=4/\∀y∈l,gy I gs l r.toNat y.toNat)
theorem acG {I:Nat} {gs:List Gate} {S:List Int} {root v:Nat} (h:gy I gs S root v) (hr:(root:Int)∈S):v=root:=by
 induction h with
 | base h=>exact h
 | step _ h2 ih=>rw [ih] at h2;exact absurd hr (qH.1 h2).1
theorem Oj {I:Nat} {gs:List Gate} (G:cv I gs) {bf:List Int} {m:ec} {c:kp} (h:BD I gs bf m c) {j:Nat} {x:Cell} {r:Int} {l:List Int} (hx:m.cells[j]?=some x) (hr:c.root[j]?=some r) (hl:c.leaves[j]?=some l) :
  ∃i g,ajg I gs c.root x r l i g:=by
 obtain ⟨h1,h2⟩:=h.lim r (cL hr)
 have k:=h.cell j x r l hx hr hl
 have hi:r.toNat - 2 - I < gs.length:=by omega
 have hg:=eB (l:=gs) hi
 generalize hq:r.toNat - 2 - I=i at *
 have CL:r=2+(I:Int)+i:=by omega
 have Ar:fV I gs r.toNat=some gs[i]:=by rw [show r.toNat=2+I+i by omega];exact pH.2 ⟨i,rfl,hg⟩
 generalize gs[i]=g at *
 have ha:=abJ k.1
 have FQ:=KL ha.1
 have kg:=G.bU i g hg
 obtain ⟨k1,k2⟩:=k
 have df:x.ins=l.map λy=>(fD I c.root y).getD 0:=by rw [k2];exact ha.2
 unfold cellOf at k1 k2
 rw [if_pos ha.1,Ar] at k1 k2
 simp only at k1 k2
 refine ⟨i,g,?_⟩
 by_cases h7:g.op=7
 ·rw [if_pos h7] at k1 k2
  have hS:l=cI g:=by
   simp only at k1
   by_cases e:l=cI g
   ·exact e
   ·rw [if_neg e] at k1;omega
  have hlen:l.length=3:=by rw [hS];unfold cI kb;rw [h7];simp
  refine ⟨CL,hg,λy hy=>⟨?_,?_,FQ y hy⟩,df,?_,.inl ⟨h7,hS,by rw [k2],by rw [k2]⟩⟩
  ·rw [hS] at hy;exact (G.ops hg y hy).1
  ·rw [hS] at hy;have:=(G.ops hg y hy).2;omega
  ·have bP:x.ins.length=3:=by rw [df,kr,hlen]
   have e1:x.ej=g.n:=by rw [k2]
   have e2:x.table=0:=by rw [k2]
   have:=kg.n
   unfold rY
   rw [e1,e2,bP]
   simp;right;omega
 ·rw [if_neg h7] at k1 k2
  by_cases PT:l=[r]
  ·rw [if_pos PT] at k1;simp only at k1;omega
  ·rw [if_neg PT] at k1 k2
   simp only at k1
   cases hc:gV I gs r l with
   | none=>unfold qN at k1;rw [hc] at k1;simp at k1
   | some q =>
    have fM:(gV I gs r l).isSome=true:=by rw [hc];rfl
    obtain ⟨L,C,hR⟩:=(RT G).1 fM
    have aQ:∀y∈l,y≠r:=λy hy e=>by
     subst e
     have qd:((y.toNat:Nat):Int)∈l:=by rw [Int.toNat_of_nonneg (by omega)];exact hy
     have all:∀z∈l,z=y:=λz hz=>by
      have:=acG (hR z hz) qd
      have:=L.mem z hz
      omega
     refine PT ?_
     cases l with
     | nil=>cases hy
     | cons a t =>
      have ha:=all a (by simp)
      subst ha
      cases t with
      | nil=>rfl
      | cons b t =>
       have:=all b (by simp)
       have:=(eS.1 L.inc).1 b (by simp)
       omega
    have ht:x.table=zn I gs r l:=by rw [k2];unfold qN;rw [hc]
    have XB:x.ej=-1:=by rw [k2]
    refine ⟨CL,hg,λy hy=>⟨?_,?_,FQ y hy⟩,df,?_,.inr ⟨h7,by first|exact fM|rw [hc];rfl,ht,XB,L.len,hR⟩⟩
    ·have:=L.mem y hy;omega
    ·have:=L.mem y hy;have:=aQ y hy;omega
    ·have bP:x.ins.length=l.length:=by rw [df,kr]
     unfold rX
     rw [ht,XB,bP]
     have hl4:=L.len
     have hp:∃P:Nat,2^(2^l.length)=(P:Int)/\P<=1000000/\1<=P:=by
      have:l.length=0\/l.length=1\/l.length=2\/l.length=3\/l.length=4:=by omega
      rcases this with e|e|e|e|e<;>rw [e]
      ·exact ⟨2,by decide,by decide,by decide⟩
      ·exact ⟨4,by decide,by decide,by decide⟩
      ·exact ⟨16,by decide,by decide,by decide⟩
      ·exact ⟨256,by decide,by decide,by decide⟩
      ·exact ⟨65536,by decide,by decide,by decide⟩
     obtain ⟨P,hP,hP1,PU⟩:=hp
     have hm:=TV (kC I gs l r.toNat) (P - 1) (by omega) (by omega)
     have e:zn I gs r l=fC .and .i64 (kC I gs l r.toNat) (P - 1):=by unfold zn tB;rw [hP]
     rw [e,hP]
     simp
     left
     omega
theorem VC {I:Nat} {R:List Int} (hR:fY R) (gS:∀r∈R,2+(I:Int)<=r) {j:Nat} {r y s:Int} (hr:R[j]?=some r) (hy:y < r) (hs:fD I R y=some s):0<=s/\s < 2+(I:Int)+j:=by
 rcases (Hv hR gS).1 hs with ⟨h1,h2,rfl⟩|⟨i,hi,rfl⟩
 ·omega
 ·have:i < j:=by
   rcases oA i j with h|h
   ·exact h
   ·exfalso
    obtain ⟨a1,a2⟩:=bq.1 hr
    obtain ⟨b1,b2⟩:=bq.1 hi
    rcases oA j i with h'|h'
    ·have:=(rA.1 hR) j i a1 b1 h'
     omega
    ·have:i=j:=by omega
     subst this;omega
  omega
theorem UM {I:Nat} {gs:List Gate} (G:cv I gs) {bf:List Int} {m:ec} {c:kp} (h:BD I gs bf m c):z7 m/\m.cells.length<=gs.length:=by
 have hlen:(c.root.length:Int)<=gs.length:=by
  have:=SQ (a:=2+(I:Int)) (b:=2+I+gs.length) h.inc h.lim (by omega)
  omega
 have hb:=G.oR
 have hrl:=h.rl
 have gS:∀r∈c.root,2+(I:Int)<=r:=λr hr=>(h.lim r hr).1
 refine ⟨⟨by rw [h.n];omega,by rw [h.n];omega,λj x hx=>?_,λs hs=>?_⟩,by omega⟩
 ·have hj:=(bq.1 hx).1
  have hr:=eB (l:=c.root) (i:=j) (by omega)
  have hl:=eB (l:=c.leaves) (i:=j) (by rw [h.ll];exact hj)
  obtain ⟨i,g,F⟩:=Oj G h hx hr hl
  refine ⟨F.ok,λs hs=>?_⟩
  rw [F.ins] at hs
  obtain ⟨y,hy,rfl⟩:=jO.1 hs
  obtain ⟨h0,h1,s,hs⟩:=F.lf y hy
  rw [hs,h.n]
  exact VC h.inc gS hr h1 hs
 ·rw [h.Ps] at hs
  obtain ⟨d,hd,rfl⟩:=jO.1 hs
  obtain ⟨s,hs⟩:=h.Xd d hd
  rw [hs,h.n]
  show 0<=s/\s < _
  rcases (Hv h.inc gS).1 hs with ⟨h1,h2,rfl⟩|⟨i,hi,rfl⟩
  ·omega
  ·have:=(bq.1 hi).1
   omega
theorem Q7 {L L':List Int}:∀{l:List Int} {m:Int},(∀x∈l,L.getD x.toNat 0=L'.getD x.toNat 0)->l.foldl (λm v=>max m (L.getD v.toNat 0)) m=l.foldl (λm v=>max m (L'.getD v.toNat 0)) m
 | [],m,_=>rfl
 | x :: l,m,h=>by
  rw [mj,mj,h x (by simp)]
  exact Q7 λy hy=>h y (by simp [hy])
theorem SR {A:Type} (f:List Int->A->Int):∀(C:List A) (D:List Int),∃r,C.foldl (λD x=>D++[f D x]) D=D++r
 | [],D=>⟨[],by simp⟩
 | x :: C,D=>by
  obtain ⟨r,hr⟩:=SR f C (D++[f D x])
  exact ⟨f D x :: r,by rw [mj,hr];simp⟩
theorem TW (n:Int) (C:List Cell) (i:Nat):∃r,gq n C=gq n (C.take i)++r:=by
 obtain ⟨r,hr⟩:=SR (λD (x:Cell)=>1+bY D x.ins) (C.drop i) (gq n (C.take i))
 refine ⟨r,?_⟩
 rw [<-hr]
 unfold gq
 rw [<-List.foldl_append,List.take_append_drop]
theorem MI {I:Nat} {C:List Cell} {i:Nat} {x:Cell} (hx:C[i]?=some x) (df:∀s∈x.ins,0<=s/\s < 2+(I:Int)+i):(gq I C).getD (2+I+i) 0=1+bY (gq I C) x.ins:=by
 have hi:=(bq.1 hx).1
 obtain ⟨r,hr⟩:=TW I C (i+1)
 have hl:=Bq (n:=(I:Int)) (C:=C) (i:=i) (by omega)
 have js:(gq I (C.take i)).length=2+I+i:=by omega
 have hs:=Hr (n:=(I:Int)) hx
 have hg:bY (gq I C) x.ins=bY (gq I (C.take i)) x.ins:=Q7 λs uR=>by
  have:=df s uR
  rw [hr,<-hs,vx,List.getD_eq_getElem?_getD,iu (by omega),<-List.getD_eq_getElem?_getD]
 rw [hg,hr,<-hs,vx,List.getD_eq_getElem?_getD,pI (by omega),js,yT]
 rfl
theorem UN {I:Nat} {C:List Cell} {v:Nat} (hv:v < 2+I):(gq I C).getD v 0=0:=by
 obtain ⟨r,hr⟩:=TW I C 0
 have hl:=Bq (n:=(I:Int)) (C:=C) (i:=0) (cK _)
 rw [hr,List.getD_eq_getElem?_getD,iu (by omega)]
 have e:gq I (C.take 0)=List.replicate (2+(I:Int)).toNat 0:=rfl
 rw [e,ua]
 split<;>rfl
def tl (g:Gate):Cell:=⟨cI g,0,-1⟩
def Wy (I:Nat) (gs:List Gate) (bf:List Int):ec:=⟨I,gs.map tl,bf⟩
def tR (I:Nat) (gs:List Gate) (v:Nat):Int:=(gq I (gs.map tl)).getD v 0
theorem TX {I:Nat} {gs:List Gate} (G:cv I gs) {v:Nat} {g:Gate} (h:fV I gs v=some g) {o:Int} (ho:o∈cI g):tR I gs o.toNat+1<=tR I gs v:=by
 obtain ⟨i,rfl,hg⟩:=pH.1 h
 unfold tR
 rw [MI (I:=I) (C:=gs.map tl) (i:=i) (x:=tl g) (by rw [k8,hg];rfl) λs hs=>by have:=G.ops hg s hs;omega]
 have:=Ho (L:=gq I (gs.map tl)) (l:=(tl g).ins) (v:=o) ho
 omega
theorem adR {I:Nat} {gs:List Gate} (G:cv I gs) {S:List Int} {root v:Nat} (h:gy I gs S root v):v=root\/tR I gs v+1<=tR I gs root:=by
 induction h with
 | base h=>exact .inl h
 | step _ h2 ih =>
  obtain ⟨_,g,hg,_,ho⟩:=qH.1 h2
  have:=TX G hg ho
  rcases ih with rfl|ih
  ·exact .inr this
  ·right;omega
theorem SU {I:Nat} {gs:List Gate} (G:cv I gs) {bf:List Int} {m:ec} {c:kp} (h:BD I gs bf m c):∀(n j:Nat) (r:Int),j < n->c.root[j]?=some r->(gq I m.cells).getD (2+I+j) 0<=tR I gs r.toNat
 | 0,_,_,hj,_=>absurd hj (sZ _)
 | n+1,j,r,hj,hr=>by
  have gS:∀r∈c.root,2+(I:Int)<=r:=λr hr=>(h.lim r hr).1
  have e7:=(bq.1 hr).1
  obtain ⟨x,hx⟩:=cC (l:=m.cells) (i:=j) (by rw [<-h.rl];exact e7)
  obtain ⟨l,hl⟩:=cC (l:=c.leaves) (i:=j) (by rw [h.ll,<-h.rl];exact e7)
  obtain ⟨i,g,F⟩:=Oj G h hx hr hl
  have hV:=((UM G h).1.cell j _ hx).2
  rw [h.n] at hV
  rw [MI hx hV,F.ins]
  have yu:=F.er
  have qb:0<=tR I gs r.toNat - 1:=by
   have Ar:fV I gs r.toNat=some g:=pH.2 ⟨i,by omega,F.eg⟩
   unfold tR
   have e:r.toNat=2+I+i:=by omega
   rw [e,MI (I:=I) (C:=gs.map tl) (i:=i) (x:=tl g) (by rw [k8,F.eg];rfl) λs hs=>by have:=G.ops F.eg s hs;omega]
   have:=xm (gq I (gs.map tl)) (tl g).ins
   omega
  suffices H:bY (gq I m.cells) (l.map λy=>(fD I c.root y).getD 0)<=tR I gs r.toNat - 1 by omega
  refine w9 qb λv hv=>?_
  obtain ⟨y,hy,rfl⟩:=jO.1 hv
  obtain ⟨y0,y1,s,hs⟩:=F.lf y hy
  rw [hs]
  show (gq I m.cells).getD s.toNat 0<=_
  have hny:tR I gs y.toNat+1<=tR I gs r.toNat:=by
   rcases F.kind with ⟨_,e,_⟩|⟨_,_,_,_,_,hR⟩
   ·rw [e] at hy
    exact TX G (pH.2 ⟨i,by omega,F.eg⟩) hy
   ·rcases adR G (hR y hy) with e|e
    ·omega
    ·exact e
  rcases (Hv h.inc gS).1 hs with ⟨h1,h2,rfl⟩|⟨k,hk,rfl⟩
  ·rw [UN (by omega)]
   exact qb
  ·have hkj:k < j:=by
    have:=(VC h.inc gS hr y1 hs).2
    omega
   have:=SU G h n k y (by omega) hk
   rw [show (2+(I:Int)+k).toNat=2+I+k by omega]
   omega
theorem acH {I:Nat} {gs:List Gate} (G:cv I gs) {bf:List Int} {m:ec} {c:kp} (h:BD I gs bf m c):vJ m<=vJ (Wy I gs bf):=by
 have gS:∀r∈c.root,2+(I:Int)<=r:=λr hr=>(h.lim r hr).1
 unfold vJ
 rw [h.Ps,h.n]
 show bY (gq I m.cells) _<=bY (gq I (gs.map tl)) bf
 refine w9 (xm _ _) λv hv=>?_
 obtain ⟨d,hd,rfl⟩:=jO.1 hv
 obtain ⟨s,hs⟩:=h.Xd d hd
 rw [hs]
 show (gq I m.cells).getD s.toNat 0<=_
 rcases (Hv h.inc gS).1 hs with ⟨h1,h2,rfl⟩|⟨k,hk,rfl⟩
 ·rw [UN (by omega)];exact xm _ _
 ·rw [show (2+(I:Int)+k).toNat=2+I+k by omega]
  exact wY (SU G h (k+1) k d (Lq _) hk) (Ho hd)
def Wz (w:dV) (lo hi:Int):Prop:=lo<=w.kind/\w.kind<=hi/\0<=w.i/\0<=w.bit/\w.bit<=7
structure VD (lim:Int) (g:Gate):Prop where
 op:1<=g.op/\g.op<=7
 a:0<=g.a/\g.a < lim
 b:0<=g.b/\g.b < lim
 c:0<=g.c/\g.c < lim
 n:0<=g.n/\g.n < 64
def dZ.sigs (p:dZ):Int:=p.ins.length+2*p.blocks.length
def mD (n:Nat) (s:Int):Nat:=((s - n) / 2).toNat
def rP (n:Nat) (s:Int):Prop:=(s - n) % 2=1
structure BE (p:dZ) (s:Int):Prop where
 lo:0<=s
 hi:s < p.sigs
 flip:(p.ins.length:Int)<=s->rP p.ins.length s->∃x,p.blocks[mD p.ins.length s]?=some x/\0<=x.cF
structure M7 (x:Block):Prop where
 k:x.ins.length<=4
 ej:-1<=x.ej/\x.ej<=63
 cF:-1<=x.cF/\x.cF<=255
 table:0<=x.table/\x.table < 2^(2^x.ins.length)
 read:0<=x.ej->x.cF=-1/\x.ins.length<=3/\x.table=0
structure Shape (p:dZ):Prop where
 jt:p.blocks.length<=600
 ari:p.bf.length=p.outs.length
 bf:∀s∈p.bf,BE p s
 ins:∀w∈p.ins,Wz w 2 4
 outs:∀w∈p.outs,Wz w 5 10
 formed:∀x∈p.blocks,M7 x
 used:∀x∈p.blocks,∀s∈x.ins,BE p s
 xU:∀(i j:Nat) (x y:Block),p.blocks[i]?=some x->p.blocks[j]?=some y->0<=x.cF->x.cF=y.cF->i=j
def HZ (p:dZ) (r:Nat->Nat):Prop:=∀(b:Nat) (x:Block),p.blocks[b]?=some x->∀s∈x.ins,(p.ins.length:Int)<=s->¬rP p.ins.length s->r (mD p.ins.length s) < r b
structure PK where
 parts:List Part
 cells:List Source
 n0:Bool
 n1:Bool
 tp:Int->Option Int
def z8 (w:dV):List Int:=[w.kind,w.i,w.bit]
def iw {K:Type} [DecidableEq K] (m:K->Option Int) (k:K) (v:Int):K->Option Int:=λj=>if j=k then some v else m j
def others (l:List dV):List dV:=l.filter (λw=>w.kind≠1)
def afW (l:List dV):List Int->Option Int:=(l.foldl (λ(st:(List Int->Option Int) × Int) w=>if w.kind=1 then st else (iw st.1 (z8 w) st.2,st.2+1)) (λ_=>none,0)).1
def Nw (w:dV):Int:=8*w.i+w.bit
def Nx (ins:List dV) (cells:List Source) (sig:Int):Source :=
 if sig < 2 then ⟨3,sig⟩
 else if sig - 2 < ins.length then
  let w:=ins.getD (sig - 2).toNat ⟨0,0,0⟩
  if w.kind=1 then ⟨1,Nw w⟩ else ⟨0,(afW ins (z8 w)).getD 0⟩
 else cells.getD (sig - 2 - ins.length).toNat ⟨0,0⟩
def PK.add (k:PK) (x:Part):PK:={ k with parts:=k.parts++[x],tp:=if 0<=x.cF then iw k.tp x.cF k.parts.length else k.tp }
def PK.here (k:PK):Source:=⟨2,k.parts.length⟩
def VE:List Source->List Source
 | []=>[]
 | s :: r=>if s=⟨3,0⟩ then VE r else s :: r
def strip (ej:Int) (l:List Source):List Source:=if 0<=ej then (VE l.reverse).reverse else l
def ajh (c:Cell) (l:List Source) (x:Part):Bool:=x.table == c.table&&x.ej == c.ej&&x.ins == l
def WA (v:Int) (l:List Source):Bool:=l.any λs=>s.kind == 3&&s.n == v
def ahu (ins:List dV) (k:PK) (c:Cell):PK :=
 let l:=strip c.ej (c.ins.map (Nx ins k.cells))
 match k.parts.findIdx? (ajh c l) with
 | some i=>{ k with cells:=k.cells++[⟨2,i⟩] }
 | none=>{ (k.add ⟨l,c.table,c.ej,-1⟩) with cells:=k.cells++[k.here],n0:=k.n0||WA 0 l,n1:=k.n1||WA 1 l }
def afX (l:List Part) (i:Nat) (code:Int):List Part:=l.modify i λx=>{ x with cF:=code }
def acI (k:PK) (s:Source) (code:Int):PK :=
 if s.kind=3 then k.add ⟨[],s.n,-1,code⟩
 else if s.kind=2/\(k.parts.getD s.n.toNat ⟨[],0,0,0⟩).ej < 0/\(k.parts.getD s.n.toNat ⟨[],0,0,0⟩).cF < 0 then
  { k with parts:=afX k.parts s.n.toNat code,tp:=iw k.tp code s.n }
 else k.add ⟨[s],2,-1,code⟩
def aji (ins:List dV) (k:PK) (wd:dV × Int):PK :=
 if wd.1.kind=1 then acI k (Nx ins k.cells wd.2) (Nw wd.1)
 else { k with n0:=k.n0||wd.2 == 0,n1:=k.n1||wd.2 == 1 }
def VF (k:PK) (v:Int) (b:Bool):PK:=if b then k.add ⟨[],v,-1,-1⟩ else k
structure TH where
 k:PK
 bf:List Source
 PV:List Int->Option Source
def XC (s:Source):List Int:=[s.kind,s.n]
def ajj (ins:List dV) (t:TH) (wd:dV × Int):TH :=
 if wd.1.kind=1 then t
 else
  let s:=Nx ins t.k.cells wd.2
  if s.kind=0 then match t.PV (XC s) with
   | some u=>{ t with bf:=t.bf++[u] }
   | none=>{ k:=t.k.add ⟨[s],2,-1,-1⟩,bf:=t.bf++[t.k.here],PV:=λj=>if j=XC s then some t.k.here else t.PV j }
  else { t with bf:=t.bf++[s] }
structure Ol where
 c0:Int
 c1:Int
 t:TH
def ahv (n:Net) (m:ec):Ol :=
 let k1:=m.cells.foldl (ahu n.ins) ⟨[],[],false,false,λ_=>none⟩
 let wd:=n.outs.zip m.bf
 let k2:=wd.foldl (aji n.ins) k1
 let k3:=VF k2 0 k2.n0
 let k4:=VF k3 1 k2.n1
 ⟨if k2.n0 then k2.parts.length else 0,if k2.n1 then k3.parts.length else 0,wd.foldl (ajj n.ins) ⟨k4,[],λ_=>none⟩⟩
def XD (first:Int) (d:Ol) (s:Source):Int :=
 if s.kind=1 then first+2*(d.t.k.tp s.n).getD 0+1
 else if s.kind=2 then first+2*s.n
 else if s.kind=3 then first+2*(if s.n=0 then d.c0 else d.c1)
 else s.n
def afY (first:Int) (d:Ol) (x:Part):Block:=⟨x.ins.map (XD first d),x.table,x.ej,x.cF,0⟩
def XE (n:Net) (m:ec):dZ :=
 let ins:=others n.ins
 let d:=ahv n m
 ⟨ins,d.t.k.parts.map (afY ins.length d),others n.outs,d.t.bf.map (XD ins.length d)⟩
def Eu (ins:List dV) (np:Nat) (s:Source):Prop :=
 s.kind=0/\0<=s.n/\s.n < (others ins).length\/s.kind=1/\(∃w∈ins,w.kind=1/\s.n=Nw w)\/s.kind=2/\0<=s.n/\s.n < np\/s.kind=3/\(s.n=0\/s.n=1)
theorem Eu.mono {ins:List dV} {a b:Nat} {s:Source} (h:Eu ins a s) (gu:a<=b):Eu ins b s:=by
 rcases h with h|h|h|h
 ·exact .inl h
 ·exact .inr (.inl h)
 ·exact .inr (.inr (.inl ⟨h.1,h.2.1,by omega⟩))
 ·exact .inr (.inr (.inr h))
structure VG (x:Part):Prop where
 k:x.ins.length<=4
 ej:-1<=x.ej/\x.ej<=63
 cF:-1<=x.cF/\x.cF<=255
 table:0<=x.table/\x.table < 2^(2^x.ins.length)
 read:0<=x.ej->x.cF=-1/\x.ins.length<=3/\x.table=0
structure Om (ins:List dV) (nc:Nat) (k:PK):Prop where
 nc:k.cells.length=nc
 cells:∀s∈k.cells,s.kind=2/\0<=s.n/\s.n < k.parts.length
 src:∀(b:Nat) (x:Part),k.parts[b]?=some x->VG x/\∀s∈x.ins,Eu ins b s
 lV:∀x∈k.parts,∀s∈x.ins,s.kind=3->(s.n=0->k.n0=true)/\(s.n=1->k.n1=true)
 tp:∀(b:Nat) (x:Part),k.parts[b]?=some x->0<=x.cF->k.tp x.cF=some b
 back:∀c v,k.tp c=some v->∃b:Nat,v=b/\∃x,k.parts[b]?=some x/\x.cF=c/\0<=c
theorem Om.add {ins:List dV} {nc:Nat} {k:PK} (h:Om ins nc k) {x:Part} (hx:VG x) (hs:∀s∈x.ins,Eu ins k.parts.length s) {a b:Bool} (ha:k.n0=true->a=true) (hb:k.n1=true->b=true)
  (hn:∀s∈x.ins,s.kind=3->(s.n=0->a=true)/\(s.n=1->b=true)) (hf:0<=x.cF->k.tp x.cF=none):Om ins nc { (k.add x) with n0:=a,n1:=b }:=by
 have uG:∀(i:Nat) (y:Part),(k.parts++[x])[i]?=some y->(k.parts[i]?=some y)\/(i=k.parts.length/\y=x):=by
  intro i y hy
  rw [Dr] at hy
  split at hy
  ·exact .inl hy
  ·rename_i aQ
   have hi:i - k.parts.length=0:=by
    have:=(bq.1 hy).1
    simp at this;omega
   rw [hi] at hy
   simp at hy
   exact .inr ⟨by omega,hy.symm⟩
 refine ⟨h.nc,λs uR=>?_,λi y hy=>?_,λy hy s uR hk=>?_,λi y hy hr=>?_,λc v AA=>?_⟩
 ·have:=h.cells s uR
  simp only [PK.add,fJ,yY]
  exact ⟨this.1,this.2.1,by push_cast;omega⟩
 ·rcases uG i y hy with hy|⟨rfl,rfl⟩
  ·exact h.src i y hy
  ·exact ⟨hx,hs⟩
 ·simp only [PK.add,eA,qD] at hy
  rcases hy with hy|rfl
  ·have:=h.lV y hy s uR hk
   exact ⟨λe=>ha (this.1 e),λe=>hb (this.2 e)⟩
  ·exact hn s uR hk
 ·simp only [PK.add]
  rcases uG i y hy with hy|⟨rfl,rfl⟩
  ·have:=h.tp i y hy hr
   split
   ·rename_i jW
    have bM:y.cF≠x.cF:=λe=>by rw [e,hf jW] at this;cases this
    simp [iw,bM,this]
   ·exact this
  ·rw [if_pos hr];simp [iw]
 ·simp only [PK.add] at AA ⊢
  split at AA
  ·rename_i jW
   simp only [iw] at AA
   split at AA
   ·rename_i e
    cases AA
    exact ⟨k.parts.length,rfl,x,by simp,e.symm,by rw [e];exact jW⟩
   ·obtain ⟨b',h1,y,h2,h3⟩:=h.back c v AA
    exact ⟨b',h1,y,by rw [iu (bq.1 h2).1];exact h2,h3⟩
  ·obtain ⟨b',h1,y,h2,h3⟩:=h.back c v AA
   exact ⟨b',h1,y,by rw [iu (bq.1 h2).1];exact h2,h3⟩
structure Sc where
 xU:List Int
 BP:List Int
 xV:List (Int × Int)
 data:Bool
def okW (w:Int):Prop:=1<=w/\w<=8
structure ajk (sc:Sc):Prop where
 xU:∀w∈sc.xU,okW w
 BP:∀w∈sc.BP,okW w
 xV:∀m∈sc.xV,okW m.1
inductive WT (sc:Sc):Nat->Int->Expr->Prop
 | const {n:Nat} {w k:Int}:okW w->WT sc (n+1) w (.mk 1 k w [])
 | cF {n:Nat} {w:Int} (i:Nat):sc.xU[i]?=some w->WT sc (n+1) w (.mk 16 i 0 [])
 | data {n:Nat} {w:Int} (i:Nat):sc.data=true->sc.BP[i]?=some w->WT sc (n+1) w (.mk 18 i 0 [])
 | not {n:Nat} {w:Int} {a:Expr}:WT sc n w a->WT sc (n+1) w (.mk 2 0 0 [a])
 | two {n:Nat} {w op:Int} {a b:Expr}:3<=op->op<=7->WT sc n w a->WT sc n w b->WT sc (n+1) w (.mk op 0 0 [a,b])
 | cmp {n:Nat} {v op:Int} {a b:Expr}:8<=op->op<=9->WT sc n v a->WT sc n v b->WT sc (n+1) 1 (.mk op 0 0 [a,b])
 | AD {n:Nat} {w:Int} {c a b:Expr}:WT sc n 1 c->WT sc n w a->WT sc n w b->WT sc (n+1) w (.mk 10 0 0 [c,a,b])
 | cat {n:Nat} {v w:Int} {a b:Expr}:w=v+1->okW w->WT sc n v a->WT sc n 1 b->WT sc (n+1) w (.mk 11 0 0 [a,b])
 | slice {n:Nat} {v w k:Int} {a:Expr}:0<=k->k+w<=v->okW w->WT sc n v a->WT sc (n+1) w (.mk 12 k w [a])
 | ext {n:Nat} {v w:Int} {a:Expr}:v<=w->okW w->WT sc n v a->WT sc (n+1) w (.mk 13 0 w [a])
 | read {n:Nat} {v w words:Int} (i:Nat) {a:Expr}:sc.xV[i]?=some (w,words)->WT sc n v a->WT sc (n+1) w (.mk 17 i 0 [a])
theorem WT.wide {sc:Sc} (hs:ajk sc):∀{n:Nat} {w:Int} {e:Expr},WT sc n w e->okW w
 | _,_,_,.const h=>h
 | _,_,_,.cF i h=>hs.xU _ (cL h)
 | _,_,_,.data i _ h=>hs.BP _ (cL h)
 | _,_,_,.not h=>h.wide hs
 | _,_,_,.two _ _ h _=>h.wide hs
 | _,_,_,.cmp _ _ _ _=>⟨by omega,by omega⟩
 | _,_,_,.AD _ h _=>h.wide hs
 | _,_,_,.cat _ h _ _=>h
 | _,_,_,.slice _ _ h _=>h
 | _,_,_,.ext _ h _=>h
 | _,_,_,.read i h _=>hs.xV _ (cL h)
theorem WT.up {sc:Sc}:∀{n:Nat} {w:Int} {e:Expr},WT sc n w e->WT sc (n+1) w e
 | _,_,_,.const h=>.const h
 | _,_,_,.cF i h=>.cF i h
 | _,_,_,.data i h1 h=>.data i h1 h
 | _,_,_,.not h=>.not h.up
 | _,_,_,.two a b h1 h2=>.two a b h1.up h2.up
 | _,_,_,.cmp a b h1 h2=>.cmp a b h1.up h2.up
 | _,_,_,.AD h1 h2 h3=>.AD h1.up h2.up h3.up
 | _,_,_,.cat a b h1 h2=>.cat a b h1.up h2.up
 | _,_,_,.slice a b c h=>.slice a b c h.up
 | _,_,_,.ext a b h=>.ext a b h.up
 | _,_,_,.read i h h2=>.read i h h2.up
theorem WT.more {sc FR:Sc} (hr:FR.xU=sc.xU) (hm:FR.xV=sc.xV) (ht:sc.data=true->FR.data=true/\FR.BP=sc.BP):∀{n:Nat} {w:Int} {e:Expr},WT sc n w e->WT FR n w e
 | _,_,_,.const h=>.const h
 | _,_,_,.cF i h=>.cF i (by rw [hr];exact h)
 | _,_,_,.data i h1 h=>.data i (ht h1).1 (by rw [(ht h1).2];exact h)
 | _,_,_,.not h=>.not (h.more hr hm ht)
 | _,_,_,.two a b h1 h2=>.two a b (h1.more hr hm ht) (h2.more hr hm ht)
 | _,_,_,.cmp a b h1 h2=>.cmp a b (h1.more hr hm ht) (h2.more hr hm ht)
 | _,_,_,.AD h1 h2 h3=>.AD (h1.more hr hm ht) (h2.more hr hm ht) (h3.more hr hm ht)
 | _,_,_,.cat a b h1 h2=>.cat a b (h1.more hr hm ht) (h2.more hr hm ht)
 | _,_,_,.slice a b c h=>.slice a b c (h.more hr hm ht)
 | _,_,_,.ext a b h=>.ext a b (h.more hr hm ht)
 | _,_,_,.read i h h2=>.read i (by rw [hm];exact h) (h2.more hr hm ht)
def yv (sc:Sc) (n:Nat):List Int->List Expr->Prop
 | [],[]=>True
 | w :: ws,e :: es=>WT sc n w e/\yv sc n ws es
 | _,_=>False
theorem WT.args {sc:Sc}:∀{n:Nat} {w:Int} {e:Expr},WT sc (n+1) w e->∃ws,yv sc n ws e.args
 | _,_,_,.const h=>⟨[],trivial⟩
 | _,_,_,.cF i h=>⟨[],trivial⟩
 | _,_,_,.data i h1 h=>⟨[],trivial⟩
 | _,_,_,.not h=>⟨[_],h,trivial⟩
 | _,_,_,.two a b h1 h2=>⟨[_,_],h1,h2,trivial⟩
 | _,_,_,.cmp a b h1 h2=>⟨[_,_],h1,h2,trivial⟩
 | _,_,_,.AD h1 h2 h3=>⟨[_,_,_],h1,h2,h3,trivial⟩
 | _,_,_,.cat a b h1 h2=>⟨[_,_],h1,h2,trivial⟩
 | _,_,_,.slice a b c h=>⟨[_],h,trivial⟩
 | _,_,_,.ext a b h=>⟨[_],h,trivial⟩
 | _,_,_,.read i h h2=>⟨[_],h2,trivial⟩
theorem yv.get {sc:Sc} {n:Nat}:∀{ws:List Int} {es:List Expr},yv sc n ws es->∀(i:Nat) (e:Expr),es[i]?=some e->∃w,ws[i]?=some w/\WT sc n w e
 | [],[],_,i,e,h=>by simp at h
 | w :: ws,x :: es,h,0,e,he=>by simp at he;subst he;exact ⟨w,rfl,h.1⟩
 | w :: ws,x :: es,h,i+1,e,he=>by simpa using yv.get h.2 i e (by simpa using he)
theorem yv.len {sc:Sc} {n:Nat}:∀{ws:List Int} {es:List Expr},yv sc n ws es->ws.length=es.length
 | [],[],_=>rfl
 | w :: ws,x :: es,h=>by simp [yv.len h.2]
theorem WT.jt {sc:Sc}:∀{n:Nat} {w:Int} {e:Expr},WT sc n w e->e.args.length<=3
 | _,_,_,.const h=>by simp [Expr.args]
 | _,_,_,.cF i h=>by simp [Expr.args]
 | _,_,_,.data i h1 h=>by simp [Expr.args]
 | _,_,_,.not h=>by simp [Expr.args]
 | _,_,_,.two a b h1 h2=>by simp [Expr.args]
 | _,_,_,.cmp a b h1 h2=>by simp [Expr.args]
 | _,_,_,.AD h1 h2 h3=>by simp [Expr.args]
 | _,_,_,.cat a b h1 h2=>by simp [Expr.args]
 | _,_,_,.slice a b c h=>by simp [Expr.args]
 | _,_,_,.ext a b h=>by simp [Expr.args]
 | _,_,_,.read i h h2=>by simp [Expr.args]
def yw (ins:Int) (gs:List Gate):Prop:=∀(i:Nat) (g:Gate),gs[i]?=some g->VD (2+ins+i) g
def vK (ins:Int) (gs:List Gate) (v:Int):Prop:=0<=v/\v < 2+ins+gs.length
theorem vK.mono {ins:Int} {gs ZM:List Gate} {v:Int} (h:vK ins gs v) (hl:gs.length<=ZM.length):vK ins ZM v:=⟨h.1,by have:=h.2;omega⟩
theorem yw.nil (ins:Int):yw ins []:=λi g h=>by simp at h
theorem yw.add {ins:Int} {gs:List Gate} (h:yw ins gs) {g:Gate} (hg:VD (2+ins+gs.length) g):yw ins (gs++[g]):=by
 intro i x hx
 rw [Dr] at hx
 split at hx
 ·exact h i x hx
 ·rename_i aQ
  have hi:i - gs.length=0:=by
   have:=(bq.1 hx).1
   simp at this;omega
  rw [hi] at hx
  simp at hx
  subst hx
  have:(i:Int)=gs.length:=by omega
  rw [this];exact hg
def Ev (w:dV):Int :=
 if w.kind=1 then 16*w.i+w.bit
 else if w.kind=2 then 1000+32*w.i+w.bit
 else if w.kind=3 then 1000+32*w.i+16
 else if w.kind=4 then 2000+w.i
 else if w.kind=5 then 1000+w.i
 else if w.kind=6 then 2000+32*w.i
 else if w.kind=7 then 2000+32*w.i+16+w.bit
 else 3000+64*w.i+16*(w.kind - 8)+w.bit
def u7 (c:Int) (l:List dV):Prop:=l.Pairwise (λa b=>Ev a < Ev b)/\∀w∈l,Ev w < c
theorem u7.nil (c:Int):u7 c []:=⟨List.Pairwise.nil,by simp⟩
theorem u7.up {c d:Int} {l:List dV} (h:u7 c l) (Yk:c<=d):u7 d l:=⟨h.1,λw hw=>by have:=h.2 w hw;omega⟩
theorem u7.add {c d:Int} {l:List dV} (h:u7 c l) {w:dV} (hc:c<=Ev w) (hd:Ev w < d):u7 d (l++[w]):=by
 refine ⟨?_,λx hx=>?_⟩
 ·rw [j9]
  refine ⟨h.1,by simp,λa ha b hb=>?_⟩
  simp at hb;subst hb
  have:=h.2 a ha
  omega
 ·rcases eA.1 hx with hx|hx
  ·have:=h.2 x hx;omega
  ·simp at hx;subst hx;exact hd
theorem u7.nodup {c:Int} {l:List dV} (h:u7 c l):l.Nodup:=by
 rw [R5]
 exact h.1.imp λgu e=>by rw [e] at gu;omega
def ajl (rw:List Int) (i k:Int) (w:dV):Prop:=0<=w.i/\0<=w.bit/\((w.i < i/\∃W,rw[w.i.toNat]?=some W/\w.bit < W)\/w.i=i/\w.bit < k)
def tg (rw:List Int) (i k:Int) (l:List dV):Prop:=∀w:dV,w.kind=1->(w∈l↔ajl rw i k w)
theorem tg.nil (rw:List Int):tg rw 0 0 []:=λw _=>⟨λh=>(by simp at h),λ⟨h0,h1,h⟩=>by rcases h with ⟨h,_⟩|⟨_,h⟩<;>omega⟩
theorem tg.bit {rw:List Int} {i k:Int} {l:List dV} (h:tg rw i k l) (h0:0<=i) (h1:0<=k):tg rw i (k+1) (l++[⟨1,i,k⟩]):=by
 intro w hw
 rw [eA,h w hw]
 constructor
 ·rintro (⟨a,b,c⟩|e)
  ·refine ⟨a,b,c.imp id λ⟨x,y⟩=>⟨x,by omega⟩⟩
  ·simp at e;subst e
   exact ⟨h0,h1,.inr ⟨rfl,by simp only;omega⟩⟩
 ·rintro ⟨a,b,c|⟨x,y⟩⟩
  ·exact .inl ⟨a,b,.inl c⟩
  ·by_cases hk:w.bit < k
   ·exact .inl ⟨a,b,.inr ⟨x,hk⟩⟩
   ·right
    have:w.bit=k:=by omega
    cases w
    simp only at *
    subst hw;subst x;subst this
    simp
theorem tg.next {rw:List Int} {i:Nat} {k:Int} {l:List dV} (h:tg rw i k l) (hk:rw[i]?=some k):tg rw (i+1:Nat) 0 l:=by
 intro w hw
 rw [h w hw]
 constructor
 ·rintro ⟨a,b,⟨c,d⟩|⟨c,d⟩⟩
  ·exact ⟨a,b,.inl ⟨by omega,d⟩⟩
  ·refine ⟨a,b,.inl ⟨by omega,k,?_,d⟩⟩
   have:w.i.toNat=i:=by omega
   rw [this];exact hk
 ·rintro ⟨a,b,⟨c,W,d,e⟩|⟨c,d⟩⟩
  ·by_cases hi:w.i < i
   ·exact ⟨a,b,.inl ⟨hi,W,d,e⟩⟩
   ·refine ⟨a,b,.inr ⟨by omega,?_⟩⟩
    have:w.i.toNat=i:=by omega
    rw [this,hk] at d
    cases d
    exact e
  ·omega
theorem tg.other {rw:List Int} {i k:Int} {l:List dV} (h:tg rw i k l) {x:dV} (hx:x.kind≠1):tg rw i k (l++[x]):=by
 intro w hw
 rw [eA,<-h w hw]
 constructor
 ·rintro (e|e)
  ·exact e
  ·simp at e;subst e;exact absurd hw hx
 ·exact .inl
noncomputable def cB0 (n m:Nat):Ctx:=nv n m [] []
theorem Ny (n m:Nat):CB PP (cB0 n m):=n8 n m trivial trivial
structure Nz (ins:Int) (gs:List Gate):Prop where
 ok:yw ins gs
 ins:0<=ins/\ins<=1000
 len:gs.length<=1000000000
structure JW where
 gs:List Gate
 n:Int
structure uK (ins:Int) (gs:List Gate) (k:Nat) (y:JW):Prop where
 ok:yw ins y.gs
 lo:gs.length<=y.gs.length
 hi:y.gs.length<=gs.length+k
 n:vK ins y.gs y.n
theorem vK.zero {ins:Int} {gs:List Gate} (h:0<=ins):vK ins gs 0:=⟨by omega,by omega⟩
theorem vK.one {ins:Int} {gs:List Gate} (h:0<=ins):vK ins gs 1:=⟨by omega,by omega⟩
theorem uK.same {ins:Int} {gs:List Gate} {k:Nat} {n:Int} (h:yw ins gs) (hn:vK ins gs n):uK ins gs k ⟨gs,n⟩:=⟨h,fP _,Nat.le_add_right _ _,hn⟩
theorem uK.more {ins:Int} {gs:List Gate} {k k':Nat} {y:JW} (h:uK ins gs k y) (hk:k<=k'):uK ins gs k' y:=⟨h.ok,h.lo,by have:=h.hi;omega,h.n⟩
theorem uK.trans {ins:Int} {gs:List Gate} {k k':Nat} {y z:JW} (h:uK ins gs k y) (h2:uK ins y.gs k' z):uK ins gs (k+k') z:=⟨h2.ok,by have:=h.lo;have:=h2.lo;omega,by have:=h.hi;have:=h2.hi;omega,h2.n⟩
theorem Nz.next {ins:Int} {gs:List Gate} {k:Nat} {z:JW} (h:Nz ins gs) (hz:uK ins gs k z) (hl:z.gs.length<=1000000000):Nz ins z.gs:=⟨hz.ok,h.ins,hl⟩
def Iz (l:List (List Int)) (x:List Int) (r:List (List Int)):Prop:=r=l\/x∉l/\∃o,o.Sublist l/\r=o++[x]
theorem Iz.nodup {l:List (List Int)} {x:List Int} {r:List (List Int)} (h:Iz l x r) (hn:l.Nodup):r.Nodup:=by
 rcases h with rfl|⟨hx,o,ho,rfl⟩
 ·exact hn
 ·rw [G7]
  refine ⟨hn.sublist ho,by simp,λa ha b hb=>?_⟩
  simp at hb;subst hb
  rintro rfl
  exact hx (ho.subset ha)
theorem Iz.all {l:List (List Int)} {x:List Int} {r:List (List Int)} (h:Iz l x r) {p:List Int->Prop} (hl:∀y∈l,p y) (hx:p x):∀y∈r,p y:=by
 rcases h with rfl|⟨_,o,ho,rfl⟩
 ·exact hl
 ·intro y hy
  rcases eA.1 hy with hy|hy
  ·exact hl y (ho.subset hy)
  ·simp at hy;subst hy;exact hx
structure LN where
 l:List Int
 n:Int
structure LL where
 a:List Int
 b:List Int
def M8 (n:Net):Int:=2+n.ins.length+n.bU.length
def si:List Int->List Int->Bool
 | x :: r,y :: s=>if x≠y then decide (x < y) else si r s
 | _,_=>false
def lU (a b:List Int):Bool:=if a.length≠b.length then decide (a.length < b.length) else si a b
theorem aeU {a b:List Int} {i:Nat} {x y:Int} (hx:a[i]?=some x) (hy:b[i]?=some y):si (a.drop i) (b.drop i)=if x≠y then decide (x < y) else si (a.drop (i+1)) (b.drop (i+1)):=by
 obtain ⟨h1,e1⟩:=bq.1 hx
 obtain ⟨h2,e2⟩:=bq.1 hy
 rw [rC h1,rC h2,e1,e2]
 rfl
@[reducible] noncomputable def H4:Vc.Spec where
 α:=LL
 args x:=[.sl 1 bH (λ_=>x.a),.sl 1 bH (λ_=>x.b)]
 pre x:=x.a.length<=1000000/\x.b.length<=1000000
 res x:=.b (λ_=>lU x.a x.b)
theorem Mn:dm (PP ()) 37 H4:=by
 refine fl (Ny 0 0) (fo Try.func37) (λa=>⟨(λx=>(dq x).1),(λx=>(dq x).1),trivial⟩) (λa=>trivial) ?_
 rintro ⟨a,b⟩ hx
 obtain ⟨ha,hb⟩:a.length<=1000000/\b.length<=1000000:=hx
 refine ⟨?_⟩
 cbv
 refine ⟨λh=>?_,λh=>?_⟩
 ·have gu:a.length≠b.length:=by have:=h.out;simp [gA] at this;exact tN
  have e:fj (a.length:Int) (b.length:Int)=lU a b:=by unfold lU fj;rw [if_pos gu];simp
  cbv
  exact ⟨.b e⟩
 ·have gu:a.length=b.length:=by have:=h.out;simp [gA] at this;exact tN
  have e:lU a b=si a b:=by unfold lU;rw [if_neg (by simpa using gu)]
  cbv
  refine Sat.eE (Ny 0 0) 0 5 [] (λi:Nat=>[(5,.i .i64 λ_=>(i:Int))]) (λ_=>[]) (λi=>i<=a.length/\lU a b=si (a.drop i) (b.drop i)) (λi=>a.length - i) 0 (by exact aW) (by exact aW) ⟨by omega,by simpa using e⟩ ?_
  rintro i ⟨hi,he⟩
  cbv
  refine ⟨λh=>?_,λh=>?_⟩
  ·(have h:=h.out;simp (disch:=exact tN) only [hS] at h)
   have aQ:i < a.length:=by exact tN
   have cy:a.length - (i+1) < a.length - i:=by omega
   obtain ⟨x,hx⟩:=cC aQ
   obtain ⟨y,hy⟩:=cC (l:=b) (i:=i) (by omega)
   have hl:=aeU hx hy
   have h1:=eO (i:=i) (by omega)
   have h0:=n0 i
   cbv
   refine ⟨x,⟨h0,hx⟩,?_⟩
   cbv
   refine ⟨y,⟨h0,hy⟩,?_⟩
   cbv
   refine ⟨λh=>?_,λh=>?_⟩
   ·have bM:x≠y:=by have:=h.out;simpa [gA] using this
    have e2:fj x y=lU a b:=by rw [he,hl,if_pos bM];rfl
    cbv
    refine ⟨x,⟨h0,hx⟩,?_⟩
    cbv
    refine ⟨y,⟨h0,hy⟩,?_⟩
    cbv
    exact ⟨.b e2⟩
   ·have bM:x=y:=by have:=h.out;simpa [gA] using this
    have e2:lU a b=si (a.drop (i+1)) (b.drop (i+1)):=by rw [he,hl,if_neg (by simpa using bM)]
    cbv
    exact ⟨i+1,by have bE:=h1;exact a8,by exact aW,⟨⟨aQ,e2⟩,cy⟩⟩
  ·(have h:=h.out;simp (disch:=exact tN) only [hS] at h)
   have b9:i=a.length:=by exact tN
   have e2:lU a b=false:=by rw [he,b9,List.drop_length];rfl
   cbv
   exact ⟨.bc e2.symm⟩
structure ajs (A:Type) where
 a:List A
 b:List A
open Classical in
noncomputable def jI {A:Type} (a b:List A):Bool:=decide (a=b)
theorem xw {A:Type} {a b:List A}:jI a b=true↔a=b:=by simp [jI]
theorem VH {A:Type} {a b:List A} (h:a≠b):jI a b=false:=by simp [jI,h]
theorem af1 {A:Type} {a b:List A} {i:Nat} {x y:A} (hx:a[i]?=some x) (hy:b[i]?=some y) (h:x≠y):jI a b=false:=VH λe=>by
 rw [e,hy] at hx;exact h (vz hx).symm
theorem aeV {A:Type} {a b:List A} (hl:a.length=b.length) (h:∀(i:Nat) (x y:A),a[i]?=some x->b[i]?=some y->x=y):jI a b=true:=xw.2 (by
 apply Lt hl
 intro i h1 h2
 exact h i _ _ (eB h1) (eB h2))
end Go.Proofs.Pk
