import Derived.Test.YthnhbemmlfaihaaR13
import Derived.Test.YthnhbemmlfaihaaR14
import Derived.Test.YthnhbemmlfaihaaR15
import Derived.Test.YthnhbemmlfaihaaR18
import Derived.Test.YthnhbemmlfaihaaR25
set_option linter.unusedVariables false
set_option linter.unusedSimpArgs false
set_option maxRecDepth 10000
set_option maxHeartbeats 64000000
namespace Go.Proofs.Pk
open Go Go.Vc
def yB (m:dM):List SV:=[.i .i64 (λ_=>m.n),.sl 3 lK (λ_=>m.cells),.sl 1 bK (λ_=>m.bf)]
def Qj (c:jn):List SV:=[.sl 1 bK (λ_=>c.root),.sl 1 fP (λ_=>c.leaves)]
theorem zL (m:dM):bX (yB m):=⟨trivial,λx=>(BR x).1,λx=>(dv x).1,trivial⟩
theorem V7 (c:jn):bX (Qj c):=⟨λx=>(dv x).1,λx=>(qS x).1,trivial⟩
theorem abx {N last r:Int} {R:List Int} {i:Nat} (hr:R[i]?=some r):mE N last (R.drop i)=(decide (last < r/\r < N)&&mE N r (R.drop (i+1))):=by
 obtain ⟨h,e⟩:=bh.1 hr
 rw [qN h,e];rfl
theorem aby {I:Nat} {gs:List Gate} {sig:Int->Option Int} {C:List Cell} {R:List Int} {L:List (List Int)} {i:Nat} {x:Cell} {r:Int} {l:List Int} (hx:C[i]?=some x) (hr:R[i]?=some r) (hl:L[i]?=some l) :
  mD I gs sig (C.drop i) (R.drop i) (L.drop i)=(decide ((cellOf I gs r l sig).2=0)&&B6 x (cellOf I gs r l sig).1&&mD I gs sig (C.drop (i+1)) (R.drop (i+1)) (L.drop (i+1))):=by
 obtain ⟨h1,e1⟩:=bh.1 hx
 obtain ⟨h2,e2⟩:=bh.1 hr
 obtain ⟨h3,e3⟩:=bh.1 hl
 rw [qN h1,qN h2,qN h3,e1,e2,e3];rfl
theorem abz {sig:Int->Option Int} {D E:List Int} {i:Nat} {v s:Int} (hv:D[i]?=some v) (hs:E[i]?=some s) :
  oe sig (D.drop i) (E.drop i)=(decide (sig v=some s)&&oe sig (D.drop (i+1)) (E.drop (i+1))):=by
 obtain ⟨h1,e1⟩:=bh.1 hv
 obtain ⟨h2,e2⟩:=bh.1 hs
 rw [qN h1,qN h2,e1,e2];rfl
theorem R8 {N last:Int}:∀{R:List Int},mE N last R=true->fX R/\∀r∈R,last < r/\r < N
 | [],_=>⟨List.Pairwise.nil,by simp⟩
 | r :: R,h=>by
  simp only [mE,cu,decide_eq_true_eq] at h
  obtain ⟨a,b⟩:=R8 h.2
  refine ⟨eX.2 ⟨λx hx=>(b x hx).1,a⟩,λx hx=>?_⟩
  rcases cx.1 hx with rfl|hx
  ·exact h.1
  ·have:=b x hx;have:=h.1;omega
def wB (b:Bool):Int:=if b then 0 else 260
structure ajQ where
 n:Net
 m:dM
 c:jn
 e:Int
structure tP (n:Net) (m:dM) (c:jn) (e:Int):Prop where
 G:cI n.ins.length n.cg
 dr:n.bf.length<=1000000
 cells:m.cells.length<=1000000
 cin:∀x∈m.cells,x.ins.length<=1000000
 lvs:∀l∈c.leaves,l.length<=1000000
 eq:wB (uM n.ins.length n.cg n.bf m c)=e
@[reducible] noncomputable def OR:Vc.Spec where
 α:=ajQ
 args x:=[.agg (px x.n),.agg (yB x.m),.agg (Qj x.c)]
 pre x:=tP x.n x.m x.c x.e
 res x:=.i .i64 (λ_=>x.e)
theorem acs {I:Nat} {gs:List Gate} {r:Int} {l:List Int} {sig:Int->Option Int}:(cellOf I gs r l sig).1.ins.length<=l.length:=by
 have h:∀l:List Int,(mG sig l).1.length<=l.length:=λl=>by
  induction l with
  | nil=>exact fT _
  | cons x l ih =>
   unfold mG
   cases sig x with
   | none=>exact cP _
   | some s=>simp only [oN];omega
 unfold cellOf
 split
 ·split
  ·split
   ·exact h l
   ·split
    ·exact h l
    ·exact h l
  ·exact h l
 ·exact h l
structure ChF (ins:List ec) (gs:List Gate) (outs:List ec) (dr:List Int) (mc:List Cell) (md R:List Int) (V:List (List Int)) (e N L0:Int) (rB:Bool) (Rk:Nat->Int->Bool) (sg:Int->Option Int) (Ck Dk:Nat->Bool):Prop where
 l1:R.length=mc.length
 l2:V.length=mc.length
 l3:md.length=dr.length
 sge:eO ins.length R=sg
 r0:rB=Rk 0 L0
 rn:∀(i:Nat) (r last:Int),R[i]?=some r->(¬last < r->Rk i last=false)/\(¬r < N->Rk i last=false)/\(last < r->r < N->Rk i last=Rk (i+1) r)
 re:∀(i:Nat) (last:Int),R.length<=i->Rk i last=true
 bad:rB=false->260=e
 XQ:rB=true->(ins.length<=1000000/\Cl ins.length R)/\wB (Ck 0&&Dk 0)=e/\(∀(i:Nat) (x:Cell),mc[i]?=some x->∃r l y t,R[i]?=some r/\V[i]?=some l/\JH ⟨ins,gs,outs,dr⟩ r l sg y t/\y.ins.length<=1000000000000/\x.ins.length<=1000000000000 /\
  (¬t=0->Ck i=false)/\(¬x.table=y.table->Ck i=false)/\(¬x.ew=y.ew->Ck i=false)/\(¬x.ins=y.ins->Ck i=false)/\(t=0->x.table=y.table->x.ew=y.ew->x.ins=y.ins->Ck i=Ck (i+1)))
 ce:∀i:Nat,mc.length<=i->Ck i=true
 de:∀i:Nat,dr.length<=i->Dk i=true
 dn:∀(i:Nat) (v:Int),dr[i]?=some v->∃t,md[i]?=some t/\(sg v=none->Dk i=false)/\(∀s,sg v=some s->¬s=t->Dk i=false)/\(sg v=some t->Dk i=Dk (i+1))
theorem chF {ins:List ec} {gs:List Gate} {outs:List ec} {dr:List Int} {mn:Int} {mc:List Cell} {md R:List Int} {V:List (List Int)} {e:Int} (h:tP ⟨ins,gs,outs,dr⟩ ⟨mn,mc,md⟩ ⟨R,V⟩ e) :
  (¬mn=(ins.length:Int)->260=e)/\(¬(R.length:Int)=mc.length->260=e)/\(¬(V.length:Int)=mc.length->260=e)/\(¬(md.length:Int)=dr.length->260=e) /\
   (mn=(ins.length:Int)->(R.length:Int)=mc.length->(V.length:Int)=mc.length->(md.length:Int)=dr.length ->
    ∃rB Rk sg Ck Dk,ChF ins gs outs dr mc md R V e (2+ins.length+gs.length) (1+ins.length) rB Rk sg Ck Dk):=by
 obtain ⟨G,vw,A0,sT,Gs,he⟩:=h
 have G:cI ins.length gs:=G
 have vw:dr.length<=1000000:=vw
 have A0:mc.length<=1000000:=A0
 have sT:∀x∈mc,x.ins.length<=1000000:=sT
 have Gs:∀l∈V,l.length<=1000000:=Gs
 have he:wB ((decide (mn=ins.length)&&decide (R.length=mc.length)&&decide (V.length=mc.length)&&decide (md.length=dr.length))&&(mE (2+ins.length+gs.length) (1+ins.length) R&&(mD ins.length gs (eO ins.length R) mc R V&&oe (eO ins.length R) dr md)))=e:=he
 have hb:=G.o9
 have k2:¬(R.length:Int)=mc.length->¬R.length=mc.length:=λh e=>h (by rw [e])
 have k3:¬(V.length:Int)=mc.length->¬V.length=mc.length:=λh e=>h (by rw [e])
 have k4:¬(md.length:Int)=dr.length->¬md.length=dr.length:=λh e=>h (by rw [e])
 refine ⟨λh=>by rw [<-he];simp [h,wB],λh=>by rw [<-he];simp [k2 h,wB],λh=>by rw [<-he];simp [k3 h,wB],λh=>by rw [<-he];simp [k4 h,wB],λh1 h2 h3 h4=>?_⟩
 have h2:R.length=mc.length:=by omega
 have h3:V.length=mc.length:=by omega
 have h4:md.length=dr.length:=by omega
 rw [decide_eq_true h1,decide_eq_true h2,decide_eq_true h3,decide_eq_true h4] at he
 simp only [Md,Ee] at he
 have hr:mE (2+ins.length+gs.length) (1+ins.length) R=true->(R.length<=1000000/\R.Nodup/\∀r∈R,2+(ins.length:Int)<=r)/\∀r∈R,r < 2+(ins.length:Int)+gs.length:=λh=>by
  obtain ⟨a,b⟩:=R8 h
  exact ⟨⟨by omega,a.imp λh e=>by omega,λr hr=>by have:=b r hr;omega⟩,λr hr=>by have:=b r hr;omega⟩
 refine ⟨mE (2+ins.length+gs.length) (1+ins.length) R,λi last=>mE (2+ins.length+gs.length) last (R.drop i),eO ins.length R,λi=>mD ins.length gs (eO ins.length R) (mc.drop i) (R.drop i) (V.drop i),λi=>oe (eO ins.length R) (dr.drop i) (md.drop i),?_⟩
 refine ⟨h2,h3,h4,rfl,rfl,λi r last Dj=>?_,λi last h=>?_,λh=>by rw [<-he,h];rfl,λh=>?_,λi h=>?_,λi h=>?_,λi v hv=>?_⟩
 ·show (_->mE _ last (R.drop i)=_)/\(_->mE _ last (R.drop i)=_)/\(_->_->mE _ last (R.drop i)=mE _ r (R.drop (i+1)))
  rw [abx Dj]
  exact ⟨λh=>by rw [decide_eq_false λk=>h k.1];rfl,λh=>by rw [decide_eq_false λk=>h k.2];rfl,λa b=>by rw [decide_eq_true ⟨a,b⟩];rfl⟩
 ·show mE _ last (R.drop i)=true
  rw [BM h];rfl
 ·obtain ⟨⟨a,b,c⟩,d⟩:=hr h
  refine ⟨⟨by omega,a,b,c⟩,by rw [<-he,h];rfl,λi x hx=>?_⟩
  have bU:=(bh.1 hx).1
  obtain ⟨r,vv⟩:=cy (l:=R) (i:=i) (by omega)
  obtain ⟨l,jj⟩:=cy (l:=V) (i:=i) (by omega)
  obtain ⟨y,t,Qk⟩:∃y t,cellOf ins.length gs r l (eO ins.length R)=(y,t):=⟨_,_,rfl⟩
  have bY:=Gs l (cN jj)
  have lV:y.ins.length<=l.length:=by have:=acs (I:=ins.length) (gs:=gs) (r:=r) (l:=l) (sig:=eO ins.length R);rw [Qk] at this;exact this
  refine ⟨r,l,y,t,vv,jj,⟨G,bY,c r (cN vv),d r (cN vv),Qk⟩,by omega,by have:=sT x (cN hx);omega,?_⟩
  have e:=aby (I:=ins.length) (gs:=gs) (sig:=eO ins.length R) hx vv jj
  rw [Qk] at e
  have e:mD ins.length gs (eO ins.length R) (mc.drop i) (R.drop i) (V.drop i)=(decide (t=0)&&(decide (x.table=y.table)&&decide (x.ew=y.ew)&&decide (x.ins=y.ins))&&mD ins.length gs (eO ins.length R) (mc.drop (i+1)) (R.drop (i+1)) (V.drop (i+1))):=e
  refine ⟨λh=>?_,λh=>?_,λh=>?_,λh=>?_,λq1 q2 q3 q4=>?_⟩
  ·show mD _ _ _ _ _ _=_
   rw [e,decide_eq_false h];simp
  ·show mD _ _ _ _ _ _=_
   rw [e,decide_eq_false h];simp
  ·show mD _ _ _ _ _ _=_
   rw [e,decide_eq_false h];simp
  ·show mD _ _ _ _ _ _=_
   rw [e,decide_eq_false h];simp
  ·show mD _ _ _ _ _ _=mD _ _ _ _ _ _
   rw [e,decide_eq_true q1,decide_eq_true q2,decide_eq_true q3,decide_eq_true q4];rfl
 ·show mD _ _ _ (mc.drop i) _ _=true
  rw [BM h];rfl
 ·show oe _ (dr.drop i) _=true
  rw [BM h];rfl
 ·have bU:=(bh.1 hv).1
  obtain ⟨t,ht⟩:=cy (l:=md) (i:=i) (by omega)
  have e:=abz (sig:=eO ins.length R) hv ht
  refine ⟨t,ht,λh=>?_,λs hs h=>?_,λh=>?_⟩
  ·show oe _ _ _=_
   rw [e,h];rfl
  ·show oe _ _ _=_
   rw [e,hs,decide_eq_false λk=>h (vT k)];rfl
  ·show oe _ _ _=oe _ _ _
   rw [e,h,decide_eq_true rfl];rfl
def iT (L:Int) (s:Int):Bool:=decide (0<=s/\s < L)
def so (x:Cell):Bool:=decide (x.ew=-1)&&decide (x.ins.length<=4)&&decide (0<=x.table)&&decide (x.table < 2^(2^x.ins.length))
def sq (x:Cell):Bool:=decide (0<=x.ew)&&decide (x.ew < 64)&&decide (x.ins.length=3)&&decide (x.table=0)
def Xa (x:Cell) (L:Int):Bool:=(so x||sq x)&&x.ins.all (iT L)
def uN:List Cell->Int->Bool
 | [],_=>true
 | x :: r,L=>Xa x L&&uN r (L+1)
theorem abX {C:List Cell} {L:Int} {i:Nat} {x:Cell} (hx:C[i]?=some x):uN (C.drop i) L=(Xa x L&&uN (C.drop (i+1)) (L+1)):=by
 obtain ⟨h1,e1⟩:=bh.1 hx
 rw [qN h1,e1];rfl
def Ax (m:dM):Bool:=decide (0<=m.n)&&decide (m.n<=600)&&decide (2+m.n+m.cells.length<=600)&&(uN m.cells (2+m.n)&&m.bf.all (iT (2+m.n+m.cells.length)))
structure ajR where
 l:List Int
 L:Int
@[reducible] noncomputable def OS:Vc.Spec where
 α:=ajR
 args x:=[.sl 1 bK (λ_=>x.l),.i .i64 (λ_=>x.L)]
 pre x:=x.l.length<=1000000
 res x:=.b (λ_=>x.l.all (iT x.L))
noncomputable def ajS (n m:Nat):Ctx:=cT n m [(28,Try.f28),(38,Try.f38),(29,Try.f29)] [] [] [38]
theorem V8 (n m:Nat):CB PP (ajS n m):=cW n m ⟨fo Try.func28,fo Try.func38,fo Try.func29,trivial⟩ trivial
theorem V9:dw (PP ()) 27 OS:=by
 refine fH (V8 0 0) (fo Try.func27) (λa=>⟨λx=>(dv x).1,trivial,trivial⟩) (λa=>trivial) ?_
 rintro ⟨a,L⟩ hx
 have ha:a.length<=1000000:=hx
 obtain ⟨f,hf⟩:∃f,f=iT L:=⟨_,rfl⟩
 have hu:a.all (iT L)=a.all f:=by rw [hf]
 have hz:(a.take 0).all f=true:=rfl
 have di:∀(i:Nat) (x:Int),a[i]?=some x->¬(0<=x/\x < L)->(!jI 0 (i:Int))=a.all (iT L):=λi x hx h=>by
  have e:a.all (iT L)=false:=by
   rw [List.all_eq_false]
   exact ⟨x,cN hx,by unfold iT;rw [decide_eq_false h];decide⟩
  rw [e];simp [jI]
 have yL:∀(i:Nat) (x:Int),a[i]?=some x->0<=x->x < L->(a.take i).all f=true->(a.take (i+1)).all f=true:=λi x hx h1 h2 h3=>by
  rw [Un hx,h3,hf];unfold iT;rw [decide_eq_true ⟨h1,h2⟩];rfl
 refine ⟨?_⟩
 cbv
 refine Sat.eI (V8 0 0) 1 8 [] (λi:Nat=>[(8,.i .i64 (λ_=>(i:Int)))]) (λi=>[])
  (λi=>i<=a.length/\(a.take i).all f=true) (λi=>a.length - i) 0 (by exact aX) (by exact aX) ⟨cP _,hz⟩ ?_
 rintro i ⟨hi,ht⟩
 have h0:=n0 i
 have h1:=eU (i:=i) (by omega)
 cbv
 refine ⟨λh=>?_,λh=>?_⟩
 ·have bU:i < a.length:=aJ
  have cD:a.length - (i+1) < a.length - i:=by omega
  refine (cy bU).elim λx hx=>?_
  have di:=di i x hx
  have yL:=yL i x hx
  clear h
  cbv
  refine ⟨x,⟨h0,hx⟩,?_⟩
  cbv
  refine ⟨λh=>?_,λh=>?_⟩
  ·have aP:¬0<=x:=aJ
   have e:=di λh=>aP h.1
   cbv
   exact ⟨by have nG:=e;exact bN⟩
  have cf:0<=x:=aJ
  clear h
  cbv
  refine ⟨λh=>?_,λh=>?_⟩
  ·have aP:¬x < L:=aJ
   have e:=di λh=>aP h.2
   cbv
   exact ⟨by have nG:=e;exact bN⟩
  ·have aP:x < L:=aJ
   have b9:i+1<=a.length/\(a.take (i+1)).all f=true:=⟨bU,yL cf aP ht⟩
   cbv
   exact ⟨i+1,by have bI:=h1;exact bp,by exact aX,⟨⟨b9,cD⟩⟩⟩
 ·have cf:a.length<=i:=aJ
  have e:true=a.all (iT L):=by rw [hu,<-ht,jt cf]
  cbv
  exact ⟨by have eW:=e;exact bN⟩
structure Ay (m:dM):Prop where
 n0:0<=m.n
 n6:2+m.n+m.cells.length<=600
 cell:∀(i:Nat) (x:Cell),m.cells[i]?=some x->(so x||sq x)=true/\∀s∈x.ins,0<=s/\s < 2+m.n+i
 dr:∀s∈m.bf,0<=s/\s < 2+m.n+m.cells.length
def gw (n:Int) (C:List Cell):List Int:=C.foldl (λD x=>D++[1+cd D x.ins]) (List.replicate (2+n).toNat 0)
def wb (m:dM):Int:=cd (gw m.n m.cells) m.bf
theorem HW {n:Int} {C:List Cell} {i:Nat} {x:Cell} (hx:C[i]?=some x):gw n (C.take i)++[1+cd (gw n (C.take i)) x.ins]=gw n (C.take (i+1)):=by
 unfold gw
 rw [ju,hx,nX,List.foldl_append,mA,Ed]
theorem BS {n:Int} {C:List Cell}:∀{i:Nat},i<=C.length->(gw n (C.take i)).length=(2+n).toNat+i
 | 0,_=>by unfold gw;simp
 | i+1,h=>by
  obtain ⟨x,hx⟩:=cy (l:=C) (i:=i) (by omega)
  rw [<-HW hx,fS,BS (by omega)];rfl
theorem Nf {n:Int} {C:List Cell}:∀{i:Nat},i<=C.length->∀y∈gw n (C.take i),0<=y/\y<=(i:Int)
 | 0,_,y,h=>by
  unfold gw at h
  rw [Mb,Ed] at h
  rw [(Bx.1 h).2];omega
 | i+1,h,y,hy=>by
  obtain ⟨x,hx⟩:=cy (l:=C) (i:=i) (by omega)
  rw [<-HW hx] at hy
  have ih:=Nf (n:=n) (C:=C) (i:=i) (by omega)
  rcases eE.1 hy with hy|hy
  ·have:=ih y hy;omega
  ·rw [qR] at hy
   have h0:=xO (gw n (C.take i)) x.ins
   have h1:cd (gw n (C.take i)) x.ins<=(i:Int):=xD (by omega) λv _=>by
    rw [List.getD_eq_getElem?_getD]
    cases hv:(gw n (C.take i))[v.toNat]? with
    | none=>show (0:Int)<=i;omega
    | some z=>exact (ih z (cN hv)).2
   omega
structure ajT (m:dM) (D:Nat->List Int) (W:Int):Prop where
 w:2+m.n=W
 w0:0<=W/\W<=600
 z:List.replicate W.toNat 0=D 0
 grow:∀(i:Nat) (x:Cell),m.cells[i]?=some x->D i++[1+cd (D i) x.ins]=D (i+1)/\kN (D i) x.ins/\IntKind.i64.wrap (1+cd (D i) x.ins)=1+cd (D i) x.ins
 len:∀i,i<=m.cells.length->(D i).length<=600
 fin:∀i,i<=m.cells.length->m.cells.length<=i->kN (D i) m.bf/\cd (D i) m.bf=wb m
theorem ajU {m:dM} (h:Ay m) (hc:∀x∈m.cells,x.ins.length<=1000000) (hd:m.bf.length<=1000000):∃D W,ajT m D W:=by
 have h6:=h.n6
 have h0:=h.n0
 refine ⟨λi=>gw m.n (m.cells.take i),_,rfl,by omega,rfl,λi x hx=>?_,λi hi=>?_,λi hi hg=>?_⟩
 ·have hi:=(bh.1 hx).1
  have hl:=BS (n:=m.n) (C:=m.cells) (i:=i) (by omega)
  have hg:kN (gw m.n (m.cells.take i)) x.ins:=⟨hc x (cN hx),λv hv=>by have:=(h.cell i x hx).2 v hv;omega,λy hy=>by have:=Nf (by omega) y hy;omega⟩
  have:=hg.le
  exact ⟨HW hx,hg,eP (by omega) (by omega)⟩
 ·have hl:=BS (n:=m.n) (C:=m.cells) hi
  show (gw m.n (m.cells.take i)).length<=600
  omega
 ·have hl:=BS (n:=m.n) (C:=m.cells) hi
  have e:m.cells.take i=m.cells:=jt hg
  refine ⟨⟨hd,λv hv=>?_,λy hy=>?_⟩,by show cd (gw m.n (m.cells.take i)) m.bf=_;rw [e];rfl⟩
  ·have:=h.dr v hv
   show 0<=v/\v < ((gw m.n (m.cells.take i)).length:Int)
   omega
  ·have:=Nf hi y hy
   omega
theorem Us (z m:Int) (h0:0<=m) (h1:m<=1000000):0<=fJ .and .i64 z m/\fJ .and .i64 z m<=m:=by
 have h:fJ .and .i64 z m=IntKind.i64.wrap ((BitVec.ofInt 64 z &&& BitVec.ofInt 64 m).toNat:Int):=rfl
 have h2:(BitVec.ofInt 64 z &&& BitVec.ofInt 64 m).toNat<=(BitVec.ofInt 64 m).toNat:=by
  rw [BitVec.toNat_and]
  exact Nat.and_le_right
 have h3:((BitVec.ofInt 64 m).toNat:Int)=m:=by
  rw [BitVec.toNat_ofInt]
  omega
 rw [h,eP (by omega) (by omega)]
 omega
theorem Tq:∀{l:List Int} {a b:Int},fX l->(∀x∈l,a<=x/\x < b)->a<=b->(l.length:Int)<=b - a
 | [],a,b,_,_,h=>by simp;omega
 | x :: l,a,b,hi,hm,h=>by
  have hx:=hm x (by simp)
  have h1:=eX.1 hi
  have:=Tq (a:=x+1) (b:=b) h1.2 (λy hy=>⟨by have:=h1.1 y hy;omega,(hm y (by simp [hy])).2⟩) (by omega)
  rw [oN];omega
structure ajV (I:Nat) (gs:List Gate) (R:List Int) (x:Cell) (r:Int) (l:List Int) (i:Nat) (g:Gate):Prop where
 er:r=2+(I:Int)+i
 eg:gs[i]?=some g
 lf:∀y∈l,0<=y/\y < r/\∃s,eO I R y=some s
 ins:x.ins=l.map λy=>(eO I R y).getD 0
 ok:(so x||sq x)=true
 kind:(g.op=7/\l=cR g/\x.table=0/\x.ew=g.n)\/(g.op≠7/\(iE I gs r l).isSome=true/\x.table=B3 I gs r l/\x.ew=-1/\l.length<=4/\∀y∈l,gE I gs l r.toNat y.toNat)
theorem adf {I:Nat} {gs:List Gate} {S:List Int} {root v:Nat} (h:gE I gs S root v) (hr:(root:Int)∈S):v=root:=by
 induction h with
 | base h=>exact h
 | step _ h2 ih=>rw [ih] at h2;exact absurd hr (qU.1 h2).1
theorem OT {I:Nat} {gs:List Gate} (G:cI I gs) {bf:List Int} {m:dM} {c:jn} (h:tz I gs bf m c) {j:Nat} {x:Cell} {r:Int} {l:List Int} (hx:m.cells[j]?=some x) (hr:c.root[j]?=some r) (hl:c.leaves[j]?=some l) :
  ∃i g,ajV I gs c.root x r l i g:=by
 obtain ⟨h1,h2⟩:=h.lim r (cN hr)
 have k:=h.cell j x r l hx hr hl
 have hi:r.toNat - 2 - I < gs.length:=by omega
 have hg:=dE (l:=gs) hi
 generalize hq:r.toNat - 2 - I=i at *
 have Dj:r=2+(I:Int)+i:=by omega
 have AT:gJ I gs r.toNat=some gs[i]:=by rw [show r.toNat=2+I+i by omega];exact pU.2 ⟨i,rfl,hg⟩
 generalize gs[i]=g at *
 have ha:=Hx k.1
 have Gu:=Bu ha.1
 have kg:=G.cg i g hg
 obtain ⟨k1,k2⟩:=k
 have dq:x.ins=l.map λy=>(eO I c.root y).getD 0:=by rw [k2];exact ha.2
 unfold cellOf at k1 k2
 rw [if_pos ha.1,AT] at k1 k2
 simp only at k1 k2
 refine ⟨i,g,?_⟩
 by_cases h7:g.op=7
 ·rw [if_pos h7] at k1 k2
  have hS:l=cR g:=by
   simp only at k1
   by_cases e:l=cR g
   ·exact e
   ·rw [if_neg e] at k1;omega
  have hlen:l.length=3:=by rw [hS];unfold cR ku;rw [h7];simp
  refine ⟨Dj,hg,λy hy=>⟨?_,?_,Gu y hy⟩,dq,?_,.inl ⟨h7,hS,by rw [k2],by rw [k2]⟩⟩
  ·rw [hS] at hy;exact (G.ops hg y hy).1
  ·rw [hS] at hy;have:=(G.ops hg y hy).2;omega
  ·have bU:x.ins.length=3:=by rw [dq,kF,hlen]
   have e1:x.ew=g.n:=by rw [k2]
   have e2:x.table=0:=by rw [k2]
   have:=kg.n
   unfold sq
   rw [e1,e2,bU]
   simp;right;omega
 ·rw [if_neg h7] at k1 k2
  by_cases Ql:l=[r]
  ·rw [if_pos Ql] at k1;simp only at k1;omega
  ·rw [if_neg Ql] at k1 k2
   simp only at k1
   cases hc:iE I gs r l with
   | none=>unfold uZ at k1;rw [hc] at k1;simp at k1
   | some q =>
    have fv:(iE I gs r l).isSome=true:=by rw [hc];rfl
    obtain ⟨L,C,hR⟩:=(Sv G).1 fv
    have aP:∀y∈l,y≠r:=λy hy e=>by
     subst e
     have qq:((y.toNat:Nat):Int)∈l:=by rw [Int.toNat_of_nonneg (by omega)];exact hy
     have all:∀z∈l,z=y:=λz hz=>by
      have:=adf (hR z hz) qq
      have:=L.mem z hz
      omega
     refine Ql ?_
     cases l with
     | nil=>cases hy
     | cons a t =>
      have ha:=all a (by simp)
      subst ha
      cases t with
      | nil=>rfl
      | cons b t =>
       have:=all b (by simp)
       have:=(eX.1 L.inc).1 b (by simp)
       omega
    have ht:x.table=B3 I gs r l:=by rw [k2];unfold uZ;rw [hc]
    have Yc:x.ew=-1:=by rw [k2]
    refine ⟨Dj,hg,λy hy=>⟨?_,?_,Gu y hy⟩,dq,?_,.inr ⟨h7,by first|exact fv|rw [hc];rfl,ht,Yc,L.len,hR⟩⟩
    ·have:=L.mem y hy;omega
    ·have:=L.mem y hy;have:=aP y hy;omega
    ·have bU:x.ins.length=l.length:=by rw [dq,kF]
     unfold so
     rw [ht,Yc,bU]
     have hl4:=L.len
     have hp:∃P:Nat,2^(2^l.length)=(P:Int)/\P<=1000000/\1<=P:=by
      have:l.length=0\/l.length=1\/l.length=2\/l.length=3\/l.length=4:=by omega
      rcases this with e|e|e|e|e<;>rw [e]
      ·exact ⟨2,by decide,by decide,by decide⟩
      ·exact ⟨4,by decide,by decide,by decide⟩
      ·exact ⟨16,by decide,by decide,by decide⟩
      ·exact ⟨256,by decide,by decide,by decide⟩
      ·exact ⟨65536,by decide,by decide,by decide⟩
     obtain ⟨P,hP,hP1,Qm⟩:=hp
     have hm:=Us (lq I gs l r.toNat) (P - 1) (by omega) (by omega)
     have e:B3 I gs r l=fJ .and .i64 (lq I gs l r.toNat) (P - 1):=by unfold B3 tO;rw [hP]
     rw [e,hP]
     simp
     left
     omega
theorem Wa {I:Nat} {R:List Int} (hR:fX R) (gg:∀r∈R,2+(I:Int)<=r) {j:Nat} {r y s:Int} (hr:R[j]?=some r) (hy:y < r) (hs:eO I R y=some s):0<=s/\s < 2+(I:Int)+j:=by
 rcases (xP hR gg).1 hs with ⟨h1,h2,rfl⟩|⟨i,hi,rfl⟩
 ·omega
 ·have:i < j:=by
   rcases nZ i j with h|h
   ·exact h
   ·exfalso
    obtain ⟨a1,a2⟩:=bh.1 hr
    obtain ⟨b1,b2⟩:=bh.1 hi
    rcases nZ j i with h'|h'
    ·have:=(qO.1 hR) j i a1 b1 h'
     omega
    ·have:i=j:=by omega
     subst this;omega
  omega
theorem Vp {I:Nat} {gs:List Gate} (G:cI I gs) {bf:List Int} {m:dM} {c:jn} (h:tz I gs bf m c):Ay m/\m.cells.length<=gs.length:=by
 have hlen:(c.root.length:Int)<=gs.length:=by
  have:=Tq (a:=2+(I:Int)) (b:=2+I+gs.length) h.inc h.lim (by omega)
  omega
 have hb:=G.o9
 have Dq:=h.rl
 have gg:∀r∈c.root,2+(I:Int)<=r:=λr hr=>(h.lim r hr).1
 refine ⟨⟨by rw [h.n];omega,by rw [h.n];omega,λj x hx=>?_,λs hs=>?_⟩,by omega⟩
 ·have hj:=(bh.1 hx).1
  have hr:=dE (l:=c.root) (i:=j) (by omega)
  have hl:=dE (l:=c.leaves) (i:=j) (by rw [h.ll];exact hj)
  obtain ⟨i,g,F⟩:=OT G h hx hr hl
  refine ⟨F.ok,λs hs=>?_⟩
  rw [F.ins] at hs
  obtain ⟨y,hy,rfl⟩:=jW.1 hs
  obtain ⟨h0,h1,s,hs⟩:=F.lf y hy
  rw [hs,h.n]
  exact Wa h.inc gg hr h1 hs
 ·rw [h.Gi] at hs
  obtain ⟨d,hd,rfl⟩:=jW.1 hs
  obtain ⟨s,hs⟩:=h.OE d hd
  rw [hs,h.n]
  show 0<=s/\s < _
  rcases (xP h.inc gg).1 hs with ⟨h1,h2,rfl⟩|⟨i,hi,rfl⟩
  ·omega
  ·have:=(bh.1 hi).1
   omega
theorem RJ {L L':List Int}:∀{l:List Int} {m:Int},(∀x∈l,L.getD x.toNat 0=L'.getD x.toNat 0)->l.foldl (λm v=>max m (L.getD v.toNat 0)) m=l.foldl (λm v=>max m (L'.getD v.toNat 0)) m
 | [],m,_=>rfl
 | x :: l,m,h=>by
  rw [mA,mA,h x (by simp)]
  exact RJ λy hy=>h y (by simp [hy])
theorem Tr {A:Type} (f:List Int->A->Int):∀(C:List A) (D:List Int),∃r,C.foldl (λD x=>D++[f D x]) D=D++r
 | [],D=>⟨[],by simp⟩
 | x :: C,D=>by
  obtain ⟨r,hr⟩:=Tr f C (D++[f D x])
  exact ⟨f D x :: r,by rw [mA,hr];simp⟩
theorem Ut (n:Int) (C:List Cell) (i:Nat):∃r,gw n C=gw n (C.take i)++r:=by
 obtain ⟨r,hr⟩:=Tr (λD (x:Cell)=>1+cd D x.ins) (C.drop i) (gw n (C.take i))
 refine ⟨r,?_⟩
 rw [<-hr]
 unfold gw
 rw [<-List.foldl_append,List.take_append_drop]
theorem Ng {I:Nat} {C:List Cell} {i:Nat} {x:Cell} (hx:C[i]?=some x) (dq:∀s∈x.ins,0<=s/\s < 2+(I:Int)+i):(gw I C).getD (2+I+i) 0=1+cd (gw I C) x.ins:=by
 have hi:=(bh.1 hx).1
 obtain ⟨r,hr⟩:=Ut I C (i+1)
 have hl:=BS (n:=(I:Int)) (C:=C) (i:=i) (by omega)
 have iJ:(gw I (C.take i)).length=2+I+i:=by omega
 have hs:=HW (n:=(I:Int)) hx
 have hg:cd (gw I C) x.ins=cd (gw I (C.take i)) x.ins:=RJ λs vg=>by
  have:=dq s vg
  rw [hr,<-hs,tq,List.getD_eq_getElem?_getD,iY (by omega),<-List.getD_eq_getElem?_getD]
 rw [hg,hr,<-hs,tq,List.getD_eq_getElem?_getD,oL (by omega),iJ,xx]
 rfl
theorem Vq {I:Nat} {C:List Cell} {v:Nat} (hv:v < 2+I):(gw I C).getD v 0=0:=by
 obtain ⟨r,hr⟩:=Ut I C 0
 have hl:=BS (n:=(I:Int)) (C:=C) (i:=0) (cP _)
 rw [hr,List.getD_eq_getElem?_getD,iY (by omega)]
 have e:gw I (C.take 0)=List.replicate (2+(I:Int)).toNat 0:=rfl
 rw [e,ux]
 split<;>rfl
def tG (g:Gate):Cell:=⟨cR g,0,-1⟩
def Xb (I:Nat) (gs:List Gate) (bf:List Int):dM:=⟨I,gs.map tG,bf⟩
def ug (I:Nat) (gs:List Gate) (v:Nat):Int:=(gw I (gs.map tG)).getD v 0
theorem Uu {I:Nat} {gs:List Gate} (G:cI I gs) {v:Nat} {g:Gate} (h:gJ I gs v=some g) {o:Int} (ho:o∈cR g):ug I gs o.toNat+1<=ug I gs v:=by
 obtain ⟨i,rfl,hg⟩:=pU.1 h
 unfold ug
 rw [Ng (I:=I) (C:=gs.map tG) (i:=i) (x:=tG g) (by rw [k7,hg];rfl) λs hs=>by have:=G.ops hg s hs;omega]
 have:=HT (L:=gw I (gs.map tG)) (l:=(tG g).ins) (v:=o) ho
 omega
theorem aes {I:Nat} {gs:List Gate} (G:cI I gs) {S:List Int} {root v:Nat} (h:gE I gs S root v):v=root\/ug I gs v+1<=ug I gs root:=by
 induction h with
 | base h=>exact .inl h
 | step _ h2 ih =>
  obtain ⟨_,g,hg,_,ho⟩:=qU.1 h2
  have:=Uu G hg ho
  rcases ih with rfl|ih
  ·exact .inr this
  ·right;omega
theorem Ts {I:Nat} {gs:List Gate} (G:cI I gs) {bf:List Int} {m:dM} {c:jn} (h:tz I gs bf m c):∀(n j:Nat) (r:Int),j < n->c.root[j]?=some r->(gw I m.cells).getD (2+I+j) 0<=ug I gs r.toNat
 | 0,_,_,hj,_=>absurd hj (tu _)
 | n+1,j,r,hj,hr=>by
  have gg:∀r∈c.root,2+(I:Int)<=r:=λr hr=>(h.lim r hr).1
  have e8:=(bh.1 hr).1
  obtain ⟨x,hx⟩:=cy (l:=m.cells) (i:=j) (by rw [<-h.rl];exact e8)
  obtain ⟨l,hl⟩:=cy (l:=c.leaves) (i:=j) (by rw [h.ll,<-h.rl];exact e8)
  obtain ⟨i,g,F⟩:=OT G h hx hr hl
  have hV:=((Vp G h).1.cell j _ hx).2
  rw [h.n] at hV
  rw [Ng hx hV,F.ins]
  have vv:=F.er
  have qo:0<=ug I gs r.toNat - 1:=by
   have AT:gJ I gs r.toNat=some g:=pU.2 ⟨i,by omega,F.eg⟩
   unfold ug
   have e:r.toNat=2+I+i:=by omega
   rw [e,Ng (I:=I) (C:=gs.map tG) (i:=i) (x:=tG g) (by rw [k7,F.eg];rfl) λs hs=>by have:=G.ops F.eg s hs;omega]
   have:=xO (gw I (gs.map tG)) (tG g).ins
   omega
  suffices H:cd (gw I m.cells) (l.map λy=>(eO I c.root y).getD 0)<=ug I gs r.toNat - 1 by omega
  refine xD qo λv hv=>?_
  obtain ⟨y,hy,rfl⟩:=jW.1 hv
  obtain ⟨y0,y1,s,hs⟩:=F.lf y hy
  rw [hs]
  show (gw I m.cells).getD s.toNat 0<=_
  have hny:ug I gs y.toNat+1<=ug I gs r.toNat:=by
   rcases F.kind with ⟨_,e,_⟩|⟨_,_,_,_,_,hR⟩
   ·rw [e] at hy
    exact Uu G (pU.2 ⟨i,by omega,F.eg⟩) hy
   ·rcases aes G (hR y hy) with e|e
    ·omega
    ·exact e
  rcases (xP h.inc gg).1 hs with ⟨h1,h2,rfl⟩|⟨k,hk,rfl⟩
  ·rw [Vq (by omega)]
   exact qo
  ·have hkj:k < j:=by
    have:=(Wa h.inc gg hr y1 hs).2
    omega
   have:=Ts G h n k y (by omega) hk
   rw [show (2+(I:Int)+k).toNat=2+I+k by omega]
   omega
theorem adg {I:Nat} {gs:List Gate} (G:cI I gs) {bf:List Int} {m:dM} {c:jn} (h:tz I gs bf m c):wb m<=wb (Xb I gs bf):=by
 have gg:∀r∈c.root,2+(I:Int)<=r:=λr hr=>(h.lim r hr).1
 unfold wb
 rw [h.Gi,h.n]
 show cd (gw I m.cells) _<=cd (gw I (gs.map tG)) bf
 refine xD (xO _ _) λv hv=>?_
 obtain ⟨d,hd,rfl⟩:=jW.1 hv
 obtain ⟨s,hs⟩:=h.OE d hd
 rw [hs]
 show (gw I m.cells).getD s.toNat 0<=_
 rcases (xP h.inc gg).1 hs with ⟨h1,h2,rfl⟩|⟨k,hk,rfl⟩
 ·rw [Vq (by omega)];exact xO _ _
 ·rw [show (2+(I:Int)+k).toNat=2+I+k by omega]
  exact xy (Ts G h (k+1) k d (Nat.lt_succ_self _) hk) (HT hd)
def Xc (w:ec) (lo hi:Int):Prop:=lo<=w.kind/\w.kind<=hi/\0<=w.i/\0<=w.bit/\w.bit<=7
structure Wb (lim:Int) (g:Gate):Prop where
 op:1<=g.op/\g.op<=7
 a:0<=g.a/\g.a < lim
 b:0<=g.b/\g.b < lim
 c:0<=g.c/\g.c < lim
 n:0<=g.n/\g.n < 64
def ej.sigs (p:ej):Int:=p.ins.length+2*p.blocks.length
def mN (n:Nat) (s:Int):Nat:=((s - n) / 2).toNat
def sa (n:Nat) (s:Int):Prop:=(s - n) % 2=1
structure B7 (p:ej) (s:Int):Prop where
 lo:0<=s
 hi:s < p.sigs
 flip:(p.ins.length:Int)<=s->sa p.ins.length s->∃x,p.blocks[mN p.ins.length s]?=some x/\0<=x.cK
structure NG (x:Block):Prop where
 k:x.ins.length<=4
 ew:-1<=x.ew/\x.ew<=63
 cK:-1<=x.cK/\x.cK<=255
 table:0<=x.table/\x.table < 2^(2^x.ins.length)
 read:0<=x.ew->x.cK=-1/\x.ins.length<=3/\x.table=0
structure Shape (p:ej):Prop where
 gy:p.blocks.length<=600
 ar1:p.bf.length=p.outs.length
 bf:∀s∈p.bf,B7 p s
 ins:∀w∈p.ins,Xc w 2 4
 outs:∀w∈p.outs,Xc w 5 10
 formed:∀x∈p.blocks,NG x
 used:∀x∈p.blocks,∀s∈x.ins,B7 p s
 yx:∀(i j:Nat) (x y:Block),p.blocks[i]?=some x->p.blocks[j]?=some y->0<=x.cK->x.cK=y.cK->i=j
def IH (p:ej) (r:Nat->Nat):Prop:=∀(b:Nat) (x:Block),p.blocks[b]?=some x->∀s∈x.ins,(p.ins.length:Int)<=s->¬sa p.ins.length s->r (mN p.ins.length s) < r b
structure PK where
 parts:List Part
 cells:List Source
 n0:Bool
 n1:Bool
 tH:Int->Option Int
def Az (w:ec):List Int:=[w.kind,w.i,w.bit]
def iz {K:Type} [DecidableEq K] (m:K->Option Int) (k:K) (v:Int):K->Option Int:=λj=>if j=k then some v else m j
def others (l:List ec):List ec:=l.filter (λw=>w.kind≠1)
def agv (l:List ec):List Int->Option Int:=(l.foldl (λ(st:(List Int->Option Int) × Int) w=>if w.kind=1 then st else (iz st.1 (Az w) st.2,st.2+1)) (λ_=>none,0)).1
def N2 (w:ec):Int:=8*w.i+w.bit
def N3 (ins:List ec) (cells:List Source) (sig:Int):Source :=
 if sig < 2 then ⟨3,sig⟩
 else if sig - 2 < ins.length then
  let w:=ins.getD (sig - 2).toNat ⟨0,0,0⟩
  if w.kind=1 then ⟨1,N2 w⟩ else ⟨0,(agv ins (Az w)).getD 0⟩
 else cells.getD (sig - 2 - ins.length).toNat ⟨0,0⟩
def PK.add (k:PK) (x:Part):PK:={ k with parts:=k.parts++[x],tH:=if 0<=x.cK then iz k.tH x.cK k.parts.length else k.tH }
def PK.here (k:PK):Source:=⟨2,k.parts.length⟩
def Wc:List Source->List Source
 | []=>[]
 | s :: r=>if s=⟨3,0⟩ then Wc r else s :: r
def strip (ew:Int) (l:List Source):List Source:=if 0<=ew then (Wc l.reverse).reverse else l
def ajW (c:Cell) (l:List Source) (x:Part):Bool:=x.table == c.table&&x.ew == c.ew&&x.ins == l
def Xd (v:Int) (l:List Source):Bool:=l.any λs=>s.kind == 3&&s.n == v
def ah7 (ins:List ec) (k:PK) (c:Cell):PK :=
 let l:=strip c.ew (c.ins.map (N3 ins k.cells))
 match k.parts.findIdx? (ajW c l) with
 | some i=>{ k with cells:=k.cells++[⟨2,i⟩] }
 | none=>{ (k.add ⟨l,c.table,c.ew,-1⟩) with cells:=k.cells++[k.here],n0:=k.n0||Xd 0 l,n1:=k.n1||Xd 1 l }
def agw (l:List Part) (i:Nat) (code:Int):List Part:=l.modify i λx=>{ x with cK:=code }
def adh (k:PK) (s:Source) (code:Int):PK :=
 if s.kind=3 then k.add ⟨[],s.n,-1,code⟩
 else if s.kind=2/\(k.parts.getD s.n.toNat ⟨[],0,0,0⟩).ew < 0/\(k.parts.getD s.n.toNat ⟨[],0,0,0⟩).cK < 0 then
  { k with parts:=agw k.parts s.n.toNat code,tH:=iz k.tH code s.n }
 else k.add ⟨[s],2,-1,code⟩
def AA (ins:List ec) (k:PK) (wd:ec × Int):PK :=
 if wd.1.kind=1 then adh k (N3 ins k.cells wd.2) (N2 wd.1)
 else { k with n0:=k.n0||wd.2 == 0,n1:=k.n1||wd.2 == 1 }
def Wd (k:PK) (v:Int) (b:Bool):PK:=if b then k.add ⟨[],v,-1,-1⟩ else k
structure TH where
 k:PK
 bf:List Source
 Qn:List Int->Option Source
def Yd (s:Source):List Int:=[s.kind,s.n]
def ajX (ins:List ec) (t:TH) (wd:ec × Int):TH :=
 if wd.1.kind=1 then t
 else
  let s:=N3 ins t.k.cells wd.2
  if s.kind=0 then match t.Qn (Yd s) with
   | some u=>{ t with bf:=t.bf++[u] }
   | none=>{ k:=t.k.add ⟨[s],2,-1,-1⟩,bf:=t.bf++[t.k.here],Qn:=λj=>if j=Yd s then some t.k.here else t.Qn j }
  else { t with bf:=t.bf++[s] }
structure OU where
 c0:Int
 c1:Int
 t:TH
def ah8 (n:Net) (m:dM):OU :=
 let k1:=m.cells.foldl (ah7 n.ins) ⟨[],[],false,false,λ_=>none⟩
 let wd:=n.outs.zip m.bf
 let k2:=wd.foldl (AA n.ins) k1
 let k3:=Wd k2 0 k2.n0
 let k4:=Wd k3 1 k2.n1
 ⟨if k2.n0 then k2.parts.length else 0,if k2.n1 then k3.parts.length else 0,wd.foldl (ajX n.ins) ⟨k4,[],λ_=>none⟩⟩
def Ye (first:Int) (d:OU) (s:Source):Int :=
 if s.kind=1 then first+2*(d.t.k.tH s.n).getD 0+1
 else if s.kind=2 then first+2*s.n
 else if s.kind=3 then first+2*(if s.n=0 then d.c0 else d.c1)
 else s.n
def agx (first:Int) (d:OU) (x:Part):Block:=⟨x.ins.map (Ye first d),x.table,x.ew,x.cK,0⟩
def Yf (n:Net) (m:dM):ej :=
 let ins:=others n.ins
 let d:=ah8 n m
 ⟨ins,d.t.k.parts.map (agx ins.length d),others n.outs,d.t.bf.map (Ye ins.length d)⟩
def E9 (ins:List ec) (np:Nat) (s:Source):Prop :=
 s.kind=0/\0<=s.n/\s.n < (others ins).length\/s.kind=1/\(∃w∈ins,w.kind=1/\s.n=N2 w)\/s.kind=2/\0<=s.n/\s.n < np\/s.kind=3/\(s.n=0\/s.n=1)
theorem E9.mono {ins:List ec} {a b:Nat} {s:Source} (h:E9 ins a s) (gx:a<=b):E9 ins b s:=by
 rcases h with h|h|h|h
 ·exact .inl h
 ·exact .inr (.inl h)
 ·exact .inr (.inr (.inl ⟨h.1,h.2.1,by omega⟩))
 ·exact .inr (.inr (.inr h))
structure We (x:Part):Prop where
 k:x.ins.length<=4
 ew:-1<=x.ew/\x.ew<=63
 cK:-1<=x.cK/\x.cK<=255
 table:0<=x.table/\x.table < 2^(2^x.ins.length)
 read:0<=x.ew->x.cK=-1/\x.ins.length<=3/\x.table=0
structure OV (ins:List ec) (nc:Nat) (k:PK):Prop where
 nc:k.cells.length=nc
 cells:∀s∈k.cells,s.kind=2/\0<=s.n/\s.n < k.parts.length
 src:∀(b:Nat) (x:Part),k.parts[b]?=some x->We x/\∀s∈x.ins,E9 ins b s
 kK:∀x∈k.parts,∀s∈x.ins,s.kind=3->(s.n=0->k.n0=true)/\(s.n=1->k.n1=true)
 tH:∀(b:Nat) (x:Part),k.parts[b]?=some x->0<=x.cK->k.tH x.cK=some b
 back:∀c v,k.tH c=some v->∃b:Nat,v=b/\∃x,k.parts[b]?=some x/\x.cK=c/\0<=c
theorem OV.add {ins:List ec} {nc:Nat} {k:PK} (h:OV ins nc k) {x:Part} (hx:We x) (hs:∀s∈x.ins,E9 ins k.parts.length s) {a b:Bool} (ha:k.n0=true->a=true) (hb:k.n1=true->b=true)
  (hn:∀s∈x.ins,s.kind=3->(s.n=0->a=true)/\(s.n=1->b=true)) (hf:0<=x.cK->k.tH x.cK=none):OV ins nc { (k.add x) with n0:=a,n1:=b }:=by
 have su:∀(i:Nat) (y:Part),(k.parts++[x])[i]?=some y->(k.parts[i]?=some y)\/(i=k.parts.length/\y=x):=by
  intro i y hy
  rw [DZ] at hy
  split at hy
  ·exact .inl hy
  ·rename_i aP
   have hi:i - k.parts.length=0:=by
    have:=(bh.1 hy).1
    simp at this;omega
   rw [hi] at hy
   simp at hy
   exact .inr ⟨by omega,hy.symm⟩
 refine ⟨h.nc,λs vg=>?_,λi y hy=>?_,λy hy s vg hk=>?_,λi y hy hr=>?_,λc v tT=>?_⟩
 ·have:=h.cells s vg
  simp only [PK.add,fS,zt]
  exact ⟨this.1,this.2.1,by push_cast;omega⟩
 ·rcases su i y hy with hy|⟨rfl,rfl⟩
  ·exact h.src i y hy
  ·exact ⟨hx,hs⟩
 ·simp only [PK.add,eE,qR] at hy
  rcases hy with hy|rfl
  ·have:=h.kK y hy s vg hk
   exact ⟨λe=>ha (this.1 e),λe=>hb (this.2 e)⟩
  ·exact hn s vg hk
 ·simp only [PK.add]
  rcases su i y hy with hy|⟨rfl,rfl⟩
  ·have:=h.tH i y hy hr
   split
   ·rename_i j5
    have bL:y.cK≠x.cK:=λe=>by rw [e,hf j5] at this;cases this
    simp [iz,bL,this]
   ·exact this
  ·rw [if_pos hr];simp [iz]
 ·simp only [PK.add] at tT ⊢
  split at tT
  ·rename_i j5
   simp only [iz] at tT
   split at tT
   ·rename_i e
    cases tT
    exact ⟨k.parts.length,rfl,x,by simp,e.symm,by rw [e];exact j5⟩
   ·obtain ⟨b',h1,y,h2,h3⟩:=h.back c v tT
    exact ⟨b',h1,y,by rw [iY (bh.1 h2).1];exact h2,h3⟩
  ·obtain ⟨b',h1,y,h2,h3⟩:=h.back c v tT
   exact ⟨b',h1,y,by rw [iY (bh.1 h2).1];exact h2,h3⟩
structure Sc where
 yx:List Int
 Cm:List Int
 yy:List (Int × Int)
 data:Bool
def okW (w:Int):Prop:=1<=w/\w<=8
structure ajY (sc:Sc):Prop where
 yx:∀w∈sc.yx,okW w
 Cm:∀w∈sc.Cm,okW w
 yy:∀m∈sc.yy,okW m.1
inductive WT (sc:Sc):Nat->Int->Expr->Prop
 | const {n:Nat} {w k:Int}:okW w->WT sc (n+1) w (.mk 1 k w [])
 | cK {n:Nat} {w:Int} (i:Nat):sc.yx[i]?=some w->WT sc (n+1) w (.mk 16 i 0 [])
 | data {n:Nat} {w:Int} (i:Nat):sc.data=true->sc.Cm[i]?=some w->WT sc (n+1) w (.mk 18 i 0 [])
 | not {n:Nat} {w:Int} {a:Expr}:WT sc n w a->WT sc (n+1) w (.mk 2 0 0 [a])
 | two {n:Nat} {w op:Int} {a b:Expr}:3<=op->op<=7->WT sc n w a->WT sc n w b->WT sc (n+1) w (.mk op 0 0 [a,b])
 | cmp {n:Nat} {v op:Int} {a b:Expr}:8<=op->op<=9->WT sc n v a->WT sc n v b->WT sc (n+1) 1 (.mk op 0 0 [a,b])
 | A3 {n:Nat} {w:Int} {c a b:Expr}:WT sc n 1 c->WT sc n w a->WT sc n w b->WT sc (n+1) w (.mk 10 0 0 [c,a,b])
 | cat {n:Nat} {v w:Int} {a b:Expr}:w=v+1->okW w->WT sc n v a->WT sc n 1 b->WT sc (n+1) w (.mk 11 0 0 [a,b])
 | slice {n:Nat} {v w k:Int} {a:Expr}:0<=k->k+w<=v->okW w->WT sc n v a->WT sc (n+1) w (.mk 12 k w [a])
 | ext {n:Nat} {v w:Int} {a:Expr}:v<=w->okW w->WT sc n v a->WT sc (n+1) w (.mk 13 0 w [a])
 | read {n:Nat} {v w words:Int} (i:Nat) {a:Expr}:sc.yy[i]?=some (w,words)->WT sc n v a->WT sc (n+1) w (.mk 17 i 0 [a])
theorem WT.wide {sc:Sc} (hs:ajY sc):∀{n:Nat} {w:Int} {e:Expr},WT sc n w e->okW w
 | _,_,_,.const h=>h
 | _,_,_,.cK i h=>hs.yx _ (cN h)
 | _,_,_,.data i _ h=>hs.Cm _ (cN h)
 | _,_,_,.not h=>h.wide hs
 | _,_,_,.two _ _ h _=>h.wide hs
 | _,_,_,.cmp _ _ _ _=>⟨by omega,by omega⟩
 | _,_,_,.A3 _ h _=>h.wide hs
 | _,_,_,.cat _ h _ _=>h
 | _,_,_,.slice _ _ h _=>h
 | _,_,_,.ext _ h _=>h
 | _,_,_,.read i h _=>hs.yy _ (cN h)
theorem WT.up {sc:Sc}:∀{n:Nat} {w:Int} {e:Expr},WT sc n w e->WT sc (n+1) w e
 | _,_,_,.const h=>.const h
 | _,_,_,.cK i h=>.cK i h
 | _,_,_,.data i h1 h=>.data i h1 h
 | _,_,_,.not h=>.not h.up
 | _,_,_,.two a b h1 h2=>.two a b h1.up h2.up
 | _,_,_,.cmp a b h1 h2=>.cmp a b h1.up h2.up
 | _,_,_,.A3 h1 h2 h3=>.A3 h1.up h2.up h3.up
 | _,_,_,.cat a b h1 h2=>.cat a b h1.up h2.up
 | _,_,_,.slice a b c h=>.slice a b c h.up
 | _,_,_,.ext a b h=>.ext a b h.up
 | _,_,_,.read i h h2=>.read i h h2.up
theorem WT.more {sc Gv:Sc} (hr:Gv.yx=sc.yx) (hm:Gv.yy=sc.yy) (ht:sc.data=true->Gv.data=true/\Gv.Cm=sc.Cm):∀{n:Nat} {w:Int} {e:Expr},WT sc n w e->WT Gv n w e
 | _,_,_,.const h=>.const h
 | _,_,_,.cK i h=>.cK i (by rw [hr];exact h)
 | _,_,_,.data i h1 h=>.data i (ht h1).1 (by rw [(ht h1).2];exact h)
 | _,_,_,.not h=>.not (h.more hr hm ht)
 | _,_,_,.two a b h1 h2=>.two a b (h1.more hr hm ht) (h2.more hr hm ht)
 | _,_,_,.cmp a b h1 h2=>.cmp a b (h1.more hr hm ht) (h2.more hr hm ht)
 | _,_,_,.A3 h1 h2 h3=>.A3 (h1.more hr hm ht) (h2.more hr hm ht) (h3.more hr hm ht)
 | _,_,_,.cat a b h1 h2=>.cat a b (h1.more hr hm ht) (h2.more hr hm ht)
 | _,_,_,.slice a b c h=>.slice a b c (h.more hr hm ht)
 | _,_,_,.ext a b h=>.ext a b (h.more hr hm ht)
 | _,_,_,.read i h h2=>.read i (by rw [hm];exact h) (h2.more hr hm ht)
def yX (sc:Sc) (n:Nat):List Int->List Expr->Prop
 | [],[]=>True
 | w :: ws,e :: es=>WT sc n w e/\yX sc n ws es
 | _,_=>False
theorem WT.args {sc:Sc}:∀{n:Nat} {w:Int} {e:Expr},WT sc (n+1) w e->∃ws,yX sc n ws e.args
 | _,_,_,.const h=>⟨[],trivial⟩
 | _,_,_,.cK i h=>⟨[],trivial⟩
 | _,_,_,.data i h1 h=>⟨[],trivial⟩
 | _,_,_,.not h=>⟨[_],h,trivial⟩
 | _,_,_,.two a b h1 h2=>⟨[_,_],h1,h2,trivial⟩
 | _,_,_,.cmp a b h1 h2=>⟨[_,_],h1,h2,trivial⟩
 | _,_,_,.A3 h1 h2 h3=>⟨[_,_,_],h1,h2,h3,trivial⟩
 | _,_,_,.cat a b h1 h2=>⟨[_,_],h1,h2,trivial⟩
 | _,_,_,.slice a b c h=>⟨[_],h,trivial⟩
 | _,_,_,.ext a b h=>⟨[_],h,trivial⟩
 | _,_,_,.read i h h2=>⟨[_],h2,trivial⟩
theorem yX.get {sc:Sc} {n:Nat}:∀{ws:List Int} {es:List Expr},yX sc n ws es->∀(i:Nat) (e:Expr),es[i]?=some e->∃w,ws[i]?=some w/\WT sc n w e
 | [],[],_,i,e,h=>by simp at h
 | w :: ws,x :: es,h,0,e,he=>by simp at he;subst he;exact ⟨w,rfl,h.1⟩
 | w :: ws,x :: es,h,i+1,e,he=>by simpa using yX.get h.2 i e (by simpa using he)
theorem yX.len {sc:Sc} {n:Nat}:∀{ws:List Int} {es:List Expr},yX sc n ws es->ws.length=es.length
 | [],[],_=>rfl
 | w :: ws,x :: es,h=>by simp [yX.len h.2]
theorem WT.gy {sc:Sc}:∀{n:Nat} {w:Int} {e:Expr},WT sc n w e->e.args.length<=3
 | _,_,_,.const h=>by simp [Expr.args]
 | _,_,_,.cK i h=>by simp [Expr.args]
 | _,_,_,.data i h1 h=>by simp [Expr.args]
 | _,_,_,.not h=>by simp [Expr.args]
 | _,_,_,.two a b h1 h2=>by simp [Expr.args]
 | _,_,_,.cmp a b h1 h2=>by simp [Expr.args]
 | _,_,_,.A3 h1 h2 h3=>by simp [Expr.args]
 | _,_,_,.cat a b h1 h2=>by simp [Expr.args]
 | _,_,_,.slice a b c h=>by simp [Expr.args]
 | _,_,_,.ext a b h=>by simp [Expr.args]
 | _,_,_,.read i h h2=>by simp [Expr.args]
def yY (ins:Int) (gs:List Gate):Prop:=∀(i:Nat) (g:Gate),gs[i]?=some g->Wb (2+ins+i) g
def wc (ins:Int) (gs:List Gate) (v:Int):Prop:=0<=v/\v < 2+ins+gs.length
theorem wc.mono {ins:Int} {gs gs':List Gate} {v:Int} (h:wc ins gs v) (hl:gs.length<=gs'.length):wc ins gs' v:=⟨h.1,by have:=h.2;omega⟩
theorem yY.nil (ins:Int):yY ins []:=λi g h=>by simp at h
theorem yY.add {ins:Int} {gs:List Gate} (h:yY ins gs) {g:Gate} (hg:Wb (2+ins+gs.length) g):yY ins (gs++[g]):=by
 intro i x hx
 rw [DZ] at hx
 split at hx
 ·exact h i x hx
 ·rename_i aP
  have hi:i - gs.length=0:=by
   have:=(bh.1 hx).1
   simp at this;omega
  rw [hi] at hx
  simp at hx
  subst hx
  have:(i:Int)=gs.length:=by omega
  rw [this];exact hg
def Fa (w:ec):Int :=
 if w.kind=1 then 16*w.i+w.bit
 else if w.kind=2 then 1000+32*w.i+w.bit
 else if w.kind=3 then 1000+32*w.i+16
 else if w.kind=4 then 2000+w.i
 else if w.kind=5 then 1000+w.i
 else if w.kind=6 then 2000+32*w.i
 else if w.kind=7 then 2000+32*w.i+16+w.bit
 else 3000+64*w.i+16*(w.kind - 8)+w.bit
def vx (c:Int) (l:List ec):Prop:=l.Pairwise (λa b=>Fa a < Fa b)/\∀w∈l,Fa w < c
theorem vx.nil (c:Int):vx c []:=⟨List.Pairwise.nil,by simp⟩
theorem vx.up {c d:Int} {l:List ec} (h:vx c l) (YX:c<=d):vx d l:=⟨h.1,λw hw=>by have:=h.2 w hw;omega⟩
theorem vx.add {c d:Int} {l:List ec} (h:vx c l) {w:ec} (hc:c<=Fa w) (hd:Fa w < d):vx d (l++[w]):=by
 refine ⟨?_,λx hx=>?_⟩
 ·rw [kq]
  refine ⟨h.1,by simp,λa ha b hb=>?_⟩
  simp at hb;subst hb
  have:=h.2 a ha
  omega
 ·rcases eE.1 hx with hx|hx
  ·have:=h.2 x hx;omega
  ·simp at hx;subst hx;exact hd
theorem vx.nodup {c:Int} {l:List ec} (h:vx c l):l.Nodup:=by
 rw [SG]
 exact h.1.imp λgx e=>by rw [e] at gx;omega
def ajZ (rw:List Int) (i k:Int) (w:ec):Prop:=0<=w.i/\0<=w.bit/\((w.i < i/\∃W,rw[w.i.toNat]?=some W/\w.bit < W)\/w.i=i/\w.bit < k)
def tA (rw:List Int) (i k:Int) (l:List ec):Prop:=∀w:ec,w.kind=1->(w∈l↔ajZ rw i k w)
theorem tA.nil (rw:List Int):tA rw 0 0 []:=λw _=>⟨λh=>(by simp at h),λ⟨h0,h1,h⟩=>by rcases h with ⟨h,_⟩|⟨_,h⟩<;>omega⟩
theorem tA.bit {rw:List Int} {i k:Int} {l:List ec} (h:tA rw i k l) (h0:0<=i) (h1:0<=k):tA rw i (k+1) (l++[⟨1,i,k⟩]):=by
 intro w hw
 rw [eE,h w hw]
 constructor
 ·rintro (⟨a,b,c⟩|e)
  ·refine ⟨a,b,c.imp id λ⟨x,y⟩=>⟨x,by omega⟩⟩
  ·simp at e;subst e
   exact ⟨h0,h1,.inr ⟨rfl,by simp only;omega⟩⟩
 ·rintro ⟨a,b,c|⟨x,y⟩⟩
  ·exact .inl ⟨a,b,.inl c⟩
  ·by_cases hk:w.bit < k
   ·exact .inl ⟨a,b,.inr ⟨x,hk⟩⟩
   ·right
    have:w.bit=k:=by omega
    cases w
    simp only at *
    subst hw;subst x;subst this
    simp
theorem tA.next {rw:List Int} {i:Nat} {k:Int} {l:List ec} (h:tA rw i k l) (hk:rw[i]?=some k):tA rw (i+1:Nat) 0 l:=by
 intro w hw
 rw [h w hw]
 constructor
 ·rintro ⟨a,b,⟨c,d⟩|⟨c,d⟩⟩
  ·exact ⟨a,b,.inl ⟨by omega,d⟩⟩
  ·refine ⟨a,b,.inl ⟨by omega,k,?_,d⟩⟩
   have:w.i.toNat=i:=by omega
   rw [this];exact hk
 ·rintro ⟨a,b,⟨c,W,d,e⟩|⟨c,d⟩⟩
  ·by_cases hi:w.i < i
   ·exact ⟨a,b,.inl ⟨hi,W,d,e⟩⟩
   ·refine ⟨a,b,.inr ⟨by omega,?_⟩⟩
    have:w.i.toNat=i:=by omega
    rw [this,hk] at d
    cases d
    exact e
  ·omega
theorem tA.other {rw:List Int} {i k:Int} {l:List ec} (h:tA rw i k l) {x:ec} (hx:x.kind≠1):tA rw i k (l++[x]):=by
 intro w hw
 rw [eE,<-h w hw]
 constructor
 ·rintro (e|e)
  ·exact e
  ·simp at e;subst e;exact absurd hw hx
 ·exact .inl
noncomputable def cB0 (n m:Nat):Ctx:=nK n m [] []
theorem Xe (n m:Nat):CB PP (cB0 n m):=ow n m trivial trivial
structure N4 (ins:Int) (gs:List Gate):Prop where
 ok:yY ins gs
 ins:0<=ins/\ins<=1000
 len:gs.length<=1000000000
structure Kv where
 gs:List Gate
 n:Int
structure u6 (ins:Int) (gs:List Gate) (k:Nat) (y:Kv):Prop where
 ok:yY ins y.gs
 lo:gs.length<=y.gs.length
 hi:y.gs.length<=gs.length+k
 n:wc ins y.gs y.n
theorem wc.zero {ins:Int} {gs:List Gate} (h:0<=ins):wc ins gs 0:=⟨by omega,by omega⟩
theorem wc.one {ins:Int} {gs:List Gate} (h:0<=ins):wc ins gs 1:=⟨by omega,by omega⟩
theorem u6.same {ins:Int} {gs:List Gate} {k:Nat} {n:Int} (h:yY ins gs) (hn:wc ins gs n):u6 ins gs k ⟨gs,n⟩:=⟨h,fT _,Nat.le_add_right _ _,hn⟩
theorem u6.more {ins:Int} {gs:List Gate} {k k':Nat} {y:Kv} (h:u6 ins gs k y) (hk:k<=k'):u6 ins gs k' y:=⟨h.ok,h.lo,by have:=h.hi;omega,h.n⟩
theorem u6.trans {ins:Int} {gs:List Gate} {k k':Nat} {y z:Kv} (h:u6 ins gs k y) (h2:u6 ins y.gs k' z):u6 ins gs (k+k') z:=⟨h2.ok,by have:=h.lo;have:=h2.lo;omega,by have:=h.hi;have:=h2.hi;omega,h2.n⟩
theorem N4.next {ins:Int} {gs:List Gate} {k:Nat} {z:Kv} (h:N4 ins gs) (hz:u6 ins gs k z) (hl:z.gs.length<=1000000000):N4 ins z.gs:=⟨hz.ok,h.ins,hl⟩
def Ja (l:List (List Int)) (x:List Int) (r:List (List Int)):Prop:=r=l\/x∉l/\∃o,o.Sublist l/\r=o++[x]
theorem Ja.nodup {l:List (List Int)} {x:List Int} {r:List (List Int)} (h:Ja l x r) (hn:l.Nodup):r.Nodup:=by
 rcases h with rfl|⟨hx,o,ho,rfl⟩
 ·exact hn
 ·rw [HE]
  refine ⟨hn.sublist ho,by simp,λa ha b hb=>?_⟩
  simp at hb;subst hb
  rintro rfl
  exact hx (ho.subset ha)
theorem Ja.all {l:List (List Int)} {x:List Int} {r:List (List Int)} (h:Ja l x r) {p:List Int->Prop} (hl:∀y∈l,p y) (hx:p x):∀y∈r,p y:=by
 rcases h with rfl|⟨_,o,ho,rfl⟩
 ·exact hl
 ·intro y hy
  rcases eE.1 hy with hy|hy
  ·exact hl y (ho.subset hy)
  ·simp at hy;subst hy;exact hx
structure LN where
 l:List Int
 n:Int
structure LL where
 a:List Int
 b:List Int
def sE:List Int->List Int->Bool
 | x :: r,y :: s=>if x≠y then decide (x < y) else sE r s
 | _,_=>false
def l9 (a b:List Int):Bool:=if a.length≠b.length then decide (a.length < b.length) else sE a b
theorem aft {a b:List Int} {i:Nat} {x y:Int} (hx:a[i]?=some x) (hy:b[i]?=some y):sE (a.drop i) (b.drop i)=if x≠y then decide (x < y) else sE (a.drop (i+1)) (b.drop (i+1)):=by
 obtain ⟨h1,e1⟩:=bh.1 hx
 obtain ⟨h2,e2⟩:=bh.1 hy
 rw [qN h1,qN h2,e1,e2]
 rfl
@[reducible] noncomputable def II:Vc.Spec where
 α:=LL
 args x:=[.sl 1 bK (λ_=>x.a),.sl 1 bK (λ_=>x.b)]
 pre x:=x.a.length<=1000000/\x.b.length<=1000000
 res x:=.b (λ_=>l9 x.a x.b)
theorem MS:dw (PP ()) 37 II:=by
 refine fH (Xe 0 0) (fo Try.func37) (λa=>⟨(λx=>(dv x).1),(λx=>(dv x).1),trivial⟩) (λa=>trivial) ?_
 rintro ⟨a,b⟩ hx
 obtain ⟨ha,hb⟩:a.length<=1000000/\b.length<=1000000:=hx
 refine ⟨?_⟩
 cbv
 refine ⟨λh=>?_,λh=>?_⟩
 ·have gx:a.length≠b.length:=by have:=h.out;simp [gG] at this;exact sP
  have e:fu (a.length:Int) (b.length:Int)=l9 a b:=by unfold l9 fu;rw [if_pos gx];simp
  cbv
  exact ⟨.b e⟩
 ·have gx:a.length=b.length:=by have:=h.out;simp [gG] at this;exact sP
  have e:l9 a b=sE a b:=by unfold l9;rw [if_neg (by simpa using gx)]
  cbv
  refine Sat.eI (Xe 0 0) 0 5 [] (λi:Nat=>[(5,.i .i64 λ_=>(i:Int))]) (λ_=>[]) (λi=>i<=a.length/\l9 a b=sE (a.drop i) (b.drop i)) (λi=>a.length - i) 0 (by exact aX) (by exact aX) ⟨by omega,by simpa using e⟩ ?_
  rintro i ⟨hi,he⟩
  cbv
  refine ⟨λh=>?_,λh=>?_⟩
  ·(have h:=h.out;simp (disch:=exact sP) only [hS] at h)
   have aP:i < a.length:=by exact sP
   have cD:a.length - (i+1) < a.length - i:=by omega
   obtain ⟨x,hx⟩:=cy aP
   obtain ⟨y,hy⟩:=cy (l:=b) (i:=i) (by omega)
   have hl:=aft hx hy
   have h1:=eU (i:=i) (by omega)
   have h0:=n0 i
   cbv
   refine ⟨x,⟨h0,hx⟩,?_⟩
   cbv
   refine ⟨y,⟨h0,hy⟩,?_⟩
   cbv
   refine ⟨λh=>?_,λh=>?_⟩
   ·have bL:x≠y:=by have:=h.out;simpa [gG] using this
    have e2:fu x y=l9 a b:=by rw [he,hl,if_pos bL];rfl
    cbv
    refine ⟨x,⟨h0,hx⟩,?_⟩
    cbv
    refine ⟨y,⟨h0,hy⟩,?_⟩
    cbv
    exact ⟨.b e2⟩
   ·have bL:x=y:=by have:=h.out;simpa [gG] using this
    have e2:l9 a b=sE (a.drop (i+1)) (b.drop (i+1)):=by rw [he,hl,if_neg (by simpa using bL)]
    cbv
    exact ⟨i+1,by have bI:=h1;exact bp,by exact aX,⟨⟨aP,e2⟩,cD⟩⟩
  ·(have h:=h.out;simp (disch:=exact sP) only [hS] at h)
   have cf:i=a.length:=by exact sP
   have e2:l9 a b=false:=by rw [he,cf,List.drop_length];rfl
   cbv
   exact ⟨.bc e2.symm⟩
structure aj6 (A:Type) where
 a:List A
 b:List A
open Classical in
noncomputable def jO {A:Type} (a b:List A):Bool:=decide (a=b)
theorem xU {A:Type} {a b:List A}:jO a b=true↔a=b:=by simp [jO]
theorem Wf {A:Type} {a b:List A} (h:a≠b):jO a b=false:=by simp [jO,h]
theorem agA {A:Type} {a b:List A} {i:Nat} {x y:A} (hx:a[i]?=some x) (hy:b[i]?=some y) (h:x≠y):jO a b=false:=Wf λe=>by
 rw [e,hy] at hx;exact h (vT hx).symm
theorem afu {A:Type} {a b:List A} (hl:a.length=b.length) (h:∀(i:Nat) (x y:A),a[i]?=some x->b[i]?=some y->x=y):jO a b=true:=xU.2 (by
 apply L6 hl
 intro i h1 h2
 exact h i _ _ (dE h1) (dE h2))
end Go.Proofs.Pk
