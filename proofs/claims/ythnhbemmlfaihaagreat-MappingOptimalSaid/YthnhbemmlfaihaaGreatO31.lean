import Derived.Test.YthnhbemmlfaihaaGreatO13
import Derived.Test.YthnhbemmlfaihaaGreatO15
import Derived.Test.YthnhbemmlfaihaaGreatO18
import Derived.Test.YthnhbemmlfaihaaGreatO20
import Derived.Test.YthnhbemmlfaihaaGreatO23
import Derived.Test.YthnhbemmlfaihaaGreatO30
set_option linter.unusedVariables false
set_option linter.unusedSimpArgs false
set_option maxRecDepth 10000
set_option maxHeartbeats 64000000
namespace Go.Proofs.Pk
open Go Go.Vc
def yH (m:dK):List SV:=[.i .i64 (λ_=>m.n),.sl 3 mw (λ_=>m.cells),.sl 1 bC (λ_=>m.bj)]
def Us (c:iQ):List SV:=[.sl 1 bC (λ_=>c.root),.sl 1 eB (λ_=>c.leaves)]
theorem z8 (m:dK):cN (yH m):=⟨trivial,λx=>(zT x).1,λx=>(cP x).1,trivial⟩
theorem aay (c:iQ):cN (Us c):=⟨λx=>(cP x).1,λx=>(mT x).1,trivial⟩
theorem agI {N last r:Int} {R:List Int} {i:Nat} (hr:R[i]?=some r):ov N last (R.drop i)=(decide (last < r/\r < N)&&ov N r (R.drop (i+1))):=by
 obtain ⟨h,e⟩:=a7.1 hr
 rw [qQ h,e];rfl
theorem agJ {I:Nat} {gs:List Gate} {sig:Int->Option Int} {C:List Cell} {R:List Int} {L:List (List Int)} {i:Nat} {x:Cell} {r:Int} {l:List Int} (hx:C[i]?=some x) (hr:R[i]?=some r) (hl:L[i]?=some l) :
  nP I gs sig (C.drop i) (R.drop i) (L.drop i)=(decide ((cellOf I gs r l sig).2=0)&&EN x (cellOf I gs r l sig).1&&nP I gs sig (C.drop (i+1)) (R.drop (i+1)) (L.drop (i+1))):=by
 obtain ⟨h1,e1⟩:=a7.1 hx
 obtain ⟨h2,e2⟩:=a7.1 hr
 obtain ⟨h3,e3⟩:=a7.1 hl
 rw [qQ h1,qQ h2,qQ h3,e1,e2,e3];rfl
theorem agK {sig:Int->Option Int} {D E:List Int} {i:Nat} {v s:Int} (hv:D[i]?=some v) (hs:E[i]?=some s) :
  pK sig (D.drop i) (E.drop i)=(decide (sig v=some s)&&pK sig (D.drop (i+1)) (E.drop (i+1))):=by
 obtain ⟨h1,e1⟩:=a7.1 hv
 obtain ⟨h2,e2⟩:=a7.1 hs
 rw [qQ h1,qQ h2,e1,e2];rfl
theorem Wj {N last:Int}:∀{R:List Int},ov N last R=true->dU R/\∀r∈R,last < r/\r < N
 | [],_=>⟨List.Pairwise.nil,by simp⟩
 | r :: R,h=>by
  simp only [ov,cG,decide_eq_true_eq] at h
  obtain ⟨a,b⟩:=Wj h.2
  refine ⟨fx.2 ⟨λx hx=>(b x hx).1,a⟩,λx hx=>?_⟩
  rcases cJ.1 hx with rfl|hx
  ·exact h.1
  ·have:=b x hx;have:=h.1;omega
def yI (b:Bool):Int:=if b then 0 else 260
structure aqn where
 n:Net
 m:dK
 c:iQ
 e:Int
structure IJ (n:Net) (m:dK) (c:iQ) (e:Int):Prop where
 G:cb n.ins.length n.aY
 dr:n.bj.length<=1000000
 cells:m.cells.length<=1000000
 cin:∀x∈m.cells,x.ins.length<=1000000
 lvs:∀l∈c.leaves,l.length<=1000000
 eq:yI (vE n.ins.length n.aY n.bj m c)=e
@[reducible] noncomputable def ac1:Vc.Spec where
 α:=aqn
 args x:=[.agg (jX x.n),.agg (yH x.m),.agg (Us x.c)]
 pre x:=IJ x.n x.m x.c x.e
 res x:=.i .i64 (λ_=>x.e)
theorem ahC {I:Nat} {gs:List Gate} {r:Int} {l:List Int} {sig:Int->Option Int}:(cellOf I gs r l sig).1.ins.length<=l.length:=by
 have h:∀l:List Int,(oy sig l).1.length<=l.length:=λl=>by
  induction l with
  | nil=>exact fb _
  | cons x l ih =>
   unfold oy
   cases sig x with
   | none=>exact cg _
   | some s=>simp only [ql];omega
 unfold cellOf
 split
 ·split
  ·split
   ·exact h l
   ·split
    ·exact h l
    ·exact h l
  ·exact h l
 ·exact h l
structure ChF (ins:List eH) (gs:List Gate) (outs:List eH) (dr:List Int) (mc:List Cell) (md R:List Int) (V:List (List Int)) (e N L0:Int) (rB:Bool) (Rk:Nat->Int->Bool) (sg:Int->Option Int) (Ck Dk:Nat->Bool):Prop where
 l1:R.length=mc.length
 l2:V.length=mc.length
 l3:md.length=dr.length
 sge:eu ins.length R=sg
 r0:rB=Rk 0 L0
 rn:∀(i:Nat) (r last:Int),R[i]?=some r->(¬last < r->Rk i last=false)/\(¬r < N->Rk i last=false)/\(last < r->r < N->Rk i last=Rk (i+1) r)
 re:∀(i:Nat) (last:Int),R.length<=i->Rk i last=true
 bad:rB=false->260=e
 CW:rB=true->(ins.length<=1000000/\E7 ins.length R)/\yI (Ck 0&&Dk 0)=e/\(∀(i:Nat) (x:Cell),mc[i]?=some x->∃r l y t,R[i]?=some r/\V[i]?=some l/\Nd ⟨ins,gs,outs,dr⟩ r l sg y t/\y.ins.length<=1000000000000/\x.ins.length<=1000000000000 /\
  (¬t=0->Ck i=false)/\(¬x.table=y.table->Ck i=false)/\(¬x.eI=y.eI->Ck i=false)/\(¬x.ins=y.ins->Ck i=false)/\(t=0->x.table=y.table->x.eI=y.eI->x.ins=y.ins->Ck i=Ck (i+1)))
 ce:∀i:Nat,mc.length<=i->Ck i=true
 de:∀i:Nat,dr.length<=i->Dk i=true
 dn:∀(i:Nat) (v:Int),dr[i]?=some v->∃t,md[i]?=some t/\(sg v=none->Dk i=false)/\(∀s,sg v=some s->¬s=t->Dk i=false)/\(sg v=some t->Dk i=Dk (i+1))
theorem chF {ins:List eH} {gs:List Gate} {outs:List eH} {dr:List Int} {mn:Int} {mc:List Cell} {md R:List Int} {V:List (List Int)} {e:Int} (h:IJ ⟨ins,gs,outs,dr⟩ ⟨mn,mc,md⟩ ⟨R,V⟩ e) :
  (¬mn=(ins.length:Int)->260=e)/\(¬(R.length:Int)=mc.length->260=e)/\(¬(V.length:Int)=mc.length->260=e)/\(¬(md.length:Int)=dr.length->260=e) /\
   (mn=(ins.length:Int)->(R.length:Int)=mc.length->(V.length:Int)=mc.length->(md.length:Int)=dr.length ->
    ∃rB Rk sg Ck Dk,ChF ins gs outs dr mc md R V e (2+ins.length+gs.length) (1+ins.length) rB Rk sg Ck Dk):=by
 obtain ⟨G,wB,Dv,u5,JC,he⟩:=h
 have G:cb ins.length gs:=G
 have wB:dr.length<=1000000:=wB
 have Dv:mc.length<=1000000:=Dv
 have u5:∀x∈mc,x.ins.length<=1000000:=u5
 have JC:∀l∈V,l.length<=1000000:=JC
 have he:yI ((decide (mn=ins.length)&&decide (R.length=mc.length)&&decide (V.length=mc.length)&&decide (md.length=dr.length))&&(ov (2+ins.length+gs.length) (1+ins.length) R&&(nP ins.length gs (eu ins.length R) mc R V&&pK (eu ins.length R) dr md)))=e:=he
 have hb:=G.j6
 have k2:¬(R.length:Int)=mc.length->¬R.length=mc.length:=λh e=>h (by rw [e])
 have k3:¬(V.length:Int)=mc.length->¬V.length=mc.length:=λh e=>h (by rw [e])
 have k4:¬(md.length:Int)=dr.length->¬md.length=dr.length:=λh e=>h (by rw [e])
 refine ⟨λh=>by rw [<-he];simp [h,yI],λh=>by rw [<-he];simp [k2 h,yI],λh=>by rw [<-he];simp [k3 h,yI],λh=>by rw [<-he];simp [k4 h,yI],λh1 h2 h3 h4=>?_⟩
 have h2:R.length=mc.length:=by omega
 have h3:V.length=mc.length:=by omega
 have h4:md.length=dr.length:=by omega
 rw [decide_eq_true h1,decide_eq_true h2,decide_eq_true h3,decide_eq_true h4] at he
 simp only [PH,Ha] at he
 have hr:ov (2+ins.length+gs.length) (1+ins.length) R=true->(R.length<=1000000/\R.Nodup/\∀r∈R,2+(ins.length:Int)<=r)/\∀r∈R,r < 2+(ins.length:Int)+gs.length:=λh=>by
  obtain ⟨a,b⟩:=Wj h
  exact ⟨⟨by omega,a.imp λh e=>by omega,λr hr=>by have:=b r hr;omega⟩,λr hr=>by have:=b r hr;omega⟩
 refine ⟨ov (2+ins.length+gs.length) (1+ins.length) R,λi last=>ov (2+ins.length+gs.length) last (R.drop i),eu ins.length R,λi=>nP ins.length gs (eu ins.length R) (mc.drop i) (R.drop i) (V.drop i),λi=>pK (eu ins.length R) (dr.drop i) (md.drop i),?_⟩
 refine ⟨h2,h3,h4,rfl,rfl,λi r last Gc=>?_,λi last h=>?_,λh=>by rw [<-he,h];rfl,λh=>?_,λi h=>?_,λi h=>?_,λi v hv=>?_⟩
 ·show (_->ov _ last (R.drop i)=_)/\(_->ov _ last (R.drop i)=_)/\(_->_->ov _ last (R.drop i)=ov _ r (R.drop (i+1)))
  rw [agI Gc]
  exact ⟨λh=>by rw [decide_eq_false λk=>h k.1];rfl,λh=>by rw [decide_eq_false λk=>h k.2];rfl,λa b=>by rw [decide_eq_true ⟨a,b⟩];rfl⟩
 ·show ov _ last (R.drop i)=true
  rw [Ev h];rfl
 ·obtain ⟨⟨a,b,c⟩,d⟩:=hr h
  refine ⟨⟨by omega,a,b,c⟩,by rw [<-he,h];rfl,λi x hx=>?_⟩
  have bQ:=(a7.1 hx).1
  obtain ⟨r,xI⟩:=bK (l:=R) (i:=i) (by omega)
  obtain ⟨l,gQ⟩:=bK (l:=V) (i:=i) (by omega)
  obtain ⟨y,t,Ut⟩:∃y t,cellOf ins.length gs r l (eu ins.length R)=(y,t):=⟨_,_,rfl⟩
  have cv:=JC l (cf gQ)
  have lH:y.ins.length<=l.length:=by have:=ahC (I:=ins.length) (gs:=gs) (r:=r) (l:=l) (sig:=eu ins.length R);rw [Ut] at this;exact this
  refine ⟨r,l,y,t,xI,gQ,⟨G,cv,c r (cf xI),d r (cf xI),Ut⟩,by omega,by have:=u5 x (cf hx);omega,?_⟩
  have e:=agJ (I:=ins.length) (gs:=gs) (sig:=eu ins.length R) hx xI gQ
  rw [Ut] at e
  have e:nP ins.length gs (eu ins.length R) (mc.drop i) (R.drop i) (V.drop i)=(decide (t=0)&&(decide (x.table=y.table)&&decide (x.eI=y.eI)&&decide (x.ins=y.ins))&&nP ins.length gs (eu ins.length R) (mc.drop (i+1)) (R.drop (i+1)) (V.drop (i+1))):=e
  refine ⟨λh=>?_,λh=>?_,λh=>?_,λh=>?_,λq1 q2 q3 q4=>?_⟩
  ·show nP _ _ _ _ _ _=_
   rw [e,decide_eq_false h];simp
  ·show nP _ _ _ _ _ _=_
   rw [e,decide_eq_false h];simp
  ·show nP _ _ _ _ _ _=_
   rw [e,decide_eq_false h];simp
  ·show nP _ _ _ _ _ _=_
   rw [e,decide_eq_false h];simp
  ·show nP _ _ _ _ _ _=nP _ _ _ _ _ _
   rw [e,decide_eq_true q1,decide_eq_true q2,decide_eq_true q3,decide_eq_true q4];rfl
 ·show nP _ _ _ (mc.drop i) _ _=true
  rw [Ev h];rfl
 ·show pK _ (dr.drop i) _=true
  rw [Ev h];rfl
 ·have bQ:=(a7.1 hv).1
  obtain ⟨t,ht⟩:=bK (l:=md) (i:=i) (by omega)
  have e:=agK (sig:=eu ins.length R) hv ht
  refine ⟨t,ht,λh=>?_,λs hs h=>?_,λh=>?_⟩
  ·show pK _ _ _=_
   rw [e,h];rfl
  ·show pK _ _ _=_
   rw [e,hs,decide_eq_false λk=>h (wO k)];rfl
  ·show pK _ _ _=pK _ _ _
   rw [e,h,decide_eq_true rfl];rfl
def jx (L:Int) (s:Int):Bool:=decide (0<=s/\s < L)
def r6 (x:Cell):Bool:=decide (x.eI=-1)&&decide (x.ins.length<=4)&&decide (0<=x.table)&&decide (x.table < 2^(2^x.ins.length))
def r7 (x:Cell):Bool:=decide (0<=x.eI)&&decide (x.eI < 64)&&decide (x.ins.length=3)&&decide (x.table=0)
def HX (x:Cell) (L:Int):Bool:=(r6 x||r7 x)&&x.ins.all (jx L)
def q8:List Cell->Int->Bool
 | [],_=>true
 | x :: r,L=>HX x L&&q8 r (L+1)
theorem ag7 {C:List Cell} {L:Int} {i:Nat} {x:Cell} (hx:C[i]?=some x):q8 (C.drop i) L=(HX x L&&q8 (C.drop (i+1)) (L+1)):=by
 obtain ⟨h1,e1⟩:=a7.1 hx
 rw [qQ h1,e1];rfl
def vX (m:dK):Bool:=decide (0<=m.n)&&decide (m.n<=600)&&decide (2+m.n+m.cells.length<=600)&&(q8 m.cells (2+m.n)&&m.bj.all (jx (2+m.n+m.cells.length)))
structure aqo where
 l:List Int
 L:Int
@[reducible] noncomputable def SX:Vc.Spec where
 α:=aqo
 args x:=[.sl 1 bC (λ_=>x.l),.i .i64 (λ_=>x.L)]
 pre x:=x.l.length<=1000000
 res x:=.b (λ_=>x.l.all (jx x.L))
noncomputable def aqp (n m:Nat):Ctx:=dM n m [(82,Tryz.f82),(176,Tryz.f176),(112,Tryz.f112)] [] [] [176]
theorem aaz (n m:Nat):CB PP (aqp n m):=dP n m ⟨fo Tryz.func82,fo Tryz.func176,fo Tryz.func112,trivial⟩ trivial
theorem aaA:dt (PP ()) 111 SX:=by
 refine e6 (aaz 0 0) (fo Tryz.func111) (λa=>⟨λx=>(cP x).1,trivial,trivial⟩) (λa=>trivial) ?_
 rintro ⟨a,L⟩ hx
 have ha:a.length<=1000000:=hx
 obtain ⟨f,hf⟩:∃f,f=jx L:=⟨_,rfl⟩
 have hu:a.all (jx L)=a.all f:=by rw [hf]
 have hz:(a.take 0).all f=true:=rfl
 have dx:∀(i:Nat) (x:Int),a[i]?=some x->¬(0<=x/\x < L)->(!fU 0 (i:Int))=a.all (jx L):=λi x hx h=>by
  have e:a.all (jx L)=false:=by
   rw [List.all_eq_false]
   exact ⟨x,cf hx,by unfold jx;rw [decide_eq_false h];decide⟩
  rw [e];simp [fU]
 have AW:∀(i:Nat) (x:Int),a[i]?=some x->0<=x->x < L->(a.take i).all f=true->(a.take (i+1)).all f=true:=λi x hx h1 h2 h3=>by
  rw [YF hx,h3,hf];unfold jx;rw [decide_eq_true ⟨h1,h2⟩];rfl
 refine ⟨?_⟩
 cbv
 refine Sat.cU (aaz 0 0) 1 8 [] (λi:Nat=>[(8,.i .i64 (λ_=>(i:Int)))]) (λi=>[])
  (λi=>i<=a.length/\(a.take i).all f=true) (λi=>a.length - i) 0 (by exact aM) (by exact aM) ⟨cg _,hz⟩ ?_
 rintro i ⟨hi,ht⟩
 have h0:=n0 i
 have h1:=cX (i:=i) (by omega)
 cbv
 refine ⟨λh=>?_,λh=>?_⟩
 ·have bQ:i < a.length:=aL
  have bX:a.length - (i+1) < a.length - i:=by omega
  refine (bK bQ).elim λx hx=>?_
  have dx:=dx i x hx
  have AW:=AW i x hx
  clear h
  cbv
  refine ⟨x,⟨h0,hx⟩,?_⟩
  cbv
  refine ⟨λh=>?_,λh=>?_⟩
  ·have aO:¬0<=x:=aL
   have e:=dx λh=>aO h.1
   cbv
   exact ⟨by have po:=e;exact cd⟩
  have cz:0<=x:=aL
  clear h
  cbv
  refine ⟨λh=>?_,λh=>?_⟩
  ·have aO:¬x < L:=aL
   have e:=dx λh=>aO h.2
   cbv
   exact ⟨by have po:=e;exact cd⟩
  ·have aO:x < L:=aL
   have bV:i+1<=a.length/\(a.take (i+1)).all f=true:=⟨bQ,AW cz aO ht⟩
   cbv
   exact ⟨i+1,by have bD:=h1;exact a8,by exact aM,⟨⟨bV,bX⟩⟩⟩
 ·have cz:a.length<=i:=aL
  have e:true=a.all (jx L):=by rw [hu,<-ht,iL cz]
  cbv
  exact ⟨by have fH:=e;exact cd⟩
theorem Lj {L s:Int}:jx L s=true↔0<=s/\s < L:=by unfold jx;exact decide_eq_true_iff
theorem XD:∀{C:List Cell} {L:Int} {i:Nat} {x:Cell},q8 C L=true->C[i]?=some x->HX x (L+i)=true
 | [],L,i,x,_,h=>by simp at h
 | y :: C,L,0,x,h,hx=>by
  simp at hx;subst hx
  simp only [q8,cG] at h
  simpa using h.1
 | y :: C,L,i+1,x,h,hx=>by
  simp only [q8,cG] at h
  have:=XD (i:=i) h.2 hx
  rw [show L+((i+1:Nat):Int)=L+1+i by omega]
  exact this
structure yJ (m:dK):Prop where
 n0:0<=m.n
 n6:2+m.n+m.cells.length<=600
 cell:∀(i:Nat) (x:Cell),m.cells[i]?=some x->(r6 x||r7 x)=true/\∀s∈x.ins,0<=s/\s < 2+m.n+i
 dr:∀s∈m.bj,0<=s/\s < 2+m.n+m.cells.length
theorem aqq {m:dK}:vX m=true↔yJ m:=by
 unfold vX
 simp only [cG,decide_eq_true_eq]
 constructor
 ·rintro ⟨⟨⟨a,b⟩,c⟩,d,e⟩
  refine ⟨a,c,λi x hx=>?_,λs hs=>Lj.1 (gM.1 e s hs)⟩
  have h:=XD d hx
  simp only [HX,cG] at h
  exact ⟨h.1,λs hs=>Lj.1 (gM.1 h.2 s hs)⟩
 ·rintro ⟨a,c,d,e⟩
  refine ⟨⟨⟨a,by omega⟩,c⟩,?_,gM.2 λs hs=>Lj.2 (e s hs)⟩
  suffices H:∀(C:List Cell) (L:Int),(∀(i:Nat) (x:Cell),C[i]?=some x->(r6 x||r7 x)=true/\∀s∈x.ins,0<=s/\s < L+i)->q8 C L=true from H _ _ d
  intro C
  induction C with
  | nil=>intro L _;rfl
  | cons y C ih =>
   intro L h
   simp only [q8,HX,cG]
   have h0:=h 0 y rfl
   refine ⟨⟨h0.1,gM.2 λs hs=>Lj.2 ⟨(h0.2 s hs).1,by have:=(h0.2 s hs).2;omega⟩⟩,ih (L+1) λi x hx=>?_⟩
   have h1:=h (i+1) x hx
   exact ⟨h1.1,λs hs=>by have:=h1.2 s hs;omega⟩
def fF (n:Int) (C:List Cell):List Int:=C.foldl (λD x=>D++[1+bR D x.ins]) (List.replicate (2+n).toNat 0)
def rW (m:dK):Int:=bR (fF m.n m.cells) m.bj
theorem Lb {n:Int} {C:List Cell} {i:Nat} {x:Cell} (hx:C[i]?=some x):fF n (C.take i)++[1+bR (fF n (C.take i)) x.ins]=fF n (C.take (i+1)):=by
 unfold fF
 rw [kf,hx,pF,List.foldl_append,nN,G9]
theorem Ey {n:Int} {C:List Cell}:∀{i:Nat},i<=C.length->(fF n (C.take i)).length=(2+n).toNat+i
 | 0,_=>by unfold fF;simp
 | i+1,h=>by
  obtain ⟨x,hx⟩:=bK (l:=C) (i:=i) (by omega)
  rw [<-Lb hx,List.length_append,Ey (by omega)];rfl
theorem QO {n:Int} {C:List Cell}:∀{i:Nat},i<=C.length->∀y∈fF n (C.take i),0<=y/\y<=(i:Int)
 | 0,_,y,h=>by
  unfold fF at h
  rw [KW,G9] at h
  rw [(Ea.1 h).2];omega
 | i+1,h,y,hy=>by
  obtain ⟨x,hx⟩:=bK (l:=C) (i:=i) (by omega)
  rw [<-Lb hx] at hy
  have ih:=QO (n:=n) (C:=C) (i:=i) (by omega)
  rcases dD.1 hy with hy|hy
  ·have:=ih y hy;omega
  ·rw [gD] at hy
   have h0:=qo (fF n (C.take i)) x.ins
   have h1:bR (fF n (C.take i)) x.ins<=(i:Int):=sW (by omega) λv _=>by
    rw [List.getD_eq_getElem?_getD]
    cases hv:(fF n (C.take i))[v.toNat]? with
    | none=>show (0:Int)<=i;omega
    | some z=>exact (ih z (cf hv)).2
   omega
structure aqr (m:dK) (D:Nat->List Int) (W:Int):Prop where
 w:2+m.n=W
 w0:0<=W/\W<=600
 z:List.replicate W.toNat 0=D 0
 grow:∀(i:Nat) (x:Cell),m.cells[i]?=some x->D i++[1+bR (D i) x.ins]=D (i+1)/\jY (D i) x.ins/\IntKind.i64.wrap (1+bR (D i) x.ins)=1+bR (D i) x.ins
 len:∀i,i<=m.cells.length->(D i).length<=600
 fin:∀i,i<=m.cells.length->m.cells.length<=i->jY (D i) m.bj/\bR (D i) m.bj=rW m
theorem aqs {m:dK} (h:yJ m) (hc:∀x∈m.cells,x.ins.length<=1000000) (hd:m.bj.length<=1000000):∃D W,aqr m D W:=by
 have h6:=h.n6
 have h0:=h.n0
 refine ⟨λi=>fF m.n (m.cells.take i),_,rfl,by omega,rfl,λi x hx=>?_,λi hi=>?_,λi hi hg=>?_⟩
 ·have hi:=(a7.1 hx).1
  have hl:=Ey (n:=m.n) (C:=m.cells) (i:=i) (by omega)
  have hg:jY (fF m.n (m.cells.take i)) x.ins:=⟨hc x (cf hx),λv hv=>by have:=(h.cell i x hx).2 v hv;omega,λy hy=>by have:=QO (by omega) y hy;omega⟩
  have:=hg.le
  exact ⟨Lb hx,hg,cW (by omega) (by omega)⟩
 ·have hl:=Ey (n:=m.n) (C:=m.cells) hi
  show (fF m.n (m.cells.take i)).length<=600
  omega
 ·have hl:=Ey (n:=m.n) (C:=m.cells) hi
  have e:m.cells.take i=m.cells:=iL hg
  refine ⟨⟨hd,λv hv=>?_,λy hy=>?_⟩,by show bR (fF m.n (m.cells.take i)) m.bj=_;rw [e];rfl⟩
  ·have:=h.dr v hv
   show 0<=v/\v < ((fF m.n (m.cells.take i)).length:Int)
   omega
  ·have:=QO hi y hy
   omega
theorem Qr (z m:Int) (h0:0<=m) (h1:m<=1000000):0<=gg .and .i64 z m/\gg .and .i64 z m<=m:=by
 have h:gg .and .i64 z m=IntKind.i64.wrap ((BitVec.ofInt 64 z &&& BitVec.ofInt 64 m).toNat:Int):=rfl
 have h2:(BitVec.ofInt 64 z &&& BitVec.ofInt 64 m).toNat<=(BitVec.ofInt 64 m).toNat:=by
  rw [BitVec.toNat_and]
  exact Nat.and_le_right
 have h3:((BitVec.ofInt 64 m).toNat:Int)=m:=by
  rw [Ps]
  omega
 rw [h,cW (by omega) (by omega)]
 omega
theorem XE:∀{l:List Int} {a b:Int},dU l->(∀x∈l,a<=x/\x < b)->a<=b->(l.length:Int)<=b - a
 | [],a,b,_,_,h=>by simp;omega
 | x :: l,a,b,hi,hm,h=>by
  have hx:=hm x (by simp)
  have h1:=fx.1 hi
  have:=XE (a:=x+1) (b:=b) h1.2 (λy hy=>⟨by have:=h1.1 y hy;omega,(hm y (by simp [hy])).2⟩) (by omega)
  rw [ql];omega
structure aqt (I:Nat) (gs:List Gate) (R:List Int) (x:Cell) (r:Int) (l:List Int) (i:Nat) (g:Gate):Prop where
 er:r=2+(I:Int)+i
 eg:gs[i]?=some g
 lf:∀y∈l,0<=y/\y < r/\∃s,eu I R y=some s
 ins:x.ins=l.map λy=>(eu I R y).getD 0
 ok:(r6 x||r7 x)=true
 kind:(g.op=7/\l=ca g/\x.table=0/\x.eI=g.n)\/(g.op≠7/\(eK I gs r l).isSome=true/\x.table=Ai I gs r l/\x.eI=-1/\l.length<=4/\∀y∈l,gG I gs l r.toNat y.toNat)
theorem aip {I:Nat} {gs:List Gate} {S:List Int} {root v:Nat} (h:gG I gs S root v) (hr:(root:Int)∈S):v=root:=by
 induction h with
 | base h=>exact h
 | step _ h2 ih=>rw [ih] at h2;exact absurd hr (qp.1 h2).1
theorem Nf {I:Nat} {gs:List Gate} (G:cb I gs) {bj:List Int} {m:dK} {c:iQ} (h:Cl I gs bj m c) {j:Nat} {x:Cell} {r:Int} {l:List Int} (hx:m.cells[j]?=some x) (hr:c.root[j]?=some r) (hl:c.leaves[j]?=some l) :
  ∃i g,aqt I gs c.root x r l i g:=by
 obtain ⟨h1,h2⟩:=h.lim r (cf hr)
 have k:=h.cell j x r l hx hr hl
 have hi:r.toNat - 2 - I < gs.length:=by omega
 have hg:=ea (l:=gs) hi
 generalize hq:r.toNat - 2 - I=i at *
 have Gc:r=2+(I:Int)+i:=by omega
 have uU:fy I gs r.toNat=some gs[i]:=by rw [show r.toNat=2+I+i by omega];exact lB.2 ⟨i,rfl,hg⟩
 generalize gs[i]=g at *
 have ha:=ahv k.1
 have JD:=OU ha.1
 have kg:=G.aY i g hg
 obtain ⟨k1,k2⟩:=k
 have dw:x.ins=l.map λy=>(eu I c.root y).getD 0:=by rw [k2];exact ha.2
 unfold cellOf at k1 k2
 rw [if_pos ha.1,uU] at k1 k2
 simp only at k1 k2
 refine ⟨i,g,?_⟩
 by_cases h7:g.op=7
 ·rw [if_pos h7] at k1 k2
  have hS:l=ca g:=by
   simp only at k1
   by_cases e:l=ca g
   ·exact e
   ·rw [if_neg e] at k1;omega
  have hlen:l.length=3:=by rw [hS];unfold ca jt;rw [h7];simp
  refine ⟨Gc,hg,λy hy=>⟨?_,?_,JD y hy⟩,dw,?_,.inl ⟨h7,hS,by rw [k2],by rw [k2]⟩⟩
  ·rw [hS] at hy;exact (G.ops hg y hy).1
  ·rw [hS] at hy;have:=(G.ops hg y hy).2;omega
  ·have bQ:x.ins.length=3:=by rw [dw,jP,hlen]
   have e1:x.eI=g.n:=by rw [k2]
   have e2:x.table=0:=by rw [k2]
   have:=kg.n
   unfold r7
   rw [e1,e2,bQ]
   simp;right;omega
 ·rw [if_neg h7] at k1 k2
  by_cases Uu:l=[r]
  ·rw [if_pos Uu] at k1;simp only at k1;omega
  ·rw [if_neg Uu] at k1 k2
   simp only at k1
   cases hc:eK I gs r l with
   | none=>unfold nj at k1;rw [hc] at k1;simp at k1
   | some q =>
    have gk:(eK I gs r l).isSome=true:=by rw [hc];rfl
    obtain ⟨L,C,hR⟩:=(BF G).1 gk
    have aO:∀y∈l,y≠r:=λy hy e=>by
     subst e
     have nV:((y.toNat:Nat):Int)∈l:=by rw [Int.toNat_of_nonneg (by omega)];exact hy
     have all:∀z∈l,z=y:=λz hz=>by
      have:=aip (hR z hz) nV
      have:=L.mem z hz
      omega
     refine Uu ?_
     cases l with
     | nil=>cases hy
     | cons a t =>
      have ha:=all a (by simp)
      subst ha
      cases t with
      | nil=>rfl
      | cons b t =>
       have:=all b (by simp)
       have:=(fx.1 L.inc).1 b (by simp)
       omega
    have ht:x.table=Ai I gs r l:=by rw [k2];unfold nj;rw [hc]
    have ac2:x.eI=-1:=by rw [k2]
    refine ⟨Gc,hg,λy hy=>⟨?_,?_,JD y hy⟩,dw,?_,.inr ⟨h7,by first|exact gk|rw [hc];rfl,ht,ac2,L.len,hR⟩⟩
    ·have:=L.mem y hy;omega
    ·have:=L.mem y hy;have:=aO y hy;omega
    ·have bQ:x.ins.length=l.length:=by rw [dw,jP]
     unfold r6
     rw [ht,ac2,bQ]
     have Gg:=L.len
     have hp:∃P:Nat,2^(2^l.length)=(P:Int)/\P<=1000000/\1<=P:=by
      have:l.length=0\/l.length=1\/l.length=2\/l.length=3\/l.length=4:=by omega
      rcases this with e|e|e|e|e<;>rw [e]
      ·exact ⟨2,by decide,by decide,by decide⟩
      ·exact ⟨4,by decide,by decide,by decide⟩
      ·exact ⟨16,by decide,by decide,by decide⟩
      ·exact ⟨256,by decide,by decide,by decide⟩
      ·exact ⟨65536,by decide,by decide,by decide⟩
     obtain ⟨P,hP,hP1,Uv⟩:=hp
     have hm:=Qr (iz I gs l r.toNat) (P - 1) (by omega) (by omega)
     have e:Ai I gs r l=gg .and .i64 (iz I gs l r.toNat) (P - 1):=by unfold Ai rj;rw [hP]
     rw [e,hP]
     simp
     left
     omega
theorem HM {I:Nat} {R:List Int} (hR:dU R) (fL:∀r∈R,2+(I:Int)<=r) {j:Nat} {r y s:Int} (hr:R[j]?=some r) (hy:y < r) (hs:eu I R y=some s):0<=s/\s < 2+(I:Int)+j:=by
 rcases (zU hR fL).1 hs with ⟨h1,h2,rfl⟩|⟨i,hi,rfl⟩
 ·omega
 ·have:i < j:=by
   rcases pG i j with h|h
   ·exact h
   ·exfalso
    obtain ⟨a1,a2⟩:=a7.1 hr
    obtain ⟨b1,b2⟩:=a7.1 hi
    rcases pG j i with h'|h'
    ·have:=(qj.1 hR) j i a1 b1 h'
     omega
    ·have:i=j:=by omega
     subst this;omega
  omega
theorem QP {I:Nat} {gs:List Gate} (G:cb I gs) {bj:List Int} {m:dK} {c:iQ} (h:Cl I gs bj m c):yJ m/\m.cells.length<=gs.length:=by
 have hlen:(c.root.length:Int)<=gs.length:=by
  have:=XE (a:=2+(I:Int)) (b:=2+I+gs.length) h.inc h.lim (by omega)
  omega
 have hb:=G.j6
 have hrl:=h.rl
 have fL:∀r∈c.root,2+(I:Int)<=r:=λr hr=>(h.lim r hr).1
 refine ⟨⟨by rw [h.n];omega,by rw [h.n];omega,λj x hx=>?_,λs hs=>?_⟩,by omega⟩
 ·have hj:=(a7.1 hx).1
  have hr:=ea (l:=c.root) (i:=j) (by omega)
  have hl:=ea (l:=c.leaves) (i:=j) (by rw [h.ll];exact hj)
  obtain ⟨i,g,F⟩:=Nf G h hx hr hl
  refine ⟨F.ok,λs hs=>?_⟩
  rw [F.ins] at hs
  obtain ⟨y,hy,rfl⟩:=iM.1 hs
  obtain ⟨h0,h1,s,hs⟩:=F.lf y hy
  rw [hs,h.n]
  exact HM h.inc fL hr h1 hs
 ·rw [h.y9] at hs
  obtain ⟨d,hd,rfl⟩:=iM.1 hs
  obtain ⟨s,hs⟩:=h.Fs d hd
  rw [hs,h.n]
  show 0<=s/\s < _
  rcases (zU h.inc fL).1 hs with ⟨h1,h2,rfl⟩|⟨i,hi,rfl⟩
  ·omega
  ·have:=(a7.1 hi).1
   omega
theorem VX {L L':List Int}:∀{l:List Int} {m:Int},(∀x∈l,L.getD x.toNat 0=L'.getD x.toNat 0)->l.foldl (λm v=>max m (L.getD v.toNat 0)) m=l.foldl (λm v=>max m (L'.getD v.toNat 0)) m
 | [],m,_=>rfl
 | x :: l,m,h=>by
  rw [nN,nN,h x (by simp)]
  exact VX λy hy=>h y (by simp [hy])
theorem XF {A:Type} (f:List Int->A->Int):∀(C:List A) (D:List Int),∃r,C.foldl (λD x=>D++[f D x]) D=D++r
 | [],D=>⟨[],by simp⟩
 | x :: C,D=>by
  obtain ⟨r,hr⟩:=XF f C (D++[f D x])
  exact ⟨f D x :: r,by rw [nN,hr];simp⟩
theorem YL (n:Int) (C:List Cell) (i:Nat):∃r,fF n C=fF n (C.take i)++r:=by
 obtain ⟨r,hr⟩:=XF (λD (x:Cell)=>1+bR D x.ins) (C.drop i) (fF n (C.take i))
 refine ⟨r,?_⟩
 rw [<-hr]
 unfold fF
 rw [<-List.foldl_append,List.take_append_drop]
theorem HE {I:Nat} {C:List Cell} {i:Nat} {x:Cell} (hx:C[i]?=some x) (dw:∀s∈x.ins,0<=s/\s < 2+(I:Int)+i):(fF I C).getD (2+I+i) 0=1+bR (fF I C) x.ins:=by
 have hi:=(a7.1 hx).1
 obtain ⟨r,hr⟩:=YL I C (i+1)
 have hl:=Ey (n:=(I:Int)) (C:=C) (i:=i) (by omega)
 have ja:(fF I (C.take i)).length=2+I+i:=by omega
 have hs:=Lb (n:=(I:Int)) hx
 have hg:bR (fF I C) x.ins=bR (fF I (C.take i)) x.ins:=VX λs tx=>by
  have:=dw s tx
  rw [hr,<-hs,List.append_assoc,List.getD_eq_getElem?_getD,ka (by omega),<-List.getD_eq_getElem?_getD]
 rw [hg,hr,<-hs,List.append_assoc,List.getD_eq_getElem?_getD,qi (by omega),ja,zB]
 rfl
theorem Lu {I:Nat} {C:List Cell} {v:Nat} (hv:v < 2+I):(fF I C).getD v 0=0:=by
 obtain ⟨r,hr⟩:=YL I C 0
 have hl:=Ey (n:=(I:Int)) (C:=C) (i:=0) (cg _)
 rw [hr,List.getD_eq_getElem?_getD,ka (by omega)]
 have e:fF I (C.take 0)=List.replicate (2+(I:Int)).toNat 0:=rfl
 rw [e,sY]
 split<;>rfl
def vK (g:Gate):Cell:=⟨ca g,0,-1⟩
def abI (I:Nat) (gs:List Gate) (bj:List Int):dK:=⟨I,gs.map vK,bj⟩
def wC (I:Nat) (gs:List Gate) (v:Nat):Int:=(fF I (gs.map vK)).getD v 0
theorem YM {I:Nat} {gs:List Gate} (G:cb I gs) {v:Nat} {g:Gate} (h:fy I gs v=some g) {o:Int} (ho:o∈ca g):wC I gs o.toNat+1<=wC I gs v:=by
 obtain ⟨i,rfl,hg⟩:=lB.1 h
 unfold wC
 rw [HE (I:=I) (C:=gs.map vK) (i:=i) (x:=vK g) (by rw [ml,hg];rfl) λs hs=>by have:=G.ops hg s hs;omega]
 have:=zI (L:=fF I (gs.map vK)) (l:=(vK g).ins) (v:=o) ho
 omega
theorem ajD {I:Nat} {gs:List Gate} (G:cb I gs) {S:List Int} {root v:Nat} (h:gG I gs S root v):v=root\/wC I gs v+1<=wC I gs root:=by
 induction h with
 | base h=>exact .inl h
 | step _ h2 ih =>
  obtain ⟨_,g,hg,_,ho⟩:=qp.1 h2
  have:=YM G hg ho
  rcases ih with rfl|ih
  ·exact .inr this
  ·right;omega
theorem XG {I:Nat} {gs:List Gate} (G:cb I gs) {bj:List Int} {m:dK} {c:iQ} (h:Cl I gs bj m c):∀(n j:Nat) (r:Int),j < n->c.root[j]?=some r->(fF I m.cells).getD (2+I+j) 0<=wC I gs r.toNat
 | 0,_,_,hj,_=>absurd hj (qn _)
 | n+1,j,r,hj,hr=>by
  have fL:∀r∈c.root,2+(I:Int)<=r:=λr hr=>(h.lim r hr).1
  have dG:=(a7.1 hr).1
  obtain ⟨x,hx⟩:=bK (l:=m.cells) (i:=j) (by rw [<-h.rl];exact dG)
  obtain ⟨l,hl⟩:=bK (l:=c.leaves) (i:=j) (by rw [h.ll,<-h.rl];exact dG)
  obtain ⟨i,g,F⟩:=Nf G h hx hr hl
  have hV:=((QP G h).1.cell j _ hx).2
  rw [h.n] at hV
  rw [HE hx hV,F.ins]
  have xI:=F.er
  have sw:0<=wC I gs r.toNat - 1:=by
   have uU:fy I gs r.toNat=some g:=lB.2 ⟨i,by omega,F.eg⟩
   unfold wC
   have e:r.toNat=2+I+i:=by omega
   rw [e,HE (I:=I) (C:=gs.map vK) (i:=i) (x:=vK g) (by rw [ml,F.eg];rfl) λs hs=>by have:=G.ops F.eg s hs;omega]
   have:=qo (fF I (gs.map vK)) (vK g).ins
   omega
  suffices H:bR (fF I m.cells) (l.map λy=>(eu I c.root y).getD 0)<=wC I gs r.toNat - 1 by omega
  refine sW sw λv hv=>?_
  obtain ⟨y,hy,rfl⟩:=iM.1 hv
  obtain ⟨y0,y1,s,hs⟩:=F.lf y hy
  rw [hs]
  show (fF I m.cells).getD s.toNat 0<=_
  have hny:wC I gs y.toNat+1<=wC I gs r.toNat:=by
   rcases F.kind with ⟨_,e,_⟩|⟨_,_,_,_,_,hR⟩
   ·rw [e] at hy
    exact YM G (lB.2 ⟨i,by omega,F.eg⟩) hy
   ·rcases ajD G (hR y hy) with e|e
    ·omega
    ·exact e
  rcases (zU h.inc fL).1 hs with ⟨h1,h2,rfl⟩|⟨k,hk,rfl⟩
  ·rw [Lu (by omega)]
   exact sw
  ·have Uc:k < j:=by
    have:=(HM h.inc fL hr y1 hs).2
    omega
   have:=XG G h n k y (by omega) hk
   rw [show (2+(I:Int)+k).toNat=2+I+k by omega]
   omega
theorem aiq {I:Nat} {gs:List Gate} (G:cb I gs) {bj:List Int} {m:dK} {c:iQ} (h:Cl I gs bj m c):rW m<=rW (abI I gs bj):=by
 have fL:∀r∈c.root,2+(I:Int)<=r:=λr hr=>(h.lim r hr).1
 unfold rW
 rw [h.y9,h.n]
 show bR (fF I m.cells) _<=bR (fF I (gs.map vK)) bj
 refine sW (qo _ _) λv hv=>?_
 obtain ⟨d,hd,rfl⟩:=iM.1 hv
 obtain ⟨s,hs⟩:=h.Fs d hd
 rw [hs]
 show (fF I m.cells).getD s.toNat 0<=_
 rcases (zU h.inc fL).1 hs with ⟨h1,h2,rfl⟩|⟨k,hk,rfl⟩
 ·rw [Lu (by omega)];exact qo _ _
 ·rw [show (2+(I:Int)+k).toNat=2+I+k by omega]
  exact ua (XG G h (k+1) k d (vx _) hk) (zI hd)
def jy (z:Int) (i:Nat):Bool:=(BitVec.ofInt 64 z).getLsbD i
theorem ahD (n:Int):BitVec.ofInt 64 (IntKind.i64.wrap n)=BitVec.ofInt 64 n:=by
 rw [IntKind.wrap_i64]
 apply BitVec.eq_of_toNat_eq
 rw [Ps,Ps]
 omega
theorem P3 (x:BitVec 64):BitVec.ofInt 64 (IntKind.i64.wrap (x.toNat:Int))=x:=by
 rw [ahD,KN,BitVec.ofNat_toNat,BitVec.setWidth_eq]
theorem Ca (a b:Int) (i:Nat):jy (rj a b) i=(jy a i&&jy b i):=by
 show (BitVec.ofInt 64 (IntKind.i64.wrap ((BitVec.ofInt 64 a &&& BitVec.ofInt 64 b).toNat:Int))).getLsbD i=_
 rw [P3,BitVec.getLsbD_and];rfl
theorem L4 (a b:Int) (i:Nat):jy (A9 a b) i=(jy a i||jy b i):=by
 show (BitVec.ofInt 64 (IntKind.i64.wrap ((BitVec.ofInt 64 a ||| BitVec.ofInt 64 b).toNat:Int))).getLsbD i=_
 rw [P3,BitVec.getLsbD_or];rfl
theorem QQ (a b:Int) (i:Nat):jy (CZ a b) i=(jy a i ^^ jy b i):=by
 show (BitVec.ofInt 64 (IntKind.i64.wrap ((BitVec.ofInt 64 a ^^^ BitVec.ofInt 64 b).toNat:Int))).getLsbD i=_
 rw [P3,BitVec.getLsbD_xor];rfl
theorem QR:∀i,i < 16->jy (-1) i=true:=by decide
theorem ajE (i:Nat):jy 0 i=false:=by unfold jy;simp
theorem akR:∀j,j < 4->∀i,i < 16->jy (vB j) i=i.testBit j:=by decide
theorem ajF:∀k,k < 5->∀i,i < 16->jy (2^(2^k) - 1) i=decide (i < 2^k):=by decide
theorem akS {n i:Nat} (hi:i < 64):jy (n:Int) i=n.testBit i:=by
 unfold jy
 rw [KN,BitVec.getLsbD_ofNat]
 simp [hi]
theorem ajG {op a b c:Int} (h:1<=op/\op<=6) {i:Nat} (hi:i < 16):jy (combineM op a b c) i=vJ op (jy a i) (jy b i) (jy c i):=by
 unfold combineM vJ
 by_cases h1:op=1
 ·rw [if_pos h1,if_pos h1,QQ,QR i hi];simp
 rw [if_neg h1,if_neg h1]
 by_cases h2:op=2
 ·rw [if_pos h2,if_pos h2,Ca]
 rw [if_neg h2,if_neg h2]
 by_cases h3:op=3
 ·rw [if_pos h3,if_pos h3,L4]
 rw [if_neg h3,if_neg h3]
 by_cases h4:op=4
 ·rw [if_pos h4,if_pos h4,QQ]
 rw [if_neg h4,if_neg h4]
 by_cases h5:op=5
 ·rw [if_pos h5,if_pos h5,L4,Ca,Ca,QQ,QR i hi];simp
 rw [if_neg h5,if_neg h5,L4,L4,Ca,Ca,Ca]
structure sE (c:Int) (i T:Nat):Prop where
 lt:T < 2^i
 bits:∀j,j < i->T.testBit j=jy c j
theorem sE.zero (c:Int):sE c 0 0:=⟨by decide,λj h=>absurd h (qn _)⟩
theorem sE.one {c:Int} {i T:Nat} (h:sE c i T) (hb:jy c i=true):sE c (i+1) (T ||| 2^i):=by
 refine ⟨Pv (BN h.lt (BS (by decide) (vx _))) (BS (by decide) (vx _)),λj hj=>?_⟩
 rw [Nat.testBit_or,Nat.testBit_two_pow]
 by_cases e:i=j
 ·subst e;rw [hb];simp
 ·rw [h.bits j (by omega)];simp [e]
theorem sE.off {c:Int} {i T:Nat} (h:sE c i T) (hb:jy c i=false):sE c (i+1) T:=by
 refine ⟨BN h.lt (BS (by decide) (vx _)),λj hj=>?_⟩
 by_cases e:j=i
 ·subst e;rw [hb];exact Pl h.lt
 ·exact h.bits j (by omega)
theorem sE.fin {I:Nat} {gs:List Gate} {root:Int} {S:List Int} {i T:Nat} (h:sE (iz I gs S root.toNat) i T) (hS:S.length<=4) (hi:i=2^S.length):(T:Int)=Ai I gs root S:=by
 subst hi
 have hP:2^S.length<=16:=by
  have:S.length=0\/S.length=1\/S.length=2\/S.length=3\/S.length=4:=by omega
  rcases this with e|e|e|e|e<;>rw [e]<;>decide
 have hm:(0:Int)<=2^(2^S.length) - 1/\(2:Int)^(2^S.length) - 1<=1000000:=by
  have:S.length=0\/S.length=1\/S.length=2\/S.length=3\/S.length=4:=by omega
  rcases this with e|e|e|e|e<;>rw [e]<;>decide
 have ht:=Qr (iz I gs S root.toNat) _ hm.1 hm.2
 have hb:=Ca (iz I gs S root.toNat) (2^(2^S.length) - 1)
 unfold Ai
 change 0<=rj (iz I gs S root.toNat) (2^(2^S.length) - 1)/\rj (iz I gs S root.toNat) (2^(2^S.length) - 1)<=2^(2^S.length) - 1 at ht
 generalize rj (iz I gs S root.toNat) (2^(2^S.length) - 1)=t at ht hb
 obtain ⟨t0,ht0⟩:∃t0:Nat,t=t0:=⟨t.toNat,by omega⟩
 subst ht0
 have aO:t0 < 2^(2^S.length):=by
  have h1:=ht.2
  have h2:((2^(2^S.length):Nat):Int)=(2:Int)^(2^S.length):=by push_cast;rfl
  omega
 have e:T=t0:=Nat.eq_of_testBit_eq λj=>by
  by_cases hj:j < 2^S.length
  ·rw [h.bits j hj,<-akS (n:=t0) (by omega),hb j,ajF _ (by omega) j (by omega)]
   simp [hj]
  ·have h2:2^(2^S.length)<=2^j:=KM (by decide) (by omega)
   rw [Pl (G4 h.lt h2),Pl (G4 aO h2)]
 rw [e]
structure VM (N i:Nat) (m:Int->Option Int) (v:List Bool):Prop where
 len:v.length=N
 at_:∀u c,0<=u->m u=some c->v[u.toNat]?=some (jy c i)
def JE:Int->Option Int:=λu=>if u=0 then some 0 else if u=1 then some (-1) else none
theorem VM.start {N i:Nat} (hN:2<=N) (hi:i < 16):VM N i JE ((List.replicate N false).set 1 true):=by
 refine ⟨by simp,λu c h0 h=>?_⟩
 unfold JE at h
 split at h
 ·rename_i e;subst e;cases h;rw [ajE]
  rw [gL,if_neg (by decide),sY,if_pos (by show 0 < N;omega)]
 ·split at h
  ·rename_i e;subst e;cases h;rw [QR i hi]
   show ((List.replicate N false).set 1 true)[1]?=_
   rw [gL,if_pos rfl,if_pos (by simp;omega)]
  ·cases h
theorem aoc (S:List Int):wA S 0 JE:=⟨cg _,rfl,rfl,λi x h=>absurd h (qn _)⟩
theorem VM.set {N i:Nat} {m:Int->Option Int} {v:List Bool} (h:VM N i m v) {x c:Int} {b:Bool} (h0:0<=x) (hx:x.toNat < N) (hb:b=jy c i):VM N i (vW m x c) (v.set x.toNat b):=by
 subst hb
 refine ⟨by rw [x4];exact h.len,λu d hu hm=>?_⟩
 by_cases e:u=x
 ·subst e;rw [QN] at hm;cases hm
  rw [gL,if_pos rfl,if_pos (by rw [h.len];exact hx)]
 ·rw [B9 e] at hm
  rw [gL,if_neg (by omega)]
  exact h.at_ u d hu hm
theorem ahE {op:Int} {A B C A' B' C':Bool} (hA:A=A') (hB:2<=jt op->B=B') (hC:3<=jt op->C=C'):vJ op A B C=vJ op A' B' C':=by
 subst hA
 unfold jt at hB hC
 unfold vJ
 by_cases h1:op=1
 ·rw [if_pos h1,if_pos h1]
 ·rw [if_neg h1,if_neg h1]
  rw [if_neg h1] at hB hC
  by_cases h2:op=2\/op=3\/op=4
  ·rw [if_pos h2] at hB
   rw [hB (fb _)]
   rcases h2 with h|h|h<;>subst h<;>simp
  ·rw [if_neg h2] at hB hC
   rw [hB (by omega),hC (by omega)]
theorem VM.gate {N i:Nat} {I:Nat} {gs:List Gate} (G:cb I gs) {S l:List Int} {root:Int} (hc:eK I gs root S=some l) {j:Nat} {m:Int->Option Int} (h:qc I gs S l j m) {v:List Bool} (hv:VM N i m v) (hi:i < 16)
  {x:Int} (hx:l[j]?=some x) {g:Gate} (hg:fy I gs x.toNat=some g) (h7:g.op≠7) {ba bb bc:Bool} (ha:v[g.a.toNat]?=some ba) (hb:v[g.b.toNat]?=some bb) (Ji:v[g.c.toNat]?=some bc):vJ g.op ba bb bc=jy (iz I gs S x.toNat) i:=by
 obtain ⟨q,hq,hgq⟩:=lB.1 hg
 have k:=G.aY q g hgq
 have jB:=((zK G hc).2 x).1 (cf hx)
 have hS:((x.toNat:Nat):Int)∉S:=by rw [Int.toNat_of_nonneg (by omega)];exact jB.2.2
 rw [Xv G hS hg,ajG (by have:=k.op;omega) hi]
 have key:∀o∈ca g,∀b,v[o.toNat]?=some b->b=jy (iz I gs S o.toNat) i:=λo ho b hb=>by
  have h1:=h.op G hc hx hg h7 ho
  have h0:=(G.ops hgq o ho).1
  have:=hv.at_ o _ h0 h1
  rw [hb] at this;exact wO this
 exact ahE (key _ (abF g) _ ha) (λh=>key _ (abG h) _ hb) (λh=>key _ (abH h) _ Ji)
theorem VM.root {N i:Nat} {I:Nat} {gs:List Gate} (G:cb I gs) {S l:List Int} {root:Int} (hc:eK I gs root S=some l) {j:Nat} {m:Int->Option Int} (h:qc I gs S l j m) (hj:l.length<=j) {v:List Bool} (hv:VM N i m v):v[root.toNat]?=some (jy (iz I gs S root.toNat) i):=by
 have hL:=DX hc
 have h0:0<=root:=by have:=hL.lo;omega
 rcases XB G hc with h1|h1
 ·exact hv.at_ _ _ h0 (h.leaf _ h1)
 ·exact hv.at_ _ _ h0 (h.nd _ (by rw [iL hj];exact h1))
theorem akT:∀i:Nat,i < 16->∀k:Nat,k < 4->fk (gg .and .i64 ((i:Int).fdiv (2^(min (IntKind.u64.wrap (k:Int)).toNat IntKind.i64.bits))) 1) 1=i.testBit k:=by decide
structure Tab where
 t:Int
 e:Int
theorem ac3 {a b:Nat} (ha:a < 65536) (hb:b < 65536):gg .or .i64 (a:Int) (b:Int)=((a ||| b:Nat):Int):=by
 have h:a ||| b < 65536:=Pv (n:=16) ha hb
 unfold gg
 simp only
 have e:(BitVec.ofInt IntKind.i64.bits (a:Int) ||| BitVec.ofInt IntKind.i64.bits (b:Int)).toNat=a ||| b:=by
  rw [BitVec.toNat_or,KN,KN,BitVec.toNat_ofNat,BitVec.toNat_ofNat]
  show a % 2^64 ||| b % 2^64=a ||| b
  rw [Px (show a < 2^64 by omega),Px (show b < 2^64 by omega)]
 rw [e,cW (by omega) (by omega)]
theorem ac4 {i:Nat} (h:i < 16):0<=IntKind.u64.wrap (i:Int)/\IntKind.i64.wrap (1*2^(min (IntKind.u64.wrap (i:Int)).toNat IntKind.i64.bits))=((2^i:Nat):Int):=by
 have:i=0\/i=1\/i=2\/i=3\/i=4\/i=5\/i=6\/i=7\/i=8\/i=9\/i=10\/i=11\/i=12\/i=13\/i=14\/i=15:=by omega
 rcases this with e|e|e|e|e|e|e|e|e|e|e|e|e|e|e|e<;>subst e<;>exact ⟨by decide,rfl⟩
structure TG where
 i:Nat
 t:Int
end Go.Proofs.Pk
