import Derived.Test.YthnhbemmlfaihaaGreatA13
import Derived.Test.YthnhbemmlfaihaaGreatA14
import Derived.Test.YthnhbemmlfaihaaGreatA15
import Derived.Test.YthnhbemmlfaihaaGreatA18
import Derived.Test.YthnhbemmlfaihaaGreatA25
set_option linter.unusedVariables false
set_option linter.unusedSimpArgs false
set_option maxRecDepth 10000
set_option maxHeartbeats 64000000
namespace Go.Proofs.Pk
open Go Go.Vc
def wa (m:ea):List SV:=[.i .i64 (λ_=>m.n),.sl 3 mF (λ_=>m.cells),.sl 1 bJ (λ_=>m.bA)]
def PX (c:kA):List SV:=[.sl 1 bJ (λ_=>c.root),.sl 1 fT (λ_=>c.leaves)]
theorem xu (m:ea):cj (wa m):=⟨trivial,λx=>(Bz x).1,λx=>(dq x).1,trivial⟩
theorem VJ (c:kA):cj (PX c):=⟨λx=>(dq x).1,λx=>(qJ x).1,trivial⟩
theorem aa7 {N last r:Int} {R:List Int} {i:Nat} (hr:R[i]?=some r):my N last (R.drop i)=(decide (last < r/\r < N)&&my N r (R.drop (i+1))):=by
 obtain ⟨h,e⟩:=bf.1 hr
 rw [rH h,e];rfl
theorem aa8 {I:Nat} {gs:List Gate} {sig:Int->Option Int} {C:List Cell} {R:List Int} {L:List (List Int)} {i:Nat} {x:Cell} {r:Int} {l:List Int} (hx:C[i]?=some x) (hr:R[i]?=some r) (hl:L[i]?=some l) :
  mw I gs sig (C.drop i) (R.drop i) (L.drop i)=(decide ((cellOf I gs r l sig).2=0)&&BL x (cellOf I gs r l sig).1&&mw I gs sig (C.drop (i+1)) (R.drop (i+1)) (L.drop (i+1))):=by
 obtain ⟨h1,e1⟩:=bf.1 hx
 obtain ⟨h2,e2⟩:=bf.1 hr
 obtain ⟨h3,e3⟩:=bf.1 hl
 rw [rH h1,rH h2,rH h3,e1,e2,e3];rfl
theorem aa9 {sig:Int->Option Int} {D E:List Int} {i:Nat} {v s:Int} (hv:D[i]?=some v) (hs:E[i]?=some s) :
  nQ sig (D.drop i) (E.drop i)=(decide (sig v=some s)&&nQ sig (D.drop (i+1)) (E.drop (i+1))):=by
 obtain ⟨h1,e1⟩:=bf.1 hv
 obtain ⟨h2,e2⟩:=bf.1 hs
 rw [rH h1,rH h2,e1,e2];rfl
theorem RD {N last:Int}:∀{R:List Int},my N last R=true->gd R/\∀r∈R,last < r/\r < N
 | [],_=>⟨List.Pairwise.nil,by simp⟩
 | r :: R,h=>by
  simp only [my,b9,decide_eq_true_eq] at h
  obtain ⟨a,b⟩:=RD h.2
  refine ⟨eX.2 ⟨λx hx=>(b x hx).1,a⟩,λx hx=>?_⟩
  rcases cv.1 hx with rfl|hx
  ·exact h.1
  ·have:=b x hx;have:=h.1;omega
def wb (b:Bool):Int:=if b then 0 else 260
structure ajk where
 n:Net
 m:ea
 c:kA
 e:Int
structure Fm (n:Net) (m:ea) (c:kA) (e:Int):Prop where
 G:cC n.ins.length n.cq
 dr:n.bA.length<=1000000
 cells:m.cells.length<=1000000
 cin:∀x∈m.cells,x.ins.length<=1000000
 lvs:∀l∈c.leaves,l.length<=1000000
 eq:wb (BM n.ins.length n.cq n.bA m c)=e
@[reducible] noncomputable def Oq:Vc.Spec where
 α:=ajk
 args x:=[.agg (oj x.n),.agg (wa x.m),.agg (PX x.c)]
 pre x:=Fm x.n x.m x.c x.e
 res x:=.i .i64 (λ_=>x.e)
theorem abZ {I:Nat} {gs:List Gate} {r:Int} {l:List Int} {sig:Int->Option Int}:(cellOf I gs r l sig).1.ins.length<=l.length:=by
 have h:∀l:List Int,(mB sig l).1.length<=l.length:=λl=>by
  induction l with
  | nil=>exact fN _
  | cons x l ih =>
   unfold mB
   cases sig x with
   | none=>exact cI _
   | some s=>simp only [mY];omega
 unfold cellOf
 split
 ·split
  ·split
   ·exact h l
   ·split
    ·exact h l
    ·exact h l
  ·exact h l
 ·exact h l
structure ChF (ins:List eb) (gs:List Gate) (outs:List eb) (dr:List Int) (mc:List Cell) (md R:List Int) (V:List (List Int)) (e N L0:Int) (rB:Bool) (Rk:Nat->Int->Bool) (sg:Int->Option Int) (Ck Dk:Nat->Bool):Prop where
 l1:R.length=mc.length
 l2:V.length=mc.length
 l3:md.length=dr.length
 sge:fU ins.length R=sg
 r0:rB=Rk 0 L0
 rn:∀(i:Nat) (r last:Int),R[i]?=some r->(¬last < r->Rk i last=false)/\(¬r < N->Rk i last=false)/\(last < r->r < N->Rk i last=Rk (i+1) r)
 re:∀(i:Nat) (last:Int),R.length<=i->Rk i last=true
 bad:rB=false->260=e
 Xu:rB=true->(ins.length<=1000000/\B1 ins.length R)/\wb (Ck 0&&Dk 0)=e/\(∀(i:Nat) (x:Cell),mc[i]?=some x->∃r l y t,R[i]?=some r/\V[i]?=some l/\Jv ⟨ins,gs,outs,dr⟩ r l sg y t/\y.ins.length<=1000000000000/\x.ins.length<=1000000000000 /\
  (¬t=0->Ck i=false)/\(¬x.table=y.table->Ck i=false)/\(¬x.ej=y.ej->Ck i=false)/\(¬x.ins=y.ins->Ck i=false)/\(t=0->x.table=y.table->x.ej=y.ej->x.ins=y.ins->Ck i=Ck (i+1)))
 ce:∀i:Nat,mc.length<=i->Ck i=true
 de:∀i:Nat,dr.length<=i->Dk i=true
 dn:∀(i:Nat) (v:Int),dr[i]?=some v->∃t,md[i]?=some t/\(sg v=none->Dk i=false)/\(∀s,sg v=some s->¬s=t->Dk i=false)/\(sg v=some t->Dk i=Dk (i+1))
theorem chF {ins:List eb} {gs:List Gate} {outs:List eb} {dr:List Int} {mn:Int} {mc:List Cell} {md R:List Int} {V:List (List Int)} {e:Int} (h:Fm ⟨ins,gs,outs,dr⟩ ⟨mn,mc,md⟩ ⟨R,V⟩ e) :
  (¬mn=(ins.length:Int)->260=e)/\(¬(R.length:Int)=mc.length->260=e)/\(¬(V.length:Int)=mc.length->260=e)/\(¬(md.length:Int)=dr.length->260=e) /\
   (mn=(ins.length:Int)->(R.length:Int)=mc.length->(V.length:Int)=mc.length->(md.length:Int)=dr.length ->
    ∃rB Rk sg Ck Dk,ChF ins gs outs dr mc md R V e (2+ins.length+gs.length) (1+ins.length) rB Rk sg Ck Dk):=by
 obtain ⟨G,tU,AF,sF,F9,he⟩:=h
 have G:cC ins.length gs:=G
 have tU:dr.length<=1000000:=tU
 have AF:mc.length<=1000000:=AF
 have sF:∀x∈mc,x.ins.length<=1000000:=sF
 have F9:∀l∈V,l.length<=1000000:=F9
 have he:wb ((decide (mn=ins.length)&&decide (R.length=mc.length)&&decide (V.length=mc.length)&&decide (md.length=dr.length))&&(my (2+ins.length+gs.length) (1+ins.length) R&&(mw ins.length gs (fU ins.length R) mc R V&&nQ (fU ins.length R) dr md)))=e:=he
 have hb:=G.mK
 have k2:¬(R.length:Int)=mc.length->¬R.length=mc.length:=λh e=>h (by rw [e])
 have k3:¬(V.length:Int)=mc.length->¬V.length=mc.length:=λh e=>h (by rw [e])
 have k4:¬(md.length:Int)=dr.length->¬md.length=dr.length:=λh e=>h (by rw [e])
 refine ⟨λh=>by rw [<-he];simp [h,wb],λh=>by rw [<-he];simp [k2 h,wb],λh=>by rw [<-he];simp [k3 h,wb],λh=>by rw [<-he];simp [k4 h,wb],λh1 h2 h3 h4=>?_⟩
 have h2:R.length=mc.length:=by omega
 have h3:V.length=mc.length:=by omega
 have h4:md.length=dr.length:=by omega
 rw [decide_eq_true h1,decide_eq_true h2,decide_eq_true h3,decide_eq_true h4] at he
 simp only [LJ,DK] at he
 have hr:my (2+ins.length+gs.length) (1+ins.length) R=true->(R.length<=1000000/\R.Nodup/\∀r∈R,2+(ins.length:Int)<=r)/\∀r∈R,r < 2+(ins.length:Int)+gs.length:=λh=>by
  obtain ⟨a,b⟩:=RD h
  exact ⟨⟨by omega,a.imp λh e=>by omega,λr hr=>by have:=b r hr;omega⟩,λr hr=>by have:=b r hr;omega⟩
 refine ⟨my (2+ins.length+gs.length) (1+ins.length) R,λi last=>my (2+ins.length+gs.length) last (R.drop i),fU ins.length R,λi=>mw ins.length gs (fU ins.length R) (mc.drop i) (R.drop i) (V.drop i),λi=>nQ (fU ins.length R) (dr.drop i) (md.drop i),?_⟩
 refine ⟨h2,h3,h4,rfl,rfl,λi r last CY=>?_,λi last h=>?_,λh=>by rw [<-he,h];rfl,λh=>?_,λi h=>?_,λi h=>?_,λi v hv=>?_⟩
 ·show (_->my _ last (R.drop i)=_)/\(_->my _ last (R.drop i)=_)/\(_->_->my _ last (R.drop i)=my _ r (R.drop (i+1)))
  rw [aa7 CY]
  exact ⟨λh=>by rw [decide_eq_false λk=>h k.1];rfl,λh=>by rw [decide_eq_false λk=>h k.2];rfl,λa b=>by rw [decide_eq_true ⟨a,b⟩];rfl⟩
 ·show my _ last (R.drop i)=true
  rw [Bq h];rfl
 ·obtain ⟨⟨a,b,c⟩,d⟩:=hr h
  refine ⟨⟨by omega,a,b,c⟩,by rw [<-he,h];rfl,λi x hx=>?_⟩
  have bO:=(bf.1 hx).1
  obtain ⟨r,yp⟩:=cg (l:=R) (i:=i) (by omega)
  obtain ⟨l,jc⟩:=cg (l:=V) (i:=i) (by omega)
  obtain ⟨y,t,PY⟩:∃y t,cellOf ins.length gs r l (fU ins.length R)=(y,t):=⟨_,_,rfl⟩
  have ca:=F9 l (cM jc)
  have lK:y.ins.length<=l.length:=by have:=abZ (I:=ins.length) (gs:=gs) (r:=r) (l:=l) (sig:=fU ins.length R);rw [PY] at this;exact this
  refine ⟨r,l,y,t,yp,jc,⟨G,ca,c r (cM yp),d r (cM yp),PY⟩,by omega,by have:=sF x (cM hx);omega,?_⟩
  have e:=aa8 (I:=ins.length) (gs:=gs) (sig:=fU ins.length R) hx yp jc
  rw [PY] at e
  have e:mw ins.length gs (fU ins.length R) (mc.drop i) (R.drop i) (V.drop i)=(decide (t=0)&&(decide (x.table=y.table)&&decide (x.ej=y.ej)&&decide (x.ins=y.ins))&&mw ins.length gs (fU ins.length R) (mc.drop (i+1)) (R.drop (i+1)) (V.drop (i+1))):=e
  refine ⟨λh=>?_,λh=>?_,λh=>?_,λh=>?_,λq1 q2 q3 q4=>?_⟩
  ·show mw _ _ _ _ _ _=_
   rw [e,decide_eq_false h];simp
  ·show mw _ _ _ _ _ _=_
   rw [e,decide_eq_false h];simp
  ·show mw _ _ _ _ _ _=_
   rw [e,decide_eq_false h];simp
  ·show mw _ _ _ _ _ _=_
   rw [e,decide_eq_false h];simp
  ·show mw _ _ _ _ _ _=mw _ _ _ _ _ _
   rw [e,decide_eq_true q1,decide_eq_true q2,decide_eq_true q3,decide_eq_true q4];rfl
 ·show mw _ _ _ (mc.drop i) _ _=true
  rw [Bq h];rfl
 ·show nQ _ (dr.drop i) _=true
  rw [Bq h];rfl
 ·have bO:=(bf.1 hv).1
  obtain ⟨t,ht⟩:=cg (l:=md) (i:=i) (by omega)
  have e:=aa9 (sig:=fU ins.length R) hv ht
  refine ⟨t,ht,λh=>?_,λs hs h=>?_,λh=>?_⟩
  ·show nQ _ _ _=_
   rw [e,h];rfl
  ·show nQ _ _ _=_
   rw [e,hs,decide_eq_false λk=>h (vD k)];rfl
  ·show nQ _ _ _=nQ _ _ _
   rw [e,h,decide_eq_true rfl];rfl
def iu (L:Int) (s:Int):Bool:=decide (0<=s/\s < L)
def pg (x:Cell):Bool:=decide (x.ej=-1)&&decide (x.ins.length<=4)&&decide (0<=x.table)&&decide (x.table < 2^(2^x.ins.length))
def pU (x:Cell):Bool:=decide (0<=x.ej)&&decide (x.ej < 64)&&decide (x.ins.length=3)&&decide (x.table=0)
def EG (x:Cell) (L:Int):Bool:=(pg x||pU x)&&x.ins.all (iu L)
def pb:List Cell->Int->Bool
 | [],_=>true
 | x :: r,L=>EG x L&&pb r (L+1)
theorem abx {C:List Cell} {L:Int} {i:Nat} {x:Cell} (hx:C[i]?=some x):pb (C.drop i) L=(EG x L&&pb (C.drop (i+1)) (L+1)):=by
 obtain ⟨h1,e1⟩:=bf.1 hx
 rw [rH h1,e1];rfl
def tD (m:ea):Bool:=decide (0<=m.n)&&decide (m.n<=600)&&decide (2+m.n+m.cells.length<=600)&&(pb m.cells (2+m.n)&&m.bA.all (iu (2+m.n+m.cells.length)))
structure ajl where
 l:List Int
 L:Int
@[reducible] noncomputable def Ot:Vc.Spec where
 α:=ajl
 args x:=[.sl 1 bJ (λ_=>x.l),.i .i64 (λ_=>x.L)]
 pre x:=x.l.length<=1000000
 res x:=.b (λ_=>x.l.all (iu x.L))
noncomputable def ajm (n m:Nat):Ctx:=cW n m [(82,Tryz.f82),(176,Tryz.f176),(112,Tryz.f112)] [] [] [176]
theorem VK (n m:Nat):CB PP (ajm n m):=cZ n m ⟨fo Tryz.func82,fo Tryz.func176,fo Tryz.func112,trivial⟩ trivial
theorem VL:cY (PP ()) 111 Ot:=by
 refine e6 (VK 0 0) (fo Tryz.func111) (λa=>⟨λx=>(dq x).1,trivial,trivial⟩) (λa=>trivial) ?_
 rintro ⟨a,L⟩ hx
 have ha:a.length<=1000000:=hx
 obtain ⟨f,hf⟩:∃f,f=iu L:=⟨_,rfl⟩
 have hu:a.all (iu L)=a.all f:=by rw [hf]
 have hz:(a.take 0).all f=true:=rfl
 have dC:∀(i:Nat) (x:Int),a[i]?=some x->¬(0<=x/\x < L)->(!iG 0 (i:Int))=a.all (iu L):=λi x hx h=>by
  have e:a.all (iu L)=false:=by
   rw [List.all_eq_false]
   exact ⟨x,cM hx,by unfold iu;rw [decide_eq_false h];decide⟩
  rw [e];simp [iG]
 have yb:∀(i:Nat) (x:Int),a[i]?=some x->0<=x->x < L->(a.take i).all f=true->(a.take (i+1)).all f=true:=λi x hx h1 h2 h3=>by
  rw [TY hx,h3,hf];unfold iu;rw [decide_eq_true ⟨h1,h2⟩];rfl
 refine ⟨?_⟩
 cbv
 refine Sat.dP (VK 0 0) 1 8 [] (λi:Nat=>[(8,.i .i64 (λ_=>(i:Int)))]) (λi=>[])
  (λi=>i<=a.length/\(a.take i).all f=true) (λi=>a.length - i) 0 (by exact aW) (by exact aW) ⟨cI _,hz⟩ ?_
 rintro i ⟨hi,ht⟩
 have h0:=n0 i
 have h1:=eh (i:=i) (by omega)
 cbv
 refine ⟨λh=>?_,λh=>?_⟩
 ·have bO:i < a.length:=aG
  have cf:a.length - (i+1) < a.length - i:=by omega
  refine (cg bO).elim λx hx=>?_
  have dC:=dC i x hx
  have yb:=yb i x hx
  clear h
  cbv
  refine ⟨x,⟨h0,hx⟩,?_⟩
  cbv
  refine ⟨λh=>?_,λh=>?_⟩
  ·have aP:¬0<=x:=aG
   have e:=dC λh=>aP h.1
   cbv
   exact ⟨by have ny:=e;exact bM⟩
  have bV:0<=x:=aG
  clear h
  cbv
  refine ⟨λh=>?_,λh=>?_⟩
  ·have aP:¬x < L:=aG
   have e:=dC λh=>aP h.2
   cbv
   exact ⟨by have ny:=e;exact bM⟩
  ·have aP:x < L:=aG
   have cb:i+1<=a.length/\(a.take (i+1)).all f=true:=⟨bO,yb bV aP ht⟩
   cbv
   exact ⟨i+1,by have bK:=h1;exact bq,by exact aW,⟨⟨cb,cf⟩⟩⟩
 ·have bV:a.length<=i:=aG
  have e:true=a.all (iu L):=by rw [hu,<-ht,iM bV]
  cbv
  exact ⟨by have eV:=e;exact bM⟩
theorem HJ {L s:Int}:iu L s=true↔0<=s/\s < L:=by unfold iu;exact decide_eq_true_iff
theorem S2:∀{C:List Cell} {L:Int} {i:Nat} {x:Cell},pb C L=true->C[i]?=some x->EG x (L+i)=true
 | [],L,i,x,_,h=>by simp at h
 | y :: C,L,0,x,h,hx=>by
  simp at hx;subst hx
  simp only [pb,b9] at h
  simpa using h.1
 | y :: C,L,i+1,x,h,hx=>by
  simp only [pb,b9] at h
  have:=S2 (i:=i) h.2 hx
  rw [show L+((i+1:Nat):Int)=L+1+i by omega]
  exact this
structure uP (m:ea):Prop where
 n0:0<=m.n
 n6:2+m.n+m.cells.length<=600
 cell:∀(i:Nat) (x:Cell),m.cells[i]?=some x->(pg x||pU x)=true/\∀s∈x.ins,0<=s/\s < 2+m.n+i
 dr:∀s∈m.bA,0<=s/\s < 2+m.n+m.cells.length
theorem ajn {m:ea}:tD m=true↔uP m:=by
 unfold tD
 simp only [b9,decide_eq_true_eq]
 constructor
 ·rintro ⟨⟨⟨a,b⟩,c⟩,d,e⟩
  refine ⟨a,c,λi x hx=>?_,λs hs=>HJ.1 (gE.1 e s hs)⟩
  have h:=S2 d hx
  simp only [EG,b9] at h
  exact ⟨h.1,λs hs=>HJ.1 (gE.1 h.2 s hs)⟩
 ·rintro ⟨a,c,d,e⟩
  refine ⟨⟨⟨a,by omega⟩,c⟩,?_,gE.2 λs hs=>HJ.2 (e s hs)⟩
  suffices H:∀(C:List Cell) (L:Int),(∀(i:Nat) (x:Cell),C[i]?=some x->(pg x||pU x)=true/\∀s∈x.ins,0<=s/\s < L+i)->pb C L=true from H _ _ d
  intro C
  induction C with
  | nil=>intro L _;rfl
  | cons y C ih =>
   intro L h
   simp only [pb,EG,b9]
   have h0:=h 0 y rfl
   refine ⟨⟨h0.1,gE.2 λs hs=>HJ.2 ⟨(h0.2 s hs).1,by have:=(h0.2 s hs).2;omega⟩⟩,ih (L+1) λi x hx=>?_⟩
   have h1:=h (i+1) x hx
   exact ⟨h1.1,λs hs=>by have:=h1.2 s hs;omega⟩
def gw (n:Int) (C:List Cell):List Int:=C.foldl (λD x=>D++[1+bW D x.ins]) (List.replicate (2+n).toNat 0)
def qN (m:ea):Int:=bW (gw m.n m.cells) m.bA
theorem HC {n:Int} {C:List Cell} {i:Nat} {x:Cell} (hx:C[i]?=some x):gw n (C.take i)++[1+bW (gw n (C.take i)) x.ins]=gw n (C.take (i+1)):=by
 unfold gw
 rw [iT,hx,mW,List.foldl_append,lu,DJ]
theorem BA {n:Int} {C:List Cell}:∀{i:Nat},i<=C.length->(gw n (C.take i)).length=(2+n).toNat+i
 | 0,_=>by unfold gw;simp
 | i+1,h=>by
  obtain ⟨x,hx⟩:=cg (l:=C) (i:=i) (by omega)
  rw [<-HC hx,gn,BA (by omega)];rfl
theorem MP {n:Int} {C:List Cell}:∀{i:Nat},i<=C.length->∀y∈gw n (C.take i),0<=y/\y<=(i:Int)
 | 0,_,y,h=>by
  unfold gw at h
  rw [LH,DJ] at h
  rw [(Bu.1 h).2];omega
 | i+1,h,y,hy=>by
  obtain ⟨x,hx⟩:=cg (l:=C) (i:=i) (by omega)
  rw [<-HC hx] at hy
  have ih:=MP (n:=n) (C:=C) (i:=i) (by omega)
  rcases eF.1 hy with hy|hy
  ·have:=ih y hy;omega
  ·rw [qH] at hy
   have h0:=xl (gw n (C.take i)) x.ins
   have h1:bW (gw n (C.take i)) x.ins<=(i:Int):=w9 (by omega) λv _=>by
    rw [List.getD_eq_getElem?_getD]
    cases hv:(gw n (C.take i))[v.toNat]? with
    | none=>show (0:Int)<=i;omega
    | some z=>exact (ih z (cM hv)).2
   omega
structure ajo (m:ea) (D:Nat->List Int) (W:Int):Prop where
 w:2+m.n=W
 w0:0<=W/\W<=600
 z:List.replicate W.toNat 0=D 0
 grow:∀(i:Nat) (x:Cell),m.cells[i]?=some x->D i++[1+bW (D i) x.ins]=D (i+1)/\jZ (D i) x.ins/\IntKind.i64.wrap (1+bW (D i) x.ins)=1+bW (D i) x.ins
 len:∀i,i<=m.cells.length->(D i).length<=600
 fin:∀i,i<=m.cells.length->m.cells.length<=i->jZ (D i) m.bA/\bW (D i) m.bA=qN m
theorem XO {m:ea} (h:uP m) (hc:∀x∈m.cells,x.ins.length<=1000000) (hd:m.bA.length<=1000000):∃D W,ajo m D W:=by
 have h6:=h.n6
 have h0:=h.n0
 refine ⟨λi=>gw m.n (m.cells.take i),_,rfl,by omega,rfl,λi x hx=>?_,λi hi=>?_,λi hi hg=>?_⟩
 ·have hi:=(bf.1 hx).1
  have hl:=BA (n:=m.n) (C:=m.cells) (i:=i) (by omega)
  have hg:jZ (gw m.n (m.cells.take i)) x.ins:=⟨hc x (cM hx),λv hv=>by have:=(h.cell i x hx).2 v hv;omega,λy hy=>by have:=MP (by omega) y hy;omega⟩
  have:=hg.le
  exact ⟨HC hx,hg,dV (by omega) (by omega)⟩
 ·have hl:=BA (n:=m.n) (C:=m.cells) hi
  show (gw m.n (m.cells.take i)).length<=600
  omega
 ·have hl:=BA (n:=m.n) (C:=m.cells) hi
  have e:m.cells.take i=m.cells:=iM hg
  refine ⟨⟨hd,λv hv=>?_,λy hy=>?_⟩,by show bW (gw m.n (m.cells.take i)) m.bA=_;rw [e];rfl⟩
  ·have:=h.dr v hv
   show 0<=v/\v < ((gw m.n (m.cells.take i)).length:Int)
   omega
  ·have:=MP hi y hy
   omega
theorem T4 (z m:Int) (h0:0<=m) (h1:m<=1000000):0<=fH .and .i64 z m/\fH .and .i64 z m<=m:=by
 have h:fH .and .i64 z m=IntKind.i64.wrap ((BitVec.ofInt 64 z &&& BitVec.ofInt 64 m).toNat:Int):=rfl
 have h2:(BitVec.ofInt 64 z &&& BitVec.ofInt 64 m).toNat<=(BitVec.ofInt 64 m).toNat:=by
  rw [BitVec.toNat_and]
  exact Nat.and_le_right
 have h3:((BitVec.ofInt 64 m).toNat:Int)=m:=by
  rw [BitVec.toNat_ofInt]
  omega
 rw [h,dV (by omega) (by omega)]
 omega
theorem S3:∀{l:List Int} {a b:Int},gd l->(∀x∈l,a<=x/\x < b)->a<=b->(l.length:Int)<=b - a
 | [],a,b,_,_,h=>by simp;omega
 | x :: l,a,b,hi,hm,h=>by
  have hx:=hm x (by simp)
  have h1:=eX.1 hi
  have:=S3 (a:=x+1) (b:=b) h1.2 (λy hy=>⟨by have:=h1.1 y hy;omega,(hm y (by simp [hy])).2⟩) (by omega)
  rw [mY];omega
structure ajp (I:Nat) (gs:List Gate) (R:List Int) (x:Cell) (r:Int) (l:List Int) (i:Nat) (g:Gate):Prop where
 er:r=2+(I:Int)+i
 eg:gs[i]?=some g
 lf:∀y∈l,0<=y/\y < r/\∃s,fU I R y=some s
 ins:x.ins=l.map λy=>(fU I R y).getD 0
 ok:(pg x||pU x)=true
 kind:(g.op=7/\l=cH g/\x.table=0/\x.ej=g.n)\/(g.op≠7/\(iD I gs r l).isSome=true/\x.table=BK I gs r l/\x.ej=-1/\l.length<=4/\∀y∈l,gF I gs l r.toNat y.toNat)
theorem acN {I:Nat} {gs:List Gate} {S:List Int} {root v:Nat} (h:gF I gs S root v) (hr:(root:Int)∈S):v=root:=by
 induction h with
 | base h=>exact h
 | step _ h2 ih=>rw [ih] at h2;exact absurd hr (qL.1 h2).1
theorem Ou {I:Nat} {gs:List Gate} (G:cC I gs) {bA:List Int} {m:ea} {c:kA} (h:BN I gs bA m c) {j:Nat} {x:Cell} {r:Int} {l:List Int} (hx:m.cells[j]?=some x) (hr:c.root[j]?=some r) (hl:c.leaves[j]?=some l) :
  ∃i g,ajp I gs c.root x r l i g:=by
 obtain ⟨h1,h2⟩:=h.lim r (cM hr)
 have k:=h.cell j x r l hx hr hl
 have hi:r.toNat - 2 - I < gs.length:=by omega
 have hg:=eG (l:=gs) hi
 generalize hq:r.toNat - 2 - I=i at *
 have CY:r=2+(I:Int)+i:=by omega
 have Aw:gI I gs r.toNat=some gs[i]:=by rw [show r.toNat=2+I+i by omega];exact pJ.2 ⟨i,rfl,hg⟩
 generalize gs[i]=g at *
 have ha:=abS k.1
 have Ga:=KU ha.1
 have kg:=G.cq i g hg
 obtain ⟨k1,k2⟩:=k
 have dw:x.ins=l.map λy=>(fU I c.root y).getD 0:=by rw [k2];exact ha.2
 unfold cellOf at k1 k2
 rw [if_pos ha.1,Aw] at k1 k2
 simp only at k1 k2
 refine ⟨i,g,?_⟩
 by_cases h7:g.op=7
 ·rw [if_pos h7] at k1 k2
  have hS:l=cH g:=by
   simp only at k1
   by_cases e:l=cH g
   ·exact e
   ·rw [if_neg e] at k1;omega
  have hlen:l.length=3:=by rw [hS];unfold cH kq;rw [h7];simp
  refine ⟨CY,hg,λy hy=>⟨?_,?_,Ga y hy⟩,dw,?_,.inl ⟨h7,hS,by rw [k2],by rw [k2]⟩⟩
  ·rw [hS] at hy;exact (G.ops hg y hy).1
  ·rw [hS] at hy;have:=(G.ops hg y hy).2;omega
  ·have bO:x.ins.length=3:=by rw [dw,jQ,hlen]
   have e1:x.ej=g.n:=by rw [k2]
   have e2:x.table=0:=by rw [k2]
   have:=kg.n
   unfold pU
   rw [e1,e2,bO]
   simp;right;omega
 ·rw [if_neg h7] at k1 k2
  by_cases PZ:l=[r]
  ·rw [if_pos PZ] at k1;simp only at k1;omega
  ·rw [if_neg PZ] at k1 k2
   simp only at k1
   cases hc:iD I gs r l with
   | none=>unfold uN at k1;rw [hc] at k1;simp at k1
   | some q =>
    have fQ:(iD I gs r l).isSome=true:=by rw [hc];rfl
    obtain ⟨L,C,hR⟩:=(RX G).1 fQ
    have aP:∀y∈l,y≠r:=λy hy e=>by
     subst e
     have qf:((y.toNat:Nat):Int)∈l:=by rw [Int.toNat_of_nonneg (by omega)];exact hy
     have all:∀z∈l,z=y:=λz hz=>by
      have:=acN (hR z hz) qf
      have:=L.mem z hz
      omega
     refine PZ ?_
     cases l with
     | nil=>cases hy
     | cons a t =>
      have ha:=all a (by simp)
      subst ha
      cases t with
      | nil=>rfl
      | cons b t =>
       have:=all b (by simp)
       have:=(eX.1 L.inc).1 b (by simp)
       omega
    have ht:x.table=BK I gs r l:=by rw [k2];unfold uN;rw [hc]
    have XP:x.ej=-1:=by rw [k2]
    refine ⟨CY,hg,λy hy=>⟨?_,?_,Ga y hy⟩,dw,?_,.inr ⟨h7,by first|exact fQ|rw [hc];rfl,ht,XP,L.len,hR⟩⟩
    ·have:=L.mem y hy;omega
    ·have:=L.mem y hy;have:=aP y hy;omega
    ·have bO:x.ins.length=l.length:=by rw [dw,jQ]
     unfold pg
     rw [ht,XP,bO]
     have hl4:=L.len
     have hp:∃P:Nat,2^(2^l.length)=(P:Int)/\P<=1000000/\1<=P:=by
      have:l.length=0\/l.length=1\/l.length=2\/l.length=3\/l.length=4:=by omega
      rcases this with e|e|e|e|e<;>rw [e]
      ·exact ⟨2,by decide,by decide,by decide⟩
      ·exact ⟨4,by decide,by decide,by decide⟩
      ·exact ⟨16,by decide,by decide,by decide⟩
      ·exact ⟨256,by decide,by decide,by decide⟩
      ·exact ⟨65536,by decide,by decide,by decide⟩
     obtain ⟨P,hP,hP1,P0⟩:=hp
     have hm:=T4 (kZ I gs l r.toNat) (P - 1) (by omega) (by omega)
     have e:BK I gs r l=fH .and .i64 (kZ I gs l r.toNat) (P - 1):=by unfold BK tC;rw [hP]
     rw [e,hP]
     simp
     left
     omega
theorem VM {I:Nat} {R:List Int} (hR:gd R) (gS:∀r∈R,2+(I:Int)<=r) {j:Nat} {r y s:Int} (hr:R[j]?=some r) (hy:y < r) (hs:fU I R y=some s):0<=s/\s < 2+(I:Int)+j:=by
 rcases (HH hR gS).1 hs with ⟨h1,h2,rfl⟩|⟨i,hi,rfl⟩
 ·omega
 ·have:i < j:=by
   rcases o8 i j with h|h
   ·exact h
   ·exfalso
    obtain ⟨a1,a2⟩:=bf.1 hr
    obtain ⟨b1,b2⟩:=bf.1 hi
    rcases o8 j i with h'|h'
    ·have:=(qC.1 hR) j i a1 b1 h'
     omega
    ·have:i=j:=by omega
     subst this;omega
  omega
theorem UX {I:Nat} {gs:List Gate} (G:cC I gs) {bA:List Int} {m:ea} {c:kA} (h:BN I gs bA m c):uP m/\m.cells.length<=gs.length:=by
 have hlen:(c.root.length:Int)<=gs.length:=by
  have:=S3 (a:=2+(I:Int)) (b:=2+I+gs.length) h.inc h.lim (by omega)
  omega
 have hb:=G.mK
 have hrl:=h.rl
 have gS:∀r∈c.root,2+(I:Int)<=r:=λr hr=>(h.lim r hr).1
 refine ⟨⟨by rw [h.n];omega,by rw [h.n];omega,λj x hx=>?_,λs hs=>?_⟩,by omega⟩
 ·have hj:=(bf.1 hx).1
  have hr:=eG (l:=c.root) (i:=j) (by omega)
  have hl:=eG (l:=c.leaves) (i:=j) (by rw [h.ll];exact hj)
  obtain ⟨i,g,F⟩:=Ou G h hx hr hl
  refine ⟨F.ok,λs hs=>?_⟩
  rw [F.ins] at hs
  obtain ⟨y,hy,rfl⟩:=jw.1 hs
  obtain ⟨h0,h1,s,hs⟩:=F.lf y hy
  rw [hs,h.n]
  exact VM h.inc gS hr h1 hs
 ·rw [h.PA] at hs
  obtain ⟨d,hd,rfl⟩:=jw.1 hs
  obtain ⟨s,hs⟩:=h.Xt d hd
  rw [hs,h.n]
  show 0<=s/\s < _
  rcases (HH h.inc gS).1 hs with ⟨h1,h2,rfl⟩|⟨i,hi,rfl⟩
  ·omega
  ·have:=(bf.1 hi).1
   omega
theorem Rg {L L':List Int}:∀{l:List Int} {m:Int},(∀x∈l,L.getD x.toNat 0=L'.getD x.toNat 0)->l.foldl (λm v=>max m (L.getD v.toNat 0)) m=l.foldl (λm v=>max m (L'.getD v.toNat 0)) m
 | [],m,_=>rfl
 | x :: l,m,h=>by
  rw [lu,lu,h x (by simp)]
  exact Rg λy hy=>h y (by simp [hy])
theorem S4 {A:Type} (f:List Int->A->Int):∀(C:List A) (D:List Int),∃r,C.foldl (λD x=>D++[f D x]) D=D++r
 | [],D=>⟨[],by simp⟩
 | x :: C,D=>by
  obtain ⟨r,hr⟩:=S4 f C (D++[f D x])
  exact ⟨f D x :: r,by rw [lu,hr];simp⟩
theorem T5 (n:Int) (C:List Cell) (i:Nat):∃r,gw n C=gw n (C.take i)++r:=by
 obtain ⟨r,hr⟩:=S4 (λD (x:Cell)=>1+bW D x.ins) (C.drop i) (gw n (C.take i))
 refine ⟨r,?_⟩
 rw [<-hr]
 unfold gw
 rw [<-List.foldl_append,List.take_append_drop]
theorem MQ {I:Nat} {C:List Cell} {i:Nat} {x:Cell} (hx:C[i]?=some x) (dw:∀s∈x.ins,0<=s/\s < 2+(I:Int)+i):(gw I C).getD (2+I+i) 0=1+bW (gw I C) x.ins:=by
 have hi:=(bf.1 hx).1
 obtain ⟨r,hr⟩:=T5 I C (i+1)
 have hl:=BA (n:=(I:Int)) (C:=C) (i:=i) (by omega)
 have jr:(gw I (C.take i)).length=2+I+i:=by omega
 have hs:=HC (n:=(I:Int)) hx
 have hg:bW (gw I C) x.ins=bW (gw I (C.take i)) x.ins:=Rg λs uX=>by
  have:=dw s uX
  rw [hr,<-hs,vB,List.getD_eq_getElem?_getD,jk (by omega),<-List.getD_eq_getElem?_getD]
 rw [hg,hr,<-hs,vB,List.getD_eq_getElem?_getD,qB (by omega),jr,yW]
 rfl
theorem UY {I:Nat} {C:List Cell} {v:Nat} (hv:v < 2+I):(gw I C).getD v 0=0:=by
 obtain ⟨r,hr⟩:=T5 I C 0
 have hl:=BA (n:=(I:Int)) (C:=C) (i:=0) (cI _)
 rw [hr,List.getD_eq_getElem?_getD,jk (by omega)]
 have e:gw I (C.take 0)=List.replicate (2+(I:Int)).toNat 0:=rfl
 rw [e,ud]
 split<;>rfl
def jU (g:Gate):Cell:=⟨cH g,0,-1⟩
def zH (I:Nat) (gs:List Gate) (bA:List Int):ea:=⟨I,gs.map jU,bA⟩
def tV (I:Nat) (gs:List Gate) (v:Nat):Int:=(gw I (gs.map jU)).getD v 0
theorem T6 {I:Nat} {gs:List Gate} (G:cC I gs) {v:Nat} {g:Gate} (h:gI I gs v=some g) {o:Int} (ho:o∈cH g):tV I gs o.toNat+1<=tV I gs v:=by
 obtain ⟨i,rfl,hg⟩:=pJ.1 h
 unfold tV
 rw [MQ (I:=I) (C:=gs.map jU) (i:=i) (x:=jU g) (by rw [kB,hg];rfl) λs hs=>by have:=G.ops hg s hs;omega]
 have:=Hz (L:=gw I (gs.map jU)) (l:=(jU g).ins) (v:=o) ho
 omega
theorem ad3 {I:Nat} {gs:List Gate} (G:cC I gs) {S:List Int} {root v:Nat} (h:gF I gs S root v):v=root\/tV I gs v+1<=tV I gs root:=by
 induction h with
 | base h=>exact .inl h
 | step _ h2 ih =>
  obtain ⟨_,g,hg,_,ho⟩:=qL.1 h2
  have:=T6 G hg ho
  rcases ih with rfl|ih
  ·exact .inr this
  ·right;omega
theorem S5 {I:Nat} {gs:List Gate} (G:cC I gs) {bA:List Int} {m:ea} {c:kA} (h:BN I gs bA m c):∀(n j:Nat) (r:Int),j < n->c.root[j]?=some r->(gw I m.cells).getD (2+I+j) 0<=tV I gs r.toNat
 | 0,_,_,hj,_=>absurd hj (s5 _)
 | n+1,j,r,hj,hr=>by
  have gS:∀r∈c.root,2+(I:Int)<=r:=λr hr=>(h.lim r hr).1
  have ei:=(bf.1 hr).1
  obtain ⟨x,hx⟩:=cg (l:=m.cells) (i:=j) (by rw [<-h.rl];exact ei)
  obtain ⟨l,hl⟩:=cg (l:=c.leaves) (i:=j) (by rw [h.ll,<-h.rl];exact ei)
  obtain ⟨i,g,F⟩:=Ou G h hx hr hl
  have hV:=((UX G h).1.cell j _ hx).2
  rw [h.n] at hV
  rw [MQ hx hV,F.ins]
  have yp:=F.er
  have qd:0<=tV I gs r.toNat - 1:=by
   have Aw:gI I gs r.toNat=some g:=pJ.2 ⟨i,by omega,F.eg⟩
   unfold tV
   have e:r.toNat=2+I+i:=by omega
   rw [e,MQ (I:=I) (C:=gs.map jU) (i:=i) (x:=jU g) (by rw [kB,F.eg];rfl) λs hs=>by have:=G.ops F.eg s hs;omega]
   have:=xl (gw I (gs.map jU)) (jU g).ins
   omega
  suffices H:bW (gw I m.cells) (l.map λy=>(fU I c.root y).getD 0)<=tV I gs r.toNat - 1 by omega
  refine w9 qd λv hv=>?_
  obtain ⟨y,hy,rfl⟩:=jw.1 hv
  obtain ⟨y0,y1,s,hs⟩:=F.lf y hy
  rw [hs]
  show (gw I m.cells).getD s.toNat 0<=_
  have hny:tV I gs y.toNat+1<=tV I gs r.toNat:=by
   rcases F.kind with ⟨_,e,_⟩|⟨_,_,_,_,_,hR⟩
   ·rw [e] at hy
    exact T6 G (pJ.2 ⟨i,by omega,F.eg⟩) hy
   ·rcases ad3 G (hR y hy) with e|e
    ·omega
    ·exact e
  rcases (HH h.inc gS).1 hs with ⟨h1,h2,rfl⟩|⟨k,hk,rfl⟩
  ·rw [UY (by omega)]
   exact qd
  ·have hkj:k < j:=by
    have:=(VM h.inc gS hr y1 hs).2
    omega
   have:=S5 G h n k y (by omega) hk
   rw [show (2+(I:Int)+k).toNat=2+I+k by omega]
   omega
theorem acO {I:Nat} {gs:List Gate} (G:cC I gs) {bA:List Int} {m:ea} {c:kA} (h:BN I gs bA m c):qN m<=qN (zH I gs bA):=by
 have gS:∀r∈c.root,2+(I:Int)<=r:=λr hr=>(h.lim r hr).1
 unfold qN
 rw [h.PA,h.n]
 show bW (gw I m.cells) _<=bW (gw I (gs.map jU)) bA
 refine w9 (xl _ _) λv hv=>?_
 obtain ⟨d,hd,rfl⟩:=jw.1 hv
 obtain ⟨s,hs⟩:=h.Xt d hd
 rw [hs]
 show (gw I m.cells).getD s.toNat 0<=_
 rcases (HH h.inc gS).1 hs with ⟨h1,h2,rfl⟩|⟨k,hk,rfl⟩
 ·rw [UY (by omega)];exact xl _ _
 ·rw [show (2+(I:Int)+k).toNat=2+I+k by omega]
  exact wY (S5 G h (k+1) k d (Ly _) hk) (Hz hd)
theorem ae3 {I:Nat} {gs:List Gate} (G:cC I gs) {bA:List Int} (hd:∀d∈bA,0<=d/\d < 2+(I:Int)+gs.length):uP (zH I gs bA):=by
 have hb:=G.mK
 have hl:(zH I gs bA).cells.length=gs.length:=by show (gs.map jU).length=_;rw [jQ]
 refine ⟨by show 0<=(I:Int);omega,by rw [hl];show 2+(I:Int)+_<=600;omega,λi x hx=>?_,λs hs=>by rw [hl];exact hd s hs⟩
 have jD:(gs.map jU)[i]?=some x:=hx
 rw [kB,Bs] at jD
 obtain ⟨g,hg,rfl⟩:=jD
 refine ⟨?_,λs hs=>G.ops hg s hs⟩
 have h3:=(vI g).2
 have h4:(jU g).ins.length<=4:=by show (cH g).length<=4;omega
 have h5:(jU g).ej=-1:=rfl
 have h6:(0:Int)<=(jU g).table:=kS 0
 have h7:(jU g).table < 2^(2^(jU g).ins.length):=Int.pow_pos (by decide)
 unfold pg
 simp [h4,h5,h6,h7]
def WO (w:eb) (lo hi:Int):Prop:=lo<=w.kind/\w.kind<=hi/\0<=w.i/\0<=w.bit/\w.bit<=7
structure VN (lim:Int) (g:Gate):Prop where
 op:1<=g.op/\g.op<=7
 a:0<=g.a/\g.a < lim
 b:0<=g.b/\g.b < lim
 c:0<=g.c/\g.c < lim
 n:0<=g.n/\g.n < 64
def ef.sigs (p:ef):Int:=p.ins.length+2*p.blocks.length
def mG (n:Nat) (s:Int):Nat:=((s - n) / 2).toNat
def rT (n:Nat) (s:Int):Prop:=(s - n) % 2=1
structure BO (p:ef) (s:Int):Prop where
 lo:0<=s
 hi:s < p.sigs
 flip:(p.ins.length:Int)<=s->rT p.ins.length s->∃x,p.blocks[mG p.ins.length s]?=some x/\0<=x.cJ
structure Nb (x:Block):Prop where
 k:x.ins.length<=4
 ej:-1<=x.ej/\x.ej<=63
 cJ:-1<=x.cJ/\x.cJ<=255
 table:0<=x.table/\x.table < 2^(2^x.ins.length)
 read:0<=x.ej->x.cJ=-1/\x.ins.length<=3/\x.table=0
structure Shape (p:ef):Prop where
 gY:p.blocks.length<=600
 arl:p.bA.length=p.outs.length
 bA:∀s∈p.bA,BO p s
 ins:∀w∈p.ins,WO w 2 4
 outs:∀w∈p.outs,WO w 5 10
 formed:∀x∈p.blocks,Nb x
 used:∀x∈p.blocks,∀s∈x.ins,BO p s
 xW:∀(i j:Nat) (x y:Block),p.blocks[i]?=some x->p.blocks[j]?=some y->0<=x.cJ->x.cJ=y.cJ->i=j
def Iu (p:ef) (r:Nat->Nat):Prop:=∀(b:Nat) (x:Block),p.blocks[b]?=some x->∀s∈x.ins,(p.ins.length:Int)<=s->¬rT p.ins.length s->r (mG p.ins.length s) < r b
structure PK where
 parts:List Part
 cells:List Source
 n0:Bool
 n1:Bool
 tp:Int->Option Int
def Aa (w:eb):List Int:=[w.kind,w.i,w.bit]
def iv {K:Type} [DecidableEq K] (m:K->Option Int) (k:K) (v:Int):K->Option Int:=λj=>if j=k then some v else m j
def others (l:List eb):List eb:=l.filter (λw=>w.kind≠1)
def af8 (l:List eb):List Int->Option Int:=(l.foldl (λ(st:(List Int->Option Int) × Int) w=>if w.kind=1 then st else (iv st.1 (Aa w) st.2,st.2+1)) (λ_=>none,0)).1
def Nz (w:eb):Int:=8*w.i+w.bit
def NA (ins:List eb) (cells:List Source) (sig:Int):Source :=
 if sig < 2 then ⟨3,sig⟩
 else if sig - 2 < ins.length then
  let w:=ins.getD (sig - 2).toNat ⟨0,0,0⟩
  if w.kind=1 then ⟨1,Nz w⟩ else ⟨0,(af8 ins (Aa w)).getD 0⟩
 else cells.getD (sig - 2 - ins.length).toNat ⟨0,0⟩
def PK.add (k:PK) (x:Part):PK:={ k with parts:=k.parts++[x],tp:=if 0<=x.cJ then iv k.tp x.cJ k.parts.length else k.tp }
def PK.here (k:PK):Source:=⟨2,k.parts.length⟩
def VO:List Source->List Source
 | []=>[]
 | s :: r=>if s=⟨3,0⟩ then VO r else s :: r
def strip (ej:Int) (l:List Source):List Source:=if 0<=ej then (VO l.reverse).reverse else l
def ajq (c:Cell) (l:List Source) (x:Part):Bool:=x.table == c.table&&x.ej == c.ej&&x.ins == l
def WQ (v:Int) (l:List Source):Bool:=l.any λs=>s.kind == 3&&s.n == v
def ahE (ins:List eb) (k:PK) (c:Cell):PK :=
 let l:=strip c.ej (c.ins.map (NA ins k.cells))
 match k.parts.findIdx? (ajq c l) with
 | some i=>{ k with cells:=k.cells++[⟨2,i⟩] }
 | none=>{ (k.add ⟨l,c.table,c.ej,-1⟩) with cells:=k.cells++[k.here],n0:=k.n0||WQ 0 l,n1:=k.n1||WQ 1 l }
def af9 (l:List Part) (i:Nat) (code:Int):List Part:=l.modify i λx=>{ x with cJ:=code }
def acP (k:PK) (s:Source) (code:Int):PK :=
 if s.kind=3 then k.add ⟨[],s.n,-1,code⟩
 else if s.kind=2/\(k.parts.getD s.n.toNat ⟨[],0,0,0⟩).ej < 0/\(k.parts.getD s.n.toNat ⟨[],0,0,0⟩).cJ < 0 then
  { k with parts:=af9 k.parts s.n.toNat code,tp:=iv k.tp code s.n }
 else k.add ⟨[s],2,-1,code⟩
def ajr (ins:List eb) (k:PK) (wd:eb × Int):PK :=
 if wd.1.kind=1 then acP k (NA ins k.cells wd.2) (Nz wd.1)
 else { k with n0:=k.n0||wd.2 == 0,n1:=k.n1||wd.2 == 1 }
def VP (k:PK) (v:Int) (b:Bool):PK:=if b then k.add ⟨[],v,-1,-1⟩ else k
structure TH where
 k:PK
 bA:List Source
 P1:List Int->Option Source
def XQ (s:Source):List Int:=[s.kind,s.n]
def ajs (ins:List eb) (t:TH) (wd:eb × Int):TH :=
 if wd.1.kind=1 then t
 else
  let s:=NA ins t.k.cells wd.2
  if s.kind=0 then match t.P1 (XQ s) with
   | some u=>{ t with bA:=t.bA++[u] }
   | none=>{ k:=t.k.add ⟨[s],2,-1,-1⟩,bA:=t.bA++[t.k.here],P1:=λj=>if j=XQ s then some t.k.here else t.P1 j }
  else { t with bA:=t.bA++[s] }
structure Ov where
 c0:Int
 c1:Int
 t:TH
def ahF (n:Net) (m:ea):Ov :=
 let k1:=m.cells.foldl (ahE n.ins) ⟨[],[],false,false,λ_=>none⟩
 let wd:=n.outs.zip m.bA
 let k2:=wd.foldl (ajr n.ins) k1
 let k3:=VP k2 0 k2.n0
 let k4:=VP k3 1 k2.n1
 ⟨if k2.n0 then k2.parts.length else 0,if k2.n1 then k3.parts.length else 0,wd.foldl (ajs n.ins) ⟨k4,[],λ_=>none⟩⟩
def XR (first:Int) (d:Ov) (s:Source):Int :=
 if s.kind=1 then first+2*(d.t.k.tp s.n).getD 0+1
 else if s.kind=2 then first+2*s.n
 else if s.kind=3 then first+2*(if s.n=0 then d.c0 else d.c1)
 else s.n
def aga (first:Int) (d:Ov) (x:Part):Block:=⟨x.ins.map (XR first d),x.table,x.ej,x.cJ,0⟩
def XS (n:Net) (m:ea):ef :=
 let ins:=others n.ins
 let d:=ahF n m
 ⟨ins,d.t.k.parts.map (aga ins.length d),others n.outs,d.t.bA.map (XR ins.length d)⟩
def EH (ins:List eb) (np:Nat) (s:Source):Prop :=
 s.kind=0/\0<=s.n/\s.n < (others ins).length\/s.kind=1/\(∃w∈ins,w.kind=1/\s.n=Nz w)\/s.kind=2/\0<=s.n/\s.n < np\/s.kind=3/\(s.n=0\/s.n=1)
theorem EH.mono {ins:List eb} {a b:Nat} {s:Source} (h:EH ins a s) (gy:a<=b):EH ins b s:=by
 rcases h with h|h|h|h
 ·exact .inl h
 ·exact .inr (.inl h)
 ·exact .inr (.inr (.inl ⟨h.1,h.2.1,by omega⟩))
 ·exact .inr (.inr (.inr h))
structure VQ (x:Part):Prop where
 k:x.ins.length<=4
 ej:-1<=x.ej/\x.ej<=63
 cJ:-1<=x.cJ/\x.cJ<=255
 table:0<=x.table/\x.table < 2^(2^x.ins.length)
 read:0<=x.ej->x.cJ=-1/\x.ins.length<=3/\x.table=0
structure Ow (ins:List eb) (nc:Nat) (k:PK):Prop where
 nc:k.cells.length=nc
 cells:∀s∈k.cells,s.kind=2/\0<=s.n/\s.n < k.parts.length
 src:∀(b:Nat) (x:Part),k.parts[b]?=some x->VQ x/\∀s∈x.ins,EH ins b s
 l4:∀x∈k.parts,∀s∈x.ins,s.kind=3->(s.n=0->k.n0=true)/\(s.n=1->k.n1=true)
 tp:∀(b:Nat) (x:Part),k.parts[b]?=some x->0<=x.cJ->k.tp x.cJ=some b
 back:∀c v,k.tp c=some v->∃b:Nat,v=b/\∃x,k.parts[b]?=some x/\x.cJ=c/\0<=c
theorem Ow.add {ins:List eb} {nc:Nat} {k:PK} (h:Ow ins nc k) {x:Part} (hx:VQ x) (hs:∀s∈x.ins,EH ins k.parts.length s) {a b:Bool} (ha:k.n0=true->a=true) (hb:k.n1=true->b=true)
  (hn:∀s∈x.ins,s.kind=3->(s.n=0->a=true)/\(s.n=1->b=true)) (hf:0<=x.cJ->k.tp x.cJ=none):Ow ins nc { (k.add x) with n0:=a,n1:=b }:=by
 have uJ:∀(i:Nat) (y:Part),(k.parts++[x])[i]?=some y->(k.parts[i]?=some y)\/(i=k.parts.length/\y=x):=by
  intro i y hy
  rw [DC] at hy
  split at hy
  ·exact .inl hy
  ·rename_i aP
   have hi:i - k.parts.length=0:=by
    have:=(bf.1 hy).1
    simp at this;omega
   rw [hi] at hy
   simp at hy
   exact .inr ⟨by omega,hy.symm⟩
 refine ⟨h.nc,λs uX=>?_,λi y hy=>?_,λy hy s uX hk=>?_,λi y hy hr=>?_,λc v AG=>?_⟩
 ·have:=h.cells s uX
  simp only [PK.add,gn,y5]
  exact ⟨this.1,this.2.1,by push_cast;omega⟩
 ·rcases uJ i y hy with hy|⟨rfl,rfl⟩
  ·exact h.src i y hy
  ·exact ⟨hx,hs⟩
 ·simp only [PK.add,eF,qH] at hy
  rcases hy with hy|rfl
  ·have:=h.l4 y hy s uX hk
   exact ⟨λe=>ha (this.1 e),λe=>hb (this.2 e)⟩
  ·exact hn s uX hk
 ·simp only [PK.add]
  rcases uJ i y hy with hy|⟨rfl,rfl⟩
  ·have:=h.tp i y hy hr
   split
   ·rename_i jd
    have bR:y.cJ≠x.cJ:=λe=>by rw [e,hf jd] at this;cases this
    simp [iv,bR,this]
   ·exact this
  ·rw [if_pos hr];simp [iv]
 ·simp only [PK.add] at AG ⊢
  split at AG
  ·rename_i jd
   simp only [iv] at AG
   split at AG
   ·rename_i e
    cases AG
    exact ⟨k.parts.length,rfl,x,by simp,e.symm,by rw [e];exact jd⟩
   ·obtain ⟨b',h1,y,h2,h3⟩:=h.back c v AG
    exact ⟨b',h1,y,by rw [jk (bf.1 h2).1];exact h2,h3⟩
  ·obtain ⟨b',h1,y,h2,h3⟩:=h.back c v AG
   exact ⟨b',h1,y,by rw [jk (bf.1 h2).1];exact h2,h3⟩
structure Sc where
 xW:List Int
 B2:List Int
 xX:List (Int × Int)
 data:Bool
def okW (w:Int):Prop:=1<=w/\w<=8
structure ajt (sc:Sc):Prop where
 xW:∀w∈sc.xW,okW w
 B2:∀w∈sc.B2,okW w
 xX:∀m∈sc.xX,okW m.1
inductive WT (sc:Sc):Nat->Int->Expr->Prop
 | const {n:Nat} {w k:Int}:okW w->WT sc (n+1) w (.mk 1 k w [])
 | cJ {n:Nat} {w:Int} (i:Nat):sc.xW[i]?=some w->WT sc (n+1) w (.mk 16 i 0 [])
 | data {n:Nat} {w:Int} (i:Nat):sc.data=true->sc.B2[i]?=some w->WT sc (n+1) w (.mk 18 i 0 [])
 | not {n:Nat} {w:Int} {a:Expr}:WT sc n w a->WT sc (n+1) w (.mk 2 0 0 [a])
 | two {n:Nat} {w op:Int} {a b:Expr}:3<=op->op<=7->WT sc n w a->WT sc n w b->WT sc (n+1) w (.mk op 0 0 [a,b])
 | cmp {n:Nat} {v op:Int} {a b:Expr}:8<=op->op<=9->WT sc n v a->WT sc n v b->WT sc (n+1) 1 (.mk op 0 0 [a,b])
 | AH {n:Nat} {w:Int} {c a b:Expr}:WT sc n 1 c->WT sc n w a->WT sc n w b->WT sc (n+1) w (.mk 10 0 0 [c,a,b])
 | cat {n:Nat} {v w:Int} {a b:Expr}:w=v+1->okW w->WT sc n v a->WT sc n 1 b->WT sc (n+1) w (.mk 11 0 0 [a,b])
 | slice {n:Nat} {v w k:Int} {a:Expr}:0<=k->k+w<=v->okW w->WT sc n v a->WT sc (n+1) w (.mk 12 k w [a])
 | ext {n:Nat} {v w:Int} {a:Expr}:v<=w->okW w->WT sc n v a->WT sc (n+1) w (.mk 13 0 w [a])
 | read {n:Nat} {v w words:Int} (i:Nat) {a:Expr}:sc.xX[i]?=some (w,words)->WT sc n v a->WT sc (n+1) w (.mk 17 i 0 [a])
theorem WT.wide {sc:Sc} (hs:ajt sc):∀{n:Nat} {w:Int} {e:Expr},WT sc n w e->okW w
 | _,_,_,.const h=>h
 | _,_,_,.cJ i h=>hs.xW _ (cM h)
 | _,_,_,.data i _ h=>hs.B2 _ (cM h)
 | _,_,_,.not h=>h.wide hs
 | _,_,_,.two _ _ h _=>h.wide hs
 | _,_,_,.cmp _ _ _ _=>⟨by omega,by omega⟩
 | _,_,_,.AH _ h _=>h.wide hs
 | _,_,_,.cat _ h _ _=>h
 | _,_,_,.slice _ _ h _=>h
 | _,_,_,.ext _ h _=>h
 | _,_,_,.read i h _=>hs.xX _ (cM h)
theorem WT.up {sc:Sc}:∀{n:Nat} {w:Int} {e:Expr},WT sc n w e->WT sc (n+1) w e
 | _,_,_,.const h=>.const h
 | _,_,_,.cJ i h=>.cJ i h
 | _,_,_,.data i h1 h=>.data i h1 h
 | _,_,_,.not h=>.not h.up
 | _,_,_,.two a b h1 h2=>.two a b h1.up h2.up
 | _,_,_,.cmp a b h1 h2=>.cmp a b h1.up h2.up
 | _,_,_,.AH h1 h2 h3=>.AH h1.up h2.up h3.up
 | _,_,_,.cat a b h1 h2=>.cat a b h1.up h2.up
 | _,_,_,.slice a b c h=>.slice a b c h.up
 | _,_,_,.ext a b h=>.ext a b h.up
 | _,_,_,.read i h h2=>.read i h h2.up
theorem WT.more {sc Gb:Sc} (hr:Gb.xW=sc.xW) (hm:Gb.xX=sc.xX) (ht:sc.data=true->Gb.data=true/\Gb.B2=sc.B2):∀{n:Nat} {w:Int} {e:Expr},WT sc n w e->WT Gb n w e
 | _,_,_,.const h=>.const h
 | _,_,_,.cJ i h=>.cJ i (by rw [hr];exact h)
 | _,_,_,.data i h1 h=>.data i (ht h1).1 (by rw [(ht h1).2];exact h)
 | _,_,_,.not h=>.not (h.more hr hm ht)
 | _,_,_,.two a b h1 h2=>.two a b (h1.more hr hm ht) (h2.more hr hm ht)
 | _,_,_,.cmp a b h1 h2=>.cmp a b (h1.more hr hm ht) (h2.more hr hm ht)
 | _,_,_,.AH h1 h2 h3=>.AH (h1.more hr hm ht) (h2.more hr hm ht) (h3.more hr hm ht)
 | _,_,_,.cat a b h1 h2=>.cat a b (h1.more hr hm ht) (h2.more hr hm ht)
 | _,_,_,.slice a b c h=>.slice a b c (h.more hr hm ht)
 | _,_,_,.ext a b h=>.ext a b (h.more hr hm ht)
 | _,_,_,.read i h h2=>.read i (by rw [hm];exact h) (h2.more hr hm ht)
def yq (sc:Sc) (n:Nat):List Int->List Expr->Prop
 | [],[]=>True
 | w :: ws,e :: es=>WT sc n w e/\yq sc n ws es
 | _,_=>False
theorem WT.args {sc:Sc}:∀{n:Nat} {w:Int} {e:Expr},WT sc (n+1) w e->∃ws,yq sc n ws e.args
 | _,_,_,.const h=>⟨[],trivial⟩
 | _,_,_,.cJ i h=>⟨[],trivial⟩
 | _,_,_,.data i h1 h=>⟨[],trivial⟩
 | _,_,_,.not h=>⟨[_],h,trivial⟩
 | _,_,_,.two a b h1 h2=>⟨[_,_],h1,h2,trivial⟩
 | _,_,_,.cmp a b h1 h2=>⟨[_,_],h1,h2,trivial⟩
 | _,_,_,.AH h1 h2 h3=>⟨[_,_,_],h1,h2,h3,trivial⟩
 | _,_,_,.cat a b h1 h2=>⟨[_,_],h1,h2,trivial⟩
 | _,_,_,.slice a b c h=>⟨[_],h,trivial⟩
 | _,_,_,.ext a b h=>⟨[_],h,trivial⟩
 | _,_,_,.read i h h2=>⟨[_],h2,trivial⟩
theorem yq.get {sc:Sc} {n:Nat}:∀{ws:List Int} {es:List Expr},yq sc n ws es->∀(i:Nat) (e:Expr),es[i]?=some e->∃w,ws[i]?=some w/\WT sc n w e
 | [],[],_,i,e,h=>by simp at h
 | w :: ws,x :: es,h,0,e,he=>by simp at he;subst he;exact ⟨w,rfl,h.1⟩
 | w :: ws,x :: es,h,i+1,e,he=>by simpa using yq.get h.2 i e (by simpa using he)
theorem yq.len {sc:Sc} {n:Nat}:∀{ws:List Int} {es:List Expr},yq sc n ws es->ws.length=es.length
 | [],[],_=>rfl
 | w :: ws,x :: es,h=>by simp [yq.len h.2]
theorem WT.gY {sc:Sc}:∀{n:Nat} {w:Int} {e:Expr},WT sc n w e->e.args.length<=3
 | _,_,_,.const h=>by simp [Expr.args]
 | _,_,_,.cJ i h=>by simp [Expr.args]
 | _,_,_,.data i h1 h=>by simp [Expr.args]
 | _,_,_,.not h=>by simp [Expr.args]
 | _,_,_,.two a b h1 h2=>by simp [Expr.args]
 | _,_,_,.cmp a b h1 h2=>by simp [Expr.args]
 | _,_,_,.AH h1 h2 h3=>by simp [Expr.args]
 | _,_,_,.cat a b h1 h2=>by simp [Expr.args]
 | _,_,_,.slice a b c h=>by simp [Expr.args]
 | _,_,_,.ext a b h=>by simp [Expr.args]
 | _,_,_,.read i h h2=>by simp [Expr.args]
def yu (ins:Int) (gs:List Gate):Prop:=∀(i:Nat) (g:Gate),gs[i]?=some g->VN (2+ins+i) g
def vO (ins:Int) (gs:List Gate) (v:Int):Prop:=0<=v/\v < 2+ins+gs.length
theorem vO.mono {ins:Int} {gs ZY:List Gate} {v:Int} (h:vO ins gs v) (hl:gs.length<=ZY.length):vO ins ZY v:=⟨h.1,by have:=h.2;omega⟩
theorem yu.nil (ins:Int):yu ins []:=λi g h=>by simp at h
theorem yu.add {ins:Int} {gs:List Gate} (h:yu ins gs) {g:Gate} (hg:VN (2+ins+gs.length) g):yu ins (gs++[g]):=by
 intro i x hx
 rw [DC] at hx
 split at hx
 ·exact h i x hx
 ·rename_i aP
  have hi:i - gs.length=0:=by
   have:=(bf.1 hx).1
   simp at this;omega
  rw [hi] at hx
  simp at hx
  subst hx
  have:(i:Int)=gs.length:=by omega
  rw [this];exact hg
def EI (w:eb):Int :=
 if w.kind=1 then 16*w.i+w.bit
 else if w.kind=2 then 1000+32*w.i+w.bit
 else if w.kind=3 then 1000+32*w.i+16
 else if w.kind=4 then 2000+w.i
 else if w.kind=5 then 1000+w.i
 else if w.kind=6 then 2000+32*w.i
 else if w.kind=7 then 2000+32*w.i+16+w.bit
 else 3000+64*w.i+16*(w.kind - 8)+w.bit
def vh (c:Int) (l:List eb):Prop:=l.Pairwise (λa b=>EI a < EI b)/\∀w∈l,EI w < c
theorem vh.nil (c:Int):vh c []:=⟨List.Pairwise.nil,by simp⟩
theorem vh.up {c d:Int} {l:List eb} (h:vh c l) (Yz:c<=d):vh d l:=⟨h.1,λw hw=>by have:=h.2 w hw;omega⟩
theorem vh.add {c d:Int} {l:List eb} (h:vh c l) {w:eb} (hc:c<=EI w) (hd:EI w < d):vh d (l++[w]):=by
 refine ⟨?_,λx hx=>?_⟩
 ·rw [ko]
  refine ⟨h.1,by simp,λa ha b hb=>?_⟩
  simp at hb;subst hb
  have:=h.2 a ha
  omega
 ·rcases eF.1 hx with hx|hx
  ·have:=h.2 x hx;omega
  ·simp at hx;subst hx;exact hd
theorem vh.nodup {c:Int} {l:List eb} (h:vh c l):l.Nodup:=by
 rw [Sb]
 exact h.1.imp λgy e=>by rw [e] at gy;omega
def aju (rw:List Int) (i k:Int) (w:eb):Prop:=0<=w.i/\0<=w.bit/\((w.i < i/\∃W,rw[w.i.toNat]?=some W/\w.bit < W)\/w.i=i/\w.bit < k)
def tg (rw:List Int) (i k:Int) (l:List eb):Prop:=∀w:eb,w.kind=1->(w∈l↔aju rw i k w)
theorem tg.nil (rw:List Int):tg rw 0 0 []:=λw _=>⟨λh=>(by simp at h),λ⟨h0,h1,h⟩=>by rcases h with ⟨h,_⟩|⟨_,h⟩<;>omega⟩
theorem tg.bit {rw:List Int} {i k:Int} {l:List eb} (h:tg rw i k l) (h0:0<=i) (h1:0<=k):tg rw i (k+1) (l++[⟨1,i,k⟩]):=by
 intro w hw
 rw [eF,h w hw]
 constructor
 ·rintro (⟨a,b,c⟩|e)
  ·refine ⟨a,b,c.imp id λ⟨x,y⟩=>⟨x,by omega⟩⟩
  ·simp at e;subst e
   exact ⟨h0,h1,.inr ⟨rfl,by simp only;omega⟩⟩
 ·rintro ⟨a,b,c|⟨x,y⟩⟩
  ·exact .inl ⟨a,b,.inl c⟩
  ·by_cases hk:w.bit < k
   ·exact .inl ⟨a,b,.inr ⟨x,hk⟩⟩
   ·right
    have:w.bit=k:=by omega
    cases w
    simp only at *
    subst hw;subst x;subst this
    simp
theorem tg.next {rw:List Int} {i:Nat} {k:Int} {l:List eb} (h:tg rw i k l) (hk:rw[i]?=some k):tg rw (i+1:Nat) 0 l:=by
 intro w hw
 rw [h w hw]
 constructor
 ·rintro ⟨a,b,⟨c,d⟩|⟨c,d⟩⟩
  ·exact ⟨a,b,.inl ⟨by omega,d⟩⟩
  ·refine ⟨a,b,.inl ⟨by omega,k,?_,d⟩⟩
   have:w.i.toNat=i:=by omega
   rw [this];exact hk
 ·rintro ⟨a,b,⟨c,W,d,e⟩|⟨c,d⟩⟩
  ·by_cases hi:w.i < i
   ·exact ⟨a,b,.inl ⟨hi,W,d,e⟩⟩
   ·refine ⟨a,b,.inr ⟨by omega,?_⟩⟩
    have:w.i.toNat=i:=by omega
    rw [this,hk] at d
    cases d
    exact e
  ·omega
theorem tg.other {rw:List Int} {i k:Int} {l:List eb} (h:tg rw i k l) {x:eb} (hx:x.kind≠1):tg rw i k (l++[x]):=by
 intro w hw
 rw [eF,<-h w hw]
 constructor
 ·rintro (e|e)
  ·exact e
  ·simp at e;subst e;exact absurd hw hx
 ·exact .inl
noncomputable def cB0 (n m:Nat):Ctx:=nA n m [] []
theorem NB (n m:Nat):CB PP (cB0 n m):=n8 n m trivial trivial
structure NC (ins:Int) (gs:List Gate):Prop where
 ok:yu ins gs
 ins:0<=ins/\ins<=1000
 len:gs.length<=1000000000
structure Kf where
 gs:List Gate
 n:Int
structure uQ (ins:Int) (gs:List Gate) (k:Nat) (y:Kf):Prop where
 ok:yu ins y.gs
 lo:gs.length<=y.gs.length
 hi:y.gs.length<=gs.length+k
 n:vO ins y.gs y.n
theorem vO.zero {ins:Int} {gs:List Gate} (h:0<=ins):vO ins gs 0:=⟨by omega,by omega⟩
theorem vO.one {ins:Int} {gs:List Gate} (h:0<=ins):vO ins gs 1:=⟨by omega,by omega⟩
theorem uQ.same {ins:Int} {gs:List Gate} {k:Nat} {n:Int} (h:yu ins gs) (hn:vO ins gs n):uQ ins gs k ⟨gs,n⟩:=⟨h,fN _,Nat.le_add_right _ _,hn⟩
theorem uQ.more {ins:Int} {gs:List Gate} {k k':Nat} {y:Kf} (h:uQ ins gs k y) (hk:k<=k'):uQ ins gs k' y:=⟨h.ok,h.lo,by have:=h.hi;omega,h.n⟩
theorem uQ.trans {ins:Int} {gs:List Gate} {k k':Nat} {y z:Kf} (h:uQ ins gs k y) (h2:uQ ins y.gs k' z):uQ ins gs (k+k') z:=⟨h2.ok,by have:=h.lo;have:=h2.lo;omega,by have:=h.hi;have:=h2.hi;omega,h2.n⟩
theorem NC.next {ins:Int} {gs:List Gate} {k:Nat} {z:Kf} (h:NC ins gs) (hz:uQ ins gs k z) (hl:z.gs.length<=1000000000):NC ins z.gs:=⟨hz.ok,h.ins,hl⟩
def IX (l:List (List Int)) (x:List Int) (r:List (List Int)):Prop:=r=l\/x∉l/\∃o,o.Sublist l/\r=o++[x]
theorem IX.nodup {l:List (List Int)} {x:List Int} {r:List (List Int)} (h:IX l x r) (hn:l.Nodup):r.Nodup:=by
 rcases h with rfl|⟨hx,o,ho,rfl⟩
 ·exact hn
 ·rw [Hj]
  refine ⟨hn.sublist ho,by simp,λa ha b hb=>?_⟩
  simp at hb;subst hb
  rintro rfl
  exact hx (ho.subset ha)
theorem IX.all {l:List (List Int)} {x:List Int} {r:List (List Int)} (h:IX l x r) {p:List Int->Prop} (hl:∀y∈l,p y) (hx:p x):∀y∈r,p y:=by
 rcases h with rfl|⟨_,o,ho,rfl⟩
 ·exact hl
 ·intro y hy
  rcases eF.1 hy with hy|hy
  ·exact hl y (ho.subset hy)
  ·simp at hy;subst hy;exact hx
structure LN where
 l:List Int
 n:Int
structure LL where
 a:List Int
 b:List Int
def Ex (n:Net):Int:=2+n.ins.length+n.cq.length
def sf:List Int->List Int->Bool
 | x :: r,y :: s=>if x≠y then decide (x < y) else sf r s
 | _,_=>false
def lZ (a b:List Int):Bool:=if a.length≠b.length then decide (a.length < b.length) else sf a b
theorem ae4 {a b:List Int} {i:Nat} {x y:Int} (hx:a[i]?=some x) (hy:b[i]?=some y):sf (a.drop i) (b.drop i)=if x≠y then decide (x < y) else sf (a.drop (i+1)) (b.drop (i+1)):=by
 obtain ⟨h1,e1⟩:=bf.1 hx
 obtain ⟨h2,e2⟩:=bf.1 hy
 rw [rH h1,rH h2,e1,e2]
 rfl
@[reducible] noncomputable def Iv:Vc.Spec where
 α:=LL
 args x:=[.sl 1 bJ (λ_=>x.a),.sl 1 bJ (λ_=>x.b)]
 pre x:=x.a.length<=1000000/\x.b.length<=1000000
 res x:=.b (λ_=>lZ x.a x.b)
theorem Mu:cY (PP ()) 183 Iv:=by
 refine e6 (NB 0 0) (fo Tryz.func183) (λa=>⟨(λx=>(dq x).1),(λx=>(dq x).1),trivial⟩) (λa=>trivial) ?_
 rintro ⟨a,b⟩ hx
 obtain ⟨ha,hb⟩:a.length<=1000000/\b.length<=1000000:=hx
 refine ⟨?_⟩
 cbv
 refine ⟨λh=>?_,λh=>?_⟩
 ·have gy:a.length≠b.length:=by have:=h.out;simp [ga] at this;exact sC
  have e:fk (a.length:Int) (b.length:Int)=lZ a b:=by unfold lZ fk;rw [if_pos gy];simp
  cbv
  exact ⟨.b e⟩
 ·have gy:a.length=b.length:=by have:=h.out;simp [ga] at this;exact sC
  have e:lZ a b=sf a b:=by unfold lZ;rw [if_neg (by simpa using gy)]
  cbv
  refine Sat.dP (NB 0 0) 0 5 [] (λi:Nat=>[(5,.i .i64 λ_=>(i:Int))]) (λ_=>[]) (λi=>i<=a.length/\lZ a b=sf (a.drop i) (b.drop i)) (λi=>a.length - i) 0 (by exact aW) (by exact aW) ⟨by omega,by simpa using e⟩ ?_
  rintro i ⟨hi,he⟩
  cbv
  refine ⟨λh=>?_,λh=>?_⟩
  ·(have h:=h.out;simp (disch:=exact sC) only [hS] at h)
   have aP:i < a.length:=by exact sC
   have cf:a.length - (i+1) < a.length - i:=by omega
   obtain ⟨x,hx⟩:=cg aP
   obtain ⟨y,hy⟩:=cg (l:=b) (i:=i) (by omega)
   have hl:=ae4 hx hy
   have h1:=eh (i:=i) (by omega)
   have h0:=n0 i
   cbv
   refine ⟨x,⟨h0,hx⟩,?_⟩
   cbv
   refine ⟨y,⟨h0,hy⟩,?_⟩
   cbv
   refine ⟨λh=>?_,λh=>?_⟩
   ·have bR:x≠y:=by have:=h.out;simpa [ga] using this
    have e2:fk x y=lZ a b:=by rw [he,hl,if_pos bR];rfl
    cbv
    refine ⟨x,⟨h0,hx⟩,?_⟩
    cbv
    refine ⟨y,⟨h0,hy⟩,?_⟩
    cbv
    exact ⟨.b e2⟩
   ·have bR:x=y:=by have:=h.out;simpa [ga] using this
    have e2:lZ a b=sf (a.drop (i+1)) (b.drop (i+1)):=by rw [he,hl,if_neg (by simpa using bR)]
    cbv
    exact ⟨i+1,by have bK:=h1;exact bq,by exact aW,⟨⟨aP,e2⟩,cf⟩⟩
  ·(have h:=h.out;simp (disch:=exact sC) only [hS] at h)
   have bV:i=a.length:=by exact sC
   have e2:lZ a b=false:=by rw [he,bV,List.drop_length];rfl
   cbv
   exact ⟨.bc e2.symm⟩
structure ajB (A:Type) where
 a:List A
 b:List A
open Classical in
noncomputable def jI {A:Type} (a b:List A):Bool:=decide (a=b)
theorem xw {A:Type} {a b:List A}:jI a b=true↔a=b:=by simp [jI]
theorem VR {A:Type} {a b:List A} (h:a≠b):jI a b=false:=by simp [jI,h]
theorem agd {A:Type} {a b:List A} {i:Nat} {x y:A} (hx:a[i]?=some x) (hy:b[i]?=some y) (h:x≠y):jI a b=false:=VR λe=>by
 rw [e,hy] at hx;exact h (vD hx).symm
theorem ae5 {A:Type} {a b:List A} (hl:a.length=b.length) (h:∀(i:Nat) (x y:A),a[i]?=some x->b[i]?=some y->x=y):jI a b=true:=xw.2 (by
 apply LB hl
 intro i h1 h2
 exact h i _ _ (eG h1) (eG h2))
end Go.Proofs.Pk
