import Derived.Test.YthnhbemmlfaihaaGreatQ11
import Derived.Test.YthnhbemmlfaihaaGreatQ13
import Derived.Test.YthnhbemmlfaihaaGreatQ24
import Derived.Test.YthnhbemmlfaihaaGreatQ25
import Derived.Test.YthnhbemmlfaihaaGreatQ27
import Derived.Test.YthnhbemmlfaihaaGreatQ32
import Derived.Test.YthnhbemmlfaihaaGreatQ34
set_option linter.unusedVariables false
set_option linter.unusedSimpArgs false
set_option maxRecDepth 10000
set_option maxHeartbeats 64000000
namespace Go.Proofs.Pk
open Go Go.Vc
theorem aaX {l:List Int} {f:Int->Bool} {i:Nat} {x:Int} (h:l[i]?=some x):(l.take i).map f++[f x]=(l.take (i+1)).map f:=by rw [sN h,qe];rfl
structure Ue where
 n:Net
 v:List Bool
 y:List Bool
structure OC (x:Ue):Prop where
 e6:x.n.bj.length<=1000000
 dr:∀d∈x.n.bj,0<=d/\d.toNat < x.v.length
 eq:x.n.bj.map (eE x.v)=x.y
@[reducible] noncomputable def auE:jT where
 α:=Ue
 args x:=[.agg (jr x.n),.sl 1 fB (λ_=>x.v)]
 pre x:=OC x
 β:=List Bool
 post x y:=y=x.y
 res x y:=.sl 1 fB (λ_=>y)
noncomputable def cOu (n m:Nat):Ctx:=dH n m [] []
theorem OD (n m:Nat):CB PP (cOu n m):=dK n m trivial trivial
theorem apq:k7 PP 57 auE:=by
 refine qS (OD 0 0) (fo Tryz.func57) (λa=>⟨mu a.n,(λx=>(pA x).1),trivial⟩) (λa y=>(λx=>(pA x).1)) ?_
 rintro ⟨⟨ins,gs,outs,dr⟩,v,y⟩ hx
 obtain ⟨hf,hd,hy⟩:OC ⟨⟨ins,gs,outs,dr⟩,v,y⟩:=hx
 have hf:dr.length<=1000000:=hf
 have hd:∀d∈dr,0<=d/\d.toNat < v.length:=hd
 have hy:dr.map (eE v)=y:=hy
 refine ⟨?_⟩
 cbv
 refine Sat.dq (OD 0 0) 2 5 [(.t 5,1)] (λx:Nat × List Bool=>[(5,.own 1),(6,.i .i64 λ_=>(x.1:Int))]) (λx=>[(1,.dyn 4 1 fB λ_=>x.2)])
  (λx=>x.1<=dr.length/\x.2=(dr.take x.1).map (eE v)) (λx=>dr.length - x.1) (0,[]) (by exact aM) (by exact aM) ⟨cg _,rfl⟩ ?_
 rintro ⟨i,o⟩ ⟨hi,ho⟩
 have hi:i<=dr.length:=hi
 have ho:o=(dr.take i).map (eE v):=ho
 have fu:o.length=i:=by rw [ho,iR,iw];omega
 have h0:=n0 i
 have h1:=dC (i:=i) (by omega)
 have b1:(o.length+1)*1<=140737488355328:=by omega
 have b2:o.length+1<=9223372036854775807:=by omega
 cbv
 refine ⟨λh=>?_,λh=>?_⟩
 ·have bM:i < dr.length:=aH
  have bZ:dr.length - (i+1) < dr.length - i:=by omega
  refine (bO bM).elim λx hx=>?_
  obtain ⟨x0,x1⟩:=hd x (cB hx)
  refine (bO x1).elim λb hb=>?_
  have hg:eE v x=b:=by unfold eE;rw [List.getD_eq_getElem?_getD,hb];rfl
  have cH:=aaX (f:=eE v) hx
  rw [hg,<-ho] at cH
  clear h
  cbv
  refine ⟨x,⟨h0,hx⟩,?_⟩
  cbv
  refine ⟨b,⟨x0,hb⟩,?_⟩
  cbv
  refine ⟨[b],⟨by exact cj,b1,b2⟩,?_⟩
  cbv
  exact ⟨(i+1,o++[b]),by have bH:=h1;exact bh,by exact aM,⟨⟨bM,cH⟩,bZ⟩⟩
 ·have bM:¬i < dr.length:=aH
  have cb:o=y:=by rw [ho,iQ (by omega),hy]
  clear h
  cbv
  exact .mk' o ⟨by exact cj⟩ cb
@[reducible] noncomputable def Vq:Vc.Spec where
 α:=Ue
 args x:=[.agg (jr x.n),.sl 1 fB (λ_=>x.v)]
 pre x:=OC x
 res x:=.sl 1 fB (λ_=>x.y)
theorem ac4:cR (PP ()) 57 Vq:=IG apq (Dp Tryz.func57 (by kernel_rfl)) (λa=>a) (λa=>rfl) (λa h=>h) (λa y _ hy=>by
 have e:y=a.y:=hy
 show SV.sl 1 fB (λ_=>y)=SV.sl 1 fB (λ_=>a.y)
 rw [e]) (λa=>(λx=>(pA x).1)) rfl
structure Uf where
 m:ej
 v:List Bool
 y:List Bool
structure OE (x:Uf):Prop where
 e6:x.m.bj.length<=1000000
 dr:∀d∈x.m.bj,0<=d/\d.toNat < x.v.length
 eq:x.m.bj.map (eE x.v)=x.y
@[reducible] noncomputable def auF:jT where
 α:=Uf
 args x:=[.agg (wR x.m),.sl 1 fB (λ_=>x.v)]
 pre x:=OE x
 β:=List Bool
 post x y:=y=x.y
 res x y:=.sl 1 fB (λ_=>y)
theorem apr:k7 PP 59 auF:=by
 refine qS (OD 0 0) (fo Tryz.func59) (λa=>⟨y4 a.m,(λx=>(pA x).1),trivial⟩) (λa y=>(λx=>(pA x).1)) ?_
 rintro ⟨⟨mn,mc,dr⟩,v,y⟩ hx
 obtain ⟨hf,hd,hy⟩:OE ⟨⟨mn,mc,dr⟩,v,y⟩:=hx
 have hf:dr.length<=1000000:=hf
 have hd:∀d∈dr,0<=d/\d.toNat < v.length:=hd
 have hy:dr.map (eE v)=y:=hy
 refine ⟨?_⟩
 cbv
 refine Sat.dq (OD 0 0) 2 5 [(.t 5,1)] (λx:Nat × List Bool=>[(5,.own 1),(6,.i .i64 λ_=>(x.1:Int))]) (λx=>[(1,.dyn 4 1 fB λ_=>x.2)])
  (λx=>x.1<=dr.length/\x.2=(dr.take x.1).map (eE v)) (λx=>dr.length - x.1) (0,[]) (by exact aM) (by exact aM) ⟨cg _,rfl⟩ ?_
 rintro ⟨i,o⟩ ⟨hi,ho⟩
 have hi:i<=dr.length:=hi
 have ho:o=(dr.take i).map (eE v):=ho
 have fu:o.length=i:=by rw [ho,iR,iw];omega
 have h0:=n0 i
 have h1:=dC (i:=i) (by omega)
 have b1:(o.length+1)*1<=140737488355328:=by omega
 have b2:o.length+1<=9223372036854775807:=by omega
 cbv
 refine ⟨λh=>?_,λh=>?_⟩
 ·have bM:i < dr.length:=aH
  have bZ:dr.length - (i+1) < dr.length - i:=by omega
  refine (bO bM).elim λx hx=>?_
  obtain ⟨x0,x1⟩:=hd x (cB hx)
  have x2:x < (v.length:Int):=by omega
  refine (bO x1).elim λb hb=>?_
  have hg:eE v x=b:=by unfold eE;rw [List.getD_eq_getElem?_getD,hb];rfl
  have cH:=aaX (f:=eE v) hx
  rw [hg,<-ho] at cH
  clear h
  cbv
  refine ⟨x,⟨h0,hx⟩,?_⟩
  cbv
  refine ⟨λh=>?_,λh=>?_⟩
  ·have h':x < 0:=aH
   cases (show False from C0.2 x0 h')
  clear h
  cbv
  refine ⟨x,⟨h0,hx⟩,?_⟩
  cbv
  refine ⟨λh=>?_,λh=>?_⟩
  ·have h':(v.length:Int)<=x:=Ee h.out
   cases (show False from C0.2 h' x2)
  clear h
  cbv
  refine ⟨x,⟨h0,hx⟩,?_⟩
  cbv
  refine ⟨b,⟨x0,hb⟩,?_⟩
  cbv
  refine ⟨[b],⟨by exact cj,b1,b2⟩,?_⟩
  cbv
  exact ⟨(i+1,o++[b]),by have bH:=h1;exact bh,by exact aM,⟨⟨bM,cH⟩,bZ⟩⟩
 ·have bM:¬i < dr.length:=aH
  have cb:o=y:=by rw [ho,iQ (by omega),hy]
  clear h
  cbv
  exact .mk' o ⟨by exact cj⟩ cb
@[reducible] noncomputable def Vr:Vc.Spec where
 α:=Uf
 args x:=[.agg (wR x.m),.sl 1 fB (λ_=>x.v)]
 pre x:=OE x
 res x:=.sl 1 fB (λ_=>x.y)
theorem ac5:cR (PP ()) 59 Vr:=IG apr (Dp Tryz.func59 (by kernel_rfl)) (λa=>a) (λa=>rfl) (λa h=>h) (λa y _ hy=>by
 have e:y=a.y:=hy
 show SV.sl 1 fB (λ_=>y)=SV.sl 1 fB (λ_=>a.y)
 rw [e]) (λa=>(λx=>(pA x).1)) rfl
structure aq8 where
 n:Net
 inn:List Bool
 ms:List (List Int)
 y:List Bool
@[reducible] noncomputable def Vs:Vc.Spec where
 α:=aq8
 args x:=[.agg (jr x.n),.sl 1 fB (λ_=>x.inn),.sl 1 e8 (λ_=>x.ms)]
 pre x:=(ca x.n.ins.length x.n.aT/\x.inn.length=x.n.ins.length)/\kH x.ms x.inn x.n.aT=x.y
 res x:=.sl 1 fB (λ_=>x.y)
theorem ac6:cR (PP ()) 58 Vs:=IG apo (Dp Tryz.func58 (by kernel_rfl)) (λa=>⟨a.n,a.inn,a.ms⟩) (λa=>rfl) (λa h=>h.1) (λa y h hy=>by
 have e:y=kH a.ms a.inn a.n.aT:=hy
 show SV.sl 1 fB (λ_=>y)=SV.sl 1 fB (λ_=>a.y)
 rw [e,h.2]) (λa=>(λx=>(pA x).1)) rfl
def W3:TypeId->Option TI
 | 87=>some (ti (.st [(51,0,3),(78,3,3),(3,6,1),(22,7,1),(36,8,1)]) 9 120 (.agg #[I0,N0,N0,Y0,Y0,Y0,I0,N0,N0]))
 | 105=>some (tS 94)
 | _=>none
theorem aps:∀t i,W3 t=some i->ly Tryz.prog t i:=by
 intro t i h
 unfold W3 at h
 split at h
 all_goals cases h
 all_goals exact K0 rfl rfl (by kernel_rfl) (by kernel_rfl)
def t5 (t:TypeId):Option TI:=match t3 t with
 | some i=>some i
 | none=>W3 t
theorem aq9:∀t i,t5 t=some i->ly Tryz.prog t i:=by
 intro t i h
 unfold t5 at h
 split at h
 ·rename_i j hj
  cases h
  exact TV t _ hj
 ·exact aps t i h
theorem anz (x:fO):cI (s6 x)/\(s6 x).all SV.one=true:=⟨Gd x,rfl⟩
def apt:gA:=⟨fO,s6,⟨⟨0,[],[]⟩,⟨[],[]⟩,0⟩⟩
theorem auG (H:bB):dJ H (s6 ⟨⟨0,[],[]⟩,⟨[],[]⟩,0⟩) [I0,N0,N0,N0,N0,I0] :=
 qi (by simp [rel]) (qi (xA λy=>(wx y).1) (qi (xA λy=>(df y).1) (qi (xA λy=>(df y).1) (qi (xA λy=>(nJ y).1) (by simp [aQ,rel])))))
def W4 (n m:Nat):TypeId->Option gA
 | 94=>some apt
 | t=>el n m t
theorem apu (n m:Nat) (X:Ctx) (h:X.tt=t5) (t:TypeId) (E:gA) (he:W4 n m t=some E):Bh Tryz.prog X t E:=by
 unfold W4 at he
 split at he
 ·cases he
  exact ⟨⟨_,by rw [h];rfl⟩,λi hi x=>by rw [h] at hi;cases hi;rfl,anz,λi hi H=>by rw [h] at hi;cases hi;exact auG H⟩
 ·exact JC (λt i h=>by unfold t5 t3 t2;rw [h]) n m X h t E he
@[reducible] def Qk (n m:Nat) (fs:List (Nat × Func)) (sp:List (Nat × Vc.Spec)) (io lp cut row emp:List Nat:=[]):Ctx:=HC t5 (W4 n m) fs sp io lp cut row emp
theorem Ug (n m:Nat) {fs:List (Nat × Func)} {sp:List (Nat × Vc.Spec)} {io lp cut row emp:List Nat} (hf:tp (λf fn=>lz (PP ()) f fn/\mZ fn=true) fs) (hs:tp (λf S=>cR (PP ()) f S) sp):CB PP (Qk n m fs sp io lp cut row emp):=JK aq9 (apu n m) mixed hf hs
structure ara where
 n:Nat
 l:List Int
@[reducible] noncomputable def auH:jT where
 α:=ara
 args x:=[.i .i64 (λ_=>(x.n:Int)),.sl 1 nA (λ_=>x.l)]
 pre x:=x.n<=1000000/\x.l.length<=1000000
 β:=List Bool
 post x y:=y.length=x.n
 res x y:=.sl 1 fB (λ_=>y)
noncomputable def auI (n m:Nat):Ctx:=dH n m [] []
theorem N3 (n m:Nat):CB PP (auI n m):=dK n m trivial trivial
theorem apv:k7 PP 41 auH:=by
 refine qS (N3 0 0) (fo Tryz.func41) (λa=>⟨trivial,λx=>(y7 x).1,trivial⟩) (λa y=>(λx=>(pA x).1)) ?_
 rintro ⟨n,l⟩ hx
 obtain ⟨hn,hl⟩:n<=1000000/\l.length<=1000000:=hx
 refine ⟨?_⟩
 cbv
 refine Sat.dq (N3 0 0) 1 5 [(.t 5,0)] (λx:Nat × List Bool=>[(5,.own 0),(6,.i .i64 λ_=>(x.1:Int))]) (λx=>[(0,.dyn 4 1 fB λ_=>x.2)])
  (λx=>x.1<=n/\x.2.length=x.1) (λx=>n - x.1) (0,[]) (by exact aM) (by exact aM) ⟨cg _,rfl⟩ ?_
 rintro ⟨i,o⟩ ⟨hi,ho⟩
 have hi:i<=n:=hi
 have ho:o.length=i:=ho
 have h0:=n0 i
 have h1:=dC (i:=i) (by omega)
 have b1:(o.length+1)*1<=140737488355328:=by omega
 have b2:o.length+1<=9223372036854775807:=by omega
 cbv
 refine ⟨λh=>?_,λh=>?_⟩
 ·have bM:i < n:=aH
  have bZ:n - (i+1) < n - i:=by omega
  have bS:∀c:Bool,(i+1<=n/\(o++[c]).length=i+1)/\n - (i+1) < n - i:=λc=>⟨⟨bM,by rw [List.length_append,ho];rfl⟩,bZ⟩
  clear h
  cbv
  refine ⟨λh=>?_,λh=>?_⟩
  ·have auJ:i < l.length:=aH
   refine (bO auJ).elim λx hx=>?_
   refine (⟨_,rfl⟩:∃c,eW (x.tmod 2) 1=c).elim λc hc=>?_
   clear h
   cbv
   refine ⟨x,⟨h0,hx⟩,?_⟩
   cbv
   refine ⟨⟨by decide⟩,?_⟩
   cbv
   refine ⟨[c],⟨by have kQ:=hc;exact qF,b1,b2⟩,?_⟩
   cbv
   exact ⟨(i+1,o++[c]),by have bH:=h1;exact bh,by exact aM,⟨bS c⟩⟩
  ·clear h
   cbv
   refine ⟨[false],⟨by exact cj,b1,b2⟩,?_⟩
   cbv
   exact ⟨(i+1,o++[false]),by have bH:=h1;exact bh,by exact aM,⟨bS false⟩⟩
 ·have bM:¬i < n:=aH
  have cb:o.length=n:=by omega
  clear h
  cbv
  exact .mk' o ⟨by exact cj⟩ cb
@[reducible] noncomputable def Vt:Vc.Spec where
 α:=Ou (List Bool)
 args x:=[.sl 1 fB (λ_=>x.a),.sl 1 fB (λ_=>x.b)]
 pre x:=(x.a.length<=1000000/\x.b.length<=1000000)/\(x.e=true↔x.a=x.b)
 res x:=.b (λ_=>x.e)
theorem ac7:cR (PP ()) 48 Vt:=by
 refine et (N3 0 0) (fo Tryz.func48) (λa=>⟨(λx=>(pA x).1),(λx=>(pA x).1),trivial⟩) (λa=>trivial) ?_
 rintro ⟨a,b,e⟩ hx
 obtain ⟨⟨ha,hb⟩,he⟩:(a.length<=1000000/\b.length<=1000000)/\(e=true↔a=b):=hx
 have dg:a≠b->e=false:=λh=>by cases e with|false=>rfl|true=>exact absurd (he.1 rfl) h
 refine ⟨?_⟩
 cbv
 refine ⟨λh=>?_,λh=>?_⟩
 ·have gl:¬(a.length:Int)=b.length:=aH
  have e1:=dg λq=>gl (by rw [q])
  clear h
  cbv
  exact ⟨by have eK:=e1.symm;exact bX⟩
 have gl:(a.length:Int)=b.length:=aH
 have gl:a.length=b.length:=by omega
 clear h
 cbv
 refine Sat.dq (N3 0 0) 0 5 [] (λi:Nat=>[(5,.i .i64 λ_=>(i:Int))]) (λ_=>[]) (λi=>i<=a.length/\∀(j:Nat) (x y:Bool),j < i->a[j]?=some x->b[j]?=some y->x=y) (λi=>a.length - i) 0 (by exact aM) (by exact aM) ⟨cg _,λj x y h=>absurd h (qf _)⟩ ?_
 intro i hi
 obtain ⟨hi,si⟩:i<=a.length/\∀(j:Nat) (x y:Bool),j < i->a[j]?=some x->b[j]?=some y->x=y:=hi
 have h0:=n0 i
 have h1:=dC (i:=i) (by omega)
 have Cb:i < a.length->i < b.length:=λh=>by omega
 cbv
 refine ⟨λh=>?_,λh=>?_⟩
 ·have bM:i < a.length:=aH
  have bZ:a.length - (i+1) < a.length - i:=by omega
  refine (bO bM).elim λx hx=>?_
  refine (bO (Cb bM)).elim λy hy=>?_
  have B8:x=y->(i+1<=a.length/\∀(j:Nat) (u v:Bool),j < i+1->a[j]?=some u->b[j]?=some v->u=v)/\a.length - (i+1) < a.length - i:=λq=>⟨⟨bM,λj u v hj hu hv=>by
   rcases ov j i with h|h
   ·exact si j u v h hu hv
   ·have:j=i:=by omega
    subst this
    rw [hx] at hu;rw [hy] at hv;cases hu;cases hv;exact q⟩,bZ⟩
  have auK:x≠y->e=false:=λq=>dg λr=>q (by rw [r,hy] at hx;exact (wq hx).symm)
  clear h
  cbv
  refine ⟨x,⟨h0,hx⟩,?_⟩
  cbv
  refine ⟨y,⟨h0,hy⟩,?_⟩
  cbv
  refine ⟨λh=>?_,λh=>?_⟩
  ·have bW:x≠y:=by have:=h.out;simpa using this
   have e1:=auK bW
   clear h
   cbv
   exact ⟨by have eK:=e1.symm;exact bX⟩
  ·have bW:x=y:=by have:=h.out;simpa using this
   have hq:=B8 bW
   clear h
   cbv
   exact ⟨i+1,by have bH:=h1;exact bh,by exact aM,⟨hq⟩⟩
 ·have bM:¬i < a.length:=aH
  have e1:e=true:=he.2 (qO λj=>by
   rcases ov j a.length with h|h
   ·obtain ⟨u,hu⟩:=bO h
    obtain ⟨v,hv⟩:=bO (l:=b) (i:=j) (by omega)
    rw [hu,hv,si j u v (by omega) hu hv]
   ·rw [nF h,nF (by omega)])
  clear h
  cbv
  exact ⟨by have eK:=e1.symm;exact bX⟩
structure arb where
 z:fO
 k:Cn
 d:Int
 y:fO
@[reducible] noncomputable def afO:Vc.Spec where
 α:=arb
 args x:=[.agg (s6 x.z),.agg (Va x.k),.i .i64 (λ_=>x.d)]
 pre x:=JR ⟨x.z,x.k,x.d⟩/\lR x.z x.k x.d=x.y
 res x:=.agg (s6 x.y)
theorem apw:cR (PP ()) 43 afO:=IG aoJ (Dp Tryz.func43 (by kernel_rfl)) (λa=>⟨a.z,a.k,a.d⟩) (λa=>rfl) (λa h=>h.1) (λa y h hy=>by
 have e:qC a.z a.k a.d y:=hy
 show SV.agg (s6 y)=SV.agg (s6 a.y)
 rw [e.eq,h.2]) (λa=>Gd a.y) rfl
structure Es where
 m:ej
 k:Cn
 d:Int
 mO:List Int
 ms:List (List Int)
def Hh (z:Es):List SV:=[.i .i64 (λ_=>z.m.n),.sl 3 lN (λ_=>z.m.cells),.sl 1 bP (λ_=>z.m.bj),.i .u8 (λ_=>z.k.a),.i .u8 (λ_=>z.k.b),.i .u8 (λ_=>z.k.c),.i .i64 (λ_=>z.d),.sl 1 nA (λ_=>z.mO),.sl 1 e8 (λ_=>z.ms)]
theorem abW (z:Es):cI (Hh z):=⟨trivial,λx=>(wx x).1,λx=>(df x).1,trivial,trivial,trivial,trivial,λx=>(y7 x).1,λx=>(nJ x).1,trivial⟩
structure Kv (z:Es):Prop where
 cells:z.m.cells.length<=30
 dr:z.m.bj.length<=30
 n:z.m.n<=100
 mO:z.mO.length<=40
 ms:z.ms.length<=8
 cin:∀x∈z.m.cells,x.ins.length<=10
structure arc where
 z:Es
 e:Bool
@[reducible] noncomputable def ael:Vc.Spec where
 α:=arc
 args x:=[.agg (Hh x.z)]
 pre x:=x.e=true↔Kv x.z
 res x:=.b (λ_=>x.e)
noncomputable def auL (n m:Nat):Ctx:=Qk n m [] []
theorem ac8 (n m:Nat):CB PP (auL n m):=Ug n m trivial trivial
theorem anA:cR (PP ()) 31 ael:=by
 refine et (ac8 0 0) (fo Tryz.func31) (λa=>⟨abW a.z,trivial⟩) (λa=>trivial) ?_
 rintro ⟨⟨⟨mn,mc,md⟩,⟨ka,kb,kc⟩,d,mO,ms⟩,e⟩ hx
 have hx:e=true↔Kv ⟨⟨mn,mc,md⟩,⟨ka,kb,kc⟩,d,mO,ms⟩:=hx
 have dg:¬Kv ⟨⟨mn,mc,md⟩,⟨ka,kb,kc⟩,d,mO,ms⟩->false=e:=λh=>by cases e with|false=>rfl|true=>exact absurd (hx.1 rfl) h
 refine ⟨?_⟩
 cbv
 refine ⟨λh=>?_,λh=>?_⟩
 ·have c1:30 < mc.length:=aH
  have e1:=dg λq=>by have:=q.cells;simp only at this;omega
  clear h
  cbv
  exact ⟨by have eK:=e1;exact bX⟩
 have c1:¬30 < mc.length:=aH
 clear h
 cbv
 refine ⟨λh=>?_,λh=>?_⟩
 ·have c2:30 < md.length:=aH
  have e1:=dg λq=>by have:=q.dr;simp only at this;omega
  clear h
  cbv
  exact ⟨by have eK:=e1;exact bX⟩
 have c2:¬30 < md.length:=aH
 clear h
 cbv
 refine ⟨λh=>?_,λh=>?_⟩
 ·have c3:100 < mn:=aH
  have e1:=dg λq=>by have:=q.n;simp only at this;omega
  clear h
  cbv
  exact ⟨by have eK:=e1;exact bX⟩
 have c3:¬100 < mn:=aH
 clear h
 cbv
 refine ⟨λh=>?_,λh=>?_⟩
 ·have c4:40 < mO.length:=aH
  have e1:=dg λq=>by have:=q.mO;simp only at this;omega
  clear h
  cbv
  exact ⟨by have eK:=e1;exact bX⟩
 have c4:¬40 < mO.length:=aH
 clear h
 cbv
 refine ⟨λh=>?_,λh=>?_⟩
 ·have c5:8 < ms.length:=aH
  have e1:=dg λq=>by have:=q.ms;simp only at this;omega
  clear h
  cbv
  exact ⟨by have eK:=e1;exact bX⟩
 have c5:¬8 < ms.length:=aH
 clear h
 cbv
 refine Sat.dq (ac8 0 0) 1 3 [] (λi:Nat=>[(3,.i .i64 λ_=>(i:Int))]) (λ_=>[]) (λi=>i<=mc.length/\∀(j:Nat) (x:Cell),j < i->mc[j]?=some x->x.ins.length<=10) (λi=>mc.length - i) 0 (by exact aM) (by exact aM) ⟨cg _,λj x h=>absurd h (qf _)⟩ ?_
 intro i hi
 obtain ⟨hi,hj⟩:i<=mc.length/\∀(j:Nat) (x:Cell),j < i->mc[j]?=some x->x.ins.length<=10:=hi
 have h0:=n0 i
 have h1:=dC (i:=i) (by omega)
 cbv
 refine ⟨λh=>?_,λh=>?_⟩
 ·have bM:i < mc.length:=aH
  have bZ:mc.length - (i+1) < mc.length - i:=by omega
  refine (bO bM).elim λx=>?_
  refine x.casesOn λxi xt xr rY=>?_
  have gy:xi.length<=10->(i+1<=mc.length/\∀(j:Nat) (x:Cell),j < i+1->mc[j]?=some x->x.ins.length<=10)/\mc.length - (i+1) < mc.length - i:=λq=>⟨⟨bM,λj x wZ jK=>by
   rcases ov j i with h|h
   ·exact hj j x h jK
   ·have:j=i:=by omega
    subst this
    rw [rY] at jK;cases jK;exact q⟩,bZ⟩
  have pM:10 < xi.length->false=e:=λq=>dg λp=>by have:=p.cin _ (cB rY);simp only at this;omega
  clear h
  cbv
  refine ⟨⟨xi,xt,xr⟩,⟨h0,rY⟩,?_⟩
  cbv
  refine ⟨λh=>?_,λh=>?_⟩
  ·have c6:10 < xi.length:=aH
   have e1:=pM c6
   clear h
   cbv
   exact ⟨by have eK:=e1;exact bX⟩
  ·have c6:¬10 < xi.length:=aH
   have q:=gy (by omega)
   clear h
   cbv
   exact ⟨i+1,by have bH:=h1;exact bh,by exact aM,⟨q⟩⟩
 ·have bM:¬i < mc.length:=aH
  have e1:true=e:=(hx.2 ⟨by show mc.length<=30;omega,by show md.length<=30;omega,by show mn<=100;omega,by show mO.length<=40;omega,by show ms.length<=8;omega,λx jK=>by
   obtain ⟨j,wZ⟩:=nG jK
   exact hj j x (by have:=(bt.1 wZ).1;simp only at this;omega) wZ⟩).symm
  clear h
  cbv
  exact ⟨by have eK:=e1;exact bX⟩
structure ElF (n:Net) (inn:List Bool) (ms:List (List Int)) (want:List Bool) (y:fO) (e:Int):Prop where
 ck:G5 n y.m y.c e
 or:e=0\/e=260
 n:e=0->y.m.n=inn.length
 v:e=0->Vn y.m
 ev:e=0->Pn y.m inn ms
 out:e=0->OE ⟨y.m,iA ms inn y.m.cells,want⟩
theorem elF {n:Net} (G:ca n.ins.length n.aT) (jZ:n.bj.length<=1000000) {inn:List Bool} (hi:inn.length=n.ins.length) (ms:List (List Int)) {y:fO} (hf:sP y):∃e,ElF n inn ms (n.bj.map (eE (kH ms inn n.aT))) y e/\(mA n.ins.length n.aT n.bj y.m y.c=true->e=0):=by
 refine ⟨wS (mA n.ins.length n.aT n.bj y.m y.c),?_,λh=>by rw [h];rfl⟩
 have hb:wS (mA n.ins.length n.aT n.bj y.m y.c)=0->mA n.ins.length n.aT n.bj y.m y.c=true:=λh=>by
  cases hc:mA n.ins.length n.aT n.bj y.m y.c with
  | true=>rfl
  | false=>rw [hc] at h;exact absurd h (by decide)
 refine ⟨⟨G,jZ,hf.m.cells,hf.m.cin,hf.l.2,rfl⟩,by cases mA n.ins.length n.aT n.bj y.m y.c;exact .inr rfl;exact .inl rfl,λh=>?_,λh=>?_,λh=>?_,λh=>?_⟩
 ·rw [(C2 (hb h)).n,hi]
 ·exact ⟨(Dr G (C2 (hb h))).1,hf.m⟩
 ·exact ⟨(Dr G (C2 (hb h))).1,by rw [(C2 (hb h)).n,hi]⟩
 ·have K:=C2 (hb h)
  have Vl:=(Dr G K).1
  have G':=G
  rw [<-hi] at G' K
  refine ⟨by show y.m.bj.length<=_;rw [K.dl];exact jZ,λd hd=>?_,anv G' K⟩
  have h1:=Vl.dr d hd
  have h2:=SI (ms:=ms) (inn:=inn) (C:=y.m.cells) (i:=y.m.cells.length) (fq _)
  rw [AQ] at h2
  have h3:=K.n
  show 0<=d/\d.toNat < (iA ms inn y.m.cells).length
  rw [h2]
  omega
theorem abX {n:Net} (G:ca n.ins.length n.aT) (jZ:n.bj.length<=1000000) {m:ej} {c:k9} (h:mA n.ins.length n.aT n.bj m c=true) (e:Int):sP ⟨m,c,e⟩/\c.root.length=m.cells.length/\c.leaves.length=m.cells.length:=by
 have K:=C2 h
 have V:=(Dr G K).1
 have F:=abI V (by rw [K.dl];exact jZ)
 refine ⟨⟨F,?_,?_,λl hl=>?_⟩,K.rl,K.ll⟩
 ·show c.root.length<=_;rw [K.rl];have:=F.cells;omega
 ·show c.leaves.length<=_;rw [K.ll];exact F.cells
 ·obtain ⟨i,hi,rfl⟩:=FE.1 hl
  have jD:i < m.cells.length:=by rw [<-K.ll];exact hi
  obtain ⟨x,hx⟩:=bO jD
  obtain ⟨r,hr⟩:=bO (l:=c.root) (i:=i) (by rw [K.rl];exact jD)
  obtain ⟨_,_,Fc⟩:=Km G K hx hr (eI hi)
  have h1:=F.cin x (cB hx)
  rw [Fc.ins,iR] at h1
  exact h1
end Go.Proofs.Pk
