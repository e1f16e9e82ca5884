import Derived.Test.YthnhbemmlfaihaaGreatU7
import Derived.Test.YthnhbemmlfaihaaGreatU9
set_option linter.unusedVariables false
set_option linter.unusedSimpArgs false
set_option maxRecDepth 10000
set_option maxHeartbeats 64000000
namespace Go.Proofs.Pk
open Go Go.Vc
structure nK (A:Type) where
 a:List A
 b:List A
open Classical in
noncomputable def jL {A:Type} (a b:List A):Bool:=decide (a=b)
theorem sY {A:Type} {a b:List A}:jL a b=true↔a=b:=by simp [jL]
theorem ED {A:Type} {a b:List A} (h:a≠b):jL a b=false:=by simp [jL,h]
theorem Kt {A:Type} {a b:List A} {i:Nat} {x y:A} (hx:a[i]?=some x) (hy:b[i]?=some y) (h:x≠y):jL a b=false:=ED λe=>by
 rw [e,hy] at hx;exact h (vV hx).symm
theorem Kd {A:Type} {a b:List A} (hl:a.length=b.length) (h:∀(i:Nat) (x y:A),a[i]?=some x->b[i]?=some y->x=y):jL a b=true:=sY.2 (by
 apply List.ext_getElem hl
 intro i h1 h2
 exact h i _ _ (eo h1) (eo h2))
@[reducible] noncomputable def VP:Vc.Spec where
 α:=nK Int
 args x:=[.sl 1 bM (λ_=>x.a),.sl 1 bM (λ_=>x.b)]
 pre x:=x.a.length<=1000000000000/\x.b.length<=1000000000000
 res x:=.b (λ_=>jL x.a x.b)
theorem adW:cZ (PP ()) 180 VP:=by
 refine dT (iQ 0 0) (fo Tryz.func180) (λa=>⟨(λx=>(cQ x).1),(λx=>(cQ x).1),trivial⟩) (λa=>trivial) ?_
 rintro ⟨a,b⟩ hx
 obtain ⟨ha,hb⟩:a.length<=1000000000000/\b.length<=1000000000000:=hx
 refine ⟨?_⟩
 cbv
 refine ⟨λh=>?_,λh=>?_⟩
 ·have j7:a.length≠b.length:=by have:=h.out;simp [aV] at this;exact aT
  have e:jL a b=false:=ED λe=>j7 (by rw [e])
  cbv
  exact ⟨.bc e.symm⟩
 ·have j7:a.length=b.length:=by have:=h.out;simp [aV] at this;exact aT
  cbv
  refine Sat.cf (iQ 0 0) 0 5 [] (λi:Nat=>[(5,.i .i64 λ_=>(i:Int))]) (λ_=>[]) (λi=>i<=a.length/\∀(j:Nat) (x y:Int),j < i->a[j]?=some x->b[j]?=some y->x=y) (λi=>a.length - i) 0 (by exact ao) (by exact ao) ⟨by simp,λj x y h=>by omega⟩ ?_
  rintro i ⟨hi,he⟩
  have h0:=n0 i
  have h1:=cq (i:=i) (by omega)
  cbv
  refine ⟨λh=>?_,λh=>?_⟩
  ·(have h:=h.out;simp (disch:=exact aT) only [hS] at h)
   have aR:i < a.length:=by exact aT
   have bh:a.length - (i+1) < a.length - i:=by omega
   obtain ⟨x,hx⟩:=bD aR
   obtain ⟨y,hy⟩:=bD (l:=b) (i:=i) (by omega)
   cbv
   refine ⟨x,⟨h0,hx⟩,?_⟩
   cbv
   refine ⟨y,⟨h0,hy⟩,?_⟩
   cbv
   refine ⟨λh=>?_,λh=>?_⟩
   ·have cO:x≠y:=by have:=h.out;simpa [aV] using this
    have e:=Kt hx hy cO
    cbv
    exact ⟨.bc e.symm⟩
   ·have cO:x=y:=by have:=h.out;simpa [aV] using this
    cbv
    exact ⟨i+1,by have bg:=h1;exact bJ,by exact ao,⟨⟨aR,λj u v hj hu hv=>by
     by_cases nO:j=i
     ·subst nO;rw [hx] at hu;rw [hy] at hv;cases hu;cases hv;exact cO
     ·exact he j u v (by omega) hu hv⟩,bh⟩⟩
  ·(have h:=h.out;simp (disch:=exact aT) only [hS] at h)
   have b9:i=a.length:=by exact aT
   have e:jL a b=true:=Kd j7 λj x y hx hy=>he j x y (by have:=(bW.1 hx).1;omega) hx hy
   cbv
   exact ⟨.bc e.symm⟩
@[reducible] noncomputable def adX:Vc.Spec where
 α:=nK Int
 args x:=[.sl 1 mE (λ_=>x.a),.sl 1 mE (λ_=>x.b)]
 pre x:=x.a.length<=1000000000000/\x.b.length<=1000000000000
 res x:=.b (λ_=>jL x.a x.b)
theorem ann:cZ (PP ()) 66 adX:=by
 refine dT (iQ 0 0) (fo Tryz.func66) (λa=>⟨(λx=>(OP x).1),(λx=>(OP x).1),trivial⟩) (λa=>trivial) ?_
 rintro ⟨a,b⟩ hx
 obtain ⟨ha,hb⟩:a.length<=1000000000000/\b.length<=1000000000000:=hx
 refine ⟨?_⟩
 cbv
 refine ⟨λh=>?_,λh=>?_⟩
 ·have j7:a.length≠b.length:=by have:=h.out;simp [aV] at this;exact aT
  have e:jL a b=false:=ED λe=>j7 (by rw [e])
  cbv
  exact ⟨.bc e.symm⟩
 ·have j7:a.length=b.length:=by have:=h.out;simp [aV] at this;exact aT
  cbv
  refine Sat.cf (iQ 0 0) 0 5 [] (λi:Nat=>[(5,.i .i64 λ_=>(i:Int))]) (λ_=>[]) (λi=>i<=a.length/\∀(j:Nat) (x y:Int),j < i->a[j]?=some x->b[j]?=some y->x=y) (λi=>a.length - i) 0 (by exact ao) (by exact ao) ⟨by simp,λj x y h=>by omega⟩ ?_
  rintro i ⟨hi,he⟩
  have h0:=n0 i
  have h1:=cq (i:=i) (by omega)
  cbv
  refine ⟨λh=>?_,λh=>?_⟩
  ·(have h:=h.out;simp (disch:=exact aT) only [hS] at h)
   have aR:i < a.length:=by exact aT
   have bh:a.length - (i+1) < a.length - i:=by omega
   obtain ⟨x,hx⟩:=bD aR
   obtain ⟨y,hy⟩:=bD (l:=b) (i:=i) (by omega)
   cbv
   refine ⟨x,⟨h0,hx⟩,?_⟩
   cbv
   refine ⟨y,⟨h0,hy⟩,?_⟩
   cbv
   refine ⟨λh=>?_,λh=>?_⟩
   ·have cO:x≠y:=by have:=h.out;simpa [aV] using this
    have e:=Kt hx hy cO
    cbv
    exact ⟨.bc e.symm⟩
   ·have cO:x=y:=by have:=h.out;simpa [aV] using this
    cbv
    exact ⟨i+1,by have bg:=h1;exact bJ,by exact ao,⟨⟨aR,λj u v hj hu hv=>by
     by_cases nO:j=i
     ·subst nO;rw [hx] at hu;rw [hy] at hv;cases hu;cases hv;exact cO
     ·exact he j u v (by omega) hu hv⟩,bh⟩⟩
  ·(have h:=h.out;simp (disch:=exact aT) only [hS] at h)
   have b9:i=a.length:=by exact aT
   have e:jL a b=true:=Kd j7 λj x y hx hy=>he j x y (by have:=(bW.1 hx).1;omega) hx hy
   cbv
   exact ⟨.bc e.symm⟩
@[reducible] noncomputable def aeS:Vc.Spec where
 α:=nK bU
 args x:=[.sl 3 dm (λ_=>x.a),.sl 3 dm (λ_=>x.b)]
 pre x:=x.a.length<=1000000000000/\x.b.length<=1000000000000
 res x:=.b (λ_=>jL x.a x.b)
theorem aok:cZ (PP ()) 217 aeS:=by
 refine dT (iQ 0 0) (fo Tryz.func217) (λa=>⟨(λx=>(gS x).1),(λx=>(gS x).1),trivial⟩) (λa=>trivial) ?_
 rintro ⟨a,b⟩ hx
 obtain ⟨ha,hb⟩:a.length<=1000000000000/\b.length<=1000000000000:=hx
 refine ⟨?_⟩
 cbv
 refine ⟨λh=>?_,λh=>?_⟩
 ·have j7:a.length≠b.length:=by have:=h.out;simp [aV] at this;exact aT
  have e:jL a b=false:=ED λe=>j7 (by rw [e])
  cbv
  exact ⟨.bc e.symm⟩
 ·have j7:a.length=b.length:=by have:=h.out;simp [aV] at this;exact aT
  cbv
  refine Sat.cf (iQ 0 0) 0 5 [] (λi:Nat=>[(5,.i .i64 λ_=>(i:Int))]) (λ_=>[]) (λi=>i<=a.length/\∀(j:Nat) (x y:bU),j < i->a[j]?=some x->b[j]?=some y->x=y) (λi=>a.length - i) 0 (by exact ao) (by exact ao) ⟨by simp,λj x y h=>by omega⟩ ?_
  rintro i ⟨hi,he⟩
  have h0:=n0 i
  have h1:=cq (i:=i) (by omega)
  cbv
  refine ⟨λh=>?_,λh=>?_⟩
  ·(have h:=h.out;simp (disch:=exact aT) only [hS] at h)
   have aR:i < a.length:=by exact aT
   have bh:a.length - (i+1) < a.length - i:=by omega
   obtain ⟨x,hx⟩:=bD aR
   obtain ⟨y,hy⟩:=bD (l:=b) (i:=i) (by omega)
   cbv
   refine ⟨x,⟨h0,hx⟩,?_⟩
   cbv
   refine ⟨y,⟨h0,hy⟩,?_⟩
   cbv
   refine ⟨λh=>?_,λh=>?_⟩
   ·have cO:x≠y:=by rintro rfl;have:=h.out;simp [aV] at this
    have e:=Kt hx hy cO
    cbv
    exact ⟨.bc e.symm⟩
   ·have cO:x=y:=by have:=h.out;simp [aV] at this;cases x;cases y;simp at this ⊢;omega
    cbv
    exact ⟨i+1,by have bg:=h1;exact bJ,by exact ao,⟨⟨aR,λj u v hj hu hv=>by
     by_cases nO:j=i
     ·subst nO;rw [hx] at hu;rw [hy] at hv;cases hu;cases hv;exact cO
     ·exact he j u v (by omega) hu hv⟩,bh⟩⟩
  ·(have h:=h.out;simp (disch:=exact aT) only [hS] at h)
   have b9:i=a.length:=by exact aT
   have e:jL a b=true:=Kd j7 λj x y hx hy=>he j x y (by have:=(bW.1 hx).1;omega) hx hy
   cbv
   exact ⟨.bc e.symm⟩
theorem SW {α:Type} {f:α->α} {l:List α} {i j:Nat}:(l.modify i f)[j]?=if i=j then (l[j]?).map f else l[j]?:=by
 rw [S8]
 split
 ·rename_i h;subst h;simp
 ·simp
theorem al2 {ins:List bU} {nc:Nat} {k:PK} (h:oO ins nc k) {s:Source} (hs:pZ ins k.parts.length s) {code:Int} (h0:0<=code) (h1:code<=255) (hf:k.bL code=none) :
  oO ins nc (j4 k s code)/\(j4 k s code).parts.length<=k.parts.length+1/\k.parts.length<=(j4 k s code).parts.length/\(j4 k s code).bL code≠none/\(∀c,k.bL c≠none->(j4 k s code).bL c≠none) /\
  (∀c,(j4 k s code).bL c≠none->c=code\/k.bL c≠none)/\(j4 k s code).n0=k.n0/\(j4 k s code).n1=k.n1/\(j4 k s code).cells=k.cells:=by
 have jS:∀x:Part,x.aZ=code->Pj x->(∀s∈x.ins,pZ ins k.parts.length s)->(∀s∈x.ins,s.kind≠3) ->
   oO ins nc (k.add x)/\(k.add x).parts.length<=k.parts.length+1/\k.parts.length<=(k.add x).parts.length/\(k.add x).bL code≠none/\(∀c,k.bL c≠none->(k.add x).bL c≠none) /\
   (∀c,(k.add x).bL c≠none->c=code\/k.bL c≠none)/\(k.add x).n0=k.n0/\(k.add x).n1=k.n1/\(k.add x).cells=k.cells:=by
  intro x hx hp hs hk
  have H:=h.add hp hs (a:=k.n0) (b:=k.n1) id id (λs kr e=>absurd e (hk s kr)) (λ_=>by rw [hx];exact hf)
  refine ⟨H,by simp [PK.add],by simp [PK.add],?_,λc hc=>?_,λc hc=>?_,rfl,rfl,rfl⟩
  ·simp [PK.add,hx,h0,gn]
  ·simp only [PK.add,hx,h0,if_true,gn]
   split
   ·simp
   ·exact hc
  ·simp only [PK.add,hx,h0,if_true,gn] at hc
   split at hc
   ·rename_i e;exact .inl e
   ·exact .inr hc
 unfold j4
 split
 ·rename_i hk
  have hn:s.n=0\/s.n=1:=by
   rcases hs with h|h|h|h
   ·omega
   ·omega
   ·omega
   ·exact h.2
  exact jS _ rfl ⟨by simp,by simp,by simp only;omega,by simp only [sT];rcases hn with e|e<;>rw [e]<;>decide,λh=>by simp at h⟩ (by simp) (by simp)
 ·split
  ·rename_i mQ hc
   obtain ⟨hk,hr,hg⟩:=hc
   have hn:0<=s.n/\s.n < k.parts.length:=by
    rcases hs with h|h|h|h
    ·omega
    ·omega
    ·exact h.2
    ·omega
   have aR:s.n.toNat < k.parts.length:=by omega
   have qS:k.parts[s.n.toNat]?=some k.parts[s.n.toNat]:=eo aR
   rw [iE,qS,pe] at hr hg
   have gm:∀(b:Nat) (x:Part),(AE k.parts s.n.toNat code)[b]?=some x->∃y,k.parts[b]?=some y/\x.ins=y.ins/\x.table=y.table/\x.bR=y.bR/\(b=s.n.toNat/\x.aZ=code\/b≠s.n.toNat/\x=y):=by
    intro b x hx
    unfold AE at hx
    rw [SW] at hx
    split at hx
    ·rename_i e
     cases hb:k.parts[b]? with
     | none=>rw [hb] at hx;cases hx
     | some y =>
      rw [hb] at hx
      simp at hx
      subst hx
      exact ⟨y,rfl,rfl,rfl,rfl,.inl ⟨e.symm,rfl⟩⟩
    ·rename_i e
     exact ⟨x,hx,rfl,rfl,rfl,.inr ⟨λh=>e h.symm,rfl⟩⟩
   have hlen:(AE k.parts s.n.toNat code).length=k.parts.length:=by simp [AE]
   have hold:∀c v,k.bL c=some v->c≠code:=λc v hv e=>by rw [e,hf] at hv;cases hv
   refine ⟨⟨h.nc,λu hu=>by simp only [hlen];exact h.cells u hu,λb x hx=>?_,λx hx u hu Yy=>?_,λb x hx sI=>?_,λc v oV=>?_⟩,by simp only [hlen];omega,by simp only [hlen];omega,by simp [gn],λc hc=>?_,λc hc=>?_,rfl,rfl,rfl⟩
   ·obtain ⟨y,hy,e1,e2,e3,e4⟩:=gm b x hx
    obtain ⟨p,q⟩:=h.src b y hy
    refine ⟨?_,by rw [e1];exact q⟩
    rcases e4 with ⟨rfl,e4⟩|⟨_,rfl⟩
    ·rw [qS] at hy;cases hy
     exact ⟨by rw [e1];exact p.k,by rw [e3];exact p.bR,by rw [e4];omega,by rw [e1,e2];exact p.table,λh=>by rw [e3] at h;omega⟩
    ·exact p
   ·obtain ⟨b,hb⟩:=nX hx
    obtain ⟨y,hy,e1,_⟩:=gm b x hb
    exact h.l7 y (cb hy) u (by rw [<-e1];exact hu) Yy
   ·simp only [gn]
    obtain ⟨y,hy,e1,e2,e3,e4⟩:=gm b x hx
    rcases e4 with ⟨rfl,e4⟩|⟨_,rfl⟩
    ·rw [if_pos e4];congr 1;omega
    ·have:=h.bL b x hy sI
     rw [if_neg (hold _ _ this)]
     exact this
   ·simp only [gn] at oV
    split at oV
    ·rename_i e
     cases oV
     refine ⟨s.n.toNat,by omega,{ k.parts[s.n.toNat] with aZ:=code },?_,e.symm,by omega⟩
     simp only [AE]
     rw [SW,if_pos rfl,qS]
     rfl
    ·obtain ⟨b,h2,y,h3,h4⟩:=h.back c v oV
     have cO:s.n.toNat≠b:=by
      intro e
      subst e
      rw [qS] at h3;cases h3
      omega
     refine ⟨b,h2,y,?_,h4⟩
     simp only [AE]
     rw [SW,if_neg cO]
     exact h3
   ·simp only [gn]
    split
    ·simp
    ·exact hc
   ·simp only [gn] at hc
    split at hc
    ·rename_i e;exact .inl e
    ·exact .inr hc
  ·rename_i mQ hc
   exact jS _ rfl ⟨by simp,by simp,by simp only;omega,by simp only [rA];decide,λh=>by simp at h⟩ (λu hu=>by simp at hu;subst hu;exact hs) (λu hu=>by simp at hu;subst hu;exact mQ)
theorem NS {n:Net} {m:gD} (hm:jG n m):∀(i:Nat),i<=m.cells.length ->
  oO n.ins i ((m.cells.take i).foldl (jv n.ins) ⟨[],[],false,false,λ_=>none⟩)/\(∀x∈((m.cells.take i).foldl (jv n.ins) ⟨[],[],false,false,λ_=>none⟩).parts,x.aZ=-1) /\
  ((m.cells.take i).foldl (jv n.ins) ⟨[],[],false,false,λ_=>none⟩).parts.length<=i
 | 0,_=>by
  simp only [Tm,List.foldl_nil]
  exact ⟨⟨rfl,by simp,by simp,by simp,by simp,by simp⟩,by simp,by simp⟩
 | i+1,h=>by
  obtain ⟨h1,h2,h3⟩:=NS hm i (by omega)
  have hg:m.cells[i]?=some m.cells[i]:=eo (by omega)
  rw [DT,hg]
  simp only [Option.toList_some,N5,As,List.foldl_nil]
  obtain ⟨g1,g2,g3⟩:=an6 h1 h2 (hm.cells i _ hg)
  exact ⟨g1,g2,by omega⟩
theorem ano {v w:bU} {a b:Int} (hv:mB v a b) (hw:mB w a b) (k1:v.kind=1) (k2:w.kind=1) (h:lN v=lN w):v=w:=by
 obtain ⟨_,_,h1,h2,h3⟩:=hv
 obtain ⟨_,_,g1,g2,g3⟩:=hw
 cases v;cases w
 simp only [lN] at *
 subst k1;subst k2
 simp only [bU.mk.injEq,true_and]
 omega
def qK (l:List bU):List bU:=l.filter (λw=>w.kind=1)
theorem Ot {ins:List bU} {nc:Nat}:∀(wd:List (bU × Int)) (k:PK),oO ins nc k->(wd.map (·.1)).Nodup->(∀p∈wd,mB p.1 1 10/\(p.1.kind=1->p.1.i<=31))->(∀p∈wd,0<=p.2/\p.2 < 2+ins.length+nc) ->
  (∀p∈wd,p.1.kind=1->k.bL (lN p.1)=none) ->
  oO ins nc (wd.foldl (oN ins) k)/\(wd.foldl (oN ins) k).parts.length<=k.parts.length+(qK (wd.map (·.1))).length/\(∀c,k.bL c≠none->(wd.foldl (oN ins) k).bL c≠none) /\
  (∀p∈wd,p.1.kind=1->(wd.foldl (oN ins) k).bL (lN p.1)≠none)/\(k.n0=true->(wd.foldl (oN ins) k).n0=true)/\(k.n1=true->(wd.foldl (oN ins) k).n1=true) /\
  (∀p∈wd,p.1.kind≠1->(p.2=0->(wd.foldl (oN ins) k).n0=true)/\(p.2=1->(wd.foldl (oN ins) k).n1=true))/\(wd.foldl (oN ins) k).cells=k.cells
 | [],k,h,_,_,_,_=>⟨h,by simp,by simp,by simp,by simp,by simp,by simp,rfl⟩
 | p :: r,k,h,hn,hw,hd,hf=>by
  have nq:(r.map (·.1)).Nodup:=(sd.1 (by simpa using hn)).2
  have hp:p.1∉r.map (·.1):=(sd.1 (by simpa using hn)).1
  have hs:pZ ins k.parts.length (gP ins k.cells p.2):=J0 h.cells (hd p (by simp)).1 (by rw [h.nc];exact (hd p (by simp)).2)
  have YS:=hw p (by simp)
  by_cases hk:p.1.kind=1
  ·have e:oN ins k p=j4 k (gP ins k.cells p.2) (lN p.1):=by simp [oN,hk]
   have hb:=YS.1
   have hi:=YS.2 hk
   obtain ⟨b1,b2,b3,b4,b5⟩:=hb
   obtain ⟨g1,g2,g3,g4,g5,g6,g7,g8,g9⟩:=al2 h hs (code:=lN p.1) (by unfold lN;omega) (by unfold lN;omega) (hf p (by simp) hk)
   obtain ⟨q1,q2,q3,q4,q5,q6,q7,q8⟩:=Ot r _ g1 nq (λx hx=>hw x (by simp [hx])) (λx hx=>hd x (by simp [hx])) (λx hx mq=>by
    cases ot:(j4 k (gP ins k.cells p.2) (lN p.1)).bL (lN x.1) with
    | none=>rfl
    | some v =>
     rcases g6 _ (by rw [ot];simp) with e|e
     ·have:=ano (hw x (by simp [hx])).1 YS.1 mq hk e
      exact absurd (lX.2 ⟨x,hx,this⟩) hp
     ·exact absurd (hf x (by simp [hx]) mq) e)
   simp only [As,e]
   have hl:(qK ((p :: r).map (·.1))).length=(qK (r.map (·.1))).length+1:=by simp [qK,hk]
   refine ⟨q1,by omega,λc hc=>q3 c (g5 c hc),λx hx mq=>?_,λe=>q5 (by rw [g7];exact e),λe=>q6 (by rw [g8];exact e),λx hx mq=>?_,by rw [q8,g9]⟩
   ·rcases eB.1 hx with rfl|hx
    ·exact q3 _ g4
    ·exact q4 x hx mq
   ·rcases eB.1 hx with rfl|hx
    ·exact absurd hk mq
    ·exact q7 x hx mq
  ·have e:oN ins k p={ k with n0:=k.n0||p.2 == 0,n1:=k.n1||p.2 == 1 }:=by simp [oN,hk]
   have g1:oO ins nc { k with n0:=k.n0||p.2 == 0,n1:=k.n1||p.2 == 1 } :=
    ⟨h.nc,h.cells,h.src,λx hx s hs hk=>⟨λe=>by simp [(h.l7 x hx s hs hk).1 e],λe=>by simp [(h.l7 x hx s hs hk).2 e]⟩,h.bL,h.back⟩
   obtain ⟨q1,q2,q3,q4,q5,q6,q7,q8⟩:=Ot r _ g1 nq (λx hx=>hw x (by simp [hx])) (λx hx=>hd x (by simp [hx])) (λx hx mq=>hf x (by simp [hx]) mq)
   simp only [As,e]
   have hl:(qK ((p :: r).map (·.1))).length=(qK (r.map (·.1))).length:=by simp [qK,hk]
   refine ⟨q1,by rw [hl];exact q2,q3,λx hx mq=>?_,λe=>q5 (by simp [e]),λe=>q6 (by simp [e]),λx hx mq=>?_,q8⟩
   ·rcases eB.1 hx with rfl|hx
    ·exact absurd mq hk
    ·exact q4 x hx mq
   ·rcases eB.1 hx with rfl|hx
    ·exact ⟨λe=>q5 (by simp [e]),λe=>q6 (by simp [e])⟩
    ·exact q7 x hx mq
theorem Ou {ins:List bU} {nc:Nat} {k:PK} (h:oO ins nc k) {v:Int} (hv:v=0\/v=1) (b:Bool):oO ins nc (oD k v b)/\(oD k v b).parts.length<=k.parts.length+1/\(∃e,(oD k v b).parts=k.parts++e) /\
  (oD k v b).bL=k.bL/\(oD k v b).n0=k.n0/\(oD k v b).n1=k.n1/\(oD k v b).cells=k.cells/\(b=true->(oD k v b).parts[k.parts.length]?=some ⟨[],v,-1,-1⟩):=by
 cases b with
 | false=>exact ⟨h,by simp [oD],⟨[],by simp [oD]⟩,rfl,rfl,rfl,rfl,λe=>by cases e⟩
 | true =>
  refine ⟨h.add ⟨by simp,by simp,by simp,by simp only [sT];rcases hv with e|e<;>rw [e]<;>decide,λh=>by simp at h⟩ (by simp) (a:=k.n0) (b:=k.n1) id id (by simp) (λh=>by simp at h),by simp [oD,PK.add],⟨_,rfl⟩,by simp [oD,PK.add],rfl,rfl,rfl,λ_=>by simp [oD,PK.add]⟩
def IT (no:Nat) (thr:List Int->Option Source):Nat:=((List.range no).filter λ(i:Nat)=>(thr [0,(i:Int)]).isSome).length
structure Fp (ins:List bU) (nc base:Nat) (t:TH):Prop where
 k:oO ins nc t.k
 len:t.k.parts.length<=base+IT (others ins).length t.thr
 zN:∀s∈t.ay,s.kind≠0/\pZ ins t.k.parts.length s/\(s.kind=3->(s.n=0->t.k.n0=true)/\(s.n=1->t.k.n1=true))
 thr:∀l u,t.thr l=some u->u.kind=2/\0<=u.n/\u.n < t.k.parts.length
theorem aeT (no:Nat) (thr:List Int->Option Source):IT no thr<=no:=by
 unfold IT
 refine vZ (Am _ _) (by simp)
theorem aqN {no:Nat} {thr:List Int->Option Source} {i:Nat} (hi:i < no) (hn:thr [0,(i:Int)]=none) (u:Source):IT no thr+1<=IT no (λj=>if j=[0,(i:Int)] then some u else thr j):=by
 unfold IT
 have h1:(i :: (List.range no).filter λ(i:Nat)=>(thr [0,(i:Int)]).isSome).Nodup:=by
  refine sd.2 ⟨λh=>?_,Tj.filter _⟩
  have:=(xy.1 h).2
  rw [hn] at this;cases this
 refine Ov h1 λx hx=>?_
 rcases eB.1 hx with rfl|hx
 ·exact xy.2 ⟨vW.2 hi,by simp⟩
 ·obtain ⟨g1,g2⟩:=xy.1 hx
  refine xy.2 ⟨g1,?_⟩
  simp only
  split
  ·rfl
  ·exact g2
theorem G6 {ins:List bU} {nc base:Nat}:∀(wd:List (bU × Int)) (t:TH),Fp ins nc base t->(∀p∈wd,0<=p.2/\p.2 < 2+ins.length+nc) ->
  (∀p∈wd,p.1.kind≠1->(p.2=0->t.k.n0=true)/\(p.2=1->t.k.n1=true)) ->
  Fp ins nc base (wd.foldl (nJ ins) t)/\(∃e,(wd.foldl (nJ ins) t).k.parts=t.k.parts++e)/\(wd.foldl (nJ ins) t).k.bL=t.k.bL/\(wd.foldl (nJ ins) t).k.n0=t.k.n0/\(wd.foldl (nJ ins) t).k.n1=t.k.n1 /\
  (wd.foldl (nJ ins) t).ay.length=t.ay.length+(others (wd.map (·.1))).length
 | [],t,h,_,_=>⟨h,⟨[],by simp⟩,rfl,rfl,rfl,by simp [others]⟩
 | p :: r,t,h,hd,hz=>by
  have Dk:∀q∈r,0<=q.2/\q.2 < 2+ins.length+nc:=λq hq=>hd q (by simp [hq])
  have hp:=hd p (by simp)
  have hs:pZ ins t.k.parts.length (gP ins t.k.cells p.2):=J0 h.k.cells hp.1 (by rw [h.k.nc];exact hp.2)
  simp only [As]
  by_cases hk:p.1.kind=1
  ·have e:nJ ins t p=t:=by simp [nJ,hk]
   have hl:others ((p :: r).map (·.1))=others (r.map (·.1)):=by simp [others,hk]
   rw [e,hl]
   exact G6 r t h Dk λq hq=>hz q (by simp [hq])
  ·have hl:(others ((p :: r).map (·.1))).length=(others (r.map (·.1))).length+1:=by simp [others,hk]
   have RH:=hz p (by simp) hk
   rw [hl]
   generalize uw:gP ins t.k.cells p.2=s at hs
   by_cases h0:s.kind=0
   ·have hn:0<=s.n/\s.n < (others ins).length:=by
     rcases hs with g|g|g|g
     ·exact g.2
     ·omega
     ·omega
     ·omega
    have hsk:A0 s=[0,(s.n.toNat:Int)]:=by
     unfold A0;rw [h0]
     congr 2;omega
    cases ht:t.thr (A0 s) with
    | some u =>
     have e:nJ ins t p={ t with ay:=t.ay++[u] }:=by simp [nJ,hk,uw,h0,ht]
     have hu:=h.thr _ _ ht
     rw [e]
     have H:Fp ins nc base { t with ay:=t.ay++[u] }:=by
      refine ⟨h.k,h.len,λx hx=>?_,h.thr⟩
      rcases eP.1 hx with hx|hx
      ·exact h.zN x hx
      ·simp at hx;subst hx
       exact ⟨by omega,.inr (.inr (.inl hu)),λe=>by omega⟩
     obtain ⟨g1,g2,g3,g4,g5,g6⟩:=G6 r _ H Dk λq hq=>hz q (by simp [hq])
     exact ⟨g1,g2,g3,g4,g5,by rw [g6];simp;omega⟩
    | none =>
     have e:nJ ins t p={ k:=t.k.add ⟨[s],2,-1,-1⟩,ay:=t.ay++[t.k.here],thr:=λj=>if j=A0 s then some t.k.here else t.thr j }:=by simp [nJ,hk,uw,h0,ht]
     rw [e]
     have C4:(t.k.add ⟨[s],2,-1,-1⟩).parts.length=t.k.parts.length+1:=by simp [PK.add]
     have H:Fp ins nc base { k:=t.k.add ⟨[s],2,-1,-1⟩,ay:=t.ay++[t.k.here],thr:=λj=>if j=A0 s then some t.k.here else t.thr j }:=by
      refine ⟨h.k.add ⟨by simp,by simp,by simp,by simp only [rA];decide,λh=>by simp at h⟩ (by simpa using hs) (a:=t.k.n0) (b:=t.k.n1) id id (λu hu e=>by simp at hu;subst hu;omega) (λh=>by simp at h),?_,λx hx=>?_,λl u RI=>?_⟩
      ·simp only [C4]
       have:=aqN (no:=(others ins).length) (thr:=t.thr) (i:=s.n.toNat) (by omega) (by rw [<-hsk];exact ht) t.k.here
       rw [hsk]
       have:=h.len
       omega
      ·simp only [C4]
       rcases eP.1 hx with hx|hx
       ·obtain ⟨y1,y2,y3⟩:=h.zN x hx
        exact ⟨y1,y2.mono (by omega),y3⟩
       ·simp at hx;subst hx
        exact ⟨by simp [PK.here],.inr (.inr (.inl ⟨rfl,by simp [PK.here],by simp [PK.here];omega⟩)),λe=>by simp [PK.here] at e⟩
      ·simp only [C4]
       simp only at RI
       split at RI
       ·cases RI
        exact ⟨rfl,by simp [PK.here],by simp [PK.here];omega⟩
       ·have:=h.thr l u RI
        exact ⟨this.1,this.2.1,by omega⟩
     obtain ⟨g1,⟨e2,g2⟩,g3,g4,g5,g6⟩:=G6 r _ H Dk λq hq=>hz q (by simp [hq])
     exact ⟨g1,⟨⟨[s],2,-1,-1⟩ :: e2,by rw [g2];simp [PK.add]⟩,by rw [g3];simp [PK.add],g4,g5,by rw [g6];simp;omega⟩
   ·have e:nJ ins t p={ t with ay:=t.ay++[s] }:=by simp [nJ,hk,uw,h0]
    rw [e]
    have H:Fp ins nc base { t with ay:=t.ay++[s] }:=by
     refine ⟨h.k,h.len,λx hx=>?_,h.thr⟩
     rcases eP.1 hx with hx|hx
     ·exact h.zN x hx
     ·simp at hx;subst hx
      refine ⟨h0,hs,λh3=>?_⟩
      have:x.n=p.2:=by
       rw [<-uw] at h3 ⊢
       unfold gP at h3 ⊢
       split at h3
       ·rename_i aR;rw [if_pos aR]
       ·exfalso
        rename_i aR
        split at h3
        ·simp only at h3
         split at h3<;>simp at h3
        ·rename_i b9
         have wC:(p.2 - 2 - ins.length).toNat < t.k.cells.length:=by rw [h.k.nc];omega
         rw [iE,eo wC,pe] at h3
         have:=h.k.cells _ (GJ wC)
         omega
      rw [this]
      exact RH
    obtain ⟨g1,g2,g3,g4,g5,g6⟩:=G6 r _ H Dk λq hq=>hz q (by simp [hq])
    exact ⟨g1,g2,g3,g4,g5,by rw [g6];simp;omega⟩
theorem acK {n:Nat} {v:Int} (h:0<=v):(cS n (n+2*v):Int)=v/\¬gk n (n+2*v):=by
 unfold cS gk;omega
theorem apu {n:Nat} {v:Int} (h:0<=v):(cS n (n+2*v+1):Int)=v/\gk n (n+2*v+1):=by
 unfold cS gk;omega
theorem aeU {n:Net} {m:gD} (hm:jG n m):(n.outs.zip m.ay).map (·.1)=n.outs:=by
 rw [List.map_fst_zip];rw [hm.p8];exact cR _
theorem acL {n:Net} (hn:eX n):(qK n.outs).length+(others n.ins).length<=n.ins.length:=by
 have h1:(qK n.outs).length<=(qK n.ins).length:=by
  refine Ov (hn.Lh.filter _) λw hw=>?_
  obtain ⟨a,b⟩:=xy.1 hw
  have b:w.kind=1:=by simpa using b
  exact xy.2 ⟨(hn.aM w b).2 a,by simpa using b⟩
 have h2:∀l:List bU,(qK l).length+(others l).length=l.length:=by
  intro l
  induction l with
  | nil=>rfl
  | cons x r ih =>
   by_cases hx:x.kind=1
   ·simp [qK,others,hx] at ih ⊢;omega
   ·simp [qK,others,hx] at ih ⊢;omega
 have:=h2 n.ins
 omega
structure Vh (n:Net) (nc:Nat) (d:Lj):Prop where
 k:oO n.ins nc d.t.k
 len:d.t.k.parts.length<=600
 bL:∀w∈n.ins,w.kind=1->d.t.k.bL (lN w)≠none
 c0:d.t.k.n0=true->∃b:Nat,d.c0=b/\d.t.k.parts[b]?=some ⟨[],0,-1,-1⟩
 c1:d.t.k.n1=true->∃b:Nat,d.c1=b/\d.t.k.parts[b]?=some ⟨[],1,-1,-1⟩
 zN:∀s∈d.t.ay,s.kind≠0/\pZ n.ins d.t.k.parts.length s/\(s.kind=3->(s.n=0->d.t.k.n0=true)/\(s.n=1->d.t.k.n1=true))
 p8:d.t.ay.length=(others n.outs).length
theorem acM {n:Net} {m:gD} (hn:eX n) (hm:jG n m):Vh n m.cells.length (oH n m):=by
 unfold oH
 obtain ⟨a1,a2,a3⟩:=NS hm m.cells.length (cR _)
 rw [lK] at a1 a2 a3
 simp only
 generalize eT:m.cells.foldl (jv n.ins) ⟨[],[],false,false,λ_=>none⟩=k1 at a1 a2 a3
 have Dq:=aeU hm
 have eV:∀p∈n.outs.zip m.ay,p.1∈n.outs/\p.2∈m.ay:=λp hp=>List.of_mem_zip hp
 have nw:∀p∈n.outs.zip m.ay,0<=p.2/\p.2 < 2+n.ins.length+m.cells.length:=λp hp=>hm.ay _ (eV p hp).2
 have mR:∀c,k1.bL c=none:=by
  intro c
  cases hc:k1.bL c with
  | none=>rfl
  | some v =>
   obtain ⟨b,_,x,hx,hr,h0⟩:=a1.back c v hc
   have:=a2 x (cb hx)
   omega
 obtain ⟨b1,b2,b3,b4,b5,b6,b7,b8⟩:=Ot (n.outs.zip m.ay) k1 a1 (by rw [Dq];exact hn.Lh)
  (λp hp=>by
   have j8:=(eV p hp).1
   have:=hn.outs _ j8
   exact ⟨this.1,λhk=>(hn.ins _ ((hn.aM _ hk).2 j8)).2⟩)
  nw (λp hp hk=>mR _)
 rw [Dq] at b2
 generalize lP:(n.outs.zip m.ay).foldl (oN n.ins) k1=k2 at b1 b2 b3 b4 b5 b6 b7 b8
 obtain ⟨c1,c2,⟨e1,c3⟩,c4,c5,c6,c7,c8⟩:=Ou b1 (v:=0) (.inl rfl) k2.n0
 generalize mQ:oD k2 0 k2.n0=k3 at c1 c2 c3 c4 c5 c6 c7 c8
 obtain ⟨d1,d2,⟨e2,d3⟩,d4,d5,d6,d7,d8⟩:=Ou c1 (v:=1) (.inr rfl) k2.n1
 generalize RC:oD k3 1 k2.n1=k4 at d1 d2 d3 d4 d5 d6 d7 d8
 have Dr:Fp n.ins m.cells.length k4.parts.length ⟨k4,[],λ_=>none⟩:=by
  refine ⟨d1,by simp,by simp,λl u hu=>by cases hu⟩
 obtain ⟨f1,⟨e3,f2⟩,f3,f4,f5,f6⟩:=G6 (n.outs.zip m.ay) ⟨k4,[],λ_=>none⟩ Dr nw (λp hp hk=>by
  have:=b7 p hp hk
  simp only
  rw [d5,c5,d6,c6]
  exact this)
 rw [Dq] at f6
 generalize hT:(n.outs.zip m.ay).foldl (nJ n.ins) ⟨k4,[],λ_=>none⟩=T at f1 f2 f3 f4 f5 f6
 simp only at f2 f3 f4 f5 f6
 have VI:∀w∈n.ins,w.kind=1->T.k.bL (lN w)≠none:=by
  intro w hw hk
  rw [f3,d4,c4]
  have RD:=(hn.aM w hk).1 hw
  have:w∈(n.outs.zip m.ay).map (·.1):=by rw [Dq];exact RD
  obtain ⟨p,hp,rfl⟩:=lX.1 this
  exact b4 p hp hk
 refine ⟨f1.k,?_,VI,λh=>?_,λh=>?_,f1.zN,by simpa using f6⟩
 ·have g1:=f1.len
  have g2:=aeT (others n.ins).length T.thr
  have g3:=acL hn
  have g4:=hn.pF
  have g5:=hm.dK
  show T.k.parts.length<=600
  omega
 ·rw [f4,d5,c5] at h
  have:=c8 h
  refine ⟨k2.parts.length,by simp only;rw [if_pos h],?_⟩
  simp only
  rw [f2,nV,d3,nV]
  ·exact this
  ·exact (bW.1 this).1
  ·rw [d3]
   have:=(bW.1 this).1
   simp only [ib];omega
 ·rw [f5,d6,c6] at h
  have:=d8 h
  refine ⟨k3.parts.length,by simp only;rw [if_pos h],?_⟩
  simp only
  rw [f2,nV]
  ·exact this
  ·exact (bW.1 this).1
structure VQ (p:bC) (b:Nat) (s:Int):Prop where
 u:k8 p s
 r:(p.ins.length:Int)<=s->¬gk p.ins.length s->cS p.ins.length s < b\/∃y,p.blocks[cS p.ins.length s]?=some y/\y.ins=[]
theorem adY {n:Net} {m:gD} (hd:Vh n m.cells.length (oH n m)) {b:Nat} (hb:b<=(oH n m).t.k.parts.length) {s:Source} (hs:pZ n.ins b s)
  (h3:s.kind=3->(s.n=0->(oH n m).t.k.n0=true)/\(s.n=1->(oH n m).t.k.n1=true)):VQ (l9 n m) b (Qy (others n.ins).length (oH n m) s):=by
 have dP:(l9 n m).blocks.length=(oH n m).t.k.parts.length:=by simp [l9]
 have H8:(l9 n m).sigs=(others n.ins).length+2*((oH n m).t.k.parts.length:Int):=by unfold bC.sigs;rw [dP];rfl
 have bt:(l9 n m).ins.length=(others n.ins).length:=rfl
 have qS:∀(i:Nat) (x:Part),(oH n m).t.k.parts[i]?=some x->(l9 n m).blocks[i]?=some (Hm (others n.ins).length (oH n m) x):=by
  intro i x hx
  simp [l9,m7,hx]
 have ah7:∀(c:Int) (i:Nat) (v:Int),c=i->(oH n m).t.k.parts[i]?=some ⟨[],v,-1,-1⟩->VQ (l9 n m) b ((others n.ins).length+2*c):=by
  intro c i v hc hi
  have aR:=(bW.1 hi).1
  have he:=acK (n:=(others n.ins).length) (v:=c) (by omega)
  have jk:cS (others n.ins).length ((others n.ins).length+2*c)=i:=by omega
  refine ⟨⟨by omega,by rw [H8];omega,λ_ hf=>absurd hf he.2⟩,λ_ _=>.inr ?_⟩
  rw [bt,jk]
  exact ⟨_,qS i _ hi,rfl⟩
 unfold Qy
 rcases hs with ⟨k,g1,g2⟩|⟨k,w,hw,hk,hc⟩|⟨k,g1,g2⟩|⟨k,g⟩
 ·rw [if_neg (by omega),if_neg (by omega),if_neg (by omega)]
  exact ⟨⟨g1,by rw [H8];omega,λh=>by rw [bt] at h;omega⟩,λh=>by rw [bt] at h;omega⟩
 ·rw [if_pos k]
  have:=hd.bL w hw hk
  rw [<-hc] at this
  cases hv:(oH n m).t.k.bL s.n with
  | none=>exact absurd hv this
  | some v =>
   obtain ⟨i,hi,x,hx,hr,h0⟩:=hd.k.back _ _ hv
   have aR:=(bW.1 hx).1
   simp only [pe]
   have he:=apu (n:=(others n.ins).length) (v:=v) (by omega)
   have jk:cS (others n.ins).length ((others n.ins).length+2*v+1)=i:=by omega
   refine ⟨⟨by omega,by rw [H8];omega,λ_ hf=>?_⟩,λ_ hf=>absurd he.2 hf⟩
   rw [bt,jk]
   exact ⟨_,qS i _ hx,by show 0<=x.aZ;omega⟩
 ·rw [if_neg (by omega),if_pos k]
  have he:=acK (n:=(others n.ins).length) (v:=s.n) g1
  have jk:cS (others n.ins).length ((others n.ins).length+2*s.n) < b:=by omega
  refine ⟨⟨by omega,by rw [H8];omega,λ_ hf=>absurd hf he.2⟩,λ_ _=>.inl ?_⟩
  rw [bt];exact jk
 ·rw [if_neg (by omega),if_neg (by omega),if_pos k]
  rcases g with e|e
  ·rw [if_pos e]
   obtain ⟨i,hi,hx⟩:=hd.c0 ((h3 k).1 e)
   exact ah7 _ i 0 hi hx
  ·rw [if_neg (by omega)]
   obtain ⟨i,hi,hx⟩:=hd.c1 ((h3 k).2 e)
   exact ah7 _ i 1 hi hx
def HC (p:bC) (b:Nat):Nat:=match p.blocks[b]? with
 | some x=>if x.ins=[] then 0 else b+1
 | none=>0
theorem adZ {n:Net} {m:gD} (hn:eX n) (hm:jG n m):Shape (l9 n m)/\k9 (l9 n m) (HC (l9 n m)):=by
 have hd:=acM hn hm
 have dP:(l9 n m).blocks.length=(oH n m).t.k.parts.length:=by simp [l9]
 have dM:∀(b:Nat) (y:Block),(l9 n m).blocks[b]?=some y->∃x,(oH n m).t.k.parts[b]?=some x/\y=Hm (others n.ins).length (oH n m) x:=by
  intro b y hy
  simp only [l9,m7] at hy
  cases hx:(oH n m).t.k.parts[b]? with
  | none=>rw [hx] at hy;cases hy
  | some x=>rw [hx] at hy;cases hy;exact ⟨x,rfl,rfl⟩
 have qR:∀(b:Nat) (y:Block),(l9 n m).blocks[b]?=some y->yV y/\∀s∈y.ins,VQ (l9 n m) b s:=by
  intro b y hy
  obtain ⟨x,hx,rfl⟩:=dM b y hy
  obtain ⟨h1,h2⟩:=hd.k.src b x hx
  refine ⟨⟨by simpa [Hm] using h1.k,h1.bR,h1.aZ,by simpa [Hm] using h1.table,λh=>?_⟩,λs hs=>?_⟩
  ·have:=h1.read h
   exact ⟨this.1,by simpa [Hm] using this.2.1,this.2.2⟩
  ·obtain ⟨u,hu,rfl⟩:=lX.1 hs
   exact adY hd (Nat.le_of_lt (bW.1 hx).1) (h2 u hu) (hd.k.l7 x (cb hx) u hu)
 refine ⟨⟨by rw [dP];exact hd.len,?_,λs hs=>?_,λw hw=>?_,λw hw=>?_,λx hx=>?_,λx hx s hs=>?_,λi j x y hx hy h0 he=>?_⟩,λb x hx s hs b9 mR=>?_⟩
 ·have:=hd.p8
  simpa [l9] using this
 ·obtain ⟨u,hu,rfl⟩:=lX.1 hs
  have:=hd.zN u hu
  exact (adY hd (cR _) this.2.1 this.2.2).u
 ·obtain ⟨a,b⟩:=xy.1 hw
  have b:w.kind≠1:=by simpa using b
  have:=hn.ins w a
  obtain ⟨⟨c1,c2,c3⟩,_⟩:=this
  exact ⟨by omega,c2,c3⟩
 ·obtain ⟨a,b⟩:=xy.1 hw
  have b:w.kind≠1:=by simpa using b
  have:=hn.outs w a
  obtain ⟨⟨c1,c2,c3⟩,h|h⟩:=this
  ·omega
  ·exact ⟨h,c2,c3⟩
 ·obtain ⟨b,hb⟩:=nX hx
  exact (qR b x hb).1
 ·obtain ⟨b,hb⟩:=nX hx
  exact ((qR b x hb).2 s hs).u
 ·obtain ⟨u,hu,rfl⟩:=dM i x hx
  obtain ⟨v,hv,rfl⟩:=dM j y hy
  have e1:=hd.k.bL i u hu h0
  have e2:=hd.k.bL j v hv (by have:u.aZ=v.aZ:=he;show 0<=v.aZ;rw [<-this];exact h0)
  have:u.aZ=v.aZ:=he
  rw [this,e2] at e1
  simp at e1;omega
 ·have hr:=((qR b x hx).2 s hs).r b9 mR
  have hb:HC (l9 n m) b=b+1:=by
   unfold HC
   rw [hx]
   simp only
   rw [if_neg]
   intro e
   rw [e] at hs;cases hs
  rw [hb]
  rcases hr with h|⟨y,hy,he⟩
  ·generalize hg:cS (l9 n m).ins.length s=c at h
   unfold HC
   split
   ·split<;>omega
   ·omega
  ·unfold HC
   rw [hy]
   simp only
   rw [if_pos he]
   omega
def MC {A:Type} (r:Nat->Nat) (F:(Nat->A)->Nat->A):Prop:=∀f g b,(∀c,r c < r b->f c=g c)->F f b=F g b
def RJ {A:Type} (F:(Nat->A)->Nat->A) (d:A):Nat->Nat->A
 | 0,_=>d
 | n+1,b=>F (RJ F d n) b
theorem aeV {A:Type} {r:Nat->Nat} {F:(Nat->A)->Nat->A} (h:MC r F) (d:A):∀(n m b:Nat),r b < n->r b < m->RJ F d n b=RJ F d m b
 | 0,_,_,h0,_=>absurd h0 (Nat.not_lt_zero _)
 | _+1,0,_,_,h0=>absurd h0 (Nat.not_lt_zero _)
 | n+1,m+1,b,h1,h2=>h _ _ b λc hc=>aeV h d n m c (by omega) (by omega)
def RK {A:Type} (F:(Nat->A)->Nat->A) (K:Nat->A):Prop:=∀b,K b=F K b
theorem aol {A:Type} {r:Nat->Nat} {F:(Nat->A)->Nat->A} (h:MC r F) (d:A):RK F λb=>RJ F d (r b+1) b:=by
 intro b
 show F _ b=_
 exact h _ _ b λc hc=>aeV h d _ _ c hc (by omega)
noncomputable def fixF {A:Type} [Nonempty A] (F:(Nat->A)->Nat->A):Nat->A:=Classical.epsilon (RK F)
theorem acN {A:Type} [hn:Nonempty A] {r:Nat->Nat} {F:(Nat->A)->Nat->A} (h:MC r F):RK F (fixF F) :=
 Classical.epsilon_spec ⟨_,aol h (Classical.choice hn)⟩
def ah8 (h w:Int):Int:=IntKind.u64.wrap ((BitVec.ofInt 64 h ^^^ BitVec.ofInt 64 w).toNat:Nat)
def ah9 (h w:Int):Int:=IntKind.u64.wrap (ah8 h w*15485907386658061715)
def af9 (h w:Int):Int:=IntKind.u64.wrap (ah8 (ah9 h w) ((ah9 h w).fdiv (2^(min (32:Int).toNat IntKind.u64.bits)))*11562461410679940143)
theorem aga:∃f:Int->Int->Int,f=af9:=⟨_,rfl⟩
noncomputable def P8:Int->Int->Int:=Classical.choose aga
theorem acO:P8=af9:=BZ aga
noncomputable def ET (h:Int) (l:List Int):Int:=l.foldl (λh n=>P8 h (IntKind.u64.wrap n)) h
noncomputable def iP (l:List Int):Int:=P8 (ET 512970876019 l) (IntKind.u64.wrap l.length)
noncomputable def KQ (p:bC) (s:Int):Int:=let w:=p.ins.getD s.toNat ⟨0,0,0⟩;iP [2,w.kind,w.i,w.bit]
noncomputable def H9 (p:bC) (K:Nat->Int) (b:Nat):Int:=match p.blocks[b]? with
 | some x=>if 0<=x.aZ then iP [3,x.aZ] else K b
 | none=>0
noncomputable def KR (p:bC) (b:Nat):Int:=match p.blocks[b]? with
 | some x=>if 0<=x.aZ then iP [1,x.aZ] else 0
 | none=>0
instance (n:Nat) (s:Int):Decidable (gk n s):=inferInstanceAs (Decidable ((s - n) % 2=1))
noncomputable def Fq (p:bC) (K:Nat->Int) (s:Int):Int :=
 if s < p.ins.length then KQ p s else if gk p.ins.length s then KR p (cS p.ins.length s) else H9 p K (cS p.ins.length s)
noncomputable def QQ (p:bC) (K:Nat->Int) (x:Block):Int:=iP (4 :: x.table :: x.bR :: x.ins.map λs=>IntKind.i64.wrap (Fq p K s))
noncomputable def CV (p:bC) (K:Nat->Int) (b:Nat):Int:=match p.blocks[b]? with
 | some x=>if 0<=x.aZ then 0 else QQ p K x
 | none=>0
noncomputable def wJ (p:bC):Nat->Int:=fixF (CV p)
noncomputable def Fs (p:bC) (K:Nat->Int) (b:Nat):Int:=match p.blocks[b]? with
 | some x=>if 0<=x.aZ then iP [1,x.aZ] else K b
 | none=>0
noncomputable def pq (p:bC):List Int:=(List.range p.blocks.length).map (Fs p (wJ p))
theorem map_eq {α β:Type} {f g:α->β} {l:List α} (h:∀x∈l,f x=g x):l.map f=l.map g:=vS h
theorem aom {p:bC} {r:Nat->Nat} (hr:k9 p r):MC r (CV p):=by
 intro f g b h
 unfold CV
 cases hb:p.blocks[b]? with
 | none=>rfl
 | some x =>
  simp only
  split
  ·rfl
  ·unfold QQ
   congr 3
   congr 1
   refine map_eq λs hs=>?_
   congr 1
   unfold Fq
   split
   ·rfl
   ·split
    ·rfl
    ·rename_i h1 h2
     have:=hr b x hb s hs (by omega) h2
     unfold H9
     split
     ·split
      ·rfl
      ·exact h _ this
     ·rfl
def Ft (v k:Int):Bool:=Vc.aV (Vc.jd .and .i64 (v.fdiv (2^(min k.toNat IntKind.i64.bits))) 1) 1
def zp (s:jF) (r:Int):Bool:=decide (0<=r)&&decide (r / 8 < s.aM.length)&&Ft (s.aM.getD (r / 8).toNat 0) (r % 8)
def x4 (l:List Bool):Nat->Int
 | 0=>0
 | i+1=>if l.getD i false then Vc.jd .or .i64 (x4 l i) (IntKind.i64.wrap (1*2^(min ((i:Int)).toNat IntKind.i64.bits))) else x4 l i
def Ia (l:List Bool):Int:=x4 l l.length
def zc (table:Int) (l:List Bool):Bool:=if 5 < l.length then false else Ft table (Ia l)
def EU (s:jF) (bR:Int) (l:List Bool):Bool:=match s.bf[(bR / 8).toNat]? with
 | some m=>match m[(Ia l).toNat]? with
  | some v=>Ft v (bR % 8)
  | none=>false
 | none=>false
def VR (p:bC) (s:jF) (b:Nat):Bool:=match p.blocks[b]? with
 | some x=>zp s x.aZ
 | none=>false
def x5 (p:bC) (db:List Bool) (s:jF) (V:Nat->Bool) (g:Int):Bool :=
 if g < p.ins.length then db.getD g.toNat false else if gk p.ins.length g then VR p s (cS p.ins.length g) else V (cS p.ins.length g)
def Xq (p:bC) (db:List Bool) (s:jF) (V:Nat->Bool) (x:Block):Bool :=
 if x.bR < 0 then zc x.table (x.ins.map (x5 p db s V)) else EU s x.bR (x.ins.map (x5 p db s V))
def Ib (p:bC) (db:List Bool) (s:jF) (V:Nat->Bool) (b:Nat):Bool:=match p.blocks[b]? with
 | some x=>Xq p db s V x
 | none=>false
noncomputable def CW (p:bC) (db:List Bool) (s:jF):Nat->Bool:=fixF (Ib p db s)
noncomputable def zd (p:bC) (db:List Bool) (s:jF):List Bool:=(List.range (p.ins.length+2*p.blocks.length)).map λ(i:Nat)=>x5 p db s (CW p db s) i
theorem aon {p:bC} {r:Nat->Nat} (hr:k9 p r) (db:List Bool) (s:jF):MC r (Ib p db s):=by
 intro f g b h
 unfold Ib
 cases hb:p.blocks[b]? with
 | none=>rfl
 | some x =>
  have:x.ins.map (x5 p db s f)=x.ins.map (x5 p db s g):=by
   refine map_eq λu hu=>?_
   unfold x5
   split
   ·rfl
   ·split
    ·rfl
    ·rename_i h1 h2
     exact h _ (hr b x hb u hu (by omega) h2)
  simp only
  unfold Xq
  rw [this]
structure Ps where
 asi:Bool
 s:jF
 td:List Bool
 dZ:List Head
structure Ck (n:Nat) (l:List Int):Prop where
 len:l.length=n
 rng:∀x∈l,0<=x/\x < n
 nd:l.Nodup
def Bw (l:List Int) (i:Nat):Nat:=(l.getD i 0).toNat
theorem Ck.get {n:Nat} {l:List Int} (h:Ck n l) {i:Nat} (hi:i < n):l[i]?=some (Bw l i:Int)/\Bw l i < n:=by
 have hl:i < l.length:=by rw [h.len];exact hi
 have:=h.rng _ (GJ hl)
 unfold Bw
 rw [iE,eo hl,pe]
 refine ⟨?_,by omega⟩
 congr 1;omega
theorem Ck.inj {n:Nat} {l:List Int} (h:Ck n l) {i j:Nat} (hi:i < n) (hj:j < n) (e:Bw l i=Bw l j):i=j:=by
 have h1:=(h.get hi).1
 have h2:=(h.get hj).1
 rw [<-e] at h2
 have:=h.nd
 rw [JN,JP] at this
 have bt:i < l.length:=by rw [h.len];exact hi
 have er:j < l.length:=by rw [h.len];exact hj
 rw [eo bt] at h1
 rw [eo er] at h2
 cases Tb i j with
 | inl aR=>exact absurd ((vV h1).trans (vV h2).symm) (this i j bt er aR)
 | inr b9=>cases b9 with
  | inl he=>exact he
  | inr aR=>exact absurd ((vV h2).trans (vV h1).symm) (this j i er bt aR)
theorem anp {α β:Type} {f:α->β} {l:List α} (h:∀x∈l,∀y∈l,f x=f y->x=y) (hn:l.Nodup):(l.map f).Nodup:=by
 induction l with
 | nil=>simp
 | cons x r ih =>
  obtain ⟨h1,h2⟩:=sd.1 hn
  rw [mw,sd]
  refine ⟨λhm=>?_,ih (λa ha b hb=>h a (by simp [ha]) b (by simp [hb])) h2⟩
  obtain ⟨y,hy,e⟩:=lX.1 hm
  have:=h y (by simp [hy]) x (by simp) e
  subst this
  exact h1 hy
theorem Ck.perm {n:Nat} {l:List Int} (h:Ck n l):((List.range n).map (Bw l)).Perm (List.range n):=by
 have gI:((List.range n).map (Bw l)).Nodup:=anp (λi hi j hj e=>h.inj (vW.1 hi) (vW.1 hj) e) Tj
 rw [SZ gI Tj]
 intro b
 constructor
 ·intro hb
  obtain ⟨i,hi,rfl⟩:=lX.1 hb
  exact vW.2 (h.get (vW.1 hi)).2
 ·intro hb
  by_cases hm:b∈(List.range n).map (Bw l)
  ·exact hm
  ·have h1:(b :: (List.range n).map (Bw l)).Nodup:=sd.2 ⟨hm,gI⟩
   have h2:=Ov (l₂:=List.range n) h1 (λx hx=>by
    rcases eB.1 hx with rfl|hx
    ·exact hb
    ·obtain ⟨i,hi,rfl⟩:=lX.1 hx
     exact vW.2 (h.get (vW.1 hi)).2)
   simp at h2
   omega
def auX (p:bC) (l:List Int) (s:Int):Int:=if s < p.ins.length then s else p.ins.length+2*l.getD (cS p.ins.length s) 0+(s - p.ins.length) % 2
def aqO (p:bC) (l:List Int) (x:Block):Block:={ x with ins:=x.ins.map (auX p l) }
def LH:Block:=⟨[],0,0,0,0⟩
theorem anq (p:bC):(pq p).length=p.blocks.length:=by simp [pq]
theorem acP {p:bC} {i:Nat} (hi:i < p.blocks.length):(pq p)[i]?=some (Fs p (wJ p) i):=by
 unfold pq;rw [m7,Jw hi];rfl
theorem acQ {p:bC} {r:Nat->Nat} (hr:k9 p r) (db:List Bool) (st:jF):RK (Ib p db st) (CW p db st):=acN (aon hr db st)
def Ic (ks:List Int) (i:Nat) (x:Block):Block:={ x with key:=ks.getD i 0 }
def rD (p:bC) (ks:List Int):bC:={ p with blocks:=p.blocks.mapIdx (Ic ks) }
noncomputable def qM (n:Net) (m:gD):bC:=rD (l9 n m) (pq (l9 n m))
def VS (p:bC):Prop:=∀(i:Nat) (x:Block),p.blocks[i]?=some x->(pq p)[i]?=some x.key
theorem Ju {p:bC} {ks:List Int} {i:Nat} {x:Block} (h:p.blocks[i]?=some x):(rD p ks).blocks[i]?=some (Ic ks i x):=by
 unfold rD;simp only [Ap,h,vT]
theorem Gx {p:bC} {ks:List Int} {i:Nat} {y:Block} (h:(rD p ks).blocks[i]?=some y):∃x,p.blocks[i]?=some x/\y=Ic ks i x:=by
 unfold rD at h
 simp only [Ap] at h
 cases hx:p.blocks[i]? with
 | none=>rw [hx] at h;cases h
 | some x=>rw [hx] at h;cases h;exact ⟨x,rfl,rfl⟩
theorem DR (p:bC) (ks:List Int):(rD p ks).blocks.length=p.blocks.length:=by simp [rD]
theorem aax {p:bC} {ks:List Int} {s:Int} (h:k8 p s):k8 (rD p ks) s:=by
 refine ⟨h.lo,?_,λa b=>?_⟩
 ·have:=h.hi
  unfold bC.sigs at this ⊢
  rw [DR]
  exact this
 ·obtain ⟨x,hx,h0⟩:=h.flip a b
  exact ⟨_,Ju hx,h0⟩
theorem amH {p:bC} {ks:List Int} (h:Shape p):Shape (rD p ks):=by
 refine ⟨by rw [DR];exact h.dK,h.p8,λs hs=>aax (h.ay s hs),h.ins,h.outs,λy hy=>?_,λy hy s hs=>?_,λi j x y hx hy h0 he=>?_⟩
 ·obtain ⟨b,hb⟩:=nX hy
  obtain ⟨x,hx,rfl⟩:=Gx hb
  have:=h.formed x (cb hx)
  exact ⟨this.k,this.bR,this.aZ,this.table,this.read⟩
 ·obtain ⟨b,hb⟩:=nX hy
  obtain ⟨x,hx,rfl⟩:=Gx hb
  exact aax (h.used x (cb hx) s hs)
 ·obtain ⟨x',ya,rfl⟩:=Gx hx
  obtain ⟨y',FK,rfl⟩:=Gx hy
  exact h.aM i j x' y' ya FK h0 he
theorem amo {p:bC} {ks:List Int} {r:Nat->Nat} (h:k9 p r):k9 (rD p ks) r:=by
 intro b y hy s hs b9 mR
 obtain ⟨x,hx,rfl⟩:=Gx hy
 exact h b x hx s hs b9 mR
theorem amI (p:bC) (ks:List Int):pq (rD p ks)=pq p:=by
 have asj:KR (rD p ks)=KR p:=by
  funext b
  unfold KR
  cases hx:p.blocks[b]? with
  | none=>rw [nW (by rw [DR];exact JO.1 hx)]
  | some x=>rw [Ju hx];rfl
 have CA:H9 (rD p ks)=H9 p:=by
  funext K b
  unfold H9
  cases hx:p.blocks[b]? with
  | none=>rw [nW (by rw [DR];exact JO.1 hx)]
  | some x=>rw [Ju hx];rfl
 have H8:Fq (rD p ks)=Fq p:=by
  funext K s
  unfold Fq
  rw [asj,CA]
  rfl
 have hF:CV (rD p ks)=CV p:=by
  funext K b
  unfold CV
  cases hx:p.blocks[b]? with
  | none=>rw [nW (by rw [DR];exact JO.1 hx)]
  | some x =>
   rw [Ju hx]
   simp only
   unfold QQ
   rw [H8]
   rfl
 have bX:Fs (rD p ks)=Fs p:=by
  funext K b
  unfold Fs
  cases hx:p.blocks[b]? with
  | none=>rw [nW (by rw [DR];exact JO.1 hx)]
  | some x=>rw [Ju hx];rfl
 unfold pq wJ
 rw [DR,bX,hF]
theorem amJ (p:bC):VS (rD p (pq p)):=by
 intro i y hy
 obtain ⟨x,hx,rfl⟩:=Gx hy
 rw [amI]
 have hi:=(bW.1 hx).1
 show _=some ((pq p).getD i 0)
 rw [iE,acP hi]
 rfl
theorem Ue {n:Net} {m:gD} (hn:eX n) (hm:jG n m):Shape (qM n m)/\k9 (qM n m) (HC (l9 n m))/\VS (qM n m):=by
 obtain ⟨h1,h2⟩:=adZ hn hm
 exact ⟨amH h1,amo h2,amJ _⟩
def gE (p:bC):List Int:=p.blocks.map (·.key)
def xD (p:bC):Prop:=(gE p).Nodup
def Bx (p:bC) (k:Int):Nat:=(gE p).idxOf k
def oM (p q:bC) (s:Int):Int :=
 if s < q.ins.length then s else p.ins.length+2*(Bx p (q.blocks.getD (cS q.ins.length s) LH).key:Int)+(s - q.ins.length) % 2
def HD (p q:bC) (y:Block):Prop:=∃x,p.blocks[Bx p y.key]?=some x/\x.table=y.table/\x.bR=y.bR/\x.aZ=y.aZ/\x.ins=y.ins.map (oM p q)
structure EV (p q:bC):Prop where
 ins:p.ins=q.ins
 outs:p.outs=q.outs
 len:p.blocks.length=q.blocks.length
 mem:∀y∈q.blocks,y.key∈gE p
 qd:xD q
 pd:xD p
 Q7:∀y∈q.blocks,HD p q y
 ay:p.ay=q.ay.map (oM p q)
theorem TK {l:List Int} (h:l.Nodup) {i j:Nat} {k:Int} (hi:l[i]?=some k) (hj:l[j]?=some k):i=j:=by
 rw [JN,JP] at h
 obtain ⟨il,e1⟩:=bW.1 hi
 obtain ⟨jl,e2⟩:=bW.1 hj
 cases Tb i j with
 | inl aR=>exact absurd (e1.trans e2.symm) (h i j il jl aR)
 | inr b9=>cases b9 with
  | inl he=>exact he
  | inr aR=>exact absurd (e2.trans e1.symm) (h j i jl il aR)
theorem Ku {p:bC} (h:xD p) {i:Nat} {x:Block} (hx:p.blocks[i]?=some x):Bx p x.key=i:=by
 have hk:(gE p)[i]?=some x.key:=by unfold gE;rw [m7,hx];rfl
 have hm:x.key∈gE p:=cb hk
 have hi:(gE p).idxOf x.key < (gE p).length:=List.idxOf_lt_length_iff.2 hm
 have:(gE p)[(gE p).idxOf x.key]?=some x.key:=by rw [eo hi,List.getElem_idxOf]
 exact TK h this hk
theorem GU {p:bC} {i:Nat} {x:Block} (hx:p.blocks[i]?=some x):(gE p)[i]?=some x.key:=by unfold gE;rw [m7,hx];rfl
theorem abF {p:bC} (hd:xD p) {s:Int} (h0:0<=s) (h1:s < p.sigs):oM p p s=s:=by
 unfold oM
 unfold bC.sigs at h1
 split
 ·rfl
 ·have hb:cS p.ins.length s < p.blocks.length:=by unfold cS;omega
  have hx:p.blocks[cS p.ins.length s]?=some p.blocks[cS p.ins.length s]:=eo hb
  rw [iE,hx,pe,Ku hd hx]
  unfold cS;omega
theorem anr {p:bC} (hs:Shape p):EV p p↔xD p:=by
 refine ⟨λg=>g.pd,λhd=>⟨rfl,rfl,rfl,λy hy=>lX.2 ⟨y,hy,rfl⟩,hd,hd,λx hx=>?_,?_⟩⟩
 ·obtain ⟨i,hi⟩:=nX hx
  refine ⟨x,by rw [Ku hd hi];exact hi,rfl,rfl,rfl,?_⟩
  have:x.ins=x.ins.map id:=by simp
  conv=>lhs;rw [this]
  refine map_eq λs kr=>?_
  have hu:=hs.used x hx s kr
  exact (abF hd hu.lo hu.hi).symm
 ·have:p.ay=p.ay.map id:=by simp
  conv=>lhs;rw [this]
  refine map_eq λs kr=>?_
  have hu:=hs.ay s kr
  exact (abF hd hu.lo hu.hi).symm
def Pt (p q:bC):Prop :=
 q.ins=p.ins/\((q.ay=p.ay/\∃(b:Nat) (x y:Block),p.blocks[b]?=some x/\y≠x/\q.blocks=p.blocks.set b y) \/
  (q.blocks=p.blocks/\∃(i:Nat) (s t:Int),p.ay[i]?=some s/\t≠s/\q.ay=p.ay.set i t))
structure aeW (p:bC):Prop where
 ay:∀s∈p.ay,0<=s/\s < p.sigs
 used:∀x∈p.blocks,∀s∈x.ins,0<=s/\s < p.sigs
theorem ad3 {p q:bC} (hi:q.ins=p.ins) (hk:gE q=gE p) (hd:xD p) {s:Int} (h0:0<=s) (h1:s < q.sigs):oM p q s=s:=by
 unfold oM
 unfold bC.sigs at h1
 rw [hi] at h1 ⊢
 split
 ·rfl
 ·have hb:cS p.ins.length s < q.blocks.length:=by unfold cS;omega
  have hy:q.blocks[cS p.ins.length s]?=some q.blocks[cS p.ins.length s]:=eo hb
  have hlen:q.blocks.length=p.blocks.length:=by have:=congrArg List.length hk;simpa [gE] using this
  have hx:p.blocks[cS p.ins.length s]?=some p.blocks[cS p.ins.length s]:=eo (by omega)
  have e:(q.blocks[cS p.ins.length s]).key=(p.blocks[cS p.ins.length s]).key:=by
   have e1:=GU hx
   have e2:=GU hy
   rw [hk,e1] at e2
   exact (vV e2).symm
  rw [iE,hy,pe,e,Ku hd hx]
  unfold cS;omega
theorem apv {p q:bC} (h:Pt p q) (hq:aeW q):¬EV p q:=by
 intro g
 obtain ⟨hi,⟨nw,b,x,y,hx,cO,hb⟩|⟨dP,i,s,t,hs,cO,nw⟩⟩:=h
 ·have aR:=(bW.1 hx).1
  have hy:q.blocks[b]?=some y:=by rw [hb,o9 aR]
  by_cases hk:y.key=x.key
  ·have VT:gE q=gE p:=by
    unfold gE
    rw [hb,List.map_set,hk]
    have:(p.blocks.map (·.key))[b]?=some x.key:=by rw [m7,hx];rfl
    obtain ⟨hl,e⟩:=bW.1 this
    rw [<-e,List.set_getElem_self]
   obtain ⟨z,hz,e1,e2,e3,e4⟩:=g.Q7 y (cb hy)
   rw [hk,Ku g.pd hx,hx] at hz
   cases hz
   have e5:y.ins.map (oM p q)=y.ins:=by
    have:y.ins=y.ins.map id:=by simp
    conv=>rhs;rw [this]
    refine map_eq λs hs=>?_
    have hu:=hq.used y (cb hy) s hs
    exact ad3 hi VT g.pd hu.1 hu.2
   rw [e5] at e4
   refine cO ?_
   cases x;cases y
   simp only at e1 e2 e3 e4 hk
   subst e1;subst e2;subst e3;subst e4;subst hk
   rfl
  ·have hm:=g.mem y (cb hy)
   obtain ⟨j,hj⟩:=nX hm
   have er:=(bW.1 hj).1
   have er:j < p.blocks.length:=by simpa [gE] using er
   have hz:p.blocks[j]?=some p.blocks[j]:=eo er
   have hjb:j≠b:=by
    rintro rfl
    rw [GU hx] at hj
    exact hk (vV hj).symm
   have hqj:q.blocks[j]?=some p.blocks[j]:=by rw [hb,fb (Ne.symm hjb)];exact hz
   have e1:=GU hqj
   have e2:=GU hz
   rw [e2] at hj
   rw [vV hj] at e1
   exact hjb (TK g.qd e1 (GU hy))
 ·have VT:gE q=gE p:=by unfold gE;rw [dP]
  have e5:q.ay.map (oM p q)=q.ay:=by
   have:q.ay=q.ay.map id:=by simp
   conv=>rhs;rw [this]
   refine map_eq λs hs=>?_
   have hu:=hq.ay s hs
   exact ad3 hi VT g.pd hu.1 hu.2
  have e:=g.ay
  rw [e5,nw] at e
  have aR:=(bW.1 hs).1
  have:(p.ay.set i t)[i]?=some t:=o9 aR
  rw [<-e,hs] at this
  exact cO (vV this).symm
def agb (p:bC) (c d:Nat):Prop:=∃x,p.blocks[c]?=some x/\∃s∈x.ins,(p.ins.length:Int)<=s/\¬gk p.ins.length s/\cS p.ins.length s=d
def St (st:List Int) (v:Int) (c:Nat):Prop:=st[c]?=some v
theorem St.rI {st:List Int} {v u:Int} {b c:Nat} (h:c≠b):St (st.set b u) v c↔St st v c:=by
 unfold St;rw [ja];split
 ·omega
 ·exact xu
theorem St.AH {st:List Int} {v u:Int} {b:Nat} (h:b < st.length):St (st.set b u) v b↔u=v:=by
 unfold St;rw [ja];simp [h]
theorem St.lt {st:List Int} {v:Int} {c:Nat} (h:St st v c):c < st.length:=(bW.1 h).1
theorem St.uniq {st:List Int} {v u:Int} {c:Nat} (h:St st v c) (k:St st u c):v=u:=by unfold St at *;rw [h] at k;exact vV k
def lM (st:List Int):Nat:=st.countP (· == 0)
theorem abG {st:List Int} {b:Nat} {v:Int} (h:St st 0 b) (hv:v≠0):lM (st.set b v)+1=lM st:=by
 unfold lM St at *
 induction st generalizing b with
 | nil=>simp at h
 | cons x l ih =>
  cases b with
  | zero=>simp at h;subst h;simp [DW,hv]
  | succ b =>
   have:=ih (b:=b) (by simpa using h)
   simp only [GG,DW]
   omega
theorem TM {st:List Int} {b:Nat} (h:St st 0 b):0 < lM st:=by
 have:=abG h (v:=1) (by decide)
 omega
theorem amK {st:List Int} {b:Nat} {u v:Int} (h:St st u b) (hu:u≠0) (hv:v≠0):lM (st.set b v)=lM st:=by
 unfold lM St at *
 induction st generalizing b with
 | nil=>simp at h
 | cons x l ih =>
  cases b with
  | zero=>simp at h;subst h;simp [DW,hu,hv]
  | succ b =>
   have:=ih (b:=b) (by simpa using h)
   simp only [GG,DW]
   omega
def te (p:bC) (st:List Int):Prop:=∃r:Nat->Nat,∀c d,St st 2 c->agb p c d->St st 2 d/\r d < r c
theorem te.nil {p:bC} {st:List Int} (h:∀c,¬St st 2 c):te p st:=⟨λ_=>0,λc d hc=>absurd hc (h c)⟩
theorem bound {l:List Nat} (r:Nat->Nat):∃m,∀d∈l,r d < m:=by
 induction l with
 | nil=>exact ⟨0,by simp⟩
 | cons x l ih =>
  obtain ⟨m,hm⟩:=ih
  refine ⟨m+r x+1,λd hd=>?_⟩
  rcases eB.1 hd with rfl|hd
  ·omega
  ·have:=hm d hd;omega
theorem te.done {p:bC} {st:List Int} (h:te p st) {b:Nat} (hb:St st 1 b) (dM:∀d,agb p b d->St st 2 d):te p (st.set b 2):=by
 obtain ⟨r,hr⟩:=h
 have aR:=hb.lt
 obtain ⟨m,hm⟩:=bound (l:=List.range st.length) r
 refine ⟨λc=>if c=b then m else r c,λc d hc ht=>?_⟩
 by_cases gB:c=b
 ·subst gB
  have hd:=dM d ht
  have F5:d≠c:=by rintro rfl;have:=hd.uniq hb;omega
  exact ⟨(St.rI F5).2 hd,by simp only [if_neg F5,if_true];exact hm d (vW.2 hd.lt)⟩
 ·have h2:=hr c d ((St.rI gB).1 hc) ht
  have F5:d≠b:=by rintro rfl;have:=h2.1.uniq hb;omega
  exact ⟨(St.rI F5).2 h2.1,by simp only [if_neg F5,if_neg gB];exact h2.2⟩
theorem te.mark {p:bC} {st:List Int} (h:te p st) {b:Nat} (hb:St st 0 b):te p (st.set b 1):=by
 obtain ⟨r,hr⟩:=h
 have aR:=hb.lt
 refine ⟨r,λc d hc ht=>?_⟩
 have gB:c≠b:=by rintro rfl;have:=(St.AH aR).1 hc;omega
 have h2:=hr c d ((St.rI gB).1 hc) ht
 have F5:d≠b:=by rintro rfl;have:=h2.1.uniq hb;omega
 exact ⟨(St.rI F5).2 h2.1,h2.2⟩
structure xb (p:bC) (st:List Int):Prop where
 len:st.length=p.blocks.length
 val:∀c v,St st v c->v=0\/v=1\/v=2
structure pv (p:bC) (st:List Int) (b:Nat) (res:Bool) (gJ:List Int):Prop where
 w:xb p gJ
 z:lM gJ<=lM st
 one:res=true->∀c,St gJ 1 c↔St st 1 c
 two:res=true->(∀c,St st 2 c->St gJ 2 c)/\St gJ 2 b
 By:res=true->te p st->te p gJ
 rk:∀r,k9 p r->(∀c,St st 1 c->r b < r c)->res=true
theorem pv.asl {p:bC} {st:List Int} {b:Nat} (h:xb p st) (hb:St st 1 b):pv p st b false st :=
 ⟨h,cR _,by simp,by simp,by simp,λr _ h=>absurd (h b hb) (Oc _)⟩
theorem pv.CD {p:bC} {st:List Int} {b:Nat} (h:xb p st) (hb:St st 2 b):pv p st b true st :=
 ⟨h,cR _,λ_ _=>xu,λ_=>⟨λ_ h=>h,hb⟩,λ_ h=>h,λ_ _ _=>rfl⟩
structure oX (p:bC) (st:List Int) (b:Nat) (x:Block) (j:Nat) (gJ:List Int):Prop where
 le:j<=x.ins.length
 w:xb p gJ
 z:lM gJ+1<=lM st
 one:∀c,St gJ 1 c↔St st 1 c\/c=b
 two:∀c,St st 2 c->St gJ 2 c
 By:te p st->te p gJ
 ins:∀i s,i < j->x.ins[i]?=some s->(p.ins.length:Int)<=s->¬gk p.ins.length s->St gJ 2 (cS p.ins.length s)
theorem oX.start {p:bC} {st:List Int} {b:Nat} (h:xb p st) (hb:St st 0 b) (x:Block):oX p st b x 0 (st.set b 1):=by
 have aR:=hb.lt
 refine ⟨cN _,⟨by simp [h.len],λc v hc=>?_⟩,by have:=abG hb (v:=1) (by decide);omega,λc=>?_,λc hc=>?_,λha=>ha.mark hb,λi s hi=>by omega⟩
 ·by_cases gB:c=b
  ·subst gB;have:=(St.AH aR).1 hc;omega
  ·exact h.val c v ((St.rI gB).1 hc)
 ·by_cases gB:c=b
  ·subst gB;exact ⟨λ_=>.inr rfl,λ_=>(St.AH aR).2 rfl⟩
  ·rw [St.rI gB];exact ⟨.inl,λh=>h.resolve_right gB⟩
 ·have gB:c≠b:=by rintro rfl;have:=hc.uniq hb;omega
  exact (St.rI gB).2 hc
theorem oX.skip {p:bC} {st:List Int} {b:Nat} {x:Block} {j:Nat} {gJ:List Int} (h:oX p st b x j gJ) {s:Int} (hs:x.ins[j]?=some s) (hn:¬((p.ins.length:Int)<=s/\¬gk p.ins.length s)):oX p st b x (j+1) gJ :=
 ⟨(
  bW.1 hs).1,h.w,h.z,h.one,h.two,h.By,λi t hi ht h1 h2=>by
  by_cases zD:i=j
  ·subst zD;rw [hs] at ht;cases ht;exact absurd ⟨h1,h2⟩ hn
  ·exact h.ins i t (by omega) ht h1 h2⟩
theorem oX.go {p:bC} {st:List Int} {b:Nat} {x:Block} {j:Nat} {gJ gW:List Int} (h:oX p st b x j gJ) {s:Int} (hs:x.ins[j]?=some s) (hb:St st 0 b) (k:pv p gJ (cS p.ins.length s) true gW):oX p st b x (j+1) gW:=by
 refine ⟨(bW.1 hs).1,k.w,by have:=k.z;have:=h.z;omega,λc=>by rw [k.one rfl c];exact h.one c,λc hc=>(k.two rfl).1 c (h.two c hc),λha=>k.By rfl (h.By ha),λi t hi ht h1 h2=>?_⟩
 by_cases zD:i=j
 ·subst zD;rw [hs] at ht;cases ht;exact (k.two rfl).2
 ·exact (k.two rfl).1 _ (h.ins i t (by omega) ht h1 h2)
theorem oX.bad {p:bC} {st:List Int} {b:Nat} {x:Block} {j:Nat} {gJ gW:List Int} (h:oX p st b x j gJ) (hx:p.blocks[b]?=some x) {s:Int} (hs:x.ins[j]?=some s) (h1:(p.ins.length:Int)<=s) (h2:¬gk p.ins.length s) (k:pv p gJ (cS p.ins.length s) false gW):pv p st b false gW :=
 ⟨k.w,by have:=k.z;have:=h.z;omega,by simp,by simp,by simp,λr hr hc=>k.rk r hr λc lz=>by
  have aR:=hr b x hx s (cb hs) h1 h2
  rcases (h.one c).1 lz with h3|rfl
  ·have:=hc c h3;omega
  ·exact aR⟩
theorem oX.out {p:bC} {st:List Int} {b:Nat} {x:Block} {j:Nat} {gJ:List Int} (h:oX p st b x j gJ) (hx:p.blocks[b]?=some x) (hb:St st 0 b) (hj:j=x.ins.length):pv p st b true (gJ.set b 2):=by
 have h1:St gJ 1 b:=(h.one b).2 (.inr rfl)
 have aR:=h1.lt
 refine ⟨⟨by simp [h.w.len],λc v hc=>?_⟩,by have:=amK h1 (v:=2) (by decide) (by decide);have:=h.z;omega,λ_ c=>?_,λ_=>⟨λc hc=>?_,(St.AH aR).2 rfl⟩,λ_ ha=>(h.By ha).done h1 ?_,λ_ _ _=>rfl⟩
 ·by_cases gB:c=b
  ·subst gB;have:=(St.AH aR).1 hc;omega
  ·exact h.w.val c v ((St.rI gB).1 hc)
 ·by_cases gB:c=b
  ·subst gB
   exact ⟨λh=>by have:=(St.AH aR).1 h;omega,λh=>by have:=h.uniq hb;omega⟩
  ·rw [St.rI gB,h.one c];exact ⟨λh=>h.resolve_right gB,.inl⟩
 ·have gB:c≠b:=by rintro rfl;have:=hc.uniq hb;omega
  exact (St.rI gB).2 (h.two c hc)
 ·rintro d ⟨y,hy,s,hs,h3,h4,rfl⟩
  rw [hx] at hy;cases hy
  obtain ⟨i,hi,e⟩:=Ao.1 hs
  exact h.ins i s (by omega) (by rw [eo hi,e]) h3 h4
def tf:TypeId->Option TI
 | 180=>some (ti .other 1 8 .nilFunc)
 | 183=>some (ti .other 1 8 .nilFunc)
 | 187=>some (ti .other 1 8 .nilFunc)
 | 194=>some (ti .other 1 8 .nilFunc)
 | 195=>some (ti .other 1 8 .nilFunc)
 | 200=>some (ti .other 1 8 .nilFunc)
 | 268=>some (ti .other 1 8 .nilFunc)
 | 293=>some (ti (.ptr 298) 1 8 (.pointer none))
 | 299=>some (ti .other 1 8 .nilFunc)
 | 303=>some (ti .other 1 8 .nilFunc)
 | 305=>some (ti .other 1 8 .nilFunc)
 | 310=>some (ti .other 1 8 .nilFunc)
 | 313=>some (ti .other 1 8 .nilFunc)
 | 319=>some (ti (.ptr 199) 1 8 (.pointer none))
 | 360=>some (ti .other 1 8 .nilFunc)
 | 406=>some (ti .other 1 8 .nilFunc)
 | 414=>some (ti .other 1 8 .nilFunc)
 | _=>none
theorem asm:∀t i,tf t=some i->px Tryz.prog t i:=by
 intro t i h
 unfold tf at h
 split at h
 all_goals cases h
 all_goals exact tiN rfl rfl (by kernel_rfl) (by kernel_rfl)
def t2 (t:TypeId):Option TI:=match tt t with
 | some i=>some i
 | none=>tf t
theorem asn:∀t i,t2 t=some i->px Tryz.prog t i:=by
 intro t i h
 unfold t2 at h
 split at h
 ·rename_i j hj
  cases h
  exact afL t _ hj
 ·exact asm t i h
theorem aqP (n m:Nat) (X:Ctx) (h:X.tt=t2) (t:TypeId) (E:jh) (he:el n m t=some E):Kz Tryz.prog X t E:=aez (λt i h=>by unfold t2;rw [h]) n m X h t E he
@[reducible] def eu (n m:Nat) (fs:List (Nat × Func)) (sp:List (Nat × Vc.Spec)) (io lp cut row emp:List Nat:=[]):Ctx:=Ys t2 (el n m) fs sp io lp cut row emp
theorem ez (n m:Nat) {fs:List (Nat × Func)} {sp:List (Nat × Vc.Spec)} {io lp cut row emp:List Nat} (hf:C9 (λf fn=>n5 (PP ()) f fn/\pV fn=true) fs) (hs:C9 (λf S=>cZ (PP ()) f S) sp):CB PP (eu n m fs sp io lp cut row emp):=afK asn (aqP n m) mixed hf hs
def fH (p:bC):List SV:=[.sl 3 dm (λ_=>p.ins),.sl 5 ph (λ_=>p.blocks),.sl 3 dm (λ_=>p.outs),.sl 1 bM (λ_=>p.ay)]
theorem kD (p:bC):du (fH p):=⟨λx=>(gS x).1,λx=>(JJ x).1,λx=>(gS x).1,λx=>(cQ x).1,trivial⟩
structure xJ (p:bC):Prop where
 dK:p.blocks.length<=600
 ins:p.ins.length<=1000000
 used:∀x∈p.blocks,∀s∈x.ins,0<=s/\s < p.sigs
 k:∀x∈p.blocks,x.ins.length<=1000000
structure auY where
 p:bC
 st:List Int
 b:Int
structure aqQ where
 res:Bool
 st:List Int
@[reducible] noncomputable def UE (n:Nat):na where
 α:=auY
 args x:=[.i .i64 (λ_=>x.b),.ptr 0 0,.ptr 2 0,.ptr 3 0,.ptr 4 0]
 io x:=[.fix 35 [.own 1],.dyn 3 1 bM (λ_=>x.st),.fix 179 (fH x.p),.fix 180 [.fn (.func 179) [] [.ptr 0 0,.ptr 2 0,.ptr 3 0,.ptr 4 0]],.fix 187 [.fn (.func 89) [] []]]
 pre x:=xJ x.p/\xb x.p x.st/\0<=x.b/\x.b < x.p.blocks.length/\lM x.st<=n
 β:=aqQ
 post x y:=pv x.p x.st x.b.toNat y.res y.st
 mv:=[]
 res x y:=.b (λ_=>y.res)
 kx x y:=[.fix 35 [.own 1],.dyn 3 1 bM (λ_=>y.st),.fix 179 (fH x.p),.fix 180 [.fn (.func 179) [] [.ptr 0 0,.ptr 2 0,.ptr 3 0,.ptr 4 0]],.fix 187 [.fn (.func 89) [] []]]
noncomputable def auZ (n m:Nat):Ctx:=eu n m [(94,Tryz.f94),(89,Tryz.f89),(179,Tryz.f179)] [] [179]
theorem aeX (n m:Nat):CB PP (auZ n m):=ez n m ⟨fo Tryz.func94,fo Tryz.func89,fo Tryz.func179,trivial⟩ trivial
theorem aay (n:Nat) (ih:∀m,m+1=n->iM PP 179 (UE m)):iM PP 179 (UE n):=by
 refine mM (aeX 0 0) (fo Tryz.func179) (λa y=>rfl) (λa=>⟨rfl,rfl⟩) .nil ?_
 rintro ⟨⟨ins,blocks,outs,ay⟩,st,b⟩ hx
 obtain ⟨hp,cJ,ef,dP,hz⟩:xJ ⟨ins,blocks,outs,ay⟩/\xb ⟨ins,blocks,outs,ay⟩ st/\0<=b/\b < blocks.length/\lM st<=n:=hx
 have aia:st.length=blocks.length:=cJ.len
 have jk:0<=b/\b.toNat < st.length:=by omega
 obtain ⟨v,hv⟩:=bD jk.2
 refine ⟨?_⟩
 cbv
 refine ⟨⟨jk⟩,v,⟨hv,rfl⟩,?_⟩
 cbv
 refine ⟨λh=>?_,λh=>?_⟩
 ·have qm:v=1:=bI
  have bX:pv ⟨ins,blocks,outs,ay⟩ st b.toNat false st:=.asl cJ (by rw [<-qm];exact hv)
  cbv
  exact ⟨⟨false,st⟩,[],[],⟨by exact aK,trivial⟩,by exact ao,⟨bX⟩⟩
 ·have qm:v≠1:=bI
  cbv
  refine ⟨λh=>?_,λh=>?_⟩
  ·have ka:v=2:=bI
   have bX:pv ⟨ins,blocks,outs,ay⟩ st b.toNat true st:=.CD cJ (by rw [<-ka];exact hv)
   cbv
   exact ⟨⟨true,st⟩,[],[],⟨by exact aK,trivial⟩,by exact ao,⟨bX⟩⟩
  ·have ka:v≠2:=bI
   have ik:St st 0 b.toNat:=by
    have:=cJ.val _ _ hv
    have e:v=0:=by omega
    rw [<-e];exact hv
   have RH:=TM ik
   refine (⟨n - 1,by omega⟩:∃m,m+1=n).elim λm hm=>?_
   have ih:=ih m hm
   refine (bD (l:=blocks) (i:=b.toNat) (by omega)).elim λx hx=>?_
   have iI:=cb hx
   have yv:∀s∈x.ins,0<=s/\s < (ins.length:Int)+2*blocks.length:=hp.used x iI
   have mq:=hp.k x iI
   have oP:blocks.length<=600:=hp.dK
   have QR:ins.length<=1000000:=hp.ins
   have tG:=oX.start cJ ik x
   cbv
   refine ⟨⟨jk⟩,?_⟩
   cbv
   refine ⟨(v,1),⟨hv,rfl,by exact aK⟩,?_⟩
   cbv
   refine ⟨x,⟨ef,hx⟩,?_⟩
   cbv
   refine Sat.cf (aeX 0 0) 5 7 [] (λy:Nat × List Int=>[(28,.sl 1 bM (λ_=>x.ins)),(29,.i .i64 (λ_=>(x.ins.length:Int))),(30,.i .i64 λ_=>(y.1:Int))]) (λy=>[(1,.dyn 3 1 bM λ_=>y.2)])
    (λy=>oX ⟨ins,blocks,outs,ay⟩ st b.toNat x y.1 y.2) (λy=>x.ins.length - y.1) (0,st.set b.toNat 1) (by exact ao) (by exact ao) tG ?_
   rintro ⟨j,gW⟩ hJ
   have hJ:oX ⟨ins,blocks,outs,ay⟩ st b.toNat x j gW:=hJ
   have er:=hJ.le
   have iN:=n0 j
   have vz:=cq (i:=j) (by omega)
   cbv
   refine ⟨λh=>?_,λh=>?_⟩
   ·have ve:j < x.ins.length:=bI
    have bh:x.ins.length - (j+1) < x.ins.length - j:=by omega
    refine (bD ve).elim λs hs=>?_
    have qs:=yv s (cb hs)
    cbv
    refine ⟨s,⟨iN,hs⟩,?_⟩
    cbv
    refine ⟨λh=>?_,λh=>?_⟩
    ·have aR:s < (ins.length:Int):=bI
     have bB:=hJ.skip hs (λh=>by have:=h.1;simp only at this;omega)
     cbv
     exact ⟨(j+1,gW),by exact ao,by exact ao,⟨⟨bB,bh⟩⟩⟩
    ·have b9:(ins.length:Int)<=s:=bI
     have qs:0<=s/\s < (ins.length:Int)+2*(blocks.length:Int):=qs
     refine (⟨_,rfl⟩:∃d:Nat,cS ins.length s=d).elim λd hd=>?_
     have gh:IntKind.i64.wrap (s - (ins.length:Int))=s - (ins.length:Int):=cu (by omega) (by omega)
     have q9:(s - (ins.length:Int)) / 2=(d:Int):=by rw [<-hd];unfold cS;omega
     have hc:IntKind.i64.wrap ((IntKind.i64.wrap (s - (ins.length:Int))).tdiv 2)=(d:Int):=by
      rw [gh,Ak (by omega),q9];exact cu (by omega) (by omega)
     have hm:(IntKind.i64.wrap (s - (ins.length:Int))).tmod 2=(s - (ins.length:Int)) % 2:=by
      rw [gh,qI (by omega)]
     have fV:d < blocks.length:=by omega
     cbv
     refine ⟨⟨by decide⟩,⟨by decide⟩,λh=>?_,λh=>?_⟩
     ·cbv
      refine ⟨λh=>?_,λh=>?_⟩
      ·have mR:¬gk ins.length s:=by
        have h':(!aV ((IntKind.i64.wrap (s - (ins.length:Int))).tmod 2) 1)=true:=h.out
        rw [hm] at h'
        unfold gk
        simpa [aV] using h'
       have fh:xb ⟨ins,blocks,outs,ay⟩ gW/\0<=(d:Int)/\(d:Int) < blocks.length/\lM gW<=m:=⟨hJ.w,by omega,by omega,by have:=hJ.z;omega⟩
       cbv
       refine bV.jU ih (λa y=>trivial) ⟨⟨ins,blocks,outs,ay⟩,gW,d⟩ [0,1,2,3,4] rfl (by exact bQ) (by exact ao) ⟨⟨hp,fh⟩⟩ λy hy=>?_
       have hy:pv ⟨ins,blocks,outs,ay⟩ gW d y.res y.st:=hy.out
       obtain ⟨res,lC⟩:=y
       cbv
       refine ⟨λh=>?_,λh=>?_⟩
       ·have hr:res=false:=by have h':(!res)=true:=h.out;simpa using h'
        subst hr
        have bX:=hJ.bad hx hs b9 mR (by rw [show cS ins.length s=d from hd];exact hy)
        cbv
        exact ⟨⟨false,lC⟩,[],[],⟨by exact aK,trivial⟩,by exact ao,⟨bX⟩⟩
       ·have hr:res=true:=by have h':(!res)=false:=h.out;simpa using h'
        subst hr
        have bB:=hJ.go hs ik (by rw [show cS ins.length s=d from hd];exact hy)
        cbv
        exact ⟨(j+1,lC),by exact ao,by exact ao,⟨⟨bB,bh⟩⟩⟩
      ·have mR:gk ins.length s:=by
        have h':(!aV ((IntKind.i64.wrap (s - (ins.length:Int))).tmod 2) 1)=false:=h.out
        rw [hm] at h'
        unfold gk
        simpa [aV] using h'
       have bB:=hJ.skip hs (λh=>h.2 mR)
       cbv
       exact ⟨(j+1,gW),by exact ao,by exact ao,⟨⟨bB,bh⟩⟩⟩
     ·exfalso
      have h':cV 0 (IntKind.i64.wrap ((IntKind.i64.wrap (s - (ins.length:Int))).tdiv 2))=false:=h.out
      rw [hc] at h'
      simp only [cV,decide_eq_false_iff_not] at h'
      exact aT
   ·have oe:j=x.ins.length:=by
     have h':aU j x.ins.length=false:=h.out
     have h2:¬(j:Int) < x.ins.length:=by simpa [aU] using h'
     omega
    have bX:=hJ.out hx ik oe
    refine (⟨_,rfl⟩:∃l,gW.set b.toNat 2=l).elim λlC h3=>?_
    rw [h3] at bX
    have CX:0<=b/\b.toNat < gW.length:=by have:=hJ.w.len;simp only at this;omega
    refine (bD CX.2).elim λu hu=>?_
    cbv
    refine ⟨⟨CX⟩,?_⟩
    cbv
    refine ⟨(u,2),⟨hu,rfl,by exact aK⟩,?_⟩
    cbv
    exact ⟨⟨true,lC⟩,[],[],⟨by exact aK,trivial⟩,by have et:=h3;exact bJ,⟨bX⟩⟩
theorem abH:∀n,iM PP 179 (UE n)
 | 0=>aay 0 λm h=>by omega
 | n+1=>aay (n+1) λm h=>by
  cases Tu h
  exact abH n
structure YT where
 p:bC
 s:Int
open Classical in
noncomputable def oA (p:bC) (s:Int):Bool:=decide (k8 p s)
theorem SK {p:bC} {s:Int}:oA p s=true↔k8 p s:=by simp [oA]
structure yS (p:bC):Prop where
 dK:p.blocks.length<=1000000
 ins:p.ins.length<=1000000
@[reducible] noncomputable def OU:Vc.Spec where
 α:=YT
 args x:=[.agg (fH x.p),.i .i64 (λ_=>x.s)]
 pre x:=yS x.p
 res x:=.b (λ_=>oA x.p x.s)
noncomputable def cUs (n m:Nat):Ctx:=eu n m [(94,Tryz.f94),(98,Tryz.f98)] []
theorem aso (n m:Nat):CB PP (cUs n m):=ez n m ⟨fo Tryz.func94,fo Tryz.func98,trivial⟩ trivial
theorem ans:cZ (PP ()) 81 OU:=by
 refine dT (aso 0 0) (fo Tryz.func81) (λa=>⟨kD a.p,trivial,trivial⟩) (λa=>trivial) ?_
 rintro ⟨⟨ins,blocks,outs,ay⟩,s⟩ hx
 obtain ⟨hb,hi⟩:yS ⟨ins,blocks,outs,ay⟩:=hx
 have hb:blocks.length<=1000000:=hb
 have hi:ins.length<=1000000:=hi
 have IU:IntKind.i64.wrap (2*(blocks.length:Int))=2*(blocks.length:Int):=cu (by omega) (by omega)
 have dB:IntKind.i64.wrap ((ins.length:Int)+IntKind.i64.wrap (2*(blocks.length:Int)))=(ins.length:Int)+2*(blocks.length:Int):=by rw [IU];exact cu (by omega) (by omega)
 obtain ⟨u,hu⟩:∃u,oA ⟨ins,blocks,outs,ay⟩ s=u:=⟨_,rfl⟩
 have F:¬k8 ⟨ins,blocks,outs,ay⟩ s->false=oA ⟨ins,blocks,outs,ay⟩ s:=λh=>by simp [oA,h]
 have T:k8 ⟨ins,blocks,outs,ay⟩ s->true=oA ⟨ins,blocks,outs,ay⟩ s:=λh=>by simp [oA,h]
 refine ⟨?_⟩
 cbv
 refine ⟨λh=>?_,λh=>?_⟩
 ·have h0:s < 0:=bI
  have e:=F λh=>by have:=h.lo;omega
  cbv
  exact ⟨by exact aK⟩
 ·have h0:0<=s:=bI
  cbv
  refine ⟨λh=>?_,λh=>?_⟩
  ·have h1:(ins.length:Int)+2*(blocks.length:Int)<=s:=by
    have h':cV (IntKind.i64.wrap ((ins.length:Int)+IntKind.i64.wrap (2*(blocks.length:Int)))) s=true:=h.out
    rw [dB] at h'
    simpa [cV] using h'
   have e:=F λh=>by have:=h.hi;unfold bC.sigs at this;simp only at this;omega
   cbv
   exact ⟨by exact aK⟩
  ·have h1:s < (ins.length:Int)+2*(blocks.length:Int):=by
    have h':cV (IntKind.i64.wrap ((ins.length:Int)+IntKind.i64.wrap (2*(blocks.length:Int)))) s=false:=h.out
    rw [dB] at h'
    simpa [cV] using h'
   have gH:s < bC.sigs ⟨ins,blocks,outs,ay⟩:=by unfold bC.sigs;simp only;omega
   cbv
   refine ⟨λh=>?_,λh=>?_⟩
   ·have aR:s < (ins.length:Int):=bI
    have e:=T ⟨h0,gH,λh=>by simp only at h;omega⟩
    cbv
    exact ⟨by exact aK⟩
   ·have b9:(ins.length:Int)<=s:=bI
    have h1:s < (ins.length:Int)+2*(blocks.length:Int):=h1
    have gh:IntKind.i64.wrap (s - (ins.length:Int))=s - (ins.length:Int):=cu (by omega) (by omega)
    have hc:IntKind.i64.wrap ((IntKind.i64.wrap (s - (ins.length:Int))).tdiv 2)=(cS ins.length s:Int):=by
     have q9:(s - (ins.length:Int)) / 2=(cS ins.length s:Int):=by unfold cS;omega
     rw [gh,Ak (by omega),q9]
     exact cu (by unfold cS;omega) (by unfold cS;omega)
    have hm:(IntKind.i64.wrap (s - (ins.length:Int))).tmod 2=(s - (ins.length:Int)) % 2:=by
     rw [gh,qI (by omega)]
    have fV:cS ins.length s < blocks.length:=by unfold cS;omega
    refine (bD fV).elim λx hx=>?_
    have gu:0<=IntKind.i64.wrap ((IntKind.i64.wrap (s - (ins.length:Int))).tdiv 2)/\blocks[(IntKind.i64.wrap ((IntKind.i64.wrap (s - (ins.length:Int))).tdiv 2)).toNat]?=some x:=by
     rw [hc];exact ⟨by omega,by simpa using hx⟩
    cbv
    refine ⟨⟨by decide⟩,⟨by decide⟩,λh=>?_,λh=>?_⟩
    ·have mR:¬gk ins.length s:=by
      have h':(!aV ((IntKind.i64.wrap (s - (ins.length:Int))).tmod 2) 1)=true:=h.out
      rw [hm] at h'
      unfold gk
      simpa [aV] using h'
     have e:=T ⟨h0,gH,λ_ h=>absurd h mR⟩
     cbv
     exact ⟨by exact aK⟩
    ·have hf:gk ins.length s:=by
      have h':(!aV ((IntKind.i64.wrap (s - (ins.length:Int))).tmod 2) 1)=false:=h.out
      rw [hm] at h'
      unfold gk
      simpa [aV] using h'
     have e:cV 0 x.aZ=oA ⟨ins,blocks,outs,ay⟩ s:=by
      by_cases hr:0<=x.aZ
      ·rw [<-T ⟨h0,gH,λ_ _=>⟨x,hx,hr⟩⟩];simp [cV,hr]
      ·rw [<-F λh=>by obtain ⟨y,hy,FH⟩:=h.flip b9 hf;simp only at hy;rw [hx] at hy;cases hy;exact hr FH];simp [cV,hr]
     cbv
     refine ⟨x,⟨gu⟩,?_⟩
     cbv
     exact ⟨by exact aK⟩
structure PLi where
 p:bC
 l:List Int
noncomputable def Az (p:bC) (l:List Int):Bool:=l.any λs=>!oA p s
theorem NM {p:bC} {l:List Int}:Az p l=false↔∀s∈l,k8 p s:=by
 simp [Az,Tf,SK]
theorem OF {A:Type} {f:A->Bool} {l:List A} {i:Nat} {x:A} (h:l[i]?=some x):(l.take (i+1)).any f=((l.take i).any f||f x):=by
 rw [DT,h];simp
theorem Pu {A:Type} {f:A->Bool} {l:List A} {i:Nat} {x:A} (h:l[i]?=some x) (hf:f x=true):l.any f=true:=JC.2 ⟨x,cb h,hf⟩
@[reducible] noncomputable def Vi:Vc.Spec where
 α:=PLi
 args x:=[.sl 1 bM (λ_=>x.l),.fn (.func 80) [] [.dE (fH x.p) 0]]
 pre x:=yS x.p/\x.l.length<=1000000
 res x:=.b (λ_=>Az x.p x.l)
noncomputable def cCu (n m:Nat):Ctx:=eu n m [(176,Tryz.f176),(80,Tryz.f80)] [(81,OU)] [] [176]
theorem agc (n m:Nat):CB PP (cCu n m):=ez n m ⟨fo Tryz.func176,fo Tryz.func80,trivial⟩ ⟨ans,trivial⟩
theorem acR:cZ (PP ()) 82 Vi:=by
 refine dT (agc 0 0) (fo Tryz.func82) (λa=>⟨(λx=>(cQ x).1),⟨trivial,kD a.p,trivial⟩,trivial⟩) (λa=>trivial) ?_
 rintro ⟨⟨ins,blocks,outs,ay⟩,l⟩ hx
 obtain ⟨hp,hl⟩:yS ⟨ins,blocks,outs,ay⟩/\l.length<=1000000:=hx
 obtain ⟨f,hf⟩:∃f,f=oA ⟨ins,blocks,outs,ay⟩:=⟨_,rfl⟩
 have hu:∀z,Az ⟨ins,blocks,outs,ay⟩ z=z.any λs=>!f s:=λz=>by rw [hf];rfl
 refine ⟨?_⟩
 cbv
 refine Sat.cf (agc 0 0) 0 8 [] (λi:Nat=>[(8,.i .i64 (λ_=>(i:Int)))]) (λi=>[])
  (λi=>i<=l.length/\(l.take i).any (λs=>!f s)=false) (λi=>l.length - i) 0 (by exact ao) (by exact ao) ⟨by omega,by simp⟩ ?_
 rintro i ⟨hi,ht⟩
 have h0:=n0 i
 have h1:=cq (i:=i) (by omega)
 cbv
 refine ⟨λh=>?_,λh=>?_⟩
 ·have bt:i < l.length:=bI
  have bh:l.length - (i+1) < l.length - i:=by omega
  refine (bD bt).elim λx hx=>?_
  cbv
  refine ⟨x,⟨h0,hx⟩,?_⟩
  cbv
  refine ⟨⟨⟨ins,blocks,outs,ay⟩,x⟩,⟨by exact bQ,hp⟩,?_⟩
  refine ⟨λh=>?_,λh=>?_⟩
  ·have ot:(!f x)=true:=by have h':(!oA ⟨ins,blocks,outs,ay⟩ x)=true:=h.out;rw [hf];exact h'
   have e:cV 0 (i:Int)=Az ⟨ins,blocks,outs,ay⟩ l:=by rw [hu,Pu hx ot];simp [cV]
   cbv
   exact ⟨by exact aK⟩
  ·have ot:(!f x)=false:=by have h':(!oA ⟨ins,blocks,outs,ay⟩ x)=false:=h.out;rw [hf];exact h'
   have bB:i+1<=l.length/\(l.take (i+1)).any (λs=>!f s)=false:=⟨bt,by rw [OF hx,ht,ot];rfl⟩
   cbv
   exact ⟨i+1,by exact ao,by exact ao,⟨⟨bB,bh⟩⟩⟩
 ·have b9:i=l.length:=by
   have h':aU i l.length=false:=h.out
   have h2:¬(i:Int) < l.length:=by simpa [aU] using h'
   omega
  have e:false=Az ⟨ins,blocks,outs,ay⟩ l:=by rw [hu,<-ht,b9,lK]
  cbv
  exact ⟨by exact aK⟩
noncomputable def uE (lo hi:Int) (w:bU):Bool:=cV lo w.kind&&cV w.kind hi&&cV 0 w.i&&cV 0 w.bit&&aU w.bit 8
theorem UF {lo hi:Int} {w:bU}:uE lo hi w=true↔mB w lo hi:=by
 unfold uE mB cV aU
 simp only [eh,decide_eq_true_eq]
 omega
noncomputable def tg (lo hi:Int) (l:List bU):Bool:=l.any λw=>!uE lo hi w
theorem OH {lo hi:Int} {l:List bU}:tg lo hi l=false↔∀w∈l,mB w lo hi:=by
 simp [tg,Tf,UF]
@[reducible] noncomputable def Pv (f:Nat) (lo hi:Int):Vc.Spec where
 α:=List bU
 args x:=[.sl 3 dm (λ_=>x),.fn (.func f) [] []]
 pre x:=x.length<=1000000
 res x:=.b (λ_=>tg lo hi x)
structure WLH where
 w:bU
 lo:Int
 hi:Int
@[reducible] noncomputable def Pw:Vc.Spec where
 α:=WLH
 args x:=[.agg (dm x.w),.i .i64 (λ_=>x.lo),.i .i64 (λ_=>x.hi)]
 pre x:=True
 res x:=.b (λ_=>uE x.lo x.hi x.w)
noncomputable def cWd (n m:Nat):Ctx:=eu n m [] []
theorem asp (n m:Nat):CB PP (cWd n m):=ez n m trivial trivial
theorem aoo:cZ (PP ()) 85 Pw:=by
 refine dT (asp 0 0) (fo Tryz.func85) (λa=>⟨(gS a.w).1,trivial,trivial,trivial⟩) (λa=>trivial) ?_
 rintro ⟨w,lo,hi⟩ hx
 refine ⟨?_⟩
 cbv
 repeat' (first|(refine .b ?_;done)|(refine ⟨λh=>?_,λh=>?_⟩<;>(have h:=h.out;cbv))|fail)
 all_goals first|refine .bc ?_|refine .b ?_|refine ⟨.bc ?_⟩|refine ⟨.b ?_⟩
 all_goals simp_all [uE]
noncomputable def cCw (n m:Nat):Ctx:=eu n m [(177,Tryz.f177),(84,Tryz.f84),(86,Tryz.f86)] [(85,Pw)] [] [177]
theorem P9 (n m:Nat):CB PP (cCw n m):=ez n m ⟨fo Tryz.func177,fo Tryz.func84,fo Tryz.func86,trivial⟩ ⟨aoo,trivial⟩
theorem OV:cZ (PP ()) 83 (Pv 84 2 4):=by
 refine dT (P9 0 0) (fo Tryz.func83) (λa=>⟨(λx=>(gS x).1),⟨trivial,trivial⟩,trivial⟩) (λa=>trivial) ?_
 rintro l hx
 have hl:l.length<=1000000:=hx
 obtain ⟨f,hf⟩:∃f,f=uE 2 4:=⟨_,rfl⟩
 have hu:∀z,tg 2 4 z=z.any λs=>!f s:=λz=>by rw [hf];rfl
 refine ⟨?_⟩
 cbv
 refine Sat.cf (P9 0 0) 0 8 [] (λi:Nat=>[(8,.i .i64 (λ_=>(i:Int)))]) (λi=>[])
  (λi=>i<=l.length/\(l.take i).any (λs=>!f s)=false) (λi=>l.length - i) 0 (by exact ao) (by exact ao) ⟨by omega,by simp⟩ ?_
 rintro i ⟨hi,ht⟩
 have h0:=n0 i
 have h1:=cq (i:=i) (by omega)
 cbv
 refine ⟨λh=>?_,λh=>?_⟩
 ·have bt:i < l.length:=bI
  have bh:l.length - (i+1) < l.length - i:=by omega
  refine (bD bt).elim λx hx=>?_
  cbv
  refine ⟨x,⟨h0,hx⟩,?_⟩
  cbv
  refine ⟨⟨x,2,4⟩,⟨by exact bQ,trivial⟩,?_⟩
  cbv
  refine ⟨λh=>?_,λh=>?_⟩
  ·have ot:(!f x)=true:=by have h':(!uE 2 4 x)=true:=h.out;rw [hf];exact h'
   have e:cV 0 (i:Int)=tg 2 4 l:=by rw [hu,Pu hx ot];simp [cV]
   cbv
   exact ⟨by exact aK⟩
  ·have ot:(!f x)=false:=by have h':(!uE 2 4 x)=false:=h.out;rw [hf];exact h'
   have bB:i+1<=l.length/\(l.take (i+1)).any (λs=>!f s)=false:=⟨bt,by rw [OF hx,ht,ot];rfl⟩
   cbv
   exact ⟨i+1,by exact ao,by exact ao,⟨⟨bB,bh⟩⟩⟩
 ·have b9:i=l.length:=by
   have h':aU i l.length=false:=h.out
   have h2:¬(i:Int) < l.length:=by simpa [aU] using h'
   omega
  have e:false=tg 2 4 l:=by rw [hu,<-ht,b9,lK]
  cbv
  exact ⟨by exact aK⟩
theorem UH:cZ (PP ()) 83 (Pv 86 5 10):=by
 refine dT (P9 0 0) (fo Tryz.func83) (λa=>⟨(λx=>(gS x).1),⟨trivial,trivial⟩,trivial⟩) (λa=>trivial) ?_
 rintro l hx
 have hl:l.length<=1000000:=hx
 obtain ⟨f,hf⟩:∃f,f=uE 5 10:=⟨_,rfl⟩
 have hu:∀z,tg 5 10 z=z.any λs=>!f s:=λz=>by rw [hf];rfl
 refine ⟨?_⟩
 cbv
 refine Sat.cf (P9 0 0) 0 8 [] (λi:Nat=>[(8,.i .i64 (λ_=>(i:Int)))]) (λi=>[])
  (λi=>i<=l.length/\(l.take i).any (λs=>!f s)=false) (λi=>l.length - i) 0 (by exact ao) (by exact ao) ⟨by omega,by simp⟩ ?_
 rintro i ⟨hi,ht⟩
 have h0:=n0 i
 have h1:=cq (i:=i) (by omega)
 cbv
 refine ⟨λh=>?_,λh=>?_⟩
 ·have bt:i < l.length:=bI
  have bh:l.length - (i+1) < l.length - i:=by omega
  refine (bD bt).elim λx hx=>?_
  cbv
  refine ⟨x,⟨h0,hx⟩,?_⟩
  cbv
  refine ⟨⟨x,5,10⟩,⟨by exact bQ,trivial⟩,?_⟩
  cbv
  refine ⟨λh=>?_,λh=>?_⟩
  ·have ot:(!f x)=true:=by have h':(!uE 5 10 x)=true:=h.out;rw [hf];exact h'
   have e:cV 0 (i:Int)=tg 5 10 l:=by rw [hu,Pu hx ot];simp [cV]
   cbv
   exact ⟨by exact aK⟩
  ·have ot:(!f x)=false:=by have h':(!uE 5 10 x)=false:=h.out;rw [hf];exact h'
   have bB:i+1<=l.length/\(l.take (i+1)).any (λs=>!f s)=false:=⟨bt,by rw [OF hx,ht,ot];rfl⟩
   cbv
   exact ⟨i+1,by exact ao,by exact ao,⟨⟨bB,bh⟩⟩⟩
 ·have b9:i=l.length:=by
   have h':aU i l.length=false:=h.out
   have h2:¬(i:Int) < l.length:=by simpa [aU] using h'
   omega
  have e:false=tg 5 10 l:=by rw [hu,<-ht,b9,lK]
  cbv
  exact ⟨by exact aK⟩
theorem amL {h:Int} {l:List Int} {i:Nat} {v:Int} (hv:l[i]?=some v):ET h (l.take (i+1))=P8 (ET h (l.take i)) (IntKind.u64.wrap v):=by
 rw [DT,hv]
 simp [ET,N5]
theorem ant {h:Int} {l:List Int} {i:Nat} (hi:i=l.length):ET h (l.take i)=ET h l:=by rw [hi,lK]
@[reducible] noncomputable def Kv:Vc.Spec where
 α:=List Int
 args x:=[.sl 1 bM (λ_=>x)]
 pre x:=x.length < 4611686018427387904
 res x:=.i .u64 (λ_=>iP x)
noncomputable def cDg (n m:Nat):Ctx:=eu n m [(101,Tryz.f101)] []
theorem agd (n m:Nat):CB PP (cDg n m):=ez n m ⟨fo Tryz.func101,trivial⟩ trivial
theorem Uf:cZ (PP ()) 27 Kv:=by
 refine dT (agd 0 0) (fo Tryz.func27) (λa=>⟨(λx=>(cQ x).1),trivial⟩) (λa=>trivial) ?_
 rintro l hx
 have hl:l.length < 4611686018427387904:=hx
 refine ⟨?_⟩
 cbv
 refine Sat.cf (agd 0 0) 1 5 [] (λi:Nat=>[(8,.sl 1 bM (λ_=>l)),(9,.i .i64 (λ_=>(l.length:Int))),(10,.i .i64 (λ_=>(i:Int)))]) (λi=>[(0,.fix 199 [.i .u64 (λ_=>ET 512970876019 (l.take i))])])
  (λi=>i<=l.length) (λi=>l.length - i) 0 (by exact ao) (by exact bJ) (cN _) ?_
 rintro i hi
 have h0:=n0 i
 have h1:=cq (i:=i) (by omega)
 cbv
 refine ⟨λh=>?_,λh=>?_⟩
 ·have bt:i < l.length:=bI
  have bh:i+1<=l.length/\l.length - (i+1) < l.length - i:=by omega
  refine (bD bt).elim λv hv=>?_
  have hf:=amL (h:=512970876019) hv
  cbv
  refine ⟨v,⟨h0,hv⟩,?_⟩
  cbv
  refine ⟨⟨by decide⟩,i+1,by exact ao,by ((try cbv)<;>(repeat' (first|with_reducible exact trivial|with_reducible refine And.intro ?_ ?_))<;>(try first|exact eQ.refl _|exact eQ.dyn rfl|exact eQ.map rfl|exact eQ.iter rfl rfl (.inl rfl)|exact eQ.iter rfl rfl (.inr rfl)|refine eQ.fix ?_|refine eQ.dyn ?_)<;>((repeat' first|exact dR.nil|exact Le.refl _|refine dR.cons ?_ ?_|exact Le.ic rfl|exact Le.bc rfl|exact Le.i rfl|exact Le.b rfl|exact Le.sl rfl|exact Le.mp rfl|exact Le.iz rfl|exact Le.si rfl|refine Le.dg rfl (λ_=>?_)|refine Le.eK rfl (λ_ _=>rfl) (λ_=>?_) ?_|refine Le.agg ?_|refine Le.dG ?_|refine Le.fn ?_ ?_|refine Le.dE ?_|exact trivial|refine And.intro ?_ ?_|refine λ_=>?_|exact Le.any _)))<;>exact .i (by rw [hf,acO];rfl),⟨bh⟩⟩
 ·have b9:i=l.length:=by
   have h':aU i l.length=false:=h.out
   have h2:¬(i:Int) < l.length:=by simpa [aU] using h'
   omega
  have hf:=ant (h:=512970876019) b9
  cbv
  exact ⟨⟨by decide⟩,⟨.i (by unfold iP;rw [<-hf,acO];rfl)⟩⟩
noncomputable def cWo (n m:Nat):Ctx:=eu n m [] [(27,Kv)]
theorem asq (n m:Nat):CB PP (cWo n m):=ez n m trivial ⟨Uf,trivial⟩
@[reducible] noncomputable def UI:Vc.Spec:=Kv
theorem abI:cZ (PP ()) 99 UI:=by
 refine dT (asq 0 0) (fo Tryz.func99) (λa=>⟨(λx=>(cQ x).1),trivial⟩) (λa=>trivial) ?_
 rintro l hx
 have hl:l.length < 4611686018427387904:=hx
 refine ⟨?_⟩
 cbv
 refine ⟨l,⟨by exact bQ,hl⟩,?_⟩
 cbv
 exact ⟨by exact aK⟩
structure I3 where
 n:Int
 lo:Int
 hi:Int
noncomputable def pH (n lo hi:Int):Bool:=cV lo n&&cV n hi
@[reducible] noncomputable def acS:Vc.Spec where
 α:=I3
 args x:=[.i .i64 (λ_=>x.n),.i .i64 (λ_=>x.lo),.i .i64 (λ_=>x.hi)]
 pre x:=True
 res x:=.b (λ_=>pH x.n x.lo x.hi)
noncomputable def cWn (n m:Nat):Ctx:=eu n m [] []
theorem asr (n m:Nat):CB PP (cWn n m):=ez n m trivial trivial
theorem amM:cZ (PP ()) 178 acS:=by
 refine dT (asr 0 0) (fo Tryz.func178) (λa=>⟨trivial,trivial,trivial,trivial⟩) (λa=>trivial) ?_
 rintro ⟨n,lo,hi⟩ hx
 refine ⟨?_⟩
 cbv
 repeat' (first|(refine .b ?_;done)|(refine ⟨λh=>?_,λh=>?_⟩<;>(have h:=h.out;cbv))|fail)
 all_goals first|refine .bc ?_|refine .b ?_|refine ⟨.bc ?_⟩|refine ⟨.b ?_⟩
 all_goals simp_all [pH]
open Classical in
noncomputable def xF (x:Block):Bool:=decide (yV x)
theorem aaz {x:Block}:xF x=true↔yV x:=by simp [xF]
@[reducible] noncomputable def UJ:Vc.Spec where
 α:=Block
 args x:=[.agg (ph x)]
 pre x:=x.ins.length<=1000000
 res x:=.b (λ_=>xF x)
theorem aqR {k:Nat} (h:k<=4):IntKind.i64.wrap (IntKind.i64.wrap (1*2^(min (IntKind.u64.wrap (1*2^(min (k:Int).toNat IntKind.u64.bits))).toNat IntKind.i64.bits)) - 1)=2^(2^k) - 1:=by
 have:k=0\/k=1\/k=2\/k=3\/k=4:=by omega
 rcases this with e|e|e|e|e<;>subst e<;>decide
noncomputable def cFo (n m:Nat):Ctx:=eu n m [] [(178,acS)]
theorem ass (n m:Nat):CB PP (cFo n m):=ez n m trivial ⟨amM,trivial⟩
theorem abJ:cZ (PP ()) 87 UJ:=by
 refine dT (ass 0 0) (fo Tryz.func87) (λa=>⟨(JJ a).1,trivial⟩) (λa=>trivial) ?_
 rintro ⟨ins,table,bR,aZ,key⟩ hx
 have hl:ins.length<=1000000:=hx
 have F:¬yV ⟨ins,table,bR,aZ,key⟩->false=xF ⟨ins,table,bR,aZ,key⟩:=λh=>by simp [xF,h]
 have T:yV ⟨ins,table,bR,aZ,key⟩->true=xF ⟨ins,table,bR,aZ,key⟩:=λh=>by simp [xF,h]
 refine ⟨?_⟩
 cbv
 refine ⟨λh=>?_,λh=>?_⟩
 ·have h4:¬ins.length<=4:=by have h':aU 4 (ins.length:Int)=true:=h.out;simp only [aU,decide_eq_true_eq] at h';exact aT
  have e:=F λh=>h4 h.k
  cbv
  exact ⟨by exact aK⟩
 ·have h4:ins.length<=4:=by have h':aU 4 (ins.length:Int)=false:=h.out;simp only [aU,decide_eq_false_iff_not] at h';exact aT
  have Dg:=aqR h4
  obtain ⟨M,hM⟩:∃M,(2:Int)^(2^ins.length) - 1=M:=⟨_,rfl⟩
  rw [hM] at Dg
  have RL:∀t:Int,t<=M↔t < 2^(2^ins.length):=λt=>by rw [<-hM];omega
  cbv
  refine ⟨⟨bR,-1,63⟩,⟨by exact bQ,trivial⟩,?_⟩
  cbv
  refine ⟨λh=>?_,λh=>?_⟩
  ·have hr:pH bR (-1) 63=false:=by have h':(!pH bR (-1) 63)=true:=h.out;simpa using h'
   have e:=F λh=>by have:=h.bR;simp only at this;simp [pH,cV] at hr;omega
   cbv
   exact ⟨by exact aK⟩
  ·have hr:pH bR (-1) 63=true:=by have h':(!pH bR (-1) 63)=false:=h.out;simpa using h'
   have LI:-1<=bR/\bR<=63:=by simpa [pH,cV] using hr
   cbv
   refine ⟨⟨aZ,-1,255⟩,⟨by exact bQ,trivial⟩,?_⟩
   cbv
   refine ⟨λh=>?_,λh=>?_⟩
   ·have hg:pH aZ (-1) 255=false:=by have h':(!pH aZ (-1) 255)=true:=h.out;simpa using h'
    have e:=F λh=>by have:=h.aZ;simp only at this;simp [pH,cV] at hg;omega
    cbv
    exact ⟨by exact aK⟩
   ·have hg:pH aZ (-1) 255=true:=by have h':(!pH aZ (-1) 255)=false:=h.out;simpa using h'
    have ui:-1<=aZ/\aZ<=255:=by simpa [pH,cV] using hg
    have wV:0<=(ins.length:Int):=by omega
    have qa:0<=IntKind.u64.wrap (1*2^(min (ins.length:Int).toNat IntKind.u64.bits)):=by
     have:ins.length=0\/ins.length=1\/ins.length=2\/ins.length=3\/ins.length=4:=by omega
     rcases this with e|e|e|e|e<;>rw [e]<;>decide
    cbv
    refine ⟨⟨wV⟩,?_⟩
    cbv
    refine ⟨⟨qa⟩,?_⟩
    cbv
    refine ⟨⟨table,0,M⟩,⟨by have bg:=Dg;exact cP,trivial⟩,?_⟩
    cbv
    refine ⟨λh=>?_,λh=>?_⟩
    ·have ht:pH table 0 M=false:=by have h':(!pH table 0 M)=true:=h.out;simpa using h'
     have e:=F λh=>by have:=h.table;simp only at this;rw [<-RL] at this;simp only [pH,cV,Bool.and_eq_false_iff,decide_eq_false_iff_not] at ht;omega
     cbv
     exact ⟨by exact aK⟩
    ·have ht:pH table 0 M=true:=by have h':(!pH table 0 M)=false:=h.out;simpa using h'
     have QS:0<=table/\table < 2^(2^ins.length):=by rw [<-RL];simpa [pH,cV] using ht
     cbv
     refine ⟨λh=>?_,λh=>?_⟩
     ·have h0:bR < 0:=bI
      have e:=T ⟨h4,LI,ui,QS,λh=>by simp only at h;omega⟩
      cbv
      exact ⟨by exact aK⟩
     ·have h0:0<=bR:=bI
      cbv
      refine ⟨λh=>?_,λh=>?_⟩
      ·have h1:aZ < 0:=bI
       cbv
       refine ⟨λh=>?_,λh=>?_⟩
       ·have h3:ins.length<=3:=by have h':cV (ins.length:Int) 3=true:=h.out;simp only [cV,decide_eq_true_eq] at h';exact aT
        have e:aV table 0=xF ⟨ins,table,bR,aZ,key⟩:=by
         by_cases De:table=0
         ·rw [<-T ⟨h4,LI,ui,QS,λ_=>⟨by simp only;omega,h3,De⟩⟩,De];rfl
         ·rw [<-F λh=>De (h.read h0).2.2];simp [aV,De]
        cbv
        exact ⟨by exact aK⟩
       ·have h3:¬ins.length<=3:=by have h':cV (ins.length:Int) 3=false:=h.out;simp only [cV,decide_eq_false_iff_not] at h';exact aT
        have e:=F λh=>h3 (h.read h0).2.1
        cbv
        exact ⟨by exact aK⟩
      ·have h1:¬aZ < 0:=bI
       have e:=F λh=>h1 (by have:=(h.read h0).1;simp only at this;omega)
       cbv
       exact ⟨by exact aK⟩
theorem te.all {p:bC} {st:List Int} (h:te p st) (ha:∀b,b < p.blocks.length->St st 2 b):∃r,k9 p r:=by
 obtain ⟨r,hr⟩:=h
 refine ⟨r,λb x hx s hs h1 h2=>?_⟩
 exact (hr b _ (ha b (bW.1 hx).1) ⟨x,hx,s,hs,h1,h2,rfl⟩).2
structure uF (p:bC) (b:Nat) (st:List Int):Prop where
 le:b<=p.blocks.length
 w:xb p st
 one:∀c,¬St st 1 c
 two:∀c,c < b->St st 2 c
 By:te p st
theorem uF.start (p:bC):uF p 0 (List.replicate p.blocks.length 0):=by
 have h:∀c v,St (List.replicate p.blocks.length 0) v c->v=0:=λc v hc=>by
  have hm:=cb (show (List.replicate p.blocks.length (0:Int))[c]?=some v from hc)
  exact (Eb.1 hm).2
 exact ⟨cN _,⟨sP,λc v hc=>.inl (h c v hc)⟩,λc hc=>by have:=h c 1 hc;omega,λc hc=>by omega,.nil λc hc=>by have:=h c 2 hc;omega⟩
theorem uF.next {p:bC} {b:Nat} {st gJ:List Int} (h:uF p b st) (hb:b < p.blocks.length) (k:pv p st b true gJ):uF p (b+1) gJ :=
 ⟨hb,k.w,λc hc=>h.one c ((k.one rfl c).1 hc),λc hc=>by
  by_cases e:c=b
  ·subst e;exact (k.two rfl).2
  ·exact (k.two rfl).1 c (h.two c (by omega)),k.By rfl h.By⟩
structure OX (p:bC) (y:Bool):Prop where
 up:y=true->∃r,k9 p r
 down:(∃r,k9 p r)->y=true
@[reducible] noncomputable def aqS:fK where
 α:=bC
 args x:=[.agg (fH x),.fn (.func 89) [] []]
 pre x:=xJ x
 β:=Bool
 post x y:=OX x y
 res x y:=.b (λ_=>y)
noncomputable def cWa (n m:Nat):Ctx:=eu n m [(179,Tryz.f179)] [] [179]
theorem Qa (n m:Nat):CB PP (cWa n m):=ez n m ⟨fo Tryz.func179,trivial⟩ trivial
theorem aop:eG PP 88 aqS:=by
 refine iL (Qa 0 0) (fo Tryz.func88) (λa=>⟨kD a,⟨trivial,trivial⟩,trivial⟩) (λa y=>trivial) ?_
 rintro ⟨ins,blocks,outs,ay⟩ hx
 have hp:xJ ⟨ins,blocks,outs,ay⟩:=hx
 have oP:blocks.length<=600:=hp.dK
 have e9:0<=(blocks.length:Int)/\8*(blocks.length:Int)<=281474976710656/\(blocks.length:Int)<=9223372036854775807:=by omega
 refine ⟨?_⟩
 cbv
 refine ⟨⟨e9.1,j5 _,e9.2.1,e9.2.2⟩,?_⟩
 cbv
 have ta:List.replicate ((blocks.length:Int)).toNat (0:Int)=List.replicate blocks.length 0:=by rw [ox]
 obtain ⟨zO,zq⟩:∃l,List.replicate ((blocks.length:Int)).toNat (0:Int)=l:=⟨_,rfl⟩
 have tG:uF ⟨ins,blocks,outs,ay⟩ 0 zO:=by rw [<-zq,ta];exact .start ⟨ins,blocks,outs,ay⟩
 refine Sat.cf (Qa 0 0) 5 7 [(.c 3 0,2)] (λx:Nat × List Int=>[(17,.i .i64 (λ_=>(blocks.length:Int))),(18,.i .i64 λ_=>(x.1:Int))]) (λx=>[(2,.dyn 3 1 bM λ_=>x.2)])
  (λx=>uF ⟨ins,blocks,outs,ay⟩ x.1 x.2) (λx=>blocks.length - x.1) (0,zO) (by exact ao) (by have et:=zq;exact bJ) tG ?_
 rintro ⟨b,st⟩ hJ
 have hJ:uF ⟨ins,blocks,outs,ay⟩ b st:=hJ
 have dP:b<=blocks.length:=hJ.le
 have h0:=n0 b
 have h1:=cq (i:=b) (by omega)
 cbv
 refine ⟨λh=>?_,λh=>?_⟩
 ·have aR:b < blocks.length:=bI
  have bh:blocks.length - (b+1) < blocks.length - b:=by omega
  have fh:xb ⟨ins,blocks,outs,ay⟩ st/\0<=(b:Int)/\(b:Int) < blocks.length/\lM st<=lM st:=⟨hJ.w,h0,by omega,cR _⟩
  cbv
  refine bV.jU (abH (lM st)) (λa y=>trivial) ⟨⟨ins,blocks,outs,ay⟩,st,b⟩ [3,2,0,4,1] rfl (by exact bQ) (by exact ao) ⟨⟨hp,fh⟩⟩ λy hy=>?_
  have hy:pv ⟨ins,blocks,outs,ay⟩ st b y.res y.st:=hy.out
  obtain ⟨res,gW⟩:=y
  cbv
  refine ⟨λh=>?_,λh=>?_⟩
  ·have hr:res=false:=by have h':(!res)=true:=h.out;simpa using h'
   subst hr
   have bX:OX ⟨ins,blocks,outs,ay⟩ false:=⟨λh=>(by cases h),λ⟨r,hr⟩=>hy.rk r hr λc hc=>absurd hc (hJ.one c)⟩
   cbv
   exact .mk' false ⟨by exact aK⟩ bX
  ·have hr:res=true:=by have h':(!res)=false:=h.out;simpa using h'
   subst hr
   have bB:=hJ.next aR hy
   cbv
   exact ⟨(b+1,gW),by exact ao,by exact ao,⟨⟨bB,bh⟩⟩⟩
 ·have b9:b=blocks.length:=by
   have h':aU b blocks.length=false:=h.out
   have h2:¬(b:Int) < blocks.length:=by simpa [aU] using h'
   omega
  have bX:OX ⟨ins,blocks,outs,ay⟩ true:=⟨λ_=>hJ.By.all λc hc=>hJ.two c (by rw [b9];exact hc),λ_=>rfl⟩
  cbv
  exact .mk' true ⟨by exact aK⟩ bX
end Go.Proofs.Pk
