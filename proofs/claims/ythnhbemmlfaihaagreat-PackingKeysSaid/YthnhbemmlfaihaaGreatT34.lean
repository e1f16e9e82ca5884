import Derived.Test.YthnhbemmlfaihaaGreatT12
import Derived.Test.YthnhbemmlfaihaaGreatT13
import Derived.Test.YthnhbemmlfaihaaGreatT14
set_option linter.unusedVariables false
set_option linter.unusedSimpArgs false
set_option maxRecDepth 10000
set_option maxHeartbeats 64000000
namespace Go.Proofs.Pk
open Go Go.Vc
structure nK (A:Type) where
 a:List A
 b:List A
open Classical in
noncomputable def jE {A:Type} (a b:List A):Bool:=decide (a=b)
theorem s9 {A:Type} {a b:List A}:jE a b=true↔a=b:=by simp [jE]
theorem E4 {A:Type} {a b:List A} (h:a≠b):jE a b=false:=by simp [jE,h]
theorem KJ {A:Type} {a b:List A} {i:Nat} {x y:A} (hx:a[i]?=some x) (hy:b[i]?=some y) (h:x≠y):jE a b=false:=E4 λe=>by
 rw [e,hy] at hx;exact h (Cj hx).symm
theorem Kt {A:Type} {a b:List A} (hl:a.length=b.length) (h:∀(i:Nat) (x y:A),a[i]?=some x->b[i]?=some y->x=y):jE a b=true:=s9.2 (by
 apply List.ext_getElem hl
 intro i h1 h2
 exact h i _ _ (ep h1) (ep h2))
@[reducible] noncomputable def V0:Vc.Spec where
 α:=nK Int
 args x:=[.sl 1 bK (λ_=>x.a),.sl 1 bK (λ_=>x.b)]
 pre x:=x.a.length<=1000000000000/\x.b.length<=1000000000000
 res x:=.b (λ_=>jE x.a x.b)
theorem aea:cW (PP ()) 180 V0:=by
 refine dT (iR 0 0) (fo Tryz.func180) (λa=>⟨(λx=>(cP x).1),(λx=>(cP x).1),trivial⟩) (λa=>trivial) ?_
 rintro ⟨a,b⟩ hx
 obtain ⟨ha,hb⟩:a.length<=1000000000000/\b.length<=1000000000000:=hx
 refine ⟨?_⟩
 cbv
 refine ⟨λh=>?_,λh=>?_⟩
 ·have j3:a.length≠b.length:=by have:=h.out;simp [aV] at this;exact aU
  have e:jE a b=false:=E4 λe=>j3 (by rw [e])
  cbv
  exact ⟨.bc e.symm⟩
 ·have j3:a.length=b.length:=by have:=h.out;simp [aV] at this;exact aU
  cbv
  refine Sat.cd (iR 0 0) 0 5 [] (λi:Nat=>[(5,.i .i64 λ_=>(i:Int))]) (λ_=>[]) (λi=>i<=a.length/\∀(j:Nat) (x y:Int),j < i->a[j]?=some x->b[j]?=some y->x=y) (λi=>a.length - i) 0 (by exact ao) (by exact ao) ⟨by simp,λj x y h=>by omega⟩ ?_
  rintro i ⟨hi,he⟩
  have h0:=n0 i
  have h1:=cj (i:=i) (by omega)
  cbv
  refine ⟨λh=>?_,λh=>?_⟩
  ·(have h:=h.out;simp (disch:=exact aU) only [hS] at h)
   have aR:i < a.length:=by exact aU
   have a7:a.length - (i+1) < a.length - i:=by omega
   obtain ⟨x,hx⟩:=bB aR
   obtain ⟨y,hy⟩:=bB (l:=b) (i:=i) (by omega)
   cbv
   refine ⟨x,⟨h0,hx⟩,?_⟩
   cbv
   refine ⟨y,⟨h0,hy⟩,?_⟩
   cbv
   refine ⟨λh=>?_,λh=>?_⟩
   ·have cT:x≠y:=by have:=h.out;simpa [aV] using this
    have e:=KJ hx hy cT
    cbv
    exact ⟨.bc e.symm⟩
   ·have cT:x=y:=by have:=h.out;simpa [aV] using this
    cbv
    exact ⟨i+1,by have bm:=h1;exact bI,by exact ao,⟨⟨aR,λj u v hj hu hv=>by
     by_cases nS:j=i
     ·subst nS;rw [hx] at hu;rw [hy] at hv;cases hu;cases hv;exact cT
     ·exact he j u v (by omega) hu hv⟩,a7⟩⟩
  ·(have h:=h.out;simp (disch:=exact aU) only [hS] at h)
   have bS:i=a.length:=by exact aU
   have e:jE a b=true:=Kt j3 λj x y hx hy=>he j x y (by have:=(bY.1 hx).1;omega) hx hy
   cbv
   exact ⟨.bc e.symm⟩
@[reducible] noncomputable def aeb:Vc.Spec where
 α:=nK Int
 args x:=[.sl 1 mH (λ_=>x.a),.sl 1 mH (λ_=>x.b)]
 pre x:=x.a.length<=1000000000000/\x.b.length<=1000000000000
 res x:=.b (λ_=>jE x.a x.b)
theorem anF:cW (PP ()) 66 aeb:=by
 refine dT (iR 0 0) (fo Tryz.func66) (λa=>⟨(λx=>(OP x).1),(λx=>(OP x).1),trivial⟩) (λa=>trivial) ?_
 rintro ⟨a,b⟩ hx
 obtain ⟨ha,hb⟩:a.length<=1000000000000/\b.length<=1000000000000:=hx
 refine ⟨?_⟩
 cbv
 refine ⟨λh=>?_,λh=>?_⟩
 ·have j3:a.length≠b.length:=by have:=h.out;simp [aV] at this;exact aU
  have e:jE a b=false:=E4 λe=>j3 (by rw [e])
  cbv
  exact ⟨.bc e.symm⟩
 ·have j3:a.length=b.length:=by have:=h.out;simp [aV] at this;exact aU
  cbv
  refine Sat.cd (iR 0 0) 0 5 [] (λi:Nat=>[(5,.i .i64 λ_=>(i:Int))]) (λ_=>[]) (λi=>i<=a.length/\∀(j:Nat) (x y:Int),j < i->a[j]?=some x->b[j]?=some y->x=y) (λi=>a.length - i) 0 (by exact ao) (by exact ao) ⟨by simp,λj x y h=>by omega⟩ ?_
  rintro i ⟨hi,he⟩
  have h0:=n0 i
  have h1:=cj (i:=i) (by omega)
  cbv
  refine ⟨λh=>?_,λh=>?_⟩
  ·(have h:=h.out;simp (disch:=exact aU) only [hS] at h)
   have aR:i < a.length:=by exact aU
   have a7:a.length - (i+1) < a.length - i:=by omega
   obtain ⟨x,hx⟩:=bB aR
   obtain ⟨y,hy⟩:=bB (l:=b) (i:=i) (by omega)
   cbv
   refine ⟨x,⟨h0,hx⟩,?_⟩
   cbv
   refine ⟨y,⟨h0,hy⟩,?_⟩
   cbv
   refine ⟨λh=>?_,λh=>?_⟩
   ·have cT:x≠y:=by have:=h.out;simpa [aV] using this
    have e:=KJ hx hy cT
    cbv
    exact ⟨.bc e.symm⟩
   ·have cT:x=y:=by have:=h.out;simpa [aV] using this
    cbv
    exact ⟨i+1,by have bm:=h1;exact bI,by exact ao,⟨⟨aR,λj u v hj hu hv=>by
     by_cases nS:j=i
     ·subst nS;rw [hx] at hu;rw [hy] at hv;cases hu;cases hv;exact cT
     ·exact he j u v (by omega) hu hv⟩,a7⟩⟩
  ·(have h:=h.out;simp (disch:=exact aU) only [hS] at h)
   have bS:i=a.length:=by exact aU
   have e:jE a b=true:=Kt j3 λj x y hx hy=>he j x y (by have:=(bY.1 hx).1;omega) hx hy
   cbv
   exact ⟨.bc e.symm⟩
@[reducible] noncomputable def ae3:Vc.Spec where
 α:=nK bU
 args x:=[.sl 3 dk (λ_=>x.a),.sl 3 dk (λ_=>x.b)]
 pre x:=x.a.length<=1000000000000/\x.b.length<=1000000000000
 res x:=.b (λ_=>jE x.a x.b)
theorem aoC:cW (PP ()) 217 ae3:=by
 refine dT (iR 0 0) (fo Tryz.func217) (λa=>⟨(λx=>(gU x).1),(λx=>(gU x).1),trivial⟩) (λa=>trivial) ?_
 rintro ⟨a,b⟩ hx
 obtain ⟨ha,hb⟩:a.length<=1000000000000/\b.length<=1000000000000:=hx
 refine ⟨?_⟩
 cbv
 refine ⟨λh=>?_,λh=>?_⟩
 ·have j3:a.length≠b.length:=by have:=h.out;simp [aV] at this;exact aU
  have e:jE a b=false:=E4 λe=>j3 (by rw [e])
  cbv
  exact ⟨.bc e.symm⟩
 ·have j3:a.length=b.length:=by have:=h.out;simp [aV] at this;exact aU
  cbv
  refine Sat.cd (iR 0 0) 0 5 [] (λi:Nat=>[(5,.i .i64 λ_=>(i:Int))]) (λ_=>[]) (λi=>i<=a.length/\∀(j:Nat) (x y:bU),j < i->a[j]?=some x->b[j]?=some y->x=y) (λi=>a.length - i) 0 (by exact ao) (by exact ao) ⟨by simp,λj x y h=>by omega⟩ ?_
  rintro i ⟨hi,he⟩
  have h0:=n0 i
  have h1:=cj (i:=i) (by omega)
  cbv
  refine ⟨λh=>?_,λh=>?_⟩
  ·(have h:=h.out;simp (disch:=exact aU) only [hS] at h)
   have aR:i < a.length:=by exact aU
   have a7:a.length - (i+1) < a.length - i:=by omega
   obtain ⟨x,hx⟩:=bB aR
   obtain ⟨y,hy⟩:=bB (l:=b) (i:=i) (by omega)
   cbv
   refine ⟨x,⟨h0,hx⟩,?_⟩
   cbv
   refine ⟨y,⟨h0,hy⟩,?_⟩
   cbv
   refine ⟨λh=>?_,λh=>?_⟩
   ·have cT:x≠y:=by rintro rfl;have:=h.out;simp [aV] at this
    have e:=KJ hx hy cT
    cbv
    exact ⟨.bc e.symm⟩
   ·have cT:x=y:=by have:=h.out;simp [aV] at this;cases x;cases y;simp at this ⊢;omega
    cbv
    exact ⟨i+1,by have bm:=h1;exact bI,by exact ao,⟨⟨aR,λj u v hj hu hv=>by
     by_cases nS:j=i
     ·subst nS;rw [hx] at hu;rw [hy] at hv;cases hu;cases hv;exact cT
     ·exact he j u v (by omega) hu hv⟩,a7⟩⟩
  ·(have h:=h.out;simp (disch:=exact aU) only [hS] at h)
   have bS:i=a.length:=by exact aU
   have e:jE a b=true:=Kt j3 λj x y hx hy=>he j x y (by have:=(bY.1 hx).1;omega) hx hy
   cbv
   exact ⟨.bc e.symm⟩
theorem SZ {α:Type} {f:α->α} {l:List α} {i j:Nat}:(l.modify i f)[j]?=if i=j then (l[j]?).map f else l[j]?:=by
 rw [Tc]
 split
 ·rename_i h;subst h;simp
 ·simp
theorem amc {ins:List bU} {nc:Nat} {k:PK} (h:oO ins nc k) {s:Source} (hs:qf ins k.parts.length s) {code:Int} (h0:0<=code) (h1:code<=255) (hf:k.bL code=none) :
  oO ins nc (j1 k s code)/\(j1 k s code).parts.length<=k.parts.length+1/\k.parts.length<=(j1 k s code).parts.length/\(j1 k s code).bL code≠none/\(∀c,k.bL c≠none->(j1 k s code).bL c≠none) /\
  (∀c,(j1 k s code).bL c≠none->c=code\/k.bL c≠none)/\(j1 k s code).n0=k.n0/\(j1 k s code).n1=k.n1/\(j1 k s code).cells=k.cells:=by
 have jK:∀x:Part,x.bh=code->Ph x->(∀s∈x.ins,qf ins k.parts.length s)->(∀s∈x.ins,s.kind≠3) ->
   oO ins nc (k.add x)/\(k.add x).parts.length<=k.parts.length+1/\k.parts.length<=(k.add x).parts.length/\(k.add x).bL code≠none/\(∀c,k.bL c≠none->(k.add x).bL c≠none) /\
   (∀c,(k.add x).bL c≠none->c=code\/k.bL c≠none)/\(k.add x).n0=k.n0/\(k.add x).n1=k.n1/\(k.add x).cells=k.cells:=by
  intro x hx hp hs hk
  have H:=h.add hp hs (a:=k.n0) (b:=k.n1) id id (λs iM e=>absurd e (hk s iM)) (λ_=>by rw [hx];exact hf)
  refine ⟨H,by simp [PK.add],by simp [PK.add],?_,λc hc=>?_,λc hc=>?_,rfl,rfl,rfl⟩
  ·simp [PK.add,hx,h0,gq]
  ·simp only [PK.add,hx,h0,if_true,gq]
   split
   ·simp
   ·exact hc
  ·simp only [PK.add,hx,h0,if_true,gq] at hc
   split at hc
   ·rename_i e;exact .inl e
   ·exact .inr hc
 unfold j1
 split
 ·rename_i hk
  have hn:s.n=0\/s.n=1:=by
   rcases hs with h|h|h|h
   ·omega
   ·omega
   ·omega
   ·exact h.2
  exact jK _ rfl ⟨by simp,by simp,by simp only;omega,by simp only [AH];rcases hn with e|e<;>rw [e]<;>decide,λh=>by simp at h⟩ (by simp) (by simp)
 ·split
  ·rename_i nU hc
   obtain ⟨hk,hr,hg⟩:=hc
   have hn:0<=s.n/\s.n < k.parts.length:=by
    rcases hs with h|h|h|h
    ·omega
    ·omega
    ·exact h.2
    ·omega
   have aR:s.n.toNat < k.parts.length:=by omega
   have qU:k.parts[s.n.toNat]?=some k.parts[s.n.toNat]:=ep aR
   rw [ig,qU,n6] at hr hg
   have gm:∀(b:Nat) (x:Part),(AT k.parts s.n.toNat code)[b]?=some x->∃y,k.parts[b]?=some y/\x.ins=y.ins/\x.table=y.table/\x.b9=y.b9/\(b=s.n.toNat/\x.bh=code\/b≠s.n.toNat/\x=y):=by
    intro b x hx
    unfold AT at hx
    rw [SZ] at hx
    split at hx
    ·rename_i e
     cases hb:k.parts[b]? with
     | none=>rw [hb] at hx;cases hx
     | some y =>
      rw [hb] at hx
      simp at hx
      subst hx
      exact ⟨y,rfl,rfl,rfl,rfl,.inl ⟨e.symm,rfl⟩⟩
    ·rename_i e
     exact ⟨x,hx,rfl,rfl,rfl,.inr ⟨λh=>e h.symm,rfl⟩⟩
   have hlen:(AT k.parts s.n.toNat code).length=k.parts.length:=by simp [AT]
   have hold:∀c v,k.bL c=some v->c≠code:=λc v hv e=>by rw [e,hf] at hv;cases hv
   refine ⟨⟨h.nc,λu hu=>by simp only [hlen];exact h.cells u hu,λb x hx=>?_,λx hx u hu YI=>?_,λb x hx sO=>?_,λc v oV=>?_⟩,by simp only [hlen];omega,by simp only [hlen];omega,by simp [gq],λc hc=>?_,λc hc=>?_,rfl,rfl,rfl⟩
   ·obtain ⟨y,hy,e1,e2,e3,e4⟩:=gm b x hx
    obtain ⟨p,q⟩:=h.src b y hy
    refine ⟨?_,by rw [e1];exact q⟩
    rcases e4 with ⟨rfl,e4⟩|⟨_,rfl⟩
    ·rw [qU] at hy;cases hy
     exact ⟨by rw [e1];exact p.k,by rw [e3];exact p.b9,by rw [e4];omega,by rw [e1,e2];exact p.table,λh=>by rw [e3] at h;omega⟩
    ·exact p
   ·obtain ⟨b,hb⟩:=nC hx
    obtain ⟨y,hy,e1,_⟩:=gm b x hb
    exact h.l7 y (cb hy) u (by rw [<-e1];exact hu) YI
   ·simp only [gq]
    obtain ⟨y,hy,e1,e2,e3,e4⟩:=gm b x hx
    rcases e4 with ⟨rfl,e4⟩|⟨_,rfl⟩
    ·rw [if_pos e4];congr 1;omega
    ·have:=h.bL b x hy sO
     rw [if_neg (hold _ _ this)]
     exact this
   ·simp only [gq] at oV
    split at oV
    ·rename_i e
     cases oV
     refine ⟨s.n.toNat,by omega,{ k.parts[s.n.toNat] with bh:=code },?_,e.symm,by omega⟩
     simp only [AT]
     rw [SZ,if_pos rfl,qU]
     rfl
    ·obtain ⟨b,h2,y,h3,h4⟩:=h.back c v oV
     have cT:s.n.toNat≠b:=by
      intro e
      subst e
      rw [qU] at h3;cases h3
      omega
     refine ⟨b,h2,y,?_,h4⟩
     simp only [AT]
     rw [SZ,if_neg cT]
     exact h3
   ·simp only [gq]
    split
    ·simp
    ·exact hc
   ·simp only [gq] at hc
    split at hc
    ·rename_i e;exact .inl e
    ·exact .inr hc
  ·rename_i nU hc
   exact jK _ rfl ⟨by simp,by simp,by simp only;omega,by simp only [nZ];decide,λh=>by simp at h⟩ (λu hu=>by simp at hu;subst hu;exact hs) (λu hu=>by simp at hu;subst hu;exact nU)
theorem NS {n:Net} {m:gL} (hm:jI n m):∀(i:Nat),i<=m.cells.length ->
  oO n.ins i ((m.cells.take i).foldl (jt n.ins) ⟨[],[],false,false,λ_=>none⟩)/\(∀x∈((m.cells.take i).foldl (jt n.ins) ⟨[],[],false,false,λ_=>none⟩).parts,x.bh=-1) /\
  ((m.cells.take i).foldl (jt n.ins) ⟨[],[],false,false,λ_=>none⟩).parts.length<=i
 | 0,_=>by
  simp only [Ts,List.foldl_nil]
  exact ⟨⟨rfl,by simp,by simp,by simp,by simp,by simp⟩,by simp,by simp⟩
 | i+1,h=>by
  obtain ⟨h1,h2,h3⟩:=NS hm i (by omega)
  have hg:m.cells[i]?=some m.cells[i]:=ep (by omega)
  rw [El,hg]
  simp only [Option.toList_some,N3,vZ,List.foldl_nil]
  obtain ⟨g1,g2,g3⟩:=aon h1 h2 (hm.cells i _ hg)
  exact ⟨g1,g2,by omega⟩
theorem anG {v w:bU} {a b:Int} (hv:mD v a b) (hw:mD w a b) (k1:v.kind=1) (k2:w.kind=1) (h:lO v=lO w):v=w:=by
 obtain ⟨_,_,h1,h2,h3⟩:=hv
 obtain ⟨_,_,g1,g2,g3⟩:=hw
 cases v;cases w
 simp only [lO] at *
 subst k1;subst k2
 simp only [bU.mk.injEq,true_and]
 omega
def qO (l:List bU):List bU:=l.filter (λw=>w.kind=1)
theorem Oq {ins:List bU} {nc:Nat}:∀(wd:List (bU × Int)) (k:PK),oO ins nc k->(wd.map (·.1)).Nodup->(∀p∈wd,mD p.1 1 10/\(p.1.kind=1->p.1.i<=31))->(∀p∈wd,0<=p.2/\p.2 < 2+ins.length+nc) ->
  (∀p∈wd,p.1.kind=1->k.bL (lO p.1)=none) ->
  oO ins nc (wd.foldl (oN ins) k)/\(wd.foldl (oN ins) k).parts.length<=k.parts.length+(qO (wd.map (·.1))).length/\(∀c,k.bL c≠none->(wd.foldl (oN ins) k).bL c≠none) /\
  (∀p∈wd,p.1.kind=1->(wd.foldl (oN ins) k).bL (lO p.1)≠none)/\(k.n0=true->(wd.foldl (oN ins) k).n0=true)/\(k.n1=true->(wd.foldl (oN ins) k).n1=true) /\
  (∀p∈wd,p.1.kind≠1->(p.2=0->(wd.foldl (oN ins) k).n0=true)/\(p.2=1->(wd.foldl (oN ins) k).n1=true))/\(wd.foldl (oN ins) k).cells=k.cells
 | [],k,h,_,_,_,_=>⟨h,by simp,by simp,by simp,by simp,by simp,by simp,rfl⟩
 | p :: r,k,h,hn,hw,hd,hf=>by
  have ot:(r.map (·.1)).Nodup:=(rB.1 (by simpa using hn)).2
  have hp:p.1∉r.map (·.1):=(rB.1 (by simpa using hn)).1
  have hs:qf ins k.parts.length (gQ ins k.cells p.2):=Kc h.cells (hd p (by simp)).1 (by rw [h.nc];exact (hd p (by simp)).2)
  have YZ:=hw p (by simp)
  by_cases hk:p.1.kind=1
  ·have e:oN ins k p=j1 k (gQ ins k.cells p.2) (lO p.1):=by simp [oN,hk]
   have hb:=YZ.1
   have hi:=YZ.2 hk
   obtain ⟨b1,b2,b3,b4,b5⟩:=hb
   obtain ⟨g1,g2,g3,g4,g5,g6,g7,g8,g9⟩:=amc h hs (code:=lO p.1) (by unfold lO;omega) (by unfold lO;omega) (hf p (by simp) hk)
   obtain ⟨q1,q2,q3,q4,q5,q6,q7,q8⟩:=Oq r _ g1 ot (λx hx=>hw x (by simp [hx])) (λx hx=>hd x (by simp [hx])) (λx hx mu=>by
    cases rj:(j1 k (gQ ins k.cells p.2) (lO p.1)).bL (lO x.1) with
    | none=>rfl
    | some v =>
     rcases g6 _ (by rw [rj];simp) with e|e
     ·have:=anG (hw x (by simp [hx])).1 YZ.1 mu hk e
      exact absurd (kf.2 ⟨x,hx,this⟩) hp
     ·exact absurd (hf x (by simp [hx]) mu) e)
   simp only [vZ,e]
   have hl:(qO ((p :: r).map (·.1))).length=(qO (r.map (·.1))).length+1:=by simp [qO,hk]
   refine ⟨q1,by omega,λc hc=>q3 c (g5 c hc),λx hx mu=>?_,λe=>q5 (by rw [g7];exact e),λe=>q6 (by rw [g8];exact e),λx hx mu=>?_,by rw [q8,g9]⟩
   ·rcases ez.1 hx with rfl|hx
    ·exact q3 _ g4
    ·exact q4 x hx mu
   ·rcases ez.1 hx with rfl|hx
    ·exact absurd hk mu
    ·exact q7 x hx mu
  ·have e:oN ins k p={ k with n0:=k.n0||p.2 == 0,n1:=k.n1||p.2 == 1 }:=by simp [oN,hk]
   have g1:oO ins nc { k with n0:=k.n0||p.2 == 0,n1:=k.n1||p.2 == 1 } :=
    ⟨h.nc,h.cells,h.src,λx hx s hs hk=>⟨λe=>by simp [(h.l7 x hx s hs hk).1 e],λe=>by simp [(h.l7 x hx s hs hk).2 e]⟩,h.bL,h.back⟩
   obtain ⟨q1,q2,q3,q4,q5,q6,q7,q8⟩:=Oq r _ g1 ot (λx hx=>hw x (by simp [hx])) (λx hx=>hd x (by simp [hx])) (λx hx mu=>hf x (by simp [hx]) mu)
   simp only [vZ,e]
   have hl:(qO ((p :: r).map (·.1))).length=(qO (r.map (·.1))).length:=by simp [qO,hk]
   refine ⟨q1,by rw [hl];exact q2,q3,λx hx mu=>?_,λe=>q5 (by simp [e]),λe=>q6 (by simp [e]),λx hx mu=>?_,q8⟩
   ·rcases ez.1 hx with rfl|hx
    ·exact absurd mu hk
    ·exact q4 x hx mu
   ·rcases ez.1 hx with rfl|hx
    ·exact ⟨λe=>q5 (by simp [e]),λe=>q6 (by simp [e])⟩
    ·exact q7 x hx mu
theorem Ot {ins:List bU} {nc:Nat} {k:PK} (h:oO ins nc k) {v:Int} (hv:v=0\/v=1) (b:Bool):oO ins nc (oE k v b)/\(oE k v b).parts.length<=k.parts.length+1/\(∃e,(oE k v b).parts=k.parts++e) /\
  (oE k v b).bL=k.bL/\(oE k v b).n0=k.n0/\(oE k v b).n1=k.n1/\(oE k v b).cells=k.cells/\(b=true->(oE k v b).parts[k.parts.length]?=some ⟨[],v,-1,-1⟩):=by
 cases b with
 | false=>exact ⟨h,by simp [oE],⟨[],by simp [oE]⟩,rfl,rfl,rfl,rfl,λe=>by cases e⟩
 | true =>
  refine ⟨h.add ⟨by simp,by simp,by simp,by simp only [AH];rcases hv with e|e<;>rw [e]<;>decide,λh=>by simp at h⟩ (by simp) (a:=k.n0) (b:=k.n1) id id (by simp) (λh=>by simp at h),by simp [oE,PK.add],⟨_,rfl⟩,by simp [oE,PK.add],rfl,rfl,rfl,λ_=>by simp [oE,PK.add]⟩
def Jc (no:Nat) (thr:List Int->Option Source):Nat:=((List.range no).filter λ(i:Nat)=>(thr [0,(i:Int)]).isSome).length
structure FL (ins:List bU) (nc base:Nat) (t:TH):Prop where
 k:oO ins nc t.k
 len:t.k.parts.length<=base+Jc (others ins).length t.thr
 yG:∀s∈t.ay,s.kind≠0/\qf ins t.k.parts.length s/\(s.kind=3->(s.n=0->t.k.n0=true)/\(s.n=1->t.k.n1=true))
 thr:∀l u,t.thr l=some u->u.kind=2/\0<=u.n/\u.n < t.k.parts.length
theorem ae4 (no:Nat) (thr:List Int->Option Source):Jc no thr<=no:=by
 unfold Jc
 refine v9 (AA _ _) (by simp)
theorem aq7 {no:Nat} {thr:List Int->Option Source} {i:Nat} (hi:i < no) (hn:thr [0,(i:Int)]=none) (u:Source):Jc no thr+1<=Jc no (λj=>if j=[0,(i:Int)] then some u else thr j):=by
 unfold Jc
 have h1:(i :: (List.range no).filter λ(i:Nat)=>(thr [0,(i:Int)]).isSome).Nodup:=by
  refine rB.2 ⟨λh=>?_,N5.filter _⟩
  have:=(xG.1 h).2
  rw [hn] at this;cases this
 refine Ou h1 λx hx=>?_
 rcases ez.1 hx with rfl|hx
 ·exact xG.2 ⟨tX.2 hi,by simp⟩
 ·obtain ⟨g1,g2⟩:=xG.1 hx
  refine xG.2 ⟨g1,?_⟩
  simp only
  split
  ·rfl
  ·exact g2
theorem Hl {ins:List bU} {nc base:Nat}:∀(wd:List (bU × Int)) (t:TH),FL ins nc base t->(∀p∈wd,0<=p.2/\p.2 < 2+ins.length+nc) ->
  (∀p∈wd,p.1.kind≠1->(p.2=0->t.k.n0=true)/\(p.2=1->t.k.n1=true)) ->
  FL ins nc base (wd.foldl (nJ ins) t)/\(∃e,(wd.foldl (nJ ins) t).k.parts=t.k.parts++e)/\(wd.foldl (nJ ins) t).k.bL=t.k.bL/\(wd.foldl (nJ ins) t).k.n0=t.k.n0/\(wd.foldl (nJ ins) t).k.n1=t.k.n1 /\
  (wd.foldl (nJ ins) t).ay.length=t.ay.length+(others (wd.map (·.1))).length
 | [],t,h,_,_=>⟨h,⟨[],by simp⟩,rfl,rfl,rfl,by simp [others]⟩
 | p :: r,t,h,hd,hz=>by
  have Dz:∀q∈r,0<=q.2/\q.2 < 2+ins.length+nc:=λq hq=>hd q (by simp [hq])
  have hp:=hd p (by simp)
  have hs:qf ins t.k.parts.length (gQ ins t.k.cells p.2):=Kc h.k.cells hp.1 (by rw [h.k.nc];exact hp.2)
  simp only [vZ]
  by_cases hk:p.1.kind=1
  ·have e:nJ ins t p=t:=by simp [nJ,hk]
   have hl:others ((p :: r).map (·.1))=others (r.map (·.1)):=by simp [others,hk]
   rw [e,hl]
   exact Hl r t h Dz λq hq=>hz q (by simp [hq])
  ·have hl:(others ((p :: r).map (·.1))).length=(others (r.map (·.1))).length+1:=by simp [others,hk]
   have RD:=hz p (by simp) hk
   rw [hl]
   generalize uC:gQ ins t.k.cells p.2=s at hs
   by_cases h0:s.kind=0
   ·have hn:0<=s.n/\s.n < (others ins).length:=by
     rcases hs with g|g|g|g
     ·exact g.2
     ·omega
     ·omega
     ·omega
    have hsk:Bi s=[0,(s.n.toNat:Int)]:=by
     unfold Bi;rw [h0]
     congr 2;omega
    cases ht:t.thr (Bi s) with
    | some u =>
     have e:nJ ins t p={ t with ay:=t.ay++[u] }:=by simp [nJ,hk,uC,h0,ht]
     have hu:=h.thr _ _ ht
     rw [e]
     have H:FL ins nc base { t with ay:=t.ay++[u] }:=by
      refine ⟨h.k,h.len,λx hx=>?_,h.thr⟩
      rcases List.mem_append.1 hx with hx|hx
      ·exact h.yG x hx
      ·simp at hx;subst hx
       exact ⟨by omega,.inr (.inr (.inl hu)),λe=>by omega⟩
     obtain ⟨g1,g2,g3,g4,g5,g6⟩:=Hl r _ H Dz λq hq=>hz q (by simp [hq])
     exact ⟨g1,g2,g3,g4,g5,by rw [g6];simp;omega⟩
    | none =>
     have e:nJ ins t p={ k:=t.k.add ⟨[s],2,-1,-1⟩,ay:=t.ay++[t.k.here],thr:=λj=>if j=Bi s then some t.k.here else t.thr j }:=by simp [nJ,hk,uC,h0,ht]
     rw [e]
     have Dj:(t.k.add ⟨[s],2,-1,-1⟩).parts.length=t.k.parts.length+1:=by simp [PK.add]
     have H:FL ins nc base { k:=t.k.add ⟨[s],2,-1,-1⟩,ay:=t.ay++[t.k.here],thr:=λj=>if j=Bi s then some t.k.here else t.thr j }:=by
      refine ⟨h.k.add ⟨by simp,by simp,by simp,by simp only [nZ];decide,λh=>by simp at h⟩ (by simpa using hs) (a:=t.k.n0) (b:=t.k.n1) id id (λu hu e=>by simp at hu;subst hu;omega) (λh=>by simp at h),?_,λx hx=>?_,λl u RE=>?_⟩
      ·simp only [Dj]
       have:=aq7 (no:=(others ins).length) (thr:=t.thr) (i:=s.n.toNat) (by omega) (by rw [<-hsk];exact ht) t.k.here
       rw [hsk]
       have:=h.len
       omega
      ·simp only [Dj]
       rcases List.mem_append.1 hx with hx|hx
       ·obtain ⟨y1,y2,y3⟩:=h.yG x hx
        exact ⟨y1,y2.mono (by omega),y3⟩
       ·simp at hx;subst hx
        exact ⟨by simp [PK.here],.inr (.inr (.inl ⟨rfl,by simp [PK.here],by simp [PK.here];omega⟩)),λe=>by simp [PK.here] at e⟩
      ·simp only [Dj]
       simp only at RE
       split at RE
       ·cases RE
        exact ⟨rfl,by simp [PK.here],by simp [PK.here];omega⟩
       ·have:=h.thr l u RE
        exact ⟨this.1,this.2.1,by omega⟩
     obtain ⟨g1,⟨e2,g2⟩,g3,g4,g5,g6⟩:=Hl r _ H Dz λq hq=>hz q (by simp [hq])
     exact ⟨g1,⟨⟨[s],2,-1,-1⟩ :: e2,by rw [g2];simp [PK.add]⟩,by rw [g3];simp [PK.add],g4,g5,by rw [g6];simp;omega⟩
   ·have e:nJ ins t p={ t with ay:=t.ay++[s] }:=by simp [nJ,hk,uC,h0]
    rw [e]
    have H:FL ins nc base { t with ay:=t.ay++[s] }:=by
     refine ⟨h.k,h.len,λx hx=>?_,h.thr⟩
     rcases List.mem_append.1 hx with hx|hx
     ·exact h.yG x hx
     ·simp at hx;subst hx
      refine ⟨h0,hs,λh3=>?_⟩
      have:x.n=p.2:=by
       rw [<-uC] at h3 ⊢
       unfold gQ at h3 ⊢
       split at h3
       ·rename_i aR;rw [if_pos aR]
       ·exfalso
        rename_i aR
        split at h3
        ·simp only at h3
         split at h3<;>simp at h3
        ·rename_i bS
         have wF:(p.2 - 2 - ins.length).toNat < t.k.cells.length:=by rw [h.k.nc];omega
         rw [ig,ep wF,n6] at h3
         have:=h.k.cells _ (En wF)
         omega
      rw [this]
      exact RD
    obtain ⟨g1,g2,g3,g4,g5,g6⟩:=Hl r _ H Dz λq hq=>hz q (by simp [hq])
    exact ⟨g1,g2,g3,g4,g5,by rw [g6];simp;omega⟩
theorem acY {n:Nat} {v:Int} (h:0<=v):(cN n (n+2*v):Int)=v/\¬fv n (n+2*v):=by
 unfold cN fv;omega
theorem apO {n:Nat} {v:Int} (h:0<=v):(cN n (n+2*v+1):Int)=v/\fv n (n+2*v+1):=by
 unfold cN fv;omega
theorem ae5 {n:Net} {m:gL} (hm:jI n m):(n.outs.zip m.ay).map (·.1)=n.outs:=by
 rw [Tn];rw [hm.pA];exact cR _
theorem acZ {n:Net} (hn:eU n):(qO n.outs).length+(others n.ins).length<=n.ins.length:=by
 have h1:(qO n.outs).length<=(qO n.ins).length:=by
  refine Ou (hn.Lu.filter _) λw hw=>?_
  obtain ⟨a,b⟩:=xG.1 hw
  have b:w.kind=1:=by simpa using b
  exact xG.2 ⟨(hn.aN w b).2 a,by simpa using b⟩
 have h2:∀l:List bU,(qO l).length+(others l).length=l.length:=by
  intro l
  induction l with
  | nil=>rfl
  | cons x r ih =>
   by_cases hx:x.kind=1
   ·simp [qO,others,hx] at ih ⊢;omega
   ·simp [qO,others,hx] at ih ⊢;omega
 have:=h2 n.ins
 omega
structure Vr (n:Net) (nc:Nat) (d:Lv):Prop where
 k:oO n.ins nc d.t.k
 len:d.t.k.parts.length<=600
 bL:∀w∈n.ins,w.kind=1->d.t.k.bL (lO w)≠none
 c0:d.t.k.n0=true->∃b:Nat,d.c0=b/\d.t.k.parts[b]?=some ⟨[],0,-1,-1⟩
 c1:d.t.k.n1=true->∃b:Nat,d.c1=b/\d.t.k.parts[b]?=some ⟨[],1,-1,-1⟩
 yG:∀s∈d.t.ay,s.kind≠0/\qf n.ins d.t.k.parts.length s/\(s.kind=3->(s.n=0->d.t.k.n0=true)/\(s.n=1->d.t.k.n1=true))
 pA:d.t.ay.length=(others n.outs).length
theorem ac0 {n:Net} {m:gL} (hn:eU n) (hm:jI n m):Vr n m.cells.length (oI n m):=by
 unfold oI
 obtain ⟨a1,a2,a3⟩:=NS hm m.cells.length (cR _)
 rw [kC] at a1 a2 a3
 simp only
 generalize eX:m.cells.foldl (jt n.ins) ⟨[],[],false,false,λ_=>none⟩=k1 at a1 a2 a3
 have DH:=ae5 hm
 have eS:∀p∈n.outs.zip m.ay,p.1∈n.outs/\p.2∈m.ay:=λp hp=>Tq hp
 have oX:∀p∈n.outs.zip m.ay,0<=p.2/\p.2 < 2+n.ins.length+m.cells.length:=λp hp=>hm.ay _ (eS p hp).2
 have lS:∀c,k1.bL c=none:=by
  intro c
  cases hc:k1.bL c with
  | none=>rfl
  | some v =>
   obtain ⟨b,_,x,hx,hr,h0⟩:=a1.back c v hc
   have:=a2 x (cb hx)
   omega
 obtain ⟨b1,b2,b3,b4,b5,b6,b7,b8⟩:=Oq (n.outs.zip m.ay) k1 a1 (by rw [DH];exact hn.Lu)
  (λp hp=>by
   have j4:=(eS p hp).1
   have:=hn.outs _ j4
   exact ⟨this.1,λhk=>(hn.ins _ ((hn.aN _ hk).2 j4)).2⟩)
  oX (λp hp hk=>lS _)
 rw [DH] at b2
 generalize mO:(n.outs.zip m.ay).foldl (oN n.ins) k1=k2 at b1 b2 b3 b4 b5 b6 b7 b8
 obtain ⟨c1,c2,⟨e1,c3⟩,c4,c5,c6,c7,c8⟩:=Ot b1 (v:=0) (.inl rfl) k2.n0
 generalize nU:oE k2 0 k2.n0=k3 at c1 c2 c3 c4 c5 c6 c7 c8
 obtain ⟨d1,d2,⟨e2,d3⟩,d4,d5,d6,d7,d8⟩:=Ot c1 (v:=1) (.inr rfl) k2.n1
 generalize RA:oE k3 1 k2.n1=k4 at d1 d2 d3 d4 d5 d6 d7 d8
 have DI:FL n.ins m.cells.length k4.parts.length ⟨k4,[],λ_=>none⟩:=by
  refine ⟨d1,by simp,by simp,λl u hu=>by cases hu⟩
 obtain ⟨f1,⟨e3,f2⟩,f3,f4,f5,f6⟩:=Hl (n.outs.zip m.ay) ⟨k4,[],λ_=>none⟩ DI oX (λp hp hk=>by
  have:=b7 p hp hk
  simp only
  rw [d5,c5,d6,c6]
  exact this)
 rw [DH] at f6
 generalize hT:(n.outs.zip m.ay).foldl (nJ n.ins) ⟨k4,[],λ_=>none⟩=T at f1 f2 f3 f4 f5 f6
 simp only at f2 f3 f4 f5 f6
 have VT:∀w∈n.ins,w.kind=1->T.k.bL (lO w)≠none:=by
  intro w hw hk
  rw [f3,d4,c4]
  have RB:=(hn.aN w hk).1 hw
  have:w∈(n.outs.zip m.ay).map (·.1):=by rw [DH];exact RB
  obtain ⟨p,hp,rfl⟩:=kf.1 this
  exact b4 p hp hk
 refine ⟨f1.k,?_,VT,λh=>?_,λh=>?_,f1.yG,by simpa using f6⟩
 ·have g1:=f1.len
  have g2:=ae4 (others n.ins).length T.thr
  have g3:=acZ hn
  have g4:=hn.pI
  have g5:=hm.dK
  show T.k.parts.length<=600
  omega
 ·rw [f4,d5,c5] at h
  have:=c8 h
  refine ⟨k2.parts.length,by simp only;rw [if_pos h],?_⟩
  simp only
  rw [f2,nY,d3,nY]
  ·exact this
  ·exact (bY.1 this).1
  ·rw [d3]
   have:=(bY.1 this).1
   simp only [gk];omega
 ·rw [f5,d6,c6] at h
  have:=d8 h
  refine ⟨k3.parts.length,by simp only;rw [if_pos h],?_⟩
  simp only
  rw [f2,nY]
  ·exact this
  ·exact (bY.1 this).1
structure V2 (p:bt) (b:Nat) (s:Int):Prop where
 u:kD p s
 r:(p.ins.length:Int)<=s->¬fv p.ins.length s->cN p.ins.length s < b\/∃y,p.blocks[cN p.ins.length s]?=some y/\y.ins=[]
theorem aec {n:Net} {m:gL} (hd:Vr n m.cells.length (oI n m)) {b:Nat} (hb:b<=(oI n m).t.k.parts.length) {s:Source} (hs:qf n.ins b s)
  (h3:s.kind=3->(s.n=0->(oI n m).t.k.n0=true)/\(s.n=1->(oI n m).t.k.n1=true)):V2 (l9 n m) b (Qx (others n.ins).length (oI n m) s):=by
 have eb:(l9 n m).blocks.length=(oI n m).t.k.parts.length:=by simp [l9]
 have Bk:(l9 n m).sigs=(others n.ins).length+2*((oI n m).t.k.parts.length:Int):=by unfold bt.sigs;rw [eb];rfl
 have bq:(l9 n m).ins.length=(others n.ins).length:=rfl
 have qU:∀(i:Nat) (x:Part),(oI n m).t.k.parts[i]?=some x->(l9 n m).blocks[i]?=some (HE (others n.ins).length (oI n m) x):=by
  intro i x hx
  simp [l9,m7,hx]
 have aii:∀(c:Int) (i:Nat) (v:Int),c=i->(oI n m).t.k.parts[i]?=some ⟨[],v,-1,-1⟩->V2 (l9 n m) b ((others n.ins).length+2*c):=by
  intro c i v hc hi
  have aR:=(bY.1 hi).1
  have he:=acY (n:=(others n.ins).length) (v:=c) (by omega)
  have jk:cN (others n.ins).length ((others n.ins).length+2*c)=i:=by omega
  refine ⟨⟨by omega,by rw [Bk];omega,λ_ hf=>absurd hf he.2⟩,λ_ _=>.inr ?_⟩
  rw [bq,jk]
  exact ⟨_,qU i _ hi,rfl⟩
 unfold Qx
 rcases hs with ⟨k,g1,g2⟩|⟨k,w,hw,hk,hc⟩|⟨k,g1,g2⟩|⟨k,g⟩
 ·rw [if_neg (by omega),if_neg (by omega),if_neg (by omega)]
  exact ⟨⟨g1,by rw [Bk];omega,λh=>by rw [bq] at h;omega⟩,λh=>by rw [bq] at h;omega⟩
 ·rw [if_pos k]
  have:=hd.bL w hw hk
  rw [<-hc] at this
  cases hv:(oI n m).t.k.bL s.n with
  | none=>exact absurd hv this
  | some v =>
   obtain ⟨i,hi,x,hx,hr,h0⟩:=hd.k.back _ _ hv
   have aR:=(bY.1 hx).1
   simp only [n6]
   have he:=apO (n:=(others n.ins).length) (v:=v) (by omega)
   have jk:cN (others n.ins).length ((others n.ins).length+2*v+1)=i:=by omega
   refine ⟨⟨by omega,by rw [Bk];omega,λ_ hf=>?_⟩,λ_ hf=>absurd he.2 hf⟩
   rw [bq,jk]
   exact ⟨_,qU i _ hx,by show 0<=x.bh;omega⟩
 ·rw [if_neg (by omega),if_pos k]
  have he:=acY (n:=(others n.ins).length) (v:=s.n) g1
  have jk:cN (others n.ins).length ((others n.ins).length+2*s.n) < b:=by omega
  refine ⟨⟨by omega,by rw [Bk];omega,λ_ hf=>absurd hf he.2⟩,λ_ _=>.inl ?_⟩
  rw [bq];exact jk
 ·rw [if_neg (by omega),if_neg (by omega),if_pos k]
  rcases g with e|e
  ·rw [if_pos e]
   obtain ⟨i,hi,hx⟩:=hd.c0 ((h3 k).1 e)
   exact aii _ i 0 hi hx
  ·rw [if_neg (by omega)]
   obtain ⟨i,hi,hx⟩:=hd.c1 ((h3 k).2 e)
   exact aii _ i 1 hi hx
def HT (p:bt) (b:Nat):Nat:=match p.blocks[b]? with
 | some x=>if x.ins=[] then 0 else b+1
 | none=>0
theorem aed {n:Net} {m:gL} (hn:eU n) (hm:jI n m):Shape (l9 n m)/\jH (l9 n m) (HT (l9 n m)):=by
 have hd:=ac0 hn hm
 have eb:(l9 n m).blocks.length=(oI n m).t.k.parts.length:=by simp [l9]
 have dN:∀(b:Nat) (y:Block),(l9 n m).blocks[b]?=some y->∃x,(oI n m).t.k.parts[b]?=some x/\y=HE (others n.ins).length (oI n m) x:=by
  intro b y hy
  simp only [l9,m7] at hy
  cases hx:(oI n m).t.k.parts[b]? with
  | none=>rw [hx] at hy;cases hy
  | some x=>rw [hx] at hy;cases hy;exact ⟨x,rfl,rfl⟩
 have qT:∀(b:Nat) (y:Block),(l9 n m).blocks[b]?=some y->zd y/\∀s∈y.ins,V2 (l9 n m) b s:=by
  intro b y hy
  obtain ⟨x,hx,rfl⟩:=dN b y hy
  obtain ⟨h1,h2⟩:=hd.k.src b x hx
  refine ⟨⟨by simpa [HE] using h1.k,h1.b9,h1.bh,by simpa [HE] using h1.table,λh=>?_⟩,λs hs=>?_⟩
  ·have:=h1.read h
   exact ⟨this.1,by simpa [HE] using this.2.1,this.2.2⟩
  ·obtain ⟨u,hu,rfl⟩:=kf.1 hs
   exact aec hd (Nat.le_of_lt (bY.1 hx).1) (h2 u hu) (hd.k.l7 x (cb hx) u hu)
 refine ⟨⟨by rw [eb];exact hd.len,?_,λs hs=>?_,λw hw=>?_,λw hw=>?_,λx hx=>?_,λx hx s hs=>?_,λi j x y hx hy h0 he=>?_⟩,λb x hx s hs bS lS=>?_⟩
 ·have:=hd.pA
  simpa [l9] using this
 ·obtain ⟨u,hu,rfl⟩:=kf.1 hs
  have:=hd.yG u hu
  exact (aec hd (cR _) this.2.1 this.2.2).u
 ·obtain ⟨a,b⟩:=xG.1 hw
  have b:w.kind≠1:=by simpa using b
  have:=hn.ins w a
  obtain ⟨⟨c1,c2,c3⟩,_⟩:=this
  exact ⟨by omega,c2,c3⟩
 ·obtain ⟨a,b⟩:=xG.1 hw
  have b:w.kind≠1:=by simpa using b
  have:=hn.outs w a
  obtain ⟨⟨c1,c2,c3⟩,h|h⟩:=this
  ·omega
  ·exact ⟨h,c2,c3⟩
 ·obtain ⟨b,hb⟩:=nC hx
  exact (qT b x hb).1
 ·obtain ⟨b,hb⟩:=nC hx
  exact ((qT b x hb).2 s hs).u
 ·obtain ⟨u,hu,rfl⟩:=dN i x hx
  obtain ⟨v,hv,rfl⟩:=dN j y hy
  have e1:=hd.k.bL i u hu h0
  have e2:=hd.k.bL j v hv (by have:u.bh=v.bh:=he;show 0<=v.bh;rw [<-this];exact h0)
  have:u.bh=v.bh:=he
  rw [this,e2] at e1
  simp at e1;omega
 ·have hr:=((qT b x hx).2 s hs).r bS lS
  have hb:HT (l9 n m) b=b+1:=by
   unfold HT
   rw [hx]
   simp only
   rw [if_neg]
   intro e
   rw [e] at hs;cases hs
  rw [hb]
  rcases hr with h|⟨y,hy,he⟩
  ·generalize hg:cN (l9 n m).ins.length s=c at h
   unfold HT
   split
   ·split<;>omega
   ·omega
  ·unfold HT
   rw [hy]
   simp only
   rw [if_pos he]
   omega
def Jd {A:Type} (r:Nat->Nat) (F:(Nat->A)->Nat->A):Prop:=∀f g b,(∀c,r c < r b->f c=g c)->F f b=F g b
def RG {A:Type} (F:(Nat->A)->Nat->A) (d:A):Nat->Nat->A
 | 0,_=>d
 | n+1,b=>F (RG F d n) b
theorem ae6 {A:Type} {r:Nat->Nat} {F:(Nat->A)->Nat->A} (h:Jd r F) (d:A):∀(n m b:Nat),r b < n->r b < m->RG F d n b=RG F d m b
 | 0,_,_,h0,_=>absurd h0 (Tr _)
 | _+1,0,_,_,h0=>absurd h0 (Tr _)
 | n+1,m+1,b,h1,h2=>h _ _ b λc hc=>ae6 h d n m c (by omega) (by omega)
def DJ {A:Type} (F:(Nat->A)->Nat->A) (K:Nat->A):Prop:=∀b,K b=F K b
theorem aoD {A:Type} {r:Nat->Nat} {F:(Nat->A)->Nat->A} (h:Jd r F) (d:A):DJ F λb=>RG F d (r b+1) b:=by
 intro b
 show F _ b=_
 exact h _ _ b λc hc=>ae6 h d _ _ c hc (by omega)
noncomputable def fixF {A:Type} [Nonempty A] (F:(Nat->A)->Nat->A):Nat->A:=Classical.epsilon (DJ F)
theorem Uk {A:Type} [hn:Nonempty A] {r:Nat->Nat} {F:(Nat->A)->Nat->A} (h:Jd r F):DJ F (fixF F) :=
 Classical.epsilon_spec ⟨_,aoD h (Classical.choice hn)⟩
theorem amV {A:Type} {r:Nat->Nat} {F:(Nat->A)->Nat->A} (h:Jd r F) {K L:Nat->A} (hK:DJ F K) (hL:DJ F L) (b:Nat):K b=L b:=by
 have:∀n b,r b < n->K b=L b:=by
  intro n
  induction n with
  | zero=>intro b h0;exact absurd h0 (Tr _)
  | succ n ih =>
   intro b hb
   rw [hK b,hL b]
   exact h _ _ b λc hc=>ih c (by omega)
 exact this (r b+1) b (by omega)
def aij (h w:Int):Int:=IntKind.u64.wrap ((BitVec.ofInt 64 h ^^^ BitVec.ofInt 64 w).toNat:Nat)
def aik (h w:Int):Int:=IntKind.u64.wrap (aij h w*15485907386658061715)
def agj (h w:Int):Int:=IntKind.u64.wrap (aij (aik h w) ((aik h w).fdiv (2^(min (32:Int).toNat IntKind.u64.bits)))*11562461410679940143)
theorem agk:∃f:Int->Int->Int,f=agj:=⟨_,rfl⟩
noncomputable def P6:Int->Int->Int:=Classical.choose agk
theorem ac1:P6=agj:=xF agk
noncomputable def Fi (h:Int) (l:List Int):Int:=l.foldl (λh n=>P6 h (IntKind.u64.wrap n)) h
noncomputable def iw (l:List Int):Int:=P6 (Fi 512970876019 l) (IntKind.u64.wrap l.length)
noncomputable def K8 (p:bt) (s:Int):Int:=let w:=p.ins.getD s.toNat ⟨0,0,0⟩;iw [2,w.kind,w.i,w.bit]
noncomputable def FM (p:bt) (K:Nat->Int) (b:Nat):Int:=match p.blocks[b]? with
 | some x=>if 0<=x.bh then iw [3,x.bh] else K b
 | none=>0
noncomputable def HU (p:bt) (b:Nat):Int:=match p.blocks[b]? with
 | some x=>if 0<=x.bh then iw [1,x.bh] else 0
 | none=>0
instance (n:Nat) (s:Int):Decidable (fv n s):=inferInstanceAs (Decidable ((s - n) % 2=1))
noncomputable def zH (p:bt) (K:Nat->Int) (s:Int):Int :=
 if s < p.ins.length then K8 p s else if fv p.ins.length s then HU p (cN p.ins.length s) else FM p K (cN p.ins.length s)
noncomputable def LX (p:bt) (K:Nat->Int) (x:Block):Int:=iw (4 :: x.table :: x.b9 :: x.ins.map λs=>IntKind.i64.wrap (zH p K s))
noncomputable def wM (p:bt) (K:Nat->Int) (b:Nat):Int:=match p.blocks[b]? with
 | some x=>if 0<=x.bh then 0 else LX p K x
 | none=>0
noncomputable def sJ (p:bt):Nat->Int:=fixF (wM p)
noncomputable def C9 (p:bt) (K:Nat->Int) (b:Nat):Int:=match p.blocks[b]? with
 | some x=>if 0<=x.bh then iw [1,x.bh] else K b
 | none=>0
noncomputable def lx (p:bt):List Int:=(List.range p.blocks.length).map (C9 p (sJ p))
theorem map_eq {α β:Type} {f g:α->β} {l:List α} (h:∀x∈l,f x=g x):l.map f=l.map g:=vX h
theorem Ul {p:bt} {r:Nat->Nat} (hr:jH p r):Jd r (wM p):=by
 intro f g b h
 unfold wM
 cases hb:p.blocks[b]? with
 | none=>rfl
 | some x =>
  simp only
  split
  ·rfl
  ·unfold LX
   congr 3
   congr 1
   refine map_eq λs hs=>?_
   congr 1
   unfold zH
   split
   ·rfl
   ·split
    ·rfl
    ·rename_i h1 h2
     have:=hr b x hb s hs (by omega) h2
     unfold FM
     split
     ·split
      ·rfl
      ·exact h _ this
     ·rfl
def FN (v k:Int):Bool:=Vc.aV (Vc.kT .and .i64 (v.fdiv (2^(min k.toNat IntKind.i64.bits))) 1) 1
def zI (s:jB) (r:Int):Bool:=decide (0<=r)&&decide (r / 8 < s.aN.length)&&FN (s.aN.getD (r / 8).toNat 0) (r % 8)
def yd (l:List Bool):Nat->Int
 | 0=>0
 | i+1=>if l.getD i false then Vc.kT .or .i64 (yd l i) (IntKind.i64.wrap (1*2^(min ((i:Int)).toNat IntKind.i64.bits))) else yd l i
def Iv (l:List Bool):Int:=yd l l.length
def zt (table:Int) (l:List Bool):Bool:=if 5 < l.length then false else FN table (Iv l)
def Fj (s:jB) (b9:Int) (l:List Bool):Bool:=match s.bf[(b9 / 8).toNat]? with
 | some m=>match m[(Iv l).toNat]? with
  | some v=>FN v (b9 % 8)
  | none=>false
 | none=>false
def V4 (p:bt) (s:jB) (b:Nat):Bool:=match p.blocks[b]? with
 | some x=>zI s x.bh
 | none=>false
def yf (p:bt) (dc:List Bool) (s:jB) (V:Nat->Bool) (g:Int):Bool :=
 if g < p.ins.length then dc.getD g.toNat false else if fv p.ins.length g then V4 p s (cN p.ins.length g) else V (cN p.ins.length g)
def Xt (p:bt) (dc:List Bool) (s:jB) (V:Nat->Bool) (x:Block):Bool :=
 if x.b9 < 0 then zt x.table (x.ins.map (yf p dc s V)) else Fj s x.b9 (x.ins.map (yf p dc s V))
def Iw (p:bt) (dc:List Bool) (s:jB) (V:Nat->Bool) (b:Nat):Bool:=match p.blocks[b]? with
 | some x=>Xt p dc s V x
 | none=>false
noncomputable def Da (p:bt) (dc:List Bool) (s:jB):Nat->Bool:=fixF (Iw p dc s)
noncomputable def zu (p:bt) (dc:List Bool) (s:jB):List Bool:=(List.range (p.ins.length+2*p.blocks.length)).map λ(i:Nat)=>yf p dc s (Da p dc s) i
theorem aoE {p:bt} {r:Nat->Nat} (hr:jH p r) (dc:List Bool) (s:jB):Jd r (Iw p dc s):=by
 intro f g b h
 unfold Iw
 cases hb:p.blocks[b]? with
 | none=>rfl
 | some x =>
  have:x.ins.map (yf p dc s f)=x.ins.map (yf p dc s g):=by
   refine map_eq λu hu=>?_
   unfold yf
   split
   ·rfl
   ·split
    ·rfl
    ·rename_i h1 h2
     exact h _ (hr b x hb u hu (by omega) h2)
  simp only
  unfold Xt
  rw [this]
structure Pr where
 asz:Bool
 s:jB
 tr:List Bool
 ec:List Head
structure lM (n:Nat) (l:List Int):Prop where
 len:l.length=n
 Je:∀x∈l,0<=x/\x < n
 nd:l.Nodup
def nw (l:List Int) (i:Nat):Nat:=(l.getD i 0).toNat
theorem lM.get {n:Nat} {l:List Int} (h:lM n l) {i:Nat} (hi:i < n):l[i]?=some (nw l i:Int)/\nw l i < n:=by
 have hl:i < l.length:=by rw [h.len];exact hi
 have:=h.Je _ (En hl)
 unfold nw
 rw [ig,ep hl,n6]
 refine ⟨?_,by omega⟩
 congr 1;omega
theorem lM.inj {n:Nat} {l:List Int} (h:lM n l) {i j:Nat} (hi:i < n) (hj:j < n) (e:nw l i=nw l j):i=j:=by
 have h1:=(h.get hi).1
 have h2:=(h.get hj).1
 rw [<-e] at h2
 have:=h.nd
 rw [JZ,J1] at this
 have bq:i < l.length:=by rw [h.len];exact hi
 have eE:j < l.length:=by rw [h.len];exact hj
 rw [ep bq] at h1
 rw [ep eE] at h2
 cases Tf i j with
 | inl aR=>exact absurd ((Cj h1).trans (Cj h2).symm) (this i j bq eE aR)
 | inr bS=>cases bS with
  | inl he=>exact he
  | inr aR=>exact absurd ((Cj h2).trans (Cj h1).symm) (this j i eE bq aR)
theorem aoF {n:Nat} {l:List Int} (h:lM n l):l.map (·.toNat)=(List.range n).map (nw l):=by
 apply n5
 intro i
 rw [m7,m7]
 by_cases hi:i < n
 ·rw [(h.get hi).1,GW hi];simp
 ·rw [mA (by rw [h.len];omega),mA (by simp;omega)];rfl
theorem anH {α β:Type} {f:α->β} {l:List α} (h:∀x∈l,∀y∈l,f x=f y->x=y) (hn:l.Nodup):(l.map f).Nodup:=by
 induction l with
 | nil=>simp
 | cons x r ih =>
  obtain ⟨h1,h2⟩:=rB.1 hn
  rw [lY,rB]
  refine ⟨λhm=>?_,ih (λa ha b hb=>h a (by simp [ha]) b (by simp [hb])) h2⟩
  obtain ⟨y,hy,e⟩:=kf.1 hm
  have:=h y (by simp [hy]) x (by simp) e
  subst this
  exact h1 hy
theorem lM.perm {n:Nat} {l:List Int} (h:lM n l):((List.range n).map (nw l)).Perm (List.range n):=by
 have gG:((List.range n).map (nw l)).Nodup:=anH (λi hi j hj e=>h.inj (tX.1 hi) (tX.1 hj) e) N5
 rw [S3 gG N5]
 intro b
 constructor
 ·intro hb
  obtain ⟨i,hi,rfl⟩:=kf.1 hb
  exact tX.2 (h.get (tX.1 hi)).2
 ·intro hb
  by_cases hm:b∈(List.range n).map (nw l)
  ·exact hm
  ·have h1:(b :: (List.range n).map (nw l)).Nodup:=rB.2 ⟨hm,gG⟩
   have h2:=Ou (l₂:=List.range n) h1 (λx hx=>by
    rcases ez.1 hx with rfl|hx
    ·exact hb
    ·obtain ⟨i,hi,rfl⟩:=kf.1 hx
     exact tX.2 (h.get (tX.1 hi)).2)
   simp at h2
   omega
theorem lM.ail {n:Nat} {l:List Int} (h:lM n l) {b:Nat} (hb:b < n):∃i,i < n/\nw l i=b:=by
 have:=h.perm.mem_iff.2 (tX.2 hb)
 obtain ⟨i,hi,e⟩:=kf.1 this
 exact ⟨i,tX.1 hi,e⟩
noncomputable def carry {A:Type} (n:Nat) (l:List Int) (d:A) (K:Nat->A) (b:Nat):A:=if h:∃i,i < n/\nw l i=b then K (Classical.choose h) else d
theorem Kf {A:Type} {n:Nat} {l:List Int} (h:lM n l) (d:A) (K:Nat->A) {i:Nat} (hi:i < n):carry n l d K (nw l i)=K i:=by
 have hex:∃j,j < n/\nw l j=nw l i:=⟨i,hi,rfl⟩
 unfold carry
 rw [dif_pos hex]
 have:=xF hex
 rw [h.inj this.1 hi this.2]
theorem aoG {A:Type} {n:Nat} {l:List Int} (h:lM n l) (d:A) (K:Nat->A) {b:Nat} (hb:n<=b):carry n l d K b=d:=by
 unfold carry
 rw [dif_neg]
 rintro ⟨i,hi,e⟩
 have:=(h.get hi).2
 omega
def nL (p:bt) (l:List Int) (s:Int):Int:=if s < p.ins.length then s else p.ins.length+2*l.getD (cN p.ins.length s) 0+(s - p.ins.length) % 2
def AW (p:bt) (l:List Int) (x:Block):Block:={ x with ins:=x.ins.map (nL p l) }
def FO:Block:=⟨[],0,0,0,0⟩
def n9 (p:bt) (l:List Int):bt :=
 ⟨p.ins,(l.zip p.blocks).foldl (λb u=>b.set u.1.toNat (AW p l u.2)) (List.replicate p.blocks.length FO),p.outs,p.ay.map (nL p l)⟩
theorem SN {f:Block->Block}:∀(w:List (Int × Block)) (b:List Block),(w.foldl (λb u=>b.set u.1.toNat (f u.2)) b).length=b.length
 | [],b=>rfl
 | u :: r,b=>by simp only [vZ];rw [SN r];simp
theorem aa7 {f:Block->Block}:∀(w:List (Int × Block)) (b:List Block) (k:Nat),(∀u∈w,u.1.toNat≠k)->(w.foldl (λb u=>b.set u.1.toNat (f u.2)) b)[k]?=b[k]?
 | [],b,k,_=>rfl
 | u :: r,b,k,h=>by
  simp only [vZ]
  rw [aa7 r _ k λv hv=>h v (by simp [hv]),eY (h u (by simp))]
theorem aa8 {f:Block->Block}:∀(w:List (Int × Block)) (b:List Block),(w.map λu=>u.1.toNat).Nodup->(∀u∈w,u.1.toNat < b.length)->∀u∈w,(w.foldl (λb u=>b.set u.1.toNat (f u.2)) b)[u.1.toNat]?=some (f u.2)
 | [],b,_,_,u,hu=>by cases hu
 | v :: r,b,hn,hl,u,hu=>by
  rw [lY,rB] at hn
  simp only [vZ]
  rcases ez.1 hu with rfl|hu
  ·rw [aa7 r _ _ λx hx e=>hn.1 (kf.2 ⟨x,hx,e⟩),qM (hl _ (by simp))]
  ·exact aa8 r _ hn.2 (λx hx=>by rw [kO];exact hl x (by simp [hx])) u hu
theorem G9 (p:bt) (l:List Int):(n9 p l).blocks.length=p.blocks.length:=by
 unfold n9;simp only;rw [SN];simp
theorem Kg {p:bt} {l:List Int} (h:lM p.blocks.length l) {i:Nat} {x:Block} (hx:p.blocks[i]?=some x):(n9 p l).blocks[nw l i]?=some (AW p l x):=by
 have hi:=(bY.1 hx).1
 have hg:=(h.get hi).1
 have hz:l.map (·.toNat)=(l.zip p.blocks).map λu=>u.1.toNat:=by
  have:l=(l.zip p.blocks).map (·.1):=by rw [Tn];rw [h.len];exact cR _
  conv=>lhs;rw [this]
  rw [G3];rfl
 have hu:((nw l i:Int),x)∈l.zip p.blocks:=by
  refine cb (i:=i) ?_
  rw [NU]
  exact ⟨hg,hx⟩
 have:=aa8 (f:=AW p l) (l.zip p.blocks) (List.replicate p.blocks.length FO) (by
  rw [<-hz,aoF h]
  exact (h.perm.nodup_iff).2 N5) (λu hu=>by
  have:=h.Je u.1 (Tq hu).1
  simp;omega) _ hu
 simp only [pf] at this
 exact this
theorem Ha {p:bt} {l:List Int} (h:lM p.blocks.length l) {b:Nat} {y:Block} (hy:(n9 p l).blocks[b]?=some y):∃i x,p.blocks[i]?=some x/\y=AW p l x/\nw l i=b/\i < p.blocks.length:=by
 have hb:=(bY.1 hy).1
 rw [G9] at hb
 obtain ⟨i,hi,rfl⟩:=h.ail hb
 have hx:p.blocks[i]?=some p.blocks[i]:=ep hi
 rw [Kg h hx] at hy
 exact ⟨i,_,hx,(Cj hy).symm,rfl,hi⟩
structure asA (p:bt) (l:List Int) (s:Int):Prop where
 lo:s < p.ins.length->nL p l s=s
 ge:(p.ins.length:Int)<=s->(p.ins.length:Int)<=nL p l s/\nL p l s < p.sigs/\cN p.ins.length (nL p l s)=nw l (cN p.ins.length s)/\(fv p.ins.length (nL p l s)↔fv p.ins.length s)/\cN p.ins.length s < p.blocks.length
theorem UP {p:bt} {l:List Int} (h:lM p.blocks.length l) {s:Int} (h0:0<=s) (h1:s < p.sigs):asA p l s:=by
 refine ⟨λaR=>by unfold nL;rw [if_pos aR],λbS=>?_⟩
 unfold bt.sigs at h1 ⊢
 have hb:cN p.ins.length s < p.blocks.length:=by unfold cN;omega
 have hg:=h.get hb
 have:l.getD (cN p.ins.length s) 0=nw l (cN p.ins.length s):=by rw [ig,hg.1,n6]
 unfold nL
 rw [if_neg (by omega),this]
 generalize hv:nw l (cN p.ins.length s)=v at hg
 have jV:=hg.2
 generalize zW:cN p.ins.length s=bb at hb
 unfold cN fv
 omega
theorem aaw {p:bt} {l:List Int} (h:lM p.blocks.length l) {s:Int} (hu:kD p s):kD (n9 p l) (nL p l s):=by
 have hr:=UP h hu.lo hu.hi
 have Bk:(n9 p l).sigs=p.sigs:=by unfold bt.sigs;rw [G9];rfl
 by_cases aR:s < p.ins.length
 ·rw [hr.lo aR]
  exact ⟨hu.lo,by rw [Bk];exact hu.hi,λbS _=>absurd aR (by have:(p.ins.length:Int)<=s:=bS;omega)⟩
 ·obtain ⟨g1,g2,g3,g4,g5⟩:=hr.ge (by omega)
  refine ⟨by omega,by rw [Bk];exact g2,λ_ hf=>?_⟩
  obtain ⟨x,hx,gz⟩:=hu.flip (by omega) (g4.1 hf)
  refine ⟨_,?_,(show 0<=(AW p l x).bh from gz)⟩
  show (n9 p l).blocks[cN p.ins.length (nL p l s)]?=_
  rw [g3]
  exact Kg h hx
theorem amz {p:bt} {l:List Int} (h:lM p.blocks.length l) (hs:Shape p):Shape (n9 p l):=by
 refine ⟨by rw [G9];exact hs.dK,?_,λs iM=>?_,hs.ins,hs.outs,λy hy=>?_,λy hy s iM=>?_,λi j x y hx hy h0 he=>?_⟩
 ·have:=hs.pA
  simpa [n9] using this
 ·obtain ⟨u,hu,rfl⟩:=kf.1 iM
  exact aaw h (hs.ay u hu)
 ·obtain ⟨b,hb⟩:=nC hy
  obtain ⟨i,x,hx,rfl,rfl,hi⟩:=Ha h hb
  have:=hs.formed x (cb hx)
  exact ⟨by simpa [AW] using this.k,this.b9,this.bh,by simpa [AW] using this.table,λg=>by simpa [AW] using this.read g⟩
 ·obtain ⟨b,hb⟩:=nC hy
  obtain ⟨i,x,hx,rfl,rfl,hi⟩:=Ha h hb
  obtain ⟨u,hu,rfl⟩:=kf.1 iM
  exact aaw h (hs.used x (cb hx) u hu)
 ·obtain ⟨a,x',vx,rfl,rfl,hi⟩:=Ha h hx
  obtain ⟨c,y',Bv,rfl,rfl,hj⟩:=Ha h hy
  rw [hs.aN a c x' y' vx Bv h0 he]
theorem aax {p:bt} {l:List Int} (h:lM p.blocks.length l) (hs:Shape p) {r:Nat->Nat} (hr:jH p r):jH (n9 p l) (carry p.blocks.length l 0 r):=by
 intro b y hy s iM bS lS
 obtain ⟨i,x,hx,rfl,rfl,hi⟩:=Ha h hy
 obtain ⟨u,hu,rfl⟩:=kf.1 iM
 have pD:=hs.used x (cb hx) u hu
 have wU:=UP h pD.lo pD.hi
 have bS:(p.ins.length:Int)<=nL p l u:=bS
 have uK:(p.ins.length:Int)<=u:=by
  by_cases aR:u < p.ins.length
  ·rw [wU.lo aR] at bS;exact bS
  ·omega
 obtain ⟨g1,g2,g3,g4,g5⟩:=wU.ge uK
 show carry p.blocks.length l 0 r (cN p.ins.length (nL p l u)) < _
 rw [g3,Kf h 0 r g5,Kf h 0 r hi]
 exact hr i x hx u hu uK (λhf=>lS (g4.2 hf))
theorem amW {p:bt} {l:List Int} (h:lM p.blocks.length l) {K L:Nat->Int} (hK:∀i,i < p.blocks.length->L (nw l i)=K i) {s:Int} (h0:0<=s) (h1:s < p.sigs):zH (n9 p l) L (nL p l s)=zH p K s:=by
 have wU:=UP h h0 h1
 unfold zH
 by_cases aR:s < p.ins.length
 ·rw [wU.lo aR,if_pos aR,if_pos (show s < ((n9 p l).ins.length:Int) from aR)];rfl
 ·obtain ⟨g1,g2,g3,g4,g5⟩:=wU.ge (by omega)
  have e:(n9 p l).ins.length=p.ins.length:=rfl
  rw [if_neg (by rw [e];omega),if_neg aR]
  have hx:p.blocks[cN p.ins.length s]?=some p.blocks[cN p.ins.length s]:=ep g5
  have hq:=Kg h hx
  have hp:(fv (n9 p l).ins.length (nL p l s))=fv p.ins.length s:=propext g4
  by_cases hf:fv p.ins.length s
  ·rw [if_pos hf,if_pos (by rw [hp];exact hf)]
   unfold HU
   rw [e,g3,hq,hx]
   rfl
  ·rw [if_neg hf,if_neg (by rw [hp];exact hf)]
   unfold FM
   rw [e,g3,hq,hx,hK _ g5]
   rfl
theorem ac2 {p:bt} {r:Nat->Nat} (hr:jH p r):DJ (wM p) (sJ p):=Uk (Ul hr)
theorem amX {p:bt} {l:List Int} (h:lM p.blocks.length l) (hs:Shape p) {r:Nat->Nat} (hr:jH p r) {i:Nat} (hi:i < p.blocks.length):sJ (n9 p l) (nw l i)=sJ p i:=by
 have sM:=aax h hs hr
 have avg:DJ (wM (n9 p l)) (carry p.blocks.length l 0 (sJ p)):=by
  intro b
  by_cases hb:b < p.blocks.length
  ·obtain ⟨j,hj,rfl⟩:=h.ail hb
   rw [Kf h 0 _ hj,ac2 hr j]
   have hx:p.blocks[j]?=some p.blocks[j]:=ep hj
   unfold wM
   rw [hx,Kg h hx]
   simp only
   show _=if 0<=(p.blocks[j]).bh then 0 else _
   split
   ·rfl
   ·unfold LX
    show iw (4 :: p.blocks[j].table :: p.blocks[j].b9 :: _)=iw (4 :: p.blocks[j].table :: p.blocks[j].b9 :: (p.blocks[j].ins.map (nL p l)).map _)
    rw [G3]
    congr 3
    congr 1
    refine map_eq λs iM=>?_
    have pD:=hs.used _ (En hj) s iM
    simp only [Function.comp]
    rw [amW h (λi hi=>Kf h 0 _ hi) pD.lo pD.hi]
  ·rw [aoG h 0 _ (by omega)]
   unfold wM
   rw [mA (by rw [G9];omega)]
 rw [amV (Ul sM) (ac2 sM) avg,Kf h 0 _ hi]
theorem TR (p:bt):(lx p).length=p.blocks.length:=by simp [lx]
theorem OE {p:bt} {i:Nat} (hi:i < p.blocks.length):(lx p)[i]?=some (C9 p (sJ p) i):=by
 unfold lx;rw [m7,GW hi];rfl
theorem amA {p:bt} {l:List Int} (h:lM p.blocks.length l) (hs:Shape p) {r:Nat->Nat} (hr:jH p r) {i:Nat} (hi:i < p.blocks.length):(lx (n9 p l))[nw l i]?=(lx p)[i]?:=by
 have hx:p.blocks[i]?=some p.blocks[i]:=ep hi
 rw [OE hi,OE (by rw [G9];exact (h.get hi).2)]
 congr 1
 unfold C9
 rw [hx,Kg h hx,amX h hs hr hi]
 rfl
theorem ac3 {p:bt} {r:Nat->Nat} (hr:jH p r) (dc:List Bool) (st:jB):DJ (Iw p dc st) (Da p dc st):=Uk (aoE hr dc st)
def Ix (ks:List Int) (i:Nat) (x:Block):Block:={ x with key:=ks.getD i 0 }
def rE (p:bt) (ks:List Int):bt:={ p with blocks:=p.blocks.mapIdx (Ix ks) }
noncomputable def sw (n:Net) (m:gL):bt:=rE (l9 n m) (lx (l9 n m))
def K9 (p:bt):Prop:=∀(i:Nat) (x:Block),p.blocks[i]?=some x->(lx p)[i]?=some x.key
theorem JJ {p:bt} {ks:List Int} {i:Nat} {x:Block} (h:p.blocks[i]?=some x):(rE p ks).blocks[i]?=some (Ix ks i x):=by
 unfold rE;simp only [AE,h,yY]
theorem GQ {p:bt} {ks:List Int} {i:Nat} {y:Block} (h:(rE p ks).blocks[i]?=some y):∃x,p.blocks[i]?=some x/\y=Ix ks i x:=by
 unfold rE at h
 simp only [AE] at h
 cases hx:p.blocks[i]? with
 | none=>rw [hx] at h;cases h
 | some x=>rw [hx] at h;cases h;exact ⟨x,rfl,rfl⟩
theorem Ei (p:bt) (ks:List Int):(rE p ks).blocks.length=p.blocks.length:=by simp [rE]
theorem aaM {p:bt} {ks:List Int} {s:Int} (h:kD p s):kD (rE p ks) s:=by
 refine ⟨h.lo,?_,λa b=>?_⟩
 ·have:=h.hi
  unfold bt.sigs at this ⊢
  rw [Ei]
  exact this
 ·obtain ⟨x,hx,h0⟩:=h.flip a b
  exact ⟨_,JJ hx,h0⟩
theorem amY {p:bt} {ks:List Int} (h:Shape p):Shape (rE p ks):=by
 refine ⟨by rw [Ei];exact h.dK,h.pA,λs hs=>aaM (h.ay s hs),h.ins,h.outs,λy hy=>?_,λy hy s hs=>?_,λi j x y hx hy h0 he=>?_⟩
 ·obtain ⟨b,hb⟩:=nC hy
  obtain ⟨x,hx,rfl⟩:=GQ hb
  have:=h.formed x (cb hx)
  exact ⟨this.k,this.b9,this.bh,this.table,this.read⟩
 ·obtain ⟨b,hb⟩:=nC hy
  obtain ⟨x,hx,rfl⟩:=GQ hb
  exact aaM (h.used x (cb hx) s hs)
 ·obtain ⟨x',vx,rfl⟩:=GQ hx
  obtain ⟨y',Bv,rfl⟩:=GQ hy
  exact h.aN i j x' y' vx Bv h0 he
theorem amB {p:bt} {ks:List Int} {r:Nat->Nat} (h:jH p r):jH (rE p ks) r:=by
 intro b y hy s hs bS lS
 obtain ⟨x,hx,rfl⟩:=GQ hy
 exact h b x hx s hs bS lS
theorem amZ (p:bt) (ks:List Int):lx (rE p ks)=lx p:=by
 have asB:HU (rE p ks)=HU p:=by
  funext b
  unfold HU
  cases hx:p.blocks[b]? with
  | none=>rw [mA (by rw [Ei];exact J0.1 hx)]
  | some x=>rw [JJ hx];rfl
 have CQ:FM (rE p ks)=FM p:=by
  funext K b
  unfold FM
  cases hx:p.blocks[b]? with
  | none=>rw [mA (by rw [Ei];exact J0.1 hx)]
  | some x=>rw [JJ hx];rfl
 have Bk:zH (rE p ks)=zH p:=by
  funext K s
  unfold zH
  rw [asB,CQ]
  rfl
 have hF:wM (rE p ks)=wM p:=by
  funext K b
  unfold wM
  cases hx:p.blocks[b]? with
  | none=>rw [mA (by rw [Ei];exact J0.1 hx)]
  | some x =>
   rw [JJ hx]
   simp only
   unfold LX
   rw [Bk]
   rfl
 have bW:C9 (rE p ks)=C9 p:=by
  funext K b
  unfold C9
  cases hx:p.blocks[b]? with
  | none=>rw [mA (by rw [Ei];exact J0.1 hx)]
  | some x=>rw [JJ hx];rfl
 unfold lx sJ
 rw [Ei,bW,hF]
theorem am0 (p:bt):K9 (rE p (lx p)):=by
 intro i y hy
 obtain ⟨x,hx,rfl⟩:=GQ hy
 rw [amZ]
 have hi:=(bY.1 hx).1
 show _=some ((lx p).getD i 0)
 rw [ig,OE hi]
 rfl
theorem Um {n:Net} {m:gL} (hn:eU n) (hm:jI n m):Shape (sw n m)/\jH (sw n m) (HT (l9 n m))/\K9 (sw n m):=by
 obtain ⟨h1,h2⟩:=aed hn hm
 exact ⟨amY h1,amB h2,am0 _⟩
theorem amC {p:bt} {l:List Int} (h:lM p.blocks.length l) (hs:Shape p) {r:Nat->Nat} (hr:jH p r) (hk:K9 p):K9 (n9 p l):=by
 intro b y hy
 obtain ⟨i,x,hx,rfl,rfl,hi⟩:=Ha h hy
 rw [amA h hs hr hi,hk i x hx]
 rfl
def jS (p:bt):List Int:=p.blocks.map (·.key)
def y5 (p:bt):Prop:=(jS p).Nodup
def BO (p:bt) (k:Int):Nat:=(jS p).idxOf k
def rS (p q:bt) (s:Int):Int :=
 if s < q.ins.length then s else p.ins.length+2*(BO p (q.blocks.getD (cN q.ins.length s) FO).key:Int)+(s - q.ins.length) % 2
def HV (p q:bt) (y:Block):Prop:=∃x,p.blocks[BO p y.key]?=some x/\x.table=y.table/\x.b9=y.b9/\x.bh=y.bh/\x.ins=y.ins.map (rS p q)
structure HW (p q:bt):Prop where
 ins:p.ins=q.ins
 outs:p.outs=q.outs
 len:p.blocks.length=q.blocks.length
 mem:∀y∈q.blocks,y.key∈jS p
 qd:y5 q
 pd:y5 p
 X6:∀y∈q.blocks,HV p q y
 ay:p.ay=q.ay.map (rS p q)
theorem abV {l:List Int} (h:l.Nodup) {i j:Nat} {k:Int} (hi:l[i]?=some k) (hj:l[j]?=some k):i=j:=by
 rw [JZ,J1] at h
 obtain ⟨il,e1⟩:=bY.1 hi
 obtain ⟨jl,e2⟩:=bY.1 hj
 cases Tf i j with
 | inl aR=>exact absurd (e1.trans e2.symm) (h i j il jl aR)
 | inr bS=>cases bS with
  | inl he=>exact he
  | inr aR=>exact absurd (e2.trans e1.symm) (h j i jl il aR)
theorem Vs {p:bt} (h:y5 p) {i:Nat} {x:Block} (hx:p.blocks[i]?=some x):BO p x.key=i:=by
 have hk:(jS p)[i]?=some x.key:=by unfold jS;rw [m7,hx];rfl
 have hm:x.key∈jS p:=cb hk
 have hi:(jS p).idxOf x.key < (jS p).length:=List.idxOf_lt_length_iff.2 hm
 have:(jS p)[(jS p).idxOf x.key]?=some x.key:=by rw [ep hi,List.getElem_idxOf]
 exact abV h this hk
theorem abW {p:bt} (hd:y5 p) {s:Int} (h0:0<=s) (h1:s < p.sigs):rS p p s=s:=by
 unfold rS
 unfold bt.sigs at h1
 split
 ·rfl
 ·have hb:cN p.ins.length s < p.blocks.length:=by unfold cN;omega
  have hx:p.blocks[cN p.ins.length s]?=some p.blocks[cN p.ins.length s]:=ep hb
  rw [ig,hx,n6,Vs hd hx]
  unfold cN;omega
theorem anI {p:bt} (hs:Shape p):HW p p↔y5 p:=by
 refine ⟨λg=>g.pd,λhd=>⟨rfl,rfl,rfl,λy hy=>kf.2 ⟨y,hy,rfl⟩,hd,hd,λx hx=>?_,?_⟩⟩
 ·obtain ⟨i,hi⟩:=nC hx
  refine ⟨x,by rw [Vs hd hi];exact hi,rfl,rfl,rfl,?_⟩
  have:x.ins=x.ins.map id:=by simp
  conv=>lhs;rw [this]
  refine map_eq λs iM=>?_
  have hu:=hs.used x hx s iM
  exact (abW hd hu.lo hu.hi).symm
 ·have:p.ay=p.ay.map id:=by simp
  conv=>lhs;rw [this]
  refine map_eq λs iM=>?_
  have hu:=hs.ay s iM
  exact (abW hd hu.lo hu.hi).symm
def agl (p:bt) (c d:Nat):Prop:=∃x,p.blocks[c]?=some x/\∃s∈x.ins,(p.ins.length:Int)<=s/\¬fv p.ins.length s/\cN p.ins.length s=d
def St (st:List Int) (v:Int) (c:Nat):Prop:=st[c]?=some v
theorem St.rJ {st:List Int} {v u:Int} {b c:Nat} (h:c≠b):St (st.set b u) v c↔St st v c:=by
 unfold St;rw [jb];split
 ·omega
 ·exact xC
theorem St.AX {st:List Int} {v u:Int} {b:Nat} (h:b < st.length):St (st.set b u) v b↔u=v:=by
 unfold St;rw [jb];simp [h]
theorem St.lt {st:List Int} {v:Int} {c:Nat} (h:St st v c):c < st.length:=(bY.1 h).1
theorem St.uniq {st:List Int} {v u:Int} {c:Nat} (h:St st v c) (k:St st u c):v=u:=by unfold St at *;rw [h] at k;exact Cj k
def lN (st:List Int):Nat:=st.countP (· == 0)
theorem abX {st:List Int} {b:Nat} {v:Int} (h:St st 0 b) (hv:v≠0):lN (st.set b v)+1=lN st:=by
 unfold lN St at *
 induction st generalizing b with
 | nil=>simp at h
 | cons x l ih =>
  cases b with
  | zero=>simp at h;subst h;simp [Eo,hv]
  | succ b =>
   have:=ih (b:=b) (by simpa using h)
   simp only [GX,Eo]
   omega
theorem TS {st:List Int} {b:Nat} (h:St st 0 b):0 < lN st:=by
 have:=abX h (v:=1) (by decide)
 omega
theorem am1 {st:List Int} {b:Nat} {u v:Int} (h:St st u b) (hu:u≠0) (hv:v≠0):lN (st.set b v)=lN st:=by
 unfold lN St at *
 induction st generalizing b with
 | nil=>simp at h
 | cons x l ih =>
  cases b with
  | zero=>simp at h;subst h;simp [Eo,hu,hv]
  | succ b =>
   have:=ih (b:=b) (by simpa using h)
   simp only [GX,Eo]
   omega
def tu (p:bt) (st:List Int):Prop:=∃r:Nat->Nat,∀c d,St st 2 c->agl p c d->St st 2 d/\r d < r c
theorem tu.nil {p:bt} {st:List Int} (h:∀c,¬St st 2 c):tu p st:=⟨λ_=>0,λc d hc=>absurd hc (h c)⟩
theorem bound {l:List Nat} (r:Nat->Nat):∃m,∀d∈l,r d < m:=by
 induction l with
 | nil=>exact ⟨0,by simp⟩
 | cons x l ih =>
  obtain ⟨m,hm⟩:=ih
  refine ⟨m+r x+1,λd hd=>?_⟩
  rcases ez.1 hd with rfl|hd
  ·omega
  ·have:=hm d hd;omega
theorem tu.done {p:bt} {st:List Int} (h:tu p st) {b:Nat} (hb:St st 1 b) (dN:∀d,agl p b d->St st 2 d):tu p (st.set b 2):=by
 obtain ⟨r,hr⟩:=h
 have aR:=hb.lt
 obtain ⟨m,hm⟩:=bound (l:=List.range st.length) r
 refine ⟨λc=>if c=b then m else r c,λc d hc ht=>?_⟩
 by_cases gA:c=b
 ·subst gA
  have hd:=dN d ht
  have Gl:d≠c:=by rintro rfl;have:=hd.uniq hb;omega
  exact ⟨(St.rJ Gl).2 hd,by simp only [if_neg Gl,if_true];exact hm d (tX.2 hd.lt)⟩
 ·have h2:=hr c d ((St.rJ gA).1 hc) ht
  have Gl:d≠b:=by rintro rfl;have:=h2.1.uniq hb;omega
  exact ⟨(St.rJ Gl).2 h2.1,by simp only [if_neg Gl,if_neg gA];exact h2.2⟩
theorem tu.mark {p:bt} {st:List Int} (h:tu p st) {b:Nat} (hb:St st 0 b):tu p (st.set b 1):=by
 obtain ⟨r,hr⟩:=h
 have aR:=hb.lt
 refine ⟨r,λc d hc ht=>?_⟩
 have gA:c≠b:=by rintro rfl;have:=(St.AX aR).1 hc;omega
 have h2:=hr c d ((St.rJ gA).1 hc) ht
 have Gl:d≠b:=by rintro rfl;have:=h2.1.uniq hb;omega
 exact ⟨(St.rJ Gl).2 h2.1,h2.2⟩
structure xf (p:bt) (st:List Int):Prop where
 len:st.length=p.blocks.length
 val:∀c v,St st v c->v=0\/v=1\/v=2
structure py (p:bt) (st:List Int) (b:Nat) (res:Bool) (gH:List Int):Prop where
 w:xf p gH
 z:lN gH<=lN st
 one:res=true->∀c,St gH 1 c↔St st 1 c
 two:res=true->(∀c,St st 2 c->St gH 2 c)/\St gH 2 b
 BP:res=true->tu p st->tu p gH
 rk:∀r,jH p r->(∀c,St st 1 c->r b < r c)->res=true
theorem py.asC {p:bt} {st:List Int} {b:Nat} (h:xf p st) (hb:St st 1 b):py p st b false st :=
 ⟨h,cR _,by simp,by simp,by simp,λr _ h=>absurd (h b hb) (Oc _)⟩
theorem py.CS {p:bt} {st:List Int} {b:Nat} (h:xf p st) (hb:St st 2 b):py p st b true st :=
 ⟨h,cR _,λ_ _=>xC,λ_=>⟨λ_ h=>h,hb⟩,λ_ h=>h,λ_ _ _=>rfl⟩
structure oY (p:bt) (st:List Int) (b:Nat) (x:Block) (j:Nat) (gH:List Int):Prop where
 le:j<=x.ins.length
 w:xf p gH
 z:lN gH+1<=lN st
 one:∀c,St gH 1 c↔St st 1 c\/c=b
 two:∀c,St st 2 c->St gH 2 c
 BP:tu p st->tu p gH
 ins:∀i s,i < j->x.ins[i]?=some s->(p.ins.length:Int)<=s->¬fv p.ins.length s->St gH 2 (cN p.ins.length s)
theorem oY.start {p:bt} {st:List Int} {b:Nat} (h:xf p st) (hb:St st 0 b) (x:Block):oY p st b x 0 (st.set b 1):=by
 have aR:=hb.lt
 refine ⟨cL _,⟨by simp [h.len],λc v hc=>?_⟩,by have:=abX hb (v:=1) (by decide);omega,λc=>?_,λc hc=>?_,λha=>ha.mark hb,λi s hi=>by omega⟩
 ·by_cases gA:c=b
  ·subst gA;have:=(St.AX aR).1 hc;omega
  ·exact h.val c v ((St.rJ gA).1 hc)
 ·by_cases gA:c=b
  ·subst gA;exact ⟨λ_=>.inr rfl,λ_=>(St.AX aR).2 rfl⟩
  ·rw [St.rJ gA];exact ⟨.inl,λh=>h.resolve_right gA⟩
 ·have gA:c≠b:=by rintro rfl;have:=hc.uniq hb;omega
  exact (St.rJ gA).2 hc
theorem oY.skip {p:bt} {st:List Int} {b:Nat} {x:Block} {j:Nat} {gH:List Int} (h:oY p st b x j gH) {s:Int} (hs:x.ins[j]?=some s) (hn:¬((p.ins.length:Int)<=s/\¬fv p.ins.length s)):oY p st b x (j+1) gH :=
 ⟨(
  bY.1 hs).1,h.w,h.z,h.one,h.two,h.BP,λi t hi ht h1 h2=>by
  by_cases zR:i=j
  ·subst zR;rw [hs] at ht;cases ht;exact absurd ⟨h1,h2⟩ hn
  ·exact h.ins i t (by omega) ht h1 h2⟩
theorem oY.go {p:bt} {st:List Int} {b:Nat} {x:Block} {j:Nat} {gH gZ:List Int} (h:oY p st b x j gH) {s:Int} (hs:x.ins[j]?=some s) (hb:St st 0 b) (k:py p gH (cN p.ins.length s) true gZ):oY p st b x (j+1) gZ:=by
 refine ⟨(bY.1 hs).1,k.w,by have:=k.z;have:=h.z;omega,λc=>by rw [k.one rfl c];exact h.one c,λc hc=>(k.two rfl).1 c (h.two c hc),λha=>k.BP rfl (h.BP ha),λi t hi ht h1 h2=>?_⟩
 by_cases zR:i=j
 ·subst zR;rw [hs] at ht;cases ht;exact (k.two rfl).2
 ·exact (k.two rfl).1 _ (h.ins i t (by omega) ht h1 h2)
theorem oY.bad {p:bt} {st:List Int} {b:Nat} {x:Block} {j:Nat} {gH gZ:List Int} (h:oY p st b x j gH) (hx:p.blocks[b]?=some x) {s:Int} (hs:x.ins[j]?=some s) (h1:(p.ins.length:Int)<=s) (h2:¬fv p.ins.length s) (k:py p gH (cN p.ins.length s) false gZ):py p st b false gZ :=
 ⟨k.w,by have:=k.z;have:=h.z;omega,by simp,by simp,by simp,λr hr hc=>k.rk r hr λc lC=>by
  have aR:=hr b x hx s (cb hs) h1 h2
  rcases (h.one c).1 lC with h3|rfl
  ·have:=hc c h3;omega
  ·exact aR⟩
theorem oY.out {p:bt} {st:List Int} {b:Nat} {x:Block} {j:Nat} {gH:List Int} (h:oY p st b x j gH) (hx:p.blocks[b]?=some x) (hb:St st 0 b) (hj:j=x.ins.length):py p st b true (gH.set b 2):=by
 have h1:St gH 1 b:=(h.one b).2 (.inr rfl)
 have aR:=h1.lt
 refine ⟨⟨by simp [h.w.len],λc v hc=>?_⟩,by have:=am1 h1 (v:=2) (by decide) (by decide);have:=h.z;omega,λ_ c=>?_,λ_=>⟨λc hc=>?_,(St.AX aR).2 rfl⟩,λ_ ha=>(h.BP ha).done h1 ?_,λ_ _ _=>rfl⟩
 ·by_cases gA:c=b
  ·subst gA;have:=(St.AX aR).1 hc;omega
  ·exact h.w.val c v ((St.rJ gA).1 hc)
 ·by_cases gA:c=b
  ·subst gA
   exact ⟨λh=>by have:=(St.AX aR).1 h;omega,λh=>by have:=h.uniq hb;omega⟩
  ·rw [St.rJ gA,h.one c];exact ⟨λh=>h.resolve_right gA,.inl⟩
 ·have gA:c≠b:=by rintro rfl;have:=hc.uniq hb;omega
  exact (St.rJ gA).2 (h.two c hc)
 ·rintro d ⟨y,hy,s,hs,h3,h4,rfl⟩
  rw [hx] at hy;cases hy
  obtain ⟨i,hi,e⟩:=AD.1 hs
  exact h.ins i s (by omega) (by rw [ep hi,e]) h3 h4
def tf:TypeId->Option TI
 | 180=>some (ti .other 1 8 .nilFunc)
 | 183=>some (ti .other 1 8 .nilFunc)
 | 187=>some (ti .other 1 8 .nilFunc)
 | 194=>some (ti .other 1 8 .nilFunc)
 | 195=>some (ti .other 1 8 .nilFunc)
 | 200=>some (ti .other 1 8 .nilFunc)
 | 268=>some (ti .other 1 8 .nilFunc)
 | 293=>some (ti (.ptr 298) 1 8 (.pointer none))
 | 299=>some (ti .other 1 8 .nilFunc)
 | 303=>some (ti .other 1 8 .nilFunc)
 | 305=>some (ti .other 1 8 .nilFunc)
 | 310=>some (ti .other 1 8 .nilFunc)
 | 313=>some (ti .other 1 8 .nilFunc)
 | 319=>some (ti (.ptr 199) 1 8 (.pointer none))
 | 360=>some (ti .other 1 8 .nilFunc)
 | 406=>some (ti .other 1 8 .nilFunc)
 | 414=>some (ti .other 1 8 .nilFunc)
 | _=>none
theorem asD:∀t i,tf t=some i->pz Tryz.prog t i:=by
 intro t i h
 unfold tf at h
 split at h
 all_goals cases h
 all_goals exact tiN rfl rfl (by kernel_rfl) (by kernel_rfl)
def t2 (t:TypeId):Option TI:=match tt t with
 | some i=>some i
 | none=>tf t
theorem asE:∀t i,t2 t=some i->pz Tryz.prog t i:=by
 intro t i h
 unfold t2 at h
 split at h
 ·rename_i j hj
  cases h
  exact afU t _ hj
 ·exact asD t i h
theorem aq8 (n m:Nat) (X:Ctx) (h:X.tt=t2) (t:TypeId) (E:jh) (he:el n m t=some E):KN Tryz.prog X t E:=aeJ (λt i h=>by unfold t2;rw [h]) n m X h t E he
@[reducible] def eF (n m:Nat) (fs:List (Nat × Func)) (sp:List (Nat × Vc.Spec)) (io lp cut row emp:List Nat:=[]):Ctx:=YD t2 (el n m) fs sp io lp cut row emp
theorem eH (n m:Nat) {fs:List (Nat × Func)} {sp:List (Nat × Vc.Spec)} {io lp cut row emp:List Nat} (hf:Dr (λf fn=>oa (PP ()) f fn/\p9 fn=true) fs) (hs:Dr (λf S=>cW (PP ()) f S) sp):CB PP (eF n m fs sp io lp cut row emp):=afT asE (aq8 n m) mixed hf hs
end Go.Proofs.Pk
