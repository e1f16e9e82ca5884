import Derived.Test.YthnhbemmlfaihaaGreatT19
import Derived.Test.YthnhbemmlfaihaaGreatT20
import Derived.Test.YthnhbemmlfaihaaGreatT21
set_option linter.unusedVariables false
set_option linter.unusedSimpArgs false
set_option maxRecDepth 10000
set_option maxHeartbeats 64000000
namespace Go.Proofs.Pk
open Go Go.Vc
structure nt (A:Type) where
 a:List A
 b:List A
open Classical in
noncomputable def jv {A:Type} (a b:List A):Bool:=decide (a=b)
theorem sE {A:Type} {a b:List A}:jv a b=true↔a=b:=by simp [jv]
theorem Ep {A:Type} {a b:List A} (h:a≠b):jv a b=false:=by simp [jv,h]
theorem J3 {A:Type} {a b:List A} {i:Nat} {x y:A} (hx:a[i]?=some x) (hy:b[i]?=some y) (h:x≠y):jv a b=false:=Ep λe=>by
 rw [e,hy] at hx;exact h (BK hx).symm
theorem JO {A:Type} {a b:List A} (hl:a.length=b.length) (h:∀(i:Nat) (x y:A),a[i]?=some x->b[i]?=some y->x=y):jv a b=true:=sE.2 (by
 apply List.ext_getElem hl
 intro i h1 h2
 exact h i _ _ (eh h1) (eh h2))
@[reducible] noncomputable def U9:Vc.Spec where
 α:=nt Int
 args x:=[.sl 1 bJ (λ_=>x.a),.sl 1 bJ (λ_=>x.b)]
 pre x:=x.a.length<=1000000000000/\x.b.length<=1000000000000
 res x:=.b (λ_=>jv x.a x.b)
theorem ac3:cS (PP ()) 180 U9:=by
 refine dP (iJ 0 0) (fo Tryz.func180) (λa=>⟨(λx=>(cM x).1),(λx=>(cM x).1),trivial⟩) (λa=>trivial) ?_
 rintro ⟨a,b⟩ hx
 obtain ⟨ha,hb⟩:a.length<=1000000000000/\b.length<=1000000000000:=hx
 refine ⟨?_⟩
 cbv
 refine ⟨λh=>?_,λh=>?_⟩
 ·have jT:a.length≠b.length:=by have:=h.out;simp [aV] at this;exact aU
  have e:jv a b=false:=Ep λe=>jT (by rw [e])
  cbv
  exact ⟨.bc e.symm⟩
 ·have jT:a.length=b.length:=by have:=h.out;simp [aV] at this;exact aU
  cbv
  refine Sat.ca (iJ 0 0) 0 5 [] (λi:Nat=>[(5,.i .i64 λ_=>(i:Int))]) (λ_=>[]) (λi=>i<=a.length/\∀(j:Nat) (x y:Int),j < i->a[j]?=some x->b[j]?=some y->x=y) (λi=>a.length - i) 0 (by exact ao) (by exact ao) ⟨by simp,λj x y h=>by omega⟩ ?_
  rintro i ⟨hi,he⟩
  have h0:=n0 i
  have h1:=cd (i:=i) (by omega)
  cbv
  refine ⟨λh=>?_,λh=>?_⟩
  ·(have h:=h.out;simp (disch:=exact aU) only [hS] at h)
   have aR:i < a.length:=by exact aU
   have a7:a.length - (i+1) < a.length - i:=by omega
   obtain ⟨x,hx⟩:=bz aR
   obtain ⟨y,hy⟩:=bz (l:=b) (i:=i) (by omega)
   cbv
   refine ⟨x,⟨h0,hx⟩,?_⟩
   cbv
   refine ⟨y,⟨h0,hy⟩,?_⟩
   cbv
   refine ⟨λh=>?_,λh=>?_⟩
   ·have cZ:x≠y:=by have:=h.out;simpa [aV] using this
    have e:=J3 hx hy cZ
    cbv
    exact ⟨.bc e.symm⟩
   ·have cZ:x=y:=by have:=h.out;simpa [aV] using this
    cbv
    exact ⟨i+1,by have bj:=h1;exact bH,by exact ao,⟨⟨aR,λj u v hj hu hv=>by
     by_cases nC:j=i
     ·subst nC;rw [hx] at hu;rw [hy] at hv;cases hu;cases hv;exact cZ
     ·exact he j u v (by omega) hu hv⟩,a7⟩⟩
  ·(have h:=h.out;simp (disch:=exact aU) only [hS] at h)
   have bR:i=a.length:=by exact aU
   have e:jv a b=true:=JO jT λj x y hx hy=>he j x y (by have:=(bX.1 hx).1;omega) hx hy
   cbv
   exact ⟨.bc e.symm⟩
@[reducible] noncomputable def ac4:Vc.Spec where
 α:=nt Int
 args x:=[.sl 1 mf (λ_=>x.a),.sl 1 mf (λ_=>x.b)]
 pre x:=x.a.length<=1000000000000/\x.b.length<=1000000000000
 res x:=.b (λ_=>jv x.a x.b)
theorem ams:cS (PP ()) 66 ac4:=by
 refine dP (iJ 0 0) (fo Tryz.func66) (λa=>⟨(λx=>(N1 x).1),(λx=>(N1 x).1),trivial⟩) (λa=>trivial) ?_
 rintro ⟨a,b⟩ hx
 obtain ⟨ha,hb⟩:a.length<=1000000000000/\b.length<=1000000000000:=hx
 refine ⟨?_⟩
 cbv
 refine ⟨λh=>?_,λh=>?_⟩
 ·have jT:a.length≠b.length:=by have:=h.out;simp [aV] at this;exact aU
  have e:jv a b=false:=Ep λe=>jT (by rw [e])
  cbv
  exact ⟨.bc e.symm⟩
 ·have jT:a.length=b.length:=by have:=h.out;simp [aV] at this;exact aU
  cbv
  refine Sat.ca (iJ 0 0) 0 5 [] (λi:Nat=>[(5,.i .i64 λ_=>(i:Int))]) (λ_=>[]) (λi=>i<=a.length/\∀(j:Nat) (x y:Int),j < i->a[j]?=some x->b[j]?=some y->x=y) (λi=>a.length - i) 0 (by exact ao) (by exact ao) ⟨by simp,λj x y h=>by omega⟩ ?_
  rintro i ⟨hi,he⟩
  have h0:=n0 i
  have h1:=cd (i:=i) (by omega)
  cbv
  refine ⟨λh=>?_,λh=>?_⟩
  ·(have h:=h.out;simp (disch:=exact aU) only [hS] at h)
   have aR:i < a.length:=by exact aU
   have a7:a.length - (i+1) < a.length - i:=by omega
   obtain ⟨x,hx⟩:=bz aR
   obtain ⟨y,hy⟩:=bz (l:=b) (i:=i) (by omega)
   cbv
   refine ⟨x,⟨h0,hx⟩,?_⟩
   cbv
   refine ⟨y,⟨h0,hy⟩,?_⟩
   cbv
   refine ⟨λh=>?_,λh=>?_⟩
   ·have cZ:x≠y:=by have:=h.out;simpa [aV] using this
    have e:=J3 hx hy cZ
    cbv
    exact ⟨.bc e.symm⟩
   ·have cZ:x=y:=by have:=h.out;simpa [aV] using this
    cbv
    exact ⟨i+1,by have bj:=h1;exact bH,by exact ao,⟨⟨aR,λj u v hj hu hv=>by
     by_cases nC:j=i
     ·subst nC;rw [hx] at hu;rw [hy] at hv;cases hu;cases hv;exact cZ
     ·exact he j u v (by omega) hu hv⟩,a7⟩⟩
  ·(have h:=h.out;simp (disch:=exact aU) only [hS] at h)
   have bR:i=a.length:=by exact aU
   have e:jv a b=true:=JO jT λj x y hx hy=>he j x y (by have:=(bX.1 hx).1;omega) hx hy
   cbv
   exact ⟨.bc e.symm⟩
@[reducible] noncomputable def adZ:Vc.Spec where
 α:=nt bT
 args x:=[.sl 3 dc (λ_=>x.a),.sl 3 dc (λ_=>x.b)]
 pre x:=x.a.length<=1000000000000/\x.b.length<=1000000000000
 res x:=.b (λ_=>jv x.a x.b)
theorem ano:cS (PP ()) 217 adZ:=by
 refine dP (iJ 0 0) (fo Tryz.func217) (λa=>⟨(λx=>(gL x).1),(λx=>(gL x).1),trivial⟩) (λa=>trivial) ?_
 rintro ⟨a,b⟩ hx
 obtain ⟨ha,hb⟩:a.length<=1000000000000/\b.length<=1000000000000:=hx
 refine ⟨?_⟩
 cbv
 refine ⟨λh=>?_,λh=>?_⟩
 ·have jT:a.length≠b.length:=by have:=h.out;simp [aV] at this;exact aU
  have e:jv a b=false:=Ep λe=>jT (by rw [e])
  cbv
  exact ⟨.bc e.symm⟩
 ·have jT:a.length=b.length:=by have:=h.out;simp [aV] at this;exact aU
  cbv
  refine Sat.ca (iJ 0 0) 0 5 [] (λi:Nat=>[(5,.i .i64 λ_=>(i:Int))]) (λ_=>[]) (λi=>i<=a.length/\∀(j:Nat) (x y:bT),j < i->a[j]?=some x->b[j]?=some y->x=y) (λi=>a.length - i) 0 (by exact ao) (by exact ao) ⟨by simp,λj x y h=>by omega⟩ ?_
  rintro i ⟨hi,he⟩
  have h0:=n0 i
  have h1:=cd (i:=i) (by omega)
  cbv
  refine ⟨λh=>?_,λh=>?_⟩
  ·(have h:=h.out;simp (disch:=exact aU) only [hS] at h)
   have aR:i < a.length:=by exact aU
   have a7:a.length - (i+1) < a.length - i:=by omega
   obtain ⟨x,hx⟩:=bz aR
   obtain ⟨y,hy⟩:=bz (l:=b) (i:=i) (by omega)
   cbv
   refine ⟨x,⟨h0,hx⟩,?_⟩
   cbv
   refine ⟨y,⟨h0,hy⟩,?_⟩
   cbv
   refine ⟨λh=>?_,λh=>?_⟩
   ·have cZ:x≠y:=by rintro rfl;have:=h.out;simp [aV] at this
    have e:=J3 hx hy cZ
    cbv
    exact ⟨.bc e.symm⟩
   ·have cZ:x=y:=by have:=h.out;simp [aV] at this;cases x;cases y;simp at this ⊢;omega
    cbv
    exact ⟨i+1,by have bj:=h1;exact bH,by exact ao,⟨⟨aR,λj u v hj hu hv=>by
     by_cases nC:j=i
     ·subst nC;rw [hx] at hu;rw [hy] at hv;cases hu;cases hv;exact cZ
     ·exact he j u v (by omega) hu hv⟩,a7⟩⟩
  ·(have h:=h.out;simp (disch:=exact aU) only [hS] at h)
   have bR:i=a.length:=by exact aU
   have e:jv a b=true:=JO jT λj x y hx hy=>he j x y (by have:=(bX.1 hx).1;omega) hx hy
   cbv
   exact ⟨.bc e.symm⟩
theorem R5 {α:Type} {f:α->α} {l:List α} {i j:Nat}:(l.modify i f)[j]?=if i=j then (l[j]?).map f else l[j]?:=by
 rw [Sg]
 split
 ·rename_i h;subst h;simp
 ·simp
theorem ak1 {ins:List bT} {nc:Nat} {k:PK} (h:oz ins nc k) {s:Source} (hs:pN ins k.parts.length s) {code:Int} (h0:0<=code) (h1:code<=255) (hf:k.bK code=none) :
  oz ins nc (jR k s code)/\(jR k s code).parts.length<=k.parts.length+1/\k.parts.length<=(jR k s code).parts.length/\(jR k s code).bK code≠none/\(∀c,k.bK c≠none->(jR k s code).bK c≠none) /\
  (∀c,(jR k s code).bK c≠none->c=code\/k.bK c≠none)/\(jR k s code).n0=k.n0/\(jR k s code).n1=k.n1/\(jR k s code).cells=k.cells:=by
 have jB:∀x:Part,x.bf=code->Ow x->(∀s∈x.ins,pN ins k.parts.length s)->(∀s∈x.ins,s.kind≠3) ->
   oz ins nc (k.add x)/\(k.add x).parts.length<=k.parts.length+1/\k.parts.length<=(k.add x).parts.length/\(k.add x).bK code≠none/\(∀c,k.bK c≠none->(k.add x).bK c≠none) /\
   (∀c,(k.add x).bK c≠none->c=code\/k.bK c≠none)/\(k.add x).n0=k.n0/\(k.add x).n1=k.n1/\(k.add x).cells=k.cells:=by
  intro x hx hp hs hk
  have H:=h.add hp hs (a:=k.n0) (b:=k.n1) id id (λs iE e=>absurd e (hk s iE)) (λ_=>by rw [hx];exact hf)
  refine ⟨H,by simp [PK.add],by simp [PK.add],?_,λc hc=>?_,λc hc=>?_,rfl,rfl,rfl⟩
  ·simp [PK.add,hx,h0,ga]
  ·simp only [PK.add,hx,h0,if_true,ga]
   split
   ·simp
   ·exact hc
  ·simp only [PK.add,hx,h0,if_true,ga] at hc
   split at hc
   ·rename_i e;exact .inl e
   ·exact .inr hc
 unfold jR
 split
 ·rename_i hk
  have hn:s.n=0\/s.n=1:=by
   rcases hs with h|h|h|h
   ·omega
   ·omega
   ·omega
   ·exact h.2
  exact jB _ rfl ⟨by simp,by simp,by simp only;omega,by simp only [Ab];rcases hn with e|e<;>rw [e]<;>decide,λh=>by simp at h⟩ (by simp) (by simp)
 ·split
  ·rename_i nE hc
   obtain ⟨hk,hr,hg⟩:=hc
   have hn:0<=s.n/\s.n < k.parts.length:=by
    rcases hs with h|h|h|h
    ·omega
    ·omega
    ·exact h.2
    ·omega
   have aR:s.n.toNat < k.parts.length:=by omega
   have qx:k.parts[s.n.toNat]?=some k.parts[s.n.toNat]:=eh aR
   rw [gW,qx,nM] at hr hg
   have gm:∀(b:Nat) (x:Part),(An k.parts s.n.toNat code)[b]?=some x->∃y,k.parts[b]?=some y/\x.ins=y.ins/\x.table=y.table/\x.bZ=y.bZ/\(b=s.n.toNat/\x.bf=code\/b≠s.n.toNat/\x=y):=by
    intro b x hx
    unfold An at hx
    rw [R5] at hx
    split at hx
    ·rename_i e
     cases hb:k.parts[b]? with
     | none=>rw [hb] at hx;cases hx
     | some y =>
      rw [hb] at hx
      simp at hx
      subst hx
      exact ⟨y,rfl,rfl,rfl,rfl,.inl ⟨e.symm,rfl⟩⟩
    ·rename_i e
     exact ⟨x,hx,rfl,rfl,rfl,.inr ⟨λh=>e h.symm,rfl⟩⟩
   have hlen:(An k.parts s.n.toNat code).length=k.parts.length:=by simp [An]
   have hold:∀c v,k.bK c=some v->c≠code:=λc v hv e=>by rw [e,hf] at hv;cases hv
   refine ⟨⟨h.nc,λu hu=>by simp only [hlen];exact h.cells u hu,λb x hx=>?_,λx hx u hu XN=>?_,λb x hx si=>?_,λc v oG=>?_⟩,by simp only [hlen];omega,by simp only [hlen];omega,by simp [ga],λc hc=>?_,λc hc=>?_,rfl,rfl,rfl⟩
   ·obtain ⟨y,hy,e1,e2,e3,e4⟩:=gm b x hx
    obtain ⟨p,q⟩:=h.src b y hy
    refine ⟨?_,by rw [e1];exact q⟩
    rcases e4 with ⟨rfl,e4⟩|⟨_,rfl⟩
    ·rw [qx] at hy;cases hy
     exact ⟨by rw [e1];exact p.k,by rw [e3];exact p.bZ,by rw [e4];omega,by rw [e1,e2];exact p.table,λh=>by rw [e3] at h;omega⟩
    ·exact p
   ·obtain ⟨b,hb⟩:=na hx
    obtain ⟨y,hy,e1,_⟩:=gm b x hb
    exact h.lQ y (b_ hy) u (by rw [<-e1];exact hu) XN
   ·simp only [ga]
    obtain ⟨y,hy,e1,e2,e3,e4⟩:=gm b x hx
    rcases e4 with ⟨rfl,e4⟩|⟨_,rfl⟩
    ·rw [if_pos e4];congr 1;omega
    ·have:=h.bK b x hy si
     rw [if_neg (hold _ _ this)]
     exact this
   ·simp only [ga] at oG
    split at oG
    ·rename_i e
     cases oG
     refine ⟨s.n.toNat,by omega,{ k.parts[s.n.toNat] with bf:=code },?_,e.symm,by omega⟩
     simp only [An]
     rw [R5,if_pos rfl,qx]
     rfl
    ·obtain ⟨b,h2,y,h3,h4⟩:=h.back c v oG
     have cZ:s.n.toNat≠b:=by
      intro e
      subst e
      rw [qx] at h3;cases h3
      omega
     refine ⟨b,h2,y,?_,h4⟩
     simp only [An]
     rw [R5,if_neg cZ]
     exact h3
   ·simp only [ga]
    split
    ·simp
    ·exact hc
   ·simp only [ga] at hc
    split at hc
    ·rename_i e;exact .inl e
    ·exact .inr hc
  ·rename_i nE hc
   exact jB _ rfl ⟨by simp,by simp,by simp only;omega,by simp only [nK];decide,λh=>by simp at h⟩ (λu hu=>by simp at hu;subst hu;exact hs) (λu hu=>by simp at hu;subst hu;exact nE)
theorem M9 {n:Net} {m:gE} (hm:jz n m):∀(i:Nat),i<=m.cells.length ->
  oz n.ins i ((m.cells.take i).foldl (ji n.ins) ⟨[],[],false,false,λ_=>none⟩)/\(∀x∈((m.cells.take i).foldl (ji n.ins) ⟨[],[],false,false,λ_=>none⟩).parts,x.bf=-1) /\
  ((m.cells.take i).foldl (ji n.ins) ⟨[],[],false,false,λ_=>none⟩).parts.length<=i
 | 0,_=>by
  simp only [Sx,List.foldl_nil]
  exact ⟨⟨rfl,by simp,by simp,by simp,by simp,by simp⟩,by simp,by simp⟩
 | i+1,h=>by
  obtain ⟨h1,h2,h3⟩:=M9 hm i (by omega)
  have hg:m.cells[i]?=some m.cells[i]:=eh (by omega)
  rw [DE,hg]
  simp only [Option.toList_some,Ni,vz,List.foldl_nil]
  obtain ⟨g1,g2,g3⟩:=am9 h1 h2 (hm.cells i _ hg)
  exact ⟨g1,g2,by omega⟩
theorem amt {v w:bT} {a b:Int} (hv:l9 v a b) (hw:l9 w a b) (k1:v.kind=1) (k2:w.kind=1) (h:lA v=lA w):v=w:=by
 obtain ⟨_,_,h1,h2,h3⟩:=hv
 obtain ⟨_,_,g1,g2,g3⟩:=hw
 cases v;cases w
 simp only [lA] at *
 subst k1;subst k2
 simp only [bT.mk.injEq,true_and]
 omega
def qq (l:List bT):List bT:=l.filter (λw=>w.kind=1)
theorem NB {ins:List bT} {nc:Nat}:∀(wd:List (bT × Int)) (k:PK),oz ins nc k->(wd.map (·.1)).Nodup->(∀p∈wd,l9 p.1 1 10/\(p.1.kind=1->p.1.i<=31))->(∀p∈wd,0<=p.2/\p.2 < 2+ins.length+nc) ->
  (∀p∈wd,p.1.kind=1->k.bK (lA p.1)=none) ->
  oz ins nc (wd.foldl (oy ins) k)/\(wd.foldl (oy ins) k).parts.length<=k.parts.length+(qq (wd.map (·.1))).length/\(∀c,k.bK c≠none->(wd.foldl (oy ins) k).bK c≠none) /\
  (∀p∈wd,p.1.kind=1->(wd.foldl (oy ins) k).bK (lA p.1)≠none)/\(k.n0=true->(wd.foldl (oy ins) k).n0=true)/\(k.n1=true->(wd.foldl (oy ins) k).n1=true) /\
  (∀p∈wd,p.1.kind≠1->(p.2=0->(wd.foldl (oy ins) k).n0=true)/\(p.2=1->(wd.foldl (oy ins) k).n1=true))/\(wd.foldl (oy ins) k).cells=k.cells
 | [],k,h,_,_,_,_=>⟨h,by simp,by simp,by simp,by simp,by simp,by simp,rfl⟩
 | p :: r,k,h,hn,hw,hd,hf=>by
  have nW:(r.map (·.1)).Nodup:=(qS.1 (by simpa using hn)).2
  have hp:p.1∉r.map (·.1):=(qS.1 (by simpa using hn)).1
  have hs:pN ins k.parts.length (gH ins k.cells p.2):=JA h.cells (hd p (by simp)).1 (by rw [h.nc];exact (hd p (by simp)).2)
  have X4:=hw p (by simp)
  by_cases hk:p.1.kind=1
  ·have e:oy ins k p=jR k (gH ins k.cells p.2) (lA p.1):=by simp [oy,hk]
   have hb:=X4.1
   have hi:=X4.2 hk
   obtain ⟨b1,b2,b3,b4,b5⟩:=hb
   obtain ⟨g1,g2,g3,g4,g5,g6,g7,g8,g9⟩:=ak1 h hs (code:=lA p.1) (by unfold lA;omega) (by unfold lA;omega) (hf p (by simp) hk)
   obtain ⟨q1,q2,q3,q4,q5,q6,q7,q8⟩:=NB r _ g1 nW (λx hx=>hw x (by simp [hx])) (λx hx=>hd x (by simp [hx])) (λx hx lY=>by
    cases qK:(jR k (gH ins k.cells p.2) (lA p.1)).bK (lA x.1) with
    | none=>rfl
    | some v =>
     rcases g6 _ (by rw [qK];simp) with e|e
     ·have:=amt (hw x (by simp [hx])).1 X4.1 lY hk e
      exact absurd (j3.2 ⟨x,hx,this⟩) hp
     ·exact absurd (hf x (by simp [hx]) lY) e)
   simp only [vz,e]
   have hl:(qq ((p :: r).map (·.1))).length=(qq (r.map (·.1))).length+1:=by simp [qq,hk]
   refine ⟨q1,by omega,λc hc=>q3 c (g5 c hc),λx hx lY=>?_,λe=>q5 (by rw [g7];exact e),λe=>q6 (by rw [g8];exact e),λx hx lY=>?_,by rw [q8,g9]⟩
   ·rcases er.1 hx with rfl|hx
    ·exact q3 _ g4
    ·exact q4 x hx lY
   ·rcases er.1 hx with rfl|hx
    ·exact absurd hk lY
    ·exact q7 x hx lY
  ·have e:oy ins k p={ k with n0:=k.n0||p.2 == 0,n1:=k.n1||p.2 == 1 }:=by simp [oy,hk]
   have g1:oz ins nc { k with n0:=k.n0||p.2 == 0,n1:=k.n1||p.2 == 1 } :=
    ⟨h.nc,h.cells,h.src,λx hx s hs hk=>⟨λe=>by simp [(h.lQ x hx s hs hk).1 e],λe=>by simp [(h.lQ x hx s hs hk).2 e]⟩,h.bK,h.back⟩
   obtain ⟨q1,q2,q3,q4,q5,q6,q7,q8⟩:=NB r _ g1 nW (λx hx=>hw x (by simp [hx])) (λx hx=>hd x (by simp [hx])) (λx hx lY=>hf x (by simp [hx]) lY)
   simp only [vz,e]
   have hl:(qq ((p :: r).map (·.1))).length=(qq (r.map (·.1))).length:=by simp [qq,hk]
   refine ⟨q1,by rw [hl];exact q2,q3,λx hx lY=>?_,λe=>q5 (by simp [e]),λe=>q6 (by simp [e]),λx hx lY=>?_,q8⟩
   ·rcases er.1 hx with rfl|hx
    ·exact absurd lY hk
    ·exact q4 x hx lY
   ·rcases er.1 hx with rfl|hx
    ·exact ⟨λe=>q5 (by simp [e]),λe=>q6 (by simp [e])⟩
    ·exact q7 x hx lY
theorem ND {ins:List bT} {nc:Nat} {k:PK} (h:oz ins nc k) {v:Int} (hv:v=0\/v=1) (b:Bool):oz ins nc (oh k v b)/\(oh k v b).parts.length<=k.parts.length+1/\(∃e,(oh k v b).parts=k.parts++e) /\
  (oh k v b).bK=k.bK/\(oh k v b).n0=k.n0/\(oh k v b).n1=k.n1/\(oh k v b).cells=k.cells/\(b=true->(oh k v b).parts[k.parts.length]?=some ⟨[],v,-1,-1⟩):=by
 cases b with
 | false=>exact ⟨h,by simp [oh],⟨[],by simp [oh]⟩,rfl,rfl,rfl,rfl,λe=>by cases e⟩
 | true =>
  refine ⟨h.add ⟨by simp,by simp,by simp,by simp only [Ab];rcases hv with e|e<;>rw [e]<;>decide,λh=>by simp at h⟩ (by simp) (a:=k.n0) (b:=k.n1) id id (by simp) (λh=>by simp at h),by simp [oh,PK.add],⟨_,rfl⟩,by simp [oh,PK.add],rfl,rfl,rfl,λ_=>by simp [oh,PK.add]⟩
def Is (no:Nat) (thr:List Int->Option Source):Nat:=((List.range no).filter λ(i:Nat)=>(thr [0,(i:Int)]).isSome).length
structure E9 (ins:List bT) (nc base:Nat) (t:TH):Prop where
 k:oz ins nc t.k
 len:t.k.parts.length<=base+Is (others ins).length t.thr
 yb:∀s∈t.ay,s.kind≠0/\pN ins t.k.parts.length s/\(s.kind=3->(s.n=0->t.k.n0=true)/\(s.n=1->t.k.n1=true))
 thr:∀l u,t.thr l=some u->u.kind=2/\0<=u.n/\u.n < t.k.parts.length
theorem ad2 (no:Nat) (thr:List Int->Option Source):Is no thr<=no:=by
 unfold Is
 refine vD (zZ _ _) (by simp)
theorem apS {no:Nat} {thr:List Int->Option Source} {i:Nat} (hi:i < no) (hn:thr [0,(i:Int)]=none) (u:Source):Is no thr+1<=Is no (λj=>if j=[0,(i:Int)] then some u else thr j):=by
 unfold Is
 have h1:(i :: (List.range no).filter λ(i:Nat)=>(thr [0,(i:Int)]).isSome).Nodup:=by
  refine qS.2 ⟨λh=>?_,Nk.filter _⟩
  have:=(xb.1 h).2
  rw [hn] at this;cases this
 refine NF h1 λx hx=>?_
 rcases er.1 hx with rfl|hx
 ·exact xb.2 ⟨tr.2 hi,by simp⟩
 ·obtain ⟨g1,g2⟩:=xb.1 hx
  refine xb.2 ⟨g1,?_⟩
  simp only
  split
  ·rfl
  ·exact g2
theorem GF {ins:List bT} {nc base:Nat}:∀(wd:List (bT × Int)) (t:TH),E9 ins nc base t->(∀p∈wd,0<=p.2/\p.2 < 2+ins.length+nc) ->
  (∀p∈wd,p.1.kind≠1->(p.2=0->t.k.n0=true)/\(p.2=1->t.k.n1=true)) ->
  E9 ins nc base (wd.foldl (nr ins) t)/\(∃e,(wd.foldl (nr ins) t).k.parts=t.k.parts++e)/\(wd.foldl (nr ins) t).k.bK=t.k.bK/\(wd.foldl (nr ins) t).k.n0=t.k.n0/\(wd.foldl (nr ins) t).k.n1=t.k.n1 /\
  (wd.foldl (nr ins) t).ay.length=t.ay.length+(others (wd.map (·.1))).length
 | [],t,h,_,_=>⟨h,⟨[],by simp⟩,rfl,rfl,rfl,by simp [others]⟩
 | p :: r,t,h,hd,hz=>by
  have C2:∀q∈r,0<=q.2/\q.2 < 2+ins.length+nc:=λq hq=>hd q (by simp [hq])
  have hp:=hd p (by simp)
  have hs:pN ins t.k.parts.length (gH ins t.k.cells p.2):=JA h.k.cells hp.1 (by rw [h.k.nc];exact hp.2)
  simp only [vz]
  by_cases hk:p.1.kind=1
  ·have e:nr ins t p=t:=by simp [nr,hk]
   have hl:others ((p :: r).map (·.1))=others (r.map (·.1)):=by simp [others,hk]
   rw [e,hl]
   exact GF r t h C2 λq hq=>hz q (by simp [hq])
  ·have hl:(others ((p :: r).map (·.1))).length=(others (r.map (·.1))).length+1:=by simp [others,hk]
   have QN:=hz p (by simp) hk
   rw [hl]
   generalize tU:gH ins t.k.cells p.2=s at hs
   by_cases h0:s.kind=0
   ·have hn:0<=s.n/\s.n < (others ins).length:=by
     rcases hs with g|g|g|g
     ·exact g.2
     ·omega
     ·omega
     ·omega
    have hsk:AM s=[0,(s.n.toNat:Int)]:=by
     unfold AM;rw [h0]
     congr 2;omega
    cases ht:t.thr (AM s) with
    | some u =>
     have e:nr ins t p={ t with ay:=t.ay++[u] }:=by simp [nr,hk,tU,h0,ht]
     have hu:=h.thr _ _ ht
     rw [e]
     have H:E9 ins nc base { t with ay:=t.ay++[u] }:=by
      refine ⟨h.k,h.len,λx hx=>?_,h.thr⟩
      rcases List.mem_append.1 hx with hx|hx
      ·exact h.yb x hx
      ·simp at hx;subst hx
       exact ⟨by omega,.inr (.inr (.inl hu)),λe=>by omega⟩
     obtain ⟨g1,g2,g3,g4,g5,g6⟩:=GF r _ H C2 λq hq=>hz q (by simp [hq])
     exact ⟨g1,g2,g3,g4,g5,by rw [g6];simp;omega⟩
    | none =>
     have e:nr ins t p={ k:=t.k.add ⟨[s],2,-1,-1⟩,ay:=t.ay++[t.k.here],thr:=λj=>if j=AM s then some t.k.here else t.thr j }:=by simp [nr,hk,tU,h0,ht]
     rw [e]
     have CN:(t.k.add ⟨[s],2,-1,-1⟩).parts.length=t.k.parts.length+1:=by simp [PK.add]
     have H:E9 ins nc base { k:=t.k.add ⟨[s],2,-1,-1⟩,ay:=t.ay++[t.k.here],thr:=λj=>if j=AM s then some t.k.here else t.thr j }:=by
      refine ⟨h.k.add ⟨by simp,by simp,by simp,by simp only [nK];decide,λh=>by simp at h⟩ (by simpa using hs) (a:=t.k.n0) (b:=t.k.n1) id id (λu hu e=>by simp at hu;subst hu;omega) (λh=>by simp at h),?_,λx hx=>?_,λl u QO=>?_⟩
      ·simp only [CN]
       have:=apS (no:=(others ins).length) (thr:=t.thr) (i:=s.n.toNat) (by omega) (by rw [<-hsk];exact ht) t.k.here
       rw [hsk]
       have:=h.len
       omega
      ·simp only [CN]
       rcases List.mem_append.1 hx with hx|hx
       ·obtain ⟨y1,y2,y3⟩:=h.yb x hx
        exact ⟨y1,y2.mono (by omega),y3⟩
       ·simp at hx;subst hx
        exact ⟨by simp [PK.here],.inr (.inr (.inl ⟨rfl,by simp [PK.here],by simp [PK.here];omega⟩)),λe=>by simp [PK.here] at e⟩
      ·simp only [CN]
       simp only at QO
       split at QO
       ·cases QO
        exact ⟨rfl,by simp [PK.here],by simp [PK.here];omega⟩
       ·have:=h.thr l u QO
        exact ⟨this.1,this.2.1,by omega⟩
     obtain ⟨g1,⟨e2,g2⟩,g3,g4,g5,g6⟩:=GF r _ H C2 λq hq=>hz q (by simp [hq])
     exact ⟨g1,⟨⟨[s],2,-1,-1⟩ :: e2,by rw [g2];simp [PK.add]⟩,by rw [g3];simp [PK.add],g4,g5,by rw [g6];simp;omega⟩
   ·have e:nr ins t p={ t with ay:=t.ay++[s] }:=by simp [nr,hk,tU,h0]
    rw [e]
    have H:E9 ins nc base { t with ay:=t.ay++[s] }:=by
     refine ⟨h.k,h.len,λx hx=>?_,h.thr⟩
     rcases List.mem_append.1 hx with hx|hx
     ·exact h.yb x hx
     ·simp at hx;subst hx
      refine ⟨h0,hs,λh3=>?_⟩
      have:x.n=p.2:=by
       rw [<-tU] at h3 ⊢
       unfold gH at h3 ⊢
       split at h3
       ·rename_i aR;rw [if_pos aR]
       ·exfalso
        rename_i aR
        split at h3
        ·simp only at h3
         split at h3<;>simp at h3
        ·rename_i bR
         have vV:(p.2 - 2 - ins.length).toNat < t.k.cells.length:=by rw [h.k.nc];omega
         rw [gW,eh vV,nM] at h3
         have:=h.k.cells _ (DH vV)
         omega
      rw [this]
      exact QN
    obtain ⟨g1,g2,g3,g4,g5,g6⟩:=GF r _ H C2 λq hq=>hz q (by simp [hq])
    exact ⟨g1,g2,g3,g4,g5,by rw [g6];simp;omega⟩
theorem abV {n:Nat} {v:Int} (h:0<=v):(cK n (n+2*v):Int)=v/\¬fj n (n+2*v):=by
 unfold cK fj;omega
theorem aoz {n:Nat} {v:Int} (h:0<=v):(cK n (n+2*v+1):Int)=v/\fj n (n+2*v+1):=by
 unfold cK fj;omega
theorem ad3 {n:Net} {m:gE} (hm:jz n m):(n.outs.zip m.ay).map (·.1)=n.outs:=by
 rw [Sr];rw [hm.o5];exact cP _
theorem abW {n:Net} (hn:eQ n):(qq n.outs).length+(others n.ins).length<=n.ins.length:=by
 have h1:(qq n.outs).length<=(qq n.ins).length:=by
  refine NF (hn.KK.filter _) λw hw=>?_
  obtain ⟨a,b⟩:=xb.1 hw
  have b:w.kind=1:=by simpa using b
  exact xb.2 ⟨(hn.aN w b).2 a,by simpa using b⟩
 have h2:∀l:List bT,(qq l).length+(others l).length=l.length:=by
  intro l
  induction l with
  | nil=>rfl
  | cons x r ih =>
   by_cases hx:x.kind=1
   ·simp [qq,others,hx] at ih ⊢;omega
   ·simp [qq,others,hx] at ih ⊢;omega
 have:=h2 n.ins
 omega
structure Ux (n:Net) (nc:Nat) (d:KL):Prop where
 k:oz n.ins nc d.t.k
 len:d.t.k.parts.length<=600
 bK:∀w∈n.ins,w.kind=1->d.t.k.bK (lA w)≠none
 c0:d.t.k.n0=true->∃b:Nat,d.c0=b/\d.t.k.parts[b]?=some ⟨[],0,-1,-1⟩
 c1:d.t.k.n1=true->∃b:Nat,d.c1=b/\d.t.k.parts[b]?=some ⟨[],1,-1,-1⟩
 yb:∀s∈d.t.ay,s.kind≠0/\pN n.ins d.t.k.parts.length s/\(s.kind=3->(s.n=0->d.t.k.n0=true)/\(s.n=1->d.t.k.n1=true))
 o5:d.t.ay.length=(others n.outs).length
theorem abX {n:Net} {m:gE} (hn:eQ n) (hm:jz n m):Ux n m.cells.length (ot n m):=by
 unfold ot
 obtain ⟨a1,a2,a3⟩:=M9 hm m.cells.length (cP _)
 rw [kh] at a1 a2 a3
 simp only
 generalize eT:m.cells.foldl (ji n.ins) ⟨[],[],false,false,λ_=>none⟩=k1 at a1 a2 a3
 have C8:=ad3 hm
 have eN:∀p∈n.outs.zip m.ay,p.1∈n.outs/\p.2∈m.ay:=λp hp=>Su hp
 have oI:∀p∈n.outs.zip m.ay,0<=p.2/\p.2 < 2+n.ins.length+m.cells.length:=λp hp=>hm.ay _ (eN p hp).2
 have lF:∀c,k1.bK c=none:=by
  intro c
  cases hc:k1.bK c with
  | none=>rfl
  | some v =>
   obtain ⟨b,_,x,hx,hr,h0⟩:=a1.back c v hc
   have:=a2 x (b_ hx)
   omega
 obtain ⟨b1,b2,b3,b4,b5,b6,b7,b8⟩:=NB (n.outs.zip m.ay) k1 a1 (by rw [C8];exact hn.KK)
  (λp hp=>by
   have jU:=(eN p hp).1
   have:=hn.outs _ jU
   exact ⟨this.1,λhk=>(hn.ins _ ((hn.aN _ hk).2 jU)).2⟩)
  oI (λp hp hk=>lF _)
 rw [C8] at b2
 generalize my:(n.outs.zip m.ay).foldl (oy n.ins) k1=k2 at b1 b2 b3 b4 b5 b6 b7 b8
 obtain ⟨c1,c2,⟨e1,c3⟩,c4,c5,c6,c7,c8⟩:=ND b1 (v:=0) (.inl rfl) k2.n0
 generalize nE:oh k2 0 k2.n0=k3 at c1 c2 c3 c4 c5 c6 c7 c8
 obtain ⟨d1,d2,⟨e2,d3⟩,d4,d5,d6,d7,d8⟩:=ND c1 (v:=1) (.inr rfl) k2.n1
 generalize QK:oh k3 1 k2.n1=k4 at d1 d2 d3 d4 d5 d6 d7 d8
 have C9:E9 n.ins m.cells.length k4.parts.length ⟨k4,[],λ_=>none⟩:=by
  refine ⟨d1,by simp,by simp,λl u hu=>by cases hu⟩
 obtain ⟨f1,⟨e3,f2⟩,f3,f4,f5,f6⟩:=GF (n.outs.zip m.ay) ⟨k4,[],λ_=>none⟩ C9 oI (λp hp hk=>by
  have:=b7 p hp hk
  simp only
  rw [d5,c5,d6,c6]
  exact this)
 rw [C8] at f6
 generalize hT:(n.outs.zip m.ay).foldl (nr n.ins) ⟨k4,[],λ_=>none⟩=T at f1 f2 f3 f4 f5 f6
 simp only at f2 f3 f4 f5 f6
 have U2:∀w∈n.ins,w.kind=1->T.k.bK (lA w)≠none:=by
  intro w hw hk
  rw [f3,d4,c4]
  have QL:=(hn.aN w hk).1 hw
  have:w∈(n.outs.zip m.ay).map (·.1):=by rw [C8];exact QL
  obtain ⟨p,hp,rfl⟩:=j3.1 this
  exact b4 p hp hk
 refine ⟨f1.k,?_,U2,λh=>?_,λh=>?_,f1.yb,by simpa using f6⟩
 ·have g1:=f1.len
  have g2:=ad2 (others n.ins).length T.thr
  have g3:=abW hn
  have g4:=hn.pf
  have g5:=hm.dH
  show T.k.parts.length<=600
  omega
 ·rw [f4,d5,c5] at h
  have:=c8 h
  refine ⟨k2.parts.length,by simp only;rw [if_pos h],?_⟩
  simp only
  rw [f2,nJ,d3,nJ]
  ·exact this
  ·exact (bX.1 this).1
  ·rw [d3]
   have:=(bX.1 this).1
   simp only [fZ];omega
 ·rw [f5,d6,c6] at h
  have:=d8 h
  refine ⟨k3.parts.length,by simp only;rw [if_pos h],?_⟩
  simp only
  rw [f2,nJ]
  ·exact this
  ·exact (bX.1 this).1
structure U_ (p:bq) (b:Nat) (s:Int):Prop where
 u:kj p s
 r:(p.ins.length:Int)<=s->¬fj p.ins.length s->cK p.ins.length s < b\/∃y,p.blocks[cK p.ins.length s]?=some y/\y.ins=[]
theorem ac5 {n:Net} {m:gE} (hd:Ux n m.cells.length (ot n m)) {b:Nat} (hb:b<=(ot n m).t.k.parts.length) {s:Source} (hs:pN n.ins b s)
  (h3:s.kind=3->(s.n=0->(ot n m).t.k.n0=true)/\(s.n=1->(ot n m).t.k.n1=true)):U_ (lS n m) b (PG (others n.ins).length (ot n m) s):=by
 have dW:(lS n m).blocks.length=(ot n m).t.k.parts.length:=by simp [lS]
 have AO:(lS n m).sigs=(others n.ins).length+2*((ot n m).t.k.parts.length:Int):=by unfold bq.sigs;rw [dW];rfl
 have bp:(lS n m).ins.length=(others n.ins).length:=rfl
 have qx:∀(i:Nat) (x:Part),(ot n m).t.k.parts[i]?=some x->(lS n m).blocks[i]?=some (G0 (others n.ins).length (ot n m) x):=by
  intro i x hx
  simp [lS,mM,hx]
 have ahb:∀(c:Int) (i:Nat) (v:Int),c=i->(ot n m).t.k.parts[i]?=some ⟨[],v,-1,-1⟩->U_ (lS n m) b ((others n.ins).length+2*c):=by
  intro c i v hc hi
  have aR:=(bX.1 hi).1
  have he:=abV (n:=(others n.ins).length) (v:=c) (by omega)
  have jb:cK (others n.ins).length ((others n.ins).length+2*c)=i:=by omega
  refine ⟨⟨by omega,by rw [AO];omega,λ_ hf=>absurd hf he.2⟩,λ_ _=>.inr ?_⟩
  rw [bp,jb]
  exact ⟨_,qx i _ hi,rfl⟩
 unfold PG
 rcases hs with ⟨k,g1,g2⟩|⟨k,w,hw,hk,hc⟩|⟨k,g1,g2⟩|⟨k,g⟩
 ·rw [if_neg (by omega),if_neg (by omega),if_neg (by omega)]
  exact ⟨⟨g1,by rw [AO];omega,λh=>by rw [bp] at h;omega⟩,λh=>by rw [bp] at h;omega⟩
 ·rw [if_pos k]
  have:=hd.bK w hw hk
  rw [<-hc] at this
  cases hv:(ot n m).t.k.bK s.n with
  | none=>exact absurd hv this
  | some v =>
   obtain ⟨i,hi,x,hx,hr,h0⟩:=hd.k.back _ _ hv
   have aR:=(bX.1 hx).1
   simp only [nM]
   have he:=aoz (n:=(others n.ins).length) (v:=v) (by omega)
   have jb:cK (others n.ins).length ((others n.ins).length+2*v+1)=i:=by omega
   refine ⟨⟨by omega,by rw [AO];omega,λ_ hf=>?_⟩,λ_ hf=>absurd he.2 hf⟩
   rw [bp,jb]
   exact ⟨_,qx i _ hx,by show 0<=x.bf;omega⟩
 ·rw [if_neg (by omega),if_pos k]
  have he:=abV (n:=(others n.ins).length) (v:=s.n) g1
  have jb:cK (others n.ins).length ((others n.ins).length+2*s.n) < b:=by omega
  refine ⟨⟨by omega,by rw [AO];omega,λ_ hf=>absurd hf he.2⟩,λ_ _=>.inl ?_⟩
  rw [bp];exact jb
 ·rw [if_neg (by omega),if_neg (by omega),if_pos k]
  rcases g with e|e
  ·rw [if_pos e]
   obtain ⟨i,hi,hx⟩:=hd.c0 ((h3 k).1 e)
   exact ahb _ i 0 hi hx
  ·rw [if_neg (by omega)]
   obtain ⟨i,hi,hx⟩:=hd.c1 ((h3 k).2 e)
   exact ahb _ i 1 hi hx
def Hf (p:bq) (b:Nat):Nat:=match p.blocks[b]? with
 | some x=>if x.ins=[] then 0 else b+1
 | none=>0
theorem ac6 {n:Net} {m:gE} (hn:eQ n) (hm:jz n m):Shape (lS n m)/\jy (lS n m) (Hf (lS n m)):=by
 have hd:=abX hn hm
 have dW:(lS n m).blocks.length=(ot n m).t.k.parts.length:=by simp [lS]
 have dK:∀(b:Nat) (y:Block),(lS n m).blocks[b]?=some y->∃x,(ot n m).t.k.parts[b]?=some x/\y=G0 (others n.ins).length (ot n m) x:=by
  intro b y hy
  simp only [lS,mM] at hy
  cases hx:(ot n m).t.k.parts[b]? with
  | none=>rw [hx] at hy;cases hy
  | some x=>rw [hx] at hy;cases hy;exact ⟨x,rfl,rfl⟩
 have qw:∀(b:Nat) (y:Block),(lS n m).blocks[b]?=some y->yG y/\∀s∈y.ins,U_ (lS n m) b s:=by
  intro b y hy
  obtain ⟨x,hx,rfl⟩:=dK b y hy
  obtain ⟨h1,h2⟩:=hd.k.src b x hx
  refine ⟨⟨by simpa [G0] using h1.k,h1.bZ,h1.bf,by simpa [G0] using h1.table,λh=>?_⟩,λs hs=>?_⟩
  ·have:=h1.read h
   exact ⟨this.1,by simpa [G0] using this.2.1,this.2.2⟩
  ·obtain ⟨u,hu,rfl⟩:=j3.1 hs
   exact ac5 hd (Nat.le_of_lt (bX.1 hx).1) (h2 u hu) (hd.k.lQ x (b_ hx) u hu)
 refine ⟨⟨by rw [dW];exact hd.len,?_,λs hs=>?_,λw hw=>?_,λw hw=>?_,λx hx=>?_,λx hx s hs=>?_,λi j x y hx hy h0 he=>?_⟩,λb x hx s hs bR lF=>?_⟩
 ·have:=hd.o5
  simpa [lS] using this
 ·obtain ⟨u,hu,rfl⟩:=j3.1 hs
  have:=hd.yb u hu
  exact (ac5 hd (cP _) this.2.1 this.2.2).u
 ·obtain ⟨a,b⟩:=xb.1 hw
  have b:w.kind≠1:=by simpa using b
  have:=hn.ins w a
  obtain ⟨⟨c1,c2,c3⟩,_⟩:=this
  exact ⟨by omega,c2,c3⟩
 ·obtain ⟨a,b⟩:=xb.1 hw
  have b:w.kind≠1:=by simpa using b
  have:=hn.outs w a
  obtain ⟨⟨c1,c2,c3⟩,h|h⟩:=this
  ·omega
  ·exact ⟨h,c2,c3⟩
 ·obtain ⟨b,hb⟩:=na hx
  exact (qw b x hb).1
 ·obtain ⟨b,hb⟩:=na hx
  exact ((qw b x hb).2 s hs).u
 ·obtain ⟨u,hu,rfl⟩:=dK i x hx
  obtain ⟨v,hv,rfl⟩:=dK j y hy
  have e1:=hd.k.bK i u hu h0
  have e2:=hd.k.bK j v hv (by have:u.bf=v.bf:=he;show 0<=v.bf;rw [<-this];exact h0)
  have:u.bf=v.bf:=he
  rw [this,e2] at e1
  simp at e1;omega
 ·have hr:=((qw b x hx).2 s hs).r bR lF
  have hb:Hf (lS n m) b=b+1:=by
   unfold Hf
   rw [hx]
   simp only
   rw [if_neg]
   intro e
   rw [e] at hs;cases hs
  rw [hb]
  rcases hr with h|⟨y,hy,he⟩
  ·generalize hg:cK (lS n m).ins.length s=c at h
   unfold Hf
   split
   ·split<;>omega
   ·omega
  ·unfold Hf
   rw [hy]
   simp only
   rw [if_pos he]
   omega
def Iu {A:Type} (r:Nat->Nat) (F:(Nat->A)->Nat->A):Prop:=∀f g b,(∀c,r c < r b->f c=g c)->F f b=F g b
def QP {A:Type} (F:(Nat->A)->Nat->A) (d:A):Nat->Nat->A
 | 0,_=>d
 | n+1,b=>F (QP F d n) b
theorem ad4 {A:Type} {r:Nat->Nat} {F:(Nat->A)->Nat->A} (h:Iu r F) (d:A):∀(n m b:Nat),r b < n->r b < m->QP F d n b=QP F d m b
 | 0,_,_,h0,_=>absurd h0 (Sv _)
 | _+1,0,_,_,h0=>absurd h0 (Sv _)
 | n+1,m+1,b,h1,h2=>h _ _ b λc hc=>ad4 h d n m c (by omega) (by omega)
def C_ {A:Type} (F:(Nat->A)->Nat->A) (K:Nat->A):Prop:=∀b,K b=F K b
theorem anp {A:Type} {r:Nat->Nat} {F:(Nat->A)->Nat->A} (h:Iu r F) (d:A):C_ F λb=>QP F d (r b+1) b:=by
 intro b
 show F _ b=_
 exact h _ _ b λc hc=>ad4 h d _ _ c hc (by omega)
noncomputable def fixF {A:Type} [Nonempty A] (F:(Nat->A)->Nat->A):Nat->A:=Classical.epsilon (C_ F)
theorem Tn {A:Type} [hn:Nonempty A] {r:Nat->Nat} {F:(Nat->A)->Nat->A} (h:Iu r F):C_ F (fixF F) :=
 Classical.epsilon_spec ⟨_,anp h (Classical.choice hn)⟩
theorem alL {A:Type} {r:Nat->Nat} {F:(Nat->A)->Nat->A} (h:Iu r F) {K L:Nat->A} (hK:C_ F K) (hL:C_ F L) (b:Nat):K b=L b:=by
 have:∀n b,r b < n->K b=L b:=by
  intro n
  induction n with
  | zero=>intro b h0;exact absurd h0 (Sv _)
  | succ n ih =>
   intro b hb
   rw [hK b,hL b]
   exact h _ _ b λc hc=>ih c (by omega)
 exact this (r b+1) b (by omega)
def ahc (h w:Int):Int:=IntKind.u64.wrap ((BitVec.ofInt 64 h ^^^ BitVec.ofInt 64 w).toNat:Nat)
def ahd (h w:Int):Int:=IntKind.u64.wrap (ahc h w*15485907386658061715)
def afe (h w:Int):Int:=IntKind.u64.wrap (ahc (ahd h w) ((ahd h w).fdiv (2^(min (32:Int).toNat IntKind.u64.bits)))*11562461410679940143)
theorem aff:∃f:Int->Int->Int,f=afe:=⟨_,rfl⟩
noncomputable def Pd:Int->Int->Int:=Classical.choose aff
theorem abY:Pd=afe:=w_ aff
noncomputable def ED (h:Int) (l:List Int):Int:=l.foldl (λh n=>Pd h (IntKind.u64.wrap n)) h
noncomputable def ie (l:List Int):Int:=Pd (ED 512970876019 l) (IntKind.u64.wrap l.length)
noncomputable def Kn (p:bq) (s:Int):Int:=let w:=p.ins.getD s.toNat ⟨0,0,0⟩;ie [2,w.kind,w.i,w.bit]
noncomputable def E_ (p:bq) (K:Nat->Int) (b:Nat):Int:=match p.blocks[b]? with
 | some x=>if 0<=x.bf then ie [3,x.bf] else K b
 | none=>0
noncomputable def Hg (p:bq) (b:Nat):Int:=match p.blocks[b]? with
 | some x=>if 0<=x.bf then ie [1,x.bf] else 0
 | none=>0
instance (n:Nat) (s:Int):Decidable (fj n s):=inferInstanceAs (Decidable ((s - n) % 2=1))
noncomputable def y7 (p:bq) (K:Nat->Int) (s:Int):Int :=
 if s < p.ins.length then Kn p s else if fj p.ins.length s then Hg p (cK p.ins.length s) else E_ p K (cK p.ins.length s)
noncomputable def K_ (p:bq) (K:Nat->Int) (x:Block):Int:=ie (4 :: x.table :: x.bZ :: x.ins.map λs=>IntKind.i64.wrap (y7 p K s))
noncomputable def v8 (p:bq) (K:Nat->Int) (b:Nat):Int:=match p.blocks[b]? with
 | some x=>if 0<=x.bf then 0 else K_ p K x
 | none=>0
noncomputable def r9 (p:bq):Nat->Int:=fixF (v8 p)
noncomputable def CD (p:bq) (K:Nat->Int) (b:Nat):Int:=match p.blocks[b]? with
 | some x=>if 0<=x.bf then ie [1,x.bf] else K b
 | none=>0
noncomputable def kY (p:bq):List Int:=(List.range p.blocks.length).map (CD p (r9 p))
theorem map_eq {α β:Type} {f g:α->β} {l:List α} (h:∀x∈l,f x=g x):l.map f=l.map g:=xa h
theorem To {p:bq} {r:Nat->Nat} (hr:jy p r):Iu r (v8 p):=by
 intro f g b h
 unfold v8
 cases hb:p.blocks[b]? with
 | none=>rfl
 | some x =>
  simp only
  split
  ·rfl
  ·unfold K_
   congr 3
   congr 1
   refine map_eq λs hs=>?_
   congr 1
   unfold y7
   split
   ·rfl
   ·split
    ·rfl
    ·rename_i h1 h2
     have:=hr b x hb s hs (by omega) h2
     unfold E_
     split
     ·split
      ·rfl
      ·exact h _ this
     ·rfl
def Fa (v k:Int):Bool:=Vc.aV (Vc.lB .and .i64 (v.fdiv (2^(min k.toNat IntKind.i64.bits))) 1) 1
def y8 (s:js) (r:Int):Bool:=decide (0<=r)&&decide (r / 8 < s.aN.length)&&Fa (s.aN.getD (r / 8).toNat 0) (r % 8)
def xJ (l:List Bool):Nat->Int
 | 0=>0
 | i+1=>if l.getD i false then Vc.lB .or .i64 (xJ l i) (IntKind.i64.wrap (1*2^(min ((i:Int)).toNat IntKind.i64.bits))) else xJ l i
def HI (l:List Bool):Int:=xJ l l.length
def yS (table:Int) (l:List Bool):Bool:=if 5 < l.length then false else Fa table (HI l)
def EF (s:js) (bZ:Int) (l:List Bool):Bool:=match s.bd[(bZ / 8).toNat]? with
 | some m=>match m[(HI l).toNat]? with
  | some v=>Fa v (bZ % 8)
  | none=>false
 | none=>false
def Va (p:bq) (s:js) (b:Nat):Bool:=match p.blocks[b]? with
 | some x=>y8 s x.bf
 | none=>false
def xK (p:bq) (cX:List Bool) (s:js) (V:Nat->Bool) (g:Int):Bool :=
 if g < p.ins.length then cX.getD g.toNat false else if fj p.ins.length g then Va p s (cK p.ins.length g) else V (cK p.ins.length g)
def Wv (p:bq) (cX:List Bool) (s:js) (V:Nat->Bool) (x:Block):Bool :=
 if x.bZ < 0 then yS x.table (x.ins.map (xK p cX s V)) else EF s x.bZ (x.ins.map (xK p cX s V))
def HJ (p:bq) (cX:List Bool) (s:js) (V:Nat->Bool) (b:Nat):Bool:=match p.blocks[b]? with
 | some x=>Wv p cX s V x
 | none=>false
noncomputable def CE (p:bq) (cX:List Bool) (s:js):Nat->Bool:=fixF (HJ p cX s)
noncomputable def yT (p:bq) (cX:List Bool) (s:js):List Bool:=(List.range (p.ins.length+2*p.blocks.length)).map λ(i:Nat)=>xK p cX s (CE p cX s) i
theorem anq {p:bq} {r:Nat->Nat} (hr:jy p r) (cX:List Bool) (s:js):Iu r (HJ p cX s):=by
 intro f g b h
 unfold HJ
 cases hb:p.blocks[b]? with
 | none=>rfl
 | some x =>
  have:x.ins.map (xK p cX s f)=x.ins.map (xK p cX s g):=by
   refine map_eq λu hu=>?_
   unfold xK
   split
   ·rfl
   ·split
    ·rfl
    ·rename_i h1 h2
     exact h _ (hr b x hb u hu (by omega) h2)
  simp only
  unfold Wv
  rw [this]
structure OF where
 arb:Bool
 s:js
 sP:List Bool
 dX:List Head
end Go.Proofs.Pk
