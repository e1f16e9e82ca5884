import Derived.Test.YthnhbemmlfaihaaGreatO13
import Derived.WalkKit
import Derived.Test.YthnhbemmlfaihaaGreatProg
set_option linter.unusedVariables false
set_option linter.unusedSimpArgs false
set_option maxRecDepth 10000
set_option maxHeartbeats 64000000
namespace Go.Proofs.Pk
open Go Go.Vc
structure eH where
 kind:Int
 i:Int
 bit:Int
 deriving DecidableEq
structure Gate where
 op:Int
 a:Int
 b:Int
 c:Int
 n:Int
 deriving DecidableEq
structure Cell where
 ins:List Int
 table:Int
 eI:Int
structure Block where
 ins:List Int
 table:Int
 eI:Int
 dg:Int
 key:Int
structure Net where
 ins:List eH
 aY:List Gate
 outs:List eH
 bj:List Int
structure dK where
 n:Int
 cells:List Cell
 bj:List Int
structure eP where
 ins:List eH
 blocks:List Block
 outs:List eH
 bj:List Int
inductive Expr where
 | mk (op k w:Int) (args:List Expr)
def Expr.op:Expr->Int|.mk o _ _ _=>o
def Expr.k:Expr->Int|.mk _ k _ _=>k
def Expr.w:Expr->Int|.mk _ _ w _=>w
def Expr.args:Expr->List Expr|.mk _ _ _ l=>l
structure Sv where
 kind:Int
 src:ByteArray
 n:Int
structure T3 where
 name:ByteArray
 w:Int
 init:Int
 next:Expr
 Sw:Sv
structure Mem where
 name:ByteArray
 w:Int
 words:Int
 en:Expr
 ad:Expr
 da:Expr
 Sw:Sv
structure Take where
 chan:Int
 w:Int
 cond:Expr
structure T4 where
 chan:Int
 w:Int
 cond:Expr
 data:Expr
structure Head where
 has:Bool
 v:Int
structure Z3 where
 yG:List Int
 AH:List (List Int)
structure Source where
 kind:Int
 n:Int
 deriving DecidableEq
structure Part where
 ins:List Source
 table:Int
 eI:Int
 dg:Int
abbrev dU (l:List Int):Prop:=l.Pairwise (· < ·)
theorem dU.nodup {l:List Int} (h:dU l):l.Nodup:=h.imp λgI e=>by omega
theorem dU.ext:∀{l k:List Int},dU l->dU k->(∀x,x∈l↔x∈k)->l=k
 | [],[],_,_,_=>rfl
 | [],y :: k,_,_,h=>absurd ((h y).2 (by simp)) (by simp)
 | x :: l,[],_,_,h=>absurd ((h x).1 (by simp)) (by simp)
 | x :: l,y :: k,hl,hk,h=>by
  have ja:=fx.1 hl
  have gz:=fx.1 hk
  have e:x=y:=by
   rcases cJ.1 ((h x).1 (by simp)) with e|e
   ·exact e
   ·rcases cJ.1 ((h y).2 (by simp)) with e'|e'
    ·exact e'.symm
    ·have:=gz.1 x e;have:=ja.1 y e';omega
  subst e
  rw [dU.ext ja.2 gz.2 λz=>?_]
  have hz:=h z
  simp only [cJ] at hz
  constructor
  ·intro hm
   rcases hz.1 (.inr hm) with e|e
   ·subst e;exact absurd (ja.1 z hm) (by omega)
   ·exact e
  ·intro hm
   rcases hz.2 (.inr hm) with e|e
   ·subst e;exact absurd (gz.1 z hm) (by omega)
   ·exact e
def eF:List Int->List Int
 | []=>[]
 | [x]=>[x]
 | x :: y :: r=>if x=y then eF (y :: r) else x :: eF (y :: r)
theorem K5:∀{l:List Int} {x:Int},x∈eF l↔x∈l
 | [],x=>by simp [eF]
 | [y],x=>by simp [eF]
 | y :: z :: r,x=>by
  unfold eF
  split
  ·rename_i e;subst e;rw [K5];simp
  ·rw [cJ,K5];simp
theorem PU:∀{l:List Int},l.Pairwise (·<=·)->dU (eF l)
 | [],_=>.nil
 | [y],_=>by simp [eF]
 | y :: z :: r,h=>by
  have h':=fx.1 h
  unfold eF
  split
  ·exact PU h'.2
  ·rename_i bO
   refine fx.2 ⟨λx hx=>?_,PU h'.2⟩
   rw [K5] at hx
   have h1:=h'.1 z (by simp)
   rcases cJ.1 hx with rfl|hx
   ·omega
   ·have:=(fx.1 h'.2).1 x hx;omega
def se (x:Int):List Int->List Int
 | []=>[x]
 | y :: r=>if x < y then x :: y :: r else if x=y then y :: r else y :: se x r
theorem Qm {x z:Int}:∀{l:List Int},z∈se x l↔z=x\/z∈l
 | []=>by simp [se]
 | y :: r=>by
  unfold se
  split
  ·simp
  ·split
   ·rename_i e;subst e;simp
   ·simp only [cJ,Qm (l:=r)]
    constructor
    ·rintro (h|h|h)<;>simp [h]
    ·rintro (h|h|h)<;>simp [h]
theorem Ys {x:Int}:∀{l:List Int},dU l->dU (se x l)
 | [],_=>by simp [se]
 | y :: r,h=>by
  have h':=fx.1 h
  unfold se
  split
  ·refine fx.2 ⟨λz hz=>?_,h⟩
   rcases cJ.1 hz with rfl|hz
   ·assumption
   ·have:=h'.1 z hz;omega
  ·split
   ·exact h
   ·refine fx.2 ⟨λz hz=>?_,Ys h'.2⟩
    rcases Qm.1 hz with rfl|hz
    ·omega
    ·exact h'.1 z hz
def gE (a b:List Int):List Int:=(a++b).foldr se []
theorem Vz {z:Int}:∀{l:List Int},z∈l.foldr se []↔z∈l
 | []=>by simp
 | y :: r=>by rw [List.foldr_cons,Qm,Vz,cJ]
theorem VA:∀l:List Int,dU (l.foldr se [])
 | []=>.nil
 | y :: r=>Ys (VA r)
theorem xY {a b:List Int} {z:Int}:z∈gE a b↔z∈a\/z∈b:=by unfold gE;rw [Vz,dD]
theorem GQ (a b:List Int):dU (gE a b):=VA _
theorem ahX {a b l:List Int} (h:l.Pairwise (·<=·)) (hp:l.Perm (a++b)):eF l=gE a b :=
 (PU h).ext (GQ a b) λx=>by rw [K5,xY,hp.mem_iff,dD]
def dF (a b:List Int):Bool:=a.all λx=>b.contains x
theorem lQ {a b:List Int}:dF a b=true↔∀x∈a,x∈b:=by simp [dF]
def ia (l:List (List Int)) (x:List Int):List (List Int):=if l.any (λy=>dF y x) then l else l.filter (λy=>!dF x y)++[x]
abbrev uH (L:List (List Int)):Prop:=L.Pairwise λa b=>dF a b=false/\dF b a=false
theorem D7 {a b c:List Int} (h:dF a b=true) (k:dF b c=true):dF a c=true:=by rw [lQ] at *;exact λx hx=>k x (h x hx)
theorem PV (a:List Int):dF a a=true:=lQ.2 λ_ h=>h
structure o9 (F R:List (List Int)):Prop where
 mem:∀r∈R,r∈F
 all:∀u∈F,∃r∈R,dF r u=true
 pf:uH R
theorem o9.nil:o9 [] []:=⟨by simp,by simp,.nil⟩
theorem o9.add {F R:List (List Int)} (h:o9 F R) (u:List Int):o9 (F++[u]) (ia R u):=by
 unfold ia
 split
 ·rename_i hs
  obtain ⟨y,hy,hs⟩:=Ee.1 hs
  refine ⟨λr hr=>vv _ (h.mem r hr),λv hv=>?_,h.pf⟩
  rcases dD.1 hv with hv|hv
  ·exact h.all v hv
  ·simp at hv;subst hv;exact ⟨y,hy,hs⟩
 ·rename_i hs
  have hs:∀y∈R,dF y u=false:=λy hy=>by
   have:=(List.any_eq_false.1 (Bool.not_eq_true _ ▸ hs)) y hy
   simpa using this
  refine ⟨λr hr=>?_,λv hv=>?_,?_⟩
  ·rcases dD.1 hr with hr|hr
   ·exact vv _ (h.mem r (lP.1 hr).1)
   ·exact zO _ hr
  ·rcases dD.1 hv with hv|hv
   ·obtain ⟨r,hr,AP⟩:=h.all v hv
    cases hq:dF u r with
    | false=>exact ⟨r,vv _ (lP.2 ⟨hr,by simp [hq]⟩),AP⟩
    | true=>exact ⟨u,by simp,D7 hq AP⟩
   ·simp at hv;subst hv;exact ⟨v,by simp,PV v⟩
  ·refine jO.2 ⟨h.pf.filter _,by simp,λa ha b hb=>?_⟩
   simp at hb;subst hb
   obtain ⟨A5,tC⟩:=lP.1 ha
   exact ⟨hs a A5,by simpa using tC⟩
theorem o9.fold {F R:List (List Int)} (h:o9 F R):∀L:List (List Int),o9 (F++L.filter λu=>decide (u.length<=4)) (L.foldl (λnext u=>if u.length<=4 then ia next u else next) R)
 | []=>by simpa using h
 | u :: L=>by
  rw [nN]
  by_cases hu:u.length<=4
  ·rw [if_pos hu,KK (by simpa using hu)]
   have:=o9.fold (h.add u) L
   rwa [List.append_assoc] at this
  ·rw [if_neg hu,Pj (by simpa using hu)]
   exact o9.fold h L
def jt (op:Int):Nat:=if op=1 then 1 else if op=2\/op=3\/op=4 then 2 else 3
def ca (g:Gate):List Int:=[g.a,g.b,g.c].take (jt g.op)
theorem ai3 {g:Gate} {o:Int} (h:o∈ca g):o=g.a\/o=g.b\/o=g.c:=by simpa using qk h
theorem s7 (g:Gate):1<=(ca g).length/\(ca g).length<=3:=by
 unfold ca jt
 split
 ·simp
 ·split<;>simp
structure Jo (lim:Int) (g:Gate):Prop where
 op:1<=g.op/\g.op<=7
 a:0<=g.a/\g.a < lim
 b:0<=g.b/\g.b < lim
 c:0<=g.c/\g.c < lim
 n:0<=g.n/\g.n < 64
structure cb (I:Nat) (gs:List Gate):Prop where
 j6:2+I+gs.length<=600
 aY:∀(i:Nat) (g:Gate),gs[i]?=some g->Jo (2+I+i) g
theorem cb.ops {I:Nat} {gs:List Gate} (h:cb I gs) {i:Nat} {g:Gate} (hg:gs[i]?=some g):∀o∈ca g,0<=o/\o < 2+I+i:=λo ho=>by
 have k:=h.aY i g hg
 rcases ai3 ho with rfl|rfl|rfl
 ·exact k.a
 ·exact k.b
 ·exact k.c
inductive fl (I:Nat) (gs:List Gate) (S:Int->Prop):Int->Prop
 | mem {v:Int}:S v->fl I gs S v
 | const {v:Int}:0<=v->v < 2->fl I gs S v
 | gate {i:Nat} {g:Gate}:gs[i]?=some g->g.op≠7->(∀o∈ca g,fl I gs S o)->fl I gs S (2+I+i)
theorem fl.mono {I:Nat} {gs:List Gate} {S T:Int->Prop} (h:∀x,S x->T x) {v:Int} (k:fl I gs S v):fl I gs T v:=by
 induction k with
 | mem h1=>exact .mem (h _ h1)
 | const h1 h2=>exact .const h1 h2
 | gate h1 h2 _ ih=>exact .gate h1 h2 ih
theorem fl.inv {I:Nat} {gs:List Gate} {S:Int->Prop} {i:Nat} {g:Gate} (hg:gs[i]?=some g) (k:fl I gs S (2+I+i)) (hn:¬S (2+I+i)):g.op≠7/\∀o∈ca g,fl I gs S o:=by
 generalize hv:(2+(I:Int)+i)=v at k
 cases k with
 | mem h1=>rw [hv] at hn;exact absurd h1 hn
 | const h1 h2=>omega
 | gate h1 h2 h3 =>
  rename_i j g'
  have:j=i:=by omega
  subst this
  rw [hg] at h1;cases h1
  exact ⟨h2,h3⟩
theorem fl.input {I:Nat} {gs:List Gate} {S:Int->Prop} {v:Int} (h:2<=v) (h':v < 2+I) (k:fl I gs S v):S v:=by
 cases k with
 | mem h1=>exact h1
 | const h1 h2=>omega
 | gate h1 h2 h3=>omega
theorem fl.more {I:Nat} {gs hs:List Gate} {S:Int->Prop} {v:Int} (k:fl I gs S v):fl I (gs++hs) S v:=by
 induction k with
 | mem h1=>exact .mem h1
 | const h1 h2=>exact .const h1 h2
 | gate h1 h2 _ ih=>exact .gate (by rw [ka (a7.1 h1).1];exact h1) h2 ih
structure jJ (Q:(Int->Prop)->Prop) (m:Int) (C:List (List Int)):Prop where
 inc:∀c∈C,dU c
 len:∀c∈C,c.length<=4
 lim:∀c∈C,∀x∈c,2<=x/\x < m
 cut:∀c∈C,Q (·∈c)
 all:∀S:List Int,S.length<=4->Q (·∈S)->∃c∈C,dF c S=true
 pf:uH C
theorem dU.alr {c S:List Int} (h:dU c) (hs:dF c S=true):c.length<=S.length:=BP h.nodup (lQ.1 hs)
def nQ (all cs:List (List Int)):List (List Int):=(all.flatMap λa=>cs.map λb=>gE a b).foldl (λnext u=>if u.length<=4 then ia next u else next) []
theorem jJ.step {Q Q':(Int->Prop)->Prop} {m:Int} {A C:List (List Int)} (hA:jJ Q m A) (hC:jJ Q' m C) (mono:∀S T:Int->Prop,(∀x,S x->T x)->Q S->Q T) (anl:∀S T:Int->Prop,(∀x,S x->T x)->Q' S->Q' T) :
  jJ (λS=>Q S/\Q' S) m (nQ A C):=by
 have M:=o9.fold o9.nil (A.flatMap λa=>C.map λb=>gE a b)
 have sh:∀r∈nQ A C,∃a∈A,∃b∈C,r=gE a b/\r.length<=4:=λr hr=>by
  have h:=M.mem r hr
  rw [qU,lP,Ed] at h
  obtain ⟨⟨a,ha,h⟩,hl⟩:=h
  obtain ⟨b,hb,rfl⟩:=iM.1 h
  exact ⟨a,ha,b,hb,rfl,by simpa using hl⟩
 refine ⟨λr hr=>?_,λr hr=>?_,λr hr x hx=>?_,λr hr=>?_,λS hS hq=>?_,M.pf⟩
 ·obtain ⟨a,ha,b,hb,rfl,_⟩:=sh r hr
  exact GQ a b
 ·obtain ⟨a,ha,b,hb,_,hl⟩:=sh r hr
  exact hl
 ·obtain ⟨a,ha,b,hb,rfl,_⟩:=sh r hr
  rcases xY.1 hx with hx|hx
  ·exact hA.lim a ha x hx
  ·exact hC.lim b hb x hx
 ·obtain ⟨a,ha,b,hb,rfl,_⟩:=sh r hr
  exact ⟨mono _ _ (λx hx=>xY.2 (.inl hx)) (hA.cut a ha),anl _ _ (λx hx=>xY.2 (.inr hx)) (hC.cut b hb)⟩
 ·obtain ⟨a,ha,has⟩:=hA.all S hS hq.1
  obtain ⟨b,hb,Tp⟩:=hC.all S hS hq.2
  have hu:dF (gE a b) S=true:=lQ.2 λx hx=>by
   rcases xY.1 hx with hx|hx
   ·exact lQ.1 has x hx
   ·exact lQ.1 Tp x hx
  have hl:=(GQ a b).alr hu
  obtain ⟨r,hr,hrs⟩:=M.all (gE a b) (by
   rw [qU,lP,Ed]
   exact ⟨⟨a,ha,iM.2 ⟨b,hb,rfl⟩⟩,by simpa using ot hl hS⟩)
  exact ⟨r,hr,D7 hrs hu⟩
def fT:List Int->List Int->Int
 | [],[]=>0
 | [],_ :: _=>-1
 | _ :: _,[]=>1
 | x :: a,y :: b=>if x < y then -1 else if y < x then 1 else fT a b
def iN (a b:List Int):Int:=if a.length < b.length then -1 else if b.length < a.length then 1 else fT a b
theorem Zo:∀{a b:List Int},fT a b=0->a=b
 | [],[],_=>rfl
 | [],_ :: _,h=>by simp [fT] at h
 | _ :: _,[],h=>by simp [fT] at h
 | x :: a,y :: b,h=>by
  unfold fT at h
  split at h
  ·simp at h
  ·split at h
   ·simp at h
   ·rw [Zo h,show x=y by omega]
theorem Xo:∀a:List Int,fT a a=0
 | []=>rfl
 | x :: a=>by unfold fT;rw [if_neg (by omega),if_neg (by omega)];exact Xo a
theorem Yt:∀a b:List Int,fT b a=- fT a b
 | [],[]=>rfl
 | [],_ :: _=>rfl
 | _ :: _,[]=>rfl
 | x :: a,y :: b=>by
  unfold fT
  by_cases h1:x < y
  ·rw [if_neg (by omega),if_pos h1,if_pos h1];rfl
  ·by_cases h2:y < x
   ·rw [if_pos h2,if_neg h1,if_pos h2]
   ·rw [if_neg h2,if_neg h1,if_neg h1,if_neg h2];exact Yt a b
theorem Wz:∀{a b c:List Int},fT a b < 0->fT b c < 0->fT a c < 0
 | [],[],_,h,_=>by simp [fT] at h
 | [],_ :: _,[],_,h=>by simp [fT] at h
 | [],_ :: _,_ :: _,_,_=>by simp [fT]
 | _ :: _,[],_,h,_=>by simp [fT] at h
 | _ :: _,_ :: _,[],_,h=>by simp [fT] at h
 | x :: a,y :: b,z :: c,h,k=>by
  unfold fT at h k ⊢
  split at h
  ·split at k
   ·rw [if_pos (by omega)];decide
   ·split at k
    ·simp at k
    ·rw [if_pos (by omega)];decide
  ·split at h
   ·simp at h
   ·split at k
    ·rw [if_pos (by omega)];decide
    ·split at k
     ·simp at k
     ·rw [if_neg (by omega),if_neg (by omega)];exact Wz h k
theorem QF {a b:List Int} (h:iN a b=0):a=b:=by
 unfold iN at h
 split at h
 ·simp at h
 ·split at h
  ·simp at h
  ·exact Zo h
theorem BV (a b:List Int):iN b a=- iN a b:=by
 unfold iN
 by_cases h1:a.length < b.length
 ·rw [if_neg (by omega),if_pos h1,if_pos h1];rfl
 ·by_cases h2:b.length < a.length
  ·rw [if_pos h2,if_neg h1,if_pos h2]
  ·rw [if_neg h2,if_neg h1,if_neg h1,if_neg h2];exact Yt a b
theorem WA {a b c:List Int} (h:iN a b < 0) (k:iN b c < 0):iN a c < 0:=by
 unfold iN at *
 split at h
 ·split at k
  ·rw [if_pos (by omega)];decide
  ·split at k
   ·simp at k
   ·rw [if_pos (by omega)];decide
 ·split at h
  ·simp at h
  ·split at k
   ·rw [if_pos (by omega)];decide
   ·split at k
    ·simp at k
    ·rw [if_neg (by omega),if_neg (by omega)];exact Wz h k
theorem OK {a b c:List Int} (h:iN a b<=0) (k:iN b c<=0):iN a c<=0:=by
 rcases Int.lt_or_eq_of_le h with h|h
 ·rcases Int.lt_or_eq_of_le k with k|k
  ·exact Int.le_of_lt (WA h k)
  ·rw [<-QF k];omega
 ·rw [QF h];exact k
def CU (x:List Int):List (List Int)->List (List Int)
 | []=>[x]
 | y :: r=>if iN x y<=0 then x :: y :: r else y :: CU x r
def lW (L:List (List Int)):List (List Int):=L.foldr CU []
theorem PW (x:List Int):∀L:List (List Int),(CU x L).Perm (x :: L)
 | []=>.refl _
 | y :: r=>by
  unfold CU
  split
  ·exact .refl _
  ·exact ((PW x r).cons y).trans (.swap x y r)
theorem wK:∀L:List (List Int),(lW L).Perm L
 | []=>.refl _
 | y :: r=>(PW y (lW r)).trans ((wK r).cons y)
abbrev F4 (L:List (List Int)):Prop:=L.Pairwise λa b=>iN a b<=0
theorem Yu (x:List Int):∀{L:List (List Int)},F4 L->F4 (CU x L)
 | [],_=>by simp [CU]
 | y :: r,h=>by
  have h':=fx.1 h
  unfold CU
  split
  ·rename_i uP
   refine fx.2 ⟨λz hz=>?_,h⟩
   rcases cJ.1 hz with rfl|hz
   ·exact uP
   ·exact OK uP (h'.1 z hz)
  ·rename_i uP
   refine fx.2 ⟨λz hz=>?_,Yu x h'.2⟩
   rcases cJ.1 ((PW x r).mem_iff.1 hz) with rfl|hz
   ·rw [BV];omega
   ·exact h'.1 z hz
theorem K6:∀L:List (List Int),F4 (lW L)
 | []=>.nil
 | y :: r=>Yu y (K6 r)
theorem Yv {L R:List (List Int)} (hp:R.Perm L) (hs:F4 R):R=lW L :=
 List.Perm.eq_of_pairwise (λa b _ _ h k=>QF (by rw [BV] at k;omega)) hs (K6 L) (hp.trans (wK L).symm)
theorem ahY {L:List (List Int)} {x y:List Int} {r:List (List Int)} (h:lW L=x :: r) (hy:y∈L):x.length<=y.length:=by
 have hs:=K6 L
 have hm:=(wK L).mem_iff.2 hy
 rw [h] at hs hm
 rcases cJ.1 hm with rfl|hm
 ·exact fb _
 ·have:=(fx.1 hs).1 y hm
  unfold iN at this
  split at this
  ·omega
  ·split at this
   ·simp at this
   ·omega
def bR (L l:List Int):Int:=l.foldl (λm v=>max m (L.getD v.toNat 0)) 0
theorem O6 (L:List Int):∀(l:List Int) (m:Int),m<=l.foldl (λm v=>max m (L.getD v.toNat 0)) m/\∀v∈l,L.getD v.toNat 0<=l.foldl (λm v=>max m (L.getD v.toNat 0)) m
 | [],m=>⟨iU _,by simp⟩
 | x :: r,m=>by
  have h:=O6 L r (max m (L.getD x.toNat 0))
  rw [nN]
  refine ⟨by omega,λv hv=>?_⟩
  rcases cJ.1 hv with rfl|hv
  ·omega
  ·exact h.2 v hv
theorem zI {L l:List Int} {v:Int} (h:v∈l):L.getD v.toNat 0<=bR L l:=(O6 L l 0).2 v h
theorem qo (L l:List Int):0<=bR L l:=(O6 L l 0).1
theorem sW {L:List Int}:∀{l:List Int} {m M:Int},m<=M->(∀v∈l,L.getD v.toNat 0<=M)->l.foldl (λm v=>max m (L.getD v.toNat 0)) m<=M
 | [],m,M,h,_=>h
 | x :: r,m,M,h,k=>by
  rw [nN]
  exact sW (by have:=k x (by simp);omega) λv hv=>k v (by simp [hv])
theorem WB {L a b:List Int} (h:dF a b=true):bR L a<=bR L b:=sW (qo L b) λv hv=>zI (lQ.1 h v hv)
def jU (f:List Int->Int):List Int->List (List Int)->List Int
 | m,[]=>m
 | m,x :: r=>if f x - f m < 0 then jU f x r else jU f m r
theorem Hh {f:List Int->Int}:∀{r:List (List Int)} {m:List Int},jU f m r∈m :: r
 | [],m=>by simp [jU]
 | x :: r,m=>by
  unfold jU
  split
  ·exact pE _ Hh
  ·rcases cJ.1 (Hh (f:=f) (r:=r) (m:=m)) with h|h<;>simp [h]
theorem Yw {f:List Int->Int}:∀{r:List (List Int)} {m:List Int},∀x∈m :: r,f (jU f m r)<=f x
 | [],m=>by simp [jU]
 | y :: r,m=>by
  intro x hx
  unfold jU
  have h1:=λm=>Yw (f:=f) (r:=r) (m:=m)
  split
  ·have h2:=h1 y y (by simp)
   rcases cJ.1 hx with rfl|hx
   ·omega
   ·exact h1 y x hx
  ·have h2:=h1 m m (by simp)
   rcases cJ.1 hx with rfl|hx
   ·exact h2
   ·rcases cJ.1 hx with rfl|hx
    ·omega
    ·exact h1 m x (pE _ hx)
structure dW where
 labels:List Int
 eT:List (List (List Int))
 leaves:List (List Int)
def pI (C:List (List (List Int))) (ops:List Int):List (List Int):=lW (ops.foldl (λall o=>nQ all (C.getD o.toNat [])) [[]])
def HK (v:Int):List (List Int)->List (List Int)
 | []=>[[v]]
 | x :: r=>if x.length=0 then x :: r else [v] :: x :: r
def k8 (I:Nat):dW:=⟨List.replicate (2+I) 0,[[[]],[[]]]++(List.range I).map (λk:Nat=>[[2+(k:Int)]]),List.replicate (2+I) []⟩
def wU (s:dW) (g:Gate):Option dW :=
 let v:Int:=s.labels.length
 if g.op=7 then some ⟨s.labels++[1+bR s.labels (ca g)],s.eT++[[[v]]],s.leaves++[ca g]⟩
 else match pI s.eT (ca g) with
  | []=>none
  | x :: r=>if (HK v (x :: r)).length > 400 then none
   else some ⟨s.labels++[1+bR s.labels (jU (bR s.labels) x r)],s.eT++[HK v (x :: r)],s.leaves++[jU (bR s.labels) x r]⟩
def iO (I:Nat) (gs:List Gate):Option dW:=gs.foldl (λs g=>s.bind λs=>wU s g) (some (k8 I))
theorem Lf (I:Nat) (gs:List Gate) (g:Gate):iO I (gs++[g])=(iO I gs).bind λs=>wU s g:=by simp [iO,List.foldl_append]
abbrev kC (I:Nat) (gs:List Gate) (l:List Int) (S:Int->Prop):Prop:=∀o∈l,fl I gs S o
theorem jJ.perm {Q:(Int->Prop)->Prop} {m:Int} {C D:List (List Int)} (h:jJ Q m C) (hp:D.Perm C):jJ Q m D :=
 ⟨λc hc=>h.inc c (hp.mem_iff.1 hc),λc hc=>h.len c (hp.mem_iff.1 hc),λc hc=>h.lim c (hp.mem_iff.1 hc),λc hc=>h.cut c (hp.mem_iff.1 hc),
  λS hS hq=>by obtain ⟨c,hc,hs⟩:=h.all S hS hq;exact ⟨c,hp.mem_iff.2 hc,hs⟩,hp.symm.pairwise h.pf λh=>⟨h.2,h.1⟩⟩
theorem jJ.up {Q Q':(Int->Prop)->Prop} {m m':Int} {C:List (List Int)} (h:jJ Q m C) (hm:m<=m') (hq:∀S,Q S↔Q' S):jJ Q' m' C :=
 ⟨h.inc,h.len,λc hc x hx=>by have:=h.lim c hc x hx;omega,λc hc=>(hq _).1 (h.cut c hc),λS hS k=>h.all S hS ((hq _).2 k),h.pf⟩
structure jV (I:Nat) (gs:List Gate) (s:dW):Prop where
 len:s.labels.length=2+I+gs.length
 Fp:s.eT.length=2+I+gs.length
 oD:s.leaves.length=2+I+gs.length
 cut:∀(v:Nat) (C:List (List Int)),s.eT[v]?=some C->jJ (λS=>fl I gs S v) (v+1) C/\C≠[]
 gl:∀C∈s.eT,C.length<=400
 zero:∀(v:Nat) (x:Int),v < 2+I->s.labels[v]?=some x->x=0
 pos:∀x∈s.labels,0<=x
 gH:∀(i:Nat) (l:List Int),s.leaves[2+I+i]?=some l->s.labels[2+I+i]?=some (1+bR s.labels l)
 lf:∀(i:Nat) (l:List Int) (g:Gate),s.leaves[2+I+i]?=some l->gs[i]?=some g->if g.op=7 then l=ca g else
  dU l/\l.length<=4/\(∀x∈l,2<=x/\x < 2+I+i)/\kC I gs (ca g) (·∈l)/\(∀S:List Int,S.length<=4->kC I gs (ca g) (·∈S)->dF S l=true->dF l S=true) /\
   ∀S:List Int,S.length<=4->kC I gs (ca g) (·∈S)->bR s.labels l<=bR s.labels S
theorem PX {I:Nat} {gs:List Gate} (G:cb I gs) {s:dW} (h:jV I gs s) {m:Nat} (hm:m<=2+I+gs.length) {l:List Int} (ho:∀o∈l,0<=o/\o < m):jJ (kC I gs l) m (pI s.eT l):=by
 suffices H:∀(l:List Int) (Q:(Int->Prop)->Prop) (A:List (List Int)),(∀S T:Int->Prop,(∀x,S x->T x)->Q S->Q T)->jJ Q m A->(∀o∈l,0<=o/\o < m) ->
   jJ (λS=>Q S/\kC I gs l S) m (l.foldl (λall o=>nQ all (s.eT.getD o.toNat [])) A) by
  have h1:jJ (λ_=>True) m [[]]:=⟨by simp,by simp,by simp,λ_ _=>trivial,λS _ _=>⟨[],by simp,by simp [dF]⟩,by simp⟩
  exact ((H l _ _ (λ_ _ _ _=>trivial) h1 ho).perm (wK _)).up (iU _) λS=>by simp
 intro l
 induction l with
 | nil=>intro Q A _ hA _;exact hA.up (iU _) λS=>by simp [kC]
 | cons o r ih =>
  intro Q A hQ hA ho
  obtain ⟨h0,h1⟩:=ho o (by simp)
  have aO:o.toNat < s.eT.length:=by rw [h.Fp];omega
  have hC:=(h.cut o.toNat _ (ea aO)).1
  have e:s.eT.getD o.toNat []=s.eT[o.toNat]:=by rw [List.getD_eq_getElem?_getD,ea aO];rfl
  rw [nN,e]
  have y7:jJ (λS=>fl I gs S o) m s.eT[o.toNat]:=hC.up (by omega) λS=>by rw [Int.toNat_of_nonneg h0]
  refine (ih _ _ ?_ (hA.step y7 hQ λS T y8=>fl.mono y8) λx hx=>ho x (by simp [hx])).up (iU _) λS=>?_
  ·exact λS T y8 hq=>⟨hQ S T y8 hq.1,hq.2.mono y8⟩
  ·constructor
   ·rintro ⟨⟨a,b⟩,c⟩
    refine ⟨a,λx hx=>?_⟩
    rcases cJ.1 hx with rfl|hx
    ·exact b
    ·exact c x hx
   ·rintro ⟨a,b⟩
    exact ⟨⟨a,b o (by simp)⟩,λx hx=>b x (by simp [hx])⟩
theorem fl.less {I:Nat} {gs hs:List Gate} (G:cb I (gs++hs)) {S:Int->Prop} {v:Int} (k:fl I (gs++hs) S v) (hv:v < 2+I+gs.length):fl I gs S v:=by
 induction k with
 | mem h1=>exact .mem h1
 | const h1 h2=>exact .const h1 h2
 | @gate i g h1 h2 h3 ih =>
  have hi:i < gs.length:=by omega
  have h4:gs[i]?=some g:=by rw [ka hi] at h1;exact h1
  refine .gate h4 h2 λo ho=>ih o ho ?_
  have:=(G.ops h1 o ho).2
  omega
theorem fl.same {I:Nat} {gs hs:List Gate} (G:cb I (gs++hs)) {S:Int->Prop} {v:Int} (hv:v < 2+I+gs.length):fl I gs S v↔fl I (gs++hs) S v:=⟨fl.more,λh=>h.less G hv⟩
theorem kC.same {I:Nat} {gs hs:List Gate} (G:cb I (gs++hs)) {S:Int->Prop} {l:List Int} (hl:∀o∈l,o < 2+I+gs.length):kC I gs l S↔kC I (gs++hs) l S :=
 ⟨λh o ho=>(h o ho).more,λh o ho=>(h o ho).less G (hl o ho)⟩
theorem cb.left {I:Nat} {gs hs:List Gate} (G:cb I (gs++hs)):cb I gs :=
 ⟨by have:=G.j6;simp at this;omega,λi g h=>G.aY i g (by rw [ka (a7.1 h).1];exact h)⟩
theorem KF {L l:List Int} {y:Int} (h:∀x∈l,x.toNat < L.length):bR (L++[y]) l=bR L l:=by
 unfold bR
 have:∀(l:List Int) (m:Int),(∀x∈l,x.toNat < L.length)->l.foldl (λm v=>max m ((L++[y]).getD v.toNat 0)) m=l.foldl (λm v=>max m (L.getD v.toNat 0)) m:=by
  intro l
  induction l with
  | nil=>intro m _;rfl
  | cons x r ih =>
   intro m h
   have hx:=h x (by simp)
   rw [nN,nN,ih _ λz hz=>h z (by simp [hz]),List.getD_eq_getElem?_getD,ka hx,<-List.getD_eq_getElem?_getD]
 exact this l 0 h
theorem We {L:List Int} {y:Int} (hy:0<=y) (l:List Int):bR L l<=bR (L++[y]) l:=by
 refine sW (qo _ l) λv hv=>ua ?_ (zI hv)
 rw [List.getD_eq_getElem?_getD,List.getD_eq_getElem?_getD,wN]
 split
 ·exact iU _
 ·rename_i h
  rw [pD (by omega)]
  cases h2:[y][v.toNat - L.length]? with
  | none=>exact iU _
  | some z =>
   have:=cf h2
   simp at this;subst this;exact hy
theorem ahZ (I:Nat):jV I [] (k8 I):=by
 have hc:∀(v:Nat) (C:List (List Int)),(k8 I).eT[v]?=some C->(v < 2/\C=[[]])\/(2<=v/\v < 2+I/\C=[[(v:Int)]]):=by
  intro v C h
  match v,h with
  | 0,h=>simp [k8] at h;exact .inl ⟨by omega,h.symm⟩
  | 1,h=>simp [k8] at h;exact .inl ⟨by omega,h.symm⟩
  | v+2,h =>
   simp [k8] at h
   obtain ⟨k,h1,h2⟩:=h
   obtain ⟨h3,h4⟩:=a7.1 h1
   simp at h3 h4
   exact .inr ⟨by omega,by omega,by rw [<-h2,<-h4,show ((v+2:Nat):Int)=2+(v:Int) by omega]⟩
 refine ⟨by simp [k8],by simp [k8];omega,by simp [k8],λv C h=>?_,λC h=>?_,λv x _ h=>?_,λx h=>?_,λi l h=>?_,λi l g h hg=>by simp at hg⟩
 ·rcases hc v C h with ⟨hv,rfl⟩|⟨h1,h2,rfl⟩
  ·exact ⟨⟨by simp,by simp,by simp,λc hc=>.const (by omega) (by omega),λS _ _=>⟨[],by simp,by simp [dF]⟩,by simp⟩,by simp⟩
  ·refine ⟨⟨by simp,by simp,λc hc x hx=>?_,λc hc=>?_,λS _ hS=>⟨[(v:Int)],by simp,?_⟩,by simp⟩,by simp⟩
   ·simp at hc;subst hc;simp at hx;omega
   ·simp at hc;subst hc;exact .mem (by simp)
   ·rw [lQ];intro x hx;simp at hx;subst hx;exact hS.input (by omega) (by omega)
 ·obtain ⟨v,hv⟩:=lN h
  rcases hc v C hv with ⟨_,rfl⟩|⟨_,_,rfl⟩<;>simp
 ·simp [k8,sY] at h;exact h.2.symm
 ·simp [k8] at h;omega
 ·exfalso
  have:=(a7.1 h).1
  simp [k8] at this
  omega
theorem ai4 {M:List (List Int)} (ha:uH M) {x:List Int} {r:List (List Int)} (hM:M=x :: r) (hx:x.length=0):r=[]:=by
 subst hM
 cases r with
 | nil=>rfl
 | cons y r =>
  have:=((fx.1 ha).1 y (by simp)).1
  rw [iV hx] at this
  simp [dF] at this
theorem Xp (v:Int) (x:List Int) (r:List (List Int)):HK v (x :: r)=if x.length=0 then x :: r else [v] :: x :: r:=rfl
theorem akj {I:Nat} {gs:List Gate} {g:Gate} (G:cb I (gs++[g])) {s s':dW} (h:jV I gs s) (e:wU s g=some s'):jV I (gs++[g]) s':=by
 have G0:=G.left
 have hg:(gs++[g])[gs.length]?=some g:=by simp
 have jw:=G.ops hg
 have aO:∀o∈ca g,o < 2+(I:Int)+gs.length:=λo ho=>(jw o ho).2
 have key:∀(c:List (List Int)) (l:List Int),s'=⟨s.labels++[1+bR s.labels l],s.eT++[c],s.leaves++[l]⟩->(jJ (λS=>fl I (gs++[g]) S (2+I+gs.length:Nat)) ((2+I+gs.length:Nat)+1) c/\c≠[])->c.length<=400 ->
   (∀x∈l,0<=x/\x < 2+(I:Int)+gs.length)->(if g.op=7 then l=ca g else dU l/\l.length<=4/\(∀x∈l,2<=x/\x < 2+(I:Int)+gs.length)/\kC I (gs++[g]) (ca g) (·∈l) /\
    (∀S:List Int,S.length<=4->kC I (gs++[g]) (ca g) (·∈S)->dF S l=true->dF l S=true)/\∀S:List Int,S.length<=4->kC I (gs++[g]) (ca g) (·∈S)->bR s.labels l<=bR s.labels S)->jV I (gs++[g]) s':=by
  intro c l tx Ir hc4 hl cv
  subst tx
  have hy:0<=1+bR s.labels l:=by have:=qo s.labels l;omega
  refine ⟨by simp [h.len];omega,by simp [h.Fp];omega,by simp [h.oD];omega,λv C hv=>?_,λC hC=>?_,λv x hv hx=>?_,λx hx=>?_,λi l' ja=>?_,λi l' g' ja j2=>?_⟩
  ·rw [wN] at hv
   split at hv
   ·rename_i aO
    rw [h.Fp] at aO
    obtain ⟨h1,h2⟩:=h.cut v C hv
    exact ⟨h1.up (iU _) λS=>fl.same G (by omega),h2⟩
   ·rename_i aO
    have eM:v=2+I+gs.length:=by
     have:=(a7.1 hv).1
     rw [h.Fp] at this aO
     simp at this;omega
    subst eM
    simp [h.Fp] at hv
    subst hv
    exact Ir
  ·rcases dD.1 hC with hC|hC
   ·exact h.gl C hC
   ·simp at hC;subst hC;exact hc4
  ·rw [ka (by rw [h.len];omega)] at hx
   exact h.zero v x hv hx
  ·rcases dD.1 hx with hx|hx
   ·exact h.pos x hx
   ·simp at hx;omega
  ·by_cases hi:i < gs.length
   ·rw [ka (by rw [h.oD];omega)] at ja
    rw [ka (by rw [h.len];omega),h.gH i l' ja,KF λx hx=>?_]
    rw [h.len]
    have iB:=ea hi
    have:=h.lf i l' _ ja iB
    split at this
    ·subst this;have:=G0.ops iB x hx;omega
    ·have:=this.2.2.1 x hx;omega
   ·have cZ:i=gs.length:=by
     have:=(a7.1 ja).1
     simp [h.oD] at this;omega
    subst cZ
    have e1:(s.leaves++[l])[2+I+gs.length]?=some l:=by rw [<-h.oD];simp
    have e2:(s.labels++[1+bR s.labels l])[2+I+gs.length]?=some (1+bR s.labels l):=by rw [<-h.len];simp
    simp only at ja ⊢
    rw [e1] at ja
    cases ja
    rw [e2,KF λx hx=>by rw [h.len];have:=hl x hx;omega]
  ·by_cases hi:i < gs.length
   ·rw [ka (by rw [h.oD];omega)] at ja
    rw [ka hi] at j2
    have eQ:∀o∈ca g',o < 2+(I:Int)+gs.length:=λo ho=>by have:=G0.ops j2 o ho;omega
    have:=h.lf i l' g' ja j2
    split at this
    ·rename_i h7;rw [if_pos h7];exact this
    ·rename_i h7
     rw [if_neg h7]
     obtain ⟨a1,a2,a3,a4,a5,a6⟩:=this
     refine ⟨a1,a2,a3,(kC.same G eQ).1 a4,λS hS hq=>a5 S hS ((kC.same G eQ).2 hq),λS hS hq=>?_⟩
     rw [KF λx hx=>by rw [h.len];have:=a3 x hx;omega]
     exact ua (a6 S hS ((kC.same G eQ).2 hq)) (We hy S)
   ·have cZ:i=gs.length:=by
     have:=(a7.1 j2).1
     simp at this;omega
    subst cZ
    rw [hg] at j2;cases j2
    have e1:(s.leaves++[l])[2+I+gs.length]?=some l:=by rw [<-h.oD];simp
    simp only at ja
    rw [e1] at ja
    cases ja
    split at cv
    ·rename_i h7;rw [if_pos h7];exact cv
    ·rename_i h7
     rw [if_neg h7]
     obtain ⟨a1,a2,a3,a4,a5,a6⟩:=cv
     refine ⟨a1,a2,a3,a4,a5,λS hS hq=>?_⟩
     rw [KF λx hx=>by rw [h.len];have:=a3 x hx;omega]
     exact ua (a6 S hS hq) (We hy S)
 have gP:((s.labels.length:Nat):Int)=2+(I:Int)+gs.length:=by rw [h.len];omega
 have F5:(((2+I+gs.length:Nat)):Int)=2+(I:Int)+gs.length:=by omega
 unfold wU at e
 split at e
 ·rename_i h7
  cases e
  refine key _ _ rfl ⟨⟨by simp,by simp,λc hc x hx=>?_,λc hc=>?_,λS _ hS=>⟨_,gD.2 rfl,?_⟩,by simp⟩,by simp⟩ (by simp) jw (by rw [if_pos h7])
  ·simp only [gD] at hc;subst hc;simp only [gD] at hx;omega
  ·simp only [gD] at hc;subst hc;rw [F5,<-gP];exact .mem (by simp)
  ·rw [lQ]
   intro x hx
   simp only [gD] at hx
   subst hx
   rw [gP]
   rw [F5] at hS
   by_cases hm:2+(I:Int)+gs.length∈S
   ·exact hm
   ·exact absurd h7 (hS.inv hg hm).1
 ·rename_i h7
  have hM:=PX G0 h (m:=2+I+gs.length) (fb _) (l:=ca g) λo ho=>by have:=jw o ho;omega
  have hMq:∀S,kC I gs (ca g) S↔kC I (gs++[g]) (ca g) S:=λS=>kC.same G aO
  have hM:=hM.up (iU _) hMq
  cases hm:pI s.eT (ca g) with
  | nil=>rw [hm] at e;cases e
  | cons x r =>
   rw [hm] at e hM
   simp only at e
   split at e
   ·cases e
   ·rename_i aze
    cases e
    have fi:=Hh (f:=bR s.labels) (r:=r) (m:=x)
    have xd:=hM.lim _ fi
    have j2:∀S,fl I (gs++[g]) S (2+I+gs.length:Nat)->¬S (2+(I:Int)+gs.length)->kC I (gs++[g]) (ca g) S:=λS hS hn=>by
     rw [F5] at hS
     exact (hS.inv hg hn).2
    refine key _ _ rfl ⟨?_,?_⟩ (by omega) (λy hy=>by have:=xd y hy;omega) (by
     rw [if_neg h7]
     refine ⟨hM.inc _ fi,hM.len _ fi,λy hy=>by have:=xd y hy;omega,hM.cut _ fi,λS hS hq Il=>?_,λS hS hq=>?_⟩
     ·obtain ⟨c,hc,gk⟩:=hM.all S hS hq
      have j3:=D7 gk Il
      by_cases nA:c=jU (bR s.labels) x r
      ·rw [<-nA];exact gk
      ·have:=akk hM.pf hc fi nA
       rw [j3] at this;cases this
     ·obtain ⟨c,hc,gk⟩:=hM.all S hS hq
      exact ua (Yw c hc) (WB gk))
    ·rw [Xp]
     split
     ·rename_i h0
      have hr:=ai4 hM.pf rfl h0
      subst hr
      have hx:x=[]:=iV h0
      subst hx
      refine ⟨by simp,by simp,by simp,λc hc=>?_,λS _ _=>⟨[],by simp,by simp [dF]⟩,by simp⟩
      simp at hc;subst hc
      rw [F5]
      exact .gate hg h7 (hM.cut [] (by simp))
     ·rename_i h0
      refine ⟨λc hc=>?_,λc hc=>?_,λc hc y hy=>?_,λc hc=>?_,λS hS hq=>?_,?_⟩
      ·rcases cJ.1 hc with rfl|hc
       ·simp
       ·exact hM.inc c hc
      ·rcases cJ.1 hc with rfl|hc
       ·simp
       ·exact hM.len c hc
      ·rcases cJ.1 hc with rfl|hc
       ·simp only [gD] at hy;omega
       ·have:=hM.lim c hc y hy;omega
      ·rcases cJ.1 hc with rfl|hc
       ·rw [F5,<-gP];exact .mem (by simp)
       ·rw [F5];exact .gate hg h7 (hM.cut c hc)
      ·by_cases hm:2+(I:Int)+gs.length∈S
       ·exact ⟨_,Pr,by rw [lQ];intro y hy;simp only [gD] at hy;subst hy;rw [gP];exact hm⟩
       ·obtain ⟨c,hc,gk⟩:=hM.all S hS (j2 _ hq hm)
        exact ⟨c,pE _ hc,gk⟩
      ·refine fx.2 ⟨λc hc=>?_,hM.pf⟩
       have j3:=hM.lim c hc
       refine ⟨?_,?_⟩
       ·cases hq:dF [(s.labels.length:Int)] c with
        | false=>rfl
        | true=>have:=j3 _ (lQ.1 hq (s.labels.length:Int) (by simp));omega
       ·cases hq:dF c [(s.labels.length:Int)] with
        | false=>rfl
        | true =>
         cases c with
         | nil =>
          have:=ahY hm ((wK _).mem_iff.1 (show []∈lW _ by show []∈pI s.eT (ca g);rw [hm];exact hc))
          simp at this;exact absurd (by rw [this];rfl) h0
         | cons y c =>
          have h1:=lQ.1 hq y (by simp)
          have h2:=j3 y (by simp)
          simp at h1;omega
    ·rw [Xp];split<;>simp
where
 akk {L:List (List Int)} (h:uH L) {a b:List Int} (ha:a∈L) (hb:b∈L) (bO:a≠b):dF a b=false:=by
  induction L with
  | nil=>cases ha
  | cons x r ih =>
   have h':=fx.1 h
   rcases cJ.1 ha with e|ha'
   ·rcases cJ.1 hb with e'|iK
    ·exact absurd (e.trans e'.symm) bO
    ·rw [e];exact (h'.1 b iK).1
   ·rcases cJ.1 hb with e'|iK
    ·rw [e'];exact (h'.1 a ha').2
    ·exact ih h'.2 ha' iK
theorem ah0 {I:Nat} {gs:List Gate} {g:Gate} (G:cb I (gs++[g])) {s:dW} (h:jV I gs s):pI s.eT (ca g)≠[]:=by
 have jw:=G.ops (i:=gs.length) (g:=g) (by simp)
 have hM:=PX G.left h (m:=2+I+gs.length) (fb _) (l:=ca g) λo ho=>by have:=jw o ho;omega
 obtain ⟨c,hc,_⟩:=hM.all (ca g) (by have:=(s7 g).2;omega) λo ho=>.mem ho
 exact List.ne_nil_of_mem hc
theorem EC {I:Nat}:∀(n:Nat) {gs:List Gate} {s:dW},gs.length=n->cb I gs->iO I gs=some s->jV I gs s
 | 0,gs,s,hn,_,h=>by
  have:=iV hn
  subst this
  simp [iO] at h;subst h;exact ahZ I
 | n+1,gs,s,hn,G,h=>by
  have bO:gs≠[]:=λe=>by rw [e] at hn;simp at hn
  have e:=List.dropLast_concat_getLast bO
  rw [<-e] at G h ⊢
  rw [Lf] at h
  cases h1:iO I gs.dropLast with
  | none=>rw [h1] at h;cases h
  | some s0=>rw [h1] at h;exact akj G (EC n (by simp [hn]) G.left h1) h
def yC (nd:List Bool) (l:List Int):List Bool:=l.foldl (λnd x=>nd.set x.toNat true) nd
def EX (nx:Nat->List Int):Nat->List Bool->List Bool
 | 0,nd=>nd
 | v+1,nd=>EX nx v (if nd.getD v false then yC nd (nx v) else nd)
inductive oK (nx:Nat->List Int) (S:Nat->Prop):Nat->Prop
 | base {v:Nat}:S v->oK nx S v
 | step {u:Nat} {x:Int}:oK nx S u->x∈nx u->oK nx S x.toNat
theorem oK.mono {nx:Nat->List Int} {S T:Nat->Prop} (h:∀v,S v->oK nx T v) {v:Nat} (k:oK nx S v):oK nx T v:=by
 induction k with
 | base h1=>exact h _ h1
 | step _ h2 ih=>exact .step ih h2
theorem K7:∀(l:List Int) (nd:List Bool),(yC nd l).length=nd.length
 | [],nd=>rfl
 | x :: r,nd=>by unfold yC;rw [nN];exact (K7 r _).trans (by simp)
theorem zJ:∀{l:List Int} {nd:List Bool} {v:Nat},(yC nd l)[v]?=some true↔nd[v]?=some true\/v < nd.length/\∃x∈l,x.toNat=v
 | [],nd,v=>by simp [yC]
 | x :: r,nd,v=>by
  unfold yC
  rw [nN]
  have h:=zJ (l:=r) (nd:=nd.set x.toNat true) (v:=v)
  unfold yC at h
  rw [h,gL,x4]
  by_cases e:x.toNat=v
  ·subst e
   by_cases hl:x.toNat < nd.length
   ·simp [hl]
   ·simp [hl]
  ·simp only [e,if_false,cJ]
   constructor
   ·rintro (h|⟨h,y,hy,he⟩)
    ·exact .inl h
    ·exact .inr ⟨h,y,.inr hy,he⟩
   ·rintro (h|⟨h,y,hy|hy,he⟩)
    ·exact .inl h
    ·subst hy;exact absurd he e
    ·exact .inr ⟨h,y,hy,he⟩
theorem En {nd:List Bool} {v:Nat}:nd.getD v false=true↔nd[v]?=some true:=by
 rw [List.getD_eq_getElem?_getD]
 cases nd[v]? with
 | none=>simp
 | some b=>simp
theorem PY {nx:Nat->List Int} (hx:∀(v:Nat) (x:Int),x∈nx v->0<=x/\x < v):∀(n:Nat) {nd:List Bool} {v:Nat},(∀u,n<=u->nd[u]?=some true->∀x∈nx u,nd[x.toNat]?=some true) ->
  ((EX nx n nd)[v]?=some true↔v < nd.length/\oK nx (λu=>nd[u]?=some true) v)
 | 0,nd,v,hc=>by
  show nd[v]?=some true↔_
  refine ⟨λh=>⟨(a7.1 h).1,.base h⟩,λhh=>?_⟩
  have h:=hh.2
  clear hx hh
  induction h with
  | base h=>exact h
  | step h1 h2 ih=>exact hc _ (cg _) (ih) _ h2
 | n+1,nd,v,hc=>by
  unfold EX
  rw [PY hx n (λu hu hm x NO=>?_)]
  ·split
   ·rename_i hn
    have hn:=En.1 hn
    rw [K7]
    refine and_congr_right λhv=>⟨λh=>h.mono λu hu=>?_,λh=>h.mono λu hu=>.base (zJ.2 (.inl hu))⟩
    rcases zJ.1 hu with hu|⟨_,x,hx,rfl⟩
    ·exact .base hu
    ·exact .step (.base hn) hx
   ·exact xZ
  ·by_cases kF:u=n
   ·subst kF
    split at hm
    ·rename_i hn
     rw [if_pos hn]
     have:=hx u x NO
     refine zJ.2 (.inr ⟨?_,x,NO,rfl⟩)
     have:=(a7.1 (En.1 hn)).1
     omega
    ·rename_i hn
     exact absurd (En.2 hm) hn
   ·split at hm
    ·rename_i hn
     rw [if_pos hn]
     have azf:n < u:=by omega
     rcases zJ.1 hm with hm|⟨_,y,hy,he⟩
     ·exact zJ.2 (.inl (hc u (by omega) hm x NO))
     ·have:=hx n y hy;omega
    ·rename_i hn
     rw [if_neg hn]
     exact hc u (by omega) hm x NO
def fy (I:Nat) (gs:List Gate) (v:Nat):Option Gate:=if v < 2+I then none else gs[v - 2 - I]?
def nZ (I:Nat) (gs:List Gate) (S:List Int) (v:Nat):List Int:=if S.contains (v:Int) then [] else match fy I gs v with
 | some g=>if g.op=7 then [] else ca g
 | none=>[]
def pR (I:Nat) (gs:List Gate) (S:List Int) (v:Nat):Bool:=S.contains (v:Int)||decide (v < 2)||match fy I gs v with
 | some g=>decide (g.op≠7)
 | none=>false
def Ch (I:Nat) (gs:List Gate) (root:Nat) (S:List Int):List Bool:=EX (nZ I gs S) (root+1) ((List.replicate (root+1) false).set root true)
def rU (N root:Int) (S:List Int):Bool:=decide (2<=root/\root < N)&&decide (S.length<=4)&&S.all (λl=>decide (2<=l/\l<=root))&&decide (dU S)
def eK (I:Nat) (gs:List Gate) (root:Int) (S:List Int):Option (List Int) :=
 if rU (2+I+gs.length) root S then
  let R:=Ch I gs root.toNat S
  if (List.range (root.toNat+1)).all (λv=>!R.getD v false||pR I gs S v)&&S.all (λx=>R.getD x.toNat false) then
   some (((List.range (root.toNat+1)).filter λv=>R.getD v false&&!S.contains (v:Int)&&decide (2<=v)).map λv:Nat=>(v:Int))
  else none
 else none
abbrev gG (I:Nat) (gs:List Gate) (S:List Int) (root v:Nat):Prop:=oK (nZ I gs S) (λu=>u=root) v
theorem lB {I:Nat} {gs:List Gate} {v:Nat} {g:Gate}:fy I gs v=some g↔∃i,v=2+I+i/\gs[i]?=some g:=by
 unfold fy
 split
 ·simp;intro i hi;omega
 ·constructor
  ·intro h;exact ⟨v - 2 - I,by omega,h⟩
  ·rintro ⟨i,rfl,h⟩
   rw [show 2+I+i - 2 - I=i by omega];exact h
theorem qp {I:Nat} {gs:List Gate} {S:List Int} {v:Nat} {x:Int}:x∈nZ I gs S v↔(v:Int)∉S/\∃g,fy I gs v=some g/\g.op≠7/\x∈ca g:=by
 unfold nZ
 split
 ·rename_i h;simp at h;simp [h]
 ·rename_i h
  simp at h
  cases hg:fy I gs v with
  | none=>simp
  | some g =>
   simp only
   split
   ·rename_i h7;simp [h7]
   ·rename_i h7;simp [h7,h]
theorem Ci {I:Nat} {gs:List Gate} (G:cb I gs) {S:List Int} {v:Nat} {x:Int} (h:x∈nZ I gs S v):0<=x/\x < v:=by
 obtain ⟨_,g,hg,_,hx⟩:=qp.1 h
 obtain ⟨i,rfl,iB⟩:=lB.1 hg
 have:=G.ops iB x hx
 omega
theorem gG.le {I:Nat} {gs:List Gate} (G:cb I gs) {S:List Int} {root v:Nat} (h:gG I gs S root v):v<=root:=by
 induction h with
 | base h=>omega
 | step _ h2 ih=>have:=Ci G h2;omega
theorem vo {I:Nat} {gs:List Gate} (G:cb I gs) {S:List Int} {root v:Nat}:(Ch I gs root S).getD v false=true↔gG I gs S root v:=by
 rw [En]
 unfold Ch
 have hs:∀u,((List.replicate (root+1) false).set root true)[u]?=some true↔u=root:=λu=>by
  rw [gL]
  by_cases e:root=u
  ·subst e;simp
  ·simp [e,sY];omega
 rw [PY (λv x=>Ci G) _ λu hu hm=>by have:=(hs u).1 hm;omega]
 constructor
 ·rintro ⟨_,h⟩;exact h.mono λu hu=>.base ((hs u).1 hu)
 ·intro h
  exact ⟨by have:=gG.le G h;simp;omega,h.mono λu hu=>.base ((hs u).2 hu)⟩
theorem vp {I:Nat} {gs:List Gate} {S:List Int} {v:Nat}:pR I gs S v=true↔(v:Int)∈S\/v < 2\/∃g,fy I gs v=some g/\g.op≠7:=by
 unfold pR
 cases fy I gs v<;>simp [or_assoc]
theorem K8 {I:Nat} {gs:List Gate} (G:cb I gs) {S:List Int}:∀(n root:Nat),root < n->(fl I gs (·∈S) root↔∀v,gG I gs S root v->pR I gs S v=true)
 | 0,_,h=>by omega
 | n+1,root,hn=>by
  constructor
  ·intro h v hv
   generalize hr:(root:Int)=r at h
   have main:∀(r:Int),fl I gs (·∈S) r->∀root:Nat,(root:Int)=r->∀v,gG I gs S root v->pR I gs S v=true:=by
    intro r h
    induction h with
    | mem h1 =>
     rintro root rfl v hv
     have:v=root:=by
      induction hv with
      | base h=>exact h
      | step _ h2 ih=>rw [ih] at h2;exact absurd h1 (qp.1 h2).1
     subst this
     exact vp.2 (.inl h1)
    | const h1 h2 =>
     rintro root rfl v hv
     have:=gG.le G hv
     exact vp.2 (.inr (.inl (by omega)))
    | @gate i g h1 h2 h3 ih =>
     intro root hr v hv
     have anm:root=2+I+i:=by omega
     subst anm
     have uU:fy I gs (2+I+i)=some g:=lB.2 ⟨i,rfl,h1⟩
     have:v=2+I+i\/∃o∈ca g,gG I gs S o.toNat v:=by
      induction hv with
      | base h=>exact .inl h
      | step _ hx ihx =>
       rcases ihx with rfl|⟨o,ho,hr⟩
       ·obtain ⟨_,g',j2,_,nt⟩:=qp.1 hx
        rw [uU] at j2;cases j2
        exact .inr ⟨_,nt,.base rfl⟩
       ·exact .inr ⟨o,ho,.step hr hx⟩
     rcases this with rfl|⟨o,ho,hr⟩
     ·exact vp.2 (.inr (.inr ⟨g,uU,h2⟩))
     ·exact ih o ho o.toNat (by have:=G.ops h1 o ho;omega) v hr
   exact main r h root hr v hv
  ·intro h
   rcases vp.1 (h root (.base rfl)) with h1|h1|⟨g,hg,h7⟩
   ·exact .mem h1
   ·exact .const (by omega) (by omega)
   ·by_cases hm:(root:Int)∈S
    ·exact .mem hm
    ·obtain ⟨i,rfl,iB⟩:=lB.1 hg
     have:((2+I+i:Nat):Int)=2+(I:Int)+i:=by omega
     rw [this]
     refine .gate iB h7 λo ho=>?_
     have hb:=G.ops iB o ho
     have gU:o∈nZ I gs S (2+I+i):=qp.2 ⟨hm,g,hg,h7,ho⟩
     rw [<-Int.toNat_of_nonneg hb.1]
     exact (K8 G n o.toNat (by omega)).2 λv hv=>h v (hv.mono λu hu=>by subst hu;exact .step (.base rfl) gU)
structure Ah (N root:Int) (S:List Int):Prop where
 lo:2<=root
 hi:root < N
 len:S.length<=4
 mem:∀l∈S,2<=l/\l<=root
 inc:dU S
theorem zy {N root:Int} {S:List Int}:rU N root S=true↔Ah N root S:=by
 unfold rU
 simp only [cG,decide_eq_true_eq,gM]
 exact ⟨λ⟨⟨⟨h1,h2⟩,h3⟩,h4⟩=>⟨h1.1,h1.2,h2,h3,h4⟩,λh=>⟨⟨⟨⟨h.lo,h.hi⟩,h.len⟩,h.mem⟩,h.inc⟩⟩
theorem BF {I:Nat} {gs:List Gate} (G:cb I gs) {root:Int} {S:List Int}:(eK I gs root S).isSome=true↔Ah (2+I+gs.length) root S/\fl I gs (·∈S) root/\∀x∈S,gG I gs S root.toNat x.toNat:=by
 unfold eK
 split
 ·rename_i hl
  have hL:=zy.1 hl
  have hr:((root.toNat:Nat):Int)=root:=Int.toNat_of_nonneg (by have:=hL.lo;omega)
  have h1:(List.range (root.toNat+1)).all (λv=>!(Ch I gs root.toNat S).getD v false||pR I gs S v)=true↔fl I gs (·∈S) root:=by
   rw [<-hr,K8 G (root.toNat+1) root.toNat (vx _),hr,gM]
   constructor
   ·intro h v hv
    have:=h v (mQ.2 (by have:=gG.le G hv;omega))
    rw [vo G |>.2 hv] at this
    simpa using this
   ·intro h v _
    cases hq:(Ch I gs root.toNat S).getD v false with
    | false=>simp
    | true=>simp [h v ((vo G).1 hq)]
  have h2:S.all (λx=>(Ch I gs root.toNat S).getD x.toNat false)=true↔∀x∈S,gG I gs S root.toNat x.toNat:=by
   rw [gM]
   exact ⟨λh x hx=>(vo G).1 (h x hx),λh x hx=>(vo G).2 (h x hx)⟩
  simp only
  rw [<-h1,<-h2]
  split
  ·rename_i h;simp only [cG] at h;exact ⟨λ_=>⟨hL,h⟩,λ_=>rfl⟩
  ·rename_i h;simp only [cG] at h;exact ⟨λh'=>(by cases h'),λh'=>absurd h'.2 h⟩
 ·rename_i hl
  have:¬Ah (2+I+gs.length) root S:=λh=>hl (zy.2 h)
  simp [this]
theorem zK {I:Nat} {gs:List Gate} (G:cb I gs) {root:Int} {S l:List Int} (h:eK I gs root S=some l):dU l/\∀v:Int,v∈l↔2<=v/\gG I gs S root.toNat v.toNat/\v∉S:=by
 unfold eK at h
 split at h
 ·simp only at h
  split at h
  ·cases h
   refine ⟨?_,λv=>?_⟩
   ·unfold dU
    rw [qT]
    exact (BR.filter _).imp λh=>by omega
   ·rw [iM]
    constructor
    ·rintro ⟨u,hu,rfl⟩
     obtain ⟨h1,h2⟩:=lP.1 hu
     simp only [cG,oY,decide_eq_true_eq] at h2
     refine ⟨by omega,(vo G).1 h2.1.1,?_⟩
     simpa using h2.1.2
    ·rintro ⟨h1,h2,h3⟩
     have e:((v.toNat:Nat):Int)=v:=Int.toNat_of_nonneg (by omega)
     refine ⟨v.toNat,lP.2 ⟨mQ.2 (by have:=gG.le (root:=root.toNat) (v:=v.toNat) G h2;omega),?_⟩,e⟩
     simp only [cG,oY,decide_eq_true_eq]
     exact ⟨⟨(vo G).2 h2,by rw [e];simpa using h3⟩,by omega⟩
  ·cases h
 ·cases h
noncomputable def PP:Unit->Program:=λ_=>Tryz.prog
abbrev I0:Value:=.int .i64 0
abbrev U0:Value:=.int .u64 0
abbrev Y0:Value:=.int .u8 0
abbrev N0:Value:=.slice none 0 0
abbrev S0:Value:=.string ByteArray.empty
abbrev B0:Value:=.bool false
abbrev M0:Value:=.map none
@[reducible] def ti (d:TD) (s b:Nat) (z:Value):TI:={ d:=d,size:=s,bytes:=b,zero:=z }
@[reducible] def tF (d:TD) (s b:Nat) (z:Value) (k:Option (List IntKind)):TI:={ d:=d,size:=s,bytes:=b,zero:=z,flat:=true,kd:=k }
@[reducible] def tS (e:TypeId):TI:={ d:=.sl e,size:=1,bytes:=24,zero:=.slice none 0 0 }
def tt:TypeId->Option TI
 | 3=>some (ti (.int .i64) 1 8 I0)
 | 4=>some (ti (.bool) 1 1 B0)
 | 5=>some (ti (.int .u8) 1 1 Y0)
 | 9=>some (ti (.str) 1 16 S0)
 | 22=>some (tS 5)
 | 23=>some (ti (.st [(22,0,1)]) 1 24 (.agg #[N0]))
 | 24=>some (ti (.st [(22,0,1)]) 1 24 (.agg #[N0]))
 | 25=>some (ti (.st [(24,0,1),(22,1,1),(22,2,1),(22,3,1)]) 4 96 (.agg #[N0,N0,N0,N0]))
 | 26=>some (ti (.st [(24,0,1),(22,1,1),(22,2,1),(22,3,1)]) 4 96 (.agg #[N0,N0,N0,N0]))
 | 28=>some (tS 159)
 | 29=>some (tS 163)
 | 30=>some (tS 154)
 | 31=>some (tS 161)
 | 32=>some (ti (.st [(9,0,1),(9,1,1),(28,2,1),(29,3,1),(30,4,1),(31,5,1)]) 6 128 (.agg #[S0,S0,N0,N0,N0,N0]))
 | 33=>some (ti (.st [(9,0,1),(9,1,1),(28,2,1),(29,3,1),(30,4,1),(31,5,1)]) 6 128 (.agg #[S0,S0,N0,N0,N0,N0]))
 | 35=>some (tS 3)
 | 36=>some (tS 35)
 | 37=>some (ti (.st [(35,0,1),(36,1,1)]) 2 48 (.agg #[N0,N0]))
 | 38=>some (ti (.st [(35,0,1),(36,1,1)]) 2 48 (.agg #[N0,N0]))
 | 40=>some (tS 168)
 | 41=>some (tS 4)
 | 42=>some (ti (.st [(40,0,1),(41,1,1)]) 2 48 (.agg #[N0,N0]))
 | 43=>some (ti (.st [(40,0,1),(41,1,1)]) 2 48 (.agg #[N0,N0]))
 | 45=>some (tS 133)
 | 46=>some (tS 118)
 | 47=>some (ti (.st [(45,0,1),(46,1,1),(45,2,1),(35,3,1)]) 4 96 (.agg #[N0,N0,N0,N0]))
 | 48=>some (ti (.st [(45,0,1),(46,1,1),(45,2,1),(35,3,1)]) 4 96 (.agg #[N0,N0,N0,N0]))
 | 49=>some (tS 135)
 | 50=>some (ti (.st [(3,0,1),(49,1,1),(35,2,1)]) 3 56 (.agg #[I0,N0,N0]))
 | 51=>some (ti (.st [(3,0,1),(49,1,1),(35,2,1)]) 3 56 (.agg #[I0,N0,N0]))
 | 52=>some (ti (.st [(48,0,4),(51,4,3),(4,7,1)]) 8 160 (.agg #[N0,N0,N0,N0,I0,N0,N0,B0]))
 | 53=>some (ti (.st [(48,0,4),(51,4,3),(4,7,1)]) 8 160 (.agg #[N0,N0,N0,N0,I0,N0,N0,B0]))
 | 55=>some (tS 76)
 | 56=>some (ti (.st [(45,0,1),(55,1,1),(45,2,1),(35,3,1)]) 4 96 (.agg #[N0,N0,N0,N0]))
 | 57=>some (ti (.st [(45,0,1),(55,1,1),(45,2,1),(35,3,1)]) 4 96 (.agg #[N0,N0,N0,N0]))
 | 58=>some (ti (.int .i64) 1 8 I0)
 | 59=>some (ti (.st [(57,0,4),(58,4,1)]) 5 104 (.agg #[N0,N0,N0,N0,I0]))
 | 60=>some (ti (.st [(57,0,4),(58,4,1)]) 5 104 (.agg #[N0,N0,N0,N0,I0]))
 | 66=>some (ti (.st [(4,0,1),(38,1,2),(41,3,1),(40,4,1)]) 5 104 (.agg #[B0,N0,N0,N0,N0]))
 | 67=>some (ti (.st [(4,0,1),(38,1,2),(41,3,1),(40,4,1)]) 5 104 (.agg #[B0,N0,N0,N0,N0]))
 | 72=>some (tS 74)
 | 74=>some (ti (.int .u64) 1 8 U0)
 | 75=>some (ti (.st [(35,0,1),(3,1,1),(3,2,1),(3,3,1),(74,4,1)]) 5 56 (.agg #[N0,I0,I0,I0,U0]))
 | 76=>some (ti (.st [(35,0,1),(3,1,1),(3,2,1),(3,3,1),(74,4,1)]) 5 56 (.agg #[N0,I0,I0,I0,U0]))
 | 78=>some (ti (.arr 3 5) 3 3 (.agg #[Y0,Y0,Y0]))
 | 91=>some (ti (.st [(35,0,1),(36,1,1)]) 2 48 (.agg #[N0,N0]))
 | 92=>some (ti (.st [(35,0,1),(36,1,1)]) 2 48 (.agg #[N0,N0]))
 | 93=>some (ti (.st [(51,0,3),(92,3,2),(58,5,1)]) 6 112 (.agg #[I0,N0,N0,N0,N0,I0]))
 | 94=>some (ti (.st [(51,0,3),(92,3,2),(58,5,1)]) 6 112 (.agg #[I0,N0,N0,N0,N0,I0]))
 | 96=>some (ti (.st [(35,0,1),(36,1,1),(58,2,1)]) 3 56 (.agg #[N0,N0,I0]))
 | 97=>some (ti (.st [(35,0,1),(36,1,1),(58,2,1)]) 3 56 (.agg #[N0,N0,I0]))
 | 113=>some (tS 36)
 | 117=>some (tF (.st [(3,0,1),(3,1,1),(3,2,1),(3,3,1),(3,4,1)]) 5 40 (.agg #[I0,I0,I0,I0,I0]) none)
 | 118=>some (tF (.st [(3,0,1),(3,1,1),(3,2,1),(3,3,1),(3,4,1)]) 5 40 (.agg #[I0,I0,I0,I0,I0]) none)
 | 129=>some (ti (.arr 2 3) 2 16 (.agg #[I0,I0]))
 | 132=>some (tF (.st [(3,0,1),(3,1,1),(3,2,1)]) 3 24 (.agg #[I0,I0,I0]) (some [.i64,.i64,.i64]))
 | 133=>some (tF (.st [(3,0,1),(3,1,1),(3,2,1)]) 3 24 (.agg #[I0,I0,I0]) (some [.i64,.i64,.i64]))
 | 134=>some (ti (.st [(35,0,1),(3,1,1),(3,2,1)]) 3 40 (.agg #[N0,I0,I0]))
 | 135=>some (ti (.st [(35,0,1),(3,1,1),(3,2,1)]) 3 40 (.agg #[N0,I0,I0]))
 | 139=>some (ti (.st [(35,0,1),(35,1,1),(29,2,1),(4,3,1)]) 4 80 (.agg #[N0,N0,N0,B0]))
 | 140=>some (ti (.st [(35,0,1),(35,1,1),(29,2,1),(4,3,1)]) 4 80 (.agg #[N0,N0,N0,B0]))
 | 141=>some (ti (.st [(22,0,1),(3,1,1)]) 2 32 (.agg #[N0,I0]))
 | 142=>some (ti (.st [(22,0,1),(3,1,1)]) 2 32 (.agg #[N0,I0]))
 | 145=>some (ti (.st [(3,0,1),(9,1,1)]) 2 24 (.agg #[I0,S0]))
 | 146=>some (ti (.st [(3,0,1),(9,1,1)]) 2 24 (.agg #[I0,S0]))
 | 147=>some (tS 149)
 | 148=>some (ti (.st [(3,0,1),(9,1,1),(146,2,2),(146,4,2),(147,6,1)]) 7 96 (.agg #[I0,S0,I0,S0,I0,S0,N0]))
 | 149=>some (ti (.st [(3,0,1),(9,1,1),(146,2,2),(146,4,2),(147,6,1)]) 7 96 (.agg #[I0,S0,I0,S0,I0,S0,N0]))
 | 150=>some (ti (.st [(149,0,7),(142,7,2)]) 9 128 (.agg #[I0,S0,I0,S0,I0,S0,N0,N0,I0]))
 | 151=>some (ti (.st [(149,0,7),(142,7,2)]) 9 128 (.agg #[I0,S0,I0,S0,I0,S0,N0,N0,I0]))
 | 153=>some (ti (.st [(3,0,1),(3,1,1),(149,2,7)]) 9 112 (.agg #[I0,I0,I0,S0,I0,S0,I0,S0,N0]))
 | 154=>some (ti (.st [(3,0,1),(3,1,1),(149,2,7)]) 9 112 (.agg #[I0,I0,I0,S0,I0,S0,I0,S0,N0]))
 | 156=>some (ti (.st [(3,0,1),(9,1,1),(3,2,1)]) 3 32 (.agg #[I0,S0,I0]))
 | 157=>some (ti (.st [(3,0,1),(9,1,1),(3,2,1)]) 3 32 (.agg #[I0,S0,I0]))
 | 158=>some (ti (.st [(9,0,1),(3,1,1),(3,2,1),(149,3,7),(157,10,3)]) 13 160 (.agg #[S0,I0,I0,I0,S0,I0,S0,I0,S0,N0,I0,S0,I0]))
 | 159=>some (ti (.st [(9,0,1),(3,1,1),(3,2,1),(149,3,7),(157,10,3)]) 13 160 (.agg #[S0,I0,I0,I0,S0,I0,S0,I0,S0,N0,I0,S0,I0]))
 | 160=>some (ti (.st [(3,0,1),(3,1,1),(149,2,7),(149,9,7)]) 16 208 (.agg #[I0,I0,I0,S0,I0,S0,I0,S0,N0,I0,S0,I0,S0,I0,S0,N0]))
 | 161=>some (ti (.st [(3,0,1),(3,1,1),(149,2,7),(149,9,7)]) 16 208 (.agg #[I0,I0,I0,S0,I0,S0,I0,S0,N0,I0,S0,I0,S0,I0,S0,N0]))
 | 162=>some (ti (.st [(9,0,1),(3,1,1),(3,2,1),(149,3,7),(149,10,7),(149,17,7),(157,24,3)]) 27 352 (.agg #[S0,I0,I0,I0,S0,I0,S0,I0,S0,N0,I0,S0,I0,S0,I0,S0,N0,I0,S0,I0,S0,I0,S0,N0,I0,S0,I0]))
 | 163=>some (ti (.st [(9,0,1),(3,1,1),(3,2,1),(149,3,7),(149,10,7),(149,17,7),(157,24,3)]) 27 352 (.agg #[S0,I0,I0,I0,S0,I0,S0,I0,S0,N0,I0,S0,I0,S0,I0,S0,N0,I0,S0,I0,S0,I0,S0,N0,I0,S0,I0]))
 | 165=>some (ti (.int .u64) 1 8 U0)
 | 167=>some (ti (.st [(4,0,1),(3,1,1)]) 2 16 (.agg #[B0,I0]))
 | 168=>some (ti (.st [(4,0,1),(3,1,1)]) 2 16 (.agg #[B0,I0]))
 | 169=>some (ti (.st [(48,0,4),(58,4,1)]) 5 104 (.agg #[N0,N0,N0,N0,I0]))
 | 170=>some (ti (.st [(48,0,4),(58,4,1)]) 5 104 (.agg #[N0,N0,N0,N0,I0]))
 | 178=>some (ti (.st [(57,0,4)]) 4 96 (.agg #[N0,N0,N0,N0]))
 | 179=>some (ti (.st [(57,0,4)]) 4 96 (.agg #[N0,N0,N0,N0]))
 | 184=>some (ti (.map 3 4) 1 8 M0)
 | 191=>some (ti (.map 74 3) 1 8 M0)
 | 192=>some (ti (.map 74 4) 1 8 M0)
 | 199=>some (ti (.int .u64) 1 8 U0)
 | 213=>some (ti (.st [(3,0,1),(35,1,1)]) 2 32 (.agg #[I0,N0]))
 | 214=>some (ti (.st [(3,0,1),(35,1,1)]) 2 32 (.agg #[I0,N0]))
 | 216=>some (ti (.map 3 3) 1 8 M0)
 | 244=>some (ti (.map 133 3) 1 8 M0)
 | 252=>some (ti (.arr 3 3) 3 24 (.agg #[I0,I0,I0]))
 | 256=>some (ti (.map 259 4) 1 8 M0)
 | 257=>some (ti (.map 259 3) 1 8 M0)
 | 258=>some (tF (.st [(3,0,1),(3,1,1)]) 2 16 (.agg #[I0,I0]) (some [.i64,.i64]))
 | 259=>some (tF (.st [(3,0,1),(3,1,1)]) 2 16 (.agg #[I0,I0]) (some [.i64,.i64]))
 | 274=>some (ti (.st [(3,0,1),(46,1,1)]) 2 32 (.agg #[I0,N0]))
 | 275=>some (ti (.st [(3,0,1),(46,1,1)]) 2 32 (.agg #[I0,N0]))
 | 276=>some (ti (.st [(275,0,2),(35,2,1),(35,3,1),(36,4,1),(3,5,1)]) 6 112 (.agg #[I0,N0,N0,N0,N0,I0]))
 | 277=>some (ti (.st [(275,0,2),(35,2,1),(35,3,1),(36,4,1),(3,5,1)]) 6 112 (.agg #[I0,N0,N0,N0,N0,I0]))
 | 279=>some (ti (.st [(33,0,6),(45,6,1),(36,7,1)]) 8 176 (.agg #[S0,S0,N0,N0,N0,N0,N0,N0]))
 | 280=>some (ti (.st [(33,0,6),(45,6,1),(36,7,1)]) 8 176 (.agg #[S0,S0,N0,N0,N0,N0,N0,N0]))
 | 281=>some (ti (.st [(275,0,2),(45,2,1),(35,3,1)]) 4 80 (.agg #[I0,N0,N0,N0]))
 | 282=>some (ti (.st [(275,0,2),(45,2,1),(35,3,1)]) 4 80 (.agg #[I0,N0,N0,N0]))
 | 284=>some (ti (.st [(275,0,2),(3,2,1)]) 3 40 (.agg #[I0,N0,I0]))
 | 285=>some (ti (.st [(275,0,2),(3,2,1)]) 3 40 (.agg #[I0,N0,I0]))
 | 288=>some (ti (.st [(275,0,2),(35,2,1)]) 3 56 (.agg #[I0,N0,N0]))
 | 289=>some (ti (.st [(275,0,2),(35,2,1)]) 3 56 (.agg #[I0,N0,N0]))
 | 294=>some (tS 307)
 | 295=>some (tS 302)
 | 296=>some (ti (.arr 2 4) 2 2 (.agg #[B0,B0]))
 | 297=>some (ti (.st [(48,0,4),(244,4,1),(294,5,1),(295,6,1),(296,7,2),(216,9,1)]) 10 168 (.agg #[N0,N0,N0,N0,M0,N0,N0,B0,B0,M0]))
 | 298=>some (ti (.st [(48,0,4),(244,4,1),(294,5,1),(295,6,1),(296,7,2),(216,9,1)]) 10 168 (.agg #[N0,N0,N0,N0,M0,N0,N0,B0,B0,M0]))
 | 301=>some (tF (.st [(3,0,1),(3,1,1)]) 2 16 (.agg #[I0,I0]) (some [.i64,.i64]))
 | 302=>some (tF (.st [(3,0,1),(3,1,1)]) 2 16 (.agg #[I0,I0]) (some [.i64,.i64]))
 | 304=>some (ti (.arr 2 302) 4 32 (.agg #[I0,I0,I0,I0]))
 | 306=>some (ti (.st [(295,0,1),(3,1,1),(3,2,1),(3,3,1)]) 4 48 (.agg #[N0,I0,I0,I0]))
 | 307=>some (ti (.st [(295,0,1),(3,1,1),(3,2,1),(3,3,1)]) 4 48 (.agg #[N0,I0,I0,I0]))
 | 308=>some (ti (.map 302 302) 1 8 M0)
 | 325=>some (ti (.st [(3,0,1),(58,1,1)]) 2 16 (.agg #[I0,I0]))
 | 326=>some (ti (.st [(3,0,1),(58,1,1)]) 2 16 (.agg #[I0,I0]))
 | 345=>some (tS 9)
 | 356=>some (ti (.map 133 4) 1 8 M0)
 | 361=>some (ti (.st [(35,0,1),(58,1,1)]) 2 32 (.agg #[N0,I0]))
 | 362=>some (ti (.st [(35,0,1),(58,1,1)]) 2 32 (.agg #[N0,I0]))
 | 365=>some (ti (.arr 3 4) 3 3 (.agg #[B0,B0,B0]))
 | _=>none
theorem T5 {t:TypeId} {i:TI} (h1:i.flat=false) (h2:i.kd=none) (hz:(Tryz.prog.info? t).map (·.zero)=some (some i.zero)) (hb:TY Tryz.prog t i=true):my Tryz.prog t i :=
 Zl hz hb (λh=>by rw [h1] at h;cases h) (λ_ h=>by rw [h2] at h;cases h)
theorem abk:∀t i,tt t=some i->my Tryz.prog t i:=by
 intro t i h
 unfold tt at h
 split at h
 all_goals cases h
 all_goals first|exact T5 rfl rfl (by kernel_rfl) (by kernel_rfl)|skip
 all_goals refine Zl (by kernel_rfl) (by kernel_rfl) (λ_=>⟨rfl,λvs us w _ _ h1 h2 op x y eQ=>ag3 (by kernel_rfl) (by kernel_rfl) (by kernel_rfl) (by kernel_rfl) vs us w h1 h2 op x y eQ⟩) (λks h=>?_)
 all_goals cases h
 all_goals exact ahp (by kernel_rfl) (by kernel_rfl) (by kernel_rfl)
def bC (x:Int):List SV:=[.i .i64 λ_=>x]
theorem cP (x:Int):cN (bC x)/\(bC x).all SV.one=true:=⟨⟨trivial,trivial⟩,rfl⟩
def wV:iA:=⟨Int,bC,0⟩
def pq (x:Int):List SV:=[.i .u8 λ_=>x]
theorem Cj (x:Int):cN (pq x)/\(pq x).all SV.one=true:=⟨⟨trivial,trivial⟩,rfl⟩
def abl:iA:=⟨Int,pq,0⟩
def lX (x:Bool):List SV:=[.b λ_=>x]
theorem Lg (x:Bool):cN (lX x)/\(lX x).all SV.one=true:=⟨⟨trivial,trivial⟩,rfl⟩
def Zp:iA:=⟨Bool,lX,false⟩
def MV (x:Int):List SV:=[.i .u64 λ_=>x]
theorem akl (x:Int):cN (MV x)/\(MV x).all SV.one=true:=⟨⟨trivial,trivial⟩,rfl⟩
def Z4:iA:=⟨Int,MV,0⟩
def eB (x:List Int):List SV:=[.sl 1 bC (λ_=>x)]
theorem mT (x:List Int):cN (eB x)/\(eB x).all SV.one=true:=⟨⟨λy=>(cP y).1,trivial⟩,rfl⟩
def Lq:iA:=⟨List Int,eB,[]⟩
def yo (x:List (List Int)):List SV:=[.sl 1 eB (λ_=>x)]
theorem PZ (x:List (List Int)):cN (yo x)/\(yo x).all SV.one=true:=⟨⟨λy=>(mT y).1,trivial⟩,rfl⟩
def ai5:iA:=⟨List (List Int),yo,[]⟩
def je (x:eH):List SV:=[.i .i64 (λ_=>x.kind),.i .i64 (λ_=>x.i),.i .i64 (λ_=>x.bit)]
theorem uh (x:eH):cN (je x)/\(je x).all SV.one=true:=⟨⟨trivial,trivial,trivial,trivial⟩,rfl⟩
def QG:iA:=⟨eH,je,⟨0,0,0⟩⟩
def kY (x:Gate):List SV:=[.i .i64 (λ_=>x.op),.i .i64 (λ_=>x.a),.i .i64 (λ_=>x.b),.i .i64 (λ_=>x.c),.i .i64 (λ_=>x.n)]
theorem ui (x:Gate):cN (kY x)/\(kY x).all SV.one=true:=⟨⟨trivial,trivial,trivial,trivial,trivial,trivial⟩,rfl⟩
def QH:iA:=⟨Gate,kY,⟨0,0,0,0,0⟩⟩
def mw (x:Cell):List SV:=[.sl 1 bC (λ_=>x.ins),.i .i64 (λ_=>x.table),.i .i64 (λ_=>x.eI)]
theorem zT (x:Cell):cN (mw x)/\(mw x).all SV.one=true:=⟨⟨λy=>(cP y).1,trivial,trivial,trivial⟩,rfl⟩
def QI:iA:=⟨Cell,mw,⟨[],0,0⟩⟩
def LQ (x:Block):List SV:=[.sl 1 bC (λ_=>x.ins),.i .i64 (λ_=>x.table),.i .i64 (λ_=>x.eI),.i .i64 (λ_=>x.dg),.i .u64 (λ_=>x.key)]
theorem ah1 (x:Block):cN (LQ x)/\(LQ x).all SV.one=true:=⟨⟨λy=>(cP y).1,trivial,trivial,trivial,trivial,trivial⟩,rfl⟩
def ai6:iA:=⟨Block,LQ,⟨[],0,0,0,0⟩⟩
def Mq (x:Head):List SV:=[.b (λ_=>x.has),.i .i64 (λ_=>x.v)]
theorem ai7 (x:Head):cN (Mq x)/\(Mq x).all SV.one=true:=⟨⟨trivial,trivial,trivial⟩,rfl⟩
def Zq:iA:=⟨Head,Mq,⟨false,0⟩⟩
def MW (x:ByteArray):List SV:=[.str (λ_=>x)]
theorem akm (x:ByteArray):cN (MW x)/\(MW x).all SV.one=true:=⟨⟨trivial,trivial⟩,rfl⟩
def Z5:iA:=⟨ByteArray,MW,ByteArray.empty⟩
def HC (x:Source):List SV:=[.i .i64 (λ_=>x.kind),.i .i64 (λ_=>x.n)]
theorem O7 (x:Source):cN (HC x)/\(HC x).all SV.one=true:=⟨⟨trivial,trivial,trivial⟩,rfl⟩
def Xq:iA:=⟨Source,HC,⟨0,0⟩⟩
def Mr (x:Part):List SV:=[.sl 2 HC (λ_=>x.ins),.i .i64 (λ_=>x.table),.i .i64 (λ_=>x.eI),.i .i64 (λ_=>x.dg)]
theorem ai8 (x:Part):cN (Mr x)/\(Mr x).all SV.one=true:=⟨⟨λy=>(O7 y).1,trivial,trivial,trivial,trivial⟩,rfl⟩
def akn:iA:=⟨Part,Mr,⟨[],0,0,0⟩⟩
def es:ByteArray:=ByteArray.empty
def cA:Nat->Expr->SV
 | 0,_=>.cQ
 | n+1,x=>.sl 7 (λy=>[.i .i64 (λ_=>y.op),.str (λ_=>es),.i .i64 (λ_=>y.k),.str (λ_=>es),.i .i64 (λ_=>y.w),.str (λ_=>es),cA n y]) (λ_=>x.args)
def cE (n:Nat) (x:Expr):List SV:=[.i .i64 (λ_=>x.op),.str (λ_=>es),.i .i64 (λ_=>x.k),.str (λ_=>es),.i .i64 (λ_=>x.w),.str (λ_=>es),cA n x]
theorem EY:∀(n:Nat) (x:Expr),LF (cA n x)
 | 0,x=>trivial
 | n+1,x=>λy=>⟨trivial,trivial,trivial,trivial,trivial,trivial,EY n y,trivial⟩
theorem HL (n:Nat) (x:Expr):(cA n x).one=true:=by cases n<;>rfl
theorem abm (n:Nat) (x:Expr):cN (cE n x)/\(cE n x).all SV.one=true :=
 ⟨⟨trivial,trivial,trivial,trivial,trivial,trivial,EY n x,trivial⟩,by simp only [cE,BM,Hd,HL];rfl⟩
def Sx (n:Nat):iA:=⟨Expr,cE n,.mk 0 0 0 []⟩
def ux (x:Sv):List SV:=[.i .i64 (λ_=>x.kind),.str (λ_=>x.src),.i .i64 (λ_=>x.n)]
def IA (n:Nat) (x:T3):List SV:=[.str (λ_=>x.name),.i .i64 (λ_=>x.w),.i .i64 (λ_=>x.init)]++cE n x.next++ux x.Sw
def IB (n:Nat) (x:Mem):List SV:=[.str (λ_=>x.name),.i .i64 (λ_=>x.w),.i .i64 (λ_=>x.words)]++cE n x.en++cE n x.ad++cE n x.da++ux x.Sw
def HT (n:Nat) (x:Take):List SV:=[.i .i64 (λ_=>x.chan),.i .i64 (λ_=>x.w)]++cE n x.cond
def IC (n:Nat) (x:T4):List SV:=[.i .i64 (λ_=>x.chan),.i .i64 (λ_=>x.w)]++cE n x.cond++cE n x.data
theorem ako (n:Nat) (x:T3):cN (IA n x)/\(IA n x).all SV.one=true:=by
 refine ⟨by simp [IA,ux,cE,cN,LF,EY],?_⟩
 simp only [IA,ux,cE,BI,qU,BM,Hd,HL];rfl
theorem akp (n:Nat) (x:Mem):cN (IB n x)/\(IB n x).all SV.one=true:=by
 refine ⟨by simp [IB,ux,cE,cN,LF,EY],?_⟩
 simp only [IB,ux,cE,BI,qU,BM,Hd,HL];rfl
theorem ai9 (n:Nat) (x:Take):cN (HT n x)/\(HT n x).all SV.one=true:=by
 refine ⟨by simp [HT,ux,cE,cN,LF,EY],?_⟩
 simp only [HT,ux,cE,BI,qU,BM,Hd,HL];rfl
theorem akq (n:Nat) (x:T4):cN (IC n x)/\(IC n x).all SV.one=true:=by
 refine ⟨by simp [IC,ux,cE,cN,LF,EY],?_⟩
 simp only [IC,ux,cE,BI,qU,BM,Hd,HL];rfl
def LR (n:Nat):iA:=⟨T3,IA n,⟨es,0,0,.mk 0 0 0 [],⟨0,es,0⟩⟩⟩
def LS (n:Nat):iA:=⟨Mem,IB n,⟨es,0,0,.mk 0 0 0 [],.mk 0 0 0 [],.mk 0 0 0 [],⟨0,es,0⟩⟩⟩
def Lr (n:Nat):iA:=⟨Take,HT n,⟨0,0,.mk 0 0 0 []⟩⟩
def LU (n:Nat):iA:=⟨T4,IC n,⟨0,0,.mk 0 0 0 [],.mk 0 0 0 []⟩⟩
def el (n m:Nat):TypeId->Option iA
 | 3=>some wV
 | 5=>some abl
 | 4=>some Zp
 | 74=>some Z4
 | 35=>some Lq
 | 36=>some ai5
 | 133=>some QG
 | 118=>some QH
 | 135=>some QI
 | 76=>some ai6
 | 168=>some Zq
 | 9=>some Z5
 | 302=>some Xq
 | 307=>some akn
 | 149=>some (Sx n)
 | 159=>some (LR m)
 | 163=>some (LS m)
 | 154=>some (Lr m)
 | 161=>some (LU m)
 | _=>none
theorem uk {η:Nat->Value} {q:Nat->Live} {H:bu} {x:SV} {r:List SV} {v:Value} {vs:List Value} (h:rel η q H x v) (h':aP η q H r vs):aP η q H (x :: r) (v :: vs):=by
 simp only [aP];exact ⟨_,_,rfl,h,h'⟩
theorem Qn {η:Nat->Value} {q:Nat->Live} {H:bu}:aP η q H [] []:=by simp [aP]
theorem Eo {η:Nat->Value} {q:Nat->Live} {H:bu} {T:Type} {sz:Nat} {c:T->List SV} (h:∀x,cN (c x)):rel η q H (.sl sz c (λ_=>[])) (N0):=by
 simp only [rel];exact ⟨⟨none,0,rfl,fb _,.inl (by simp)⟩,h⟩
theorem ah2 {H:bu} (n:Nat):rel (λ_=>.nilIface) (λ_=>.un) H (cA n (.mk 0 0 0 [])) (N0):=by
 cases n with
 | zero=>simp [cA,rel]
 | succ n=>exact Eo λy=>(abm n y).1
theorem zL (H:bu) (n:Nat):dL H (cE n (.mk 0 0 0 [])) [I0,S0,I0,S0,I0,S0,N0]:=by
 refine uk (by simp [rel,Expr.op]) (uk (by simp [rel,es]) (uk (by simp [rel,Expr.k]) (uk (by simp [rel,es]) (uk (by simp [rel,Expr.w]) (uk (by simp [rel,es]) (uk ?_ Qn))))))
 exact ah2 n
theorem ann (H:bu):dL H (eB []) [N0]:=uk (Eo λy=>(cP y).1) Qn
theorem als (H:bu):dL H (yo []) [N0]:=uk (Eo λy=>(mT y).1) Qn
theorem ano (H:bu):dL H (mw ⟨[],0,0⟩) [N0,I0,I0]:=uk (Eo λy=>(cP y).1) (by simp [aP,rel])
theorem alu (H:bu):dL H (LQ ⟨[],0,0,0,0⟩) [N0,I0,I0,I0,U0]:=uk (Eo λy=>(cP y).1) (by simp [aP,rel])
theorem anp (H:bu):dL H (Mr ⟨[],0,0,0⟩) [N0,I0,I0,I0]:=uk (Eo λy=>(O7 y).1) (by simp [aP,rel])
theorem VV (H:bu):dL H (ux ⟨0,es,0⟩) [I0,S0,I0]:=by simp [ux,aP,rel,es]
theorem zE (H:bu) (n:Nat):dL H ((Sx n).c (Sx n).z) [I0,S0,I0,S0,I0,S0,N0]:=zL H n
theorem aoZ (H:bu) (n:Nat):dL H ((LR n).c (LR n).z) [S0,I0,I0,I0,S0,I0,S0,I0,S0,N0,I0,S0,I0] :=
 iS (iS (s:=[_,_,_]) (v:=[_,_,_]) (by simp [aP,rel,LR,es]) (zL H n)) (VV H)
theorem ao0 (H:bu) (n:Nat):dL H ((LS n).c (LS n).z) [S0,I0,I0,I0,S0,I0,S0,I0,S0,N0,
  I0,S0,I0,S0,I0,S0,N0,I0,S0,I0,S0,I0,S0,N0,I0,S0,I0] :=
 iS (iS (iS (iS (s:=[_,_,_]) (v:=[_,_,_]) (by simp [aP,rel,LS,es]) (zL H n)) (zL H n)) (zL H n)) (VV H)
theorem anq (H:bu) (n:Nat):dL H ((Lr n).c (Lr n).z) [I0,I0,I0,S0,I0,S0,I0,S0,N0] :=
 iS (s:=[_,_]) (v:=[_,_]) (by simp [aP,rel,Lr]) (zL H n)
theorem ao1 (H:bu) (n:Nat):dL H ((LU n).c (LU n).z) [I0,I0,I0,S0,I0,S0,I0,S0,N0,I0,S0,I0,S0,I0,S0,N0] :=
 iS (iS (s:=[_,_]) (v:=[_,_]) (by simp [aP,rel,LU]) (zL H n)) (zL H n)
theorem Q2 {T:TypeId->Option TI} (hT:∀t i,tt t=some i->T t=some i) (n m:Nat) (X:Ctx) (h:X.tt=T) (t:TypeId) (E:iA) (he:el n m t=some E):ET Tryz.prog X t E:=by
 have h1:∀{t i j},tt t=some j->X.tt t=some i->i=j:=λh2 h3=>by rw [h,hT _ _ h2] at h3;cases h3;rfl
 unfold el at he
 split at he
 all_goals cases he
 all_goals
  refine ⟨⟨_,by rw [h];exact hT _ _ rfl⟩,λi hi x=>?_,?_,λi hi H=>?_⟩
  ·cases h1 rfl hi;first|rfl|(cases n<;>rfl)|(cases m<;>rfl)
  ·first|exact cP|exact Cj|exact Lg|exact akl|exact mT|exact PZ|exact uh|exact ui|exact zT|exact ah1|exact ai7|exact akm|exact O7|exact ai8|exact abm n|exact ako m|exact akp m|exact ai9 m|exact akq m
  ·cases h1 rfl hi;first|exact ann H|exact als H|exact ano H|exact alu H|exact anp H|exact zE H n|exact aoZ H m|exact ao0 H m|exact anq H m|exact ao1 H m|(simp [wV,bC,abl,pq,Zp,lX,Z4,MV,QG,je,QH,kY,Zq,Mq,Z5,MW,Xq,HC,aP,rel,Value.cells])
theorem anr (n m:Nat) (X:Ctx) (h:X.tt=tt) (t:TypeId) (E:iA) (he:el n m t=some E):ET Tryz.prog X t E:=Q2 (λ_ _ h=>h) n m X h t E he
theorem mixed:Tryz.prog.follows .mixedOrders=true:=by kernel_rfl
@[reducible] def iD (n m:Nat) (fs:List (Nat × Func)) (sp:List (Nat × Vc.Spec)) (io lp cut row emp:List Nat:=[]):Ctx:=NM tt (el n m) fs sp io lp cut row emp
theorem iH (n m:Nat) {fs:List (Nat × Func)} {sp:List (Nat × Vc.Spec)} {io lp cut row emp:List Nat} (hf:xw (λf fn=>lD (PP ()) f fn/\nO fn=true) fs) (hs:xw (λf S=>dt (PP ()) f S) sp):CB PP (iD n m fs sp io lp cut row emp):=RD abk (anr n m) mixed hf hs
theorem cX {i:Nat} (h:i < 4611686018427387904):IntKind.i64.wrap ((i:Int)+1)=((i+1:Nat):Int):=by rw [cW (by omega) (by omega)];rfl
theorem n0 (i:Nat):(0:Int)<=(i:Int):=KQ _
theorem bK {α:Type} {l:List α} {i:Nat} (h:i < l.length):∃x,l[i]?=some x:=⟨_,ea h⟩
def jX (n:Net):List SV:=[.sl 3 je (λ_=>n.ins),.sl 5 kY (λ_=>n.aY),.sl 3 je (λ_=>n.outs),.sl 1 bC (λ_=>n.bj)]
theorem mr (n:Net):cN (jX n):=⟨λx=>(uh x).1,λx=>(ui x).1,λx=>(uh x).1,λx=>(cP x).1,trivial⟩
end Go.Proofs.Pk
