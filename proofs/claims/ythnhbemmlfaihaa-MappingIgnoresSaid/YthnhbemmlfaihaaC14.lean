import Derived.Test.YthnhbemmlfaihaaC13
import Derived.WalkKit
set_option linter.unusedVariables false
set_option linter.unusedSimpArgs false
set_option maxRecDepth 10000
set_option maxHeartbeats 64000000
namespace Go.Proofs.Pk
open Go Go.Vc
structure dV where
 kind:Int
 i:Int
 bit:Int
 deriving DecidableEq
structure Gate where
 op:Int
 a:Int
 b:Int
 c:Int
 n:Int
 deriving DecidableEq
structure Cell where
 ins:List Int
 table:Int
 ej:Int
structure Block where
 ins:List Int
 table:Int
 ej:Int
 cF:Int
 key:Int
structure Net where
 ins:List dV
 bU:List Gate
 outs:List dV
 bf:List Int
structure ec where
 n:Int
 cells:List Cell
 bf:List Int
structure dZ where
 ins:List dV
 blocks:List Block
 outs:List dV
 bf:List Int
inductive Expr where
 | mk (op k w:Int) (args:List Expr)
def Expr.op:Expr->Int|.mk o _ _ _=>o
def Expr.k:Expr->Int|.mk _ k _ _=>k
def Expr.w:Expr->Int|.mk _ _ w _=>w
def Expr.args:Expr->List Expr|.mk _ _ _ l=>l
structure N4 where
 kind:Int
 src:ByteArray
 n:Int
structure Pq where
 name:ByteArray
 w:Int
 init:Int
 next:Expr
 N5:N4
structure Mem where
 name:ByteArray
 w:Int
 words:Int
 en:Expr
 ad:Expr
 da:Expr
 N5:N4
structure Take where
 chan:Int
 w:Int
 cond:Expr
structure Pr where
 chan:Int
 w:Int
 cond:Expr
 data:Expr
structure Head where
 has:Bool
 v:Int
structure Vd where
 xU:List Int
 xV:List (List Int)
structure Source where
 kind:Int
 n:Int
 deriving DecidableEq
structure Part where
 ins:List Source
 table:Int
 ej:Int
 cF:Int
abbrev fY (l:List Int):Prop:=l.Pairwise (· < ·)
theorem fY.nodup {l:List Int} (h:fY l):l.Nodup:=h.imp λgu e=>by omega
theorem fY.ext:∀{l k:List Int},fY l->fY k->(∀x,x∈l↔x∈k)->l=k
 | [],[],_,_,_=>rfl
 | [],y :: k,_,_,h=>absurd ((h y).2 (by simp)) (by simp)
 | x :: l,[],_,_,h=>absurd ((h x).1 (by simp)) (by simp)
 | x :: l,y :: k,hl,hk,h=>by
  have js:=eS.1 hl
  have fF:=eS.1 hk
  have e:x=y:=by
   rcases cj.1 ((h x).1 (by simp)) with e|e
   ·exact e
   ·rcases cj.1 ((h y).2 (by simp)) with e'|e'
    ·exact e'.symm
    ·have:=fF.1 x e;have:=js.1 y e';omega
  subst e
  rw [fY.ext js.2 fF.2 λz=>?_]
  have hz:=h z
  simp only [cj] at hz
  constructor
  ·intro hm
   rcases hz.1 (.inr hm) with e|e
   ·subst e;exact absurd (js.1 z hm) (by omega)
   ·exact e
  ·intro hm
   rcases hz.2 (.inr hm) with e|e
   ·subst e;exact absurd (fF.1 z hm) (by omega)
   ·exact e
def dO:List Int->List Int
 | []=>[]
 | [x]=>[x]
 | x :: y :: r=>if x=y then dO (y :: r) else x :: dO (y :: r)
theorem Hn:∀{l:List Int} {x:Int},x∈dO l↔x∈l
 | [],x=>by simp [dO]
 | [y],x=>by simp [dO]
 | y :: z :: r,x=>by
  unfold dO
  split
  ·rename_i e;subst e;rw [Hn];simp
  ·rw [cj,Hn];simp
theorem LQ:∀{l:List Int},l.Pairwise (·<=·)->fY (dO l)
 | [],_=>.nil
 | [y],_=>by simp [dO]
 | y :: z :: r,h=>by
  have h':=eS.1 h
  unfold dO
  split
  ·exact LQ h'.2
  ·rename_i bM
   refine eS.2 ⟨λx hx=>?_,LQ h'.2⟩
   rw [Hn] at hx
   have h1:=h'.1 z (by simp)
   rcases cj.1 hx with rfl|hx
   ·omega
   ·have:=(eS.1 h'.2).1 x hx;omega
def uI (x:Int):List Int->List Int
 | []=>[x]
 | y :: r=>if x < y then x :: y :: r else if x=y then y :: r else y :: uI x r
theorem Mk {x z:Int}:∀{l:List Int},z∈uI x l↔z=x\/z∈l
 | []=>by simp [uI]
 | y :: r=>by
  unfold uI
  split
  ·simp
  ·split
   ·rename_i e;subst e;simp
   ·simp only [cj,Mk (l:=r)]
    constructor
    ·rintro (h|h|h)<;>simp [h]
    ·rintro (h|h|h)<;>simp [h]
theorem TL {x:Int}:∀{l:List Int},fY l->fY (uI x l)
 | [],_=>by simp [uI]
 | y :: r,h=>by
  have h':=eS.1 h
  unfold uI
  split
  ·refine eS.2 ⟨λz hz=>?_,h⟩
   rcases cj.1 hz with rfl|hz
   ·assumption
   ·have:=h'.1 z hz;omega
  ·split
   ·exact h
   ·refine eS.2 ⟨λz hz=>?_,TL h'.2⟩
    rcases Mk.1 hz with rfl|hz
    ·omega
    ·exact h'.1 z hz
def jP (a b:List Int):List Int:=(a++b).foldr uI []
theorem QH {z:Int}:∀{l:List Int},z∈l.foldr uI []↔z∈l
 | []=>by simp
 | y :: r=>by rw [List.foldr_cons,Mk,QH,cj]
theorem QI:∀l:List Int,fY (l.foldr uI [])
 | []=>.nil
 | y :: r=>TL (QI r)
theorem Dj {a b:List Int} {z:Int}:z∈jP a b↔z∈a\/z∈b:=by unfold jP;rw [QH,eA]
theorem KX (a b:List Int):fY (jP a b):=QI _
theorem ab8 {a b l:List Int} (h:l.Pairwise (·<=·)) (hp:l.Perm (a++b)):dO l=jP a b :=
 (LQ h).ext (KX a b) λx=>by rw [Hn,Dj,hp.mem_iff,eA]
def dt (a b:List Int):Bool:=a.all λx=>b.contains x
theorem pN {a b:List Int}:dt a b=true↔∀x∈a,x∈b:=by simp [dt]
def kU (l:List (List Int)) (x:List Int):List (List Int):=if l.any (λy=>dt y x) then l else l.filter (λy=>!dt x y)++[x]
abbrev IY (L:List (List Int)):Prop:=L.Pairwise λa b=>dt a b=false/\dt b a=false
theorem KY {a b c:List Int} (h:dt a b=true) (k:dt b c=true):dt a c=true:=by rw [pN] at *;exact λx hx=>k x (h x hx)
theorem ab9 (a:List Int):dt a a=true:=pN.2 λ_ h=>h
structure rU (F R:List (List Int)):Prop where
 mem:∀r∈R,r∈F
 all:∀u∈F,∃r∈R,dt r u=true
 vY:IY R
theorem rU.nil:rU [] []:=⟨by simp,by simp,.nil⟩
theorem rU.add {F R:List (List Int)} (h:rU F R) (u:List Int):rU (F++[u]) (kU R u):=by
 unfold kU
 split
 ·rename_i hs
  obtain ⟨y,hy,hs⟩:=G9.1 hs
  refine ⟨λr hr=>uf _ (h.mem r hr),λv hv=>?_,h.vY⟩
  rcases eA.1 hv with hv|hv
  ·exact h.all v hv
  ·simp at hv;subst hv;exact ⟨y,hy,hs⟩
 ·rename_i hs
  have hs:∀y∈R,dt y u=false:=λy hy=>by
   have:=(List.any_eq_false.1 (Bool.not_eq_true _ ▸ hs)) y hy
   simpa using this
  refine ⟨λr hr=>?_,λv hv=>?_,?_⟩
  ·rcases eA.1 hr with hr|hr
   ·exact uf _ (h.mem r (k9.1 hr).1)
   ·exact xd _ hr
  ·rcases eA.1 hv with hv|hv
   ·obtain ⟨r,hr,JD⟩:=h.all v hv
    cases hq:dt u r with
    | false=>exact ⟨r,uf _ (k9.2 ⟨hr,by simp [hq]⟩),JD⟩
    | true=>exact ⟨u,by simp,KY hq JD⟩
   ·simp at hv;subst hv;exact ⟨v,by simp,ab9 v⟩
  ·refine j9.2 ⟨h.vY.filter _,by simp,λa ha b hb=>?_⟩
   simp at hb;subst hb
   obtain ⟨CF,qX⟩:=k9.1 ha
   exact ⟨hs a CF,by simpa using qX⟩
theorem rU.fold {F R:List (List Int)} (h:rU F R):∀L:List (List Int),rU (F++L.filter λu=>decide (u.length<=4)) (L.foldl (λnext u=>if u.length<=4 then kU next u else next) R)
 | []=>by simpa using h
 | u :: L=>by
  rw [mj]
  by_cases hu:u.length<=4
  ·rw [if_pos hu,K8 (by simpa using hu)]
   have:=rU.fold (h.add u) L
   rwa [vx] at this
  ·rw [if_neg hu,Sb (by simpa using hu)]
   exact rU.fold h L
def kb (op:Int):Nat:=if op=1 then 1 else if op=2\/op=3\/op=4 then 2 else 3
def cI (g:Gate):List Int:=[g.a,g.b,g.c].take (kb g.op)
theorem adj {g:Gate} {o:Int} (h:o∈cI g):o=g.a\/o=g.b\/o=g.c:=by simpa using vw h
theorem y6 (g:Gate):1<=(cI g).length/\(cI g).length<=3:=by
 unfold cI kb
 split
 ·simp
 ·split<;>simp
structure uX (lim:Int) (g:Gate):Prop where
 op:1<=g.op/\g.op<=7
 a:0<=g.a/\g.a < lim
 b:0<=g.b/\g.b < lim
 c:0<=g.c/\g.c < lim
 n:0<=g.n/\g.n < 64
structure cv (I:Nat) (gs:List Gate):Prop where
 oR:2+I+gs.length<=600
 bU:∀(i:Nat) (g:Gate),gs[i]?=some g->uX (2+I+i) g
theorem cv.ops {I:Nat} {gs:List Gate} (h:cv I gs) {i:Nat} {g:Gate} (hg:gs[i]?=some g):∀o∈cI g,0<=o/\o < 2+I+i:=λo ho=>by
 have k:=h.bU i g hg
 rcases adj ho with rfl|rfl|rfl
 ·exact k.a
 ·exact k.b
 ·exact k.c
inductive gC (I:Nat) (gs:List Gate) (S:Int->Prop):Int->Prop
 | mem {v:Int}:S v->gC I gs S v
 | const {v:Int}:0<=v->v < 2->gC I gs S v
 | gate {i:Nat} {g:Gate}:gs[i]?=some g->g.op≠7->(∀o∈cI g,gC I gs S o)->gC I gs S (2+I+i)
theorem gC.mono {I:Nat} {gs:List Gate} {S T:Int->Prop} (h:∀x,S x->T x) {v:Int} (k:gC I gs S v):gC I gs T v:=by
 induction k with
 | mem h1=>exact .mem (h _ h1)
 | const h1 h2=>exact .const h1 h2
 | gate h1 h2 _ ih=>exact .gate h1 h2 ih
theorem gC.inv {I:Nat} {gs:List Gate} {S:Int->Prop} {i:Nat} {g:Gate} (hg:gs[i]?=some g) (k:gC I gs S (2+I+i)) (hn:¬S (2+I+i)):g.op≠7/\∀o∈cI g,gC I gs S o:=by
 generalize hv:(2+(I:Int)+i)=v at k
 cases k with
 | mem h1=>rw [hv] at hn;exact absurd h1 hn
 | const h1 h2=>omega
 | gate h1 h2 h3 =>
  rename_i j g'
  have:j=i:=by omega
  subst this
  rw [hg] at h1;cases h1
  exact ⟨h2,h3⟩
theorem gC.input {I:Nat} {gs:List Gate} {S:Int->Prop} {v:Int} (h:2<=v) (h':v < 2+I) (k:gC I gs S v):S v:=by
 cases k with
 | mem h1=>exact h1
 | const h1 h2=>omega
 | gate h1 h2 h3=>omega
theorem gC.more {I:Nat} {gs hs:List Gate} {S:Int->Prop} {v:Int} (k:gC I gs S v):gC I (gs++hs) S v:=by
 induction k with
 | mem h1=>exact .mem h1
 | const h1 h2=>exact .const h1 h2
 | gate h1 h2 _ ih=>exact .gate (by rw [iu (bq.1 h1).1];exact h1) h2 ih
structure oi (Q:(Int->Prop)->Prop) (m:Int) (C:List (List Int)):Prop where
 inc:∀c∈C,fY c
 len:∀c∈C,c.length<=4
 lim:∀c∈C,∀x∈c,2<=x/\x < m
 cut:∀c∈C,Q (·∈c)
 all:∀S:List Int,S.length<=4->Q (·∈S)->∃c∈C,dt c S=true
 vY:IY C
theorem fY.afo {c S:List Int} (h:fY c) (hs:dt c S=true):c.length<=S.length:=Bc h.nodup (pN.1 hs)
def pY (all cs:List (List Int)):List (List Int):=(all.flatMap λa=>cs.map λb=>jP a b).foldl (λnext u=>if u.length<=4 then kU next u else next) []
theorem oi.step {Q Q':(Int->Prop)->Prop} {m:Int} {A C:List (List Int)} (hA:oi Q m A) (hC:oi Q' m C) (mono:∀S T:Int->Prop,(∀x,S x->T x)->Q S->Q T) (agV:∀S T:Int->Prop,(∀x,S x->T x)->Q' S->Q' T) :
  oi (λS=>Q S/\Q' S) m (pY A C):=by
 have M:=rU.fold rU.nil (A.flatMap λa=>C.map λb=>jP a b)
 have sh:∀r∈pY A C,∃a∈A,∃b∈C,r=jP a b/\r.length<=4:=λr hr=>by
  have h:=M.mem r hr
  rw [ui,k9,Du] at h
  obtain ⟨⟨a,ha,h⟩,hl⟩:=h
  obtain ⟨b,hb,rfl⟩:=jO.1 h
  exact ⟨a,ha,b,hb,rfl,by simpa using hl⟩
 refine ⟨λr hr=>?_,λr hr=>?_,λr hr x hx=>?_,λr hr=>?_,λS hS hq=>?_,M.vY⟩
 ·obtain ⟨a,ha,b,hb,rfl,_⟩:=sh r hr
  exact KX a b
 ·obtain ⟨a,ha,b,hb,_,hl⟩:=sh r hr
  exact hl
 ·obtain ⟨a,ha,b,hb,rfl,_⟩:=sh r hr
  rcases Dj.1 hx with hx|hx
  ·exact hA.lim a ha x hx
  ·exact hC.lim b hb x hx
 ·obtain ⟨a,ha,b,hb,rfl,_⟩:=sh r hr
  exact ⟨mono _ _ (λx hx=>Dj.2 (.inl hx)) (hA.cut a ha),agV _ _ (λx hx=>Dj.2 (.inr hx)) (hC.cut b hb)⟩
 ·obtain ⟨a,ha,has⟩:=hA.all S hS hq.1
  obtain ⟨b,hb,OL⟩:=hC.all S hS hq.2
  have hu:dt (jP a b) S=true:=pN.2 λx hx=>by
   rcases Dj.1 hx with hx|hx
   ·exact pN.1 has x hx
   ·exact pN.1 OL x hx
  have hl:=(KX a b).afo hu
  obtain ⟨r,hr,hrs⟩:=M.all (jP a b) (by
   rw [ui,k9,Du]
   exact ⟨⟨a,ha,jO.2 ⟨b,hb,rfl⟩⟩,by simpa using mV hl hS⟩)
  exact ⟨r,hr,KY hrs hu⟩
def fB:List Int->List Int->Int
 | [],[]=>0
 | [],_ :: _=>-1
 | _ :: _,[]=>1
 | x :: a,y :: b=>if x < y then -1 else if y < x then 1 else fB a b
def iE (a b:List Int):Int:=if a.length < b.length then -1 else if b.length < a.length then 1 else fB a b
theorem Ux:∀{a b:List Int},fB a b=0->a=b
 | [],[],_=>rfl
 | [],_ :: _,h=>by simp [fB] at h
 | _ :: _,[],h=>by simp [fB] at h
 | x :: a,y :: b,h=>by
  unfold fB at h
  split at h
  ·simp at h
  ·split at h
   ·simp at h
   ·rw [Ux h,show x=y by omega]
theorem SI:∀a:List Int,fB a a=0
 | []=>rfl
 | x :: a=>by unfold fB;rw [if_neg (by omega),if_neg (by omega)];exact SI a
theorem TM:∀a b:List Int,fB b a=- fB a b
 | [],[]=>rfl
 | [],_ :: _=>rfl
 | _ :: _,[]=>rfl
 | x :: a,y :: b=>by
  unfold fB
  by_cases h1:x < y
  ·rw [if_neg (by omega),if_pos h1,if_pos h1];rfl
  ·by_cases h2:y < x
   ·rw [if_pos h2,if_neg h1,if_pos h2]
   ·rw [if_neg h2,if_neg h1,if_neg h1,if_neg h2];exact TM a b
theorem RQ:∀{a b c:List Int},fB a b < 0->fB b c < 0->fB a c < 0
 | [],[],_,h,_=>by simp [fB] at h
 | [],_ :: _,[],_,h=>by simp [fB] at h
 | [],_ :: _,_ :: _,_,_=>by simp [fB]
 | _ :: _,[],_,h,_=>by simp [fB] at h
 | _ :: _,_ :: _,[],_,h=>by simp [fB] at h
 | x :: a,y :: b,z :: c,h,k=>by
  unfold fB at h k ⊢
  split at h
  ·split at k
   ·rw [if_pos (by omega)];decide
   ·split at k
    ·simp at k
    ·rw [if_pos (by omega)];decide
  ·split at h
   ·simp at h
   ·split at k
    ·rw [if_pos (by omega)];decide
    ·split at k
     ·simp at k
     ·rw [if_neg (by omega),if_neg (by omega)];exact RQ h k
theorem MA {a b:List Int} (h:iE a b=0):a=b:=by
 unfold iE at h
 split at h
 ·simp at h
 ·split at h
  ·simp at h
  ·exact Ux h
theorem Bo (a b:List Int):iE b a=- iE a b:=by
 unfold iE
 by_cases h1:a.length < b.length
 ·rw [if_neg (by omega),if_pos h1,if_pos h1];rfl
 ·by_cases h2:b.length < a.length
  ·rw [if_pos h2,if_neg h1,if_pos h2]
  ·rw [if_neg h2,if_neg h1,if_neg h1,if_neg h2];exact TM a b
theorem RS {a b c:List Int} (h:iE a b < 0) (k:iE b c < 0):iE a c < 0:=by
 unfold iE at *
 split at h
 ·split at k
  ·rw [if_pos (by omega)];decide
  ·split at k
   ·simp at k
   ·rw [if_pos (by omega)];decide
 ·split at h
  ·simp at h
  ·split at k
   ·rw [if_pos (by omega)];decide
   ·split at k
    ·simp at k
    ·rw [if_neg (by omega),if_neg (by omega)];exact RQ h k
theorem QR {a b c:List Int} (h:iE a b<=0) (k:iE b c<=0):iE a c<=0:=by
 rcases Int.lt_or_eq_of_le h with h|h
 ·rcases Int.lt_or_eq_of_le k with k|k
  ·exact Int.le_of_lt (RS h k)
  ·rw [<-MA k];omega
 ·rw [MA h];exact k
def zW (x:List Int):List (List Int)->List (List Int)
 | []=>[x]
 | y :: r=>if iE x y<=0 then x :: y :: r else y :: zW x r
def n7 (L:List (List Int)):List (List Int):=L.foldr zW []
theorem LR (x:List Int):∀L:List (List Int),(zW x L).Perm (x :: L)
 | []=>.refl _
 | y :: r=>by
  unfold zW
  split
  ·exact .refl _
  ·exact ((LR x r).cons y).trans (.swap x y r)
theorem wX:∀L:List (List Int),(n7 L).Perm L
 | []=>.refl _
 | y :: r=>(LR y (n7 r)).trans ((wX r).cons y)
abbrev JJ (L:List (List Int)):Prop:=L.Pairwise λa b=>iE a b<=0
theorem TN (x:List Int):∀{L:List (List Int)},JJ L->JJ (zW x L)
 | [],_=>by simp [zW]
 | y :: r,h=>by
  have h':=eS.1 h
  unfold zW
  split
  ·rename_i wy
   refine eS.2 ⟨λz hz=>?_,h⟩
   rcases cj.1 hz with rfl|hz
   ·exact wy
   ·exact QR wy (h'.1 z hz)
  ·rename_i wy
   refine eS.2 ⟨λz hz=>?_,TN x h'.2⟩
   rcases cj.1 ((LR x r).mem_iff.1 hz) with rfl|hz
   ·rw [Bo];omega
   ·exact h'.1 z hz
theorem LS:∀L:List (List Int),JJ (n7 L)
 | []=>.nil
 | y :: r=>TN y (LS r)
theorem adk {L R:List (List Int)} (hp:R.Perm L) (hs:JJ R):R=n7 L :=
 List.Perm.eq_of_pairwise (λa b _ _ h k=>MA (by rw [Bo] at k;omega)) hs (LS L) (hp.trans (wX L).symm)
theorem aca {L:List (List Int)} {x y:List Int} {r:List (List Int)} (h:n7 L=x :: r) (hy:y∈L):x.length<=y.length:=by
 have hs:=LS L
 have hm:=(wX L).mem_iff.2 hy
 rw [h] at hs hm
 rcases cj.1 hm with rfl|hm
 ·exact fP _
 ·have:=(eS.1 hs).1 y hm
  unfold iE at this
  split at this
  ·omega
  ·split at this
   ·simp at this
   ·omega
def bY (L l:List Int):Int:=l.foldl (λm v=>max m (L.getD v.toNat 0)) 0
theorem KZ (L:List Int):∀(l:List Int) (m:Int),m<=l.foldl (λm v=>max m (L.getD v.toNat 0)) m/\∀v∈l,L.getD v.toNat 0<=l.foldl (λm v=>max m (L.getD v.toNat 0)) m
 | [],m=>⟨nL _,by simp⟩
 | x :: r,m=>by
  have h:=KZ L r (max m (L.getD x.toNat 0))
  rw [mj]
  refine ⟨by omega,λv hv=>?_⟩
  rcases cj.1 hv with rfl|hv
  ·omega
  ·exact h.2 v hv
theorem Ho {L l:List Int} {v:Int} (h:v∈l):L.getD v.toNat 0<=bY L l:=(KZ L l 0).2 v h
theorem xm (L l:List Int):0<=bY L l:=(KZ L l 0).1
theorem w9 {L:List Int}:∀{l:List Int} {m M:Int},m<=M->(∀v∈l,L.getD v.toNat 0<=M)->l.foldl (λm v=>max m (L.getD v.toNat 0)) m<=M
 | [],m,M,h,_=>h
 | x :: r,m,M,h,k=>by
  rw [mj]
  exact w9 (by have:=k x (by simp);omega) λv hv=>k v (by simp [hv])
theorem abG {L a b:List Int} (h:dt a b=true):bY L a<=bY L b:=w9 (xm L b) λv hv=>Ho (pN.1 h v hv)
def iN (f:List Int->Int):List Int->List (List Int)->List Int
 | m,[]=>m
 | m,x :: r=>if f x - f m < 0 then iN f x r else iN f m r
theorem DE {f:List Int->Int}:∀{r:List (List Int)} {m:List Int},iN f m r∈m :: r
 | [],m=>by simp [iN]
 | x :: r,m=>by
  unfold iN
  split
  ·exact rD _ DE
  ·rcases cj.1 (DE (f:=f) (r:=r) (m:=m)) with h|h<;>simp [h]
theorem TO {f:List Int->Int}:∀{r:List (List Int)} {m:List Int},∀x∈m :: r,f (iN f m r)<=f x
 | [],m=>by simp [iN]
 | y :: r,m=>by
  intro x hx
  unfold iN
  have h1:=λm=>TO (f:=f) (r:=r) (m:=m)
  split
  ·have h2:=h1 y y (by simp)
   rcases cj.1 hx with rfl|hx
   ·omega
   ·exact h1 y x hx
  ·have h2:=h1 m m (by simp)
   rcases cj.1 hx with rfl|hx
   ·exact h2
   ·rcases cj.1 hx with rfl|hx
    ·omega
    ·exact h1 m x (rD _ hx)
structure dJ where
 labels:List Int
 e6:List (List (List Int))
 leaves:List (List Int)
def nO (C:List (List (List Int))) (ops:List Int):List (List Int):=n7 (ops.foldl (λall o=>pY all (C.getD o.toNat [])) [[]])
def Eh (v:Int):List (List Int)->List (List Int)
 | []=>[[v]]
 | x :: r=>if x.length=0 then x :: r else [v] :: x :: r
def jU (I:Nat):dJ:=⟨List.replicate (2+I) 0,[[[]],[[]]]++(List.range I).map (λk:Nat=>[[2+(k:Int)]]),List.replicate (2+I) []⟩
def rN (s:dJ) (g:Gate):Option dJ :=
 let v:Int:=s.labels.length
 if g.op=7 then some ⟨s.labels++[1+bY s.labels (cI g)],s.e6++[[[v]]],s.leaves++[cI g]⟩
 else match nO s.e6 (cI g) with
  | []=>none
  | x :: r=>if (Eh v (x :: r)).length > 400 then none
   else some ⟨s.labels++[1+bY s.labels (iN (bY s.labels) x r)],s.e6++[Eh v (x :: r)],s.leaves++[iN (bY s.labels) x r]⟩
def iF (I:Nat) (gs:List Gate):Option dJ:=gs.foldl (λs g=>s.bind λs=>rN s g) (some (jU I))
theorem DV (I:Nat) (gs:List Gate) (g:Gate):iF I (gs++[g])=(iF I gs).bind λs=>rN s g:=by simp [iF,List.foldl_append]
abbrev lC (I:Nat) (gs:List Gate) (l:List Int) (S:Int->Prop):Prop:=∀o∈l,gC I gs S o
theorem oi.perm {Q:(Int->Prop)->Prop} {m:Int} {C D:List (List Int)} (h:oi Q m C) (hp:D.Perm C):oi Q m D :=
 ⟨λc hc=>h.inc c (hp.mem_iff.1 hc),λc hc=>h.len c (hp.mem_iff.1 hc),λc hc=>h.lim c (hp.mem_iff.1 hc),λc hc=>h.cut c (hp.mem_iff.1 hc),
  λS hS hq=>by obtain ⟨c,hc,hs⟩:=h.all S hS hq;exact ⟨c,hp.mem_iff.2 hc,hs⟩,hp.symm.pairwise h.vY λh=>⟨h.2,h.1⟩⟩
theorem oi.up {Q Q':(Int->Prop)->Prop} {m m':Int} {C:List (List Int)} (h:oi Q m C) (hm:m<=m') (hq:∀S,Q S↔Q' S):oi Q' m' C :=
 ⟨h.inc,h.len,λc hc x hx=>by have:=h.lim c hc x hx;omega,λc hc=>(hq _).1 (h.cut c hc),λS hS k=>h.all S hS ((hq _).2 k),h.vY⟩
structure ly (I:Nat) (gs:List Gate) (s:dJ):Prop where
 len:s.labels.length=2+I+gs.length
 B6:s.e6.length=2+I+gs.length
 ni:s.leaves.length=2+I+gs.length
 cut:∀(v:Nat) (C:List (List Int)),s.e6[v]?=some C->oi (λS=>gC I gs S v) (v+1) C/\C≠[]
 jt:∀C∈s.e6,C.length<=400
 zero:∀(v:Nat) (x:Int),v < 2+I->s.labels[v]?=some x->x=0
 pos:∀x∈s.labels,0<=x
 gR:∀(i:Nat) (l:List Int),s.leaves[2+I+i]?=some l->s.labels[2+I+i]?=some (1+bY s.labels l)
 lf:∀(i:Nat) (l:List Int) (g:Gate),s.leaves[2+I+i]?=some l->gs[i]?=some g->if g.op=7 then l=cI g else
  fY l/\l.length<=4/\(∀x∈l,2<=x/\x < 2+I+i)/\lC I gs (cI g) (·∈l)/\(∀S:List Int,S.length<=4->lC I gs (cI g) (·∈S)->dt S l=true->dt l S=true) /\
   ∀S:List Int,S.length<=4->lC I gs (cI g) (·∈S)->bY s.labels l<=bY s.labels S
theorem LU {I:Nat} {gs:List Gate} (G:cv I gs) {s:dJ} (h:ly I gs s) {m:Nat} (hm:m<=2+I+gs.length) {l:List Int} (ho:∀o∈l,0<=o/\o < m):oi (lC I gs l) m (nO s.e6 l):=by
 suffices H:∀(l:List Int) (Q:(Int->Prop)->Prop) (A:List (List Int)),(∀S T:Int->Prop,(∀x,S x->T x)->Q S->Q T)->oi Q m A->(∀o∈l,0<=o/\o < m) ->
   oi (λS=>Q S/\lC I gs l S) m (l.foldl (λall o=>pY all (s.e6.getD o.toNat [])) A) by
  have h1:oi (λ_=>True) m [[]]:=⟨by simp,by simp,by simp,λ_ _=>trivial,λS _ _=>⟨[],by simp,by simp [dt]⟩,by simp⟩
  exact ((H l _ _ (λ_ _ _ _=>trivial) h1 ho).perm (wX _)).up (nL _) λS=>by simp
 intro l
 induction l with
 | nil=>intro Q A _ hA _;exact hA.up (nL _) λS=>by simp [lC]
 | cons o r ih =>
  intro Q A hQ hA ho
  obtain ⟨h0,h1⟩:=ho o (by simp)
  have aQ:o.toNat < s.e6.length:=by rw [h.B6];omega
  have hC:=(h.cut o.toNat _ (eB aQ)).1
  have e:s.e6.getD o.toNat []=s.e6[o.toNat]:=by rw [List.getD_eq_getElem?_getD,eB aQ];rfl
  rw [mj,e]
  have hC':oi (λS=>gC I gs S o) m s.e6[o.toNat]:=hC.up (by omega) λS=>by rw [Int.toNat_of_nonneg h0]
  refine (ih _ _ ?_ (hA.step hC' hQ λS T JK=>gC.mono JK) λx hx=>ho x (by simp [hx])).up (nL _) λS=>?_
  ·exact λS T JK hq=>⟨hQ S T JK hq.1,hq.2.mono JK⟩
  ·constructor
   ·rintro ⟨⟨a,b⟩,c⟩
    refine ⟨a,λx hx=>?_⟩
    rcases cj.1 hx with rfl|hx
    ·exact b
    ·exact c x hx
   ·rintro ⟨a,b⟩
    exact ⟨⟨a,b o (by simp)⟩,λx hx=>b x (by simp [hx])⟩
theorem gC.less {I:Nat} {gs hs:List Gate} (G:cv I (gs++hs)) {S:Int->Prop} {v:Int} (k:gC I (gs++hs) S v) (hv:v < 2+I+gs.length):gC I gs S v:=by
 induction k with
 | mem h1=>exact .mem h1
 | const h1 h2=>exact .const h1 h2
 | @gate i g h1 h2 h3 ih =>
  have hi:i < gs.length:=by omega
  have h4:gs[i]?=some g:=by rw [iu hi] at h1;exact h1
  refine .gate h4 h2 λo ho=>ih o ho ?_
  have:=(G.ops h1 o ho).2
  omega
theorem gC.same {I:Nat} {gs hs:List Gate} (G:cv I (gs++hs)) {S:Int->Prop} {v:Int} (hv:v < 2+I+gs.length):gC I gs S v↔gC I (gs++hs) S v:=⟨gC.more,λh=>h.less G hv⟩
theorem lC.same {I:Nat} {gs hs:List Gate} (G:cv I (gs++hs)) {S:Int->Prop} {l:List Int} (hl:∀o∈l,o < 2+I+gs.length):lC I gs l S↔lC I (gs++hs) l S :=
 ⟨λh o ho=>(h o ho).more,λh o ho=>(h o ho).less G (hl o ho)⟩
theorem cv.left {I:Nat} {gs hs:List Gate} (G:cv I (gs++hs)):cv I gs :=
 ⟨by have:=G.oR;simp at this;omega,λi g h=>G.bU i g (by rw [iu (bq.1 h).1];exact h)⟩
theorem GU {L l:List Int} {y:Int} (h:∀x∈l,x.toNat < L.length):bY (L++[y]) l=bY L l:=by
 unfold bY
 have:∀(l:List Int) (m:Int),(∀x∈l,x.toNat < L.length)->l.foldl (λm v=>max m ((L++[y]).getD v.toNat 0)) m=l.foldl (λm v=>max m (L.getD v.toNat 0)) m:=by
  intro l
  induction l with
  | nil=>intro m _;rfl
  | cons x r ih =>
   intro m h
   have hx:=h x (by simp)
   rw [mj,mj,ih _ λz hz=>h z (by simp [hz]),List.getD_eq_getElem?_getD,iu hx,<-List.getD_eq_getElem?_getD]
 exact this l 0 h
theorem Rq {L:List Int} {y:Int} (hy:0<=y) (l:List Int):bY L l<=bY (L++[y]) l:=by
 refine w9 (xm _ l) λv hv=>wY ?_ (Ho hv)
 rw [List.getD_eq_getElem?_getD,List.getD_eq_getElem?_getD,Dr]
 split
 ·exact nL _
 ·rename_i h
  rw [ox (by omega)]
  cases h2:[y][v.toNat - L.length]? with
  | none=>exact nL _
  | some z =>
   have:=cL h2
   simp at this;subst this;exact hy
theorem acb (I:Nat):ly I [] (jU I):=by
 have hc:∀(v:Nat) (C:List (List Int)),(jU I).e6[v]?=some C->(v < 2/\C=[[]])\/(2<=v/\v < 2+I/\C=[[(v:Int)]]):=by
  intro v C h
  match v,h with
  | 0,h=>simp [jU] at h;exact .inl ⟨by omega,h.symm⟩
  | 1,h=>simp [jU] at h;exact .inl ⟨by omega,h.symm⟩
  | v+2,h =>
   simp [jU] at h
   obtain ⟨k,h1,h2⟩:=h
   obtain ⟨h3,h4⟩:=bq.1 h1
   simp at h3 h4
   exact .inr ⟨by omega,by omega,by rw [<-h2,<-h4,show ((v+2:Nat):Int)=2+(v:Int) by omega]⟩
 refine ⟨by simp [jU],by simp [jU];omega,by simp [jU],λv C h=>?_,λC h=>?_,λv x _ h=>?_,λx h=>?_,λi l h=>?_,λi l g h hg=>by simp at hg⟩
 ·rcases hc v C h with ⟨hv,rfl⟩|⟨h1,h2,rfl⟩
  ·exact ⟨⟨by simp,by simp,by simp,λc hc=>.const (by omega) (by omega),λS _ _=>⟨[],by simp,by simp [dt]⟩,by simp⟩,by simp⟩
  ·refine ⟨⟨by simp,by simp,λc hc x hx=>?_,λc hc=>?_,λS _ hS=>⟨[(v:Int)],by simp,?_⟩,by simp⟩,by simp⟩
   ·simp at hc;subst hc;simp at hx;omega
   ·simp at hc;subst hc;exact .mem (by simp)
   ·rw [pN];intro x hx;simp at hx;subst hx;exact hS.input (by omega) (by omega)
 ·obtain ⟨v,hv⟩:=qC h
  rcases hc v C hv with ⟨_,rfl⟩|⟨_,_,rfl⟩<;>simp
 ·simp [jU,ua] at h;exact h.2.symm
 ·simp [jU] at h;omega
 ·exfalso
  have:=(bq.1 h).1
  simp [jU] at this
  omega
theorem adl {M:List (List Int)} (ha:IY M) {x:List Int} {r:List (List Int)} (hM:M=x :: r) (hx:x.length=0):r=[]:=by
 subst hM
 cases r with
 | nil=>rfl
 | cons y r =>
  have:=((eS.1 ha).1 y (by simp)).1
  rw [gL hx] at this
  simp [dt] at this
theorem SJ (v:Int) (x:List Int) (r:List (List Int)):Eh v (x :: r)=if x.length=0 then x :: r else [v] :: x :: r:=rfl
theorem aer {I:Nat} {gs:List Gate} {g:Gate} (G:cv I (gs++[g])) {s s':dJ} (h:ly I gs s) (e:rN s g=some s'):ly I (gs++[g]) s':=by
 have G0:=G.left
 have hg:(gs++[g])[gs.length]?=some g:=by simp
 have zX:=G.ops hg
 have aQ:∀o∈cI g,o < 2+(I:Int)+gs.length:=λo ho=>(zX o ho).2
 have key:∀(c:List (List Int)) (l:List Int),s'=⟨s.labels++[1+bY s.labels l],s.e6++[c],s.leaves++[l]⟩->(oi (λS=>gC I (gs++[g]) S (2+I+gs.length:Nat)) ((2+I+gs.length:Nat)+1) c/\c≠[])->c.length<=400 ->
   (∀x∈l,0<=x/\x < 2+(I:Int)+gs.length)->(if g.op=7 then l=cI g else fY l/\l.length<=4/\(∀x∈l,2<=x/\x < 2+(I:Int)+gs.length)/\lC I (gs++[g]) (cI g) (·∈l) /\
    (∀S:List Int,S.length<=4->lC I (gs++[g]) (cI g) (·∈S)->dt S l=true->dt l S=true)/\∀S:List Int,S.length<=4->lC I (gs++[g]) (cI g) (·∈S)->bY s.labels l<=bY s.labels S)->ly I (gs++[g]) s':=by
  intro c l uR NX hc4 hl bV
  subst uR
  have hy:0<=1+bY s.labels l:=by have:=xm s.labels l;omega
  refine ⟨by simp [h.len];omega,by simp [h.B6];omega,by simp [h.ni];omega,λv C hv=>?_,λC hC=>?_,λv x hv hx=>?_,λx hx=>?_,λi l' js=>?_,λi l' g' js kG=>?_⟩
  ·rw [Dr] at hv
   split at hv
   ·rename_i aQ
    rw [h.B6] at aQ
    obtain ⟨h1,h2⟩:=h.cut v C hv
    exact ⟨h1.up (nL _) λS=>gC.same G (by omega),h2⟩
   ·rename_i aQ
    have ko:v=2+I+gs.length:=by
     have:=(bq.1 hv).1
     rw [h.B6] at this aQ
     simp at this;omega
    subst ko
    simp [h.B6] at hv
    subst hv
    exact NX
  ·rcases eA.1 hC with hC|hC
   ·exact h.jt C hC
   ·simp at hC;subst hC;exact hc4
  ·rw [iu (by rw [h.len];omega)] at hx
   exact h.zero v x hv hx
  ·rcases eA.1 hx with hx|hx
   ·exact h.pos x hx
   ·simp at hx;omega
  ·by_cases hi:i < gs.length
   ·rw [iu (by rw [h.ni];omega)] at js
    rw [iu (by rw [h.len];omega),h.gR i l' js,GU λx hx=>?_]
    rw [h.len]
    have pk:=eB hi
    have:=h.lf i l' _ js pk
    split at this
    ·subst this;have:=G0.ops pk x hx;omega
    ·have:=this.2.2.1 x hx;omega
   ·have dP:i=gs.length:=by
     have:=(bq.1 js).1
     simp [h.ni] at this;omega
    subst dP
    have e1:(s.leaves++[l])[2+I+gs.length]?=some l:=by rw [<-h.ni];simp
    have e2:(s.labels++[1+bY s.labels l])[2+I+gs.length]?=some (1+bY s.labels l):=by rw [<-h.len];simp
    simp only at js ⊢
    rw [e1] at js
    cases js
    rw [e2,GU λx hx=>by rw [h.len];have:=hl x hx;omega]
  ·by_cases hi:i < gs.length
   ·rw [iu (by rw [h.ni];omega)] at js
    rw [iu hi] at kG
    have e8:∀o∈cI g',o < 2+(I:Int)+gs.length:=λo ho=>by have:=G0.ops kG o ho;omega
    have:=h.lf i l' g' js kG
    split at this
    ·rename_i h7;rw [if_pos h7];exact this
    ·rename_i h7
     rw [if_neg h7]
     obtain ⟨a1,a2,a3,a4,a5,a6⟩:=this
     refine ⟨a1,a2,a3,(lC.same G e8).1 a4,λS hS hq=>a5 S hS ((lC.same G e8).2 hq),λS hS hq=>?_⟩
     rw [GU λx hx=>by rw [h.len];have:=a3 x hx;omega]
     exact wY (a6 S hS ((lC.same G e8).2 hq)) (Rq hy S)
   ·have dP:i=gs.length:=by
     have:=(bq.1 kG).1
     simp at this;omega
    subst dP
    rw [hg] at kG;cases kG
    have e1:(s.leaves++[l])[2+I+gs.length]?=some l:=by rw [<-h.ni];simp
    simp only at js
    rw [e1] at js
    cases js
    split at bV
    ·rename_i h7;rw [if_pos h7];exact bV
    ·rename_i h7
     rw [if_neg h7]
     obtain ⟨a1,a2,a3,a4,a5,a6⟩:=bV
     refine ⟨a1,a2,a3,a4,a5,λS hS hq=>?_⟩
     rw [GU λx hx=>by rw [h.len];have:=a3 x hx;omega]
     exact wY (a6 S hS hq) (Rq hy S)
 have jq:((s.labels.length:Nat):Int)=2+(I:Int)+gs.length:=by rw [h.len];omega
 have CG:(((2+I+gs.length:Nat)):Int)=2+(I:Int)+gs.length:=by omega
 unfold rN at e
 split at e
 ·rename_i h7
  cases e
  refine key _ _ rfl ⟨⟨by simp,by simp,λc hc x hx=>?_,λc hc=>?_,λS _ hS=>⟨_,qD.2 rfl,?_⟩,by simp⟩,by simp⟩ (by simp) zX (by rw [if_pos h7])
  ·simp only [qD] at hc;subst hc;simp only [qD] at hx;omega
  ·simp only [qD] at hc;subst hc;rw [CG,<-jq];exact .mem (by simp)
  ·rw [pN]
   intro x hx
   simp only [qD] at hx
   subst hx
   rw [jq]
   rw [CG] at hS
   by_cases hm:2+(I:Int)+gs.length∈S
   ·exact hm
   ·exact absurd h7 (hS.inv hg hm).1
 ·rename_i h7
  have hM:=LU G0 h (m:=2+I+gs.length) (fP _) (l:=cI g) λo ho=>by have:=zX o ho;omega
  have hMq:∀S,lC I gs (cI g) S↔lC I (gs++[g]) (cI g) S:=λS=>lC.same G aQ
  have hM:=hM.up (nL _) hMq
  cases hm:nO s.e6 (cI g) with
  | nil=>rw [hm] at e;cases e
  | cons x r =>
   rw [hm] at e hM
   simp only at e
   split at e
   ·cases e
   ·rename_i aq9
    cases e
    have fL:=DE (f:=bY s.labels) (r:=r) (m:=x)
    have B7:=hM.lim _ fL
    have kG:∀S,gC I (gs++[g]) S (2+I+gs.length:Nat)->¬S (2+(I:Int)+gs.length)->lC I (gs++[g]) (cI g) S:=λS hS hn=>by
     rw [CG] at hS
     exact (hS.inv hg hn).2
    refine key _ _ rfl ⟨?_,?_⟩ (by omega) (λy hy=>by have:=B7 y hy;omega) (by
     rw [if_neg h7]
     refine ⟨hM.inc _ fL,hM.len _ fL,λy hy=>by have:=B7 y hy;omega,hM.cut _ fL,λS hS hq EI=>?_,λS hS hq=>?_⟩
     ·obtain ⟨c,hc,fM⟩:=hM.all S hS hq
      have jX:=KY fM EI
      by_cases nt:c=iN (bY s.labels) x r
      ·rw [<-nt];exact fM
      ·have:=aes hM.vY hc fL nt
       rw [jX] at this;cases this
     ·obtain ⟨c,hc,fM⟩:=hM.all S hS hq
      exact wY (TO c hc) (abG fM))
    ·rw [SJ]
     split
     ·rename_i h0
      have hr:=adl hM.vY rfl h0
      subst hr
      have hx:x=[]:=gL h0
      subst hx
      refine ⟨by simp,by simp,by simp,λc hc=>?_,λS _ _=>⟨[],by simp,by simp [dt]⟩,by simp⟩
      simp at hc;subst hc
      rw [CG]
      exact .gate hg h7 (hM.cut [] (by simp))
     ·rename_i h0
      refine ⟨λc hc=>?_,λc hc=>?_,λc hc y hy=>?_,λc hc=>?_,λS hS hq=>?_,?_⟩
      ·rcases cj.1 hc with rfl|hc
       ·simp
       ·exact hM.inc c hc
      ·rcases cj.1 hc with rfl|hc
       ·simp
       ·exact hM.len c hc
      ·rcases cj.1 hc with rfl|hc
       ·simp only [qD] at hy;omega
       ·have:=hM.lim c hc y hy;omega
      ·rcases cj.1 hc with rfl|hc
       ·rw [CG,<-jq];exact .mem (by simp)
       ·rw [CG];exact .gate hg h7 (hM.cut c hc)
      ·by_cases hm:2+(I:Int)+gs.length∈S
       ·exact ⟨_,Lk,by rw [pN];intro y hy;simp only [qD] at hy;subst hy;rw [jq];exact hm⟩
       ·obtain ⟨c,hc,fM⟩:=hM.all S hS (kG _ hq hm)
        exact ⟨c,rD _ hc,fM⟩
      ·refine eS.2 ⟨λc hc=>?_,hM.vY⟩
       have jX:=hM.lim c hc
       refine ⟨?_,?_⟩
       ·cases hq:dt [(s.labels.length:Int)] c with
        | false=>rfl
        | true=>have:=jX _ (pN.1 hq (s.labels.length:Int) (by simp));omega
       ·cases hq:dt c [(s.labels.length:Int)] with
        | false=>rfl
        | true =>
         cases c with
         | nil =>
          have:=aca hm ((wX _).mem_iff.1 (show []∈n7 _ by show []∈nO s.e6 (cI g);rw [hm];exact hc))
          simp at this;exact absurd (by rw [this];rfl) h0
         | cons y c =>
          have h1:=pN.1 hq y (by simp)
          have h2:=jX y (by simp)
          simp at h1;omega
    ·rw [SJ];split<;>simp
where
 aes {L:List (List Int)} (h:IY L) {a b:List Int} (ha:a∈L) (hb:b∈L) (bM:a≠b):dt a b=false:=by
  induction L with
  | nil=>cases ha
  | cons x r ih =>
   have h':=eS.1 h
   rcases cj.1 ha with e|Zm
   ·rcases cj.1 hb with e'|gz
    ·exact absurd (e.trans e'.symm) bM
    ·rw [e];exact (h'.1 b gz).1
   ·rcases cj.1 hb with e'|gz
    ·rw [e'];exact (h'.1 a Zm).2
    ·exact ih h'.2 Zm gz
theorem acd {I:Nat} {gs:List Gate} {g:Gate} (G:cv I (gs++[g])) {s:dJ} (h:ly I gs s):nO s.e6 (cI g)≠[]:=by
 have zX:=G.ops (i:=gs.length) (g:=g) (by simp)
 have hM:=LU G.left h (m:=2+I+gs.length) (fP _) (l:=cI g) λo ho=>by have:=zX o ho;omega
 obtain ⟨c,hc,_⟩:=hM.all (cI g) (by have:=(y6 g).2;omega) λo ho=>.mem ho
 exact List.ne_nil_of_mem hc
theorem Bu {I:Nat}:∀(n:Nat) {gs:List Gate} {s:dJ},gs.length=n->cv I gs->iF I gs=some s->ly I gs s
 | 0,gs,s,hn,_,h=>by
  have:=gL hn
  subst this
  simp [iF] at h;subst h;exact acb I
 | n+1,gs,s,hn,G,h=>by
  have bM:gs≠[]:=λe=>by rw [e] at hn;simp at hn
  have e:=List.dropLast_concat_getLast bM
  rw [<-e] at G h ⊢
  rw [DV] at h
  cases h1:iF I gs.dropLast with
  | none=>rw [h1] at h;cases h
  | some s0=>rw [h1] at h;exact aer G (Bu n (by simp [hn]) G.left h1) h
def vT (nd:List Bool) (l:List Int):List Bool:=l.foldl (λnd x=>nd.set x.toNat true) nd
def vU (nx:Nat->List Int):Nat->List Bool->List Bool
 | 0,nd=>nd
 | v+1,nd=>vU nx v (if nd.getD v false then vT nd (nx v) else nd)
inductive l4 (nx:Nat->List Int) (S:Nat->Prop):Nat->Prop
 | base {v:Nat}:S v->l4 nx S v
 | step {u:Nat} {x:Int}:l4 nx S u->x∈nx u->l4 nx S x.toNat
theorem l4.mono {nx:Nat->List Int} {S T:Nat->Prop} (h:∀v,S v->l4 nx T v) {v:Nat} (k:l4 nx S v):l4 nx T v:=by
 induction k with
 | base h1=>exact h _ h1
 | step _ h2 ih=>exact .step ih h2
theorem Hp:∀(l:List Int) (nd:List Bool),(vT nd l).length=nd.length
 | [],nd=>rfl
 | x :: r,nd=>by unfold vT;rw [mj];exact (Hp r _).trans (by simp)
theorem xa:∀{l:List Int} {nd:List Bool} {v:Nat},(vT nd l)[v]?=some true↔nd[v]?=some true\/v < nd.length/\∃x∈l,x.toNat=v
 | [],nd,v=>by simp [vT]
 | x :: r,nd,v=>by
  unfold vT
  rw [mj]
  have h:=xa (l:=r) (nd:=nd.set x.toNat true) (v:=v)
  unfold vT at h
  rw [h,jN,y4]
  by_cases e:x.toNat=v
  ·subst e
   by_cases hl:x.toNat < nd.length
   ·simp [hl]
   ·simp [hl]
  ·simp only [e,if_false,cj]
   constructor
   ·rintro (h|⟨h,y,hy,he⟩)
    ·exact .inl h
    ·exact .inr ⟨h,y,.inr hy,he⟩
   ·rintro (h|⟨h,y,hy|hy,he⟩)
    ·exact .inl h
    ·subst hy;exact absurd he e
    ·exact .inr ⟨h,y,hy,he⟩
theorem DF {nd:List Bool} {v:Nat}:nd.getD v false=true↔nd[v]?=some true:=by
 rw [List.getD_eq_getElem?_getD]
 cases nd[v]? with
 | none=>simp
 | some b=>simp
theorem LW {nx:Nat->List Int} (hx:∀(v:Nat) (x:Int),x∈nx v->0<=x/\x < v):∀(n:Nat) {nd:List Bool} {v:Nat},(∀u,n<=u->nd[u]?=some true->∀x∈nx u,nd[x.toNat]?=some true) ->
  ((vU nx n nd)[v]?=some true↔v < nd.length/\l4 nx (λu=>nd[u]?=some true) v)
 | 0,nd,v,hc=>by
  show nd[v]?=some true↔_
  refine ⟨λh=>⟨(bq.1 h).1,.base h⟩,λhh=>?_⟩
  have h:=hh.2
  clear hx hh
  induction h with
  | base h=>exact h
  | step h1 h2 ih=>exact hc _ (cK _) (ih) _ h2
 | n+1,nd,v,hc=>by
  unfold vU
  rw [LW hx n (λu hu hm x JL=>?_)]
  ·split
   ·rename_i hn
    have hn:=DF.1 hn
    rw [Hp]
    refine and_congr_right λhv=>⟨λh=>h.mono λu hu=>?_,λh=>h.mono λu hu=>.base (xa.2 (.inl hu))⟩
    rcases xa.1 hu with hu|⟨_,x,hx,rfl⟩
    ·exact .base hu
    ·exact .step (.base hn) hx
   ·exact vu
  ·by_cases jr:u=n
   ·subst jr
    split at hm
    ·rename_i hn
     rw [if_pos hn]
     have:=hx u x JL
     refine xa.2 (.inr ⟨?_,x,JL,rfl⟩)
     have:=(bq.1 (DF.1 hn)).1
     omega
    ·rename_i hn
     exact absurd (DF.2 hm) hn
   ·split at hm
    ·rename_i hn
     rw [if_pos hn]
     have ara:n < u:=by omega
     rcases xa.1 hm with hm|⟨_,y,hy,he⟩
     ·exact xa.2 (.inl (hc u (by omega) hm x JL))
     ·have:=hx n y hy;omega
    ·rename_i hn
     rw [if_neg hn]
     exact hc u (by omega) hm x JL
def fV (I:Nat) (gs:List Gate) (v:Nat):Option Gate:=if v < 2+I then none else gs[v - 2 - I]?
def pw (I:Nat) (gs:List Gate) (S:List Int) (v:Nat):List Int:=if S.contains (v:Int) then [] else match fV I gs v with
 | some g=>if g.op=7 then [] else cI g
 | none=>[]
def oI (I:Nat) (gs:List Gate) (S:List Int) (v:Nat):Bool:=S.contains (v:Int)||decide (v < 2)||match fV I gs v with
 | some g=>decide (g.op≠7)
 | none=>false
def rO (I:Nat) (gs:List Gate) (root:Nat) (S:List Int):List Bool:=vU (pw I gs S) (root+1) ((List.replicate (root+1) false).set root true)
def nP (N root:Int) (S:List Int):Bool:=decide (2<=root/\root < N)&&decide (S.length<=4)&&S.all (λl=>decide (2<=l/\l<=root))&&decide (fY S)
def gV (I:Nat) (gs:List Gate) (root:Int) (S:List Int):Option (List Int) :=
 if nP (2+I+gs.length) root S then
  let R:=rO I gs root.toNat S
  if (List.range (root.toNat+1)).all (λv=>!R.getD v false||oI I gs S v)&&S.all (λx=>R.getD x.toNat false) then
   some (((List.range (root.toNat+1)).filter λv=>R.getD v false&&!S.contains (v:Int)&&decide (2<=v)).map λv:Nat=>(v:Int))
  else none
 else none
abbrev gy (I:Nat) (gs:List Gate) (S:List Int) (root v:Nat):Prop:=l4 (pw I gs S) (λu=>u=root) v
theorem pH {I:Nat} {gs:List Gate} {v:Nat} {g:Gate}:fV I gs v=some g↔∃i,v=2+I+i/\gs[i]?=some g:=by
 unfold fV
 split
 ·simp;intro i hi;omega
 ·constructor
  ·intro h;exact ⟨v - 2 - I,by omega,h⟩
  ·rintro ⟨i,rfl,h⟩
   rw [show 2+I+i - 2 - I=i by omega];exact h
theorem qH {I:Nat} {gs:List Gate} {S:List Int} {v:Nat} {x:Int}:x∈pw I gs S v↔(v:Int)∉S/\∃g,fV I gs v=some g/\g.op≠7/\x∈cI g:=by
 unfold pw
 split
 ·rename_i h;simp at h;simp [h]
 ·rename_i h
  simp at h
  cases hg:fV I gs v with
  | none=>simp
  | some g =>
   simp only
   split
   ·rename_i h7;simp [h7]
   ·rename_i h7;simp [h7,h]
theorem Ei {I:Nat} {gs:List Gate} (G:cv I gs) {S:List Int} {v:Nat} {x:Int} (h:x∈pw I gs S v):0<=x/\x < v:=by
 obtain ⟨_,g,hg,_,hx⟩:=qH.1 h
 obtain ⟨i,rfl,pk⟩:=pH.1 hg
 have:=G.ops pk x hx
 omega
theorem gy.le {I:Nat} {gs:List Gate} (G:cv I gs) {S:List Int} {root v:Nat} (h:gy I gs S root v):v<=root:=by
 induction h with
 | base h=>omega
 | step _ h2 ih=>have:=Ei G h2;omega
theorem sW {I:Nat} {gs:List Gate} (G:cv I gs) {S:List Int} {root v:Nat}:(rO I gs root S).getD v false=true↔gy I gs S root v:=by
 rw [DF]
 unfold rO
 have hs:∀u,((List.replicate (root+1) false).set root true)[u]?=some true↔u=root:=λu=>by
  rw [jN]
  by_cases e:root=u
  ·subst e;simp
  ·simp [e,ua];omega
 rw [LW (λv x=>Ei G) _ λu hu hm=>by have:=(hs u).1 hm;omega]
 constructor
 ·rintro ⟨_,h⟩;exact h.mono λu hu=>.base ((hs u).1 hu)
 ·intro h
  exact ⟨by have:=gy.le G h;simp;omega,h.mono λu hu=>.base ((hs u).2 hu)⟩
theorem yV {I:Nat} {gs:List Gate} {S:List Int} {v:Nat}:oI I gs S v=true↔(v:Int)∈S\/v < 2\/∃g,fV I gs v=some g/\g.op≠7:=by
 unfold oI
 cases fV I gs v<;>simp [or_assoc]
theorem SK {I:Nat} {gs:List Gate} (G:cv I gs) {S:List Int}:∀(n root:Nat),root < n->(gC I gs (·∈S) root↔∀v,gy I gs S root v->oI I gs S v=true)
 | 0,_,h=>by omega
 | n+1,root,hn=>by
  constructor
  ·intro h v hv
   generalize hr:(root:Int)=r at h
   have main:∀(r:Int),gC I gs (·∈S) r->∀root:Nat,(root:Int)=r->∀v,gy I gs S root v->oI I gs S v=true:=by
    intro r h
    induction h with
    | mem h1 =>
     rintro root rfl v hv
     have:v=root:=by
      induction hv with
      | base h=>exact h
      | step _ h2 ih=>rw [ih] at h2;exact absurd h1 (qH.1 h2).1
     subst this
     exact yV.2 (.inl h1)
    | const h1 h2 =>
     rintro root rfl v hv
     have:=gy.le G hv
     exact yV.2 (.inr (.inl (by omega)))
    | @gate i g h1 h2 h3 ih =>
     intro root hr v hv
     have agW:root=2+I+i:=by omega
     subst agW
     have Ar:fV I gs (2+I+i)=some g:=pH.2 ⟨i,rfl,h1⟩
     have:v=2+I+i\/∃o∈cI g,gy I gs S o.toNat v:=by
      induction hv with
      | base h=>exact .inl h
      | step _ hx ihx =>
       rcases ihx with rfl|⟨o,ho,hr⟩
       ·obtain ⟨_,g',kG,_,lF⟩:=qH.1 hx
        rw [Ar] at kG;cases kG
        exact .inr ⟨_,lF,.base rfl⟩
       ·exact .inr ⟨o,ho,.step hr hx⟩
     rcases this with rfl|⟨o,ho,hr⟩
     ·exact yV.2 (.inr (.inr ⟨g,Ar,h2⟩))
     ·exact ih o ho o.toNat (by have:=G.ops h1 o ho;omega) v hr
   exact main r h root hr v hv
  ·intro h
   rcases yV.1 (h root (.base rfl)) with h1|h1|⟨g,hg,h7⟩
   ·exact .mem h1
   ·exact .const (by omega) (by omega)
   ·by_cases hm:(root:Int)∈S
    ·exact .mem hm
    ·obtain ⟨i,rfl,pk⟩:=pH.1 hg
     have:((2+I+i:Nat):Int)=2+(I:Int)+i:=by omega
     rw [this]
     refine .gate pk h7 λo ho=>?_
     have hb:=G.ops pk o ho
     have fS:o∈pw I gs S (2+I+i):=qH.2 ⟨hm,g,hg,h7,ho⟩
     rw [<-Int.toNat_of_nonneg hb.1]
     exact (SK G n o.toNat (by omega)).2 λv hv=>h v (hv.mono λu hu=>by subst hu;exact .step (.base rfl) fS)
structure Ej (N root:Int) (S:List Int):Prop where
 lo:2<=root
 hi:root < N
 len:S.length<=4
 mem:∀l∈S,2<=l/\l<=root
 inc:fY S
theorem yM {N root:Int} {S:List Int}:nP N root S=true↔Ej N root S:=by
 unfold nP
 simp only [cf,decide_eq_true_eq,gK]
 exact ⟨λ⟨⟨⟨h1,h2⟩,h3⟩,h4⟩=>⟨h1.1,h1.2,h2,h3,h4⟩,λh=>⟨⟨⟨⟨h.lo,h.hi⟩,h.len⟩,h.mem⟩,h.inc⟩⟩
theorem RT {I:Nat} {gs:List Gate} (G:cv I gs) {root:Int} {S:List Int}:(gV I gs root S).isSome=true↔Ej (2+I+gs.length) root S/\gC I gs (·∈S) root/\∀x∈S,gy I gs S root.toNat x.toNat:=by
 unfold gV
 split
 ·rename_i hl
  have hL:=yM.1 hl
  have hr:((root.toNat:Nat):Int)=root:=Int.toNat_of_nonneg (by have:=hL.lo;omega)
  have h1:(List.range (root.toNat+1)).all (λv=>!(rO I gs root.toNat S).getD v false||oI I gs S v)=true↔gC I gs (·∈S) root:=by
   rw [<-hr,SK G (root.toNat+1) root.toNat (Lq _),hr,gK]
   constructor
   ·intro h v hv
    have:=h v (lR.2 (by have:=gy.le G hv;omega))
    rw [sW G |>.2 hv] at this
    simpa using this
   ·intro h v _
    cases hq:(rO I gs root.toNat S).getD v false with
    | false=>simp
    | true=>simp [h v ((sW G).1 hq)]
  have h2:S.all (λx=>(rO I gs root.toNat S).getD x.toNat false)=true↔∀x∈S,gy I gs S root.toNat x.toNat:=by
   rw [gK]
   exact ⟨λh x hx=>(sW G).1 (h x hx),λh x hx=>(sW G).2 (h x hx)⟩
  simp only
  rw [<-h1,<-h2]
  split
  ·rename_i h;simp only [cf] at h;exact ⟨λ_=>⟨hL,h⟩,λ_=>rfl⟩
  ·rename_i h;simp only [cf] at h;exact ⟨λh'=>(by cases h'),λh'=>absurd h'.2 h⟩
 ·rename_i hl
  have:¬Ej (2+I+gs.length) root S:=λh=>hl (yM.2 h)
  simp [this]
theorem DG {I:Nat} {gs:List Gate} (G:cv I gs) {root:Int} {S l:List Int} (h:gV I gs root S=some l):fY l/\∀v:Int,v∈l↔2<=v/\gy I gs S root.toNat v.toNat/\v∉S:=by
 unfold gV at h
 split at h
 ·simp only at h
  split at h
  ·cases h
   refine ⟨?_,λv=>?_⟩
   ·unfold fY
    rw [pM]
    exact (Bi.filter _).imp λh=>by omega
   ·rw [jO]
    constructor
    ·rintro ⟨u,hu,rfl⟩
     obtain ⟨h1,h2⟩:=k9.1 hu
     simp only [cf,nK,decide_eq_true_eq] at h2
     refine ⟨by omega,(sW G).1 h2.1.1,?_⟩
     simpa using h2.1.2
    ·rintro ⟨h1,h2,h3⟩
     have e:((v.toNat:Nat):Int)=v:=Int.toNat_of_nonneg (by omega)
     refine ⟨v.toNat,k9.2 ⟨lR.2 (by have:=gy.le (root:=root.toNat) (v:=v.toNat) G h2;omega),?_⟩,e⟩
     simp only [cf,nK,decide_eq_true_eq]
     exact ⟨⟨(sW G).2 h2,by rw [e];simpa using h3⟩,by omega⟩
  ·cases h
 ·cases h
def uu (j:Nat):Int:=([0xaaaa,0xcccc,0xf0f0,0xff00]:List Int).getD j 0
def tB (a b:Int):Int:=fC .and .i64 a b
def As (a b:Int):Int:=fC .or .i64 a b
def B8 (a b:Int):Int:=fC .xor .i64 a b
def combineM (op a b c:Int):Int:=if op=1 then B8 (-1) a else if op=2 then tB a b else if op=3 then As a b else if op=4 then B8 a b else
 if op=5 then As (tB a b) (tB (B8 (-1) a) c) else As (As (tB a b) (tB a c)) (tB b c)
def zD (I:Nat) (gs:List Gate) (S:List Int) (f:Nat->Int) (v:Nat):Int:=match S.findIdx? (λx=>decide (x=(v:Int))) with
 | some j=>uu j
 | none=>if v=1 then -1 else match fV I gs v with
  | some g=>combineM g.op (f g.a.toNat) (f g.b.toNat) (f g.c.toNat)
  | none=>0
def rV (I:Nat) (gs:List Gate) (S:List Int):Nat->List Int
 | 0=>[]
 | n+1=>let L:=rV I gs S n;L++[zD I gs S (λu=>L.getD u 0) n]
def kC (I:Nat) (gs:List Gate) (S:List Int) (v:Nat):Int:=(rV I gs S (v+1)).getD v 0
theorem Hq (I:Nat) (gs:List Gate) (S:List Int):∀n,(rV I gs S n).length=n
 | 0=>rfl
 | n+1=>by show (rV I gs S n++[_]).length=_;rw [fJ,Hq I gs S n];rfl
theorem Hu {I:Nat} {gs:List Gate} {S:List Int}:∀{n v:Nat},v < n->(rV I gs S n).getD v 0=kC I gs S v
 | 0,v,h=>by omega
 | n+1,v,h=>by
  by_cases e:v=n
  ·subst e;rfl
  ·rw [<-Hu (n:=n) (show v < n by omega)]
   show (rV I gs S n++[_]).getD v 0=_
   rw [List.getD_eq_getElem?_getD,iu (by rw [Hq];omega),<-List.getD_eq_getElem?_getD]
theorem HD (I:Nat) (gs:List Gate) (S:List Int) (v:Nat):kC I gs S v=zD I gs S (λu=>(rV I gs S v).getD u 0) v:=by
 show (rV I gs S v++[_]).getD v 0=_
 rw [List.getD_eq_getElem?_getD,pI (by rw [Hq];omega),Hq,yT]
 rfl
theorem ace {I:Nat} {gs:List Gate} (G:cv I gs) {S:List Int} {v:Nat} (hS:(v:Int)∉S) {g:Gate} (hg:fV I gs v=some g) :
  kC I gs S v=combineM g.op (kC I gs S g.a.toNat) (kC I gs S g.b.toNat) (kC I gs S g.c.toNat):=by
 obtain ⟨i,rfl,pk⟩:=pH.1 hg
 have k:=G.bU i g pk
 have h1:S.findIdx? (λx=>decide (x=((2+I+i:Nat):Int)))=none:=by
  rw [Bg]
  intro x hx
  simp only [decide_eq_false_iff_not]
  rintro rfl
  exact hS hx
 rw [HD]
 unfold zD
 rw [h1]
 simp only [hg]
 rw [if_neg (by omega),Hu (by have:=k.a;omega),Hu (by have:=k.b;omega),Hu (by have:=k.c;omega)]
def zn (I:Nat) (gs:List Gate) (root:Int) (S:List Int):Int:=tB (kC I gs S root.toNat) (2^(2^S.length) - 1)
def qN (I:Nat) (gs:List Gate) (root:Int) (S:List Int):Int × Int:=match gV I gs root S with
 | none=>(0,250)
 | some _=>(zn I gs root S,0)
def mw (sig:Int->Option Int):List Int->List Int × Bool
 | []=>([],true)
 | l :: r=>match sig l with
  | none=>([],false)
  | some s=>(s :: (mw sig r).1,(mw sig r).2)
theorem GV {sig:Int->Option Int}:∀{l:List Int},(∀x∈l,∃s,sig x=some s)->mw sig l=(l.map λx=>(sig x).getD 0,true)
 | [],_=>rfl
 | x :: r,h=>by
  obtain ⟨s,hs⟩:=h x (by simp)
  simp only [mw,hs,GV (l:=r) λy hy=>h y (by simp [hy]),il,rE]
theorem KL {sig:Int->Option Int}:∀{l:List Int},(mw sig l).2=true->∀x∈l,∃s,sig x=some s
 | [],_=>by simp
 | y :: r,h=>by
  intro x hx
  simp only [mw] at h
  cases hs:sig y with
  | none=>rw [hs] at h;cases h
  | some s =>
   rw [hs] at h
   rcases cj.1 hx with rfl|hx
   ·exact ⟨s,hs⟩
   ·exact KL h x hx
def cellOf (I:Nat) (gs:List Gate) (root:Int) (S:List Int) (sig:Int->Option Int):Cell × Int :=
 if (
   mw sig S).2 then match fV I gs root.toNat with
  | some g=>if g.op=7 then (⟨(mw sig S).1,0,g.n⟩,if S=cI g then 0 else 260)
   else if S=[root] then (⟨(mw sig S).1,0,-1⟩,260)
   else (⟨(mw sig S).1,(qN I gs root S).1,-1⟩,if (qN I gs root S).2=0 then 0 else 260)
  | none=>(⟨(mw sig S).1,0,-1⟩,260)
 else (⟨(mw sig S).1,0,-1⟩,260)
def fD (I:Nat) (roots:List Int) (v:Int):Option Int:=if 0<=v/\v < 2+I then some v else (roots.findIdx? λx=>decide (x=v)).map λi:Nat=>2+(I:Int)+i
structure kp where
 root:List Int
 leaves:List (List Int)
def iM (s:dJ) (v:Int):List Int:=s.leaves.getD v.toNat []
def gk (I:Nat) (s:dJ) (bf:List Int):List Int :=
 let N:=s.leaves.length
 let nd:=vU (λv=>if v < 2+I then [] else s.leaves.getD v []) N (vT (List.replicate N false) bf)
 ((List.range N).filter λv=>nd.getD v false&&decide (2+I<=v)).map λv:Nat=>(v:Int)
def lq (I:Nat) (gs:List Gate) (s:dJ) (bf:List Int):ec × kp :=
 let R:=gk I s bf
 let sig:=fD I R
 (⟨I,R.map λr=>(cellOf I gs r (iM s r) sig).1,bf.map λv=>(sig v).getD 0⟩,⟨R,R.map (iM s)⟩)
def mapM (I:Nat) (gs:List Gate) (bf:List Int):ec × kp × Int:=match iF I gs with
 | none=>(⟨0,[],[]⟩,⟨[],[]⟩,2)
 | some s=>((lq I gs s bf).1,(lq I gs s bf).2,0)
def BB (x y:Cell):Bool:=decide (x.table=y.table)&&decide (x.ej=y.ej)&&decide (x.ins=y.ins)
def mq (I:Nat) (gs:List Gate) (sig:Int->Option Int):List Cell->List Int->List (List Int)->Bool
 | x :: cs,r :: rs,l :: ls=>decide ((cellOf I gs r l sig).2=0)&&BB x (cellOf I gs r l sig).1&&mq I gs sig cs rs ls
 | _,_,_=>true
def mr (N:Int):Int->List Int->Bool
 | _,[]=>true
 | last,r :: rs=>decide (last < r/\r < N)&&mr N r rs
def nQ (sig:Int->Option Int):List Int->List Int->Bool
 | v :: vs,s :: ss=>decide (sig v=some s)&&nQ sig vs ss
 | _,_=>true
def BC (I:Nat) (gs:List Gate) (bf:List Int) (m:ec) (c:kp):Bool :=
 (decide (m.n=I)&&decide (c.root.length=m.cells.length)&&decide (c.leaves.length=m.cells.length)&&decide (m.bf.length=bf.length)) &&
  (mr (2+I+gs.length) (1+I) c.root&&(mq I gs (fD I c.root) m.cells c.root c.leaves&&nQ (fD I c.root) bf m.bf))
abbrev iA (I:Nat) (s:dJ) (v:Nat):List Int:=if v < 2+I then [] else s.leaves.getD v []
theorem HV {I:Nat} {gs:List Gate} (G:cv I gs) {s:dJ} (h:ly I gs s) (v:Nat) (x:Int) (hx:x∈iA I s v):0<=x/\x < v:=by
 unfold iA at hx
 split at hx
 ·cases hx
 ·cases hq:s.leaves[v]? with
  | none=>rw [List.getD_eq_getElem?_getD,hq] at hx;cases hx
  | some l =>
   rw [List.getD_eq_getElem?_getD,hq,rE] at hx
   have jq:=(bq.1 hq).1
   rw [h.ni] at jq
   have e:2+I+(v - 2 - I)=v:=by omega
   have hg:=eB (l:=gs) (i:=v - 2 - I) (by omega)
   have:=h.lf (v - 2 - I) l _ (by rw [e];exact hq) hg
   split at this
   ·subst this;have:=G.ops hg x hx;omega
   ·have:=this.2.2.1 x hx;omega
theorem GW {I:Nat} {gs:List Gate} (G:cv I gs) {s:dJ} (h:ly I gs s) {bf:List Int} (hd:∀d∈bf,0<=d/\d < 2+I+gs.length) (v:Nat) :
  (v:Int)∈gk I s bf↔2+I<=v/\v < 2+I+gs.length/\l4 (iA I s) (λu=>∃d∈bf,d.toNat=u) v:=by
 have bV:=HV G h
 unfold gk
 simp only [jO]
 have h1:(vU (iA I s) s.leaves.length (vT (List.replicate s.leaves.length false) bf)).getD v false=true↔v < 2+I+gs.length/\l4 (iA I s) (λu=>∃d∈bf,d.toNat=u) v:=by
  rw [DF,LW bV _ λu hu hm=>by have:=(bq.1 hm).1;rw [Hp] at this;simp at this;omega]
  rw [Hp,yX,h.ni]
  refine and_congr_right λ_=>⟨λk=>k.mono λu hu=>?_,λk=>k.mono λu hu=>?_⟩
  ·rcases xa.1 hu with hu|⟨_,hu⟩
   ·simp [ua] at hu
   ·exact .base hu
  ·obtain ⟨d,l5,rfl⟩:=hu
   refine .base (xa.2 (.inr ⟨?_,d,l5,rfl⟩))
   have:=hd d l5
   simp;omega
 constructor
 ·rintro ⟨u,hu,e⟩
  have:u=v:=by omega
  subst this
  obtain ⟨_,hu⟩:=k9.1 hu
  simp only [cf,decide_eq_true_eq] at hu
  exact ⟨hu.2,h1.1 hu.1⟩
 ·rintro ⟨a,b⟩
  refine ⟨v,k9.2 ⟨lR.2 (by rw [h.ni];exact b.1),?_⟩,rfl⟩
  simp only [cf,decide_eq_true_eq]
  exact ⟨h1.2 b,a⟩
theorem GX (I:Nat) (s:dJ) (bf:List Int):fY (gk I s bf):=by
 unfold gk fY
 rw [pM]
 exact (Bi.filter _).imp λh=>by omega
theorem AZ {I:Nat} {s:dJ} {bf:List Int} {r:Int} (hr:r∈gk I s bf):((r.toNat:Nat):Int)=r:=by
 unfold gk at hr
 obtain ⟨u,_,rfl⟩:=jO.1 hr
 rfl
theorem KM {I:Nat} {gs:List Gate} (G:cv I gs) {s:dJ} (h:ly I gs s) {bf:List Int} (hd:∀d∈bf,0<=d/\d < 2+I+gs.length) :
  fY (gk I s bf)/\(∀r∈gk I s bf,2+(I:Int)<=r/\r < 2+I+gs.length)/\(∀d∈bf,2+(I:Int)<=d->d∈gk I s bf) /\
   (∀r∈gk I s bf,∀x∈iM s r,2+(I:Int)<=x->x∈gk I s bf)/\∀r∈gk I s bf,r∈bf\/∃u∈gk I s bf,r∈iM s u:=by
 have bV:=HV G h
 have hm:=GW G h hd
 have nat:∀r∈gk I s bf,((r.toNat:Nat):Int)=r:=λr hr=>AZ hr
 refine ⟨GX I s bf,λr hr=>?_,λd l5 h2=>?_,λr hr x hx h2=>?_,λr hr=>?_⟩
 ·have e:=nat r hr
  rw [<-e] at hr
  have:=(hm _).1 hr
  omega
 ·have hb:=hd d l5
  have e:((d.toNat:Nat):Int)=d:=Int.toNat_of_nonneg hb.1
  rw [<-e]
  exact (hm _).2 ⟨by omega,by omega,.base ⟨d,l5,rfl⟩⟩
 ·have e:=nat r hr
  rw [<-e] at hr
  have k:=(hm _).1 hr
  have lF:x∈iA I s r.toNat:=by unfold iA;rw [if_neg (by omega)];exact hx
  have:=bV _ x lF
  have e':((x.toNat:Nat):Int)=x:=Int.toNat_of_nonneg this.1
  rw [<-e']
  exact (hm _).2 ⟨by omega,by omega,.step k.2.2 lF⟩
 ·have e:=nat r hr
  rw [<-e] at hr
  obtain ⟨k1,k2,k3⟩:=(hm _).1 hr
  generalize hq:r.toNat=q at *
  cases k3 with
  | base hb =>
   obtain ⟨d,l5,he⟩:=hb
   have:=hd d l5
   left
   rw [show r=d by omega]
   exact l5
  | step hu hx =>
   rename_i u x
   right
   have lF:=bV _ _ hx
   unfold iA at hx
   split at hx
   ·cases hx
   ·rename_i X4
    refine ⟨(u:Int),(hm u).2 ⟨by omega,?_,hu⟩,?_⟩
    ·cases hq:s.leaves[u]? with
     | none=>rw [List.getD_eq_getElem?_getD,hq] at hx;cases hx
     | some l=>have:=(bq.1 hq).1;rw [h.ni] at this;exact this
    ·unfold iM
     rw [show r=x by omega]
     simpa using hx
theorem RU {N:Int}:∀{last:Int} {R:List Int},fY R->(∀r∈R,last < r/\r < N)->mr N last R=true
 | _,[],_,_=>rfl
 | last,r :: rs,h,k=>by
  have h':=eS.1 h
  simp only [mr,cf,decide_eq_true_eq]
  exact ⟨k r (by simp),RU h'.2 λx hx=>⟨h'.1 x hx,(k x (by simp [hx])).2⟩⟩
theorem RV {sig:Int->Option Int}:∀{D:List Int},(∀d∈D,∃s,sig d=some s)->nQ sig D (D.map λv=>(sig v).getD 0)=true
 | [],_=>rfl
 | d :: r,h=>by
  obtain ⟨s,hs⟩:=h d (by simp)
  simp only [il,nQ,cf,decide_eq_true_eq]
  exact ⟨by rw [hs];rfl,RV λx hx=>h x (by simp [hx])⟩
theorem abg (x:Cell):BB x x=true:=by simp [BB]
theorem RW {I:Nat} {gs:List Gate} {sig:Int->Option Int} {f:Int->List Int}:∀{R:List Int},(∀r∈R,(cellOf I gs r (f r) sig).2=0)->mq I gs sig (R.map λr=>(cellOf I gs r (f r) sig).1) R (R.map f)=true
 | [],_=>rfl
 | r :: rs,h=>by
  simp only [il,mq,cf,decide_eq_true_eq]
  exact ⟨⟨h r (by simp),abg _⟩,RW λx hx=>h x (by simp [hx])⟩
theorem LX {I:Nat} {R:List Int} {v:Int} (h:(0<=v/\v < 2+I)\/v∈R):∃s,fD I R v=some s:=by
 unfold fD
 split
 ·exact ⟨_,rfl⟩
 ·rename_i hn
  rcases h with h|h
  ·exact absurd h hn
  ·cases hq:R.findIdx? (λx=>decide (x=v)) with
   | some i=>exact ⟨_,rfl⟩
   | none =>
    rw [Bg] at hq
    have:=hq v h
    simp at this
theorem acf {I:Nat} {gs:List Gate} (G:cv I gs) {i:Nat} {g:Gate} (hg:gs[i]?=some g) (h7:g.op≠7) {l:List Int} (a1:fY l) (a2:l.length<=4) (a3:∀x∈l,2<=x/\x < 2+(I:Int)+i)
  (a4:lC I gs (cI g) (·∈l)) (a5:∀S:List Int,S.length<=4->lC I gs (cI g) (·∈S)->dt S l=true->dt l S=true):(gV I gs (2+(I:Int)+i) l).isSome=true:=by
 rw [RT G]
 have hr:(2+(I:Int)+i).toNat=2+I+i:=by omega
 have hi:=(bq.1 hg).1
 refine ⟨⟨by omega,by omega,a2,λx hx=>by have:=a3 x hx;omega,a1⟩,.gate hg h7 a4,?_⟩
 rw [hr]
 classical
 have hS:∀x∈l.filter (λx=>decide (gy I gs l (2+I+i) x.toNat)),x∈l:=λx hx=>(k9.1 hx).1
 have main:∀v:Int,gC I gs (·∈l) v->0<=v->gy I gs l (2+I+i) v.toNat->gC I gs (·∈l.filter λx=>decide (gy I gs l (2+I+i) x.toNat)) v:=by
  intro v h
  induction h with
  | mem h1=>exact λ_ hr=>.mem (k9.2 ⟨h1,by simpa using hr⟩)
  | const h1 h2=>exact λ_ _=>.const h1 h2
  | @gate j g' h1 h2 h3 ih =>
   intro _ hr
   by_cases hm:2+(I:Int)+j∈l
   ·exact .mem (k9.2 ⟨hm,by simpa using hr⟩)
   ·refine .gate h1 h2 λo ho=>ih o ho (G.ops h1 o ho).1 ?_
    refine .step hr (qH.2 ⟨?_,g',pH.2 ⟨j,by omega,h1⟩,h2,ho⟩)
    rw [show (((2+(I:Int)+j).toNat:Nat):Int)=2+(I:Int)+j by omega]
    exact hm
 have EI:=a5 _ (mV (Dl _ _) a2) (λo ho=>main o (a4 o ho) (G.ops hg o ho).1 (.step (.base rfl) (qH.2 ⟨λhm=>by have:=a3 _ hm;omega,g,pH.2 ⟨i,rfl,hg⟩,h7,ho⟩))) (pN.2 hS)
 intro x hx
 have:=(k9.1 (pN.1 EI x hx)).2
 simpa using this
theorem Uy {I:Nat} {gs:List Gate} {s:dJ} (h:ly I gs s) {r:Int} (h1:2+(I:Int)<=r) (h2:r < 2+I+gs.length) :
  ∃(i:Nat) (g:Gate),r=2+(I:Int)+i/\gs[i]?=some g/\s.leaves[2+I+i]?=some (iM s r):=by
 have hi:r.toNat - 2 - I < gs.length:=by omega
 refine ⟨r.toNat - 2 - I,_,by omega,eB hi,?_⟩
 unfold iM
 rw [show 2+I+(r.toNat - 2 - I)=r.toNat by omega,List.getD_eq_getElem?_getD,eB (by rw [h.ni];omega)]
 rfl
theorem adm {I:Nat} {gs:List Gate} (G:cv I gs) {s:dJ} (h:ly I gs s) {sig:Int->Option Int} {r:Int} (h1:2+(I:Int)<=r) (h2:r < 2+I+gs.length) (aik:∀x∈iM s r,∃y,sig x=some y) :
  (cellOf I gs r (iM s r) sig).2=0:=by
 obtain ⟨i,g,rfl,hg,hl⟩:=Uy h h1 h2
 have hr:(2+(I:Int)+i).toNat=2+I+i:=by omega
 have Ar:fV I gs (2+(I:Int)+i).toNat=some g:=by rw [hr];exact pH.2 ⟨i,rfl,hg⟩
 have k:=h.lf i _ g hl hg
 unfold cellOf
 rw [GV aik]
 simp only [if_true,Ar]
 split
 ·rename_i h7
  rw [if_pos h7] at k
  simp only
  rw [if_pos k]
 ·rename_i h7
  rw [if_neg h7] at k
  obtain ⟨a1,a2,a3,a4,a5,_⟩:=k
  split
  ·rename_i e
   have:=a3 (2+(I:Int)+i) (by rw [e];simp)
   omega
  ·have hc:=acf G hg h7 a1 a2 a3 a4 a5
   unfold qN
   cases hq:gV I gs (2+(I:Int)+i) (iM s (2+(I:Int)+i)) with
   | none=>rw [hq] at hc;cases hc
   | some l=>rfl
theorem aet {I:Nat} {gs:List Gate} (G:cv I gs) {s:dJ} (h:ly I gs s) {r:Int} (h1:2+(I:Int)<=r) (h2:r < 2+I+gs.length):∀x∈iM s r,0<=x/\x < r:=by
 obtain ⟨i,g,rfl,hg,hl⟩:=Uy h h1 h2
 have k:=h.lf i _ g hl hg
 intro x hx
 split at k
 ·rw [k] at hx;have:=G.ops hg x hx;omega
 ·have:=k.2.2.1 x hx;omega
theorem afp {I:Nat} {gs:List Gate} (G:cv I gs) {s:dJ} (h:ly I gs s) {bf:List Int} (hd:∀d∈bf,0<=d/\d < 2+I+gs.length) :
  BC I gs bf (lq I gs s bf).1 (lq I gs s bf).2=true:=by
 obtain ⟨r1,r2,r3,r4,r5⟩:=KM G h hd
 unfold BC lq
 simp only [cf,decide_eq_true_eq,kr]
 refine ⟨⟨⟨⟨trivial,trivial⟩,trivial⟩,trivial⟩,RU r1 λr hr=>by have:=r2 r hr;omega,RW λr hr=>?_,RV λd l5=>?_⟩
 ·have hb:=r2 r hr
  refine adm G h hb.1 hb.2 λx hx=>LX ?_
  have:=aet G h hb.1 hb.2 x hx
  by_cases om:x < 2+(I:Int)
  ·exact .inl ⟨this.1,om⟩
  ·exact .inr (r4 r hr x hx (by omega))
 ·refine LX ?_
  have:=hd d l5
  by_cases om:d < 2+(I:Int)
  ·exact .inl ⟨this.1,om⟩
  ·exact .inr (r3 d l5 (by omega))
theorem GL {I:Nat} {gs hs:List Gate} {v:Nat} (h:v < 2+I+gs.length):fV I (gs++hs) v=fV I gs v:=by
 unfold fV
 split
 ·rfl
 ·rw [iu (by omega)]
theorem Rr {nx Zn:Nat->List Int}:∀(n:Nat) (nd:List Bool),(∀v,v < n->nx v=Zn v)->vU nx n nd=vU Zn n nd
 | 0,nd,_=>rfl
 | n+1,nd,h=>by
  unfold vU
  rw [h n (Lq n),Rr n _ λv hv=>h v (Nat.lt_succ_of_lt hv)]
theorem adn {I:Nat} {gs hs:List Gate} {S:List Int} {v:Nat} (h:v < 2+I+gs.length):pw I (gs++hs) S v=pw I gs S v:=by unfold pw;rw [GL h]
theorem abH {I:Nat} {gs hs:List Gate} {S:List Int} {root:Int} (h0:0<=root) (h:root < 2+I+gs.length):gV I (gs++hs) root S=gV I gs root S:=by
 have hr:root.toNat < 2+I+gs.length:=by omega
 have e1:nP (2+I+(gs++hs).length) root S=nP (2+I+gs.length) root S:=by
  unfold nP
  congr 3
  rw [decide_eq_decide]
  simp only [fJ];omega
 have e2:rO I (gs++hs) root.toNat S=rO I gs root.toNat S:=by
  unfold rO
  exact Rr _ _ λv hv=>adn (by omega)
 have e3:(List.range (root.toNat+1)).all (λv=>!(rO I gs root.toNat S).getD v false||oI I (gs++hs) S v)=(List.range (root.toNat+1)).all (λv=>!(rO I gs root.toNat S).getD v false||oI I gs S v):=by
  have:∀v∈List.range (root.toNat+1),oI I (gs++hs) S v=oI I gs S v:=λv hv=>by
   have:=lR.1 hv
   unfold oI;rw [GL (by omega)]
  rw [Bool.eq_iff_iff,gK,gK]
  exact ⟨λh v hv=>by rw [<-this v hv];exact h v hv,λh v hv=>by rw [this v hv];exact h v hv⟩
 unfold gV
 rw [e1,e2]
 simp only
 rw [e3]
theorem RX {I:Nat} {gs hs:List Gate} {S:List Int}:∀{n:Nat},n<=2+I+gs.length->rV I (gs++hs) S n=rV I gs S n
 | 0,_=>rfl
 | n+1,h=>by
  show rV I (gs++hs) S n++[_]=rV I gs S n++[_]
  rw [RX (n:=n) (by omega)]
  unfold zD
  rw [GL (by omega)]
theorem acg {I:Nat} {gs hs:List Gate} {S:List Int} {root:Int} (h0:0<=root) (h:root < 2+I+gs.length):qN I (gs++hs) root S=qN I gs root S:=by
 unfold qN zn kC
 rw [abH h0 h,RX (by omega)]
theorem abh {I:Nat} {gs hs:List Gate} {S:List Int} {root:Int} {sig:Int->Option Int} (h0:0<=root) (h:root < 2+I+gs.length):cellOf I (gs++hs) root S sig=cellOf I gs root S sig:=by
 unfold cellOf
 rw [acg h0 h,GL (by omega)]
theorem abi {s s':dJ} {g:Gate} (h:rN s g=some s'):∃a b c,s'=⟨s.labels++[a],s.e6++[b],s.leaves++[c]⟩:=by
 unfold rN at h
 simp only at h
 split at h
 ·cases h;exact ⟨_,_,_,rfl⟩
 ·split at h
  ·cases h
  ·split at h
   ·cases h
   ·cases h;exact ⟨_,_,_,rfl⟩
theorem Rt {I:Nat} {gs:List Gate} {s:dJ} (h:ly I gs s) {a:Int} {b:List (List Int)} {c:List Int} {v:Int} (hv:v < 2+I+gs.length):iM ⟨s.labels++[a],s.e6++[b],s.leaves++[c]⟩ v=iM s v:=by
 unfold iM
 rw [List.getD_eq_getElem?_getD,iu (by rw [h.ni];omega),<-List.getD_eq_getElem?_getD]
theorem ach {I:Nat} {gs:List Gate} {g:Gate} (G:cv I (gs++[g])) {bf:List Int} (hd:∀d∈bf,0<=d/\d < 2+I+gs.length) (h:(mapM I (gs++[g]) bf).2.2=0):mapM I (gs++[g]) bf=mapM I gs bf:=by
 unfold mapM at h ⊢
 cases h1:iF I (gs++[g]) with
 | none=>rw [h1] at h;cases h
 | some s' =>
  have L':=Bu _ rfl G h1
  rw [DV] at h1
  cases h2:iF I gs with
  | none=>rw [h2] at h1;cases h1
  | some s =>
   rw [h2] at h1
   have L:=Bu _ rfl G.left h2
   obtain ⟨a,b,c,rfl⟩:=abi h1
   simp only
   have iH:∀d∈bf,0<=d/\d < 2+I+(gs++[g]).length:=λd l5=>by have:=hd d l5;simp;omega
   have aQ:∀v,l4 (iA I s) (λu=>∃d∈bf,d.toNat=u) v->v < 2+I+gs.length:=λv hv=>by
    induction hv with
    | base h=>obtain ⟨d,l5,rfl⟩:=h;have:=hd d l5;omega
    | step _ hx ih=>have:=HV G.left L _ _ hx;omega
   have wB:∀v,v < 2+I+gs.length->iA I ⟨s.labels++[a],s.e6++[b],s.leaves++[c]⟩ v=iA I s v:=λv hv=>by
    unfold iA
    rw [List.getD_eq_getElem?_getD,iu (by rw [L.ni];omega),<-List.getD_eq_getElem?_getD]
   have hR:gk I ⟨s.labels++[a],s.e6++[b],s.leaves++[c]⟩ bf=gk I s bf:=by
    refine (GX _ _ _).ext (GX _ _ _) λx=>?_
    have key:∀v:Nat,(v:Int)∈gk I ⟨s.labels++[a],s.e6++[b],s.leaves++[c]⟩ bf↔(v:Int)∈gk I s bf:=λv=>by
     rw [GW G L' iH,GW G.left L hd]
     have hR:l4 (iA I ⟨s.labels++[a],s.e6++[b],s.leaves++[c]⟩) (λu=>∃d∈bf,d.toNat=u) v↔l4 (iA I s) (λu=>∃d∈bf,d.toNat=u) v:=by
      constructor
      ·intro h
       induction h with
       | base h=>exact .base h
       | step _ hx ih=>rw [wB _ (aQ _ ih)] at hx;exact .step ih hx
      ·intro h
       induction h with
       | base h=>exact .base h
       | step hu hx ih=>exact .step ih (by rw [wB _ (aQ _ hu)];exact hx)
     rw [hR]
     constructor
     ·rintro ⟨a,_,c⟩;exact ⟨a,aQ v c,c⟩
     ·rintro ⟨a,b,c⟩;exact ⟨a,by simp;omega,c⟩
    constructor
    ·intro h;rw [<-AZ h];exact (key _).1 (by rw [AZ h];exact h)
    ·intro h;rw [<-AZ h];exact (key _).2 (by rw [AZ h];exact h)
   have hb:=(KM G.left L hd).2.1
   unfold lq
   simp only [hR]
   have e1:(gk I s bf).map (iM ⟨s.labels++[a],s.e6++[b],s.leaves++[c]⟩)=(gk I s bf).map (iM s):=pK λr hr=>Rt L (hb r hr).2
   have e2:(gk I s bf).map (λr=>(cellOf I (gs++[g]) r (iM ⟨s.labels++[a],s.e6++[b],s.leaves++[c]⟩ r) (fD I (gk I s bf))).1)=(gk I s bf).map λr=>(cellOf I gs r (iM s r) (fD I (gk I s bf))).1 :=
    pK λr hr=>by rw [Rt L (hb r hr).2,abh (by have:=hb r hr;omega) (hb r hr).2]
   rw [e1,e2]
end Go.Proofs.Pk
